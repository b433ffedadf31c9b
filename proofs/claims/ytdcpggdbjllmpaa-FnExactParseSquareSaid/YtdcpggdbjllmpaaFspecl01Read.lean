/- What the Go function spec.l01Read does, shown of its loaded text; its conditions stand in the statement. -/
import Derived.Test.YtdcpggdbjllmpaaTy
import Derived.Test.YtdcpggdbjllmpaaFspecl01Is
import Derived.Test.YtdcpggdbjllmpaaFspecl01Split
import Derived.Test.YtdcpggdbjllmpaaGx12
import Derived.Test.YtdcpggdbjllmpaaGx14
import Derived.Test.YtdcpggdbjllmpaaGx27
import Derived.Test.YtdcpggdbjllmpaaGx31
import Derived.Test.YtdcpggdbjllmpaaM39
namespace Go.Proofs.Ytdcpggdbjllmpaa
open Go Gx
set_option linter.unusedVariables false
theorem en_spec_l01Read : Enters Try.prog 51 := enters_of Try.func51 (by kernel_rfl) (by kernel_rfl)
set_option maxRecDepth 100000 in
set_option maxHeartbeats 1000000 in
theorem w_spec_l01Read {s : List (Fin 256)} (hs : s.length ≤ 1048576) : CT (X := Int × (Nat → Fin 256)) Try.prog 51 (vals [.raw (.string (strB s)) rfl]) [] [] (fun x => psB s = true → TxOk s x) (fun x => .tup [.agg [.int .i64 x.1, .arr8 100 x.2], .bool (psB s)]) (fun x => []) := by
  refine CT_intro (rs := [.cell 2 45, .tmp 3]) tt tok Try.func51 rfl rfl rfl (by first | rfl | assumption) fun w => ?_
  show W _ _ _ ⟨tmOf 0 [.raw (.string (strB s)) rfl], []⟩
  have hsl := spS_len (s := s)
  refine W_seq ?_
  refine W_region ?_
  refine Ops_x rfl (x_alloc rfl (lt_dec rfl) fun b2_1 => ?_)
  refine Ops_p (p_assign rfl) (lt_dec rfl) ?_
  refine Ops_nil ?_
  refine W_seq ?_
  refine W_region ?_
  refine Ops_p (p_move rfl) (lt_dec rfl) ?_
  refine Ops_x rfl (x_callRow en_spec_l01Split rfl (w_spec_l01Split (by first | assumption | (first | omega | (dsimp only; omega)) | (simp; done) | decide)) (View.none _) (strsR_len _) (lt_dec rfl) fun b10_1 cb10_1 => ?_)
  refine Ops_p (p_assign rfl) (lt_dec rfl) ?_
  refine Ops_nil ?_
  refine W_seq ?_
  refine W_region ?_
  refine Ops_p (p_move rfl) (lt_dec rfl) ?_
  refine Ops_p (p_len rfl rfl rfl) (lt_dec rfl) ?_
  refine Ops_p (p_assign rfl) (lt_dec rfl) ?_
  refine Ops_nil ?_
  refine W_seq ?_
  refine W_seq ?_
  refine W_region ?_
  refine Ops_p (p_move rfl) (lt_dec rfl) ?_
  refine Ops_p (p_gtr rfl rfl) (lt_dec rfl) ?_
  refine Ops_nil ?_
  refine W_cond rfl (fun h1 => ?_) (fun h1 => ?_)
  · try simp only [bs] at h1
    have hpb := (spS_spl s).many (by omega)
    refine W_seq ?_
    refine W_region ?_
    refine Ops_p (p_build rfl rfl rfl rfl (by first | exact True.intro | trivial | (first | omega | (dsimp only; omega)) | exact Fin.isLt _ | (dsimp only; omega))) (lt_dec rfl) ?_
    refine Ops_x rfl (x_store rfl rfl rfl rfl rfl ((HpRep.head).tail) rfl (by first | trivial | (first | (first | omega | (dsimp only; omega)) | exact Fin.isLt _)) ?_)
    refine Ops_p (p_assign rfl) (lt_dec rfl) ?_
    refine Ops_nil ?_
    refine W_ret ?_
    refine Exists.intro _ (And.intro (.cons (.cell rfl rfl m1 rfl trivial) (.cons (.tmp rfl) .nil)) (Exists.intro ((0 : Int), fun _ => (0 : Fin 256)) (And.intro ?_ (And.intro ?_ (And.intro .nil rfl)))))
    · first | exact fun h => absurd (h.symm.trans hpb) (by decide) | exact fun h => absurd (h.symm.trans ((spS_spl s).digit (x := i) (y := j) (by omega) (by omega) (by omega))) (by decide)
    · first | (rw [hpb]; rfl) | (rw [(spS_spl s).digit (x := i) (y := j) (by omega) (by omega) (by omega)]; rfl)
  · try simp only [bs] at h1
    refine W_skip ?_
    refine W_seq ?_
    refine W_region ?_
    refine Ops_p (p_move rfl) (lt_dec rfl) ?_
    refine Ops_p (p_build rfl rfl rfl rfl (by first | exact True.intro | trivial | (first | omega | (dsimp only; omega)) | exact Fin.isLt _ | (dsimp only; omega))) (lt_dec rfl) ?_
    refine Ops_x rfl (x_alloc rfl (lt_dec rfl) fun b6_1 => ?_)
    refine Ops_x rfl (x_store rfl rfl rfl rfl rfl HpRep.head rfl (by first | trivial | (first | (first | omega | (dsimp only; omega)) | exact Fin.isLt _)) ?_)
    refine Ops_nil ?_
    refine W_seq ?_
    refine W_seq ?_
    refine W_region ?_
    refine Ops_p (p_assign rfl) (lt_dec rfl) ?_
    refine Ops_nil ?_
    refine W_block ?_
    refine W_loop (α := Nat) (fun i => ⟨[(0, .raw (.string (strB s)) rfl), (2, .ptr b2_1 0 none), (4, .sl b10_1 0 (List.length (spS s)) cb10_1), (5, .int .i64 ((List.length (spS s)) : Int)), (6, .ptr b6_1 0 none), (7, .int .i64 (i : Int)), (9, .raw (.string (strB s)) rfl), (10, .sl b10_1 0 (List.length (spS s)) cb10_1), (11, .sl b10_1 0 (List.length (spS s)) cb10_1), (12, .int .i64 ((List.length (spS s)) : Int)), (13, .int .i64 ((List.length (spS s)) : Int)), (16, .int .i64 ((List.length (spS s)) : Int)), (17, .agg [.int .i64 ((List.length (spS s)) : Int), .arr8 100 (fun _ => 0)])], [.var b6_1 (.agg [.int .i64 (((List.length (spS s)) : Nat) : Int), .arr8 100 (spT (spS s) i 0)]), .row b10_1 cb10_1 9 (strsR (spS s)), .var b2_1 (.agg [.int .i64 0, .arr8 100 fun _ => 0])]⟩) (fun i => i ≤ (List.length (spS s)) ∧ ∀ x, x < i → (List.getD (spS s) x []).length = (List.length (spS s)) ∧ ∀ y, y < (List.length (spS s)) → 48 ≤ ((List.getD (spS s) x []).getD y 0).val ∧ ((List.getD (spS s) x []).getD y 0).val ≤ 57) (fun i => (List.length (spS s)) - i) 0 ?_ ?_ ?_
    · exact ⟨by omega, fun x h => by omega⟩
    · exact Wk.intro (.cons rfl (by first | rfl | exact veq_int (by first | omega | (dsimp only; omega))) (.cons rfl (by first | rfl | exact veq_int (by first | omega | (dsimp only; omega))) (.cons rfl (by first | rfl | exact veq_int (by first | omega | (dsimp only; omega))) (.cons rfl (by first | rfl | exact veq_int (by first | omega | (dsimp only; omega))) (.cons rfl (by first | rfl | exact veq_int (by first | omega | (dsimp only; omega))) (.cons rfl (by first | rfl | exact veq_int (by first | omega | (dsimp only; omega))) (.cons rfl (by first | rfl | exact veq_int (by first | omega | (dsimp only; omega))) (.cons rfl (by first | rfl | exact veq_int (by first | omega | (dsimp only; omega))) (.cons rfl (by first | rfl | exact veq_int (by first | omega | (dsimp only; omega))) (.cons rfl (by first | rfl | exact veq_int (by first | omega | (dsimp only; omega))) (.cons rfl (by first | rfl | exact veq_int (by first | omega | (dsimp only; omega))) (.cons rfl (by first | rfl | exact veq_int (by first | omega | (dsimp only; omega))) (.cons rfl (by first | rfl | exact veq_int (by first | omega | (dsimp only; omega))) .nil))))))))))))) (.keep rfl rfl (imp_var (by exact ceq_cons rfl (ceq_cons (ceq_arr8 fun k _ => (part_zero k).symm) rfl)) rfl) (.keep rfl rfl (fun _ h => h) (.keep rfl rfl (fun _ h => h) .nil)))
    · rintro i ⟨hi, hR⟩
      refine W_seq ?_
      refine W_seq ?_
      refine W_region ?_
      refine Ops_p (p_move rfl) (lt_dec rfl) ?_
      refine Ops_p (p_move rfl) (lt_dec rfl) ?_
      refine Ops_p (p_lss rfl rfl) (lt_dec rfl) ?_
      refine Ops_nil ?_
      refine W_cond rfl (fun h2 => ?_) (fun h2 => ?_)
      · try simp only [bs] at h2
        refine W_skip ?_
        refine W_seq ?_
        refine W_block ?_
        refine W_seq ?_
        refine W_seq ?_
        refine W_region ?_
        refine Ops_p (p_move rfl) (lt_dec rfl) ?_
        refine Ops_p (p_move rfl) (lt_dec rfl) ?_
        refine Ops_p (p_ixl1 _ rfl rfl rfl rfl rfl rfl (by first | (first | omega | (dsimp only; omega)) | exact Fin.isLt _)) (lt_dec rfl) ?_
        refine Ops_q (q_load_str (S := (spS s)) (j := i) rfl rfl m1 rfl (by first | omega | (dsimp only; omega)) rfl rfl) (lt_dec rfl) ?_
        refine Ops_p (p_len_B rfl rfl rfl) (lt_dec rfl) ?_
        refine Ops_p (p_move rfl) (lt_dec rfl) ?_
        refine Ops_p (p_neq rfl rfl) (lt_dec rfl) ?_
        refine Ops_nil ?_
        refine W_cond rfl (fun h3 => ?_) (fun h3 => ?_)
        · try simp only [bs] at h3
          have hpb := (spS_spl s).long (x := i) (by omega) (by omega)
          refine W_seq ?_
          refine W_region ?_
          refine Ops_p (p_build rfl rfl rfl rfl (by first | exact True.intro | trivial | (first | omega | (dsimp only; omega)) | exact Fin.isLt _ | (dsimp only; omega))) (lt_dec rfl) ?_
          refine Ops_x rfl (x_store rfl rfl rfl rfl rfl (((HpRep.head).tail).tail) rfl (by first | trivial | (first | (first | omega | (dsimp only; omega)) | exact Fin.isLt _)) ?_)
          refine Ops_p (p_assign rfl) (lt_dec rfl) ?_
          refine Ops_nil ?_
          refine W_ret ?_
          refine Exists.intro _ (And.intro (.cons (.cell rfl rfl m2 rfl trivial) (.cons (.tmp rfl) .nil)) (Exists.intro ((0 : Int), fun _ => (0 : Fin 256)) (And.intro ?_ (And.intro ?_ (And.intro .nil rfl)))))
          · first | exact fun h => absurd (h.symm.trans hpb) (by decide) | exact fun h => absurd (h.symm.trans ((spS_spl s).digit (x := i) (y := j) (by omega) (by omega) (by omega))) (by decide)
          · first | (rw [hpb]; rfl) | (rw [(spS_spl s).digit (x := i) (y := j) (by omega) (by omega) (by omega)]; rfl)
        · try simp only [bs] at h3
          have hli : (List.getD (spS s) i []).length = (List.length (spS s)) := (by omega)
          refine W_skip ?_
          refine W_seq ?_
          refine W_region ?_
          refine Ops_p (p_assign rfl) (lt_dec rfl) ?_
          refine Ops_nil ?_
          refine W_block ?_
          refine W_loop (α := Nat) (fun j => ⟨[(0, .raw (.string (strB s)) rfl), (2, .ptr b2_1 0 none), (4, .sl b10_1 0 (List.length (spS s)) cb10_1), (5, .int .i64 ((List.length (spS s)) : Int)), (6, .ptr b6_1 0 none), (7, .int .i64 (i : Int)), (8, .int .i64 (j : Int)), (9, .raw (.string (strB s)) rfl), (10, .sl b10_1 0 (List.length (spS s)) cb10_1), (11, .sl b10_1 0 (List.length (spS s)) cb10_1), (12, .int .i64 ((List.length (spS s)) : Int)), (13, .int .i64 ((List.length (spS s)) : Int)), (16, .int .i64 ((List.length (spS s)) : Int)), (17, .agg [.int .i64 ((List.length (spS s)) : Int), .arr8 100 (fun _ => 0)]), (18, .int .i64 (i : Int)), (19, .int .i64 ((List.length (spS s)) : Int)), (23, .sl b10_1 0 (List.length (spS s)) cb10_1), (24, .int .i64 (i : Int)), (26, .raw (.string (strB (List.getD (spS s) i []))) rfl), (27, .int .i64 (((List.getD (spS s) i []).length : Nat) : Int)), (28, .int .i64 ((List.length (spS s)) : Int))], [.var b6_1 (.agg [.int .i64 (((List.length (spS s)) : Nat) : Int), .arr8 100 (spT (spS s) i j)]), .row b10_1 cb10_1 9 (strsR (spS s)), .var b2_1 (.agg [.int .i64 0, .arr8 100 fun _ => 0])]⟩) (fun j => j ≤ (List.length (spS s)) ∧ ∀ y, y < j → 48 ≤ ((List.getD (spS s) i []).getD y 0).val ∧ ((List.getD (spS s) i []).getD y 0).val ≤ 57) (fun j => (List.length (spS s)) - j) 0 ?_ ?_ ?_
          · exact ⟨by omega, fun x h => by omega⟩
          · exact Wk.intro (.cons rfl (by first | rfl | exact veq_int (by first | omega | (dsimp only; omega))) (.cons rfl (by first | rfl | exact veq_int (by first | omega | (dsimp only; omega))) (.cons rfl (by first | rfl | exact veq_int (by first | omega | (dsimp only; omega))) (.cons rfl (by first | rfl | exact veq_int (by first | omega | (dsimp only; omega))) (.cons rfl (by first | rfl | exact veq_int (by first | omega | (dsimp only; omega))) (.cons rfl (by first | rfl | exact veq_int (by first | omega | (dsimp only; omega))) (.cons rfl (by first | rfl | exact veq_int (by first | omega | (dsimp only; omega))) (.cons rfl (by first | rfl | exact veq_int (by first | omega | (dsimp only; omega))) (.cons rfl (by first | rfl | exact veq_int (by first | omega | (dsimp only; omega))) (.cons rfl (by first | rfl | exact veq_int (by first | omega | (dsimp only; omega))) (.cons rfl (by first | rfl | exact veq_int (by first | omega | (dsimp only; omega))) (.cons rfl (by first | rfl | exact veq_int (by first | omega | (dsimp only; omega))) (.cons rfl (by first | rfl | exact veq_int (by first | omega | (dsimp only; omega))) (.cons rfl (by first | rfl | exact veq_int (by first | omega | (dsimp only; omega))) (.cons rfl (by first | rfl | exact veq_int (by first | omega | (dsimp only; omega))) (.cons rfl (by first | rfl | exact veq_int (by first | omega | (dsimp only; omega))) (.cons rfl (by first | rfl | exact veq_int (by first | omega | (dsimp only; omega))) (.cons rfl (by first | rfl | exact veq_int (by first | omega | (dsimp only; omega))) (.cons rfl (by first | rfl | exact veq_int (by first | omega | (dsimp only; omega))) (.cons rfl (by first | rfl | exact veq_int (by first | omega | (dsimp only; omega))) (.cons rfl (by first | rfl | exact veq_int (by first | omega | (dsimp only; omega))) .nil))))))))))))))))))))) (.keep rfl rfl (imp_var (by rfl) rfl) (.keep rfl rfl (fun _ h => h) (.keep rfl rfl (fun _ h => h) .nil)))
          · rintro j ⟨hj, hR2⟩
            refine W_seq ?_
            refine W_seq ?_
            refine W_region ?_
            refine Ops_p (p_move rfl) (lt_dec rfl) ?_
            refine Ops_p (p_move rfl) (lt_dec rfl) ?_
            refine Ops_p (p_lss rfl rfl) (lt_dec rfl) ?_
            refine Ops_nil ?_
            refine W_cond rfl (fun h4 => ?_) (fun h4 => ?_)
            · try simp only [bs] at h4
              refine W_skip ?_
              refine W_seq ?_
              refine W_block ?_
              refine W_seq ?_
              refine W_seq ?_
              refine W_region ?_
              refine Ops_p (p_move rfl) (lt_dec rfl) ?_
              refine Ops_p (p_move rfl) (lt_dec rfl) ?_
              refine Ops_p (p_ixl1 _ rfl rfl rfl rfl rfl rfl (by first | (first | omega | (dsimp only; omega)) | exact Fin.isLt _)) (lt_dec rfl) ?_
              refine Ops_q (q_load_str (S := (spS s)) (j := i) rfl rfl m1 rfl (by first | omega | (dsimp only; omega)) rfl rfl) (lt_dec rfl) ?_
              refine Ops_p (p_move rfl) (lt_dec rfl) ?_
              refine Ops_p ((p_index_s j rfl rfl rfl rfl (by omega))) (lt_dec rfl) ?_
              refine Ops_p (p_lss rfl rfl) (lt_dec rfl) ?_
              refine Ops_p (p_move rfl) (lt_dec rfl) ?_
              refine Ops_guard rfl rfl (lt_dec rfl) (fun hg1 => ?_) (fun hg1 => ?_)
              · try simp only [bs] at hg1
                refine Ops_p (p_move rfl) (lt_dec rfl) ?_
                refine Ops_guard_t rfl rfl (lt_dec rfl) ?_
                refine Ops_p (p_move rfl) (lt_dec rfl) ?_
                refine Ops_guard_t rfl rfl (lt_dec rfl) ?_
                refine Ops_p (p_ixl1 _ rfl rfl rfl rfl rfl rfl (by first | (first | omega | (dsimp only; omega)) | exact Fin.isLt _)) (lt_dec rfl) ?_
                refine Ops_guard_t rfl rfl (lt_dec rfl) ?_
                refine Ops_q (q_load_str (S := (spS s)) (j := i) rfl rfl m1 rfl (by first | omega | (dsimp only; omega)) rfl rfl) (lt_dec rfl) ?_
                refine Ops_guard_t rfl rfl (lt_dec rfl) ?_
                refine Ops_p (p_move rfl) (lt_dec rfl) ?_
                refine Ops_guard_t rfl rfl (lt_dec rfl) ?_
                refine Ops_p ((p_index_s j rfl rfl rfl rfl (by omega))) (lt_dec rfl) ?_
                refine Ops_guard_t rfl rfl (lt_dec rfl) ?_
                refine Ops_p (p_gtr rfl rfl) (lt_dec rfl) ?_
                refine Ops_p (p_pick_f rfl rfl) (lt_dec rfl) ?_
                refine Ops_nil ?_
                refine W_cond rfl (fun h5 => ?_) (fun h5 => ?_)
                · try simp only [bs] at h5
                  have hpb := (spS_spl s).digit (x := i) (y := j) (by omega) (by omega) (by omega)
                  refine W_seq ?_
                  refine W_region ?_
                  refine Ops_p (p_build rfl rfl rfl rfl (by first | exact True.intro | trivial | (first | omega | (dsimp only; omega)) | exact Fin.isLt _ | (dsimp only; omega))) (lt_dec rfl) ?_
                  refine Ops_x rfl (x_store rfl rfl rfl rfl rfl (((HpRep.head).tail).tail) rfl (by first | trivial | (first | (first | omega | (dsimp only; omega)) | exact Fin.isLt _)) ?_)
                  refine Ops_p (p_assign rfl) (lt_dec rfl) ?_
                  refine Ops_nil ?_
                  refine W_ret ?_
                  refine Exists.intro _ (And.intro (.cons (.cell rfl rfl m2 rfl trivial) (.cons (.tmp rfl) .nil)) (Exists.intro ((0 : Int), fun _ => (0 : Fin 256)) (And.intro ?_ (And.intro ?_ (And.intro .nil rfl)))))
                  · first | exact fun h => absurd (h.symm.trans hpb) (by decide) | exact fun h => absurd (h.symm.trans ((spS_spl s).digit (x := i) (y := j) (by omega) (by omega) (by omega))) (by decide)
                  · first | (rw [hpb]; rfl) | (rw [(spS_spl s).digit (x := i) (y := j) (by omega) (by omega) (by omega)]; rfl)
                · try simp only [bs] at h5
                  have hdg : 48 ≤ ((List.getD (spS s) i []).getD j 0).val ∧ ((List.getD (spS s) i []).getD j 0).val ≤ 57 := (by omega)
                  refine W_skip ?_
                  refine W_draw (by kernel_rfl) ?_
                  show RA _ _ 13 _ _ _
                  refine RA_quiet (g := 1) [0, 1, 2, 3, 4, 5, 6, 7, 8, 9, 10, 11] (by kernel_rfl) (by kernel_rfl) (by kernel_rfl) (by kernel_rfl) ?_
                  refine WQ_cons rfl rfl rfl ((p_move rfl).q) (lt_dec rfl) ?_
                  refine WQ_cons rfl rfl rfl ((p_move rfl).q) (lt_dec rfl) ?_
                  refine WQ_cons rfl rfl rfl ((p_move rfl).q) (lt_dec rfl) ?_
                  refine WQ_cons rfl rfl rfl ((p_move rfl).q) (lt_dec rfl) ?_
                  refine WQ_cons rfl rfl rfl ((p_ixl1 _ rfl rfl rfl rfl rfl rfl (by first | (first | omega | (dsimp only; omega)) | exact Fin.isLt _)).q) (lt_dec rfl) ?_
                  refine WQ_cons rfl rfl rfl ((q_load_str (S := (spS s)) (j := i) rfl rfl m1 rfl (by first | omega | (dsimp only; omega)) rfl rfl)) (lt_dec rfl) ?_
                  refine WQ_cons rfl rfl rfl ((p_move rfl).q) (lt_dec rfl) ?_
                  refine WQ_cons rfl rfl rfl (((p_index_s j rfl rfl rfl rfl (by omega))).q) (lt_dec rfl) ?_
                  refine WQ_cons rfl rfl rfl (((p_sub_w rfl rfl).eq (d' := .u8 (sub48 ((List.getD (spS s) i []).getD j 0))) veq_sub48).q) (lt_dec rfl) ?_
                  refine WQ_cons rfl rfl rfl ((p_fieldAddr rfl rfl rfl rfl rfl rfl).q) (lt_dec rfl) ?_
                  refine WQ_cons rfl rfl rfl ((p_ixN 10 _ rfl rfl rfl rfl rfl rfl (by first | (first | omega | (dsimp only; omega)) | exact Fin.isLt _)).q) (lt_dec rfl) ?_
                  first | refine WQ_cons rfl rfl rfl ((p_ix1 _ rfl rfl rfl rfl rfl rfl (by first | (first | omega | (dsimp only; omega)) | exact Fin.isLt _)).q) (lt_dec rfl) ?_ | refine WQ_cons rfl rfl rfl ((p_ix1s _ rfl rfl rfl rfl rfl rfl (by first | (first | omega | (dsimp only; omega)) | exact Fin.isLt _)).q) (lt_dec rfl) ?_
                  refine WQ_nil ?_
                  refine RA_one 12 rfl rfl (by kernel_rfl) (x_store rfl rfl rfl rfl rfl HpRep.head rfl (by first | trivial | (first | (first | omega | (dsimp only; omega)) | exact Fin.isLt _)) ?_)
                  refine RA_done (by kernel_rfl) ?_
                  refine W_region ?_
                  refine Ops_p (p_move rfl) (lt_dec rfl) ?_
                  refine Ops_p (p_add rfl rfl (by exact ⟨(by first | omega | (dsimp only; omega)), (by first | omega | (dsimp only; omega))⟩)) (lt_dec rfl) ?_
                  refine Ops_p (p_assign rfl) (lt_dec rfl) ?_
                  refine Ops_nil ?_
                  refine Exists.intro (j + 1) (And.intro ?_ (And.intro ?_ ?_))
                  · exact ⟨by omega, fun y h => if e : y = j then e ▸ hdg else hR2 y (by omega)⟩
                  · show _ < _; omega
                  · exact Wk.intro (.cons rfl (by first | rfl | exact veq_int (by first | omega | (dsimp only; omega))) (.cons rfl (by first | rfl | exact veq_int (by first | omega | (dsimp only; omega))) (.cons rfl (by first | rfl | exact veq_int (by first | omega | (dsimp only; omega))) (.cons rfl (by first | rfl | exact veq_int (by first | omega | (dsimp only; omega))) (.cons rfl (by first | rfl | exact veq_int (by first | omega | (dsimp only; omega))) (.cons rfl (by first | rfl | exact veq_int (by first | omega | (dsimp only; omega))) (.cons rfl (by first | rfl | exact veq_int (by first | omega | (dsimp only; omega))) (.cons rfl (by first | rfl | exact veq_int (by first | omega | (dsimp only; omega))) (.cons rfl (by first | rfl | exact veq_int (by first | omega | (dsimp only; omega))) (.cons rfl (by first | rfl | exact veq_int (by first | omega | (dsimp only; omega))) (.cons rfl (by first | rfl | exact veq_int (by first | omega | (dsimp only; omega))) (.cons rfl (by first | rfl | exact veq_int (by first | omega | (dsimp only; omega))) (.cons rfl (by first | rfl | exact veq_int (by first | omega | (dsimp only; omega))) (.cons rfl (by first | rfl | exact veq_int (by first | omega | (dsimp only; omega))) (.cons rfl (by first | rfl | exact veq_int (by first | omega | (dsimp only; omega))) (.cons rfl (by first | rfl | exact veq_int (by first | omega | (dsimp only; omega))) (.cons rfl (by first | rfl | exact veq_int (by first | omega | (dsimp only; omega))) (.cons rfl (by first | rfl | exact veq_int (by first | omega | (dsimp only; omega))) (.cons rfl (by first | rfl | exact veq_int (by first | omega | (dsimp only; omega))) (.cons rfl (by first | rfl | exact veq_int (by first | omega | (dsimp only; omega))) (.cons rfl (by first | rfl | exact veq_int (by first | omega | (dsimp only; omega))) .nil))))))))))))))))))))) (.keep rfl rfl (imp_var (by exact ceq_cons rfl (ceq_cons (ceq_arr8 fun k _ => part_step (by omega) k) rfl)) rfl) (.keep rfl rfl (fun _ h => h) (.keep rfl rfl (fun _ h => h) .nil)))
              · try simp only [bs] at hg1
                refine Ops_guard_f rfl rfl rfl (lt_dec rfl) ?_
                refine Ops_guard_f rfl rfl rfl (lt_dec rfl) ?_
                refine Ops_guard_f rfl rfl rfl (lt_dec rfl) ?_
                refine Ops_guard_f rfl rfl rfl (lt_dec rfl) ?_
                refine Ops_guard_f rfl rfl rfl (lt_dec rfl) ?_
                refine Ops_guard_f rfl rfl rfl (lt_dec rfl) ?_
                refine Ops_p (p_pick_t rfl rfl) (lt_dec rfl) ?_
                refine Ops_nil ?_
                refine W_true rfl ?_
                refine W_seq ?_
                refine W_region ?_
                refine Ops_p (p_build rfl rfl rfl rfl (by first | exact True.intro | trivial | (first | omega | (dsimp only; omega)) | exact Fin.isLt _ | (dsimp only; omega))) (lt_dec rfl) ?_
                refine Ops_x rfl (x_store rfl rfl rfl rfl rfl (((HpRep.head).tail).tail) rfl (by first | trivial | (first | (first | omega | (dsimp only; omega)) | exact Fin.isLt _)) ?_)
                refine Ops_p (p_assign rfl) (lt_dec rfl) ?_
                refine Ops_nil ?_
                refine W_ret ?_
                refine Exists.intro _ (And.intro (.cons (.cell rfl rfl m2 rfl trivial) (.cons (.tmp rfl) .nil)) (Exists.intro ((0 : Int), fun _ => (0 : Fin 256)) (And.intro ?_ (And.intro ?_ (And.intro .nil rfl)))))
                · first | exact fun h => absurd (h.symm.trans hpb) (by decide) | exact fun h => absurd (h.symm.trans ((spS_spl s).digit (x := i) (y := j) (by omega) (by omega) (by omega))) (by decide)
                · first | (rw [hpb]; rfl) | (rw [(spS_spl s).digit (x := i) (y := j) (by omega) (by omega) (by omega)]; rfl)
            · try simp only [bs] at h4
              obtain rfl : j = (List.length (spS s)) := (by omega)
              refine W_exit ?_
              refine W_region ?_
              refine Ops_p (p_move rfl) (lt_dec rfl) ?_
              refine Ops_p (p_add rfl rfl (by exact ⟨(by first | omega | (dsimp only; omega)), (by first | omega | (dsimp only; omega))⟩)) (lt_dec rfl) ?_
              refine Ops_p (p_assign rfl) (lt_dec rfl) ?_
              refine Ops_nil ?_
              refine Exists.intro (i + 1) (And.intro ?_ (And.intro ?_ ?_))
              · exact ⟨by omega, fun x h => if e : x = i then e ▸ ⟨hli, hR2⟩ else hR x (by omega)⟩
              · show _ < _; omega
              · exact Wk.intro (.cons rfl (by first | rfl | exact veq_int (by first | omega | (dsimp only; omega))) (.cons rfl (by first | rfl | exact veq_int (by first | omega | (dsimp only; omega))) (.cons rfl (by first | rfl | exact veq_int (by first | omega | (dsimp only; omega))) (.cons rfl (by first | rfl | exact veq_int (by first | omega | (dsimp only; omega))) (.cons rfl (by first | rfl | exact veq_int (by first | omega | (dsimp only; omega))) (.cons rfl (by first | rfl | exact veq_int (by first | omega | (dsimp only; omega))) (.cons rfl (by first | rfl | exact veq_int (by first | omega | (dsimp only; omega))) (.cons rfl (by first | rfl | exact veq_int (by first | omega | (dsimp only; omega))) (.cons rfl (by first | rfl | exact veq_int (by first | omega | (dsimp only; omega))) (.cons rfl (by first | rfl | exact veq_int (by first | omega | (dsimp only; omega))) (.cons rfl (by first | rfl | exact veq_int (by first | omega | (dsimp only; omega))) (.cons rfl (by first | rfl | exact veq_int (by first | omega | (dsimp only; omega))) (.cons rfl (by first | rfl | exact veq_int (by first | omega | (dsimp only; omega))) .nil))))))))))))) (.keep rfl rfl (imp_var (by exact ceq_cons rfl (ceq_cons (ceq_arr8 fun k _ => part_row k) rfl)) rfl) (.keep rfl rfl (fun _ h => h) (.keep rfl rfl (fun _ h => h) .nil)))
      · try simp only [bs] at h2
        obtain rfl : i = (List.length (spS s)) := (by omega)
        have hsq := (spS_spl s).isSq (fun x h => (hR x h).1) (fun x y h h2 => (hR x h).2 y h2)
        refine W_exit ?_
        refine W_seq ?_
        refine W_draw (by kernel_rfl) ?_
        show RA _ _ 5 _ _ _
        refine RA_quiet (g := 2) [0, 1, 2] (by kernel_rfl) (by kernel_rfl) (by kernel_rfl) (by kernel_rfl) ?_
        refine WQ_cons rfl rfl rfl ((q_load rfl rfl m0 rfl (by first | exact True.intro | trivial | (first | omega | (dsimp only; omega)) | exact Fin.isLt _ | (dsimp only; omega)))) (lt_dec rfl) ?_
        refine WQ_cons rfl rfl rfl ((q_load rfl rfl m0 rfl (by first | exact True.intro | trivial | (first | omega | (dsimp only; omega)) | exact Fin.isLt _ | (dsimp only; omega)))) (lt_dec rfl) ?_
        refine WQ_cons rfl rfl rfl ((q_call en_spec_l01Is rfl (w_spec_l01Is) (View.none _))) (lt_dec rfl) ?_
        refine WQ_nil ?_
        refine RA_one 3 rfl rfl (by kernel_rfl) (x_store rfl rfl rfl rfl rfl (((HpRep.head).tail).tail) rfl (by first | trivial | (first | (first | omega | (dsimp only; omega)) | exact Fin.isLt _)) ?_)
        refine RA_quiet (g := 0) [4] (by kernel_rfl) (by kernel_rfl) (by kernel_rfl) (by kernel_rfl) ?_
        refine WQ_cons rfl rfl rfl ((p_assign rfl).q) (lt_dec rfl) ?_
        refine WQ_nil ?_
        refine RA_done (by kernel_rfl) ?_
        refine W_ret ?_
        refine Exists.intro _ (And.intro (.cons (.cell rfl rfl m2 rfl trivial) (.cons (.tmp rfl) .nil)) (Exists.intro (((List.length (spS s)) : Int), spT (spS s) (List.length (spS s)) 0) (And.intro ?_ (And.intro ?_ (And.intro .nil rfl)))))
        · exact fun h => (spS_spl s).ok h
        · rw [← hsq]; rfl
end Go.Proofs.Ytdcpggdbjllmpaa
