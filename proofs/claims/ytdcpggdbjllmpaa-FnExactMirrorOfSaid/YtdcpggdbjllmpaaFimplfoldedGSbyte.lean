/- What the Go function impl.folded[[]byte] does, shown of its loaded text; its conditions stand in the statement. -/
import Derived.Test.YtdcpggdbjllmpaaTy
import Derived.Test.YtdcpggdbjllmpaaFimplisLeaf
import Derived.Test.YtdcpggdbjllmpaaFimplmirroredX1
import Derived.Test.YtdcpggdbjllmpaaFimplmirroredX2
import Derived.Test.YtdcpggdbjllmpaaGx12
import Derived.Test.YtdcpggdbjllmpaaGx20
import Derived.Test.YtdcpggdbjllmpaaGx24
import Derived.Test.YtdcpggdbjllmpaaGx27
import Derived.Test.YtdcpggdbjllmpaaGx28
import Derived.Test.YtdcpggdbjllmpaaGx32
import Derived.Test.YtdcpggdbjllmpaaGx33
import Derived.Test.YtdcpggdbjllmpaaM40
namespace Go.Proofs.Ytdcpggdbjllmpaa
open Go Gx
set_option linter.unusedVariables false
theorem en_impl_foldedGSbyte : Enters Try.prog 78 := enters_of Try.func78 (by kernel_rfl) (by kernel_rfl)
set_option maxRecDepth 100000 in
set_option maxHeartbeats 1000000 in
theorem w_impl_foldedGSbyte {a : Value} {ha : a.oneCell' = true} {l : List (Fin 256)} (hT : isTerm l = true) : CT (X := V1) Try.prog 78 (vals [.raw a ha, .raw (.func (.func 79) #[] #[]) rfl, .raw (.func (.func 80) #[] #[]) rfl]) [] [rd a (.u8s l)] (fun x => True) (fun x => .raw x.1 x.2) (fun x => [own x.1 5 (.u8s (mrT l))]) := by
  refine CT_intro (rs := [.tmp 6]) tt tok Try.func78 rfl rfl rfl (by first | rfl | assumption) fun w => ?_
  show W _ _ _ ⟨tmOf 0 [.raw a ha, .raw (.func (.func 79) #[] #[]) rfl, .raw (.func (.func 80) #[] #[]) rfl], [rd a (.u8s l)]⟩
  have hl40 := term_len hT
  refine W_seq ?_
  refine W_region ?_
  refine Ops_p (p_assign rfl) (lt_dec rfl) ?_
  refine Ops_nil ?_
  refine W_seq ?_
  refine W_region ?_
  refine Ops_x rfl (x_buildSlice rfl rfl rfl rfl rfl rfl rfl rfl (Nat.le_of_ble_eq_true rfl) (lt_dec rfl) fun b11_1 => ?_)
  refine Ops_p (p_assign rfl) (lt_dec rfl) ?_
  refine Ops_nil ?_
  refine W_seq ?_
  refine W_seq ?_
  refine W_free (pool 5 []) rfl rfl pool_nil ?_
  refine W_region ?_
  refine Ops_p (p_move rfl) (lt_dec rfl) ?_
  refine Ops_q ((q_lenR rfl rfl rfl (Rds.rd m2)).eq (d' := .int .i64 ((l.length : Nat) : Int)) rfl) (lt_dec rfl) ?_
  refine Ops_p (p_move rfl) (lt_dec rfl) ?_
  refine Ops_nil ?_
  refine W_block ?_
  refine W_loop (α := Nat × SB × Nat × Nat) (fun zz0 => ⟨[(0, .raw a ha), (1, .raw (.func (.func 79) #[] #[]) rfl), (2, .raw (.func (.func 80) #[] #[]) rfl), (7, .sl (zz0.2.2.1) 0 (List.length (zz0.2.1)) (zz0.2.2.2)), (12, .raw a ha), (13, .int .i64 (l.length : Int)), (14, .int .i64 ((zz0.1) : Int))], [pool 5 (zz0.2.1), .row (zz0.2.2.1) (zz0.2.2.2) 22 (valsB (zz0.2.1)), rd a (.u8s l)]⟩) (fun zz0 => (zz0.1) ≤ l.length ∧ MrP l (zz0.1) (zz0.2.1)) (fun zz0 => l.length - (zz0.1)) (0, [], b11_1, 0) ?_ ?_ ?_
  · exact ⟨Nat.zero_le _, ⟨rfl⟩⟩
  · exact Wk.intro (.cons rfl (by first | rfl | exact veq_int (by first | omega | (dsimp only; omega))) (.cons rfl (by first | rfl | exact veq_int (by first | omega | (dsimp only; omega))) (.cons rfl (by first | rfl | exact veq_int (by first | omega | (dsimp only; omega))) (.cons rfl (by first | rfl | exact veq_int (by first | omega | (dsimp only; omega))) (.cons rfl (by first | rfl | exact veq_int (by first | omega | (dsimp only; omega))) (.cons rfl (by first | rfl | exact veq_int (by first | omega | (dsimp only; omega))) (.cons rfl (by first | rfl | exact veq_int (by first | omega | (dsimp only; omega))) .nil))))))) (.keep rfl rfl (pool_eq rfl) (.keep rfl rfl (fun _ h => h) (.keep rfl rfl (fun _ h => h) .nil)))
  · rintro ⟨i, S, bb, cbb⟩ ⟨hi, hP⟩
    try dsimp only at *
    obtain ⟨d, hD⟩ := term_dep hT (i := i) (by omega)
    have hSl : S.length = d := hP.len hT (by omega) hD
    have hd40 := dep_le hD
    have hl40 := term_len hT
    refine W_seq ?_
    refine W_region ?_
    refine Ops_p (p_lss rfl rfl) (lt_dec rfl) ?_
    refine Ops_nil ?_
    refine W_seq ?_
    refine W_cond rfl (fun h1 => ?_) (fun h1 => ?_)
    · try simp only [bs] at h1
      refine W_skip ?_
      refine W_seq ?_
      refine W_block ?_
      refine W_seq ?_
      refine W_region ?_
      refine Ops_q (q_ixR _ rfl rfl rfl (Rds.rd m2) rfl rfl (by first | (show _ < List.length _; omega) | (show _ < List.length _; first | omega | (dsimp only; omega))) rfl) (lt_dec rfl) ?_
      refine Ops_q (q_loadR rfl rfl (Rds.rd m2) rfl rfl (by first | (show _ < List.length _; omega) | (show _ < List.length _; first | omega | (dsimp only; omega))) rfl rfl rfl) (lt_dec rfl) ?_
      refine Ops_p (p_assign rfl) (lt_dec rfl) ?_
      refine Ops_nil ?_
      refine W_seq ?_
      refine W_seq ?_
      refine W_region ?_
      refine Ops_p (p_move rfl) (lt_dec rfl) ?_
      refine Ops_q (q_call en_impl_isLeaf rfl (w_impl_isLeaf) (View.none _)) (lt_dec rfl) ?_
      refine Ops_nil ?_
      refine W_cond rfl (fun h2 => ?_) (fun h2 => ?_)
      · try simp only [bs] at h2
        have hlf := h2
        refine W_seq ?_
        refine W_region ?_
        refine Ops_p (p_move rfl) (lt_dec rfl) ?_
        refine Ops_p (p_move rfl) (lt_dec rfl) ?_
        refine Ops_p (p_move rfl) (lt_dec rfl) ?_
        refine Ops_x rfl (x_callvT en_impl_mirroredX1 rfl rfl (w_impl_mirroredX1 (c := (l.getD i 0))) HpDels.nil (Vw.none _) (fun _ => (HpDels.cons HpDel.head HpDels.nil)) (lt_dec rfl) fun x23_1 _ => ?_)
        refine Ops_x rfl (x_buildSlice rfl rfl rfl rfl rfl rfl rfl rfl (Nat.le_of_ble_eq_true rfl) (lt_dec rfl) fun b24_1 => ?_)
        refine Ops_x rfl (x_append_t (r := valsB S) (r2 := valsB [(x23_1, [(l.getD i 0)])]) (q := valsB (S ++ [(x23_1, [(l.getD i 0)])])) (n := (List.length S)) (m := 1) rfl rfl rfl rfl rfl rfl (fun _ _ => (((HpRep.head).tail).tail).tail) (Rds.row m0 rfl) (by rw [valsB_len]; omega) (by rw [valsB_take]; rw [List.take_length]; exact valsB_app _ _) rfl (by decide) rfl (by first | omega | (dsimp only; omega)) (by first | omega | (dsimp only; omega)) (lt_dec rfl) fun b25_1 cb25_1 => ?_)
        refine Ops_p (p_assign rfl) (lt_dec rfl) ?_
        refine Ops_nil ?_
        refine W_exit ?_
        refine W_pool (S := S) (S' := (S ++ [(x23_1, [(l.getD i 0)])])) x23_1 ([(l.getD i 0)]) (HpDels.cons (HpDel.head).tail (HpDels.cons (HpDel.head).tail HpDels.nil)) rfl rfl (fun _ h => h) (List.Sublist.refl _) ?_
        refine W_region ?_
        refine Ops_p (p_add rfl rfl (by exact ⟨(by first | omega | (dsimp only; omega)), (by first | omega | (dsimp only; omega))⟩)) (lt_dec rfl) ?_
        refine Ops_p (p_move rfl) (lt_dec rfl) ?_
        refine Ops_nil ?_
        refine Exists.intro (i + 1, (S ++ [(x23_1, [(l.getD i 0)])]), b25_1, cb25_1) (And.intro ?_ (And.intro ?_ ?_))
        · first | exact ⟨by show _ ≤ _; omega, hP.leaf hlf _⟩ | exact ⟨by show _ ≤ _; omega, hP.op hop _ (by first | rfl | simp)⟩
        · show _ < _; omega
        · exact Wk.intro (.cons rfl (by first | rfl | exact veq_int (by first | omega | (dsimp only; omega))) (.cons rfl (by first | rfl | exact veq_int (by first | omega | (dsimp only; omega))) (.cons rfl (by first | rfl | exact veq_int (by first | omega | (dsimp only; omega))) (.cons rfl (by exact veq_sl (by simp)) (.cons rfl (by first | rfl | exact veq_int (by first | omega | (dsimp only; omega))) (.cons rfl (by first | rfl | exact veq_int (by first | omega | (dsimp only; omega))) (.cons rfl (by first | rfl | exact veq_int (by first | omega | (dsimp only; omega))) .nil))))))) (.keep rfl rfl (pool_eq rfl) (.drop (.keep rfl rfl (fun _ h => h) (.keep rfl rfl (fun _ h => h) .nil))))
      · try simp only [bs] at h2
        have hAt := (term_at hT (i := i) (by omega) hD).resolve_left (fun hh => by rw [hh] at h2; cases h2); have hop := hAt.1; have hd2 := hAt.2
        refine W_skip ?_
        refine W_seq ?_
        refine W_region ?_
        refine Ops_p (p_move rfl) (lt_dec rfl) ?_
        refine Ops_p (p_len rfl rfl rfl) (lt_dec rfl) ?_
        refine Ops_p ((p_sub rfl rfl (by exact ⟨by omega, by omega⟩)).eq (d' := .int .i64 (((List.length S - 2) : Nat) : Int)) (veq_int (by omega))) (lt_dec rfl) ?_
        refine Ops_p (p_assign rfl) (lt_dec rfl) ?_
        refine Ops_nil ?_
        refine W_fact (row_cap m1) fun hcap => ?_
        rw [valsB_len] at hcap
        have hg2 := hP.get hT (j := (List.length S - 2)) (by omega) hD (by omega)
        have hg1 := hP.get hT (j := (List.length S - 1)) (by omega) hD (by omega)
        refine W_draw (by kernel_rfl) ?_
        show RA _ _ 18 _ _ _
        first | refine RA_take 0 rfl rfl rfl (by kernel_rfl) (by kernel_rfl) (by kernel_rfl) (p_move rfl) (lt_dec rfl) ?_
        first | refine RA_take 1 rfl rfl rfl (by kernel_rfl) (by kernel_rfl) (by kernel_rfl) (p_move rfl) (lt_dec rfl) ?_
        first | refine RA_take 2 rfl rfl rfl (by kernel_rfl) (by kernel_rfl) (by kernel_rfl) (p_take (n := (List.length S - 2)) rfl rfl rfl rfl (by omega) (by omega)) (lt_dec rfl) ?_
        refine RA_quiet (g := 4) [3, 4, 5, 6, 7, 8, 9, 10, 11, 12, 13] (by kernel_rfl) (by kernel_rfl) (by kernel_rfl) (by kernel_rfl) ?_
        refine WQ_cons rfl rfl rfl ((p_move rfl).q) (lt_dec rfl) ?_
        refine WQ_cons rfl rfl rfl ((p_move rfl).q) (lt_dec rfl) ?_
        refine WQ_cons rfl rfl rfl ((p_move rfl).q) (lt_dec rfl) ?_
        refine WQ_cons rfl rfl rfl ((p_move rfl).q) (lt_dec rfl) ?_
        refine WQ_cons rfl rfl rfl ((p_ixl1 (List.length S - 2) rfl rfl rfl rfl rfl rfl (by first | (first | omega | (dsimp only; omega)) | exact Fin.isLt _)).q) (lt_dec rfl) ?_
        refine WQ_cons rfl rfl rfl ((q_load_bs (S := S) (j := (List.length S - 2)) rfl rfl m1 rfl (by first | omega | (dsimp only; omega)) rfl rfl)) (lt_dec rfl) ?_
        refine WQ_cons rfl rfl rfl ((p_move rfl).q) (lt_dec rfl) ?_
        refine WQ_cons rfl rfl rfl ((p_move rfl).q) (lt_dec rfl) ?_
        refine WQ_cons rfl rfl rfl ((p_add rfl rfl (by exact ⟨(by first | omega | (dsimp only; omega)), (by first | omega | (dsimp only; omega))⟩)).q) (lt_dec rfl) ?_
        refine WQ_cons rfl rfl rfl ((p_ixl1 (List.length S - 1) rfl rfl rfl rfl rfl (by omega) (by first | (first | omega | (dsimp only; omega)) | exact Fin.isLt _)).q) (lt_dec rfl) ?_
        refine WQ_cons rfl rfl rfl ((q_load_bs (S := S) (j := (List.length S - 1)) rfl rfl m1 rfl (by first | omega | (dsimp only; omega)) rfl rfl)) (lt_dec rfl) ?_
        refine WQ_nil ?_
        refine RA_one 14 rfl rfl (by kernel_rfl) (x_callvT en_impl_mirroredX2 rfl rfl (w_impl_mirroredX2 (c := (l.getD i 0)) (a := (List.getD S (List.length S - 2) bd).1.1) (b := (List.getD S (List.length S - 1) bd).1.1) (ha := (List.getD S (List.length S - 2) bd).1.2) (hb := (List.getD S (List.length S - 1) bd).1.2) ⟨hg2.1, by omega⟩ ⟨hg1.1, by omega⟩) HpDels.nil (Vw.cons (Vw.poolI (j := (List.length S - 2)) m0 (by omega) rfl) (Vw.poolI (j := (List.length S - 1)) m0 (by omega) rfl)) (fun _ => (HpDels.cons HpDel.head HpDels.nil)) (lt_dec rfl) fun x43_1 _ => ?_)
        refine RA_one 15 rfl rfl (by kernel_rfl) (x_buildSlice rfl rfl rfl rfl rfl rfl rfl rfl (Nat.le_of_ble_eq_true rfl) (lt_dec rfl) fun b44_1 => ?_)
        refine RA_one 16 rfl rfl (by kernel_rfl) (x_append_t (r := valsB S) (r2 := valsB [(x43_1, (mjT (l.getD i 0) (List.getD S (List.length S - 2) bd).2 (List.getD S (List.length S - 1) bd).2))]) (q := valsB ((List.take (List.length S - 2) S) ++ [(x43_1, (mjT (l.getD i 0) (List.getD S (List.length S - 2) bd).2 (List.getD S (List.length S - 1) bd).2))])) (n := (List.length S - 2)) (m := 1) rfl rfl rfl rfl rfl rfl (fun _ _ => (((HpRep.head).tail).tail).tail) (Rds.row m0 rfl) (by rw [valsB_len]; omega) (by rw [valsB_take]; exact valsB_app _ _) rfl (by decide) rfl (by first | omega | (dsimp only; omega)) (by first | omega | (dsimp only; omega)) (lt_dec rfl) fun b45_1 cb45_1 => ?_)
        refine RA_quiet (g := 0) [17] (by kernel_rfl) (by kernel_rfl) (by kernel_rfl) (by kernel_rfl) ?_
        refine WQ_cons rfl rfl rfl ((p_assign rfl).q) (lt_dec rfl) ?_
        refine WQ_nil ?_
        refine RA_done (by kernel_rfl) ?_
        refine W_pool (S := S) (S' := ((List.take (List.length S - 2) S) ++ [(x43_1, (mjT (l.getD i 0) (List.getD S (List.length S - 2) bd).2 (List.getD S (List.length S - 1) bd).2))])) x43_1 ((mjT (l.getD i 0) (List.getD S (List.length S - 2) bd).2 (List.getD S (List.length S - 1) bd).2)) (HpDels.cons (HpDel.head).tail (HpDels.cons (HpDel.head).tail HpDels.nil)) rfl rfl (fun _ h => h) ((List.take_sublist _ _).append (List.Sublist.refl _)) ?_
        refine W_region ?_
        refine Ops_p (p_add rfl rfl (by exact ⟨(by first | omega | (dsimp only; omega)), (by first | omega | (dsimp only; omega))⟩)) (lt_dec rfl) ?_
        refine Ops_p (p_move rfl) (lt_dec rfl) ?_
        refine Ops_nil ?_
        refine Exists.intro (i + 1, ((List.take (List.length S - 2) S) ++ [(x43_1, (mjT (l.getD i 0) (List.getD S (List.length S - 2) bd).2 (List.getD S (List.length S - 1) bd).2))]), b45_1, cb45_1) (And.intro ?_ (And.intro ?_ ?_))
        · first | exact ⟨by show _ ≤ _; omega, hP.leaf hlf _⟩ | exact ⟨by show _ ≤ _; omega, hP.op hop _ (by first | rfl | simp)⟩
        · show _ < _; omega
        · exact Wk.intro (.cons rfl (by first | rfl | exact veq_int (by first | omega | (dsimp only; omega))) (.cons rfl (by first | rfl | exact veq_int (by first | omega | (dsimp only; omega))) (.cons rfl (by first | rfl | exact veq_int (by first | omega | (dsimp only; omega))) (.cons rfl (by exact veq_sl (by simp)) (.cons rfl (by first | rfl | exact veq_int (by first | omega | (dsimp only; omega))) (.cons rfl (by first | rfl | exact veq_int (by first | omega | (dsimp only; omega))) (.cons rfl (by first | rfl | exact veq_int (by first | omega | (dsimp only; omega))) .nil))))))) (.keep rfl rfl (pool_eq rfl) (.drop (.keep rfl rfl (fun _ h => h) (.keep rfl rfl (fun _ h => h) .nil))))
    · try simp only [bs] at h1
      obtain rfl : i = l.length := (by omega)
      have hE : S.length = 1 := hP.len hT (Nat.le_refl _) (term_end hT)
      refine W_exit ?_
      refine W_seq ?_
      refine W_pick (S := S) (j := 0) (by omega) (HpDels.cons HpDel.head HpDels.nil) ?_
      refine W_region ?_
      refine Ops_p (p_move rfl) (lt_dec rfl) ?_
      refine Ops_p (p_ixl1 0 rfl rfl rfl rfl rfl rfl (by first | (first | omega | (dsimp only; omega)) | exact Fin.isLt _)) (lt_dec rfl) ?_
      refine Ops_q (q_load_bs (S := S) (j := 0) rfl rfl m1 rfl (by first | omega | (dsimp only; omega)) rfl rfl) (lt_dec rfl) ?_
      refine Ops_p (p_assign rfl) (lt_dec rfl) ?_
      refine Ops_nil ?_
      refine W_ret ?_
      refine Exists.intro _ (And.intro (.cons (.tmp rfl) .nil) (Exists.intro (List.getD S 0 bd).1 (And.intro ?_ (And.intro ?_ (And.intro (.cons HpDel.head rfl (own_eq (by rw [hP.end])) .nil) rfl)))))
      · trivial
      · rfl
end Go.Proofs.Ytdcpggdbjllmpaa
