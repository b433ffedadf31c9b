/- What the Go function spec.l03Mirror does, shown of its loaded text; its conditions stand in the statement. -/
import Derived.Test.YtdcpggdbjllmpaaTy
import Derived.Test.YtdcpggdbjllmpaaFspecl03Op
import Derived.Test.YtdcpggdbjllmpaaGx12
import Derived.Test.YtdcpggdbjllmpaaGx20
import Derived.Test.YtdcpggdbjllmpaaGx24
import Derived.Test.YtdcpggdbjllmpaaGx27
import Derived.Test.YtdcpggdbjllmpaaGx28
import Derived.Test.YtdcpggdbjllmpaaGx32
import Derived.Test.YtdcpggdbjllmpaaM40
namespace Go.Proofs.Ytdcpggdbjllmpaa
open Go Gx
set_option linter.unusedVariables false
theorem en_spec_l03Mirror : Enters Try.prog 45 := enters_of Try.func45 (by kernel_rfl) (by kernel_rfl)
set_option maxRecDepth 100000 in
set_option maxHeartbeats 2000000 in
theorem w_spec_l03Mirror {a : Value} {ha : a.oneCell' = true} {l : List (Fin 256)} (hT : isTerm l = true) : CT (X := V1) Try.prog 45 (vals [.raw a ha]) [] [rd a (.u8s l)] (fun x => True) (fun x => .raw x.1 x.2) (fun x => [own x.1 5 (.u8s (mrT l))]) := by
  refine CT_intro (rs := [.tmp 2]) tt tok Try.func45 rfl rfl rfl (by first | rfl | assumption) fun w => ?_
  show W _ _ _ ⟨tmOf 0 [.raw a ha], [rd a (.u8s l)]⟩
  have hl40 := term_len hT
  refine W_seq ?_
  refine W_region ?_
  refine Ops_p (p_assign rfl) (lt_dec rfl) ?_
  refine Ops_nil ?_
  refine W_seq ?_
  refine W_region ?_
  refine Ops_x rfl (x_buildSlice rfl rfl rfl rfl rfl rfl rfl rfl (Nat.le_of_ble_eq_true rfl) (lt_dec rfl) fun b8_1 => ?_)
  refine Ops_p (p_assign rfl) (lt_dec rfl) ?_
  refine Ops_nil ?_
  refine W_seq ?_
  refine W_seq ?_
  refine W_free (pool 5 []) rfl rfl pool_nil ?_
  refine W_region ?_
  refine Ops_p (p_assign rfl) (lt_dec rfl) ?_
  refine Ops_nil ?_
  refine W_block ?_
  refine W_loop (α := Nat × SB × Nat × Nat) (fun zz0 => ⟨[(0, .raw a ha), (3, .sl (zz0.2.2.1) 0 (List.length (zz0.2.1)) (zz0.2.2.2)), (4, .int .i64 ((zz0.1) : Int))], [pool 5 (zz0.2.1), .row (zz0.2.2.1) (zz0.2.2.2) 22 (valsB (zz0.2.1)), rd a (.u8s l)]⟩) (fun zz0 => (zz0.1) ≤ l.length ∧ MrP l (zz0.1) (zz0.2.1)) (fun zz0 => l.length - (zz0.1)) (0, [], b8_1, 0) ?_ ?_ ?_
  · exact ⟨Nat.zero_le _, ⟨rfl⟩⟩
  · exact Wk.intro (.cons rfl (by first | rfl | exact veq_int (by first | omega | (dsimp only; omega))) (.cons rfl (by first | rfl | exact veq_int (by first | omega | (dsimp only; omega))) (.cons rfl (by first | rfl | exact veq_int (by first | omega | (dsimp only; omega))) .nil))) (.keep rfl rfl (pool_eq rfl) (.keep rfl rfl (fun _ h => h) (.keep rfl rfl (fun _ h => h) .nil)))
  · rintro ⟨i, S, bb, cbb⟩ ⟨hi, hP⟩
    try dsimp only at *
    obtain ⟨d, hD⟩ := term_dep hT (i := i) (by omega)
    have hSl : S.length = d := hP.len hT (by omega) hD
    have hd40 := dep_le hD
    have hl40 := term_len hT
    refine W_seq ?_
    refine W_seq ?_
    refine W_region ?_
    refine Ops_p (p_move rfl) (lt_dec rfl) ?_
    refine Ops_p (p_move rfl) (lt_dec rfl) ?_
    refine Ops_q ((q_lenR rfl rfl rfl (Rds.rd m2)).eq (d' := .int .i64 ((l.length : Nat) : Int)) rfl) (lt_dec rfl) ?_
    refine Ops_p (p_lss rfl rfl) (lt_dec rfl) ?_
    refine Ops_nil ?_
    refine W_cond rfl (fun h1 => ?_) (fun h1 => ?_)
    · try simp only [bs] at h1
      refine W_skip ?_
      refine W_seq ?_
      refine W_block ?_
      refine W_seq ?_
      refine W_draw (by kernel_rfl) ?_
      show RA _ _ 8 _ _ _
      refine RA_quietF [0, 1, 2, 3, 4, 5, 6, 7] rfl rfl rfl (by kernel_rfl) (by kernel_rfl) ?_
      refine WQ_cons rfl rfl rfl ((p_move rfl).q) (lt_dec rfl) ?_
      refine WQ_cons rfl rfl rfl ((p_len rfl rfl rfl).q) (lt_dec rfl) ?_
      refine WQ_cons rfl rfl rfl ((p_move rfl).q) (lt_dec rfl) ?_
      refine WQ_cons rfl rfl rfl ((p_move rfl).q) (lt_dec rfl) ?_
      refine WQ_cons rfl rfl rfl ((q_ixR _ rfl rfl rfl (Rds.rd m2) rfl rfl (by first | (show _ < List.length _; omega) | (show _ < List.length _; first | omega | (dsimp only; omega))) rfl)) (lt_dec rfl) ?_
      refine WQ_cons rfl rfl rfl ((q_loadR rfl rfl (Rds.rd m2) rfl rfl (by first | (show _ < List.length _; omega) | (show _ < List.length _; first | omega | (dsimp only; omega))) rfl rfl rfl)) (lt_dec rfl) ?_
      refine WQ_cons rfl rfl rfl ((p_assign rfl).q) (lt_dec rfl) ?_
      refine WQ_cons rfl rfl rfl ((p_assign rfl).q) (lt_dec rfl) ?_
      refine WQ_nil ?_
      refine W_seq ?_
      refine W_seq ?_
      refine W_region ?_
      refine Ops_p (p_move rfl) (lt_dec rfl) ?_
      refine Ops_q (q_call en_spec_l03Op rfl (w_spec_l03Op) (View.none _)) (lt_dec rfl) ?_
      refine Ops_p (p_not rfl) (lt_dec rfl) ?_
      refine Ops_nil ?_
      refine W_cond rfl (fun h2 => ?_) (fun h2 => ?_)
      · try simp only [bs] at h2
        have hlf : leafB (l.getD i 0) = true := (term_at hT (i := i) (by omega) hD).resolve_right (fun hh => by rw [hh.1] at h2; cases h2)
        refine W_seq ?_
        refine W_region ?_
        refine Ops_p (p_move rfl) (lt_dec rfl) ?_
        refine Ops_p (p_move rfl) (lt_dec rfl) ?_
        refine Ops_x rfl (x_buildSlice rfl rfl rfl rfl rfl rfl rfl rfl (Nat.le_of_ble_eq_true rfl) (lt_dec rfl) fun b26_1 => ?_)
        refine Ops_x rfl (x_buildSlice rfl rfl rfl rfl rfl rfl rfl rfl (Nat.le_of_ble_eq_true rfl) (lt_dec rfl) fun b27_1 => ?_)
        refine Ops_x rfl (x_append_t (r := valsB S) (r2 := valsB [((slv b26_1 1 1), [(l.getD i 0)])]) (q := valsB (S ++ [((slv b26_1 1 1), [(l.getD i 0)])])) (n := (List.length S)) (m := 1) rfl rfl rfl rfl rfl rfl (fun _ _ => (((HpRep.head).tail).tail).tail) (Rds.row m0 rfl) (by rw [valsB_len]; omega) (by rw [valsB_take]; rw [List.take_length]; exact valsB_app _ _) rfl (by decide) rfl (by first | omega | (dsimp only; omega)) (by first | omega | (dsimp only; omega)) (lt_dec rfl) fun b28_1 cb28_1 => ?_)
        refine Ops_p (p_assign rfl) (lt_dec rfl) ?_
        refine Ops_nil ?_
        refine W_exit ?_
        refine W_pool (S := S) (S' := (S ++ [((slv b26_1 1 1), [(l.getD i 0)])])) (slv b26_1 1 1) ([(l.getD i 0)]) (HpDels.cons (HpDel.head).tail (HpDels.cons (HpDel.head).tail HpDels.nil)) rfl rfl (own_of_row (by show _ = List.length _; first | (simp; done) | (simp; omega)) rfl) (List.Sublist.refl _) ?_
        refine W_region ?_
        refine Ops_p (p_move rfl) (lt_dec rfl) ?_
        refine Ops_p (p_add rfl rfl (by exact ⟨(by first | omega | (dsimp only; omega)), (by first | omega | (dsimp only; omega))⟩)) (lt_dec rfl) ?_
        refine Ops_p (p_assign rfl) (lt_dec rfl) ?_
        refine Ops_nil ?_
        refine Exists.intro (i + 1, (S ++ [((slv b26_1 1 1), [(l.getD i 0)])]), b28_1, cb28_1) (And.intro ?_ (And.intro ?_ ?_))
        · first | exact ⟨by show _ ≤ _; omega, hP.leaf hlf _⟩ | exact ⟨by show _ ≤ _; omega, hP.op hop _ (by first | rfl | simp)⟩
        · show _ < _; omega
        · exact Wk.intro (.cons rfl (by first | rfl | exact veq_int (by first | omega | (dsimp only; omega))) (.cons rfl (by exact veq_sl (by simp)) (.cons rfl (by first | rfl | exact veq_int (by first | omega | (dsimp only; omega))) .nil))) (.keep rfl rfl (pool_eq rfl) (.drop (.keep rfl rfl (fun _ h => h) (.keep rfl rfl (fun _ h => h) .nil))))
      · try simp only [bs] at h2
        have hop := h2; have hd2 : 2 ≤ d := ((term_at hT (i := i) (by omega) hD).resolve_left (fun hh => by rw [op_noleaf h2] at hh; cases hh)).2
        refine W_skip ?_
        refine W_cutE (fun E s' => (True) ∧ Wk E s' ⟨[(0, .raw a ha), (3, .sl bb 0 (List.length S) cbb), (4, .int .i64 (i : Int)), (5, .int .i64 ((List.length S) : Int)), (6, .u8 (swp (l.getD i 0))), (9, .int .i64 (i : Int)), (10, .raw a ha), (11, .int .i64 (l.length : Int)), (15, .sl bb 0 (List.length S) cbb), (16, .int .i64 ((List.length S) : Int)), (17, .raw a ha), (18, .int .i64 (i : Int)), (20, .u8 (l.getD i 0)), (21, .u8 (l.getD i 0)), (22, .bool (operB (l.getD i 0)))], [pool 5 S, .row bb cbb 22 (valsB S), rd a (.u8s l)]⟩) ?_ ?_
        · refine W_seq ?_
          refine W_region ?_
          refine Ops_p (p_move rfl) (lt_dec rfl) ?_
          refine Ops_nil ?_
          refine W_block ?_
          refine W_seq ?_
          refine W_region ?_
          first | refine Ops_p (p_eql_8 rfl rfl) (lt_dec rfl) ?_ | refine Ops_p (p_eql rfl rfl) (lt_dec rfl) ?_
          refine Ops_p (p_assign rfl) (lt_dec rfl) ?_
          refine Ops_nil ?_
          refine W_cond rfl (fun h3 => ?_) (fun h3 => ?_)
          · try simp only [bs] at h3
            refine W_region ?_
            refine Ops_p (p_assign rfl) (lt_dec rfl) ?_
            refine Ops_nil ?_
            refine ⟨?_, ?_⟩
            · trivial
            · exact Wk.intro (.cons rfl (by first | rfl | exact veq_int (by first | omega | (dsimp only; omega))) (.cons rfl (by first | rfl | exact veq_int (by first | omega | (dsimp only; omega))) (.cons rfl (by first | rfl | exact veq_int (by first | omega | (dsimp only; omega))) (.cons rfl (by first | rfl | exact veq_int (by first | omega | (dsimp only; omega))) (.cons rfl (veq_u8 (by unfold swp; simp_all)) (.cons rfl (by first | rfl | exact veq_int (by first | omega | (dsimp only; omega))) (.cons rfl (by first | rfl | exact veq_int (by first | omega | (dsimp only; omega))) (.cons rfl (by first | rfl | exact veq_int (by first | omega | (dsimp only; omega))) (.cons rfl (by first | rfl | exact veq_int (by first | omega | (dsimp only; omega))) (.cons rfl (by first | rfl | exact veq_int (by first | omega | (dsimp only; omega))) (.cons rfl (by first | rfl | exact veq_int (by first | omega | (dsimp only; omega))) (.cons rfl (by first | rfl | exact veq_int (by first | omega | (dsimp only; omega))) (.cons rfl (by first | rfl | exact veq_int (by first | omega | (dsimp only; omega))) (.cons rfl (by first | rfl | exact veq_int (by first | omega | (dsimp only; omega))) (.cons rfl (by first | rfl | exact veq_int (by first | omega | (dsimp only; omega))) .nil))))))))))))))) (.keep rfl rfl (fun _ h => h) (.keep rfl rfl (fun _ h => h) (.keep rfl rfl (fun _ h => h) .nil)))
          · try simp only [bs] at h3
            refine W_seq ?_
            refine W_region ?_
            first | refine Ops_p (p_eql_8 rfl rfl) (lt_dec rfl) ?_ | refine Ops_p (p_eql rfl rfl) (lt_dec rfl) ?_
            refine Ops_p (p_assign rfl) (lt_dec rfl) ?_
            refine Ops_nil ?_
            refine W_cond rfl (fun h4 => ?_) (fun h4 => ?_)
            · try simp only [bs] at h4
              refine W_region ?_
              refine Ops_p (p_assign rfl) (lt_dec rfl) ?_
              refine Ops_nil ?_
              refine ⟨?_, ?_⟩
              · trivial
              · exact Wk.intro (.cons rfl (by first | rfl | exact veq_int (by first | omega | (dsimp only; omega))) (.cons rfl (by first | rfl | exact veq_int (by first | omega | (dsimp only; omega))) (.cons rfl (by first | rfl | exact veq_int (by first | omega | (dsimp only; omega))) (.cons rfl (by first | rfl | exact veq_int (by first | omega | (dsimp only; omega))) (.cons rfl (veq_u8 (by unfold swp; simp_all)) (.cons rfl (by first | rfl | exact veq_int (by first | omega | (dsimp only; omega))) (.cons rfl (by first | rfl | exact veq_int (by first | omega | (dsimp only; omega))) (.cons rfl (by first | rfl | exact veq_int (by first | omega | (dsimp only; omega))) (.cons rfl (by first | rfl | exact veq_int (by first | omega | (dsimp only; omega))) (.cons rfl (by first | rfl | exact veq_int (by first | omega | (dsimp only; omega))) (.cons rfl (by first | rfl | exact veq_int (by first | omega | (dsimp only; omega))) (.cons rfl (by first | rfl | exact veq_int (by first | omega | (dsimp only; omega))) (.cons rfl (by first | rfl | exact veq_int (by first | omega | (dsimp only; omega))) (.cons rfl (by first | rfl | exact veq_int (by first | omega | (dsimp only; omega))) (.cons rfl (by first | rfl | exact veq_int (by first | omega | (dsimp only; omega))) .nil))))))))))))))) (.keep rfl rfl (fun _ h => h) (.keep rfl rfl (fun _ h => h) (.keep rfl rfl (fun _ h => h) .nil)))
            · try simp only [bs] at h4
              refine W_skip ?_
              refine ⟨?_, ?_⟩
              · trivial
              · exact Wk.intro (.cons rfl (by first | rfl | exact veq_int (by first | omega | (dsimp only; omega))) (.cons rfl (by first | rfl | exact veq_int (by first | omega | (dsimp only; omega))) (.cons rfl (by first | rfl | exact veq_int (by first | omega | (dsimp only; omega))) (.cons rfl (by first | rfl | exact veq_int (by first | omega | (dsimp only; omega))) (.cons rfl (veq_u8 (by unfold swp; simp_all)) (.cons rfl (by first | rfl | exact veq_int (by first | omega | (dsimp only; omega))) (.cons rfl (by first | rfl | exact veq_int (by first | omega | (dsimp only; omega))) (.cons rfl (by first | rfl | exact veq_int (by first | omega | (dsimp only; omega))) (.cons rfl (by first | rfl | exact veq_int (by first | omega | (dsimp only; omega))) (.cons rfl (by first | rfl | exact veq_int (by first | omega | (dsimp only; omega))) (.cons rfl (by first | rfl | exact veq_int (by first | omega | (dsimp only; omega))) (.cons rfl (by first | rfl | exact veq_int (by first | omega | (dsimp only; omega))) (.cons rfl (by first | rfl | exact veq_int (by first | omega | (dsimp only; omega))) (.cons rfl (by first | rfl | exact veq_int (by first | omega | (dsimp only; omega))) (.cons rfl (by first | rfl | exact veq_int (by first | omega | (dsimp only; omega))) .nil))))))))))))))) (.keep rfl rfl (fun _ h => h) (.keep rfl rfl (fun _ h => h) (.keep rfl rfl (fun _ h => h) .nil)))
        · rintro s' ⟨_, hw⟩
          refine W_wk hw ?_
          clear hw s'
          refine W_seq ?_
          refine W_fact (row_cap m1) fun hcap => ?_
          rw [valsB_len] at hcap
          have hg2 := hP.get hT (j := (List.length S - 2)) (by omega) hD (by omega)
          have hg1 := hP.get hT (j := (List.length S - 1)) (by omega) hD (by omega)
          refine W_draw (by kernel_rfl) ?_
          show RA _ _ 17 _ _ _
          first | refine RA_take 1 rfl rfl rfl (by kernel_rfl) (by kernel_rfl) (by kernel_rfl) (p_move rfl) (lt_dec rfl) ?_
          first | refine RA_take 2 rfl rfl rfl (by kernel_rfl) (by kernel_rfl) (by kernel_rfl) (p_move rfl) (lt_dec rfl) ?_
          first | refine RA_take 7 rfl rfl rfl (by kernel_rfl) (by kernel_rfl) (by kernel_rfl) (p_move rfl) (lt_dec rfl) ?_
          first | refine RA_take 8 rfl rfl rfl (by kernel_rfl) (by kernel_rfl) (by kernel_rfl) (p_move rfl) (lt_dec rfl) ?_
          first | refine RA_take 13 rfl rfl rfl (by kernel_rfl) (by kernel_rfl) (by kernel_rfl) (p_move rfl) (lt_dec rfl) ?_
          first | refine RA_take 3 rfl rfl rfl (by kernel_rfl) (by kernel_rfl) (by kernel_rfl) (p_sub rfl rfl (by exact ⟨(by first | omega | (dsimp only; omega)), (by first | omega | (dsimp only; omega))⟩)) (lt_dec rfl) ?_
          first | refine RA_take 9 rfl rfl rfl (by kernel_rfl) (by kernel_rfl) (by kernel_rfl) (p_sub rfl rfl (by exact ⟨(by first | omega | (dsimp only; omega)), (by first | omega | (dsimp only; omega))⟩)) (lt_dec rfl) ?_
          first | refine RA_take 4 rfl rfl rfl (by kernel_rfl) (by kernel_rfl) (by kernel_rfl) (p_ixl1 (List.length S - 1) rfl rfl rfl rfl rfl (by omega) (by first | (first | omega | (dsimp only; omega)) | exact Fin.isLt _)) (lt_dec rfl) ?_
          first | refine RA_take 10 rfl rfl rfl (by kernel_rfl) (by kernel_rfl) (by kernel_rfl) (p_ixl1 (List.length S - 2) rfl rfl rfl rfl rfl (by omega) (by first | (first | omega | (dsimp only; omega)) | exact Fin.isLt _)) (lt_dec rfl) ?_
          refine RA_four 0 5 11 14 rfl rfl rfl rfl rfl rfl rfl rfl (by kernel_rfl) ?_ ?_ ?_ ?_
          · refine x_buildSlice rfl rfl rfl rfl rfl rfl rfl rfl (Nat.le_of_ble_eq_true rfl) (lt_dec rfl) fun b34_1 => ?_
            refine RA_three 5 11 14 rfl rfl rfl rfl rfl rfl (by kernel_rfl) ?_ ?_ ?_
            · refine Xt_of_Qt rfl (lt_dec rfl) ((q_load_bs (S := S) (j := (List.length S - 1)) rfl rfl m2 rfl (by first | omega | (dsimp only; omega)) rfl rfl)) ?_
              refine RA_three 6 11 14 rfl rfl rfl rfl rfl rfl (by kernel_rfl) ?_ ?_ ?_
              · refine x_append_rd (m := (List.length (List.getD S (List.length S - 1) bd).2)) rfl rfl rfl rfl rfl rfl (fun _ _ => HpRep.head) (Rds.poolI (j := (List.length S - 1)) m1 (by first | omega | assumption)) rfl rfl rfl (by first | omega | (dsimp only; omega)) rfl (by first | omega | (dsimp only; omega)) (by first | omega | (dsimp only; omega)) (lt_dec rfl) fun b40_1 cb40_1 => ?_
                refine RA_two 11 14 rfl rfl rfl rfl (by kernel_rfl) ?_ ?_
                · refine Xt_of_Qt rfl (lt_dec rfl) ((q_load_bs (S := S) (j := (List.length S - 2)) rfl rfl m2 rfl (by first | omega | (dsimp only; omega)) rfl rfl)) ?_
                  refine RA_two 12 14 rfl rfl rfl rfl (by kernel_rfl) ?_ ?_
                  · refine x_append_rd (m := (List.length (List.getD S (List.length S - 2) bd).2)) rfl rfl rfl rfl rfl rfl (fun _ _ => HpRep.head) (Rds.poolI (j := (List.length S - 2)) m1 (by first | omega | assumption)) rfl (by show _ = List.length _; simp) rfl (by first | omega | (dsimp only; omega)) rfl (by first | omega | (dsimp only; omega)) (by first | omega | (dsimp only; omega)) (lt_dec rfl) fun b46_1 cb46_1 => ?_
                    refine RA_one 14 rfl rfl (by kernel_rfl) (x_buildSlice rfl rfl rfl rfl rfl rfl rfl rfl (Nat.le_of_ble_eq_true rfl) (lt_dec rfl) fun b48_1 => ?_)
                    refine RA_one 15 rfl rfl (by kernel_rfl) (x_append rfl rfl rfl rfl rfl rfl (fun _ _ => (HpRep.head).tail) (.inl ⟨m0, rfl⟩) rfl (by show _ = List.length _; simp) rfl (by first | omega | (dsimp only; omega)) rfl (by first | omega | (dsimp only; omega)) (by first | omega | (dsimp only; omega)) (lt_dec rfl) fun b49_1 cb49_1 => ?_)
                    refine RA_quiet (g := 0) [16] (by kernel_rfl) (by kernel_rfl) (by kernel_rfl) (by kernel_rfl) ?_
                    refine WQ_cons rfl rfl rfl ((p_assign rfl).q) (lt_dec rfl) ?_
                    refine WQ_nil ?_
                    refine RA_done (by kernel_rfl) ?_
                    refine W_region ?_
                    refine Ops_p (p_move rfl) (lt_dec rfl) ?_
                    refine Ops_p (p_move rfl) (lt_dec rfl) ?_
                    refine Ops_p (p_sub rfl rfl (by exact ⟨(by first | omega | (dsimp only; omega)), (by first | omega | (dsimp only; omega))⟩)) (lt_dec rfl) ?_
                    refine Ops_p (p_take (n := (List.length S - 2)) rfl rfl rfl rfl (by omega) (by omega)) (lt_dec rfl) ?_
                    refine Ops_p (p_move rfl) (lt_dec rfl) ?_
                    refine Ops_x rfl (x_buildSlice rfl rfl rfl rfl rfl rfl rfl rfl (Nat.le_of_ble_eq_true rfl) (lt_dec rfl) fun b55_1 => ?_)
                    refine Ops_x rfl (x_append_t (r := valsB S) (r2 := valsB [((slv b49_1 (0 + (List.length (List.getD S (List.length S - 1) bd).2) + (List.length (List.getD S (List.length S - 2) bd).2) + 1) cb49_1), ((([] ++ (List.getD S (List.length S - 1) bd).2) ++ (List.getD S (List.length S - 2) bd).2) ++ [(swp (l.getD i 0))]))]) (q := valsB ((List.take (List.length S - 2) S) ++ [((slv b49_1 (0 + (List.length (List.getD S (List.length S - 1) bd).2) + (List.length (List.getD S (List.length S - 2) bd).2) + 1) cb49_1), ((([] ++ (List.getD S (List.length S - 1) bd).2) ++ (List.getD S (List.length S - 2) bd).2) ++ [(swp (l.getD i 0))]))])) (n := (List.length S - 2)) (m := 1) rfl rfl rfl rfl rfl rfl (fun _ _ => ((((HpRep.head).tail).tail).tail).tail) (Rds.row m0 rfl) (by rw [valsB_len]; omega) (by rw [valsB_take]; exact valsB_app _ _) rfl (by decide) rfl (by first | omega | (dsimp only; omega)) (by first | omega | (dsimp only; omega)) (lt_dec rfl) fun b56_1 cb56_1 => ?_)
                    refine Ops_p (p_assign rfl) (lt_dec rfl) ?_
                    refine Ops_nil ?_
                    refine W_pool (S := S) (S' := ((List.take (List.length S - 2) S) ++ [((slv b49_1 (0 + (List.length (List.getD S (List.length S - 1) bd).2) + (List.length (List.getD S (List.length S - 2) bd).2) + 1) cb49_1), ((([] ++ (List.getD S (List.length S - 1) bd).2) ++ (List.getD S (List.length S - 2) bd).2) ++ [(swp (l.getD i 0))]))])) (slv b49_1 (0 + (List.length (List.getD S (List.length S - 1) bd).2) + (List.length (List.getD S (List.length S - 2) bd).2) + 1) cb49_1) (((([] ++ (List.getD S (List.length S - 1) bd).2) ++ (List.getD S (List.length S - 2) bd).2) ++ [(swp (l.getD i 0))])) (HpDels.cons ((HpDel.head).tail).tail (HpDels.cons ((HpDel.head).tail).tail HpDels.nil)) rfl rfl (own_of_row (by show _ = List.length _; first | (simp; done) | (simp; omega)) rfl) ((List.take_sublist _ _).append (List.Sublist.refl _)) ?_
                    refine W_region ?_
                    refine Ops_p (p_move rfl) (lt_dec rfl) ?_
                    refine Ops_p (p_add rfl rfl (by exact ⟨(by first | omega | (dsimp only; omega)), (by first | omega | (dsimp only; omega))⟩)) (lt_dec rfl) ?_
                    refine Ops_p (p_assign rfl) (lt_dec rfl) ?_
                    refine Ops_nil ?_
                    refine Exists.intro (i + 1, ((List.take (List.length S - 2) S) ++ [((slv b49_1 (0 + (List.length (List.getD S (List.length S - 1) bd).2) + (List.length (List.getD S (List.length S - 2) bd).2) + 1) cb49_1), ((([] ++ (List.getD S (List.length S - 1) bd).2) ++ (List.getD S (List.length S - 2) bd).2) ++ [(swp (l.getD i 0))]))]), b56_1, cb56_1) (And.intro ?_ (And.intro ?_ ?_))
                    · first | exact ⟨by show _ ≤ _; omega, hP.leaf hlf _⟩ | exact ⟨by show _ ≤ _; omega, hP.op hop _ (by first | rfl | simp)⟩
                    · show _ < _; omega
                    · exact Wk.intro (.cons rfl (by first | rfl | exact veq_int (by first | omega | (dsimp only; omega))) (.cons rfl (by exact veq_sl (by simp)) (.cons rfl (by first | rfl | exact veq_int (by first | omega | (dsimp only; omega))) .nil))) (.keep rfl rfl (pool_eq rfl) (.drop (.drop (.keep rfl rfl (fun _ h => h) (.keep rfl rfl (fun _ h => h) .nil)))))
                  · refine x_buildSlice rfl rfl rfl rfl rfl rfl rfl rfl (Nat.le_of_ble_eq_true rfl) (lt_dec rfl) fun b48_2 => ?_
                    refine RA_one 12 rfl rfl (by kernel_rfl) (x_append_rd (m := (List.length (List.getD S (List.length S - 2) bd).2)) rfl rfl rfl rfl rfl rfl (fun _ _ => (HpRep.head).tail) (Rds.poolI (j := (List.length S - 2)) m2 (by first | omega | assumption)) rfl (by show _ = List.length _; simp) rfl (by first | omega | (dsimp only; omega)) rfl (by first | omega | (dsimp only; omega)) (by first | omega | (dsimp only; omega)) (lt_dec rfl) fun b46_2 cb46_2 => ?_)
                    refine RA_one 15 rfl rfl (by kernel_rfl) (x_append rfl rfl rfl rfl rfl rfl (fun _ _ => (HpRep.head).tail) (.inl ⟨m0, rfl⟩) rfl (by show _ = List.length _; simp) rfl (by first | omega | (dsimp only; omega)) rfl (by first | omega | (dsimp only; omega)) (by first | omega | (dsimp only; omega)) (lt_dec rfl) fun b49_2 cb49_2 => ?_)
                    refine RA_quiet (g := 0) [16] (by kernel_rfl) (by kernel_rfl) (by kernel_rfl) (by kernel_rfl) ?_
                    refine WQ_cons rfl rfl rfl ((p_assign rfl).q) (lt_dec rfl) ?_
                    refine WQ_nil ?_
                    refine RA_done (by kernel_rfl) ?_
                    refine W_region ?_
                    refine Ops_p (p_move rfl) (lt_dec rfl) ?_
                    refine Ops_p (p_move rfl) (lt_dec rfl) ?_
                    refine Ops_p (p_sub rfl rfl (by exact ⟨(by first | omega | (dsimp only; omega)), (by first | omega | (dsimp only; omega))⟩)) (lt_dec rfl) ?_
                    refine Ops_p (p_take (n := (List.length S - 2)) rfl rfl rfl rfl (by omega) (by omega)) (lt_dec rfl) ?_
                    refine Ops_p (p_move rfl) (lt_dec rfl) ?_
                    refine Ops_x rfl (x_buildSlice rfl rfl rfl rfl rfl rfl rfl rfl (Nat.le_of_ble_eq_true rfl) (lt_dec rfl) fun b55_2 => ?_)
                    refine Ops_x rfl (x_append_t (r := valsB S) (r2 := valsB [((slv b49_2 (0 + (List.length (List.getD S (List.length S - 1) bd).2) + (List.length (List.getD S (List.length S - 2) bd).2) + 1) cb49_2), ((([] ++ (List.getD S (List.length S - 1) bd).2) ++ (List.getD S (List.length S - 2) bd).2) ++ [(swp (l.getD i 0))]))]) (q := valsB ((List.take (List.length S - 2) S) ++ [((slv b49_2 (0 + (List.length (List.getD S (List.length S - 1) bd).2) + (List.length (List.getD S (List.length S - 2) bd).2) + 1) cb49_2), ((([] ++ (List.getD S (List.length S - 1) bd).2) ++ (List.getD S (List.length S - 2) bd).2) ++ [(swp (l.getD i 0))]))])) (n := (List.length S - 2)) (m := 1) rfl rfl rfl rfl rfl rfl (fun _ _ => ((((HpRep.head).tail).tail).tail).tail) (Rds.row m0 rfl) (by rw [valsB_len]; omega) (by rw [valsB_take]; exact valsB_app _ _) rfl (by decide) rfl (by first | omega | (dsimp only; omega)) (by first | omega | (dsimp only; omega)) (lt_dec rfl) fun b56_2 cb56_2 => ?_)
                    refine Ops_p (p_assign rfl) (lt_dec rfl) ?_
                    refine Ops_nil ?_
                    refine W_pool (S := S) (S' := ((List.take (List.length S - 2) S) ++ [((slv b49_2 (0 + (List.length (List.getD S (List.length S - 1) bd).2) + (List.length (List.getD S (List.length S - 2) bd).2) + 1) cb49_2), ((([] ++ (List.getD S (List.length S - 1) bd).2) ++ (List.getD S (List.length S - 2) bd).2) ++ [(swp (l.getD i 0))]))])) (slv b49_2 (0 + (List.length (List.getD S (List.length S - 1) bd).2) + (List.length (List.getD S (List.length S - 2) bd).2) + 1) cb49_2) (((([] ++ (List.getD S (List.length S - 1) bd).2) ++ (List.getD S (List.length S - 2) bd).2) ++ [(swp (l.getD i 0))])) (HpDels.cons ((HpDel.head).tail).tail (HpDels.cons ((HpDel.head).tail).tail HpDels.nil)) rfl rfl (own_of_row (by show _ = List.length _; first | (simp; done) | (simp; omega)) rfl) ((List.take_sublist _ _).append (List.Sublist.refl _)) ?_
                    refine W_region ?_
                    refine Ops_p (p_move rfl) (lt_dec rfl) ?_
                    refine Ops_p (p_add rfl rfl (by exact ⟨(by first | omega | (dsimp only; omega)), (by first | omega | (dsimp only; omega))⟩)) (lt_dec rfl) ?_
                    refine Ops_p (p_assign rfl) (lt_dec rfl) ?_
                    refine Ops_nil ?_
                    refine Exists.intro (i + 1, ((List.take (List.length S - 2) S) ++ [((slv b49_2 (0 + (List.length (List.getD S (List.length S - 1) bd).2) + (List.length (List.getD S (List.length S - 2) bd).2) + 1) cb49_2), ((([] ++ (List.getD S (List.length S - 1) bd).2) ++ (List.getD S (List.length S - 2) bd).2) ++ [(swp (l.getD i 0))]))]), b56_2, cb56_2) (And.intro ?_ (And.intro ?_ ?_))
                    · first | exact ⟨by show _ ≤ _; omega, hP.leaf hlf _⟩ | exact ⟨by show _ ≤ _; omega, hP.op hop _ (by first | rfl | simp)⟩
                    · show _ < _; omega
                    · exact Wk.intro (.cons rfl (by first | rfl | exact veq_int (by first | omega | (dsimp only; omega))) (.cons rfl (by exact veq_sl (by simp)) (.cons rfl (by first | rfl | exact veq_int (by first | omega | (dsimp only; omega))) .nil))) (.keep rfl rfl (pool_eq rfl) (.drop (.drop (.keep rfl rfl (fun _ h => h) (.keep rfl rfl (fun _ h => h) .nil)))))
                · refine x_buildSlice rfl rfl rfl rfl rfl rfl rfl rfl (Nat.le_of_ble_eq_true rfl) (lt_dec rfl) fun b48_3 => ?_
                  refine RA_quiet (g := 3) [11] (by kernel_rfl) (by kernel_rfl) (by kernel_rfl) (by kernel_rfl) ?_
                  refine WQ_cons rfl rfl rfl ((q_load_bs (S := S) (j := (List.length S - 2)) rfl rfl m3 rfl (by first | omega | (dsimp only; omega)) rfl rfl)) (lt_dec rfl) ?_
                  refine WQ_nil ?_
                  refine RA_one 12 rfl rfl (by kernel_rfl) (x_append_rd (m := (List.length (List.getD S (List.length S - 2) bd).2)) rfl rfl rfl rfl rfl rfl (fun _ _ => (HpRep.head).tail) (Rds.poolI (j := (List.length S - 2)) m2 (by first | omega | assumption)) rfl (by show _ = List.length _; simp) rfl (by first | omega | (dsimp only; omega)) rfl (by first | omega | (dsimp only; omega)) (by first | omega | (dsimp only; omega)) (lt_dec rfl) fun b46_3 cb46_3 => ?_)
                  refine RA_one 15 rfl rfl (by kernel_rfl) (x_append rfl rfl rfl rfl rfl rfl (fun _ _ => (HpRep.head).tail) (.inl ⟨m0, rfl⟩) rfl (by show _ = List.length _; simp) rfl (by first | omega | (dsimp only; omega)) rfl (by first | omega | (dsimp only; omega)) (by first | omega | (dsimp only; omega)) (lt_dec rfl) fun b49_3 cb49_3 => ?_)
                  refine RA_quiet (g := 0) [16] (by kernel_rfl) (by kernel_rfl) (by kernel_rfl) (by kernel_rfl) ?_
                  refine WQ_cons rfl rfl rfl ((p_assign rfl).q) (lt_dec rfl) ?_
                  refine WQ_nil ?_
                  refine RA_done (by kernel_rfl) ?_
                  refine W_region ?_
                  refine Ops_p (p_move rfl) (lt_dec rfl) ?_
                  refine Ops_p (p_move rfl) (lt_dec rfl) ?_
                  refine Ops_p (p_sub rfl rfl (by exact ⟨(by first | omega | (dsimp only; omega)), (by first | omega | (dsimp only; omega))⟩)) (lt_dec rfl) ?_
                  refine Ops_p (p_take (n := (List.length S - 2)) rfl rfl rfl rfl (by omega) (by omega)) (lt_dec rfl) ?_
                  refine Ops_p (p_move rfl) (lt_dec rfl) ?_
                  refine Ops_x rfl (x_buildSlice rfl rfl rfl rfl rfl rfl rfl rfl (Nat.le_of_ble_eq_true rfl) (lt_dec rfl) fun b55_3 => ?_)
                  refine Ops_x rfl (x_append_t (r := valsB S) (r2 := valsB [((slv b49_3 (0 + (List.length (List.getD S (List.length S - 1) bd).2) + (List.length (List.getD S (List.length S - 2) bd).2) + 1) cb49_3), ((([] ++ (List.getD S (List.length S - 1) bd).2) ++ (List.getD S (List.length S - 2) bd).2) ++ [(swp (l.getD i 0))]))]) (q := valsB ((List.take (List.length S - 2) S) ++ [((slv b49_3 (0 + (List.length (List.getD S (List.length S - 1) bd).2) + (List.length (List.getD S (List.length S - 2) bd).2) + 1) cb49_3), ((([] ++ (List.getD S (List.length S - 1) bd).2) ++ (List.getD S (List.length S - 2) bd).2) ++ [(swp (l.getD i 0))]))])) (n := (List.length S - 2)) (m := 1) rfl rfl rfl rfl rfl rfl (fun _ _ => ((((HpRep.head).tail).tail).tail).tail) (Rds.row m0 rfl) (by rw [valsB_len]; omega) (by rw [valsB_take]; exact valsB_app _ _) rfl (by decide) rfl (by first | omega | (dsimp only; omega)) (by first | omega | (dsimp only; omega)) (lt_dec rfl) fun b56_3 cb56_3 => ?_)
                  refine Ops_p (p_assign rfl) (lt_dec rfl) ?_
                  refine Ops_nil ?_
                  refine W_pool (S := S) (S' := ((List.take (List.length S - 2) S) ++ [((slv b49_3 (0 + (List.length (List.getD S (List.length S - 1) bd).2) + (List.length (List.getD S (List.length S - 2) bd).2) + 1) cb49_3), ((([] ++ (List.getD S (List.length S - 1) bd).2) ++ (List.getD S (List.length S - 2) bd).2) ++ [(swp (l.getD i 0))]))])) (slv b49_3 (0 + (List.length (List.getD S (List.length S - 1) bd).2) + (List.length (List.getD S (List.length S - 2) bd).2) + 1) cb49_3) (((([] ++ (List.getD S (List.length S - 1) bd).2) ++ (List.getD S (List.length S - 2) bd).2) ++ [(swp (l.getD i 0))])) (HpDels.cons ((HpDel.head).tail).tail (HpDels.cons ((HpDel.head).tail).tail HpDels.nil)) rfl rfl (own_of_row (by show _ = List.length _; first | (simp; done) | (simp; omega)) rfl) ((List.take_sublist _ _).append (List.Sublist.refl _)) ?_
                  refine W_region ?_
                  refine Ops_p (p_move rfl) (lt_dec rfl) ?_
                  refine Ops_p (p_add rfl rfl (by exact ⟨(by first | omega | (dsimp only; omega)), (by first | omega | (dsimp only; omega))⟩)) (lt_dec rfl) ?_
                  refine Ops_p (p_assign rfl) (lt_dec rfl) ?_
                  refine Ops_nil ?_
                  refine Exists.intro (i + 1, ((List.take (List.length S - 2) S) ++ [((slv b49_3 (0 + (List.length (List.getD S (List.length S - 1) bd).2) + (List.length (List.getD S (List.length S - 2) bd).2) + 1) cb49_3), ((([] ++ (List.getD S (List.length S - 1) bd).2) ++ (List.getD S (List.length S - 2) bd).2) ++ [(swp (l.getD i 0))]))]), b56_3, cb56_3) (And.intro ?_ (And.intro ?_ ?_))
                  · first | exact ⟨by show _ ≤ _; omega, hP.leaf hlf _⟩ | exact ⟨by show _ ≤ _; omega, hP.op hop _ (by first | rfl | simp)⟩
                  · show _ < _; omega
                  · exact Wk.intro (.cons rfl (by first | rfl | exact veq_int (by first | omega | (dsimp only; omega))) (.cons rfl (by exact veq_sl (by simp)) (.cons rfl (by first | rfl | exact veq_int (by first | omega | (dsimp only; omega))) .nil))) (.keep rfl rfl (pool_eq rfl) (.drop (.drop (.keep rfl rfl (fun _ h => h) (.keep rfl rfl (fun _ h => h) .nil)))))
              · refine Xt_of_Qt rfl (lt_dec rfl) ((q_load_bs (S := S) (j := (List.length S - 2)) rfl rfl m2 rfl (by first | omega | (dsimp only; omega)) rfl rfl)) ?_
                refine RA_two 6 14 rfl rfl rfl rfl (by kernel_rfl) ?_ ?_
                · refine x_append_rd (m := (List.length (List.getD S (List.length S - 1) bd).2)) rfl rfl rfl rfl rfl rfl (fun _ _ => HpRep.head) (Rds.poolI (j := (List.length S - 1)) m1 (by first | omega | assumption)) rfl rfl rfl (by first | omega | (dsimp only; omega)) rfl (by first | omega | (dsimp only; omega)) (by first | omega | (dsimp only; omega)) (lt_dec rfl) fun b40_2 cb40_2 => ?_
                  refine RA_two 12 14 rfl rfl rfl rfl (by kernel_rfl) ?_ ?_
                  · refine x_append_rd (m := (List.length (List.getD S (List.length S - 2) bd).2)) rfl rfl rfl rfl rfl rfl (fun _ _ => HpRep.head) (Rds.poolI (j := (List.length S - 2)) m1 (by first | omega | assumption)) rfl (by show _ = List.length _; simp) rfl (by first | omega | (dsimp only; omega)) rfl (by first | omega | (dsimp only; omega)) (by first | omega | (dsimp only; omega)) (lt_dec rfl) fun b46_4 cb46_4 => ?_
                    refine RA_one 14 rfl rfl (by kernel_rfl) (x_buildSlice rfl rfl rfl rfl rfl rfl rfl rfl (Nat.le_of_ble_eq_true rfl) (lt_dec rfl) fun b48_4 => ?_)
                    refine RA_one 15 rfl rfl (by kernel_rfl) (x_append rfl rfl rfl rfl rfl rfl (fun _ _ => (HpRep.head).tail) (.inl ⟨m0, rfl⟩) rfl (by show _ = List.length _; simp) rfl (by first | omega | (dsimp only; omega)) rfl (by first | omega | (dsimp only; omega)) (by first | omega | (dsimp only; omega)) (lt_dec rfl) fun b49_4 cb49_4 => ?_)
                    refine RA_quiet (g := 0) [16] (by kernel_rfl) (by kernel_rfl) (by kernel_rfl) (by kernel_rfl) ?_
                    refine WQ_cons rfl rfl rfl ((p_assign rfl).q) (lt_dec rfl) ?_
                    refine WQ_nil ?_
                    refine RA_done (by kernel_rfl) ?_
                    refine W_region ?_
                    refine Ops_p (p_move rfl) (lt_dec rfl) ?_
                    refine Ops_p (p_move rfl) (lt_dec rfl) ?_
                    refine Ops_p (p_sub rfl rfl (by exact ⟨(by first | omega | (dsimp only; omega)), (by first | omega | (dsimp only; omega))⟩)) (lt_dec rfl) ?_
                    refine Ops_p (p_take (n := (List.length S - 2)) rfl rfl rfl rfl (by omega) (by omega)) (lt_dec rfl) ?_
                    refine Ops_p (p_move rfl) (lt_dec rfl) ?_
                    refine Ops_x rfl (x_buildSlice rfl rfl rfl rfl rfl rfl rfl rfl (Nat.le_of_ble_eq_true rfl) (lt_dec rfl) fun b55_4 => ?_)
                    refine Ops_x rfl (x_append_t (r := valsB S) (r2 := valsB [((slv b49_4 (0 + (List.length (List.getD S (List.length S - 1) bd).2) + (List.length (List.getD S (List.length S - 2) bd).2) + 1) cb49_4), ((([] ++ (List.getD S (List.length S - 1) bd).2) ++ (List.getD S (List.length S - 2) bd).2) ++ [(swp (l.getD i 0))]))]) (q := valsB ((List.take (List.length S - 2) S) ++ [((slv b49_4 (0 + (List.length (List.getD S (List.length S - 1) bd).2) + (List.length (List.getD S (List.length S - 2) bd).2) + 1) cb49_4), ((([] ++ (List.getD S (List.length S - 1) bd).2) ++ (List.getD S (List.length S - 2) bd).2) ++ [(swp (l.getD i 0))]))])) (n := (List.length S - 2)) (m := 1) rfl rfl rfl rfl rfl rfl (fun _ _ => ((((HpRep.head).tail).tail).tail).tail) (Rds.row m0 rfl) (by rw [valsB_len]; omega) (by rw [valsB_take]; exact valsB_app _ _) rfl (by decide) rfl (by first | omega | (dsimp only; omega)) (by first | omega | (dsimp only; omega)) (lt_dec rfl) fun b56_4 cb56_4 => ?_)
                    refine Ops_p (p_assign rfl) (lt_dec rfl) ?_
                    refine Ops_nil ?_
                    refine W_pool (S := S) (S' := ((List.take (List.length S - 2) S) ++ [((slv b49_4 (0 + (List.length (List.getD S (List.length S - 1) bd).2) + (List.length (List.getD S (List.length S - 2) bd).2) + 1) cb49_4), ((([] ++ (List.getD S (List.length S - 1) bd).2) ++ (List.getD S (List.length S - 2) bd).2) ++ [(swp (l.getD i 0))]))])) (slv b49_4 (0 + (List.length (List.getD S (List.length S - 1) bd).2) + (List.length (List.getD S (List.length S - 2) bd).2) + 1) cb49_4) (((([] ++ (List.getD S (List.length S - 1) bd).2) ++ (List.getD S (List.length S - 2) bd).2) ++ [(swp (l.getD i 0))])) (HpDels.cons ((HpDel.head).tail).tail (HpDels.cons ((HpDel.head).tail).tail HpDels.nil)) rfl rfl (own_of_row (by show _ = List.length _; first | (simp; done) | (simp; omega)) rfl) ((List.take_sublist _ _).append (List.Sublist.refl _)) ?_
                    refine W_region ?_
                    refine Ops_p (p_move rfl) (lt_dec rfl) ?_
                    refine Ops_p (p_add rfl rfl (by exact ⟨(by first | omega | (dsimp only; omega)), (by first | omega | (dsimp only; omega))⟩)) (lt_dec rfl) ?_
                    refine Ops_p (p_assign rfl) (lt_dec rfl) ?_
                    refine Ops_nil ?_
                    refine Exists.intro (i + 1, ((List.take (List.length S - 2) S) ++ [((slv b49_4 (0 + (List.length (List.getD S (List.length S - 1) bd).2) + (List.length (List.getD S (List.length S - 2) bd).2) + 1) cb49_4), ((([] ++ (List.getD S (List.length S - 1) bd).2) ++ (List.getD S (List.length S - 2) bd).2) ++ [(swp (l.getD i 0))]))]), b56_4, cb56_4) (And.intro ?_ (And.intro ?_ ?_))
                    · first | exact ⟨by show _ ≤ _; omega, hP.leaf hlf _⟩ | exact ⟨by show _ ≤ _; omega, hP.op hop _ (by first | rfl | simp)⟩
                    · show _ < _; omega
                    · exact Wk.intro (.cons rfl (by first | rfl | exact veq_int (by first | omega | (dsimp only; omega))) (.cons rfl (by exact veq_sl (by simp)) (.cons rfl (by first | rfl | exact veq_int (by first | omega | (dsimp only; omega))) .nil))) (.keep rfl rfl (pool_eq rfl) (.drop (.drop (.keep rfl rfl (fun _ h => h) (.keep rfl rfl (fun _ h => h) .nil)))))
                  · refine x_buildSlice rfl rfl rfl rfl rfl rfl rfl rfl (Nat.le_of_ble_eq_true rfl) (lt_dec rfl) fun b48_5 => ?_
                    refine RA_one 12 rfl rfl (by kernel_rfl) (x_append_rd (m := (List.length (List.getD S (List.length S - 2) bd).2)) rfl rfl rfl rfl rfl rfl (fun _ _ => (HpRep.head).tail) (Rds.poolI (j := (List.length S - 2)) m2 (by first | omega | assumption)) rfl (by show _ = List.length _; simp) rfl (by first | omega | (dsimp only; omega)) rfl (by first | omega | (dsimp only; omega)) (by first | omega | (dsimp only; omega)) (lt_dec rfl) fun b46_5 cb46_5 => ?_)
                    refine RA_one 15 rfl rfl (by kernel_rfl) (x_append rfl rfl rfl rfl rfl rfl (fun _ _ => (HpRep.head).tail) (.inl ⟨m0, rfl⟩) rfl (by show _ = List.length _; simp) rfl (by first | omega | (dsimp only; omega)) rfl (by first | omega | (dsimp only; omega)) (by first | omega | (dsimp only; omega)) (lt_dec rfl) fun b49_5 cb49_5 => ?_)
                    refine RA_quiet (g := 0) [16] (by kernel_rfl) (by kernel_rfl) (by kernel_rfl) (by kernel_rfl) ?_
                    refine WQ_cons rfl rfl rfl ((p_assign rfl).q) (lt_dec rfl) ?_
                    refine WQ_nil ?_
                    refine RA_done (by kernel_rfl) ?_
                    refine W_region ?_
                    refine Ops_p (p_move rfl) (lt_dec rfl) ?_
                    refine Ops_p (p_move rfl) (lt_dec rfl) ?_
                    refine Ops_p (p_sub rfl rfl (by exact ⟨(by first | omega | (dsimp only; omega)), (by first | omega | (dsimp only; omega))⟩)) (lt_dec rfl) ?_
                    refine Ops_p (p_take (n := (List.length S - 2)) rfl rfl rfl rfl (by omega) (by omega)) (lt_dec rfl) ?_
                    refine Ops_p (p_move rfl) (lt_dec rfl) ?_
                    refine Ops_x rfl (x_buildSlice rfl rfl rfl rfl rfl rfl rfl rfl (Nat.le_of_ble_eq_true rfl) (lt_dec rfl) fun b55_5 => ?_)
                    refine Ops_x rfl (x_append_t (r := valsB S) (r2 := valsB [((slv b49_5 (0 + (List.length (List.getD S (List.length S - 1) bd).2) + (List.length (List.getD S (List.length S - 2) bd).2) + 1) cb49_5), ((([] ++ (List.getD S (List.length S - 1) bd).2) ++ (List.getD S (List.length S - 2) bd).2) ++ [(swp (l.getD i 0))]))]) (q := valsB ((List.take (List.length S - 2) S) ++ [((slv b49_5 (0 + (List.length (List.getD S (List.length S - 1) bd).2) + (List.length (List.getD S (List.length S - 2) bd).2) + 1) cb49_5), ((([] ++ (List.getD S (List.length S - 1) bd).2) ++ (List.getD S (List.length S - 2) bd).2) ++ [(swp (l.getD i 0))]))])) (n := (List.length S - 2)) (m := 1) rfl rfl rfl rfl rfl rfl (fun _ _ => ((((HpRep.head).tail).tail).tail).tail) (Rds.row m0 rfl) (by rw [valsB_len]; omega) (by rw [valsB_take]; exact valsB_app _ _) rfl (by decide) rfl (by first | omega | (dsimp only; omega)) (by first | omega | (dsimp only; omega)) (lt_dec rfl) fun b56_5 cb56_5 => ?_)
                    refine Ops_p (p_assign rfl) (lt_dec rfl) ?_
                    refine Ops_nil ?_
                    refine W_pool (S := S) (S' := ((List.take (List.length S - 2) S) ++ [((slv b49_5 (0 + (List.length (List.getD S (List.length S - 1) bd).2) + (List.length (List.getD S (List.length S - 2) bd).2) + 1) cb49_5), ((([] ++ (List.getD S (List.length S - 1) bd).2) ++ (List.getD S (List.length S - 2) bd).2) ++ [(swp (l.getD i 0))]))])) (slv b49_5 (0 + (List.length (List.getD S (List.length S - 1) bd).2) + (List.length (List.getD S (List.length S - 2) bd).2) + 1) cb49_5) (((([] ++ (List.getD S (List.length S - 1) bd).2) ++ (List.getD S (List.length S - 2) bd).2) ++ [(swp (l.getD i 0))])) (HpDels.cons ((HpDel.head).tail).tail (HpDels.cons ((HpDel.head).tail).tail HpDels.nil)) rfl rfl (own_of_row (by show _ = List.length _; first | (simp; done) | (simp; omega)) rfl) ((List.take_sublist _ _).append (List.Sublist.refl _)) ?_
                    refine W_region ?_
                    refine Ops_p (p_move rfl) (lt_dec rfl) ?_
                    refine Ops_p (p_add rfl rfl (by exact ⟨(by first | omega | (dsimp only; omega)), (by first | omega | (dsimp only; omega))⟩)) (lt_dec rfl) ?_
                    refine Ops_p (p_assign rfl) (lt_dec rfl) ?_
                    refine Ops_nil ?_
                    refine Exists.intro (i + 1, ((List.take (List.length S - 2) S) ++ [((slv b49_5 (0 + (List.length (List.getD S (List.length S - 1) bd).2) + (List.length (List.getD S (List.length S - 2) bd).2) + 1) cb49_5), ((([] ++ (List.getD S (List.length S - 1) bd).2) ++ (List.getD S (List.length S - 2) bd).2) ++ [(swp (l.getD i 0))]))]), b56_5, cb56_5) (And.intro ?_ (And.intro ?_ ?_))
                    · first | exact ⟨by show _ ≤ _; omega, hP.leaf hlf _⟩ | exact ⟨by show _ ≤ _; omega, hP.op hop _ (by first | rfl | simp)⟩
                    · show _ < _; omega
                    · exact Wk.intro (.cons rfl (by first | rfl | exact veq_int (by first | omega | (dsimp only; omega))) (.cons rfl (by exact veq_sl (by simp)) (.cons rfl (by first | rfl | exact veq_int (by first | omega | (dsimp only; omega))) .nil))) (.keep rfl rfl (pool_eq rfl) (.drop (.drop (.keep rfl rfl (fun _ h => h) (.keep rfl rfl (fun _ h => h) .nil)))))
                · refine x_buildSlice rfl rfl rfl rfl rfl rfl rfl rfl (Nat.le_of_ble_eq_true rfl) (lt_dec rfl) fun b48_6 => ?_
                  refine RA_one 6 rfl rfl (by kernel_rfl) (x_append_rd (m := (List.length (List.getD S (List.length S - 1) bd).2)) rfl rfl rfl rfl rfl rfl (fun _ _ => (HpRep.head).tail) (Rds.poolI (j := (List.length S - 1)) m2 (by first | omega | assumption)) rfl rfl rfl (by first | omega | (dsimp only; omega)) rfl (by first | omega | (dsimp only; omega)) (by first | omega | (dsimp only; omega)) (lt_dec rfl) fun b40_3 cb40_3 => ?_)
                  refine RA_one 12 rfl rfl (by kernel_rfl) (x_append_rd (m := (List.length (List.getD S (List.length S - 2) bd).2)) rfl rfl rfl rfl rfl rfl (fun _ _ => (HpRep.head).tail) (Rds.poolI (j := (List.length S - 2)) m2 (by first | omega | assumption)) rfl (by show _ = List.length _; simp) rfl (by first | omega | (dsimp only; omega)) rfl (by first | omega | (dsimp only; omega)) (by first | omega | (dsimp only; omega)) (lt_dec rfl) fun b46_6 cb46_6 => ?_)
                  refine RA_one 15 rfl rfl (by kernel_rfl) (x_append rfl rfl rfl rfl rfl rfl (fun _ _ => (HpRep.head).tail) (.inl ⟨m0, rfl⟩) rfl (by show _ = List.length _; simp) rfl (by first | omega | (dsimp only; omega)) rfl (by first | omega | (dsimp only; omega)) (by first | omega | (dsimp only; omega)) (lt_dec rfl) fun b49_6 cb49_6 => ?_)
                  refine RA_quiet (g := 0) [16] (by kernel_rfl) (by kernel_rfl) (by kernel_rfl) (by kernel_rfl) ?_
                  refine WQ_cons rfl rfl rfl ((p_assign rfl).q) (lt_dec rfl) ?_
                  refine WQ_nil ?_
                  refine RA_done (by kernel_rfl) ?_
                  refine W_region ?_
                  refine Ops_p (p_move rfl) (lt_dec rfl) ?_
                  refine Ops_p (p_move rfl) (lt_dec rfl) ?_
                  refine Ops_p (p_sub rfl rfl (by exact ⟨(by first | omega | (dsimp only; omega)), (by first | omega | (dsimp only; omega))⟩)) (lt_dec rfl) ?_
                  refine Ops_p (p_take (n := (List.length S - 2)) rfl rfl rfl rfl (by omega) (by omega)) (lt_dec rfl) ?_
                  refine Ops_p (p_move rfl) (lt_dec rfl) ?_
                  refine Ops_x rfl (x_buildSlice rfl rfl rfl rfl rfl rfl rfl rfl (Nat.le_of_ble_eq_true rfl) (lt_dec rfl) fun b55_6 => ?_)
                  refine Ops_x rfl (x_append_t (r := valsB S) (r2 := valsB [((slv b49_6 (0 + (List.length (List.getD S (List.length S - 1) bd).2) + (List.length (List.getD S (List.length S - 2) bd).2) + 1) cb49_6), ((([] ++ (List.getD S (List.length S - 1) bd).2) ++ (List.getD S (List.length S - 2) bd).2) ++ [(swp (l.getD i 0))]))]) (q := valsB ((List.take (List.length S - 2) S) ++ [((slv b49_6 (0 + (List.length (List.getD S (List.length S - 1) bd).2) + (List.length (List.getD S (List.length S - 2) bd).2) + 1) cb49_6), ((([] ++ (List.getD S (List.length S - 1) bd).2) ++ (List.getD S (List.length S - 2) bd).2) ++ [(swp (l.getD i 0))]))])) (n := (List.length S - 2)) (m := 1) rfl rfl rfl rfl rfl rfl (fun _ _ => ((((HpRep.head).tail).tail).tail).tail) (Rds.row m0 rfl) (by rw [valsB_len]; omega) (by rw [valsB_take]; exact valsB_app _ _) rfl (by decide) rfl (by first | omega | (dsimp only; omega)) (by first | omega | (dsimp only; omega)) (lt_dec rfl) fun b56_6 cb56_6 => ?_)
                  refine Ops_p (p_assign rfl) (lt_dec rfl) ?_
                  refine Ops_nil ?_
                  refine W_pool (S := S) (S' := ((List.take (List.length S - 2) S) ++ [((slv b49_6 (0 + (List.length (List.getD S (List.length S - 1) bd).2) + (List.length (List.getD S (List.length S - 2) bd).2) + 1) cb49_6), ((([] ++ (List.getD S (List.length S - 1) bd).2) ++ (List.getD S (List.length S - 2) bd).2) ++ [(swp (l.getD i 0))]))])) (slv b49_6 (0 + (List.length (List.getD S (List.length S - 1) bd).2) + (List.length (List.getD S (List.length S - 2) bd).2) + 1) cb49_6) (((([] ++ (List.getD S (List.length S - 1) bd).2) ++ (List.getD S (List.length S - 2) bd).2) ++ [(swp (l.getD i 0))])) (HpDels.cons ((HpDel.head).tail).tail (HpDels.cons ((HpDel.head).tail).tail HpDels.nil)) rfl rfl (own_of_row (by show _ = List.length _; first | (simp; done) | (simp; omega)) rfl) ((List.take_sublist _ _).append (List.Sublist.refl _)) ?_
                  refine W_region ?_
                  refine Ops_p (p_move rfl) (lt_dec rfl) ?_
                  refine Ops_p (p_add rfl rfl (by exact ⟨(by first | omega | (dsimp only; omega)), (by first | omega | (dsimp only; omega))⟩)) (lt_dec rfl) ?_
                  refine Ops_p (p_assign rfl) (lt_dec rfl) ?_
                  refine Ops_nil ?_
                  refine Exists.intro (i + 1, ((List.take (List.length S - 2) S) ++ [((slv b49_6 (0 + (List.length (List.getD S (List.length S - 1) bd).2) + (List.length (List.getD S (List.length S - 2) bd).2) + 1) cb49_6), ((([] ++ (List.getD S (List.length S - 1) bd).2) ++ (List.getD S (List.length S - 2) bd).2) ++ [(swp (l.getD i 0))]))]), b56_6, cb56_6) (And.intro ?_ (And.intro ?_ ?_))
                  · first | exact ⟨by show _ ≤ _; omega, hP.leaf hlf _⟩ | exact ⟨by show _ ≤ _; omega, hP.op hop _ (by first | rfl | simp)⟩
                  · show _ < _; omega
                  · exact Wk.intro (.cons rfl (by first | rfl | exact veq_int (by first | omega | (dsimp only; omega))) (.cons rfl (by exact veq_sl (by simp)) (.cons rfl (by first | rfl | exact veq_int (by first | omega | (dsimp only; omega))) .nil))) (.keep rfl rfl (pool_eq rfl) (.drop (.drop (.keep rfl rfl (fun _ h => h) (.keep rfl rfl (fun _ h => h) .nil)))))
              · refine x_buildSlice rfl rfl rfl rfl rfl rfl rfl rfl (Nat.le_of_ble_eq_true rfl) (lt_dec rfl) fun b48_7 => ?_
                refine RA_two 6 11 rfl rfl rfl rfl (by kernel_rfl) ?_ ?_
                · refine x_append_rd (m := (List.length (List.getD S (List.length S - 1) bd).2)) rfl rfl rfl rfl rfl rfl (fun _ _ => (HpRep.head).tail) (Rds.poolI (j := (List.length S - 1)) m2 (by first | omega | assumption)) rfl rfl rfl (by first | omega | (dsimp only; omega)) rfl (by first | omega | (dsimp only; omega)) (by first | omega | (dsimp only; omega)) (lt_dec rfl) fun b40_4 cb40_4 => ?_
                  refine RA_quiet (g := 3) [11] (by kernel_rfl) (by kernel_rfl) (by kernel_rfl) (by kernel_rfl) ?_
                  refine WQ_cons rfl rfl rfl ((q_load_bs (S := S) (j := (List.length S - 2)) rfl rfl m3 rfl (by first | omega | (dsimp only; omega)) rfl rfl)) (lt_dec rfl) ?_
                  refine WQ_nil ?_
                  refine RA_one 12 rfl rfl (by kernel_rfl) (x_append_rd (m := (List.length (List.getD S (List.length S - 2) bd).2)) rfl rfl rfl rfl rfl rfl (fun _ _ => (HpRep.head).tail) (Rds.poolI (j := (List.length S - 2)) m2 (by first | omega | assumption)) rfl (by show _ = List.length _; simp) rfl (by first | omega | (dsimp only; omega)) rfl (by first | omega | (dsimp only; omega)) (by first | omega | (dsimp only; omega)) (lt_dec rfl) fun b46_7 cb46_7 => ?_)
                  refine RA_one 15 rfl rfl (by kernel_rfl) (x_append rfl rfl rfl rfl rfl rfl (fun _ _ => (HpRep.head).tail) (.inl ⟨m0, rfl⟩) rfl (by show _ = List.length _; simp) rfl (by first | omega | (dsimp only; omega)) rfl (by first | omega | (dsimp only; omega)) (by first | omega | (dsimp only; omega)) (lt_dec rfl) fun b49_7 cb49_7 => ?_)
                  refine RA_quiet (g := 0) [16] (by kernel_rfl) (by kernel_rfl) (by kernel_rfl) (by kernel_rfl) ?_
                  refine WQ_cons rfl rfl rfl ((p_assign rfl).q) (lt_dec rfl) ?_
                  refine WQ_nil ?_
                  refine RA_done (by kernel_rfl) ?_
                  refine W_region ?_
                  refine Ops_p (p_move rfl) (lt_dec rfl) ?_
                  refine Ops_p (p_move rfl) (lt_dec rfl) ?_
                  refine Ops_p (p_sub rfl rfl (by exact ⟨(by first | omega | (dsimp only; omega)), (by first | omega | (dsimp only; omega))⟩)) (lt_dec rfl) ?_
                  refine Ops_p (p_take (n := (List.length S - 2)) rfl rfl rfl rfl (by omega) (by omega)) (lt_dec rfl) ?_
                  refine Ops_p (p_move rfl) (lt_dec rfl) ?_
                  refine Ops_x rfl (x_buildSlice rfl rfl rfl rfl rfl rfl rfl rfl (Nat.le_of_ble_eq_true rfl) (lt_dec rfl) fun b55_7 => ?_)
                  refine Ops_x rfl (x_append_t (r := valsB S) (r2 := valsB [((slv b49_7 (0 + (List.length (List.getD S (List.length S - 1) bd).2) + (List.length (List.getD S (List.length S - 2) bd).2) + 1) cb49_7), ((([] ++ (List.getD S (List.length S - 1) bd).2) ++ (List.getD S (List.length S - 2) bd).2) ++ [(swp (l.getD i 0))]))]) (q := valsB ((List.take (List.length S - 2) S) ++ [((slv b49_7 (0 + (List.length (List.getD S (List.length S - 1) bd).2) + (List.length (List.getD S (List.length S - 2) bd).2) + 1) cb49_7), ((([] ++ (List.getD S (List.length S - 1) bd).2) ++ (List.getD S (List.length S - 2) bd).2) ++ [(swp (l.getD i 0))]))])) (n := (List.length S - 2)) (m := 1) rfl rfl rfl rfl rfl rfl (fun _ _ => ((((HpRep.head).tail).tail).tail).tail) (Rds.row m0 rfl) (by rw [valsB_len]; omega) (by rw [valsB_take]; exact valsB_app _ _) rfl (by decide) rfl (by first | omega | (dsimp only; omega)) (by first | omega | (dsimp only; omega)) (lt_dec rfl) fun b56_7 cb56_7 => ?_)
                  refine Ops_p (p_assign rfl) (lt_dec rfl) ?_
                  refine Ops_nil ?_
                  refine W_pool (S := S) (S' := ((List.take (List.length S - 2) S) ++ [((slv b49_7 (0 + (List.length (List.getD S (List.length S - 1) bd).2) + (List.length (List.getD S (List.length S - 2) bd).2) + 1) cb49_7), ((([] ++ (List.getD S (List.length S - 1) bd).2) ++ (List.getD S (List.length S - 2) bd).2) ++ [(swp (l.getD i 0))]))])) (slv b49_7 (0 + (List.length (List.getD S (List.length S - 1) bd).2) + (List.length (List.getD S (List.length S - 2) bd).2) + 1) cb49_7) (((([] ++ (List.getD S (List.length S - 1) bd).2) ++ (List.getD S (List.length S - 2) bd).2) ++ [(swp (l.getD i 0))])) (HpDels.cons ((HpDel.head).tail).tail (HpDels.cons ((HpDel.head).tail).tail HpDels.nil)) rfl rfl (own_of_row (by show _ = List.length _; first | (simp; done) | (simp; omega)) rfl) ((List.take_sublist _ _).append (List.Sublist.refl _)) ?_
                  refine W_region ?_
                  refine Ops_p (p_move rfl) (lt_dec rfl) ?_
                  refine Ops_p (p_add rfl rfl (by exact ⟨(by first | omega | (dsimp only; omega)), (by first | omega | (dsimp only; omega))⟩)) (lt_dec rfl) ?_
                  refine Ops_p (p_assign rfl) (lt_dec rfl) ?_
                  refine Ops_nil ?_
                  refine Exists.intro (i + 1, ((List.take (List.length S - 2) S) ++ [((slv b49_7 (0 + (List.length (List.getD S (List.length S - 1) bd).2) + (List.length (List.getD S (List.length S - 2) bd).2) + 1) cb49_7), ((([] ++ (List.getD S (List.length S - 1) bd).2) ++ (List.getD S (List.length S - 2) bd).2) ++ [(swp (l.getD i 0))]))]), b56_7, cb56_7) (And.intro ?_ (And.intro ?_ ?_))
                  · first | exact ⟨by show _ ≤ _; omega, hP.leaf hlf _⟩ | exact ⟨by show _ ≤ _; omega, hP.op hop _ (by first | rfl | simp)⟩
                  · show _ < _; omega
                  · exact Wk.intro (.cons rfl (by first | rfl | exact veq_int (by first | omega | (dsimp only; omega))) (.cons rfl (by exact veq_sl (by simp)) (.cons rfl (by first | rfl | exact veq_int (by first | omega | (dsimp only; omega))) .nil))) (.keep rfl rfl (pool_eq rfl) (.drop (.drop (.keep rfl rfl (fun _ h => h) (.keep rfl rfl (fun _ h => h) .nil)))))
                · refine Xt_of_Qt rfl (lt_dec rfl) ((q_load_bs (S := S) (j := (List.length S - 2)) rfl rfl m3 rfl (by first | omega | (dsimp only; omega)) rfl rfl)) ?_
                  refine RA_one 6 rfl rfl (by kernel_rfl) (x_append_rd (m := (List.length (List.getD S (List.length S - 1) bd).2)) rfl rfl rfl rfl rfl rfl (fun _ _ => (HpRep.head).tail) (Rds.poolI (j := (List.length S - 1)) m2 (by first | omega | assumption)) rfl rfl rfl (by first | omega | (dsimp only; omega)) rfl (by first | omega | (dsimp only; omega)) (by first | omega | (dsimp only; omega)) (lt_dec rfl) fun b40_5 cb40_5 => ?_)
                  refine RA_one 12 rfl rfl (by kernel_rfl) (x_append_rd (m := (List.length (List.getD S (List.length S - 2) bd).2)) rfl rfl rfl rfl rfl rfl (fun _ _ => (HpRep.head).tail) (Rds.poolI (j := (List.length S - 2)) m2 (by first | omega | assumption)) rfl (by show _ = List.length _; simp) rfl (by first | omega | (dsimp only; omega)) rfl (by first | omega | (dsimp only; omega)) (by first | omega | (dsimp only; omega)) (lt_dec rfl) fun b46_8 cb46_8 => ?_)
                  refine RA_one 15 rfl rfl (by kernel_rfl) (x_append rfl rfl rfl rfl rfl rfl (fun _ _ => (HpRep.head).tail) (.inl ⟨m0, rfl⟩) rfl (by show _ = List.length _; simp) rfl (by first | omega | (dsimp only; omega)) rfl (by first | omega | (dsimp only; omega)) (by first | omega | (dsimp only; omega)) (lt_dec rfl) fun b49_8 cb49_8 => ?_)
                  refine RA_quiet (g := 0) [16] (by kernel_rfl) (by kernel_rfl) (by kernel_rfl) (by kernel_rfl) ?_
                  refine WQ_cons rfl rfl rfl ((p_assign rfl).q) (lt_dec rfl) ?_
                  refine WQ_nil ?_
                  refine RA_done (by kernel_rfl) ?_
                  refine W_region ?_
                  refine Ops_p (p_move rfl) (lt_dec rfl) ?_
                  refine Ops_p (p_move rfl) (lt_dec rfl) ?_
                  refine Ops_p (p_sub rfl rfl (by exact ⟨(by first | omega | (dsimp only; omega)), (by first | omega | (dsimp only; omega))⟩)) (lt_dec rfl) ?_
                  refine Ops_p (p_take (n := (List.length S - 2)) rfl rfl rfl rfl (by omega) (by omega)) (lt_dec rfl) ?_
                  refine Ops_p (p_move rfl) (lt_dec rfl) ?_
                  refine Ops_x rfl (x_buildSlice rfl rfl rfl rfl rfl rfl rfl rfl (Nat.le_of_ble_eq_true rfl) (lt_dec rfl) fun b55_8 => ?_)
                  refine Ops_x rfl (x_append_t (r := valsB S) (r2 := valsB [((slv b49_8 (0 + (List.length (List.getD S (List.length S - 1) bd).2) + (List.length (List.getD S (List.length S - 2) bd).2) + 1) cb49_8), ((([] ++ (List.getD S (List.length S - 1) bd).2) ++ (List.getD S (List.length S - 2) bd).2) ++ [(swp (l.getD i 0))]))]) (q := valsB ((List.take (List.length S - 2) S) ++ [((slv b49_8 (0 + (List.length (List.getD S (List.length S - 1) bd).2) + (List.length (List.getD S (List.length S - 2) bd).2) + 1) cb49_8), ((([] ++ (List.getD S (List.length S - 1) bd).2) ++ (List.getD S (List.length S - 2) bd).2) ++ [(swp (l.getD i 0))]))])) (n := (List.length S - 2)) (m := 1) rfl rfl rfl rfl rfl rfl (fun _ _ => ((((HpRep.head).tail).tail).tail).tail) (Rds.row m0 rfl) (by rw [valsB_len]; omega) (by rw [valsB_take]; exact valsB_app _ _) rfl (by decide) rfl (by first | omega | (dsimp only; omega)) (by first | omega | (dsimp only; omega)) (lt_dec rfl) fun b56_8 cb56_8 => ?_)
                  refine Ops_p (p_assign rfl) (lt_dec rfl) ?_
                  refine Ops_nil ?_
                  refine W_pool (S := S) (S' := ((List.take (List.length S - 2) S) ++ [((slv b49_8 (0 + (List.length (List.getD S (List.length S - 1) bd).2) + (List.length (List.getD S (List.length S - 2) bd).2) + 1) cb49_8), ((([] ++ (List.getD S (List.length S - 1) bd).2) ++ (List.getD S (List.length S - 2) bd).2) ++ [(swp (l.getD i 0))]))])) (slv b49_8 (0 + (List.length (List.getD S (List.length S - 1) bd).2) + (List.length (List.getD S (List.length S - 2) bd).2) + 1) cb49_8) (((([] ++ (List.getD S (List.length S - 1) bd).2) ++ (List.getD S (List.length S - 2) bd).2) ++ [(swp (l.getD i 0))])) (HpDels.cons ((HpDel.head).tail).tail (HpDels.cons ((HpDel.head).tail).tail HpDels.nil)) rfl rfl (own_of_row (by show _ = List.length _; first | (simp; done) | (simp; omega)) rfl) ((List.take_sublist _ _).append (List.Sublist.refl _)) ?_
                  refine W_region ?_
                  refine Ops_p (p_move rfl) (lt_dec rfl) ?_
                  refine Ops_p (p_add rfl rfl (by exact ⟨(by first | omega | (dsimp only; omega)), (by first | omega | (dsimp only; omega))⟩)) (lt_dec rfl) ?_
                  refine Ops_p (p_assign rfl) (lt_dec rfl) ?_
                  refine Ops_nil ?_
                  refine Exists.intro (i + 1, ((List.take (List.length S - 2) S) ++ [((slv b49_8 (0 + (List.length (List.getD S (List.length S - 1) bd).2) + (List.length (List.getD S (List.length S - 2) bd).2) + 1) cb49_8), ((([] ++ (List.getD S (List.length S - 1) bd).2) ++ (List.getD S (List.length S - 2) bd).2) ++ [(swp (l.getD i 0))]))]), b56_8, cb56_8) (And.intro ?_ (And.intro ?_ ?_))
                  · first | exact ⟨by show _ ≤ _; omega, hP.leaf hlf _⟩ | exact ⟨by show _ ≤ _; omega, hP.op hop _ (by first | rfl | simp)⟩
                  · show _ < _; omega
                  · exact Wk.intro (.cons rfl (by first | rfl | exact veq_int (by first | omega | (dsimp only; omega))) (.cons rfl (by exact veq_sl (by simp)) (.cons rfl (by first | rfl | exact veq_int (by first | omega | (dsimp only; omega))) .nil))) (.keep rfl rfl (pool_eq rfl) (.drop (.drop (.keep rfl rfl (fun _ h => h) (.keep rfl rfl (fun _ h => h) .nil)))))
            · refine Xt_of_Qt rfl (lt_dec rfl) ((q_load_bs (S := S) (j := (List.length S - 2)) rfl rfl m2 rfl (by first | omega | (dsimp only; omega)) rfl rfl)) ?_
              refine RA_two 5 14 rfl rfl rfl rfl (by kernel_rfl) ?_ ?_
              · refine Xt_of_Qt rfl (lt_dec rfl) ((q_load_bs (S := S) (j := (List.length S - 1)) rfl rfl m2 rfl (by first | omega | (dsimp only; omega)) rfl rfl)) ?_
                refine RA_two 6 14 rfl rfl rfl rfl (by kernel_rfl) ?_ ?_
                · refine x_append_rd (m := (List.length (List.getD S (List.length S - 1) bd).2)) rfl rfl rfl rfl rfl rfl (fun _ _ => HpRep.head) (Rds.poolI (j := (List.length S - 1)) m1 (by first | omega | assumption)) rfl rfl rfl (by first | omega | (dsimp only; omega)) rfl (by first | omega | (dsimp only; omega)) (by first | omega | (dsimp only; omega)) (lt_dec rfl) fun b40_6 cb40_6 => ?_
                  refine RA_two 12 14 rfl rfl rfl rfl (by kernel_rfl) ?_ ?_
                  · refine x_append_rd (m := (List.length (List.getD S (List.length S - 2) bd).2)) rfl rfl rfl rfl rfl rfl (fun _ _ => HpRep.head) (Rds.poolI (j := (List.length S - 2)) m1 (by first | omega | assumption)) rfl (by show _ = List.length _; simp) rfl (by first | omega | (dsimp only; omega)) rfl (by first | omega | (dsimp only; omega)) (by first | omega | (dsimp only; omega)) (lt_dec rfl) fun b46_9 cb46_9 => ?_
                    refine RA_one 14 rfl rfl (by kernel_rfl) (x_buildSlice rfl rfl rfl rfl rfl rfl rfl rfl (Nat.le_of_ble_eq_true rfl) (lt_dec rfl) fun b48_8 => ?_)
                    refine RA_one 15 rfl rfl (by kernel_rfl) (x_append rfl rfl rfl rfl rfl rfl (fun _ _ => (HpRep.head).tail) (.inl ⟨m0, rfl⟩) rfl (by show _ = List.length _; simp) rfl (by first | omega | (dsimp only; omega)) rfl (by first | omega | (dsimp only; omega)) (by first | omega | (dsimp only; omega)) (lt_dec rfl) fun b49_9 cb49_9 => ?_)
                    refine RA_quiet (g := 0) [16] (by kernel_rfl) (by kernel_rfl) (by kernel_rfl) (by kernel_rfl) ?_
                    refine WQ_cons rfl rfl rfl ((p_assign rfl).q) (lt_dec rfl) ?_
                    refine WQ_nil ?_
                    refine RA_done (by kernel_rfl) ?_
                    refine W_region ?_
                    refine Ops_p (p_move rfl) (lt_dec rfl) ?_
                    refine Ops_p (p_move rfl) (lt_dec rfl) ?_
                    refine Ops_p (p_sub rfl rfl (by exact ⟨(by first | omega | (dsimp only; omega)), (by first | omega | (dsimp only; omega))⟩)) (lt_dec rfl) ?_
                    refine Ops_p (p_take (n := (List.length S - 2)) rfl rfl rfl rfl (by omega) (by omega)) (lt_dec rfl) ?_
                    refine Ops_p (p_move rfl) (lt_dec rfl) ?_
                    refine Ops_x rfl (x_buildSlice rfl rfl rfl rfl rfl rfl rfl rfl (Nat.le_of_ble_eq_true rfl) (lt_dec rfl) fun b55_9 => ?_)
                    refine Ops_x rfl (x_append_t (r := valsB S) (r2 := valsB [((slv b49_9 (0 + (List.length (List.getD S (List.length S - 1) bd).2) + (List.length (List.getD S (List.length S - 2) bd).2) + 1) cb49_9), ((([] ++ (List.getD S (List.length S - 1) bd).2) ++ (List.getD S (List.length S - 2) bd).2) ++ [(swp (l.getD i 0))]))]) (q := valsB ((List.take (List.length S - 2) S) ++ [((slv b49_9 (0 + (List.length (List.getD S (List.length S - 1) bd).2) + (List.length (List.getD S (List.length S - 2) bd).2) + 1) cb49_9), ((([] ++ (List.getD S (List.length S - 1) bd).2) ++ (List.getD S (List.length S - 2) bd).2) ++ [(swp (l.getD i 0))]))])) (n := (List.length S - 2)) (m := 1) rfl rfl rfl rfl rfl rfl (fun _ _ => ((((HpRep.head).tail).tail).tail).tail) (Rds.row m0 rfl) (by rw [valsB_len]; omega) (by rw [valsB_take]; exact valsB_app _ _) rfl (by decide) rfl (by first | omega | (dsimp only; omega)) (by first | omega | (dsimp only; omega)) (lt_dec rfl) fun b56_9 cb56_9 => ?_)
                    refine Ops_p (p_assign rfl) (lt_dec rfl) ?_
                    refine Ops_nil ?_
                    refine W_pool (S := S) (S' := ((List.take (List.length S - 2) S) ++ [((slv b49_9 (0 + (List.length (List.getD S (List.length S - 1) bd).2) + (List.length (List.getD S (List.length S - 2) bd).2) + 1) cb49_9), ((([] ++ (List.getD S (List.length S - 1) bd).2) ++ (List.getD S (List.length S - 2) bd).2) ++ [(swp (l.getD i 0))]))])) (slv b49_9 (0 + (List.length (List.getD S (List.length S - 1) bd).2) + (List.length (List.getD S (List.length S - 2) bd).2) + 1) cb49_9) (((([] ++ (List.getD S (List.length S - 1) bd).2) ++ (List.getD S (List.length S - 2) bd).2) ++ [(swp (l.getD i 0))])) (HpDels.cons ((HpDel.head).tail).tail (HpDels.cons ((HpDel.head).tail).tail HpDels.nil)) rfl rfl (own_of_row (by show _ = List.length _; first | (simp; done) | (simp; omega)) rfl) ((List.take_sublist _ _).append (List.Sublist.refl _)) ?_
                    refine W_region ?_
                    refine Ops_p (p_move rfl) (lt_dec rfl) ?_
                    refine Ops_p (p_add rfl rfl (by exact ⟨(by first | omega | (dsimp only; omega)), (by first | omega | (dsimp only; omega))⟩)) (lt_dec rfl) ?_
                    refine Ops_p (p_assign rfl) (lt_dec rfl) ?_
                    refine Ops_nil ?_
                    refine Exists.intro (i + 1, ((List.take (List.length S - 2) S) ++ [((slv b49_9 (0 + (List.length (List.getD S (List.length S - 1) bd).2) + (List.length (List.getD S (List.length S - 2) bd).2) + 1) cb49_9), ((([] ++ (List.getD S (List.length S - 1) bd).2) ++ (List.getD S (List.length S - 2) bd).2) ++ [(swp (l.getD i 0))]))]), b56_9, cb56_9) (And.intro ?_ (And.intro ?_ ?_))
                    · first | exact ⟨by show _ ≤ _; omega, hP.leaf hlf _⟩ | exact ⟨by show _ ≤ _; omega, hP.op hop _ (by first | rfl | simp)⟩
                    · show _ < _; omega
                    · exact Wk.intro (.cons rfl (by first | rfl | exact veq_int (by first | omega | (dsimp only; omega))) (.cons rfl (by exact veq_sl (by simp)) (.cons rfl (by first | rfl | exact veq_int (by first | omega | (dsimp only; omega))) .nil))) (.keep rfl rfl (pool_eq rfl) (.drop (.drop (.keep rfl rfl (fun _ h => h) (.keep rfl rfl (fun _ h => h) .nil)))))
                  · refine x_buildSlice rfl rfl rfl rfl rfl rfl rfl rfl (Nat.le_of_ble_eq_true rfl) (lt_dec rfl) fun b48_9 => ?_
                    refine RA_one 12 rfl rfl (by kernel_rfl) (x_append_rd (m := (List.length (List.getD S (List.length S - 2) bd).2)) rfl rfl rfl rfl rfl rfl (fun _ _ => (HpRep.head).tail) (Rds.poolI (j := (List.length S - 2)) m2 (by first | omega | assumption)) rfl (by show _ = List.length _; simp) rfl (by first | omega | (dsimp only; omega)) rfl (by first | omega | (dsimp only; omega)) (by first | omega | (dsimp only; omega)) (lt_dec rfl) fun b46_10 cb46_10 => ?_)
                    refine RA_one 15 rfl rfl (by kernel_rfl) (x_append rfl rfl rfl rfl rfl rfl (fun _ _ => (HpRep.head).tail) (.inl ⟨m0, rfl⟩) rfl (by show _ = List.length _; simp) rfl (by first | omega | (dsimp only; omega)) rfl (by first | omega | (dsimp only; omega)) (by first | omega | (dsimp only; omega)) (lt_dec rfl) fun b49_10 cb49_10 => ?_)
                    refine RA_quiet (g := 0) [16] (by kernel_rfl) (by kernel_rfl) (by kernel_rfl) (by kernel_rfl) ?_
                    refine WQ_cons rfl rfl rfl ((p_assign rfl).q) (lt_dec rfl) ?_
                    refine WQ_nil ?_
                    refine RA_done (by kernel_rfl) ?_
                    refine W_region ?_
                    refine Ops_p (p_move rfl) (lt_dec rfl) ?_
                    refine Ops_p (p_move rfl) (lt_dec rfl) ?_
                    refine Ops_p (p_sub rfl rfl (by exact ⟨(by first | omega | (dsimp only; omega)), (by first | omega | (dsimp only; omega))⟩)) (lt_dec rfl) ?_
                    refine Ops_p (p_take (n := (List.length S - 2)) rfl rfl rfl rfl (by omega) (by omega)) (lt_dec rfl) ?_
                    refine Ops_p (p_move rfl) (lt_dec rfl) ?_
                    refine Ops_x rfl (x_buildSlice rfl rfl rfl rfl rfl rfl rfl rfl (Nat.le_of_ble_eq_true rfl) (lt_dec rfl) fun b55_10 => ?_)
                    refine Ops_x rfl (x_append_t (r := valsB S) (r2 := valsB [((slv b49_10 (0 + (List.length (List.getD S (List.length S - 1) bd).2) + (List.length (List.getD S (List.length S - 2) bd).2) + 1) cb49_10), ((([] ++ (List.getD S (List.length S - 1) bd).2) ++ (List.getD S (List.length S - 2) bd).2) ++ [(swp (l.getD i 0))]))]) (q := valsB ((List.take (List.length S - 2) S) ++ [((slv b49_10 (0 + (List.length (List.getD S (List.length S - 1) bd).2) + (List.length (List.getD S (List.length S - 2) bd).2) + 1) cb49_10), ((([] ++ (List.getD S (List.length S - 1) bd).2) ++ (List.getD S (List.length S - 2) bd).2) ++ [(swp (l.getD i 0))]))])) (n := (List.length S - 2)) (m := 1) rfl rfl rfl rfl rfl rfl (fun _ _ => ((((HpRep.head).tail).tail).tail).tail) (Rds.row m0 rfl) (by rw [valsB_len]; omega) (by rw [valsB_take]; exact valsB_app _ _) rfl (by decide) rfl (by first | omega | (dsimp only; omega)) (by first | omega | (dsimp only; omega)) (lt_dec rfl) fun b56_10 cb56_10 => ?_)
                    refine Ops_p (p_assign rfl) (lt_dec rfl) ?_
                    refine Ops_nil ?_
                    refine W_pool (S := S) (S' := ((List.take (List.length S - 2) S) ++ [((slv b49_10 (0 + (List.length (List.getD S (List.length S - 1) bd).2) + (List.length (List.getD S (List.length S - 2) bd).2) + 1) cb49_10), ((([] ++ (List.getD S (List.length S - 1) bd).2) ++ (List.getD S (List.length S - 2) bd).2) ++ [(swp (l.getD i 0))]))])) (slv b49_10 (0 + (List.length (List.getD S (List.length S - 1) bd).2) + (List.length (List.getD S (List.length S - 2) bd).2) + 1) cb49_10) (((([] ++ (List.getD S (List.length S - 1) bd).2) ++ (List.getD S (List.length S - 2) bd).2) ++ [(swp (l.getD i 0))])) (HpDels.cons ((HpDel.head).tail).tail (HpDels.cons ((HpDel.head).tail).tail HpDels.nil)) rfl rfl (own_of_row (by show _ = List.length _; first | (simp; done) | (simp; omega)) rfl) ((List.take_sublist _ _).append (List.Sublist.refl _)) ?_
                    refine W_region ?_
                    refine Ops_p (p_move rfl) (lt_dec rfl) ?_
                    refine Ops_p (p_add rfl rfl (by exact ⟨(by first | omega | (dsimp only; omega)), (by first | omega | (dsimp only; omega))⟩)) (lt_dec rfl) ?_
                    refine Ops_p (p_assign rfl) (lt_dec rfl) ?_
                    refine Ops_nil ?_
                    refine Exists.intro (i + 1, ((List.take (List.length S - 2) S) ++ [((slv b49_10 (0 + (List.length (List.getD S (List.length S - 1) bd).2) + (List.length (List.getD S (List.length S - 2) bd).2) + 1) cb49_10), ((([] ++ (List.getD S (List.length S - 1) bd).2) ++ (List.getD S (List.length S - 2) bd).2) ++ [(swp (l.getD i 0))]))]), b56_10, cb56_10) (And.intro ?_ (And.intro ?_ ?_))
                    · first | exact ⟨by show _ ≤ _; omega, hP.leaf hlf _⟩ | exact ⟨by show _ ≤ _; omega, hP.op hop _ (by first | rfl | simp)⟩
                    · show _ < _; omega
                    · exact Wk.intro (.cons rfl (by first | rfl | exact veq_int (by first | omega | (dsimp only; omega))) (.cons rfl (by exact veq_sl (by simp)) (.cons rfl (by first | rfl | exact veq_int (by first | omega | (dsimp only; omega))) .nil))) (.keep rfl rfl (pool_eq rfl) (.drop (.drop (.keep rfl rfl (fun _ h => h) (.keep rfl rfl (fun _ h => h) .nil)))))
                · refine x_buildSlice rfl rfl rfl rfl rfl rfl rfl rfl (Nat.le_of_ble_eq_true rfl) (lt_dec rfl) fun b48_10 => ?_
                  refine RA_one 6 rfl rfl (by kernel_rfl) (x_append_rd (m := (List.length (List.getD S (List.length S - 1) bd).2)) rfl rfl rfl rfl rfl rfl (fun _ _ => (HpRep.head).tail) (Rds.poolI (j := (List.length S - 1)) m2 (by first | omega | assumption)) rfl rfl rfl (by first | omega | (dsimp only; omega)) rfl (by first | omega | (dsimp only; omega)) (by first | omega | (dsimp only; omega)) (lt_dec rfl) fun b40_7 cb40_7 => ?_)
                  refine RA_one 12 rfl rfl (by kernel_rfl) (x_append_rd (m := (List.length (List.getD S (List.length S - 2) bd).2)) rfl rfl rfl rfl rfl rfl (fun _ _ => (HpRep.head).tail) (Rds.poolI (j := (List.length S - 2)) m2 (by first | omega | assumption)) rfl (by show _ = List.length _; simp) rfl (by first | omega | (dsimp only; omega)) rfl (by first | omega | (dsimp only; omega)) (by first | omega | (dsimp only; omega)) (lt_dec rfl) fun b46_11 cb46_11 => ?_)
                  refine RA_one 15 rfl rfl (by kernel_rfl) (x_append rfl rfl rfl rfl rfl rfl (fun _ _ => (HpRep.head).tail) (.inl ⟨m0, rfl⟩) rfl (by show _ = List.length _; simp) rfl (by first | omega | (dsimp only; omega)) rfl (by first | omega | (dsimp only; omega)) (by first | omega | (dsimp only; omega)) (lt_dec rfl) fun b49_11 cb49_11 => ?_)
                  refine RA_quiet (g := 0) [16] (by kernel_rfl) (by kernel_rfl) (by kernel_rfl) (by kernel_rfl) ?_
                  refine WQ_cons rfl rfl rfl ((p_assign rfl).q) (lt_dec rfl) ?_
                  refine WQ_nil ?_
                  refine RA_done (by kernel_rfl) ?_
                  refine W_region ?_
                  refine Ops_p (p_move rfl) (lt_dec rfl) ?_
                  refine Ops_p (p_move rfl) (lt_dec rfl) ?_
                  refine Ops_p (p_sub rfl rfl (by exact ⟨(by first | omega | (dsimp only; omega)), (by first | omega | (dsimp only; omega))⟩)) (lt_dec rfl) ?_
                  refine Ops_p (p_take (n := (List.length S - 2)) rfl rfl rfl rfl (by omega) (by omega)) (lt_dec rfl) ?_
                  refine Ops_p (p_move rfl) (lt_dec rfl) ?_
                  refine Ops_x rfl (x_buildSlice rfl rfl rfl rfl rfl rfl rfl rfl (Nat.le_of_ble_eq_true rfl) (lt_dec rfl) fun b55_11 => ?_)
                  refine Ops_x rfl (x_append_t (r := valsB S) (r2 := valsB [((slv b49_11 (0 + (List.length (List.getD S (List.length S - 1) bd).2) + (List.length (List.getD S (List.length S - 2) bd).2) + 1) cb49_11), ((([] ++ (List.getD S (List.length S - 1) bd).2) ++ (List.getD S (List.length S - 2) bd).2) ++ [(swp (l.getD i 0))]))]) (q := valsB ((List.take (List.length S - 2) S) ++ [((slv b49_11 (0 + (List.length (List.getD S (List.length S - 1) bd).2) + (List.length (List.getD S (List.length S - 2) bd).2) + 1) cb49_11), ((([] ++ (List.getD S (List.length S - 1) bd).2) ++ (List.getD S (List.length S - 2) bd).2) ++ [(swp (l.getD i 0))]))])) (n := (List.length S - 2)) (m := 1) rfl rfl rfl rfl rfl rfl (fun _ _ => ((((HpRep.head).tail).tail).tail).tail) (Rds.row m0 rfl) (by rw [valsB_len]; omega) (by rw [valsB_take]; exact valsB_app _ _) rfl (by decide) rfl (by first | omega | (dsimp only; omega)) (by first | omega | (dsimp only; omega)) (lt_dec rfl) fun b56_11 cb56_11 => ?_)
                  refine Ops_p (p_assign rfl) (lt_dec rfl) ?_
                  refine Ops_nil ?_
                  refine W_pool (S := S) (S' := ((List.take (List.length S - 2) S) ++ [((slv b49_11 (0 + (List.length (List.getD S (List.length S - 1) bd).2) + (List.length (List.getD S (List.length S - 2) bd).2) + 1) cb49_11), ((([] ++ (List.getD S (List.length S - 1) bd).2) ++ (List.getD S (List.length S - 2) bd).2) ++ [(swp (l.getD i 0))]))])) (slv b49_11 (0 + (List.length (List.getD S (List.length S - 1) bd).2) + (List.length (List.getD S (List.length S - 2) bd).2) + 1) cb49_11) (((([] ++ (List.getD S (List.length S - 1) bd).2) ++ (List.getD S (List.length S - 2) bd).2) ++ [(swp (l.getD i 0))])) (HpDels.cons ((HpDel.head).tail).tail (HpDels.cons ((HpDel.head).tail).tail HpDels.nil)) rfl rfl (own_of_row (by show _ = List.length _; first | (simp; done) | (simp; omega)) rfl) ((List.take_sublist _ _).append (List.Sublist.refl _)) ?_
                  refine W_region ?_
                  refine Ops_p (p_move rfl) (lt_dec rfl) ?_
                  refine Ops_p (p_add rfl rfl (by exact ⟨(by first | omega | (dsimp only; omega)), (by first | omega | (dsimp only; omega))⟩)) (lt_dec rfl) ?_
                  refine Ops_p (p_assign rfl) (lt_dec rfl) ?_
                  refine Ops_nil ?_
                  refine Exists.intro (i + 1, ((List.take (List.length S - 2) S) ++ [((slv b49_11 (0 + (List.length (List.getD S (List.length S - 1) bd).2) + (List.length (List.getD S (List.length S - 2) bd).2) + 1) cb49_11), ((([] ++ (List.getD S (List.length S - 1) bd).2) ++ (List.getD S (List.length S - 2) bd).2) ++ [(swp (l.getD i 0))]))]), b56_11, cb56_11) (And.intro ?_ (And.intro ?_ ?_))
                  · first | exact ⟨by show _ ≤ _; omega, hP.leaf hlf _⟩ | exact ⟨by show _ ≤ _; omega, hP.op hop _ (by first | rfl | simp)⟩
                  · show _ < _; omega
                  · exact Wk.intro (.cons rfl (by first | rfl | exact veq_int (by first | omega | (dsimp only; omega))) (.cons rfl (by exact veq_sl (by simp)) (.cons rfl (by first | rfl | exact veq_int (by first | omega | (dsimp only; omega))) .nil))) (.keep rfl rfl (pool_eq rfl) (.drop (.drop (.keep rfl rfl (fun _ h => h) (.keep rfl rfl (fun _ h => h) .nil)))))
              · refine x_buildSlice rfl rfl rfl rfl rfl rfl rfl rfl (Nat.le_of_ble_eq_true rfl) (lt_dec rfl) fun b48_11 => ?_
                refine RA_quiet (g := 4) [5] (by kernel_rfl) (by kernel_rfl) (by kernel_rfl) (by kernel_rfl) ?_
                refine WQ_cons rfl rfl rfl ((q_load_bs (S := S) (j := (List.length S - 1)) rfl rfl m3 rfl (by first | omega | (dsimp only; omega)) rfl rfl)) (lt_dec rfl) ?_
                refine WQ_nil ?_
                refine RA_one 6 rfl rfl (by kernel_rfl) (x_append_rd (m := (List.length (List.getD S (List.length S - 1) bd).2)) rfl rfl rfl rfl rfl rfl (fun _ _ => (HpRep.head).tail) (Rds.poolI (j := (List.length S - 1)) m2 (by first | omega | assumption)) rfl rfl rfl (by first | omega | (dsimp only; omega)) rfl (by first | omega | (dsimp only; omega)) (by first | omega | (dsimp only; omega)) (lt_dec rfl) fun b40_8 cb40_8 => ?_)
                refine RA_one 12 rfl rfl (by kernel_rfl) (x_append_rd (m := (List.length (List.getD S (List.length S - 2) bd).2)) rfl rfl rfl rfl rfl rfl (fun _ _ => (HpRep.head).tail) (Rds.poolI (j := (List.length S - 2)) m2 (by first | omega | assumption)) rfl (by show _ = List.length _; simp) rfl (by first | omega | (dsimp only; omega)) rfl (by first | omega | (dsimp only; omega)) (by first | omega | (dsimp only; omega)) (lt_dec rfl) fun b46_12 cb46_12 => ?_)
                refine RA_one 15 rfl rfl (by kernel_rfl) (x_append rfl rfl rfl rfl rfl rfl (fun _ _ => (HpRep.head).tail) (.inl ⟨m0, rfl⟩) rfl (by show _ = List.length _; simp) rfl (by first | omega | (dsimp only; omega)) rfl (by first | omega | (dsimp only; omega)) (by first | omega | (dsimp only; omega)) (lt_dec rfl) fun b49_12 cb49_12 => ?_)
                refine RA_quiet (g := 0) [16] (by kernel_rfl) (by kernel_rfl) (by kernel_rfl) (by kernel_rfl) ?_
                refine WQ_cons rfl rfl rfl ((p_assign rfl).q) (lt_dec rfl) ?_
                refine WQ_nil ?_
                refine RA_done (by kernel_rfl) ?_
                refine W_region ?_
                refine Ops_p (p_move rfl) (lt_dec rfl) ?_
                refine Ops_p (p_move rfl) (lt_dec rfl) ?_
                refine Ops_p (p_sub rfl rfl (by exact ⟨(by first | omega | (dsimp only; omega)), (by first | omega | (dsimp only; omega))⟩)) (lt_dec rfl) ?_
                refine Ops_p (p_take (n := (List.length S - 2)) rfl rfl rfl rfl (by omega) (by omega)) (lt_dec rfl) ?_
                refine Ops_p (p_move rfl) (lt_dec rfl) ?_
                refine Ops_x rfl (x_buildSlice rfl rfl rfl rfl rfl rfl rfl rfl (Nat.le_of_ble_eq_true rfl) (lt_dec rfl) fun b55_12 => ?_)
                refine Ops_x rfl (x_append_t (r := valsB S) (r2 := valsB [((slv b49_12 (0 + (List.length (List.getD S (List.length S - 1) bd).2) + (List.length (List.getD S (List.length S - 2) bd).2) + 1) cb49_12), ((([] ++ (List.getD S (List.length S - 1) bd).2) ++ (List.getD S (List.length S - 2) bd).2) ++ [(swp (l.getD i 0))]))]) (q := valsB ((List.take (List.length S - 2) S) ++ [((slv b49_12 (0 + (List.length (List.getD S (List.length S - 1) bd).2) + (List.length (List.getD S (List.length S - 2) bd).2) + 1) cb49_12), ((([] ++ (List.getD S (List.length S - 1) bd).2) ++ (List.getD S (List.length S - 2) bd).2) ++ [(swp (l.getD i 0))]))])) (n := (List.length S - 2)) (m := 1) rfl rfl rfl rfl rfl rfl (fun _ _ => ((((HpRep.head).tail).tail).tail).tail) (Rds.row m0 rfl) (by rw [valsB_len]; omega) (by rw [valsB_take]; exact valsB_app _ _) rfl (by decide) rfl (by first | omega | (dsimp only; omega)) (by first | omega | (dsimp only; omega)) (lt_dec rfl) fun b56_12 cb56_12 => ?_)
                refine Ops_p (p_assign rfl) (lt_dec rfl) ?_
                refine Ops_nil ?_
                refine W_pool (S := S) (S' := ((List.take (List.length S - 2) S) ++ [((slv b49_12 (0 + (List.length (List.getD S (List.length S - 1) bd).2) + (List.length (List.getD S (List.length S - 2) bd).2) + 1) cb49_12), ((([] ++ (List.getD S (List.length S - 1) bd).2) ++ (List.getD S (List.length S - 2) bd).2) ++ [(swp (l.getD i 0))]))])) (slv b49_12 (0 + (List.length (List.getD S (List.length S - 1) bd).2) + (List.length (List.getD S (List.length S - 2) bd).2) + 1) cb49_12) (((([] ++ (List.getD S (List.length S - 1) bd).2) ++ (List.getD S (List.length S - 2) bd).2) ++ [(swp (l.getD i 0))])) (HpDels.cons ((HpDel.head).tail).tail (HpDels.cons ((HpDel.head).tail).tail HpDels.nil)) rfl rfl (own_of_row (by show _ = List.length _; first | (simp; done) | (simp; omega)) rfl) ((List.take_sublist _ _).append (List.Sublist.refl _)) ?_
                refine W_region ?_
                refine Ops_p (p_move rfl) (lt_dec rfl) ?_
                refine Ops_p (p_add rfl rfl (by exact ⟨(by first | omega | (dsimp only; omega)), (by first | omega | (dsimp only; omega))⟩)) (lt_dec rfl) ?_
                refine Ops_p (p_assign rfl) (lt_dec rfl) ?_
                refine Ops_nil ?_
                refine Exists.intro (i + 1, ((List.take (List.length S - 2) S) ++ [((slv b49_12 (0 + (List.length (List.getD S (List.length S - 1) bd).2) + (List.length (List.getD S (List.length S - 2) bd).2) + 1) cb49_12), ((([] ++ (List.getD S (List.length S - 1) bd).2) ++ (List.getD S (List.length S - 2) bd).2) ++ [(swp (l.getD i 0))]))]), b56_12, cb56_12) (And.intro ?_ (And.intro ?_ ?_))
                · first | exact ⟨by show _ ≤ _; omega, hP.leaf hlf _⟩ | exact ⟨by show _ ≤ _; omega, hP.op hop _ (by first | rfl | simp)⟩
                · show _ < _; omega
                · exact Wk.intro (.cons rfl (by first | rfl | exact veq_int (by first | omega | (dsimp only; omega))) (.cons rfl (by exact veq_sl (by simp)) (.cons rfl (by first | rfl | exact veq_int (by first | omega | (dsimp only; omega))) .nil))) (.keep rfl rfl (pool_eq rfl) (.drop (.drop (.keep rfl rfl (fun _ h => h) (.keep rfl rfl (fun _ h => h) .nil)))))
            · refine x_buildSlice rfl rfl rfl rfl rfl rfl rfl rfl (Nat.le_of_ble_eq_true rfl) (lt_dec rfl) fun b48_12 => ?_
              refine RA_two 5 11 rfl rfl rfl rfl (by kernel_rfl) ?_ ?_
              · refine Xt_of_Qt rfl (lt_dec rfl) ((q_load_bs (S := S) (j := (List.length S - 1)) rfl rfl m3 rfl (by first | omega | (dsimp only; omega)) rfl rfl)) ?_
                refine RA_two 6 11 rfl rfl rfl rfl (by kernel_rfl) ?_ ?_
                · refine x_append_rd (m := (List.length (List.getD S (List.length S - 1) bd).2)) rfl rfl rfl rfl rfl rfl (fun _ _ => (HpRep.head).tail) (Rds.poolI (j := (List.length S - 1)) m2 (by first | omega | assumption)) rfl rfl rfl (by first | omega | (dsimp only; omega)) rfl (by first | omega | (dsimp only; omega)) (by first | omega | (dsimp only; omega)) (lt_dec rfl) fun b40_9 cb40_9 => ?_
                  refine RA_quiet (g := 3) [11] (by kernel_rfl) (by kernel_rfl) (by kernel_rfl) (by kernel_rfl) ?_
                  refine WQ_cons rfl rfl rfl ((q_load_bs (S := S) (j := (List.length S - 2)) rfl rfl m3 rfl (by first | omega | (dsimp only; omega)) rfl rfl)) (lt_dec rfl) ?_
                  refine WQ_nil ?_
                  refine RA_one 12 rfl rfl (by kernel_rfl) (x_append_rd (m := (List.length (List.getD S (List.length S - 2) bd).2)) rfl rfl rfl rfl rfl rfl (fun _ _ => (HpRep.head).tail) (Rds.poolI (j := (List.length S - 2)) m2 (by first | omega | assumption)) rfl (by show _ = List.length _; simp) rfl (by first | omega | (dsimp only; omega)) rfl (by first | omega | (dsimp only; omega)) (by first | omega | (dsimp only; omega)) (lt_dec rfl) fun b46_13 cb46_13 => ?_)
                  refine RA_one 15 rfl rfl (by kernel_rfl) (x_append rfl rfl rfl rfl rfl rfl (fun _ _ => (HpRep.head).tail) (.inl ⟨m0, rfl⟩) rfl (by show _ = List.length _; simp) rfl (by first | omega | (dsimp only; omega)) rfl (by first | omega | (dsimp only; omega)) (by first | omega | (dsimp only; omega)) (lt_dec rfl) fun b49_13 cb49_13 => ?_)
                  refine RA_quiet (g := 0) [16] (by kernel_rfl) (by kernel_rfl) (by kernel_rfl) (by kernel_rfl) ?_
                  refine WQ_cons rfl rfl rfl ((p_assign rfl).q) (lt_dec rfl) ?_
                  refine WQ_nil ?_
                  refine RA_done (by kernel_rfl) ?_
                  refine W_region ?_
                  refine Ops_p (p_move rfl) (lt_dec rfl) ?_
                  refine Ops_p (p_move rfl) (lt_dec rfl) ?_
                  refine Ops_p (p_sub rfl rfl (by exact ⟨(by first | omega | (dsimp only; omega)), (by first | omega | (dsimp only; omega))⟩)) (lt_dec rfl) ?_
                  refine Ops_p (p_take (n := (List.length S - 2)) rfl rfl rfl rfl (by omega) (by omega)) (lt_dec rfl) ?_
                  refine Ops_p (p_move rfl) (lt_dec rfl) ?_
                  refine Ops_x rfl (x_buildSlice rfl rfl rfl rfl rfl rfl rfl rfl (Nat.le_of_ble_eq_true rfl) (lt_dec rfl) fun b55_13 => ?_)
                  refine Ops_x rfl (x_append_t (r := valsB S) (r2 := valsB [((slv b49_13 (0 + (List.length (List.getD S (List.length S - 1) bd).2) + (List.length (List.getD S (List.length S - 2) bd).2) + 1) cb49_13), ((([] ++ (List.getD S (List.length S - 1) bd).2) ++ (List.getD S (List.length S - 2) bd).2) ++ [(swp (l.getD i 0))]))]) (q := valsB ((List.take (List.length S - 2) S) ++ [((slv b49_13 (0 + (List.length (List.getD S (List.length S - 1) bd).2) + (List.length (List.getD S (List.length S - 2) bd).2) + 1) cb49_13), ((([] ++ (List.getD S (List.length S - 1) bd).2) ++ (List.getD S (List.length S - 2) bd).2) ++ [(swp (l.getD i 0))]))])) (n := (List.length S - 2)) (m := 1) rfl rfl rfl rfl rfl rfl (fun _ _ => ((((HpRep.head).tail).tail).tail).tail) (Rds.row m0 rfl) (by rw [valsB_len]; omega) (by rw [valsB_take]; exact valsB_app _ _) rfl (by decide) rfl (by first | omega | (dsimp only; omega)) (by first | omega | (dsimp only; omega)) (lt_dec rfl) fun b56_13 cb56_13 => ?_)
                  refine Ops_p (p_assign rfl) (lt_dec rfl) ?_
                  refine Ops_nil ?_
                  refine W_pool (S := S) (S' := ((List.take (List.length S - 2) S) ++ [((slv b49_13 (0 + (List.length (List.getD S (List.length S - 1) bd).2) + (List.length (List.getD S (List.length S - 2) bd).2) + 1) cb49_13), ((([] ++ (List.getD S (List.length S - 1) bd).2) ++ (List.getD S (List.length S - 2) bd).2) ++ [(swp (l.getD i 0))]))])) (slv b49_13 (0 + (List.length (List.getD S (List.length S - 1) bd).2) + (List.length (List.getD S (List.length S - 2) bd).2) + 1) cb49_13) (((([] ++ (List.getD S (List.length S - 1) bd).2) ++ (List.getD S (List.length S - 2) bd).2) ++ [(swp (l.getD i 0))])) (HpDels.cons ((HpDel.head).tail).tail (HpDels.cons ((HpDel.head).tail).tail HpDels.nil)) rfl rfl (own_of_row (by show _ = List.length _; first | (simp; done) | (simp; omega)) rfl) ((List.take_sublist _ _).append (List.Sublist.refl _)) ?_
                  refine W_region ?_
                  refine Ops_p (p_move rfl) (lt_dec rfl) ?_
                  refine Ops_p (p_add rfl rfl (by exact ⟨(by first | omega | (dsimp only; omega)), (by first | omega | (dsimp only; omega))⟩)) (lt_dec rfl) ?_
                  refine Ops_p (p_assign rfl) (lt_dec rfl) ?_
                  refine Ops_nil ?_
                  refine Exists.intro (i + 1, ((List.take (List.length S - 2) S) ++ [((slv b49_13 (0 + (List.length (List.getD S (List.length S - 1) bd).2) + (List.length (List.getD S (List.length S - 2) bd).2) + 1) cb49_13), ((([] ++ (List.getD S (List.length S - 1) bd).2) ++ (List.getD S (List.length S - 2) bd).2) ++ [(swp (l.getD i 0))]))]), b56_13, cb56_13) (And.intro ?_ (And.intro ?_ ?_))
                  · first | exact ⟨by show _ ≤ _; omega, hP.leaf hlf _⟩ | exact ⟨by show _ ≤ _; omega, hP.op hop _ (by first | rfl | simp)⟩
                  · show _ < _; omega
                  · exact Wk.intro (.cons rfl (by first | rfl | exact veq_int (by first | omega | (dsimp only; omega))) (.cons rfl (by exact veq_sl (by simp)) (.cons rfl (by first | rfl | exact veq_int (by first | omega | (dsimp only; omega))) .nil))) (.keep rfl rfl (pool_eq rfl) (.drop (.drop (.keep rfl rfl (fun _ h => h) (.keep rfl rfl (fun _ h => h) .nil)))))
                · refine Xt_of_Qt rfl (lt_dec rfl) ((q_load_bs (S := S) (j := (List.length S - 2)) rfl rfl m3 rfl (by first | omega | (dsimp only; omega)) rfl rfl)) ?_
                  refine RA_one 6 rfl rfl (by kernel_rfl) (x_append_rd (m := (List.length (List.getD S (List.length S - 1) bd).2)) rfl rfl rfl rfl rfl rfl (fun _ _ => (HpRep.head).tail) (Rds.poolI (j := (List.length S - 1)) m2 (by first | omega | assumption)) rfl rfl rfl (by first | omega | (dsimp only; omega)) rfl (by first | omega | (dsimp only; omega)) (by first | omega | (dsimp only; omega)) (lt_dec rfl) fun b40_10 cb40_10 => ?_)
                  refine RA_one 12 rfl rfl (by kernel_rfl) (x_append_rd (m := (List.length (List.getD S (List.length S - 2) bd).2)) rfl rfl rfl rfl rfl rfl (fun _ _ => (HpRep.head).tail) (Rds.poolI (j := (List.length S - 2)) m2 (by first | omega | assumption)) rfl (by show _ = List.length _; simp) rfl (by first | omega | (dsimp only; omega)) rfl (by first | omega | (dsimp only; omega)) (by first | omega | (dsimp only; omega)) (lt_dec rfl) fun b46_14 cb46_14 => ?_)
                  refine RA_one 15 rfl rfl (by kernel_rfl) (x_append rfl rfl rfl rfl rfl rfl (fun _ _ => (HpRep.head).tail) (.inl ⟨m0, rfl⟩) rfl (by show _ = List.length _; simp) rfl (by first | omega | (dsimp only; omega)) rfl (by first | omega | (dsimp only; omega)) (by first | omega | (dsimp only; omega)) (lt_dec rfl) fun b49_14 cb49_14 => ?_)
                  refine RA_quiet (g := 0) [16] (by kernel_rfl) (by kernel_rfl) (by kernel_rfl) (by kernel_rfl) ?_
                  refine WQ_cons rfl rfl rfl ((p_assign rfl).q) (lt_dec rfl) ?_
                  refine WQ_nil ?_
                  refine RA_done (by kernel_rfl) ?_
                  refine W_region ?_
                  refine Ops_p (p_move rfl) (lt_dec rfl) ?_
                  refine Ops_p (p_move rfl) (lt_dec rfl) ?_
                  refine Ops_p (p_sub rfl rfl (by exact ⟨(by first | omega | (dsimp only; omega)), (by first | omega | (dsimp only; omega))⟩)) (lt_dec rfl) ?_
                  refine Ops_p (p_take (n := (List.length S - 2)) rfl rfl rfl rfl (by omega) (by omega)) (lt_dec rfl) ?_
                  refine Ops_p (p_move rfl) (lt_dec rfl) ?_
                  refine Ops_x rfl (x_buildSlice rfl rfl rfl rfl rfl rfl rfl rfl (Nat.le_of_ble_eq_true rfl) (lt_dec rfl) fun b55_14 => ?_)
                  refine Ops_x rfl (x_append_t (r := valsB S) (r2 := valsB [((slv b49_14 (0 + (List.length (List.getD S (List.length S - 1) bd).2) + (List.length (List.getD S (List.length S - 2) bd).2) + 1) cb49_14), ((([] ++ (List.getD S (List.length S - 1) bd).2) ++ (List.getD S (List.length S - 2) bd).2) ++ [(swp (l.getD i 0))]))]) (q := valsB ((List.take (List.length S - 2) S) ++ [((slv b49_14 (0 + (List.length (List.getD S (List.length S - 1) bd).2) + (List.length (List.getD S (List.length S - 2) bd).2) + 1) cb49_14), ((([] ++ (List.getD S (List.length S - 1) bd).2) ++ (List.getD S (List.length S - 2) bd).2) ++ [(swp (l.getD i 0))]))])) (n := (List.length S - 2)) (m := 1) rfl rfl rfl rfl rfl rfl (fun _ _ => ((((HpRep.head).tail).tail).tail).tail) (Rds.row m0 rfl) (by rw [valsB_len]; omega) (by rw [valsB_take]; exact valsB_app _ _) rfl (by decide) rfl (by first | omega | (dsimp only; omega)) (by first | omega | (dsimp only; omega)) (lt_dec rfl) fun b56_14 cb56_14 => ?_)
                  refine Ops_p (p_assign rfl) (lt_dec rfl) ?_
                  refine Ops_nil ?_
                  refine W_pool (S := S) (S' := ((List.take (List.length S - 2) S) ++ [((slv b49_14 (0 + (List.length (List.getD S (List.length S - 1) bd).2) + (List.length (List.getD S (List.length S - 2) bd).2) + 1) cb49_14), ((([] ++ (List.getD S (List.length S - 1) bd).2) ++ (List.getD S (List.length S - 2) bd).2) ++ [(swp (l.getD i 0))]))])) (slv b49_14 (0 + (List.length (List.getD S (List.length S - 1) bd).2) + (List.length (List.getD S (List.length S - 2) bd).2) + 1) cb49_14) (((([] ++ (List.getD S (List.length S - 1) bd).2) ++ (List.getD S (List.length S - 2) bd).2) ++ [(swp (l.getD i 0))])) (HpDels.cons ((HpDel.head).tail).tail (HpDels.cons ((HpDel.head).tail).tail HpDels.nil)) rfl rfl (own_of_row (by show _ = List.length _; first | (simp; done) | (simp; omega)) rfl) ((List.take_sublist _ _).append (List.Sublist.refl _)) ?_
                  refine W_region ?_
                  refine Ops_p (p_move rfl) (lt_dec rfl) ?_
                  refine Ops_p (p_add rfl rfl (by exact ⟨(by first | omega | (dsimp only; omega)), (by first | omega | (dsimp only; omega))⟩)) (lt_dec rfl) ?_
                  refine Ops_p (p_assign rfl) (lt_dec rfl) ?_
                  refine Ops_nil ?_
                  refine Exists.intro (i + 1, ((List.take (List.length S - 2) S) ++ [((slv b49_14 (0 + (List.length (List.getD S (List.length S - 1) bd).2) + (List.length (List.getD S (List.length S - 2) bd).2) + 1) cb49_14), ((([] ++ (List.getD S (List.length S - 1) bd).2) ++ (List.getD S (List.length S - 2) bd).2) ++ [(swp (l.getD i 0))]))]), b56_14, cb56_14) (And.intro ?_ (And.intro ?_ ?_))
                  · first | exact ⟨by show _ ≤ _; omega, hP.leaf hlf _⟩ | exact ⟨by show _ ≤ _; omega, hP.op hop _ (by first | rfl | simp)⟩
                  · show _ < _; omega
                  · exact Wk.intro (.cons rfl (by first | rfl | exact veq_int (by first | omega | (dsimp only; omega))) (.cons rfl (by exact veq_sl (by simp)) (.cons rfl (by first | rfl | exact veq_int (by first | omega | (dsimp only; omega))) .nil))) (.keep rfl rfl (pool_eq rfl) (.drop (.drop (.keep rfl rfl (fun _ h => h) (.keep rfl rfl (fun _ h => h) .nil)))))
              · refine Xt_of_Qt rfl (lt_dec rfl) ((q_load_bs (S := S) (j := (List.length S - 2)) rfl rfl m3 rfl (by first | omega | (dsimp only; omega)) rfl rfl)) ?_
                refine RA_quiet (g := 4) [5] (by kernel_rfl) (by kernel_rfl) (by kernel_rfl) (by kernel_rfl) ?_
                refine WQ_cons rfl rfl rfl ((q_load_bs (S := S) (j := (List.length S - 1)) rfl rfl m3 rfl (by first | omega | (dsimp only; omega)) rfl rfl)) (lt_dec rfl) ?_
                refine WQ_nil ?_
                refine RA_one 6 rfl rfl (by kernel_rfl) (x_append_rd (m := (List.length (List.getD S (List.length S - 1) bd).2)) rfl rfl rfl rfl rfl rfl (fun _ _ => (HpRep.head).tail) (Rds.poolI (j := (List.length S - 1)) m2 (by first | omega | assumption)) rfl rfl rfl (by first | omega | (dsimp only; omega)) rfl (by first | omega | (dsimp only; omega)) (by first | omega | (dsimp only; omega)) (lt_dec rfl) fun b40_11 cb40_11 => ?_)
                refine RA_one 12 rfl rfl (by kernel_rfl) (x_append_rd (m := (List.length (List.getD S (List.length S - 2) bd).2)) rfl rfl rfl rfl rfl rfl (fun _ _ => (HpRep.head).tail) (Rds.poolI (j := (List.length S - 2)) m2 (by first | omega | assumption)) rfl (by show _ = List.length _; simp) rfl (by first | omega | (dsimp only; omega)) rfl (by first | omega | (dsimp only; omega)) (by first | omega | (dsimp only; omega)) (lt_dec rfl) fun b46_15 cb46_15 => ?_)
                refine RA_one 15 rfl rfl (by kernel_rfl) (x_append rfl rfl rfl rfl rfl rfl (fun _ _ => (HpRep.head).tail) (.inl ⟨m0, rfl⟩) rfl (by show _ = List.length _; simp) rfl (by first | omega | (dsimp only; omega)) rfl (by first | omega | (dsimp only; omega)) (by first | omega | (dsimp only; omega)) (lt_dec rfl) fun b49_15 cb49_15 => ?_)
                refine RA_quiet (g := 0) [16] (by kernel_rfl) (by kernel_rfl) (by kernel_rfl) (by kernel_rfl) ?_
                refine WQ_cons rfl rfl rfl ((p_assign rfl).q) (lt_dec rfl) ?_
                refine WQ_nil ?_
                refine RA_done (by kernel_rfl) ?_
                refine W_region ?_
                refine Ops_p (p_move rfl) (lt_dec rfl) ?_
                refine Ops_p (p_move rfl) (lt_dec rfl) ?_
                refine Ops_p (p_sub rfl rfl (by exact ⟨(by first | omega | (dsimp only; omega)), (by first | omega | (dsimp only; omega))⟩)) (lt_dec rfl) ?_
                refine Ops_p (p_take (n := (List.length S - 2)) rfl rfl rfl rfl (by omega) (by omega)) (lt_dec rfl) ?_
                refine Ops_p (p_move rfl) (lt_dec rfl) ?_
                refine Ops_x rfl (x_buildSlice rfl rfl rfl rfl rfl rfl rfl rfl (Nat.le_of_ble_eq_true rfl) (lt_dec rfl) fun b55_15 => ?_)
                refine Ops_x rfl (x_append_t (r := valsB S) (r2 := valsB [((slv b49_15 (0 + (List.length (List.getD S (List.length S - 1) bd).2) + (List.length (List.getD S (List.length S - 2) bd).2) + 1) cb49_15), ((([] ++ (List.getD S (List.length S - 1) bd).2) ++ (List.getD S (List.length S - 2) bd).2) ++ [(swp (l.getD i 0))]))]) (q := valsB ((List.take (List.length S - 2) S) ++ [((slv b49_15 (0 + (List.length (List.getD S (List.length S - 1) bd).2) + (List.length (List.getD S (List.length S - 2) bd).2) + 1) cb49_15), ((([] ++ (List.getD S (List.length S - 1) bd).2) ++ (List.getD S (List.length S - 2) bd).2) ++ [(swp (l.getD i 0))]))])) (n := (List.length S - 2)) (m := 1) rfl rfl rfl rfl rfl rfl (fun _ _ => ((((HpRep.head).tail).tail).tail).tail) (Rds.row m0 rfl) (by rw [valsB_len]; omega) (by rw [valsB_take]; exact valsB_app _ _) rfl (by decide) rfl (by first | omega | (dsimp only; omega)) (by first | omega | (dsimp only; omega)) (lt_dec rfl) fun b56_15 cb56_15 => ?_)
                refine Ops_p (p_assign rfl) (lt_dec rfl) ?_
                refine Ops_nil ?_
                refine W_pool (S := S) (S' := ((List.take (List.length S - 2) S) ++ [((slv b49_15 (0 + (List.length (List.getD S (List.length S - 1) bd).2) + (List.length (List.getD S (List.length S - 2) bd).2) + 1) cb49_15), ((([] ++ (List.getD S (List.length S - 1) bd).2) ++ (List.getD S (List.length S - 2) bd).2) ++ [(swp (l.getD i 0))]))])) (slv b49_15 (0 + (List.length (List.getD S (List.length S - 1) bd).2) + (List.length (List.getD S (List.length S - 2) bd).2) + 1) cb49_15) (((([] ++ (List.getD S (List.length S - 1) bd).2) ++ (List.getD S (List.length S - 2) bd).2) ++ [(swp (l.getD i 0))])) (HpDels.cons ((HpDel.head).tail).tail (HpDels.cons ((HpDel.head).tail).tail HpDels.nil)) rfl rfl (own_of_row (by show _ = List.length _; first | (simp; done) | (simp; omega)) rfl) ((List.take_sublist _ _).append (List.Sublist.refl _)) ?_
                refine W_region ?_
                refine Ops_p (p_move rfl) (lt_dec rfl) ?_
                refine Ops_p (p_add rfl rfl (by exact ⟨(by first | omega | (dsimp only; omega)), (by first | omega | (dsimp only; omega))⟩)) (lt_dec rfl) ?_
                refine Ops_p (p_assign rfl) (lt_dec rfl) ?_
                refine Ops_nil ?_
                refine Exists.intro (i + 1, ((List.take (List.length S - 2) S) ++ [((slv b49_15 (0 + (List.length (List.getD S (List.length S - 1) bd).2) + (List.length (List.getD S (List.length S - 2) bd).2) + 1) cb49_15), ((([] ++ (List.getD S (List.length S - 1) bd).2) ++ (List.getD S (List.length S - 2) bd).2) ++ [(swp (l.getD i 0))]))]), b56_15, cb56_15) (And.intro ?_ (And.intro ?_ ?_))
                · first | exact ⟨by show _ ≤ _; omega, hP.leaf hlf _⟩ | exact ⟨by show _ ≤ _; omega, hP.op hop _ (by first | rfl | simp)⟩
                · show _ < _; omega
                · exact Wk.intro (.cons rfl (by first | rfl | exact veq_int (by first | omega | (dsimp only; omega))) (.cons rfl (by exact veq_sl (by simp)) (.cons rfl (by first | rfl | exact veq_int (by first | omega | (dsimp only; omega))) .nil))) (.keep rfl rfl (pool_eq rfl) (.drop (.drop (.keep rfl rfl (fun _ h => h) (.keep rfl rfl (fun _ h => h) .nil)))))
          · refine Xt_of_Qt rfl (lt_dec rfl) ((q_load_bs (S := S) (j := (List.length S - 1)) rfl rfl m1 rfl (by first | omega | (dsimp only; omega)) rfl rfl)) ?_
            refine RA_three 0 11 14 rfl rfl rfl rfl rfl rfl (by kernel_rfl) ?_ ?_ ?_
            · refine x_buildSlice rfl rfl rfl rfl rfl rfl rfl rfl (Nat.le_of_ble_eq_true rfl) (lt_dec rfl) fun b34_2 => ?_
              refine RA_three 6 11 14 rfl rfl rfl rfl rfl rfl (by kernel_rfl) ?_ ?_ ?_
              · refine x_append_rd (m := (List.length (List.getD S (List.length S - 1) bd).2)) rfl rfl rfl rfl rfl rfl (fun _ _ => HpRep.head) (Rds.poolI (j := (List.length S - 1)) m1 (by first | omega | assumption)) rfl rfl rfl (by first | omega | (dsimp only; omega)) rfl (by first | omega | (dsimp only; omega)) (by first | omega | (dsimp only; omega)) (lt_dec rfl) fun b40_12 cb40_12 => ?_
                refine RA_two 11 14 rfl rfl rfl rfl (by kernel_rfl) ?_ ?_
                · refine Xt_of_Qt rfl (lt_dec rfl) ((q_load_bs (S := S) (j := (List.length S - 2)) rfl rfl m2 rfl (by first | omega | (dsimp only; omega)) rfl rfl)) ?_
                  refine RA_two 12 14 rfl rfl rfl rfl (by kernel_rfl) ?_ ?_
                  · refine x_append_rd (m := (List.length (List.getD S (List.length S - 2) bd).2)) rfl rfl rfl rfl rfl rfl (fun _ _ => HpRep.head) (Rds.poolI (j := (List.length S - 2)) m1 (by first | omega | assumption)) rfl (by show _ = List.length _; simp) rfl (by first | omega | (dsimp only; omega)) rfl (by first | omega | (dsimp only; omega)) (by first | omega | (dsimp only; omega)) (lt_dec rfl) fun b46_16 cb46_16 => ?_
                    refine RA_one 14 rfl rfl (by kernel_rfl) (x_buildSlice rfl rfl rfl rfl rfl rfl rfl rfl (Nat.le_of_ble_eq_true rfl) (lt_dec rfl) fun b48_13 => ?_)
                    refine RA_one 15 rfl rfl (by kernel_rfl) (x_append rfl rfl rfl rfl rfl rfl (fun _ _ => (HpRep.head).tail) (.inl ⟨m0, rfl⟩) rfl (by show _ = List.length _; simp) rfl (by first | omega | (dsimp only; omega)) rfl (by first | omega | (dsimp only; omega)) (by first | omega | (dsimp only; omega)) (lt_dec rfl) fun b49_16 cb49_16 => ?_)
                    refine RA_quiet (g := 0) [16] (by kernel_rfl) (by kernel_rfl) (by kernel_rfl) (by kernel_rfl) ?_
                    refine WQ_cons rfl rfl rfl ((p_assign rfl).q) (lt_dec rfl) ?_
                    refine WQ_nil ?_
                    refine RA_done (by kernel_rfl) ?_
                    refine W_region ?_
                    refine Ops_p (p_move rfl) (lt_dec rfl) ?_
                    refine Ops_p (p_move rfl) (lt_dec rfl) ?_
                    refine Ops_p (p_sub rfl rfl (by exact ⟨(by first | omega | (dsimp only; omega)), (by first | omega | (dsimp only; omega))⟩)) (lt_dec rfl) ?_
                    refine Ops_p (p_take (n := (List.length S - 2)) rfl rfl rfl rfl (by omega) (by omega)) (lt_dec rfl) ?_
                    refine Ops_p (p_move rfl) (lt_dec rfl) ?_
                    refine Ops_x rfl (x_buildSlice rfl rfl rfl rfl rfl rfl rfl rfl (Nat.le_of_ble_eq_true rfl) (lt_dec rfl) fun b55_16 => ?_)
                    refine Ops_x rfl (x_append_t (r := valsB S) (r2 := valsB [((slv b49_16 (0 + (List.length (List.getD S (List.length S - 1) bd).2) + (List.length (List.getD S (List.length S - 2) bd).2) + 1) cb49_16), ((([] ++ (List.getD S (List.length S - 1) bd).2) ++ (List.getD S (List.length S - 2) bd).2) ++ [(swp (l.getD i 0))]))]) (q := valsB ((List.take (List.length S - 2) S) ++ [((slv b49_16 (0 + (List.length (List.getD S (List.length S - 1) bd).2) + (List.length (List.getD S (List.length S - 2) bd).2) + 1) cb49_16), ((([] ++ (List.getD S (List.length S - 1) bd).2) ++ (List.getD S (List.length S - 2) bd).2) ++ [(swp (l.getD i 0))]))])) (n := (List.length S - 2)) (m := 1) rfl rfl rfl rfl rfl rfl (fun _ _ => ((((HpRep.head).tail).tail).tail).tail) (Rds.row m0 rfl) (by rw [valsB_len]; omega) (by rw [valsB_take]; exact valsB_app _ _) rfl (by decide) rfl (by first | omega | (dsimp only; omega)) (by first | omega | (dsimp only; omega)) (lt_dec rfl) fun b56_16 cb56_16 => ?_)
                    refine Ops_p (p_assign rfl) (lt_dec rfl) ?_
                    refine Ops_nil ?_
                    refine W_pool (S := S) (S' := ((List.take (List.length S - 2) S) ++ [((slv b49_16 (0 + (List.length (List.getD S (List.length S - 1) bd).2) + (List.length (List.getD S (List.length S - 2) bd).2) + 1) cb49_16), ((([] ++ (List.getD S (List.length S - 1) bd).2) ++ (List.getD S (List.length S - 2) bd).2) ++ [(swp (l.getD i 0))]))])) (slv b49_16 (0 + (List.length (List.getD S (List.length S - 1) bd).2) + (List.length (List.getD S (List.length S - 2) bd).2) + 1) cb49_16) (((([] ++ (List.getD S (List.length S - 1) bd).2) ++ (List.getD S (List.length S - 2) bd).2) ++ [(swp (l.getD i 0))])) (HpDels.cons ((HpDel.head).tail).tail (HpDels.cons ((HpDel.head).tail).tail HpDels.nil)) rfl rfl (own_of_row (by show _ = List.length _; first | (simp; done) | (simp; omega)) rfl) ((List.take_sublist _ _).append (List.Sublist.refl _)) ?_
                    refine W_region ?_
                    refine Ops_p (p_move rfl) (lt_dec rfl) ?_
                    refine Ops_p (p_add rfl rfl (by exact ⟨(by first | omega | (dsimp only; omega)), (by first | omega | (dsimp only; omega))⟩)) (lt_dec rfl) ?_
                    refine Ops_p (p_assign rfl) (lt_dec rfl) ?_
                    refine Ops_nil ?_
                    refine Exists.intro (i + 1, ((List.take (List.length S - 2) S) ++ [((slv b49_16 (0 + (List.length (List.getD S (List.length S - 1) bd).2) + (List.length (List.getD S (List.length S - 2) bd).2) + 1) cb49_16), ((([] ++ (List.getD S (List.length S - 1) bd).2) ++ (List.getD S (List.length S - 2) bd).2) ++ [(swp (l.getD i 0))]))]), b56_16, cb56_16) (And.intro ?_ (And.intro ?_ ?_))
                    · first | exact ⟨by show _ ≤ _; omega, hP.leaf hlf _⟩ | exact ⟨by show _ ≤ _; omega, hP.op hop _ (by first | rfl | simp)⟩
                    · show _ < _; omega
                    · exact Wk.intro (.cons rfl (by first | rfl | exact veq_int (by first | omega | (dsimp only; omega))) (.cons rfl (by exact veq_sl (by simp)) (.cons rfl (by first | rfl | exact veq_int (by first | omega | (dsimp only; omega))) .nil))) (.keep rfl rfl (pool_eq rfl) (.drop (.drop (.keep rfl rfl (fun _ h => h) (.keep rfl rfl (fun _ h => h) .nil)))))
                  · refine x_buildSlice rfl rfl rfl rfl rfl rfl rfl rfl (Nat.le_of_ble_eq_true rfl) (lt_dec rfl) fun b48_14 => ?_
                    refine RA_one 12 rfl rfl (by kernel_rfl) (x_append_rd (m := (List.length (List.getD S (List.length S - 2) bd).2)) rfl rfl rfl rfl rfl rfl (fun _ _ => (HpRep.head).tail) (Rds.poolI (j := (List.length S - 2)) m2 (by first | omega | assumption)) rfl (by show _ = List.length _; simp) rfl (by first | omega | (dsimp only; omega)) rfl (by first | omega | (dsimp only; omega)) (by first | omega | (dsimp only; omega)) (lt_dec rfl) fun b46_17 cb46_17 => ?_)
                    refine RA_one 15 rfl rfl (by kernel_rfl) (x_append rfl rfl rfl rfl rfl rfl (fun _ _ => (HpRep.head).tail) (.inl ⟨m0, rfl⟩) rfl (by show _ = List.length _; simp) rfl (by first | omega | (dsimp only; omega)) rfl (by first | omega | (dsimp only; omega)) (by first | omega | (dsimp only; omega)) (lt_dec rfl) fun b49_17 cb49_17 => ?_)
                    refine RA_quiet (g := 0) [16] (by kernel_rfl) (by kernel_rfl) (by kernel_rfl) (by kernel_rfl) ?_
                    refine WQ_cons rfl rfl rfl ((p_assign rfl).q) (lt_dec rfl) ?_
                    refine WQ_nil ?_
                    refine RA_done (by kernel_rfl) ?_
                    refine W_region ?_
                    refine Ops_p (p_move rfl) (lt_dec rfl) ?_
                    refine Ops_p (p_move rfl) (lt_dec rfl) ?_
                    refine Ops_p (p_sub rfl rfl (by exact ⟨(by first | omega | (dsimp only; omega)), (by first | omega | (dsimp only; omega))⟩)) (lt_dec rfl) ?_
                    refine Ops_p (p_take (n := (List.length S - 2)) rfl rfl rfl rfl (by omega) (by omega)) (lt_dec rfl) ?_
                    refine Ops_p (p_move rfl) (lt_dec rfl) ?_
                    refine Ops_x rfl (x_buildSlice rfl rfl rfl rfl rfl rfl rfl rfl (Nat.le_of_ble_eq_true rfl) (lt_dec rfl) fun b55_17 => ?_)
                    refine Ops_x rfl (x_append_t (r := valsB S) (r2 := valsB [((slv b49_17 (0 + (List.length (List.getD S (List.length S - 1) bd).2) + (List.length (List.getD S (List.length S - 2) bd).2) + 1) cb49_17), ((([] ++ (List.getD S (List.length S - 1) bd).2) ++ (List.getD S (List.length S - 2) bd).2) ++ [(swp (l.getD i 0))]))]) (q := valsB ((List.take (List.length S - 2) S) ++ [((slv b49_17 (0 + (List.length (List.getD S (List.length S - 1) bd).2) + (List.length (List.getD S (List.length S - 2) bd).2) + 1) cb49_17), ((([] ++ (List.getD S (List.length S - 1) bd).2) ++ (List.getD S (List.length S - 2) bd).2) ++ [(swp (l.getD i 0))]))])) (n := (List.length S - 2)) (m := 1) rfl rfl rfl rfl rfl rfl (fun _ _ => ((((HpRep.head).tail).tail).tail).tail) (Rds.row m0 rfl) (by rw [valsB_len]; omega) (by rw [valsB_take]; exact valsB_app _ _) rfl (by decide) rfl (by first | omega | (dsimp only; omega)) (by first | omega | (dsimp only; omega)) (lt_dec rfl) fun b56_17 cb56_17 => ?_)
                    refine Ops_p (p_assign rfl) (lt_dec rfl) ?_
                    refine Ops_nil ?_
                    refine W_pool (S := S) (S' := ((List.take (List.length S - 2) S) ++ [((slv b49_17 (0 + (List.length (List.getD S (List.length S - 1) bd).2) + (List.length (List.getD S (List.length S - 2) bd).2) + 1) cb49_17), ((([] ++ (List.getD S (List.length S - 1) bd).2) ++ (List.getD S (List.length S - 2) bd).2) ++ [(swp (l.getD i 0))]))])) (slv b49_17 (0 + (List.length (List.getD S (List.length S - 1) bd).2) + (List.length (List.getD S (List.length S - 2) bd).2) + 1) cb49_17) (((([] ++ (List.getD S (List.length S - 1) bd).2) ++ (List.getD S (List.length S - 2) bd).2) ++ [(swp (l.getD i 0))])) (HpDels.cons ((HpDel.head).tail).tail (HpDels.cons ((HpDel.head).tail).tail HpDels.nil)) rfl rfl (own_of_row (by show _ = List.length _; first | (simp; done) | (simp; omega)) rfl) ((List.take_sublist _ _).append (List.Sublist.refl _)) ?_
                    refine W_region ?_
                    refine Ops_p (p_move rfl) (lt_dec rfl) ?_
                    refine Ops_p (p_add rfl rfl (by exact ⟨(by first | omega | (dsimp only; omega)), (by first | omega | (dsimp only; omega))⟩)) (lt_dec rfl) ?_
                    refine Ops_p (p_assign rfl) (lt_dec rfl) ?_
                    refine Ops_nil ?_
                    refine Exists.intro (i + 1, ((List.take (List.length S - 2) S) ++ [((slv b49_17 (0 + (List.length (List.getD S (List.length S - 1) bd).2) + (List.length (List.getD S (List.length S - 2) bd).2) + 1) cb49_17), ((([] ++ (List.getD S (List.length S - 1) bd).2) ++ (List.getD S (List.length S - 2) bd).2) ++ [(swp (l.getD i 0))]))]), b56_17, cb56_17) (And.intro ?_ (And.intro ?_ ?_))
                    · first | exact ⟨by show _ ≤ _; omega, hP.leaf hlf _⟩ | exact ⟨by show _ ≤ _; omega, hP.op hop _ (by first | rfl | simp)⟩
                    · show _ < _; omega
                    · exact Wk.intro (.cons rfl (by first | rfl | exact veq_int (by first | omega | (dsimp only; omega))) (.cons rfl (by exact veq_sl (by simp)) (.cons rfl (by first | rfl | exact veq_int (by first | omega | (dsimp only; omega))) .nil))) (.keep rfl rfl (pool_eq rfl) (.drop (.drop (.keep rfl rfl (fun _ h => h) (.keep rfl rfl (fun _ h => h) .nil)))))
                · refine x_buildSlice rfl rfl rfl rfl rfl rfl rfl rfl (Nat.le_of_ble_eq_true rfl) (lt_dec rfl) fun b48_15 => ?_
                  refine RA_quiet (g := 3) [11] (by kernel_rfl) (by kernel_rfl) (by kernel_rfl) (by kernel_rfl) ?_
                  refine WQ_cons rfl rfl rfl ((q_load_bs (S := S) (j := (List.length S - 2)) rfl rfl m3 rfl (by first | omega | (dsimp only; omega)) rfl rfl)) (lt_dec rfl) ?_
                  refine WQ_nil ?_
                  refine RA_one 12 rfl rfl (by kernel_rfl) (x_append_rd (m := (List.length (List.getD S (List.length S - 2) bd).2)) rfl rfl rfl rfl rfl rfl (fun _ _ => (HpRep.head).tail) (Rds.poolI (j := (List.length S - 2)) m2 (by first | omega | assumption)) rfl (by show _ = List.length _; simp) rfl (by first | omega | (dsimp only; omega)) rfl (by first | omega | (dsimp only; omega)) (by first | omega | (dsimp only; omega)) (lt_dec rfl) fun b46_18 cb46_18 => ?_)
                  refine RA_one 15 rfl rfl (by kernel_rfl) (x_append rfl rfl rfl rfl rfl rfl (fun _ _ => (HpRep.head).tail) (.inl ⟨m0, rfl⟩) rfl (by show _ = List.length _; simp) rfl (by first | omega | (dsimp only; omega)) rfl (by first | omega | (dsimp only; omega)) (by first | omega | (dsimp only; omega)) (lt_dec rfl) fun b49_18 cb49_18 => ?_)
                  refine RA_quiet (g := 0) [16] (by kernel_rfl) (by kernel_rfl) (by kernel_rfl) (by kernel_rfl) ?_
                  refine WQ_cons rfl rfl rfl ((p_assign rfl).q) (lt_dec rfl) ?_
                  refine WQ_nil ?_
                  refine RA_done (by kernel_rfl) ?_
                  refine W_region ?_
                  refine Ops_p (p_move rfl) (lt_dec rfl) ?_
                  refine Ops_p (p_move rfl) (lt_dec rfl) ?_
                  refine Ops_p (p_sub rfl rfl (by exact ⟨(by first | omega | (dsimp only; omega)), (by first | omega | (dsimp only; omega))⟩)) (lt_dec rfl) ?_
                  refine Ops_p (p_take (n := (List.length S - 2)) rfl rfl rfl rfl (by omega) (by omega)) (lt_dec rfl) ?_
                  refine Ops_p (p_move rfl) (lt_dec rfl) ?_
                  refine Ops_x rfl (x_buildSlice rfl rfl rfl rfl rfl rfl rfl rfl (Nat.le_of_ble_eq_true rfl) (lt_dec rfl) fun b55_18 => ?_)
                  refine Ops_x rfl (x_append_t (r := valsB S) (r2 := valsB [((slv b49_18 (0 + (List.length (List.getD S (List.length S - 1) bd).2) + (List.length (List.getD S (List.length S - 2) bd).2) + 1) cb49_18), ((([] ++ (List.getD S (List.length S - 1) bd).2) ++ (List.getD S (List.length S - 2) bd).2) ++ [(swp (l.getD i 0))]))]) (q := valsB ((List.take (List.length S - 2) S) ++ [((slv b49_18 (0 + (List.length (List.getD S (List.length S - 1) bd).2) + (List.length (List.getD S (List.length S - 2) bd).2) + 1) cb49_18), ((([] ++ (List.getD S (List.length S - 1) bd).2) ++ (List.getD S (List.length S - 2) bd).2) ++ [(swp (l.getD i 0))]))])) (n := (List.length S - 2)) (m := 1) rfl rfl rfl rfl rfl rfl (fun _ _ => ((((HpRep.head).tail).tail).tail).tail) (Rds.row m0 rfl) (by rw [valsB_len]; omega) (by rw [valsB_take]; exact valsB_app _ _) rfl (by decide) rfl (by first | omega | (dsimp only; omega)) (by first | omega | (dsimp only; omega)) (lt_dec rfl) fun b56_18 cb56_18 => ?_)
                  refine Ops_p (p_assign rfl) (lt_dec rfl) ?_
                  refine Ops_nil ?_
                  refine W_pool (S := S) (S' := ((List.take (List.length S - 2) S) ++ [((slv b49_18 (0 + (List.length (List.getD S (List.length S - 1) bd).2) + (List.length (List.getD S (List.length S - 2) bd).2) + 1) cb49_18), ((([] ++ (List.getD S (List.length S - 1) bd).2) ++ (List.getD S (List.length S - 2) bd).2) ++ [(swp (l.getD i 0))]))])) (slv b49_18 (0 + (List.length (List.getD S (List.length S - 1) bd).2) + (List.length (List.getD S (List.length S - 2) bd).2) + 1) cb49_18) (((([] ++ (List.getD S (List.length S - 1) bd).2) ++ (List.getD S (List.length S - 2) bd).2) ++ [(swp (l.getD i 0))])) (HpDels.cons ((HpDel.head).tail).tail (HpDels.cons ((HpDel.head).tail).tail HpDels.nil)) rfl rfl (own_of_row (by show _ = List.length _; first | (simp; done) | (simp; omega)) rfl) ((List.take_sublist _ _).append (List.Sublist.refl _)) ?_
                  refine W_region ?_
                  refine Ops_p (p_move rfl) (lt_dec rfl) ?_
                  refine Ops_p (p_add rfl rfl (by exact ⟨(by first | omega | (dsimp only; omega)), (by first | omega | (dsimp only; omega))⟩)) (lt_dec rfl) ?_
                  refine Ops_p (p_assign rfl) (lt_dec rfl) ?_
                  refine Ops_nil ?_
                  refine Exists.intro (i + 1, ((List.take (List.length S - 2) S) ++ [((slv b49_18 (0 + (List.length (List.getD S (List.length S - 1) bd).2) + (List.length (List.getD S (List.length S - 2) bd).2) + 1) cb49_18), ((([] ++ (List.getD S (List.length S - 1) bd).2) ++ (List.getD S (List.length S - 2) bd).2) ++ [(swp (l.getD i 0))]))]), b56_18, cb56_18) (And.intro ?_ (And.intro ?_ ?_))
                  · first | exact ⟨by show _ ≤ _; omega, hP.leaf hlf _⟩ | exact ⟨by show _ ≤ _; omega, hP.op hop _ (by first | rfl | simp)⟩
                  · show _ < _; omega
                  · exact Wk.intro (.cons rfl (by first | rfl | exact veq_int (by first | omega | (dsimp only; omega))) (.cons rfl (by exact veq_sl (by simp)) (.cons rfl (by first | rfl | exact veq_int (by first | omega | (dsimp only; omega))) .nil))) (.keep rfl rfl (pool_eq rfl) (.drop (.drop (.keep rfl rfl (fun _ h => h) (.keep rfl rfl (fun _ h => h) .nil)))))
              · refine Xt_of_Qt rfl (lt_dec rfl) ((q_load_bs (S := S) (j := (List.length S - 2)) rfl rfl m2 rfl (by first | omega | (dsimp only; omega)) rfl rfl)) ?_
                refine RA_two 6 14 rfl rfl rfl rfl (by kernel_rfl) ?_ ?_
                · refine x_append_rd (m := (List.length (List.getD S (List.length S - 1) bd).2)) rfl rfl rfl rfl rfl rfl (fun _ _ => HpRep.head) (Rds.poolI (j := (List.length S - 1)) m1 (by first | omega | assumption)) rfl rfl rfl (by first | omega | (dsimp only; omega)) rfl (by first | omega | (dsimp only; omega)) (by first | omega | (dsimp only; omega)) (lt_dec rfl) fun b40_13 cb40_13 => ?_
                  refine RA_two 12 14 rfl rfl rfl rfl (by kernel_rfl) ?_ ?_
                  · refine x_append_rd (m := (List.length (List.getD S (List.length S - 2) bd).2)) rfl rfl rfl rfl rfl rfl (fun _ _ => HpRep.head) (Rds.poolI (j := (List.length S - 2)) m1 (by first | omega | assumption)) rfl (by show _ = List.length _; simp) rfl (by first | omega | (dsimp only; omega)) rfl (by first | omega | (dsimp only; omega)) (by first | omega | (dsimp only; omega)) (lt_dec rfl) fun b46_19 cb46_19 => ?_
                    refine RA_one 14 rfl rfl (by kernel_rfl) (x_buildSlice rfl rfl rfl rfl rfl rfl rfl rfl (Nat.le_of_ble_eq_true rfl) (lt_dec rfl) fun b48_16 => ?_)
                    refine RA_one 15 rfl rfl (by kernel_rfl) (x_append rfl rfl rfl rfl rfl rfl (fun _ _ => (HpRep.head).tail) (.inl ⟨m0, rfl⟩) rfl (by show _ = List.length _; simp) rfl (by first | omega | (dsimp only; omega)) rfl (by first | omega | (dsimp only; omega)) (by first | omega | (dsimp only; omega)) (lt_dec rfl) fun b49_19 cb49_19 => ?_)
                    refine RA_quiet (g := 0) [16] (by kernel_rfl) (by kernel_rfl) (by kernel_rfl) (by kernel_rfl) ?_
                    refine WQ_cons rfl rfl rfl ((p_assign rfl).q) (lt_dec rfl) ?_
                    refine WQ_nil ?_
                    refine RA_done (by kernel_rfl) ?_
                    refine W_region ?_
                    refine Ops_p (p_move rfl) (lt_dec rfl) ?_
                    refine Ops_p (p_move rfl) (lt_dec rfl) ?_
                    refine Ops_p (p_sub rfl rfl (by exact ⟨(by first | omega | (dsimp only; omega)), (by first | omega | (dsimp only; omega))⟩)) (lt_dec rfl) ?_
                    refine Ops_p (p_take (n := (List.length S - 2)) rfl rfl rfl rfl (by omega) (by omega)) (lt_dec rfl) ?_
                    refine Ops_p (p_move rfl) (lt_dec rfl) ?_
                    refine Ops_x rfl (x_buildSlice rfl rfl rfl rfl rfl rfl rfl rfl (Nat.le_of_ble_eq_true rfl) (lt_dec rfl) fun b55_19 => ?_)
                    refine Ops_x rfl (x_append_t (r := valsB S) (r2 := valsB [((slv b49_19 (0 + (List.length (List.getD S (List.length S - 1) bd).2) + (List.length (List.getD S (List.length S - 2) bd).2) + 1) cb49_19), ((([] ++ (List.getD S (List.length S - 1) bd).2) ++ (List.getD S (List.length S - 2) bd).2) ++ [(swp (l.getD i 0))]))]) (q := valsB ((List.take (List.length S - 2) S) ++ [((slv b49_19 (0 + (List.length (List.getD S (List.length S - 1) bd).2) + (List.length (List.getD S (List.length S - 2) bd).2) + 1) cb49_19), ((([] ++ (List.getD S (List.length S - 1) bd).2) ++ (List.getD S (List.length S - 2) bd).2) ++ [(swp (l.getD i 0))]))])) (n := (List.length S - 2)) (m := 1) rfl rfl rfl rfl rfl rfl (fun _ _ => ((((HpRep.head).tail).tail).tail).tail) (Rds.row m0 rfl) (by rw [valsB_len]; omega) (by rw [valsB_take]; exact valsB_app _ _) rfl (by decide) rfl (by first | omega | (dsimp only; omega)) (by first | omega | (dsimp only; omega)) (lt_dec rfl) fun b56_19 cb56_19 => ?_)
                    refine Ops_p (p_assign rfl) (lt_dec rfl) ?_
                    refine Ops_nil ?_
                    refine W_pool (S := S) (S' := ((List.take (List.length S - 2) S) ++ [((slv b49_19 (0 + (List.length (List.getD S (List.length S - 1) bd).2) + (List.length (List.getD S (List.length S - 2) bd).2) + 1) cb49_19), ((([] ++ (List.getD S (List.length S - 1) bd).2) ++ (List.getD S (List.length S - 2) bd).2) ++ [(swp (l.getD i 0))]))])) (slv b49_19 (0 + (List.length (List.getD S (List.length S - 1) bd).2) + (List.length (List.getD S (List.length S - 2) bd).2) + 1) cb49_19) (((([] ++ (List.getD S (List.length S - 1) bd).2) ++ (List.getD S (List.length S - 2) bd).2) ++ [(swp (l.getD i 0))])) (HpDels.cons ((HpDel.head).tail).tail (HpDels.cons ((HpDel.head).tail).tail HpDels.nil)) rfl rfl (own_of_row (by show _ = List.length _; first | (simp; done) | (simp; omega)) rfl) ((List.take_sublist _ _).append (List.Sublist.refl _)) ?_
                    refine W_region ?_
                    refine Ops_p (p_move rfl) (lt_dec rfl) ?_
                    refine Ops_p (p_add rfl rfl (by exact ⟨(by first | omega | (dsimp only; omega)), (by first | omega | (dsimp only; omega))⟩)) (lt_dec rfl) ?_
                    refine Ops_p (p_assign rfl) (lt_dec rfl) ?_
                    refine Ops_nil ?_
                    refine Exists.intro (i + 1, ((List.take (List.length S - 2) S) ++ [((slv b49_19 (0 + (List.length (List.getD S (List.length S - 1) bd).2) + (List.length (List.getD S (List.length S - 2) bd).2) + 1) cb49_19), ((([] ++ (List.getD S (List.length S - 1) bd).2) ++ (List.getD S (List.length S - 2) bd).2) ++ [(swp (l.getD i 0))]))]), b56_19, cb56_19) (And.intro ?_ (And.intro ?_ ?_))
                    · first | exact ⟨by show _ ≤ _; omega, hP.leaf hlf _⟩ | exact ⟨by show _ ≤ _; omega, hP.op hop _ (by first | rfl | simp)⟩
                    · show _ < _; omega
                    · exact Wk.intro (.cons rfl (by first | rfl | exact veq_int (by first | omega | (dsimp only; omega))) (.cons rfl (by exact veq_sl (by simp)) (.cons rfl (by first | rfl | exact veq_int (by first | omega | (dsimp only; omega))) .nil))) (.keep rfl rfl (pool_eq rfl) (.drop (.drop (.keep rfl rfl (fun _ h => h) (.keep rfl rfl (fun _ h => h) .nil)))))
                  · refine x_buildSlice rfl rfl rfl rfl rfl rfl rfl rfl (Nat.le_of_ble_eq_true rfl) (lt_dec rfl) fun b48_17 => ?_
                    refine RA_one 12 rfl rfl (by kernel_rfl) (x_append_rd (m := (List.length (List.getD S (List.length S - 2) bd).2)) rfl rfl rfl rfl rfl rfl (fun _ _ => (HpRep.head).tail) (Rds.poolI (j := (List.length S - 2)) m2 (by first | omega | assumption)) rfl (by show _ = List.length _; simp) rfl (by first | omega | (dsimp only; omega)) rfl (by first | omega | (dsimp only; omega)) (by first | omega | (dsimp only; omega)) (lt_dec rfl) fun b46_20 cb46_20 => ?_)
                    refine RA_one 15 rfl rfl (by kernel_rfl) (x_append rfl rfl rfl rfl rfl rfl (fun _ _ => (HpRep.head).tail) (.inl ⟨m0, rfl⟩) rfl (by show _ = List.length _; simp) rfl (by first | omega | (dsimp only; omega)) rfl (by first | omega | (dsimp only; omega)) (by first | omega | (dsimp only; omega)) (lt_dec rfl) fun b49_20 cb49_20 => ?_)
                    refine RA_quiet (g := 0) [16] (by kernel_rfl) (by kernel_rfl) (by kernel_rfl) (by kernel_rfl) ?_
                    refine WQ_cons rfl rfl rfl ((p_assign rfl).q) (lt_dec rfl) ?_
                    refine WQ_nil ?_
                    refine RA_done (by kernel_rfl) ?_
                    refine W_region ?_
                    refine Ops_p (p_move rfl) (lt_dec rfl) ?_
                    refine Ops_p (p_move rfl) (lt_dec rfl) ?_
                    refine Ops_p (p_sub rfl rfl (by exact ⟨(by first | omega | (dsimp only; omega)), (by first | omega | (dsimp only; omega))⟩)) (lt_dec rfl) ?_
                    refine Ops_p (p_take (n := (List.length S - 2)) rfl rfl rfl rfl (by omega) (by omega)) (lt_dec rfl) ?_
                    refine Ops_p (p_move rfl) (lt_dec rfl) ?_
                    refine Ops_x rfl (x_buildSlice rfl rfl rfl rfl rfl rfl rfl rfl (Nat.le_of_ble_eq_true rfl) (lt_dec rfl) fun b55_20 => ?_)
                    refine Ops_x rfl (x_append_t (r := valsB S) (r2 := valsB [((slv b49_20 (0 + (List.length (List.getD S (List.length S - 1) bd).2) + (List.length (List.getD S (List.length S - 2) bd).2) + 1) cb49_20), ((([] ++ (List.getD S (List.length S - 1) bd).2) ++ (List.getD S (List.length S - 2) bd).2) ++ [(swp (l.getD i 0))]))]) (q := valsB ((List.take (List.length S - 2) S) ++ [((slv b49_20 (0 + (List.length (List.getD S (List.length S - 1) bd).2) + (List.length (List.getD S (List.length S - 2) bd).2) + 1) cb49_20), ((([] ++ (List.getD S (List.length S - 1) bd).2) ++ (List.getD S (List.length S - 2) bd).2) ++ [(swp (l.getD i 0))]))])) (n := (List.length S - 2)) (m := 1) rfl rfl rfl rfl rfl rfl (fun _ _ => ((((HpRep.head).tail).tail).tail).tail) (Rds.row m0 rfl) (by rw [valsB_len]; omega) (by rw [valsB_take]; exact valsB_app _ _) rfl (by decide) rfl (by first | omega | (dsimp only; omega)) (by first | omega | (dsimp only; omega)) (lt_dec rfl) fun b56_20 cb56_20 => ?_)
                    refine Ops_p (p_assign rfl) (lt_dec rfl) ?_
                    refine Ops_nil ?_
                    refine W_pool (S := S) (S' := ((List.take (List.length S - 2) S) ++ [((slv b49_20 (0 + (List.length (List.getD S (List.length S - 1) bd).2) + (List.length (List.getD S (List.length S - 2) bd).2) + 1) cb49_20), ((([] ++ (List.getD S (List.length S - 1) bd).2) ++ (List.getD S (List.length S - 2) bd).2) ++ [(swp (l.getD i 0))]))])) (slv b49_20 (0 + (List.length (List.getD S (List.length S - 1) bd).2) + (List.length (List.getD S (List.length S - 2) bd).2) + 1) cb49_20) (((([] ++ (List.getD S (List.length S - 1) bd).2) ++ (List.getD S (List.length S - 2) bd).2) ++ [(swp (l.getD i 0))])) (HpDels.cons ((HpDel.head).tail).tail (HpDels.cons ((HpDel.head).tail).tail HpDels.nil)) rfl rfl (own_of_row (by show _ = List.length _; first | (simp; done) | (simp; omega)) rfl) ((List.take_sublist _ _).append (List.Sublist.refl _)) ?_
                    refine W_region ?_
                    refine Ops_p (p_move rfl) (lt_dec rfl) ?_
                    refine Ops_p (p_add rfl rfl (by exact ⟨(by first | omega | (dsimp only; omega)), (by first | omega | (dsimp only; omega))⟩)) (lt_dec rfl) ?_
                    refine Ops_p (p_assign rfl) (lt_dec rfl) ?_
                    refine Ops_nil ?_
                    refine Exists.intro (i + 1, ((List.take (List.length S - 2) S) ++ [((slv b49_20 (0 + (List.length (List.getD S (List.length S - 1) bd).2) + (List.length (List.getD S (List.length S - 2) bd).2) + 1) cb49_20), ((([] ++ (List.getD S (List.length S - 1) bd).2) ++ (List.getD S (List.length S - 2) bd).2) ++ [(swp (l.getD i 0))]))]), b56_20, cb56_20) (And.intro ?_ (And.intro ?_ ?_))
                    · first | exact ⟨by show _ ≤ _; omega, hP.leaf hlf _⟩ | exact ⟨by show _ ≤ _; omega, hP.op hop _ (by first | rfl | simp)⟩
                    · show _ < _; omega
                    · exact Wk.intro (.cons rfl (by first | rfl | exact veq_int (by first | omega | (dsimp only; omega))) (.cons rfl (by exact veq_sl (by simp)) (.cons rfl (by first | rfl | exact veq_int (by first | omega | (dsimp only; omega))) .nil))) (.keep rfl rfl (pool_eq rfl) (.drop (.drop (.keep rfl rfl (fun _ h => h) (.keep rfl rfl (fun _ h => h) .nil)))))
                · refine x_buildSlice rfl rfl rfl rfl rfl rfl rfl rfl (Nat.le_of_ble_eq_true rfl) (lt_dec rfl) fun b48_18 => ?_
                  refine RA_one 6 rfl rfl (by kernel_rfl) (x_append_rd (m := (List.length (List.getD S (List.length S - 1) bd).2)) rfl rfl rfl rfl rfl rfl (fun _ _ => (HpRep.head).tail) (Rds.poolI (j := (List.length S - 1)) m2 (by first | omega | assumption)) rfl rfl rfl (by first | omega | (dsimp only; omega)) rfl (by first | omega | (dsimp only; omega)) (by first | omega | (dsimp only; omega)) (lt_dec rfl) fun b40_14 cb40_14 => ?_)
                  refine RA_one 12 rfl rfl (by kernel_rfl) (x_append_rd (m := (List.length (List.getD S (List.length S - 2) bd).2)) rfl rfl rfl rfl rfl rfl (fun _ _ => (HpRep.head).tail) (Rds.poolI (j := (List.length S - 2)) m2 (by first | omega | assumption)) rfl (by show _ = List.length _; simp) rfl (by first | omega | (dsimp only; omega)) rfl (by first | omega | (dsimp only; omega)) (by first | omega | (dsimp only; omega)) (lt_dec rfl) fun b46_21 cb46_21 => ?_)
                  refine RA_one 15 rfl rfl (by kernel_rfl) (x_append rfl rfl rfl rfl rfl rfl (fun _ _ => (HpRep.head).tail) (.inl ⟨m0, rfl⟩) rfl (by show _ = List.length _; simp) rfl (by first | omega | (dsimp only; omega)) rfl (by first | omega | (dsimp only; omega)) (by first | omega | (dsimp only; omega)) (lt_dec rfl) fun b49_21 cb49_21 => ?_)
                  refine RA_quiet (g := 0) [16] (by kernel_rfl) (by kernel_rfl) (by kernel_rfl) (by kernel_rfl) ?_
                  refine WQ_cons rfl rfl rfl ((p_assign rfl).q) (lt_dec rfl) ?_
                  refine WQ_nil ?_
                  refine RA_done (by kernel_rfl) ?_
                  refine W_region ?_
                  refine Ops_p (p_move rfl) (lt_dec rfl) ?_
                  refine Ops_p (p_move rfl) (lt_dec rfl) ?_
                  refine Ops_p (p_sub rfl rfl (by exact ⟨(by first | omega | (dsimp only; omega)), (by first | omega | (dsimp only; omega))⟩)) (lt_dec rfl) ?_
                  refine Ops_p (p_take (n := (List.length S - 2)) rfl rfl rfl rfl (by omega) (by omega)) (lt_dec rfl) ?_
                  refine Ops_p (p_move rfl) (lt_dec rfl) ?_
                  refine Ops_x rfl (x_buildSlice rfl rfl rfl rfl rfl rfl rfl rfl (Nat.le_of_ble_eq_true rfl) (lt_dec rfl) fun b55_21 => ?_)
                  refine Ops_x rfl (x_append_t (r := valsB S) (r2 := valsB [((slv b49_21 (0 + (List.length (List.getD S (List.length S - 1) bd).2) + (List.length (List.getD S (List.length S - 2) bd).2) + 1) cb49_21), ((([] ++ (List.getD S (List.length S - 1) bd).2) ++ (List.getD S (List.length S - 2) bd).2) ++ [(swp (l.getD i 0))]))]) (q := valsB ((List.take (List.length S - 2) S) ++ [((slv b49_21 (0 + (List.length (List.getD S (List.length S - 1) bd).2) + (List.length (List.getD S (List.length S - 2) bd).2) + 1) cb49_21), ((([] ++ (List.getD S (List.length S - 1) bd).2) ++ (List.getD S (List.length S - 2) bd).2) ++ [(swp (l.getD i 0))]))])) (n := (List.length S - 2)) (m := 1) rfl rfl rfl rfl rfl rfl (fun _ _ => ((((HpRep.head).tail).tail).tail).tail) (Rds.row m0 rfl) (by rw [valsB_len]; omega) (by rw [valsB_take]; exact valsB_app _ _) rfl (by decide) rfl (by first | omega | (dsimp only; omega)) (by first | omega | (dsimp only; omega)) (lt_dec rfl) fun b56_21 cb56_21 => ?_)
                  refine Ops_p (p_assign rfl) (lt_dec rfl) ?_
                  refine Ops_nil ?_
                  refine W_pool (S := S) (S' := ((List.take (List.length S - 2) S) ++ [((slv b49_21 (0 + (List.length (List.getD S (List.length S - 1) bd).2) + (List.length (List.getD S (List.length S - 2) bd).2) + 1) cb49_21), ((([] ++ (List.getD S (List.length S - 1) bd).2) ++ (List.getD S (List.length S - 2) bd).2) ++ [(swp (l.getD i 0))]))])) (slv b49_21 (0 + (List.length (List.getD S (List.length S - 1) bd).2) + (List.length (List.getD S (List.length S - 2) bd).2) + 1) cb49_21) (((([] ++ (List.getD S (List.length S - 1) bd).2) ++ (List.getD S (List.length S - 2) bd).2) ++ [(swp (l.getD i 0))])) (HpDels.cons ((HpDel.head).tail).tail (HpDels.cons ((HpDel.head).tail).tail HpDels.nil)) rfl rfl (own_of_row (by show _ = List.length _; first | (simp; done) | (simp; omega)) rfl) ((List.take_sublist _ _).append (List.Sublist.refl _)) ?_
                  refine W_region ?_
                  refine Ops_p (p_move rfl) (lt_dec rfl) ?_
                  refine Ops_p (p_add rfl rfl (by exact ⟨(by first | omega | (dsimp only; omega)), (by first | omega | (dsimp only; omega))⟩)) (lt_dec rfl) ?_
                  refine Ops_p (p_assign rfl) (lt_dec rfl) ?_
                  refine Ops_nil ?_
                  refine Exists.intro (i + 1, ((List.take (List.length S - 2) S) ++ [((slv b49_21 (0 + (List.length (List.getD S (List.length S - 1) bd).2) + (List.length (List.getD S (List.length S - 2) bd).2) + 1) cb49_21), ((([] ++ (List.getD S (List.length S - 1) bd).2) ++ (List.getD S (List.length S - 2) bd).2) ++ [(swp (l.getD i 0))]))]), b56_21, cb56_21) (And.intro ?_ (And.intro ?_ ?_))
                  · first | exact ⟨by show _ ≤ _; omega, hP.leaf hlf _⟩ | exact ⟨by show _ ≤ _; omega, hP.op hop _ (by first | rfl | simp)⟩
                  · show _ < _; omega
                  · exact Wk.intro (.cons rfl (by first | rfl | exact veq_int (by first | omega | (dsimp only; omega))) (.cons rfl (by exact veq_sl (by simp)) (.cons rfl (by first | rfl | exact veq_int (by first | omega | (dsimp only; omega))) .nil))) (.keep rfl rfl (pool_eq rfl) (.drop (.drop (.keep rfl rfl (fun _ h => h) (.keep rfl rfl (fun _ h => h) .nil)))))
              · refine x_buildSlice rfl rfl rfl rfl rfl rfl rfl rfl (Nat.le_of_ble_eq_true rfl) (lt_dec rfl) fun b48_19 => ?_
                refine RA_two 6 11 rfl rfl rfl rfl (by kernel_rfl) ?_ ?_
                · refine x_append_rd (m := (List.length (List.getD S (List.length S - 1) bd).2)) rfl rfl rfl rfl rfl rfl (fun _ _ => (HpRep.head).tail) (Rds.poolI (j := (List.length S - 1)) m2 (by first | omega | assumption)) rfl rfl rfl (by first | omega | (dsimp only; omega)) rfl (by first | omega | (dsimp only; omega)) (by first | omega | (dsimp only; omega)) (lt_dec rfl) fun b40_15 cb40_15 => ?_
                  refine RA_quiet (g := 3) [11] (by kernel_rfl) (by kernel_rfl) (by kernel_rfl) (by kernel_rfl) ?_
                  refine WQ_cons rfl rfl rfl ((q_load_bs (S := S) (j := (List.length S - 2)) rfl rfl m3 rfl (by first | omega | (dsimp only; omega)) rfl rfl)) (lt_dec rfl) ?_
                  refine WQ_nil ?_
                  refine RA_one 12 rfl rfl (by kernel_rfl) (x_append_rd (m := (List.length (List.getD S (List.length S - 2) bd).2)) rfl rfl rfl rfl rfl rfl (fun _ _ => (HpRep.head).tail) (Rds.poolI (j := (List.length S - 2)) m2 (by first | omega | assumption)) rfl (by show _ = List.length _; simp) rfl (by first | omega | (dsimp only; omega)) rfl (by first | omega | (dsimp only; omega)) (by first | omega | (dsimp only; omega)) (lt_dec rfl) fun b46_22 cb46_22 => ?_)
                  refine RA_one 15 rfl rfl (by kernel_rfl) (x_append rfl rfl rfl rfl rfl rfl (fun _ _ => (HpRep.head).tail) (.inl ⟨m0, rfl⟩) rfl (by show _ = List.length _; simp) rfl (by first | omega | (dsimp only; omega)) rfl (by first | omega | (dsimp only; omega)) (by first | omega | (dsimp only; omega)) (lt_dec rfl) fun b49_22 cb49_22 => ?_)
                  refine RA_quiet (g := 0) [16] (by kernel_rfl) (by kernel_rfl) (by kernel_rfl) (by kernel_rfl) ?_
                  refine WQ_cons rfl rfl rfl ((p_assign rfl).q) (lt_dec rfl) ?_
                  refine WQ_nil ?_
                  refine RA_done (by kernel_rfl) ?_
                  refine W_region ?_
                  refine Ops_p (p_move rfl) (lt_dec rfl) ?_
                  refine Ops_p (p_move rfl) (lt_dec rfl) ?_
                  refine Ops_p (p_sub rfl rfl (by exact ⟨(by first | omega | (dsimp only; omega)), (by first | omega | (dsimp only; omega))⟩)) (lt_dec rfl) ?_
                  refine Ops_p (p_take (n := (List.length S - 2)) rfl rfl rfl rfl (by omega) (by omega)) (lt_dec rfl) ?_
                  refine Ops_p (p_move rfl) (lt_dec rfl) ?_
                  refine Ops_x rfl (x_buildSlice rfl rfl rfl rfl rfl rfl rfl rfl (Nat.le_of_ble_eq_true rfl) (lt_dec rfl) fun b55_22 => ?_)
                  refine Ops_x rfl (x_append_t (r := valsB S) (r2 := valsB [((slv b49_22 (0 + (List.length (List.getD S (List.length S - 1) bd).2) + (List.length (List.getD S (List.length S - 2) bd).2) + 1) cb49_22), ((([] ++ (List.getD S (List.length S - 1) bd).2) ++ (List.getD S (List.length S - 2) bd).2) ++ [(swp (l.getD i 0))]))]) (q := valsB ((List.take (List.length S - 2) S) ++ [((slv b49_22 (0 + (List.length (List.getD S (List.length S - 1) bd).2) + (List.length (List.getD S (List.length S - 2) bd).2) + 1) cb49_22), ((([] ++ (List.getD S (List.length S - 1) bd).2) ++ (List.getD S (List.length S - 2) bd).2) ++ [(swp (l.getD i 0))]))])) (n := (List.length S - 2)) (m := 1) rfl rfl rfl rfl rfl rfl (fun _ _ => ((((HpRep.head).tail).tail).tail).tail) (Rds.row m0 rfl) (by rw [valsB_len]; omega) (by rw [valsB_take]; exact valsB_app _ _) rfl (by decide) rfl (by first | omega | (dsimp only; omega)) (by first | omega | (dsimp only; omega)) (lt_dec rfl) fun b56_22 cb56_22 => ?_)
                  refine Ops_p (p_assign rfl) (lt_dec rfl) ?_
                  refine Ops_nil ?_
                  refine W_pool (S := S) (S' := ((List.take (List.length S - 2) S) ++ [((slv b49_22 (0 + (List.length (List.getD S (List.length S - 1) bd).2) + (List.length (List.getD S (List.length S - 2) bd).2) + 1) cb49_22), ((([] ++ (List.getD S (List.length S - 1) bd).2) ++ (List.getD S (List.length S - 2) bd).2) ++ [(swp (l.getD i 0))]))])) (slv b49_22 (0 + (List.length (List.getD S (List.length S - 1) bd).2) + (List.length (List.getD S (List.length S - 2) bd).2) + 1) cb49_22) (((([] ++ (List.getD S (List.length S - 1) bd).2) ++ (List.getD S (List.length S - 2) bd).2) ++ [(swp (l.getD i 0))])) (HpDels.cons ((HpDel.head).tail).tail (HpDels.cons ((HpDel.head).tail).tail HpDels.nil)) rfl rfl (own_of_row (by show _ = List.length _; first | (simp; done) | (simp; omega)) rfl) ((List.take_sublist _ _).append (List.Sublist.refl _)) ?_
                  refine W_region ?_
                  refine Ops_p (p_move rfl) (lt_dec rfl) ?_
                  refine Ops_p (p_add rfl rfl (by exact ⟨(by first | omega | (dsimp only; omega)), (by first | omega | (dsimp only; omega))⟩)) (lt_dec rfl) ?_
                  refine Ops_p (p_assign rfl) (lt_dec rfl) ?_
                  refine Ops_nil ?_
                  refine Exists.intro (i + 1, ((List.take (List.length S - 2) S) ++ [((slv b49_22 (0 + (List.length (List.getD S (List.length S - 1) bd).2) + (List.length (List.getD S (List.length S - 2) bd).2) + 1) cb49_22), ((([] ++ (List.getD S (List.length S - 1) bd).2) ++ (List.getD S (List.length S - 2) bd).2) ++ [(swp (l.getD i 0))]))]), b56_22, cb56_22) (And.intro ?_ (And.intro ?_ ?_))
                  · first | exact ⟨by show _ ≤ _; omega, hP.leaf hlf _⟩ | exact ⟨by show _ ≤ _; omega, hP.op hop _ (by first | rfl | simp)⟩
                  · show _ < _; omega
                  · exact Wk.intro (.cons rfl (by first | rfl | exact veq_int (by first | omega | (dsimp only; omega))) (.cons rfl (by exact veq_sl (by simp)) (.cons rfl (by first | rfl | exact veq_int (by first | omega | (dsimp only; omega))) .nil))) (.keep rfl rfl (pool_eq rfl) (.drop (.drop (.keep rfl rfl (fun _ h => h) (.keep rfl rfl (fun _ h => h) .nil)))))
                · refine Xt_of_Qt rfl (lt_dec rfl) ((q_load_bs (S := S) (j := (List.length S - 2)) rfl rfl m3 rfl (by first | omega | (dsimp only; omega)) rfl rfl)) ?_
                  refine RA_one 6 rfl rfl (by kernel_rfl) (x_append_rd (m := (List.length (List.getD S (List.length S - 1) bd).2)) rfl rfl rfl rfl rfl rfl (fun _ _ => (HpRep.head).tail) (Rds.poolI (j := (List.length S - 1)) m2 (by first | omega | assumption)) rfl rfl rfl (by first | omega | (dsimp only; omega)) rfl (by first | omega | (dsimp only; omega)) (by first | omega | (dsimp only; omega)) (lt_dec rfl) fun b40_16 cb40_16 => ?_)
                  refine RA_one 12 rfl rfl (by kernel_rfl) (x_append_rd (m := (List.length (List.getD S (List.length S - 2) bd).2)) rfl rfl rfl rfl rfl rfl (fun _ _ => (HpRep.head).tail) (Rds.poolI (j := (List.length S - 2)) m2 (by first | omega | assumption)) rfl (by show _ = List.length _; simp) rfl (by first | omega | (dsimp only; omega)) rfl (by first | omega | (dsimp only; omega)) (by first | omega | (dsimp only; omega)) (lt_dec rfl) fun b46_23 cb46_23 => ?_)
                  refine RA_one 15 rfl rfl (by kernel_rfl) (x_append rfl rfl rfl rfl rfl rfl (fun _ _ => (HpRep.head).tail) (.inl ⟨m0, rfl⟩) rfl (by show _ = List.length _; simp) rfl (by first | omega | (dsimp only; omega)) rfl (by first | omega | (dsimp only; omega)) (by first | omega | (dsimp only; omega)) (lt_dec rfl) fun b49_23 cb49_23 => ?_)
                  refine RA_quiet (g := 0) [16] (by kernel_rfl) (by kernel_rfl) (by kernel_rfl) (by kernel_rfl) ?_
                  refine WQ_cons rfl rfl rfl ((p_assign rfl).q) (lt_dec rfl) ?_
                  refine WQ_nil ?_
                  refine RA_done (by kernel_rfl) ?_
                  refine W_region ?_
                  refine Ops_p (p_move rfl) (lt_dec rfl) ?_
                  refine Ops_p (p_move rfl) (lt_dec rfl) ?_
                  refine Ops_p (p_sub rfl rfl (by exact ⟨(by first | omega | (dsimp only; omega)), (by first | omega | (dsimp only; omega))⟩)) (lt_dec rfl) ?_
                  refine Ops_p (p_take (n := (List.length S - 2)) rfl rfl rfl rfl (by omega) (by omega)) (lt_dec rfl) ?_
                  refine Ops_p (p_move rfl) (lt_dec rfl) ?_
                  refine Ops_x rfl (x_buildSlice rfl rfl rfl rfl rfl rfl rfl rfl (Nat.le_of_ble_eq_true rfl) (lt_dec rfl) fun b55_23 => ?_)
                  refine Ops_x rfl (x_append_t (r := valsB S) (r2 := valsB [((slv b49_23 (0 + (List.length (List.getD S (List.length S - 1) bd).2) + (List.length (List.getD S (List.length S - 2) bd).2) + 1) cb49_23), ((([] ++ (List.getD S (List.length S - 1) bd).2) ++ (List.getD S (List.length S - 2) bd).2) ++ [(swp (l.getD i 0))]))]) (q := valsB ((List.take (List.length S - 2) S) ++ [((slv b49_23 (0 + (List.length (List.getD S (List.length S - 1) bd).2) + (List.length (List.getD S (List.length S - 2) bd).2) + 1) cb49_23), ((([] ++ (List.getD S (List.length S - 1) bd).2) ++ (List.getD S (List.length S - 2) bd).2) ++ [(swp (l.getD i 0))]))])) (n := (List.length S - 2)) (m := 1) rfl rfl rfl rfl rfl rfl (fun _ _ => ((((HpRep.head).tail).tail).tail).tail) (Rds.row m0 rfl) (by rw [valsB_len]; omega) (by rw [valsB_take]; exact valsB_app _ _) rfl (by decide) rfl (by first | omega | (dsimp only; omega)) (by first | omega | (dsimp only; omega)) (lt_dec rfl) fun b56_23 cb56_23 => ?_)
                  refine Ops_p (p_assign rfl) (lt_dec rfl) ?_
                  refine Ops_nil ?_
                  refine W_pool (S := S) (S' := ((List.take (List.length S - 2) S) ++ [((slv b49_23 (0 + (List.length (List.getD S (List.length S - 1) bd).2) + (List.length (List.getD S (List.length S - 2) bd).2) + 1) cb49_23), ((([] ++ (List.getD S (List.length S - 1) bd).2) ++ (List.getD S (List.length S - 2) bd).2) ++ [(swp (l.getD i 0))]))])) (slv b49_23 (0 + (List.length (List.getD S (List.length S - 1) bd).2) + (List.length (List.getD S (List.length S - 2) bd).2) + 1) cb49_23) (((([] ++ (List.getD S (List.length S - 1) bd).2) ++ (List.getD S (List.length S - 2) bd).2) ++ [(swp (l.getD i 0))])) (HpDels.cons ((HpDel.head).tail).tail (HpDels.cons ((HpDel.head).tail).tail HpDels.nil)) rfl rfl (own_of_row (by show _ = List.length _; first | (simp; done) | (simp; omega)) rfl) ((List.take_sublist _ _).append (List.Sublist.refl _)) ?_
                  refine W_region ?_
                  refine Ops_p (p_move rfl) (lt_dec rfl) ?_
                  refine Ops_p (p_add rfl rfl (by exact ⟨(by first | omega | (dsimp only; omega)), (by first | omega | (dsimp only; omega))⟩)) (lt_dec rfl) ?_
                  refine Ops_p (p_assign rfl) (lt_dec rfl) ?_
                  refine Ops_nil ?_
                  refine Exists.intro (i + 1, ((List.take (List.length S - 2) S) ++ [((slv b49_23 (0 + (List.length (List.getD S (List.length S - 1) bd).2) + (List.length (List.getD S (List.length S - 2) bd).2) + 1) cb49_23), ((([] ++ (List.getD S (List.length S - 1) bd).2) ++ (List.getD S (List.length S - 2) bd).2) ++ [(swp (l.getD i 0))]))]), b56_23, cb56_23) (And.intro ?_ (And.intro ?_ ?_))
                  · first | exact ⟨by show _ ≤ _; omega, hP.leaf hlf _⟩ | exact ⟨by show _ ≤ _; omega, hP.op hop _ (by first | rfl | simp)⟩
                  · show _ < _; omega
                  · exact Wk.intro (.cons rfl (by first | rfl | exact veq_int (by first | omega | (dsimp only; omega))) (.cons rfl (by exact veq_sl (by simp)) (.cons rfl (by first | rfl | exact veq_int (by first | omega | (dsimp only; omega))) .nil))) (.keep rfl rfl (pool_eq rfl) (.drop (.drop (.keep rfl rfl (fun _ h => h) (.keep rfl rfl (fun _ h => h) .nil)))))
            · refine Xt_of_Qt rfl (lt_dec rfl) ((q_load_bs (S := S) (j := (List.length S - 2)) rfl rfl m1 rfl (by first | omega | (dsimp only; omega)) rfl rfl)) ?_
              refine RA_two 0 14 rfl rfl rfl rfl (by kernel_rfl) ?_ ?_
              · refine x_buildSlice rfl rfl rfl rfl rfl rfl rfl rfl (Nat.le_of_ble_eq_true rfl) (lt_dec rfl) fun b34_3 => ?_
                refine RA_two 6 14 rfl rfl rfl rfl (by kernel_rfl) ?_ ?_
                · refine x_append_rd (m := (List.length (List.getD S (List.length S - 1) bd).2)) rfl rfl rfl rfl rfl rfl (fun _ _ => HpRep.head) (Rds.poolI (j := (List.length S - 1)) m1 (by first | omega | assumption)) rfl rfl rfl (by first | omega | (dsimp only; omega)) rfl (by first | omega | (dsimp only; omega)) (by first | omega | (dsimp only; omega)) (lt_dec rfl) fun b40_17 cb40_17 => ?_
                  refine RA_two 12 14 rfl rfl rfl rfl (by kernel_rfl) ?_ ?_
                  · refine x_append_rd (m := (List.length (List.getD S (List.length S - 2) bd).2)) rfl rfl rfl rfl rfl rfl (fun _ _ => HpRep.head) (Rds.poolI (j := (List.length S - 2)) m1 (by first | omega | assumption)) rfl (by show _ = List.length _; simp) rfl (by first | omega | (dsimp only; omega)) rfl (by first | omega | (dsimp only; omega)) (by first | omega | (dsimp only; omega)) (lt_dec rfl) fun b46_24 cb46_24 => ?_
                    refine RA_one 14 rfl rfl (by kernel_rfl) (x_buildSlice rfl rfl rfl rfl rfl rfl rfl rfl (Nat.le_of_ble_eq_true rfl) (lt_dec rfl) fun b48_20 => ?_)
                    refine RA_one 15 rfl rfl (by kernel_rfl) (x_append rfl rfl rfl rfl rfl rfl (fun _ _ => (HpRep.head).tail) (.inl ⟨m0, rfl⟩) rfl (by show _ = List.length _; simp) rfl (by first | omega | (dsimp only; omega)) rfl (by first | omega | (dsimp only; omega)) (by first | omega | (dsimp only; omega)) (lt_dec rfl) fun b49_24 cb49_24 => ?_)
                    refine RA_quiet (g := 0) [16] (by kernel_rfl) (by kernel_rfl) (by kernel_rfl) (by kernel_rfl) ?_
                    refine WQ_cons rfl rfl rfl ((p_assign rfl).q) (lt_dec rfl) ?_
                    refine WQ_nil ?_
                    refine RA_done (by kernel_rfl) ?_
                    refine W_region ?_
                    refine Ops_p (p_move rfl) (lt_dec rfl) ?_
                    refine Ops_p (p_move rfl) (lt_dec rfl) ?_
                    refine Ops_p (p_sub rfl rfl (by exact ⟨(by first | omega | (dsimp only; omega)), (by first | omega | (dsimp only; omega))⟩)) (lt_dec rfl) ?_
                    refine Ops_p (p_take (n := (List.length S - 2)) rfl rfl rfl rfl (by omega) (by omega)) (lt_dec rfl) ?_
                    refine Ops_p (p_move rfl) (lt_dec rfl) ?_
                    refine Ops_x rfl (x_buildSlice rfl rfl rfl rfl rfl rfl rfl rfl (Nat.le_of_ble_eq_true rfl) (lt_dec rfl) fun b55_24 => ?_)
                    refine Ops_x rfl (x_append_t (r := valsB S) (r2 := valsB [((slv b49_24 (0 + (List.length (List.getD S (List.length S - 1) bd).2) + (List.length (List.getD S (List.length S - 2) bd).2) + 1) cb49_24), ((([] ++ (List.getD S (List.length S - 1) bd).2) ++ (List.getD S (List.length S - 2) bd).2) ++ [(swp (l.getD i 0))]))]) (q := valsB ((List.take (List.length S - 2) S) ++ [((slv b49_24 (0 + (List.length (List.getD S (List.length S - 1) bd).2) + (List.length (List.getD S (List.length S - 2) bd).2) + 1) cb49_24), ((([] ++ (List.getD S (List.length S - 1) bd).2) ++ (List.getD S (List.length S - 2) bd).2) ++ [(swp (l.getD i 0))]))])) (n := (List.length S - 2)) (m := 1) rfl rfl rfl rfl rfl rfl (fun _ _ => ((((HpRep.head).tail).tail).tail).tail) (Rds.row m0 rfl) (by rw [valsB_len]; omega) (by rw [valsB_take]; exact valsB_app _ _) rfl (by decide) rfl (by first | omega | (dsimp only; omega)) (by first | omega | (dsimp only; omega)) (lt_dec rfl) fun b56_24 cb56_24 => ?_)
                    refine Ops_p (p_assign rfl) (lt_dec rfl) ?_
                    refine Ops_nil ?_
                    refine W_pool (S := S) (S' := ((List.take (List.length S - 2) S) ++ [((slv b49_24 (0 + (List.length (List.getD S (List.length S - 1) bd).2) + (List.length (List.getD S (List.length S - 2) bd).2) + 1) cb49_24), ((([] ++ (List.getD S (List.length S - 1) bd).2) ++ (List.getD S (List.length S - 2) bd).2) ++ [(swp (l.getD i 0))]))])) (slv b49_24 (0 + (List.length (List.getD S (List.length S - 1) bd).2) + (List.length (List.getD S (List.length S - 2) bd).2) + 1) cb49_24) (((([] ++ (List.getD S (List.length S - 1) bd).2) ++ (List.getD S (List.length S - 2) bd).2) ++ [(swp (l.getD i 0))])) (HpDels.cons ((HpDel.head).tail).tail (HpDels.cons ((HpDel.head).tail).tail HpDels.nil)) rfl rfl (own_of_row (by show _ = List.length _; first | (simp; done) | (simp; omega)) rfl) ((List.take_sublist _ _).append (List.Sublist.refl _)) ?_
                    refine W_region ?_
                    refine Ops_p (p_move rfl) (lt_dec rfl) ?_
                    refine Ops_p (p_add rfl rfl (by exact ⟨(by first | omega | (dsimp only; omega)), (by first | omega | (dsimp only; omega))⟩)) (lt_dec rfl) ?_
                    refine Ops_p (p_assign rfl) (lt_dec rfl) ?_
                    refine Ops_nil ?_
                    refine Exists.intro (i + 1, ((List.take (List.length S - 2) S) ++ [((slv b49_24 (0 + (List.length (List.getD S (List.length S - 1) bd).2) + (List.length (List.getD S (List.length S - 2) bd).2) + 1) cb49_24), ((([] ++ (List.getD S (List.length S - 1) bd).2) ++ (List.getD S (List.length S - 2) bd).2) ++ [(swp (l.getD i 0))]))]), b56_24, cb56_24) (And.intro ?_ (And.intro ?_ ?_))
                    · first | exact ⟨by show _ ≤ _; omega, hP.leaf hlf _⟩ | exact ⟨by show _ ≤ _; omega, hP.op hop _ (by first | rfl | simp)⟩
                    · show _ < _; omega
                    · exact Wk.intro (.cons rfl (by first | rfl | exact veq_int (by first | omega | (dsimp only; omega))) (.cons rfl (by exact veq_sl (by simp)) (.cons rfl (by first | rfl | exact veq_int (by first | omega | (dsimp only; omega))) .nil))) (.keep rfl rfl (pool_eq rfl) (.drop (.drop (.keep rfl rfl (fun _ h => h) (.keep rfl rfl (fun _ h => h) .nil)))))
                  · refine x_buildSlice rfl rfl rfl rfl rfl rfl rfl rfl (Nat.le_of_ble_eq_true rfl) (lt_dec rfl) fun b48_21 => ?_
                    refine RA_one 12 rfl rfl (by kernel_rfl) (x_append_rd (m := (List.length (List.getD S (List.length S - 2) bd).2)) rfl rfl rfl rfl rfl rfl (fun _ _ => (HpRep.head).tail) (Rds.poolI (j := (List.length S - 2)) m2 (by first | omega | assumption)) rfl (by show _ = List.length _; simp) rfl (by first | omega | (dsimp only; omega)) rfl (by first | omega | (dsimp only; omega)) (by first | omega | (dsimp only; omega)) (lt_dec rfl) fun b46_25 cb46_25 => ?_)
                    refine RA_one 15 rfl rfl (by kernel_rfl) (x_append rfl rfl rfl rfl rfl rfl (fun _ _ => (HpRep.head).tail) (.inl ⟨m0, rfl⟩) rfl (by show _ = List.length _; simp) rfl (by first | omega | (dsimp only; omega)) rfl (by first | omega | (dsimp only; omega)) (by first | omega | (dsimp only; omega)) (lt_dec rfl) fun b49_25 cb49_25 => ?_)
                    refine RA_quiet (g := 0) [16] (by kernel_rfl) (by kernel_rfl) (by kernel_rfl) (by kernel_rfl) ?_
                    refine WQ_cons rfl rfl rfl ((p_assign rfl).q) (lt_dec rfl) ?_
                    refine WQ_nil ?_
                    refine RA_done (by kernel_rfl) ?_
                    refine W_region ?_
                    refine Ops_p (p_move rfl) (lt_dec rfl) ?_
                    refine Ops_p (p_move rfl) (lt_dec rfl) ?_
                    refine Ops_p (p_sub rfl rfl (by exact ⟨(by first | omega | (dsimp only; omega)), (by first | omega | (dsimp only; omega))⟩)) (lt_dec rfl) ?_
                    refine Ops_p (p_take (n := (List.length S - 2)) rfl rfl rfl rfl (by omega) (by omega)) (lt_dec rfl) ?_
                    refine Ops_p (p_move rfl) (lt_dec rfl) ?_
                    refine Ops_x rfl (x_buildSlice rfl rfl rfl rfl rfl rfl rfl rfl (Nat.le_of_ble_eq_true rfl) (lt_dec rfl) fun b55_25 => ?_)
                    refine Ops_x rfl (x_append_t (r := valsB S) (r2 := valsB [((slv b49_25 (0 + (List.length (List.getD S (List.length S - 1) bd).2) + (List.length (List.getD S (List.length S - 2) bd).2) + 1) cb49_25), ((([] ++ (List.getD S (List.length S - 1) bd).2) ++ (List.getD S (List.length S - 2) bd).2) ++ [(swp (l.getD i 0))]))]) (q := valsB ((List.take (List.length S - 2) S) ++ [((slv b49_25 (0 + (List.length (List.getD S (List.length S - 1) bd).2) + (List.length (List.getD S (List.length S - 2) bd).2) + 1) cb49_25), ((([] ++ (List.getD S (List.length S - 1) bd).2) ++ (List.getD S (List.length S - 2) bd).2) ++ [(swp (l.getD i 0))]))])) (n := (List.length S - 2)) (m := 1) rfl rfl rfl rfl rfl rfl (fun _ _ => ((((HpRep.head).tail).tail).tail).tail) (Rds.row m0 rfl) (by rw [valsB_len]; omega) (by rw [valsB_take]; exact valsB_app _ _) rfl (by decide) rfl (by first | omega | (dsimp only; omega)) (by first | omega | (dsimp only; omega)) (lt_dec rfl) fun b56_25 cb56_25 => ?_)
                    refine Ops_p (p_assign rfl) (lt_dec rfl) ?_
                    refine Ops_nil ?_
                    refine W_pool (S := S) (S' := ((List.take (List.length S - 2) S) ++ [((slv b49_25 (0 + (List.length (List.getD S (List.length S - 1) bd).2) + (List.length (List.getD S (List.length S - 2) bd).2) + 1) cb49_25), ((([] ++ (List.getD S (List.length S - 1) bd).2) ++ (List.getD S (List.length S - 2) bd).2) ++ [(swp (l.getD i 0))]))])) (slv b49_25 (0 + (List.length (List.getD S (List.length S - 1) bd).2) + (List.length (List.getD S (List.length S - 2) bd).2) + 1) cb49_25) (((([] ++ (List.getD S (List.length S - 1) bd).2) ++ (List.getD S (List.length S - 2) bd).2) ++ [(swp (l.getD i 0))])) (HpDels.cons ((HpDel.head).tail).tail (HpDels.cons ((HpDel.head).tail).tail HpDels.nil)) rfl rfl (own_of_row (by show _ = List.length _; first | (simp; done) | (simp; omega)) rfl) ((List.take_sublist _ _).append (List.Sublist.refl _)) ?_
                    refine W_region ?_
                    refine Ops_p (p_move rfl) (lt_dec rfl) ?_
                    refine Ops_p (p_add rfl rfl (by exact ⟨(by first | omega | (dsimp only; omega)), (by first | omega | (dsimp only; omega))⟩)) (lt_dec rfl) ?_
                    refine Ops_p (p_assign rfl) (lt_dec rfl) ?_
                    refine Ops_nil ?_
                    refine Exists.intro (i + 1, ((List.take (List.length S - 2) S) ++ [((slv b49_25 (0 + (List.length (List.getD S (List.length S - 1) bd).2) + (List.length (List.getD S (List.length S - 2) bd).2) + 1) cb49_25), ((([] ++ (List.getD S (List.length S - 1) bd).2) ++ (List.getD S (List.length S - 2) bd).2) ++ [(swp (l.getD i 0))]))]), b56_25, cb56_25) (And.intro ?_ (And.intro ?_ ?_))
                    · first | exact ⟨by show _ ≤ _; omega, hP.leaf hlf _⟩ | exact ⟨by show _ ≤ _; omega, hP.op hop _ (by first | rfl | simp)⟩
                    · show _ < _; omega
                    · exact Wk.intro (.cons rfl (by first | rfl | exact veq_int (by first | omega | (dsimp only; omega))) (.cons rfl (by exact veq_sl (by simp)) (.cons rfl (by first | rfl | exact veq_int (by first | omega | (dsimp only; omega))) .nil))) (.keep rfl rfl (pool_eq rfl) (.drop (.drop (.keep rfl rfl (fun _ h => h) (.keep rfl rfl (fun _ h => h) .nil)))))
                · refine x_buildSlice rfl rfl rfl rfl rfl rfl rfl rfl (Nat.le_of_ble_eq_true rfl) (lt_dec rfl) fun b48_22 => ?_
                  refine RA_one 6 rfl rfl (by kernel_rfl) (x_append_rd (m := (List.length (List.getD S (List.length S - 1) bd).2)) rfl rfl rfl rfl rfl rfl (fun _ _ => (HpRep.head).tail) (Rds.poolI (j := (List.length S - 1)) m2 (by first | omega | assumption)) rfl rfl rfl (by first | omega | (dsimp only; omega)) rfl (by first | omega | (dsimp only; omega)) (by first | omega | (dsimp only; omega)) (lt_dec rfl) fun b40_18 cb40_18 => ?_)
                  refine RA_one 12 rfl rfl (by kernel_rfl) (x_append_rd (m := (List.length (List.getD S (List.length S - 2) bd).2)) rfl rfl rfl rfl rfl rfl (fun _ _ => (HpRep.head).tail) (Rds.poolI (j := (List.length S - 2)) m2 (by first | omega | assumption)) rfl (by show _ = List.length _; simp) rfl (by first | omega | (dsimp only; omega)) rfl (by first | omega | (dsimp only; omega)) (by first | omega | (dsimp only; omega)) (lt_dec rfl) fun b46_26 cb46_26 => ?_)
                  refine RA_one 15 rfl rfl (by kernel_rfl) (x_append rfl rfl rfl rfl rfl rfl (fun _ _ => (HpRep.head).tail) (.inl ⟨m0, rfl⟩) rfl (by show _ = List.length _; simp) rfl (by first | omega | (dsimp only; omega)) rfl (by first | omega | (dsimp only; omega)) (by first | omega | (dsimp only; omega)) (lt_dec rfl) fun b49_26 cb49_26 => ?_)
                  refine RA_quiet (g := 0) [16] (by kernel_rfl) (by kernel_rfl) (by kernel_rfl) (by kernel_rfl) ?_
                  refine WQ_cons rfl rfl rfl ((p_assign rfl).q) (lt_dec rfl) ?_
                  refine WQ_nil ?_
                  refine RA_done (by kernel_rfl) ?_
                  refine W_region ?_
                  refine Ops_p (p_move rfl) (lt_dec rfl) ?_
                  refine Ops_p (p_move rfl) (lt_dec rfl) ?_
                  refine Ops_p (p_sub rfl rfl (by exact ⟨(by first | omega | (dsimp only; omega)), (by first | omega | (dsimp only; omega))⟩)) (lt_dec rfl) ?_
                  refine Ops_p (p_take (n := (List.length S - 2)) rfl rfl rfl rfl (by omega) (by omega)) (lt_dec rfl) ?_
                  refine Ops_p (p_move rfl) (lt_dec rfl) ?_
                  refine Ops_x rfl (x_buildSlice rfl rfl rfl rfl rfl rfl rfl rfl (Nat.le_of_ble_eq_true rfl) (lt_dec rfl) fun b55_26 => ?_)
                  refine Ops_x rfl (x_append_t (r := valsB S) (r2 := valsB [((slv b49_26 (0 + (List.length (List.getD S (List.length S - 1) bd).2) + (List.length (List.getD S (List.length S - 2) bd).2) + 1) cb49_26), ((([] ++ (List.getD S (List.length S - 1) bd).2) ++ (List.getD S (List.length S - 2) bd).2) ++ [(swp (l.getD i 0))]))]) (q := valsB ((List.take (List.length S - 2) S) ++ [((slv b49_26 (0 + (List.length (List.getD S (List.length S - 1) bd).2) + (List.length (List.getD S (List.length S - 2) bd).2) + 1) cb49_26), ((([] ++ (List.getD S (List.length S - 1) bd).2) ++ (List.getD S (List.length S - 2) bd).2) ++ [(swp (l.getD i 0))]))])) (n := (List.length S - 2)) (m := 1) rfl rfl rfl rfl rfl rfl (fun _ _ => ((((HpRep.head).tail).tail).tail).tail) (Rds.row m0 rfl) (by rw [valsB_len]; omega) (by rw [valsB_take]; exact valsB_app _ _) rfl (by decide) rfl (by first | omega | (dsimp only; omega)) (by first | omega | (dsimp only; omega)) (lt_dec rfl) fun b56_26 cb56_26 => ?_)
                  refine Ops_p (p_assign rfl) (lt_dec rfl) ?_
                  refine Ops_nil ?_
                  refine W_pool (S := S) (S' := ((List.take (List.length S - 2) S) ++ [((slv b49_26 (0 + (List.length (List.getD S (List.length S - 1) bd).2) + (List.length (List.getD S (List.length S - 2) bd).2) + 1) cb49_26), ((([] ++ (List.getD S (List.length S - 1) bd).2) ++ (List.getD S (List.length S - 2) bd).2) ++ [(swp (l.getD i 0))]))])) (slv b49_26 (0 + (List.length (List.getD S (List.length S - 1) bd).2) + (List.length (List.getD S (List.length S - 2) bd).2) + 1) cb49_26) (((([] ++ (List.getD S (List.length S - 1) bd).2) ++ (List.getD S (List.length S - 2) bd).2) ++ [(swp (l.getD i 0))])) (HpDels.cons ((HpDel.head).tail).tail (HpDels.cons ((HpDel.head).tail).tail HpDels.nil)) rfl rfl (own_of_row (by show _ = List.length _; first | (simp; done) | (simp; omega)) rfl) ((List.take_sublist _ _).append (List.Sublist.refl _)) ?_
                  refine W_region ?_
                  refine Ops_p (p_move rfl) (lt_dec rfl) ?_
                  refine Ops_p (p_add rfl rfl (by exact ⟨(by first | omega | (dsimp only; omega)), (by first | omega | (dsimp only; omega))⟩)) (lt_dec rfl) ?_
                  refine Ops_p (p_assign rfl) (lt_dec rfl) ?_
                  refine Ops_nil ?_
                  refine Exists.intro (i + 1, ((List.take (List.length S - 2) S) ++ [((slv b49_26 (0 + (List.length (List.getD S (List.length S - 1) bd).2) + (List.length (List.getD S (List.length S - 2) bd).2) + 1) cb49_26), ((([] ++ (List.getD S (List.length S - 1) bd).2) ++ (List.getD S (List.length S - 2) bd).2) ++ [(swp (l.getD i 0))]))]), b56_26, cb56_26) (And.intro ?_ (And.intro ?_ ?_))
                  · first | exact ⟨by show _ ≤ _; omega, hP.leaf hlf _⟩ | exact ⟨by show _ ≤ _; omega, hP.op hop _ (by first | rfl | simp)⟩
                  · show _ < _; omega
                  · exact Wk.intro (.cons rfl (by first | rfl | exact veq_int (by first | omega | (dsimp only; omega))) (.cons rfl (by exact veq_sl (by simp)) (.cons rfl (by first | rfl | exact veq_int (by first | omega | (dsimp only; omega))) .nil))) (.keep rfl rfl (pool_eq rfl) (.drop (.drop (.keep rfl rfl (fun _ h => h) (.keep rfl rfl (fun _ h => h) .nil)))))
              · refine x_buildSlice rfl rfl rfl rfl rfl rfl rfl rfl (Nat.le_of_ble_eq_true rfl) (lt_dec rfl) fun b48_23 => ?_
                refine RA_one 0 rfl rfl (by kernel_rfl) (x_buildSlice rfl rfl rfl rfl rfl rfl rfl rfl (Nat.le_of_ble_eq_true rfl) (lt_dec rfl) fun b34_4 => ?_)
                refine RA_one 6 rfl rfl (by kernel_rfl) (x_append_rd (m := (List.length (List.getD S (List.length S - 1) bd).2)) rfl rfl rfl rfl rfl rfl (fun _ _ => HpRep.head) (Rds.poolI (j := (List.length S - 1)) m2 (by first | omega | assumption)) rfl rfl rfl (by first | omega | (dsimp only; omega)) rfl (by first | omega | (dsimp only; omega)) (by first | omega | (dsimp only; omega)) (lt_dec rfl) fun b40_19 cb40_19 => ?_)
                refine RA_one 12 rfl rfl (by kernel_rfl) (x_append_rd (m := (List.length (List.getD S (List.length S - 2) bd).2)) rfl rfl rfl rfl rfl rfl (fun _ _ => HpRep.head) (Rds.poolI (j := (List.length S - 2)) m2 (by first | omega | assumption)) rfl (by show _ = List.length _; simp) rfl (by first | omega | (dsimp only; omega)) rfl (by first | omega | (dsimp only; omega)) (by first | omega | (dsimp only; omega)) (lt_dec rfl) fun b46_27 cb46_27 => ?_)
                refine RA_one 15 rfl rfl (by kernel_rfl) (x_append rfl rfl rfl rfl rfl rfl (fun _ _ => HpRep.head) (.inl ⟨m1, rfl⟩) rfl (by show _ = List.length _; simp) rfl (by first | omega | (dsimp only; omega)) rfl (by first | omega | (dsimp only; omega)) (by first | omega | (dsimp only; omega)) (lt_dec rfl) fun b49_27 cb49_27 => ?_)
                refine RA_quiet (g := 0) [16] (by kernel_rfl) (by kernel_rfl) (by kernel_rfl) (by kernel_rfl) ?_
                refine WQ_cons rfl rfl rfl ((p_assign rfl).q) (lt_dec rfl) ?_
                refine WQ_nil ?_
                refine RA_done (by kernel_rfl) ?_
                refine W_region ?_
                refine Ops_p (p_move rfl) (lt_dec rfl) ?_
                refine Ops_p (p_move rfl) (lt_dec rfl) ?_
                refine Ops_p (p_sub rfl rfl (by exact ⟨(by first | omega | (dsimp only; omega)), (by first | omega | (dsimp only; omega))⟩)) (lt_dec rfl) ?_
                refine Ops_p (p_take (n := (List.length S - 2)) rfl rfl rfl rfl (by omega) (by omega)) (lt_dec rfl) ?_
                refine Ops_p (p_move rfl) (lt_dec rfl) ?_
                refine Ops_x rfl (x_buildSlice rfl rfl rfl rfl rfl rfl rfl rfl (Nat.le_of_ble_eq_true rfl) (lt_dec rfl) fun b55_27 => ?_)
                refine Ops_x rfl (x_append_t (r := valsB S) (r2 := valsB [((slv b49_27 (0 + (List.length (List.getD S (List.length S - 1) bd).2) + (List.length (List.getD S (List.length S - 2) bd).2) + 1) cb49_27), ((([] ++ (List.getD S (List.length S - 1) bd).2) ++ (List.getD S (List.length S - 2) bd).2) ++ [(swp (l.getD i 0))]))]) (q := valsB ((List.take (List.length S - 2) S) ++ [((slv b49_27 (0 + (List.length (List.getD S (List.length S - 1) bd).2) + (List.length (List.getD S (List.length S - 2) bd).2) + 1) cb49_27), ((([] ++ (List.getD S (List.length S - 1) bd).2) ++ (List.getD S (List.length S - 2) bd).2) ++ [(swp (l.getD i 0))]))])) (n := (List.length S - 2)) (m := 1) rfl rfl rfl rfl rfl rfl (fun _ _ => ((((HpRep.head).tail).tail).tail).tail) (Rds.row m0 rfl) (by rw [valsB_len]; omega) (by rw [valsB_take]; exact valsB_app _ _) rfl (by decide) rfl (by first | omega | (dsimp only; omega)) (by first | omega | (dsimp only; omega)) (lt_dec rfl) fun b56_27 cb56_27 => ?_)
                refine Ops_p (p_assign rfl) (lt_dec rfl) ?_
                refine Ops_nil ?_
                refine W_pool (S := S) (S' := ((List.take (List.length S - 2) S) ++ [((slv b49_27 (0 + (List.length (List.getD S (List.length S - 1) bd).2) + (List.length (List.getD S (List.length S - 2) bd).2) + 1) cb49_27), ((([] ++ (List.getD S (List.length S - 1) bd).2) ++ (List.getD S (List.length S - 2) bd).2) ++ [(swp (l.getD i 0))]))])) (slv b49_27 (0 + (List.length (List.getD S (List.length S - 1) bd).2) + (List.length (List.getD S (List.length S - 2) bd).2) + 1) cb49_27) (((([] ++ (List.getD S (List.length S - 1) bd).2) ++ (List.getD S (List.length S - 2) bd).2) ++ [(swp (l.getD i 0))])) (HpDels.cons (HpDel.head).tail (HpDels.cons ((HpDel.head).tail).tail HpDels.nil)) rfl rfl (own_of_row (by show _ = List.length _; first | (simp; done) | (simp; omega)) rfl) ((List.take_sublist _ _).append (List.Sublist.refl _)) ?_
                refine W_region ?_
                refine Ops_p (p_move rfl) (lt_dec rfl) ?_
                refine Ops_p (p_add rfl rfl (by exact ⟨(by first | omega | (dsimp only; omega)), (by first | omega | (dsimp only; omega))⟩)) (lt_dec rfl) ?_
                refine Ops_p (p_assign rfl) (lt_dec rfl) ?_
                refine Ops_nil ?_
                refine Exists.intro (i + 1, ((List.take (List.length S - 2) S) ++ [((slv b49_27 (0 + (List.length (List.getD S (List.length S - 1) bd).2) + (List.length (List.getD S (List.length S - 2) bd).2) + 1) cb49_27), ((([] ++ (List.getD S (List.length S - 1) bd).2) ++ (List.getD S (List.length S - 2) bd).2) ++ [(swp (l.getD i 0))]))]), b56_27, cb56_27) (And.intro ?_ (And.intro ?_ ?_))
                · first | exact ⟨by show _ ≤ _; omega, hP.leaf hlf _⟩ | exact ⟨by show _ ≤ _; omega, hP.op hop _ (by first | rfl | simp)⟩
                · show _ < _; omega
                · exact Wk.intro (.cons rfl (by first | rfl | exact veq_int (by first | omega | (dsimp only; omega))) (.cons rfl (by exact veq_sl (by simp)) (.cons rfl (by first | rfl | exact veq_int (by first | omega | (dsimp only; omega))) .nil))) (.keep rfl rfl (pool_eq rfl) (.drop (.drop (.keep rfl rfl (fun _ h => h) (.keep rfl rfl (fun _ h => h) .nil)))))
            · refine x_buildSlice rfl rfl rfl rfl rfl rfl rfl rfl (Nat.le_of_ble_eq_true rfl) (lt_dec rfl) fun b48_24 => ?_
              refine RA_two 0 11 rfl rfl rfl rfl (by kernel_rfl) ?_ ?_
              · refine x_buildSlice rfl rfl rfl rfl rfl rfl rfl rfl (Nat.le_of_ble_eq_true rfl) (lt_dec rfl) fun b34_5 => ?_
                refine RA_two 6 11 rfl rfl rfl rfl (by kernel_rfl) ?_ ?_
                · refine x_append_rd (m := (List.length (List.getD S (List.length S - 1) bd).2)) rfl rfl rfl rfl rfl rfl (fun _ _ => HpRep.head) (Rds.poolI (j := (List.length S - 1)) m2 (by first | omega | assumption)) rfl rfl rfl (by first | omega | (dsimp only; omega)) rfl (by first | omega | (dsimp only; omega)) (by first | omega | (dsimp only; omega)) (lt_dec rfl) fun b40_20 cb40_20 => ?_
                  refine RA_quiet (g := 3) [11] (by kernel_rfl) (by kernel_rfl) (by kernel_rfl) (by kernel_rfl) ?_
                  refine WQ_cons rfl rfl rfl ((q_load_bs (S := S) (j := (List.length S - 2)) rfl rfl m3 rfl (by first | omega | (dsimp only; omega)) rfl rfl)) (lt_dec rfl) ?_
                  refine WQ_nil ?_
                  refine RA_one 12 rfl rfl (by kernel_rfl) (x_append_rd (m := (List.length (List.getD S (List.length S - 2) bd).2)) rfl rfl rfl rfl rfl rfl (fun _ _ => HpRep.head) (Rds.poolI (j := (List.length S - 2)) m2 (by first | omega | assumption)) rfl (by show _ = List.length _; simp) rfl (by first | omega | (dsimp only; omega)) rfl (by first | omega | (dsimp only; omega)) (by first | omega | (dsimp only; omega)) (lt_dec rfl) fun b46_28 cb46_28 => ?_)
                  refine RA_one 15 rfl rfl (by kernel_rfl) (x_append rfl rfl rfl rfl rfl rfl (fun _ _ => HpRep.head) (.inl ⟨m1, rfl⟩) rfl (by show _ = List.length _; simp) rfl (by first | omega | (dsimp only; omega)) rfl (by first | omega | (dsimp only; omega)) (by first | omega | (dsimp only; omega)) (lt_dec rfl) fun b49_28 cb49_28 => ?_)
                  refine RA_quiet (g := 0) [16] (by kernel_rfl) (by kernel_rfl) (by kernel_rfl) (by kernel_rfl) ?_
                  refine WQ_cons rfl rfl rfl ((p_assign rfl).q) (lt_dec rfl) ?_
                  refine WQ_nil ?_
                  refine RA_done (by kernel_rfl) ?_
                  refine W_region ?_
                  refine Ops_p (p_move rfl) (lt_dec rfl) ?_
                  refine Ops_p (p_move rfl) (lt_dec rfl) ?_
                  refine Ops_p (p_sub rfl rfl (by exact ⟨(by first | omega | (dsimp only; omega)), (by first | omega | (dsimp only; omega))⟩)) (lt_dec rfl) ?_
                  refine Ops_p (p_take (n := (List.length S - 2)) rfl rfl rfl rfl (by omega) (by omega)) (lt_dec rfl) ?_
                  refine Ops_p (p_move rfl) (lt_dec rfl) ?_
                  refine Ops_x rfl (x_buildSlice rfl rfl rfl rfl rfl rfl rfl rfl (Nat.le_of_ble_eq_true rfl) (lt_dec rfl) fun b55_28 => ?_)
                  refine Ops_x rfl (x_append_t (r := valsB S) (r2 := valsB [((slv b49_28 (0 + (List.length (List.getD S (List.length S - 1) bd).2) + (List.length (List.getD S (List.length S - 2) bd).2) + 1) cb49_28), ((([] ++ (List.getD S (List.length S - 1) bd).2) ++ (List.getD S (List.length S - 2) bd).2) ++ [(swp (l.getD i 0))]))]) (q := valsB ((List.take (List.length S - 2) S) ++ [((slv b49_28 (0 + (List.length (List.getD S (List.length S - 1) bd).2) + (List.length (List.getD S (List.length S - 2) bd).2) + 1) cb49_28), ((([] ++ (List.getD S (List.length S - 1) bd).2) ++ (List.getD S (List.length S - 2) bd).2) ++ [(swp (l.getD i 0))]))])) (n := (List.length S - 2)) (m := 1) rfl rfl rfl rfl rfl rfl (fun _ _ => ((((HpRep.head).tail).tail).tail).tail) (Rds.row m0 rfl) (by rw [valsB_len]; omega) (by rw [valsB_take]; exact valsB_app _ _) rfl (by decide) rfl (by first | omega | (dsimp only; omega)) (by first | omega | (dsimp only; omega)) (lt_dec rfl) fun b56_28 cb56_28 => ?_)
                  refine Ops_p (p_assign rfl) (lt_dec rfl) ?_
                  refine Ops_nil ?_
                  refine W_pool (S := S) (S' := ((List.take (List.length S - 2) S) ++ [((slv b49_28 (0 + (List.length (List.getD S (List.length S - 1) bd).2) + (List.length (List.getD S (List.length S - 2) bd).2) + 1) cb49_28), ((([] ++ (List.getD S (List.length S - 1) bd).2) ++ (List.getD S (List.length S - 2) bd).2) ++ [(swp (l.getD i 0))]))])) (slv b49_28 (0 + (List.length (List.getD S (List.length S - 1) bd).2) + (List.length (List.getD S (List.length S - 2) bd).2) + 1) cb49_28) (((([] ++ (List.getD S (List.length S - 1) bd).2) ++ (List.getD S (List.length S - 2) bd).2) ++ [(swp (l.getD i 0))])) (HpDels.cons (HpDel.head).tail (HpDels.cons ((HpDel.head).tail).tail HpDels.nil)) rfl rfl (own_of_row (by show _ = List.length _; first | (simp; done) | (simp; omega)) rfl) ((List.take_sublist _ _).append (List.Sublist.refl _)) ?_
                  refine W_region ?_
                  refine Ops_p (p_move rfl) (lt_dec rfl) ?_
                  refine Ops_p (p_add rfl rfl (by exact ⟨(by first | omega | (dsimp only; omega)), (by first | omega | (dsimp only; omega))⟩)) (lt_dec rfl) ?_
                  refine Ops_p (p_assign rfl) (lt_dec rfl) ?_
                  refine Ops_nil ?_
                  refine Exists.intro (i + 1, ((List.take (List.length S - 2) S) ++ [((slv b49_28 (0 + (List.length (List.getD S (List.length S - 1) bd).2) + (List.length (List.getD S (List.length S - 2) bd).2) + 1) cb49_28), ((([] ++ (List.getD S (List.length S - 1) bd).2) ++ (List.getD S (List.length S - 2) bd).2) ++ [(swp (l.getD i 0))]))]), b56_28, cb56_28) (And.intro ?_ (And.intro ?_ ?_))
                  · first | exact ⟨by show _ ≤ _; omega, hP.leaf hlf _⟩ | exact ⟨by show _ ≤ _; omega, hP.op hop _ (by first | rfl | simp)⟩
                  · show _ < _; omega
                  · exact Wk.intro (.cons rfl (by first | rfl | exact veq_int (by first | omega | (dsimp only; omega))) (.cons rfl (by exact veq_sl (by simp)) (.cons rfl (by first | rfl | exact veq_int (by first | omega | (dsimp only; omega))) .nil))) (.keep rfl rfl (pool_eq rfl) (.drop (.drop (.keep rfl rfl (fun _ h => h) (.keep rfl rfl (fun _ h => h) .nil)))))
                · refine Xt_of_Qt rfl (lt_dec rfl) ((q_load_bs (S := S) (j := (List.length S - 2)) rfl rfl m3 rfl (by first | omega | (dsimp only; omega)) rfl rfl)) ?_
                  refine RA_one 6 rfl rfl (by kernel_rfl) (x_append_rd (m := (List.length (List.getD S (List.length S - 1) bd).2)) rfl rfl rfl rfl rfl rfl (fun _ _ => HpRep.head) (Rds.poolI (j := (List.length S - 1)) m2 (by first | omega | assumption)) rfl rfl rfl (by first | omega | (dsimp only; omega)) rfl (by first | omega | (dsimp only; omega)) (by first | omega | (dsimp only; omega)) (lt_dec rfl) fun b40_21 cb40_21 => ?_)
                  refine RA_one 12 rfl rfl (by kernel_rfl) (x_append_rd (m := (List.length (List.getD S (List.length S - 2) bd).2)) rfl rfl rfl rfl rfl rfl (fun _ _ => HpRep.head) (Rds.poolI (j := (List.length S - 2)) m2 (by first | omega | assumption)) rfl (by show _ = List.length _; simp) rfl (by first | omega | (dsimp only; omega)) rfl (by first | omega | (dsimp only; omega)) (by first | omega | (dsimp only; omega)) (lt_dec rfl) fun b46_29 cb46_29 => ?_)
                  refine RA_one 15 rfl rfl (by kernel_rfl) (x_append rfl rfl rfl rfl rfl rfl (fun _ _ => HpRep.head) (.inl ⟨m1, rfl⟩) rfl (by show _ = List.length _; simp) rfl (by first | omega | (dsimp only; omega)) rfl (by first | omega | (dsimp only; omega)) (by first | omega | (dsimp only; omega)) (lt_dec rfl) fun b49_29 cb49_29 => ?_)
                  refine RA_quiet (g := 0) [16] (by kernel_rfl) (by kernel_rfl) (by kernel_rfl) (by kernel_rfl) ?_
                  refine WQ_cons rfl rfl rfl ((p_assign rfl).q) (lt_dec rfl) ?_
                  refine WQ_nil ?_
                  refine RA_done (by kernel_rfl) ?_
                  refine W_region ?_
                  refine Ops_p (p_move rfl) (lt_dec rfl) ?_
                  refine Ops_p (p_move rfl) (lt_dec rfl) ?_
                  refine Ops_p (p_sub rfl rfl (by exact ⟨(by first | omega | (dsimp only; omega)), (by first | omega | (dsimp only; omega))⟩)) (lt_dec rfl) ?_
                  refine Ops_p (p_take (n := (List.length S - 2)) rfl rfl rfl rfl (by omega) (by omega)) (lt_dec rfl) ?_
                  refine Ops_p (p_move rfl) (lt_dec rfl) ?_
                  refine Ops_x rfl (x_buildSlice rfl rfl rfl rfl rfl rfl rfl rfl (Nat.le_of_ble_eq_true rfl) (lt_dec rfl) fun b55_29 => ?_)
                  refine Ops_x rfl (x_append_t (r := valsB S) (r2 := valsB [((slv b49_29 (0 + (List.length (List.getD S (List.length S - 1) bd).2) + (List.length (List.getD S (List.length S - 2) bd).2) + 1) cb49_29), ((([] ++ (List.getD S (List.length S - 1) bd).2) ++ (List.getD S (List.length S - 2) bd).2) ++ [(swp (l.getD i 0))]))]) (q := valsB ((List.take (List.length S - 2) S) ++ [((slv b49_29 (0 + (List.length (List.getD S (List.length S - 1) bd).2) + (List.length (List.getD S (List.length S - 2) bd).2) + 1) cb49_29), ((([] ++ (List.getD S (List.length S - 1) bd).2) ++ (List.getD S (List.length S - 2) bd).2) ++ [(swp (l.getD i 0))]))])) (n := (List.length S - 2)) (m := 1) rfl rfl rfl rfl rfl rfl (fun _ _ => ((((HpRep.head).tail).tail).tail).tail) (Rds.row m0 rfl) (by rw [valsB_len]; omega) (by rw [valsB_take]; exact valsB_app _ _) rfl (by decide) rfl (by first | omega | (dsimp only; omega)) (by first | omega | (dsimp only; omega)) (lt_dec rfl) fun b56_29 cb56_29 => ?_)
                  refine Ops_p (p_assign rfl) (lt_dec rfl) ?_
                  refine Ops_nil ?_
                  refine W_pool (S := S) (S' := ((List.take (List.length S - 2) S) ++ [((slv b49_29 (0 + (List.length (List.getD S (List.length S - 1) bd).2) + (List.length (List.getD S (List.length S - 2) bd).2) + 1) cb49_29), ((([] ++ (List.getD S (List.length S - 1) bd).2) ++ (List.getD S (List.length S - 2) bd).2) ++ [(swp (l.getD i 0))]))])) (slv b49_29 (0 + (List.length (List.getD S (List.length S - 1) bd).2) + (List.length (List.getD S (List.length S - 2) bd).2) + 1) cb49_29) (((([] ++ (List.getD S (List.length S - 1) bd).2) ++ (List.getD S (List.length S - 2) bd).2) ++ [(swp (l.getD i 0))])) (HpDels.cons (HpDel.head).tail (HpDels.cons ((HpDel.head).tail).tail HpDels.nil)) rfl rfl (own_of_row (by show _ = List.length _; first | (simp; done) | (simp; omega)) rfl) ((List.take_sublist _ _).append (List.Sublist.refl _)) ?_
                  refine W_region ?_
                  refine Ops_p (p_move rfl) (lt_dec rfl) ?_
                  refine Ops_p (p_add rfl rfl (by exact ⟨(by first | omega | (dsimp only; omega)), (by first | omega | (dsimp only; omega))⟩)) (lt_dec rfl) ?_
                  refine Ops_p (p_assign rfl) (lt_dec rfl) ?_
                  refine Ops_nil ?_
                  refine Exists.intro (i + 1, ((List.take (List.length S - 2) S) ++ [((slv b49_29 (0 + (List.length (List.getD S (List.length S - 1) bd).2) + (List.length (List.getD S (List.length S - 2) bd).2) + 1) cb49_29), ((([] ++ (List.getD S (List.length S - 1) bd).2) ++ (List.getD S (List.length S - 2) bd).2) ++ [(swp (l.getD i 0))]))]), b56_29, cb56_29) (And.intro ?_ (And.intro ?_ ?_))
                  · first | exact ⟨by show _ ≤ _; omega, hP.leaf hlf _⟩ | exact ⟨by show _ ≤ _; omega, hP.op hop _ (by first | rfl | simp)⟩
                  · show _ < _; omega
                  · exact Wk.intro (.cons rfl (by first | rfl | exact veq_int (by first | omega | (dsimp only; omega))) (.cons rfl (by exact veq_sl (by simp)) (.cons rfl (by first | rfl | exact veq_int (by first | omega | (dsimp only; omega))) .nil))) (.keep rfl rfl (pool_eq rfl) (.drop (.drop (.keep rfl rfl (fun _ h => h) (.keep rfl rfl (fun _ h => h) .nil)))))
              · refine Xt_of_Qt rfl (lt_dec rfl) ((q_load_bs (S := S) (j := (List.length S - 2)) rfl rfl m2 rfl (by first | omega | (dsimp only; omega)) rfl rfl)) ?_
                refine RA_one 0 rfl rfl (by kernel_rfl) (x_buildSlice rfl rfl rfl rfl rfl rfl rfl rfl (Nat.le_of_ble_eq_true rfl) (lt_dec rfl) fun b34_6 => ?_)
                refine RA_one 6 rfl rfl (by kernel_rfl) (x_append_rd (m := (List.length (List.getD S (List.length S - 1) bd).2)) rfl rfl rfl rfl rfl rfl (fun _ _ => HpRep.head) (Rds.poolI (j := (List.length S - 1)) m2 (by first | omega | assumption)) rfl rfl rfl (by first | omega | (dsimp only; omega)) rfl (by first | omega | (dsimp only; omega)) (by first | omega | (dsimp only; omega)) (lt_dec rfl) fun b40_22 cb40_22 => ?_)
                refine RA_one 12 rfl rfl (by kernel_rfl) (x_append_rd (m := (List.length (List.getD S (List.length S - 2) bd).2)) rfl rfl rfl rfl rfl rfl (fun _ _ => HpRep.head) (Rds.poolI (j := (List.length S - 2)) m2 (by first | omega | assumption)) rfl (by show _ = List.length _; simp) rfl (by first | omega | (dsimp only; omega)) rfl (by first | omega | (dsimp only; omega)) (by first | omega | (dsimp only; omega)) (lt_dec rfl) fun b46_30 cb46_30 => ?_)
                refine RA_one 15 rfl rfl (by kernel_rfl) (x_append rfl rfl rfl rfl rfl rfl (fun _ _ => HpRep.head) (.inl ⟨m1, rfl⟩) rfl (by show _ = List.length _; simp) rfl (by first | omega | (dsimp only; omega)) rfl (by first | omega | (dsimp only; omega)) (by first | omega | (dsimp only; omega)) (lt_dec rfl) fun b49_30 cb49_30 => ?_)
                refine RA_quiet (g := 0) [16] (by kernel_rfl) (by kernel_rfl) (by kernel_rfl) (by kernel_rfl) ?_
                refine WQ_cons rfl rfl rfl ((p_assign rfl).q) (lt_dec rfl) ?_
                refine WQ_nil ?_
                refine RA_done (by kernel_rfl) ?_
                refine W_region ?_
                refine Ops_p (p_move rfl) (lt_dec rfl) ?_
                refine Ops_p (p_move rfl) (lt_dec rfl) ?_
                refine Ops_p (p_sub rfl rfl (by exact ⟨(by first | omega | (dsimp only; omega)), (by first | omega | (dsimp only; omega))⟩)) (lt_dec rfl) ?_
                refine Ops_p (p_take (n := (List.length S - 2)) rfl rfl rfl rfl (by omega) (by omega)) (lt_dec rfl) ?_
                refine Ops_p (p_move rfl) (lt_dec rfl) ?_
                refine Ops_x rfl (x_buildSlice rfl rfl rfl rfl rfl rfl rfl rfl (Nat.le_of_ble_eq_true rfl) (lt_dec rfl) fun b55_30 => ?_)
                refine Ops_x rfl (x_append_t (r := valsB S) (r2 := valsB [((slv b49_30 (0 + (List.length (List.getD S (List.length S - 1) bd).2) + (List.length (List.getD S (List.length S - 2) bd).2) + 1) cb49_30), ((([] ++ (List.getD S (List.length S - 1) bd).2) ++ (List.getD S (List.length S - 2) bd).2) ++ [(swp (l.getD i 0))]))]) (q := valsB ((List.take (List.length S - 2) S) ++ [((slv b49_30 (0 + (List.length (List.getD S (List.length S - 1) bd).2) + (List.length (List.getD S (List.length S - 2) bd).2) + 1) cb49_30), ((([] ++ (List.getD S (List.length S - 1) bd).2) ++ (List.getD S (List.length S - 2) bd).2) ++ [(swp (l.getD i 0))]))])) (n := (List.length S - 2)) (m := 1) rfl rfl rfl rfl rfl rfl (fun _ _ => ((((HpRep.head).tail).tail).tail).tail) (Rds.row m0 rfl) (by rw [valsB_len]; omega) (by rw [valsB_take]; exact valsB_app _ _) rfl (by decide) rfl (by first | omega | (dsimp only; omega)) (by first | omega | (dsimp only; omega)) (lt_dec rfl) fun b56_30 cb56_30 => ?_)
                refine Ops_p (p_assign rfl) (lt_dec rfl) ?_
                refine Ops_nil ?_
                refine W_pool (S := S) (S' := ((List.take (List.length S - 2) S) ++ [((slv b49_30 (0 + (List.length (List.getD S (List.length S - 1) bd).2) + (List.length (List.getD S (List.length S - 2) bd).2) + 1) cb49_30), ((([] ++ (List.getD S (List.length S - 1) bd).2) ++ (List.getD S (List.length S - 2) bd).2) ++ [(swp (l.getD i 0))]))])) (slv b49_30 (0 + (List.length (List.getD S (List.length S - 1) bd).2) + (List.length (List.getD S (List.length S - 2) bd).2) + 1) cb49_30) (((([] ++ (List.getD S (List.length S - 1) bd).2) ++ (List.getD S (List.length S - 2) bd).2) ++ [(swp (l.getD i 0))])) (HpDels.cons (HpDel.head).tail (HpDels.cons ((HpDel.head).tail).tail HpDels.nil)) rfl rfl (own_of_row (by show _ = List.length _; first | (simp; done) | (simp; omega)) rfl) ((List.take_sublist _ _).append (List.Sublist.refl _)) ?_
                refine W_region ?_
                refine Ops_p (p_move rfl) (lt_dec rfl) ?_
                refine Ops_p (p_add rfl rfl (by exact ⟨(by first | omega | (dsimp only; omega)), (by first | omega | (dsimp only; omega))⟩)) (lt_dec rfl) ?_
                refine Ops_p (p_assign rfl) (lt_dec rfl) ?_
                refine Ops_nil ?_
                refine Exists.intro (i + 1, ((List.take (List.length S - 2) S) ++ [((slv b49_30 (0 + (List.length (List.getD S (List.length S - 1) bd).2) + (List.length (List.getD S (List.length S - 2) bd).2) + 1) cb49_30), ((([] ++ (List.getD S (List.length S - 1) bd).2) ++ (List.getD S (List.length S - 2) bd).2) ++ [(swp (l.getD i 0))]))]), b56_30, cb56_30) (And.intro ?_ (And.intro ?_ ?_))
                · first | exact ⟨by show _ ≤ _; omega, hP.leaf hlf _⟩ | exact ⟨by show _ ≤ _; omega, hP.op hop _ (by first | rfl | simp)⟩
                · show _ < _; omega
                · exact Wk.intro (.cons rfl (by first | rfl | exact veq_int (by first | omega | (dsimp only; omega))) (.cons rfl (by exact veq_sl (by simp)) (.cons rfl (by first | rfl | exact veq_int (by first | omega | (dsimp only; omega))) .nil))) (.keep rfl rfl (pool_eq rfl) (.drop (.drop (.keep rfl rfl (fun _ h => h) (.keep rfl rfl (fun _ h => h) .nil)))))
          · refine Xt_of_Qt rfl (lt_dec rfl) ((q_load_bs (S := S) (j := (List.length S - 2)) rfl rfl m1 rfl (by first | omega | (dsimp only; omega)) rfl rfl)) ?_
            refine RA_three 0 5 14 rfl rfl rfl rfl rfl rfl (by kernel_rfl) ?_ ?_ ?_
            · refine x_buildSlice rfl rfl rfl rfl rfl rfl rfl rfl (Nat.le_of_ble_eq_true rfl) (lt_dec rfl) fun b34_7 => ?_
              refine RA_two 5 14 rfl rfl rfl rfl (by kernel_rfl) ?_ ?_
              · refine Xt_of_Qt rfl (lt_dec rfl) ((q_load_bs (S := S) (j := (List.length S - 1)) rfl rfl m2 rfl (by first | omega | (dsimp only; omega)) rfl rfl)) ?_
                refine RA_two 6 14 rfl rfl rfl rfl (by kernel_rfl) ?_ ?_
                · refine x_append_rd (m := (List.length (List.getD S (List.length S - 1) bd).2)) rfl rfl rfl rfl rfl rfl (fun _ _ => HpRep.head) (Rds.poolI (j := (List.length S - 1)) m1 (by first | omega | assumption)) rfl rfl rfl (by first | omega | (dsimp only; omega)) rfl (by first | omega | (dsimp only; omega)) (by first | omega | (dsimp only; omega)) (lt_dec rfl) fun b40_23 cb40_23 => ?_
                  refine RA_two 12 14 rfl rfl rfl rfl (by kernel_rfl) ?_ ?_
                  · refine x_append_rd (m := (List.length (List.getD S (List.length S - 2) bd).2)) rfl rfl rfl rfl rfl rfl (fun _ _ => HpRep.head) (Rds.poolI (j := (List.length S - 2)) m1 (by first | omega | assumption)) rfl (by show _ = List.length _; simp) rfl (by first | omega | (dsimp only; omega)) rfl (by first | omega | (dsimp only; omega)) (by first | omega | (dsimp only; omega)) (lt_dec rfl) fun b46_31 cb46_31 => ?_
                    refine RA_one 14 rfl rfl (by kernel_rfl) (x_buildSlice rfl rfl rfl rfl rfl rfl rfl rfl (Nat.le_of_ble_eq_true rfl) (lt_dec rfl) fun b48_25 => ?_)
                    refine RA_one 15 rfl rfl (by kernel_rfl) (x_append rfl rfl rfl rfl rfl rfl (fun _ _ => (HpRep.head).tail) (.inl ⟨m0, rfl⟩) rfl (by show _ = List.length _; simp) rfl (by first | omega | (dsimp only; omega)) rfl (by first | omega | (dsimp only; omega)) (by first | omega | (dsimp only; omega)) (lt_dec rfl) fun b49_31 cb49_31 => ?_)
                    refine RA_quiet (g := 0) [16] (by kernel_rfl) (by kernel_rfl) (by kernel_rfl) (by kernel_rfl) ?_
                    refine WQ_cons rfl rfl rfl ((p_assign rfl).q) (lt_dec rfl) ?_
                    refine WQ_nil ?_
                    refine RA_done (by kernel_rfl) ?_
                    refine W_region ?_
                    refine Ops_p (p_move rfl) (lt_dec rfl) ?_
                    refine Ops_p (p_move rfl) (lt_dec rfl) ?_
                    refine Ops_p (p_sub rfl rfl (by exact ⟨(by first | omega | (dsimp only; omega)), (by first | omega | (dsimp only; omega))⟩)) (lt_dec rfl) ?_
                    refine Ops_p (p_take (n := (List.length S - 2)) rfl rfl rfl rfl (by omega) (by omega)) (lt_dec rfl) ?_
                    refine Ops_p (p_move rfl) (lt_dec rfl) ?_
                    refine Ops_x rfl (x_buildSlice rfl rfl rfl rfl rfl rfl rfl rfl (Nat.le_of_ble_eq_true rfl) (lt_dec rfl) fun b55_31 => ?_)
                    refine Ops_x rfl (x_append_t (r := valsB S) (r2 := valsB [((slv b49_31 (0 + (List.length (List.getD S (List.length S - 1) bd).2) + (List.length (List.getD S (List.length S - 2) bd).2) + 1) cb49_31), ((([] ++ (List.getD S (List.length S - 1) bd).2) ++ (List.getD S (List.length S - 2) bd).2) ++ [(swp (l.getD i 0))]))]) (q := valsB ((List.take (List.length S - 2) S) ++ [((slv b49_31 (0 + (List.length (List.getD S (List.length S - 1) bd).2) + (List.length (List.getD S (List.length S - 2) bd).2) + 1) cb49_31), ((([] ++ (List.getD S (List.length S - 1) bd).2) ++ (List.getD S (List.length S - 2) bd).2) ++ [(swp (l.getD i 0))]))])) (n := (List.length S - 2)) (m := 1) rfl rfl rfl rfl rfl rfl (fun _ _ => ((((HpRep.head).tail).tail).tail).tail) (Rds.row m0 rfl) (by rw [valsB_len]; omega) (by rw [valsB_take]; exact valsB_app _ _) rfl (by decide) rfl (by first | omega | (dsimp only; omega)) (by first | omega | (dsimp only; omega)) (lt_dec rfl) fun b56_31 cb56_31 => ?_)
                    refine Ops_p (p_assign rfl) (lt_dec rfl) ?_
                    refine Ops_nil ?_
                    refine W_pool (S := S) (S' := ((List.take (List.length S - 2) S) ++ [((slv b49_31 (0 + (List.length (List.getD S (List.length S - 1) bd).2) + (List.length (List.getD S (List.length S - 2) bd).2) + 1) cb49_31), ((([] ++ (List.getD S (List.length S - 1) bd).2) ++ (List.getD S (List.length S - 2) bd).2) ++ [(swp (l.getD i 0))]))])) (slv b49_31 (0 + (List.length (List.getD S (List.length S - 1) bd).2) + (List.length (List.getD S (List.length S - 2) bd).2) + 1) cb49_31) (((([] ++ (List.getD S (List.length S - 1) bd).2) ++ (List.getD S (List.length S - 2) bd).2) ++ [(swp (l.getD i 0))])) (HpDels.cons ((HpDel.head).tail).tail (HpDels.cons ((HpDel.head).tail).tail HpDels.nil)) rfl rfl (own_of_row (by show _ = List.length _; first | (simp; done) | (simp; omega)) rfl) ((List.take_sublist _ _).append (List.Sublist.refl _)) ?_
                    refine W_region ?_
                    refine Ops_p (p_move rfl) (lt_dec rfl) ?_
                    refine Ops_p (p_add rfl rfl (by exact ⟨(by first | omega | (dsimp only; omega)), (by first | omega | (dsimp only; omega))⟩)) (lt_dec rfl) ?_
                    refine Ops_p (p_assign rfl) (lt_dec rfl) ?_
                    refine Ops_nil ?_
                    refine Exists.intro (i + 1, ((List.take (List.length S - 2) S) ++ [((slv b49_31 (0 + (List.length (List.getD S (List.length S - 1) bd).2) + (List.length (List.getD S (List.length S - 2) bd).2) + 1) cb49_31), ((([] ++ (List.getD S (List.length S - 1) bd).2) ++ (List.getD S (List.length S - 2) bd).2) ++ [(swp (l.getD i 0))]))]), b56_31, cb56_31) (And.intro ?_ (And.intro ?_ ?_))
                    · first | exact ⟨by show _ ≤ _; omega, hP.leaf hlf _⟩ | exact ⟨by show _ ≤ _; omega, hP.op hop _ (by first | rfl | simp)⟩
                    · show _ < _; omega
                    · exact Wk.intro (.cons rfl (by first | rfl | exact veq_int (by first | omega | (dsimp only; omega))) (.cons rfl (by exact veq_sl (by simp)) (.cons rfl (by first | rfl | exact veq_int (by first | omega | (dsimp only; omega))) .nil))) (.keep rfl rfl (pool_eq rfl) (.drop (.drop (.keep rfl rfl (fun _ h => h) (.keep rfl rfl (fun _ h => h) .nil)))))
                  · refine x_buildSlice rfl rfl rfl rfl rfl rfl rfl rfl (Nat.le_of_ble_eq_true rfl) (lt_dec rfl) fun b48_26 => ?_
                    refine RA_one 12 rfl rfl (by kernel_rfl) (x_append_rd (m := (List.length (List.getD S (List.length S - 2) bd).2)) rfl rfl rfl rfl rfl rfl (fun _ _ => (HpRep.head).tail) (Rds.poolI (j := (List.length S - 2)) m2 (by first | omega | assumption)) rfl (by show _ = List.length _; simp) rfl (by first | omega | (dsimp only; omega)) rfl (by first | omega | (dsimp only; omega)) (by first | omega | (dsimp only; omega)) (lt_dec rfl) fun b46_32 cb46_32 => ?_)
                    refine RA_one 15 rfl rfl (by kernel_rfl) (x_append rfl rfl rfl rfl rfl rfl (fun _ _ => (HpRep.head).tail) (.inl ⟨m0, rfl⟩) rfl (by show _ = List.length _; simp) rfl (by first | omega | (dsimp only; omega)) rfl (by first | omega | (dsimp only; omega)) (by first | omega | (dsimp only; omega)) (lt_dec rfl) fun b49_32 cb49_32 => ?_)
                    refine RA_quiet (g := 0) [16] (by kernel_rfl) (by kernel_rfl) (by kernel_rfl) (by kernel_rfl) ?_
                    refine WQ_cons rfl rfl rfl ((p_assign rfl).q) (lt_dec rfl) ?_
                    refine WQ_nil ?_
                    refine RA_done (by kernel_rfl) ?_
                    refine W_region ?_
                    refine Ops_p (p_move rfl) (lt_dec rfl) ?_
                    refine Ops_p (p_move rfl) (lt_dec rfl) ?_
                    refine Ops_p (p_sub rfl rfl (by exact ⟨(by first | omega | (dsimp only; omega)), (by first | omega | (dsimp only; omega))⟩)) (lt_dec rfl) ?_
                    refine Ops_p (p_take (n := (List.length S - 2)) rfl rfl rfl rfl (by omega) (by omega)) (lt_dec rfl) ?_
                    refine Ops_p (p_move rfl) (lt_dec rfl) ?_
                    refine Ops_x rfl (x_buildSlice rfl rfl rfl rfl rfl rfl rfl rfl (Nat.le_of_ble_eq_true rfl) (lt_dec rfl) fun b55_32 => ?_)
                    refine Ops_x rfl (x_append_t (r := valsB S) (r2 := valsB [((slv b49_32 (0 + (List.length (List.getD S (List.length S - 1) bd).2) + (List.length (List.getD S (List.length S - 2) bd).2) + 1) cb49_32), ((([] ++ (List.getD S (List.length S - 1) bd).2) ++ (List.getD S (List.length S - 2) bd).2) ++ [(swp (l.getD i 0))]))]) (q := valsB ((List.take (List.length S - 2) S) ++ [((slv b49_32 (0 + (List.length (List.getD S (List.length S - 1) bd).2) + (List.length (List.getD S (List.length S - 2) bd).2) + 1) cb49_32), ((([] ++ (List.getD S (List.length S - 1) bd).2) ++ (List.getD S (List.length S - 2) bd).2) ++ [(swp (l.getD i 0))]))])) (n := (List.length S - 2)) (m := 1) rfl rfl rfl rfl rfl rfl (fun _ _ => ((((HpRep.head).tail).tail).tail).tail) (Rds.row m0 rfl) (by rw [valsB_len]; omega) (by rw [valsB_take]; exact valsB_app _ _) rfl (by decide) rfl (by first | omega | (dsimp only; omega)) (by first | omega | (dsimp only; omega)) (lt_dec rfl) fun b56_32 cb56_32 => ?_)
                    refine Ops_p (p_assign rfl) (lt_dec rfl) ?_
                    refine Ops_nil ?_
                    refine W_pool (S := S) (S' := ((List.take (List.length S - 2) S) ++ [((slv b49_32 (0 + (List.length (List.getD S (List.length S - 1) bd).2) + (List.length (List.getD S (List.length S - 2) bd).2) + 1) cb49_32), ((([] ++ (List.getD S (List.length S - 1) bd).2) ++ (List.getD S (List.length S - 2) bd).2) ++ [(swp (l.getD i 0))]))])) (slv b49_32 (0 + (List.length (List.getD S (List.length S - 1) bd).2) + (List.length (List.getD S (List.length S - 2) bd).2) + 1) cb49_32) (((([] ++ (List.getD S (List.length S - 1) bd).2) ++ (List.getD S (List.length S - 2) bd).2) ++ [(swp (l.getD i 0))])) (HpDels.cons ((HpDel.head).tail).tail (HpDels.cons ((HpDel.head).tail).tail HpDels.nil)) rfl rfl (own_of_row (by show _ = List.length _; first | (simp; done) | (simp; omega)) rfl) ((List.take_sublist _ _).append (List.Sublist.refl _)) ?_
                    refine W_region ?_
                    refine Ops_p (p_move rfl) (lt_dec rfl) ?_
                    refine Ops_p (p_add rfl rfl (by exact ⟨(by first | omega | (dsimp only; omega)), (by first | omega | (dsimp only; omega))⟩)) (lt_dec rfl) ?_
                    refine Ops_p (p_assign rfl) (lt_dec rfl) ?_
                    refine Ops_nil ?_
                    refine Exists.intro (i + 1, ((List.take (List.length S - 2) S) ++ [((slv b49_32 (0 + (List.length (List.getD S (List.length S - 1) bd).2) + (List.length (List.getD S (List.length S - 2) bd).2) + 1) cb49_32), ((([] ++ (List.getD S (List.length S - 1) bd).2) ++ (List.getD S (List.length S - 2) bd).2) ++ [(swp (l.getD i 0))]))]), b56_32, cb56_32) (And.intro ?_ (And.intro ?_ ?_))
                    · first | exact ⟨by show _ ≤ _; omega, hP.leaf hlf _⟩ | exact ⟨by show _ ≤ _; omega, hP.op hop _ (by first | rfl | simp)⟩
                    · show _ < _; omega
                    · exact Wk.intro (.cons rfl (by first | rfl | exact veq_int (by first | omega | (dsimp only; omega))) (.cons rfl (by exact veq_sl (by simp)) (.cons rfl (by first | rfl | exact veq_int (by first | omega | (dsimp only; omega))) .nil))) (.keep rfl rfl (pool_eq rfl) (.drop (.drop (.keep rfl rfl (fun _ h => h) (.keep rfl rfl (fun _ h => h) .nil)))))
                · refine x_buildSlice rfl rfl rfl rfl rfl rfl rfl rfl (Nat.le_of_ble_eq_true rfl) (lt_dec rfl) fun b48_27 => ?_
                  refine RA_one 6 rfl rfl (by kernel_rfl) (x_append_rd (m := (List.length (List.getD S (List.length S - 1) bd).2)) rfl rfl rfl rfl rfl rfl (fun _ _ => (HpRep.head).tail) (Rds.poolI (j := (List.length S - 1)) m2 (by first | omega | assumption)) rfl rfl rfl (by first | omega | (dsimp only; omega)) rfl (by first | omega | (dsimp only; omega)) (by first | omega | (dsimp only; omega)) (lt_dec rfl) fun b40_24 cb40_24 => ?_)
                  refine RA_one 12 rfl rfl (by kernel_rfl) (x_append_rd (m := (List.length (List.getD S (List.length S - 2) bd).2)) rfl rfl rfl rfl rfl rfl (fun _ _ => (HpRep.head).tail) (Rds.poolI (j := (List.length S - 2)) m2 (by first | omega | assumption)) rfl (by show _ = List.length _; simp) rfl (by first | omega | (dsimp only; omega)) rfl (by first | omega | (dsimp only; omega)) (by first | omega | (dsimp only; omega)) (lt_dec rfl) fun b46_33 cb46_33 => ?_)
                  refine RA_one 15 rfl rfl (by kernel_rfl) (x_append rfl rfl rfl rfl rfl rfl (fun _ _ => (HpRep.head).tail) (.inl ⟨m0, rfl⟩) rfl (by show _ = List.length _; simp) rfl (by first | omega | (dsimp only; omega)) rfl (by first | omega | (dsimp only; omega)) (by first | omega | (dsimp only; omega)) (lt_dec rfl) fun b49_33 cb49_33 => ?_)
                  refine RA_quiet (g := 0) [16] (by kernel_rfl) (by kernel_rfl) (by kernel_rfl) (by kernel_rfl) ?_
                  refine WQ_cons rfl rfl rfl ((p_assign rfl).q) (lt_dec rfl) ?_
                  refine WQ_nil ?_
                  refine RA_done (by kernel_rfl) ?_
                  refine W_region ?_
                  refine Ops_p (p_move rfl) (lt_dec rfl) ?_
                  refine Ops_p (p_move rfl) (lt_dec rfl) ?_
                  refine Ops_p (p_sub rfl rfl (by exact ⟨(by first | omega | (dsimp only; omega)), (by first | omega | (dsimp only; omega))⟩)) (lt_dec rfl) ?_
                  refine Ops_p (p_take (n := (List.length S - 2)) rfl rfl rfl rfl (by omega) (by omega)) (lt_dec rfl) ?_
                  refine Ops_p (p_move rfl) (lt_dec rfl) ?_
                  refine Ops_x rfl (x_buildSlice rfl rfl rfl rfl rfl rfl rfl rfl (Nat.le_of_ble_eq_true rfl) (lt_dec rfl) fun b55_33 => ?_)
                  refine Ops_x rfl (x_append_t (r := valsB S) (r2 := valsB [((slv b49_33 (0 + (List.length (List.getD S (List.length S - 1) bd).2) + (List.length (List.getD S (List.length S - 2) bd).2) + 1) cb49_33), ((([] ++ (List.getD S (List.length S - 1) bd).2) ++ (List.getD S (List.length S - 2) bd).2) ++ [(swp (l.getD i 0))]))]) (q := valsB ((List.take (List.length S - 2) S) ++ [((slv b49_33 (0 + (List.length (List.getD S (List.length S - 1) bd).2) + (List.length (List.getD S (List.length S - 2) bd).2) + 1) cb49_33), ((([] ++ (List.getD S (List.length S - 1) bd).2) ++ (List.getD S (List.length S - 2) bd).2) ++ [(swp (l.getD i 0))]))])) (n := (List.length S - 2)) (m := 1) rfl rfl rfl rfl rfl rfl (fun _ _ => ((((HpRep.head).tail).tail).tail).tail) (Rds.row m0 rfl) (by rw [valsB_len]; omega) (by rw [valsB_take]; exact valsB_app _ _) rfl (by decide) rfl (by first | omega | (dsimp only; omega)) (by first | omega | (dsimp only; omega)) (lt_dec rfl) fun b56_33 cb56_33 => ?_)
                  refine Ops_p (p_assign rfl) (lt_dec rfl) ?_
                  refine Ops_nil ?_
                  refine W_pool (S := S) (S' := ((List.take (List.length S - 2) S) ++ [((slv b49_33 (0 + (List.length (List.getD S (List.length S - 1) bd).2) + (List.length (List.getD S (List.length S - 2) bd).2) + 1) cb49_33), ((([] ++ (List.getD S (List.length S - 1) bd).2) ++ (List.getD S (List.length S - 2) bd).2) ++ [(swp (l.getD i 0))]))])) (slv b49_33 (0 + (List.length (List.getD S (List.length S - 1) bd).2) + (List.length (List.getD S (List.length S - 2) bd).2) + 1) cb49_33) (((([] ++ (List.getD S (List.length S - 1) bd).2) ++ (List.getD S (List.length S - 2) bd).2) ++ [(swp (l.getD i 0))])) (HpDels.cons ((HpDel.head).tail).tail (HpDels.cons ((HpDel.head).tail).tail HpDels.nil)) rfl rfl (own_of_row (by show _ = List.length _; first | (simp; done) | (simp; omega)) rfl) ((List.take_sublist _ _).append (List.Sublist.refl _)) ?_
                  refine W_region ?_
                  refine Ops_p (p_move rfl) (lt_dec rfl) ?_
                  refine Ops_p (p_add rfl rfl (by exact ⟨(by first | omega | (dsimp only; omega)), (by first | omega | (dsimp only; omega))⟩)) (lt_dec rfl) ?_
                  refine Ops_p (p_assign rfl) (lt_dec rfl) ?_
                  refine Ops_nil ?_
                  refine Exists.intro (i + 1, ((List.take (List.length S - 2) S) ++ [((slv b49_33 (0 + (List.length (List.getD S (List.length S - 1) bd).2) + (List.length (List.getD S (List.length S - 2) bd).2) + 1) cb49_33), ((([] ++ (List.getD S (List.length S - 1) bd).2) ++ (List.getD S (List.length S - 2) bd).2) ++ [(swp (l.getD i 0))]))]), b56_33, cb56_33) (And.intro ?_ (And.intro ?_ ?_))
                  · first | exact ⟨by show _ ≤ _; omega, hP.leaf hlf _⟩ | exact ⟨by show _ ≤ _; omega, hP.op hop _ (by first | rfl | simp)⟩
                  · show _ < _; omega
                  · exact Wk.intro (.cons rfl (by first | rfl | exact veq_int (by first | omega | (dsimp only; omega))) (.cons rfl (by exact veq_sl (by simp)) (.cons rfl (by first | rfl | exact veq_int (by first | omega | (dsimp only; omega))) .nil))) (.keep rfl rfl (pool_eq rfl) (.drop (.drop (.keep rfl rfl (fun _ h => h) (.keep rfl rfl (fun _ h => h) .nil)))))
              · refine x_buildSlice rfl rfl rfl rfl rfl rfl rfl rfl (Nat.le_of_ble_eq_true rfl) (lt_dec rfl) fun b48_28 => ?_
                refine RA_quiet (g := 4) [5] (by kernel_rfl) (by kernel_rfl) (by kernel_rfl) (by kernel_rfl) ?_
                refine WQ_cons rfl rfl rfl ((q_load_bs (S := S) (j := (List.length S - 1)) rfl rfl m3 rfl (by first | omega | (dsimp only; omega)) rfl rfl)) (lt_dec rfl) ?_
                refine WQ_nil ?_
                refine RA_one 6 rfl rfl (by kernel_rfl) (x_append_rd (m := (List.length (List.getD S (List.length S - 1) bd).2)) rfl rfl rfl rfl rfl rfl (fun _ _ => (HpRep.head).tail) (Rds.poolI (j := (List.length S - 1)) m2 (by first | omega | assumption)) rfl rfl rfl (by first | omega | (dsimp only; omega)) rfl (by first | omega | (dsimp only; omega)) (by first | omega | (dsimp only; omega)) (lt_dec rfl) fun b40_25 cb40_25 => ?_)
                refine RA_one 12 rfl rfl (by kernel_rfl) (x_append_rd (m := (List.length (List.getD S (List.length S - 2) bd).2)) rfl rfl rfl rfl rfl rfl (fun _ _ => (HpRep.head).tail) (Rds.poolI (j := (List.length S - 2)) m2 (by first | omega | assumption)) rfl (by show _ = List.length _; simp) rfl (by first | omega | (dsimp only; omega)) rfl (by first | omega | (dsimp only; omega)) (by first | omega | (dsimp only; omega)) (lt_dec rfl) fun b46_34 cb46_34 => ?_)
                refine RA_one 15 rfl rfl (by kernel_rfl) (x_append rfl rfl rfl rfl rfl rfl (fun _ _ => (HpRep.head).tail) (.inl ⟨m0, rfl⟩) rfl (by show _ = List.length _; simp) rfl (by first | omega | (dsimp only; omega)) rfl (by first | omega | (dsimp only; omega)) (by first | omega | (dsimp only; omega)) (lt_dec rfl) fun b49_34 cb49_34 => ?_)
                refine RA_quiet (g := 0) [16] (by kernel_rfl) (by kernel_rfl) (by kernel_rfl) (by kernel_rfl) ?_
                refine WQ_cons rfl rfl rfl ((p_assign rfl).q) (lt_dec rfl) ?_
                refine WQ_nil ?_
                refine RA_done (by kernel_rfl) ?_
                refine W_region ?_
                refine Ops_p (p_move rfl) (lt_dec rfl) ?_
                refine Ops_p (p_move rfl) (lt_dec rfl) ?_
                refine Ops_p (p_sub rfl rfl (by exact ⟨(by first | omega | (dsimp only; omega)), (by first | omega | (dsimp only; omega))⟩)) (lt_dec rfl) ?_
                refine Ops_p (p_take (n := (List.length S - 2)) rfl rfl rfl rfl (by omega) (by omega)) (lt_dec rfl) ?_
                refine Ops_p (p_move rfl) (lt_dec rfl) ?_
                refine Ops_x rfl (x_buildSlice rfl rfl rfl rfl rfl rfl rfl rfl (Nat.le_of_ble_eq_true rfl) (lt_dec rfl) fun b55_34 => ?_)
                refine Ops_x rfl (x_append_t (r := valsB S) (r2 := valsB [((slv b49_34 (0 + (List.length (List.getD S (List.length S - 1) bd).2) + (List.length (List.getD S (List.length S - 2) bd).2) + 1) cb49_34), ((([] ++ (List.getD S (List.length S - 1) bd).2) ++ (List.getD S (List.length S - 2) bd).2) ++ [(swp (l.getD i 0))]))]) (q := valsB ((List.take (List.length S - 2) S) ++ [((slv b49_34 (0 + (List.length (List.getD S (List.length S - 1) bd).2) + (List.length (List.getD S (List.length S - 2) bd).2) + 1) cb49_34), ((([] ++ (List.getD S (List.length S - 1) bd).2) ++ (List.getD S (List.length S - 2) bd).2) ++ [(swp (l.getD i 0))]))])) (n := (List.length S - 2)) (m := 1) rfl rfl rfl rfl rfl rfl (fun _ _ => ((((HpRep.head).tail).tail).tail).tail) (Rds.row m0 rfl) (by rw [valsB_len]; omega) (by rw [valsB_take]; exact valsB_app _ _) rfl (by decide) rfl (by first | omega | (dsimp only; omega)) (by first | omega | (dsimp only; omega)) (lt_dec rfl) fun b56_34 cb56_34 => ?_)
                refine Ops_p (p_assign rfl) (lt_dec rfl) ?_
                refine Ops_nil ?_
                refine W_pool (S := S) (S' := ((List.take (List.length S - 2) S) ++ [((slv b49_34 (0 + (List.length (List.getD S (List.length S - 1) bd).2) + (List.length (List.getD S (List.length S - 2) bd).2) + 1) cb49_34), ((([] ++ (List.getD S (List.length S - 1) bd).2) ++ (List.getD S (List.length S - 2) bd).2) ++ [(swp (l.getD i 0))]))])) (slv b49_34 (0 + (List.length (List.getD S (List.length S - 1) bd).2) + (List.length (List.getD S (List.length S - 2) bd).2) + 1) cb49_34) (((([] ++ (List.getD S (List.length S - 1) bd).2) ++ (List.getD S (List.length S - 2) bd).2) ++ [(swp (l.getD i 0))])) (HpDels.cons ((HpDel.head).tail).tail (HpDels.cons ((HpDel.head).tail).tail HpDels.nil)) rfl rfl (own_of_row (by show _ = List.length _; first | (simp; done) | (simp; omega)) rfl) ((List.take_sublist _ _).append (List.Sublist.refl _)) ?_
                refine W_region ?_
                refine Ops_p (p_move rfl) (lt_dec rfl) ?_
                refine Ops_p (p_add rfl rfl (by exact ⟨(by first | omega | (dsimp only; omega)), (by first | omega | (dsimp only; omega))⟩)) (lt_dec rfl) ?_
                refine Ops_p (p_assign rfl) (lt_dec rfl) ?_
                refine Ops_nil ?_
                refine Exists.intro (i + 1, ((List.take (List.length S - 2) S) ++ [((slv b49_34 (0 + (List.length (List.getD S (List.length S - 1) bd).2) + (List.length (List.getD S (List.length S - 2) bd).2) + 1) cb49_34), ((([] ++ (List.getD S (List.length S - 1) bd).2) ++ (List.getD S (List.length S - 2) bd).2) ++ [(swp (l.getD i 0))]))]), b56_34, cb56_34) (And.intro ?_ (And.intro ?_ ?_))
                · first | exact ⟨by show _ ≤ _; omega, hP.leaf hlf _⟩ | exact ⟨by show _ ≤ _; omega, hP.op hop _ (by first | rfl | simp)⟩
                · show _ < _; omega
                · exact Wk.intro (.cons rfl (by first | rfl | exact veq_int (by first | omega | (dsimp only; omega))) (.cons rfl (by exact veq_sl (by simp)) (.cons rfl (by first | rfl | exact veq_int (by first | omega | (dsimp only; omega))) .nil))) (.keep rfl rfl (pool_eq rfl) (.drop (.drop (.keep rfl rfl (fun _ h => h) (.keep rfl rfl (fun _ h => h) .nil)))))
            · refine Xt_of_Qt rfl (lt_dec rfl) ((q_load_bs (S := S) (j := (List.length S - 1)) rfl rfl m1 rfl (by first | omega | (dsimp only; omega)) rfl rfl)) ?_
              refine RA_two 0 14 rfl rfl rfl rfl (by kernel_rfl) ?_ ?_
              · refine x_buildSlice rfl rfl rfl rfl rfl rfl rfl rfl (Nat.le_of_ble_eq_true rfl) (lt_dec rfl) fun b34_8 => ?_
                refine RA_two 6 14 rfl rfl rfl rfl (by kernel_rfl) ?_ ?_
                · refine x_append_rd (m := (List.length (List.getD S (List.length S - 1) bd).2)) rfl rfl rfl rfl rfl rfl (fun _ _ => HpRep.head) (Rds.poolI (j := (List.length S - 1)) m1 (by first | omega | assumption)) rfl rfl rfl (by first | omega | (dsimp only; omega)) rfl (by first | omega | (dsimp only; omega)) (by first | omega | (dsimp only; omega)) (lt_dec rfl) fun b40_26 cb40_26 => ?_
                  refine RA_two 12 14 rfl rfl rfl rfl (by kernel_rfl) ?_ ?_
                  · refine x_append_rd (m := (List.length (List.getD S (List.length S - 2) bd).2)) rfl rfl rfl rfl rfl rfl (fun _ _ => HpRep.head) (Rds.poolI (j := (List.length S - 2)) m1 (by first | omega | assumption)) rfl (by show _ = List.length _; simp) rfl (by first | omega | (dsimp only; omega)) rfl (by first | omega | (dsimp only; omega)) (by first | omega | (dsimp only; omega)) (lt_dec rfl) fun b46_35 cb46_35 => ?_
                    refine RA_one 14 rfl rfl (by kernel_rfl) (x_buildSlice rfl rfl rfl rfl rfl rfl rfl rfl (Nat.le_of_ble_eq_true rfl) (lt_dec rfl) fun b48_29 => ?_)
                    refine RA_one 15 rfl rfl (by kernel_rfl) (x_append rfl rfl rfl rfl rfl rfl (fun _ _ => (HpRep.head).tail) (.inl ⟨m0, rfl⟩) rfl (by show _ = List.length _; simp) rfl (by first | omega | (dsimp only; omega)) rfl (by first | omega | (dsimp only; omega)) (by first | omega | (dsimp only; omega)) (lt_dec rfl) fun b49_35 cb49_35 => ?_)
                    refine RA_quiet (g := 0) [16] (by kernel_rfl) (by kernel_rfl) (by kernel_rfl) (by kernel_rfl) ?_
                    refine WQ_cons rfl rfl rfl ((p_assign rfl).q) (lt_dec rfl) ?_
                    refine WQ_nil ?_
                    refine RA_done (by kernel_rfl) ?_
                    refine W_region ?_
                    refine Ops_p (p_move rfl) (lt_dec rfl) ?_
                    refine Ops_p (p_move rfl) (lt_dec rfl) ?_
                    refine Ops_p (p_sub rfl rfl (by exact ⟨(by first | omega | (dsimp only; omega)), (by first | omega | (dsimp only; omega))⟩)) (lt_dec rfl) ?_
                    refine Ops_p (p_take (n := (List.length S - 2)) rfl rfl rfl rfl (by omega) (by omega)) (lt_dec rfl) ?_
                    refine Ops_p (p_move rfl) (lt_dec rfl) ?_
                    refine Ops_x rfl (x_buildSlice rfl rfl rfl rfl rfl rfl rfl rfl (Nat.le_of_ble_eq_true rfl) (lt_dec rfl) fun b55_35 => ?_)
                    refine Ops_x rfl (x_append_t (r := valsB S) (r2 := valsB [((slv b49_35 (0 + (List.length (List.getD S (List.length S - 1) bd).2) + (List.length (List.getD S (List.length S - 2) bd).2) + 1) cb49_35), ((([] ++ (List.getD S (List.length S - 1) bd).2) ++ (List.getD S (List.length S - 2) bd).2) ++ [(swp (l.getD i 0))]))]) (q := valsB ((List.take (List.length S - 2) S) ++ [((slv b49_35 (0 + (List.length (List.getD S (List.length S - 1) bd).2) + (List.length (List.getD S (List.length S - 2) bd).2) + 1) cb49_35), ((([] ++ (List.getD S (List.length S - 1) bd).2) ++ (List.getD S (List.length S - 2) bd).2) ++ [(swp (l.getD i 0))]))])) (n := (List.length S - 2)) (m := 1) rfl rfl rfl rfl rfl rfl (fun _ _ => ((((HpRep.head).tail).tail).tail).tail) (Rds.row m0 rfl) (by rw [valsB_len]; omega) (by rw [valsB_take]; exact valsB_app _ _) rfl (by decide) rfl (by first | omega | (dsimp only; omega)) (by first | omega | (dsimp only; omega)) (lt_dec rfl) fun b56_35 cb56_35 => ?_)
                    refine Ops_p (p_assign rfl) (lt_dec rfl) ?_
                    refine Ops_nil ?_
                    refine W_pool (S := S) (S' := ((List.take (List.length S - 2) S) ++ [((slv b49_35 (0 + (List.length (List.getD S (List.length S - 1) bd).2) + (List.length (List.getD S (List.length S - 2) bd).2) + 1) cb49_35), ((([] ++ (List.getD S (List.length S - 1) bd).2) ++ (List.getD S (List.length S - 2) bd).2) ++ [(swp (l.getD i 0))]))])) (slv b49_35 (0 + (List.length (List.getD S (List.length S - 1) bd).2) + (List.length (List.getD S (List.length S - 2) bd).2) + 1) cb49_35) (((([] ++ (List.getD S (List.length S - 1) bd).2) ++ (List.getD S (List.length S - 2) bd).2) ++ [(swp (l.getD i 0))])) (HpDels.cons ((HpDel.head).tail).tail (HpDels.cons ((HpDel.head).tail).tail HpDels.nil)) rfl rfl (own_of_row (by show _ = List.length _; first | (simp; done) | (simp; omega)) rfl) ((List.take_sublist _ _).append (List.Sublist.refl _)) ?_
                    refine W_region ?_
                    refine Ops_p (p_move rfl) (lt_dec rfl) ?_
                    refine Ops_p (p_add rfl rfl (by exact ⟨(by first | omega | (dsimp only; omega)), (by first | omega | (dsimp only; omega))⟩)) (lt_dec rfl) ?_
                    refine Ops_p (p_assign rfl) (lt_dec rfl) ?_
                    refine Ops_nil ?_
                    refine Exists.intro (i + 1, ((List.take (List.length S - 2) S) ++ [((slv b49_35 (0 + (List.length (List.getD S (List.length S - 1) bd).2) + (List.length (List.getD S (List.length S - 2) bd).2) + 1) cb49_35), ((([] ++ (List.getD S (List.length S - 1) bd).2) ++ (List.getD S (List.length S - 2) bd).2) ++ [(swp (l.getD i 0))]))]), b56_35, cb56_35) (And.intro ?_ (And.intro ?_ ?_))
                    · first | exact ⟨by show _ ≤ _; omega, hP.leaf hlf _⟩ | exact ⟨by show _ ≤ _; omega, hP.op hop _ (by first | rfl | simp)⟩
                    · show _ < _; omega
                    · exact Wk.intro (.cons rfl (by first | rfl | exact veq_int (by first | omega | (dsimp only; omega))) (.cons rfl (by exact veq_sl (by simp)) (.cons rfl (by first | rfl | exact veq_int (by first | omega | (dsimp only; omega))) .nil))) (.keep rfl rfl (pool_eq rfl) (.drop (.drop (.keep rfl rfl (fun _ h => h) (.keep rfl rfl (fun _ h => h) .nil)))))
                  · refine x_buildSlice rfl rfl rfl rfl rfl rfl rfl rfl (Nat.le_of_ble_eq_true rfl) (lt_dec rfl) fun b48_30 => ?_
                    refine RA_one 12 rfl rfl (by kernel_rfl) (x_append_rd (m := (List.length (List.getD S (List.length S - 2) bd).2)) rfl rfl rfl rfl rfl rfl (fun _ _ => (HpRep.head).tail) (Rds.poolI (j := (List.length S - 2)) m2 (by first | omega | assumption)) rfl (by show _ = List.length _; simp) rfl (by first | omega | (dsimp only; omega)) rfl (by first | omega | (dsimp only; omega)) (by first | omega | (dsimp only; omega)) (lt_dec rfl) fun b46_36 cb46_36 => ?_)
                    refine RA_one 15 rfl rfl (by kernel_rfl) (x_append rfl rfl rfl rfl rfl rfl (fun _ _ => (HpRep.head).tail) (.inl ⟨m0, rfl⟩) rfl (by show _ = List.length _; simp) rfl (by first | omega | (dsimp only; omega)) rfl (by first | omega | (dsimp only; omega)) (by first | omega | (dsimp only; omega)) (lt_dec rfl) fun b49_36 cb49_36 => ?_)
                    refine RA_quiet (g := 0) [16] (by kernel_rfl) (by kernel_rfl) (by kernel_rfl) (by kernel_rfl) ?_
                    refine WQ_cons rfl rfl rfl ((p_assign rfl).q) (lt_dec rfl) ?_
                    refine WQ_nil ?_
                    refine RA_done (by kernel_rfl) ?_
                    refine W_region ?_
                    refine Ops_p (p_move rfl) (lt_dec rfl) ?_
                    refine Ops_p (p_move rfl) (lt_dec rfl) ?_
                    refine Ops_p (p_sub rfl rfl (by exact ⟨(by first | omega | (dsimp only; omega)), (by first | omega | (dsimp only; omega))⟩)) (lt_dec rfl) ?_
                    refine Ops_p (p_take (n := (List.length S - 2)) rfl rfl rfl rfl (by omega) (by omega)) (lt_dec rfl) ?_
                    refine Ops_p (p_move rfl) (lt_dec rfl) ?_
                    refine Ops_x rfl (x_buildSlice rfl rfl rfl rfl rfl rfl rfl rfl (Nat.le_of_ble_eq_true rfl) (lt_dec rfl) fun b55_36 => ?_)
                    refine Ops_x rfl (x_append_t (r := valsB S) (r2 := valsB [((slv b49_36 (0 + (List.length (List.getD S (List.length S - 1) bd).2) + (List.length (List.getD S (List.length S - 2) bd).2) + 1) cb49_36), ((([] ++ (List.getD S (List.length S - 1) bd).2) ++ (List.getD S (List.length S - 2) bd).2) ++ [(swp (l.getD i 0))]))]) (q := valsB ((List.take (List.length S - 2) S) ++ [((slv b49_36 (0 + (List.length (List.getD S (List.length S - 1) bd).2) + (List.length (List.getD S (List.length S - 2) bd).2) + 1) cb49_36), ((([] ++ (List.getD S (List.length S - 1) bd).2) ++ (List.getD S (List.length S - 2) bd).2) ++ [(swp (l.getD i 0))]))])) (n := (List.length S - 2)) (m := 1) rfl rfl rfl rfl rfl rfl (fun _ _ => ((((HpRep.head).tail).tail).tail).tail) (Rds.row m0 rfl) (by rw [valsB_len]; omega) (by rw [valsB_take]; exact valsB_app _ _) rfl (by decide) rfl (by first | omega | (dsimp only; omega)) (by first | omega | (dsimp only; omega)) (lt_dec rfl) fun b56_36 cb56_36 => ?_)
                    refine Ops_p (p_assign rfl) (lt_dec rfl) ?_
                    refine Ops_nil ?_
                    refine W_pool (S := S) (S' := ((List.take (List.length S - 2) S) ++ [((slv b49_36 (0 + (List.length (List.getD S (List.length S - 1) bd).2) + (List.length (List.getD S (List.length S - 2) bd).2) + 1) cb49_36), ((([] ++ (List.getD S (List.length S - 1) bd).2) ++ (List.getD S (List.length S - 2) bd).2) ++ [(swp (l.getD i 0))]))])) (slv b49_36 (0 + (List.length (List.getD S (List.length S - 1) bd).2) + (List.length (List.getD S (List.length S - 2) bd).2) + 1) cb49_36) (((([] ++ (List.getD S (List.length S - 1) bd).2) ++ (List.getD S (List.length S - 2) bd).2) ++ [(swp (l.getD i 0))])) (HpDels.cons ((HpDel.head).tail).tail (HpDels.cons ((HpDel.head).tail).tail HpDels.nil)) rfl rfl (own_of_row (by show _ = List.length _; first | (simp; done) | (simp; omega)) rfl) ((List.take_sublist _ _).append (List.Sublist.refl _)) ?_
                    refine W_region ?_
                    refine Ops_p (p_move rfl) (lt_dec rfl) ?_
                    refine Ops_p (p_add rfl rfl (by exact ⟨(by first | omega | (dsimp only; omega)), (by first | omega | (dsimp only; omega))⟩)) (lt_dec rfl) ?_
                    refine Ops_p (p_assign rfl) (lt_dec rfl) ?_
                    refine Ops_nil ?_
                    refine Exists.intro (i + 1, ((List.take (List.length S - 2) S) ++ [((slv b49_36 (0 + (List.length (List.getD S (List.length S - 1) bd).2) + (List.length (List.getD S (List.length S - 2) bd).2) + 1) cb49_36), ((([] ++ (List.getD S (List.length S - 1) bd).2) ++ (List.getD S (List.length S - 2) bd).2) ++ [(swp (l.getD i 0))]))]), b56_36, cb56_36) (And.intro ?_ (And.intro ?_ ?_))
                    · first | exact ⟨by show _ ≤ _; omega, hP.leaf hlf _⟩ | exact ⟨by show _ ≤ _; omega, hP.op hop _ (by first | rfl | simp)⟩
                    · show _ < _; omega
                    · exact Wk.intro (.cons rfl (by first | rfl | exact veq_int (by first | omega | (dsimp only; omega))) (.cons rfl (by exact veq_sl (by simp)) (.cons rfl (by first | rfl | exact veq_int (by first | omega | (dsimp only; omega))) .nil))) (.keep rfl rfl (pool_eq rfl) (.drop (.drop (.keep rfl rfl (fun _ h => h) (.keep rfl rfl (fun _ h => h) .nil)))))
                · refine x_buildSlice rfl rfl rfl rfl rfl rfl rfl rfl (Nat.le_of_ble_eq_true rfl) (lt_dec rfl) fun b48_31 => ?_
                  refine RA_one 6 rfl rfl (by kernel_rfl) (x_append_rd (m := (List.length (List.getD S (List.length S - 1) bd).2)) rfl rfl rfl rfl rfl rfl (fun _ _ => (HpRep.head).tail) (Rds.poolI (j := (List.length S - 1)) m2 (by first | omega | assumption)) rfl rfl rfl (by first | omega | (dsimp only; omega)) rfl (by first | omega | (dsimp only; omega)) (by first | omega | (dsimp only; omega)) (lt_dec rfl) fun b40_27 cb40_27 => ?_)
                  refine RA_one 12 rfl rfl (by kernel_rfl) (x_append_rd (m := (List.length (List.getD S (List.length S - 2) bd).2)) rfl rfl rfl rfl rfl rfl (fun _ _ => (HpRep.head).tail) (Rds.poolI (j := (List.length S - 2)) m2 (by first | omega | assumption)) rfl (by show _ = List.length _; simp) rfl (by first | omega | (dsimp only; omega)) rfl (by first | omega | (dsimp only; omega)) (by first | omega | (dsimp only; omega)) (lt_dec rfl) fun b46_37 cb46_37 => ?_)
                  refine RA_one 15 rfl rfl (by kernel_rfl) (x_append rfl rfl rfl rfl rfl rfl (fun _ _ => (HpRep.head).tail) (.inl ⟨m0, rfl⟩) rfl (by show _ = List.length _; simp) rfl (by first | omega | (dsimp only; omega)) rfl (by first | omega | (dsimp only; omega)) (by first | omega | (dsimp only; omega)) (lt_dec rfl) fun b49_37 cb49_37 => ?_)
                  refine RA_quiet (g := 0) [16] (by kernel_rfl) (by kernel_rfl) (by kernel_rfl) (by kernel_rfl) ?_
                  refine WQ_cons rfl rfl rfl ((p_assign rfl).q) (lt_dec rfl) ?_
                  refine WQ_nil ?_
                  refine RA_done (by kernel_rfl) ?_
                  refine W_region ?_
                  refine Ops_p (p_move rfl) (lt_dec rfl) ?_
                  refine Ops_p (p_move rfl) (lt_dec rfl) ?_
                  refine Ops_p (p_sub rfl rfl (by exact ⟨(by first | omega | (dsimp only; omega)), (by first | omega | (dsimp only; omega))⟩)) (lt_dec rfl) ?_
                  refine Ops_p (p_take (n := (List.length S - 2)) rfl rfl rfl rfl (by omega) (by omega)) (lt_dec rfl) ?_
                  refine Ops_p (p_move rfl) (lt_dec rfl) ?_
                  refine Ops_x rfl (x_buildSlice rfl rfl rfl rfl rfl rfl rfl rfl (Nat.le_of_ble_eq_true rfl) (lt_dec rfl) fun b55_37 => ?_)
                  refine Ops_x rfl (x_append_t (r := valsB S) (r2 := valsB [((slv b49_37 (0 + (List.length (List.getD S (List.length S - 1) bd).2) + (List.length (List.getD S (List.length S - 2) bd).2) + 1) cb49_37), ((([] ++ (List.getD S (List.length S - 1) bd).2) ++ (List.getD S (List.length S - 2) bd).2) ++ [(swp (l.getD i 0))]))]) (q := valsB ((List.take (List.length S - 2) S) ++ [((slv b49_37 (0 + (List.length (List.getD S (List.length S - 1) bd).2) + (List.length (List.getD S (List.length S - 2) bd).2) + 1) cb49_37), ((([] ++ (List.getD S (List.length S - 1) bd).2) ++ (List.getD S (List.length S - 2) bd).2) ++ [(swp (l.getD i 0))]))])) (n := (List.length S - 2)) (m := 1) rfl rfl rfl rfl rfl rfl (fun _ _ => ((((HpRep.head).tail).tail).tail).tail) (Rds.row m0 rfl) (by rw [valsB_len]; omega) (by rw [valsB_take]; exact valsB_app _ _) rfl (by decide) rfl (by first | omega | (dsimp only; omega)) (by first | omega | (dsimp only; omega)) (lt_dec rfl) fun b56_37 cb56_37 => ?_)
                  refine Ops_p (p_assign rfl) (lt_dec rfl) ?_
                  refine Ops_nil ?_
                  refine W_pool (S := S) (S' := ((List.take (List.length S - 2) S) ++ [((slv b49_37 (0 + (List.length (List.getD S (List.length S - 1) bd).2) + (List.length (List.getD S (List.length S - 2) bd).2) + 1) cb49_37), ((([] ++ (List.getD S (List.length S - 1) bd).2) ++ (List.getD S (List.length S - 2) bd).2) ++ [(swp (l.getD i 0))]))])) (slv b49_37 (0 + (List.length (List.getD S (List.length S - 1) bd).2) + (List.length (List.getD S (List.length S - 2) bd).2) + 1) cb49_37) (((([] ++ (List.getD S (List.length S - 1) bd).2) ++ (List.getD S (List.length S - 2) bd).2) ++ [(swp (l.getD i 0))])) (HpDels.cons ((HpDel.head).tail).tail (HpDels.cons ((HpDel.head).tail).tail HpDels.nil)) rfl rfl (own_of_row (by show _ = List.length _; first | (simp; done) | (simp; omega)) rfl) ((List.take_sublist _ _).append (List.Sublist.refl _)) ?_
                  refine W_region ?_
                  refine Ops_p (p_move rfl) (lt_dec rfl) ?_
                  refine Ops_p (p_add rfl rfl (by exact ⟨(by first | omega | (dsimp only; omega)), (by first | omega | (dsimp only; omega))⟩)) (lt_dec rfl) ?_
                  refine Ops_p (p_assign rfl) (lt_dec rfl) ?_
                  refine Ops_nil ?_
                  refine Exists.intro (i + 1, ((List.take (List.length S - 2) S) ++ [((slv b49_37 (0 + (List.length (List.getD S (List.length S - 1) bd).2) + (List.length (List.getD S (List.length S - 2) bd).2) + 1) cb49_37), ((([] ++ (List.getD S (List.length S - 1) bd).2) ++ (List.getD S (List.length S - 2) bd).2) ++ [(swp (l.getD i 0))]))]), b56_37, cb56_37) (And.intro ?_ (And.intro ?_ ?_))
                  · first | exact ⟨by show _ ≤ _; omega, hP.leaf hlf _⟩ | exact ⟨by show _ ≤ _; omega, hP.op hop _ (by first | rfl | simp)⟩
                  · show _ < _; omega
                  · exact Wk.intro (.cons rfl (by first | rfl | exact veq_int (by first | omega | (dsimp only; omega))) (.cons rfl (by exact veq_sl (by simp)) (.cons rfl (by first | rfl | exact veq_int (by first | omega | (dsimp only; omega))) .nil))) (.keep rfl rfl (pool_eq rfl) (.drop (.drop (.keep rfl rfl (fun _ h => h) (.keep rfl rfl (fun _ h => h) .nil)))))
              · refine x_buildSlice rfl rfl rfl rfl rfl rfl rfl rfl (Nat.le_of_ble_eq_true rfl) (lt_dec rfl) fun b48_32 => ?_
                refine RA_one 0 rfl rfl (by kernel_rfl) (x_buildSlice rfl rfl rfl rfl rfl rfl rfl rfl (Nat.le_of_ble_eq_true rfl) (lt_dec rfl) fun b34_9 => ?_)
                refine RA_one 6 rfl rfl (by kernel_rfl) (x_append_rd (m := (List.length (List.getD S (List.length S - 1) bd).2)) rfl rfl rfl rfl rfl rfl (fun _ _ => HpRep.head) (Rds.poolI (j := (List.length S - 1)) m2 (by first | omega | assumption)) rfl rfl rfl (by first | omega | (dsimp only; omega)) rfl (by first | omega | (dsimp only; omega)) (by first | omega | (dsimp only; omega)) (lt_dec rfl) fun b40_28 cb40_28 => ?_)
                refine RA_one 12 rfl rfl (by kernel_rfl) (x_append_rd (m := (List.length (List.getD S (List.length S - 2) bd).2)) rfl rfl rfl rfl rfl rfl (fun _ _ => HpRep.head) (Rds.poolI (j := (List.length S - 2)) m2 (by first | omega | assumption)) rfl (by show _ = List.length _; simp) rfl (by first | omega | (dsimp only; omega)) rfl (by first | omega | (dsimp only; omega)) (by first | omega | (dsimp only; omega)) (lt_dec rfl) fun b46_38 cb46_38 => ?_)
                refine RA_one 15 rfl rfl (by kernel_rfl) (x_append rfl rfl rfl rfl rfl rfl (fun _ _ => HpRep.head) (.inl ⟨m1, rfl⟩) rfl (by show _ = List.length _; simp) rfl (by first | omega | (dsimp only; omega)) rfl (by first | omega | (dsimp only; omega)) (by first | omega | (dsimp only; omega)) (lt_dec rfl) fun b49_38 cb49_38 => ?_)
                refine RA_quiet (g := 0) [16] (by kernel_rfl) (by kernel_rfl) (by kernel_rfl) (by kernel_rfl) ?_
                refine WQ_cons rfl rfl rfl ((p_assign rfl).q) (lt_dec rfl) ?_
                refine WQ_nil ?_
                refine RA_done (by kernel_rfl) ?_
                refine W_region ?_
                refine Ops_p (p_move rfl) (lt_dec rfl) ?_
                refine Ops_p (p_move rfl) (lt_dec rfl) ?_
                refine Ops_p (p_sub rfl rfl (by exact ⟨(by first | omega | (dsimp only; omega)), (by first | omega | (dsimp only; omega))⟩)) (lt_dec rfl) ?_
                refine Ops_p (p_take (n := (List.length S - 2)) rfl rfl rfl rfl (by omega) (by omega)) (lt_dec rfl) ?_
                refine Ops_p (p_move rfl) (lt_dec rfl) ?_
                refine Ops_x rfl (x_buildSlice rfl rfl rfl rfl rfl rfl rfl rfl (Nat.le_of_ble_eq_true rfl) (lt_dec rfl) fun b55_38 => ?_)
                refine Ops_x rfl (x_append_t (r := valsB S) (r2 := valsB [((slv b49_38 (0 + (List.length (List.getD S (List.length S - 1) bd).2) + (List.length (List.getD S (List.length S - 2) bd).2) + 1) cb49_38), ((([] ++ (List.getD S (List.length S - 1) bd).2) ++ (List.getD S (List.length S - 2) bd).2) ++ [(swp (l.getD i 0))]))]) (q := valsB ((List.take (List.length S - 2) S) ++ [((slv b49_38 (0 + (List.length (List.getD S (List.length S - 1) bd).2) + (List.length (List.getD S (List.length S - 2) bd).2) + 1) cb49_38), ((([] ++ (List.getD S (List.length S - 1) bd).2) ++ (List.getD S (List.length S - 2) bd).2) ++ [(swp (l.getD i 0))]))])) (n := (List.length S - 2)) (m := 1) rfl rfl rfl rfl rfl rfl (fun _ _ => ((((HpRep.head).tail).tail).tail).tail) (Rds.row m0 rfl) (by rw [valsB_len]; omega) (by rw [valsB_take]; exact valsB_app _ _) rfl (by decide) rfl (by first | omega | (dsimp only; omega)) (by first | omega | (dsimp only; omega)) (lt_dec rfl) fun b56_38 cb56_38 => ?_)
                refine Ops_p (p_assign rfl) (lt_dec rfl) ?_
                refine Ops_nil ?_
                refine W_pool (S := S) (S' := ((List.take (List.length S - 2) S) ++ [((slv b49_38 (0 + (List.length (List.getD S (List.length S - 1) bd).2) + (List.length (List.getD S (List.length S - 2) bd).2) + 1) cb49_38), ((([] ++ (List.getD S (List.length S - 1) bd).2) ++ (List.getD S (List.length S - 2) bd).2) ++ [(swp (l.getD i 0))]))])) (slv b49_38 (0 + (List.length (List.getD S (List.length S - 1) bd).2) + (List.length (List.getD S (List.length S - 2) bd).2) + 1) cb49_38) (((([] ++ (List.getD S (List.length S - 1) bd).2) ++ (List.getD S (List.length S - 2) bd).2) ++ [(swp (l.getD i 0))])) (HpDels.cons (HpDel.head).tail (HpDels.cons ((HpDel.head).tail).tail HpDels.nil)) rfl rfl (own_of_row (by show _ = List.length _; first | (simp; done) | (simp; omega)) rfl) ((List.take_sublist _ _).append (List.Sublist.refl _)) ?_
                refine W_region ?_
                refine Ops_p (p_move rfl) (lt_dec rfl) ?_
                refine Ops_p (p_add rfl rfl (by exact ⟨(by first | omega | (dsimp only; omega)), (by first | omega | (dsimp only; omega))⟩)) (lt_dec rfl) ?_
                refine Ops_p (p_assign rfl) (lt_dec rfl) ?_
                refine Ops_nil ?_
                refine Exists.intro (i + 1, ((List.take (List.length S - 2) S) ++ [((slv b49_38 (0 + (List.length (List.getD S (List.length S - 1) bd).2) + (List.length (List.getD S (List.length S - 2) bd).2) + 1) cb49_38), ((([] ++ (List.getD S (List.length S - 1) bd).2) ++ (List.getD S (List.length S - 2) bd).2) ++ [(swp (l.getD i 0))]))]), b56_38, cb56_38) (And.intro ?_ (And.intro ?_ ?_))
                · first | exact ⟨by show _ ≤ _; omega, hP.leaf hlf _⟩ | exact ⟨by show _ ≤ _; omega, hP.op hop _ (by first | rfl | simp)⟩
                · show _ < _; omega
                · exact Wk.intro (.cons rfl (by first | rfl | exact veq_int (by first | omega | (dsimp only; omega))) (.cons rfl (by exact veq_sl (by simp)) (.cons rfl (by first | rfl | exact veq_int (by first | omega | (dsimp only; omega))) .nil))) (.keep rfl rfl (pool_eq rfl) (.drop (.drop (.keep rfl rfl (fun _ h => h) (.keep rfl rfl (fun _ h => h) .nil)))))
            · refine x_buildSlice rfl rfl rfl rfl rfl rfl rfl rfl (Nat.le_of_ble_eq_true rfl) (lt_dec rfl) fun b48_33 => ?_
              refine RA_two 0 5 rfl rfl rfl rfl (by kernel_rfl) ?_ ?_
              · refine x_buildSlice rfl rfl rfl rfl rfl rfl rfl rfl (Nat.le_of_ble_eq_true rfl) (lt_dec rfl) fun b34_10 => ?_
                refine RA_quiet (g := 4) [5] (by kernel_rfl) (by kernel_rfl) (by kernel_rfl) (by kernel_rfl) ?_
                refine WQ_cons rfl rfl rfl ((q_load_bs (S := S) (j := (List.length S - 1)) rfl rfl m3 rfl (by first | omega | (dsimp only; omega)) rfl rfl)) (lt_dec rfl) ?_
                refine WQ_nil ?_
                refine RA_one 6 rfl rfl (by kernel_rfl) (x_append_rd (m := (List.length (List.getD S (List.length S - 1) bd).2)) rfl rfl rfl rfl rfl rfl (fun _ _ => HpRep.head) (Rds.poolI (j := (List.length S - 1)) m2 (by first | omega | assumption)) rfl rfl rfl (by first | omega | (dsimp only; omega)) rfl (by first | omega | (dsimp only; omega)) (by first | omega | (dsimp only; omega)) (lt_dec rfl) fun b40_29 cb40_29 => ?_)
                refine RA_one 12 rfl rfl (by kernel_rfl) (x_append_rd (m := (List.length (List.getD S (List.length S - 2) bd).2)) rfl rfl rfl rfl rfl rfl (fun _ _ => HpRep.head) (Rds.poolI (j := (List.length S - 2)) m2 (by first | omega | assumption)) rfl (by show _ = List.length _; simp) rfl (by first | omega | (dsimp only; omega)) rfl (by first | omega | (dsimp only; omega)) (by first | omega | (dsimp only; omega)) (lt_dec rfl) fun b46_39 cb46_39 => ?_)
                refine RA_one 15 rfl rfl (by kernel_rfl) (x_append rfl rfl rfl rfl rfl rfl (fun _ _ => HpRep.head) (.inl ⟨m1, rfl⟩) rfl (by show _ = List.length _; simp) rfl (by first | omega | (dsimp only; omega)) rfl (by first | omega | (dsimp only; omega)) (by first | omega | (dsimp only; omega)) (lt_dec rfl) fun b49_39 cb49_39 => ?_)
                refine RA_quiet (g := 0) [16] (by kernel_rfl) (by kernel_rfl) (by kernel_rfl) (by kernel_rfl) ?_
                refine WQ_cons rfl rfl rfl ((p_assign rfl).q) (lt_dec rfl) ?_
                refine WQ_nil ?_
                refine RA_done (by kernel_rfl) ?_
                refine W_region ?_
                refine Ops_p (p_move rfl) (lt_dec rfl) ?_
                refine Ops_p (p_move rfl) (lt_dec rfl) ?_
                refine Ops_p (p_sub rfl rfl (by exact ⟨(by first | omega | (dsimp only; omega)), (by first | omega | (dsimp only; omega))⟩)) (lt_dec rfl) ?_
                refine Ops_p (p_take (n := (List.length S - 2)) rfl rfl rfl rfl (by omega) (by omega)) (lt_dec rfl) ?_
                refine Ops_p (p_move rfl) (lt_dec rfl) ?_
                refine Ops_x rfl (x_buildSlice rfl rfl rfl rfl rfl rfl rfl rfl (Nat.le_of_ble_eq_true rfl) (lt_dec rfl) fun b55_39 => ?_)
                refine Ops_x rfl (x_append_t (r := valsB S) (r2 := valsB [((slv b49_39 (0 + (List.length (List.getD S (List.length S - 1) bd).2) + (List.length (List.getD S (List.length S - 2) bd).2) + 1) cb49_39), ((([] ++ (List.getD S (List.length S - 1) bd).2) ++ (List.getD S (List.length S - 2) bd).2) ++ [(swp (l.getD i 0))]))]) (q := valsB ((List.take (List.length S - 2) S) ++ [((slv b49_39 (0 + (List.length (List.getD S (List.length S - 1) bd).2) + (List.length (List.getD S (List.length S - 2) bd).2) + 1) cb49_39), ((([] ++ (List.getD S (List.length S - 1) bd).2) ++ (List.getD S (List.length S - 2) bd).2) ++ [(swp (l.getD i 0))]))])) (n := (List.length S - 2)) (m := 1) rfl rfl rfl rfl rfl rfl (fun _ _ => ((((HpRep.head).tail).tail).tail).tail) (Rds.row m0 rfl) (by rw [valsB_len]; omega) (by rw [valsB_take]; exact valsB_app _ _) rfl (by decide) rfl (by first | omega | (dsimp only; omega)) (by first | omega | (dsimp only; omega)) (lt_dec rfl) fun b56_39 cb56_39 => ?_)
                refine Ops_p (p_assign rfl) (lt_dec rfl) ?_
                refine Ops_nil ?_
                refine W_pool (S := S) (S' := ((List.take (List.length S - 2) S) ++ [((slv b49_39 (0 + (List.length (List.getD S (List.length S - 1) bd).2) + (List.length (List.getD S (List.length S - 2) bd).2) + 1) cb49_39), ((([] ++ (List.getD S (List.length S - 1) bd).2) ++ (List.getD S (List.length S - 2) bd).2) ++ [(swp (l.getD i 0))]))])) (slv b49_39 (0 + (List.length (List.getD S (List.length S - 1) bd).2) + (List.length (List.getD S (List.length S - 2) bd).2) + 1) cb49_39) (((([] ++ (List.getD S (List.length S - 1) bd).2) ++ (List.getD S (List.length S - 2) bd).2) ++ [(swp (l.getD i 0))])) (HpDels.cons (HpDel.head).tail (HpDels.cons ((HpDel.head).tail).tail HpDels.nil)) rfl rfl (own_of_row (by show _ = List.length _; first | (simp; done) | (simp; omega)) rfl) ((List.take_sublist _ _).append (List.Sublist.refl _)) ?_
                refine W_region ?_
                refine Ops_p (p_move rfl) (lt_dec rfl) ?_
                refine Ops_p (p_add rfl rfl (by exact ⟨(by first | omega | (dsimp only; omega)), (by first | omega | (dsimp only; omega))⟩)) (lt_dec rfl) ?_
                refine Ops_p (p_assign rfl) (lt_dec rfl) ?_
                refine Ops_nil ?_
                refine Exists.intro (i + 1, ((List.take (List.length S - 2) S) ++ [((slv b49_39 (0 + (List.length (List.getD S (List.length S - 1) bd).2) + (List.length (List.getD S (List.length S - 2) bd).2) + 1) cb49_39), ((([] ++ (List.getD S (List.length S - 1) bd).2) ++ (List.getD S (List.length S - 2) bd).2) ++ [(swp (l.getD i 0))]))]), b56_39, cb56_39) (And.intro ?_ (And.intro ?_ ?_))
                · first | exact ⟨by show _ ≤ _; omega, hP.leaf hlf _⟩ | exact ⟨by show _ ≤ _; omega, hP.op hop _ (by first | rfl | simp)⟩
                · show _ < _; omega
                · exact Wk.intro (.cons rfl (by first | rfl | exact veq_int (by first | omega | (dsimp only; omega))) (.cons rfl (by exact veq_sl (by simp)) (.cons rfl (by first | rfl | exact veq_int (by first | omega | (dsimp only; omega))) .nil))) (.keep rfl rfl (pool_eq rfl) (.drop (.drop (.keep rfl rfl (fun _ h => h) (.keep rfl rfl (fun _ h => h) .nil)))))
              · refine Xt_of_Qt rfl (lt_dec rfl) ((q_load_bs (S := S) (j := (List.length S - 1)) rfl rfl m2 rfl (by first | omega | (dsimp only; omega)) rfl rfl)) ?_
                refine RA_one 0 rfl rfl (by kernel_rfl) (x_buildSlice rfl rfl rfl rfl rfl rfl rfl rfl (Nat.le_of_ble_eq_true rfl) (lt_dec rfl) fun b34_11 => ?_)
                refine RA_one 6 rfl rfl (by kernel_rfl) (x_append_rd (m := (List.length (List.getD S (List.length S - 1) bd).2)) rfl rfl rfl rfl rfl rfl (fun _ _ => HpRep.head) (Rds.poolI (j := (List.length S - 1)) m2 (by first | omega | assumption)) rfl rfl rfl (by first | omega | (dsimp only; omega)) rfl (by first | omega | (dsimp only; omega)) (by first | omega | (dsimp only; omega)) (lt_dec rfl) fun b40_30 cb40_30 => ?_)
                refine RA_one 12 rfl rfl (by kernel_rfl) (x_append_rd (m := (List.length (List.getD S (List.length S - 2) bd).2)) rfl rfl rfl rfl rfl rfl (fun _ _ => HpRep.head) (Rds.poolI (j := (List.length S - 2)) m2 (by first | omega | assumption)) rfl (by show _ = List.length _; simp) rfl (by first | omega | (dsimp only; omega)) rfl (by first | omega | (dsimp only; omega)) (by first | omega | (dsimp only; omega)) (lt_dec rfl) fun b46_40 cb46_40 => ?_)
                refine RA_one 15 rfl rfl (by kernel_rfl) (x_append rfl rfl rfl rfl rfl rfl (fun _ _ => HpRep.head) (.inl ⟨m1, rfl⟩) rfl (by show _ = List.length _; simp) rfl (by first | omega | (dsimp only; omega)) rfl (by first | omega | (dsimp only; omega)) (by first | omega | (dsimp only; omega)) (lt_dec rfl) fun b49_40 cb49_40 => ?_)
                refine RA_quiet (g := 0) [16] (by kernel_rfl) (by kernel_rfl) (by kernel_rfl) (by kernel_rfl) ?_
                refine WQ_cons rfl rfl rfl ((p_assign rfl).q) (lt_dec rfl) ?_
                refine WQ_nil ?_
                refine RA_done (by kernel_rfl) ?_
                refine W_region ?_
                refine Ops_p (p_move rfl) (lt_dec rfl) ?_
                refine Ops_p (p_move rfl) (lt_dec rfl) ?_
                refine Ops_p (p_sub rfl rfl (by exact ⟨(by first | omega | (dsimp only; omega)), (by first | omega | (dsimp only; omega))⟩)) (lt_dec rfl) ?_
                refine Ops_p (p_take (n := (List.length S - 2)) rfl rfl rfl rfl (by omega) (by omega)) (lt_dec rfl) ?_
                refine Ops_p (p_move rfl) (lt_dec rfl) ?_
                refine Ops_x rfl (x_buildSlice rfl rfl rfl rfl rfl rfl rfl rfl (Nat.le_of_ble_eq_true rfl) (lt_dec rfl) fun b55_40 => ?_)
                refine Ops_x rfl (x_append_t (r := valsB S) (r2 := valsB [((slv b49_40 (0 + (List.length (List.getD S (List.length S - 1) bd).2) + (List.length (List.getD S (List.length S - 2) bd).2) + 1) cb49_40), ((([] ++ (List.getD S (List.length S - 1) bd).2) ++ (List.getD S (List.length S - 2) bd).2) ++ [(swp (l.getD i 0))]))]) (q := valsB ((List.take (List.length S - 2) S) ++ [((slv b49_40 (0 + (List.length (List.getD S (List.length S - 1) bd).2) + (List.length (List.getD S (List.length S - 2) bd).2) + 1) cb49_40), ((([] ++ (List.getD S (List.length S - 1) bd).2) ++ (List.getD S (List.length S - 2) bd).2) ++ [(swp (l.getD i 0))]))])) (n := (List.length S - 2)) (m := 1) rfl rfl rfl rfl rfl rfl (fun _ _ => ((((HpRep.head).tail).tail).tail).tail) (Rds.row m0 rfl) (by rw [valsB_len]; omega) (by rw [valsB_take]; exact valsB_app _ _) rfl (by decide) rfl (by first | omega | (dsimp only; omega)) (by first | omega | (dsimp only; omega)) (lt_dec rfl) fun b56_40 cb56_40 => ?_)
                refine Ops_p (p_assign rfl) (lt_dec rfl) ?_
                refine Ops_nil ?_
                refine W_pool (S := S) (S' := ((List.take (List.length S - 2) S) ++ [((slv b49_40 (0 + (List.length (List.getD S (List.length S - 1) bd).2) + (List.length (List.getD S (List.length S - 2) bd).2) + 1) cb49_40), ((([] ++ (List.getD S (List.length S - 1) bd).2) ++ (List.getD S (List.length S - 2) bd).2) ++ [(swp (l.getD i 0))]))])) (slv b49_40 (0 + (List.length (List.getD S (List.length S - 1) bd).2) + (List.length (List.getD S (List.length S - 2) bd).2) + 1) cb49_40) (((([] ++ (List.getD S (List.length S - 1) bd).2) ++ (List.getD S (List.length S - 2) bd).2) ++ [(swp (l.getD i 0))])) (HpDels.cons (HpDel.head).tail (HpDels.cons ((HpDel.head).tail).tail HpDels.nil)) rfl rfl (own_of_row (by show _ = List.length _; first | (simp; done) | (simp; omega)) rfl) ((List.take_sublist _ _).append (List.Sublist.refl _)) ?_
                refine W_region ?_
                refine Ops_p (p_move rfl) (lt_dec rfl) ?_
                refine Ops_p (p_add rfl rfl (by exact ⟨(by first | omega | (dsimp only; omega)), (by first | omega | (dsimp only; omega))⟩)) (lt_dec rfl) ?_
                refine Ops_p (p_assign rfl) (lt_dec rfl) ?_
                refine Ops_nil ?_
                refine Exists.intro (i + 1, ((List.take (List.length S - 2) S) ++ [((slv b49_40 (0 + (List.length (List.getD S (List.length S - 1) bd).2) + (List.length (List.getD S (List.length S - 2) bd).2) + 1) cb49_40), ((([] ++ (List.getD S (List.length S - 1) bd).2) ++ (List.getD S (List.length S - 2) bd).2) ++ [(swp (l.getD i 0))]))]), b56_40, cb56_40) (And.intro ?_ (And.intro ?_ ?_))
                · first | exact ⟨by show _ ≤ _; omega, hP.leaf hlf _⟩ | exact ⟨by show _ ≤ _; omega, hP.op hop _ (by first | rfl | simp)⟩
                · show _ < _; omega
                · exact Wk.intro (.cons rfl (by first | rfl | exact veq_int (by first | omega | (dsimp only; omega))) (.cons rfl (by exact veq_sl (by simp)) (.cons rfl (by first | rfl | exact veq_int (by first | omega | (dsimp only; omega))) .nil))) (.keep rfl rfl (pool_eq rfl) (.drop (.drop (.keep rfl rfl (fun _ h => h) (.keep rfl rfl (fun _ h => h) .nil)))))
          · refine x_buildSlice rfl rfl rfl rfl rfl rfl rfl rfl (Nat.le_of_ble_eq_true rfl) (lt_dec rfl) fun b48_34 => ?_
            refine RA_three 0 5 11 rfl rfl rfl rfl rfl rfl (by kernel_rfl) ?_ ?_ ?_
            · refine x_buildSlice rfl rfl rfl rfl rfl rfl rfl rfl (Nat.le_of_ble_eq_true rfl) (lt_dec rfl) fun b34_12 => ?_
              refine RA_two 5 11 rfl rfl rfl rfl (by kernel_rfl) ?_ ?_
              · refine Xt_of_Qt rfl (lt_dec rfl) ((q_load_bs (S := S) (j := (List.length S - 1)) rfl rfl m3 rfl (by first | omega | (dsimp only; omega)) rfl rfl)) ?_
                refine RA_two 6 11 rfl rfl rfl rfl (by kernel_rfl) ?_ ?_
                · refine x_append_rd (m := (List.length (List.getD S (List.length S - 1) bd).2)) rfl rfl rfl rfl rfl rfl (fun _ _ => HpRep.head) (Rds.poolI (j := (List.length S - 1)) m2 (by first | omega | assumption)) rfl rfl rfl (by first | omega | (dsimp only; omega)) rfl (by first | omega | (dsimp only; omega)) (by first | omega | (dsimp only; omega)) (lt_dec rfl) fun b40_31 cb40_31 => ?_
                  refine RA_quiet (g := 3) [11] (by kernel_rfl) (by kernel_rfl) (by kernel_rfl) (by kernel_rfl) ?_
                  refine WQ_cons rfl rfl rfl ((q_load_bs (S := S) (j := (List.length S - 2)) rfl rfl m3 rfl (by first | omega | (dsimp only; omega)) rfl rfl)) (lt_dec rfl) ?_
                  refine WQ_nil ?_
                  refine RA_one 12 rfl rfl (by kernel_rfl) (x_append_rd (m := (List.length (List.getD S (List.length S - 2) bd).2)) rfl rfl rfl rfl rfl rfl (fun _ _ => HpRep.head) (Rds.poolI (j := (List.length S - 2)) m2 (by first | omega | assumption)) rfl (by show _ = List.length _; simp) rfl (by first | omega | (dsimp only; omega)) rfl (by first | omega | (dsimp only; omega)) (by first | omega | (dsimp only; omega)) (lt_dec rfl) fun b46_41 cb46_41 => ?_)
                  refine RA_one 15 rfl rfl (by kernel_rfl) (x_append rfl rfl rfl rfl rfl rfl (fun _ _ => HpRep.head) (.inl ⟨m1, rfl⟩) rfl (by show _ = List.length _; simp) rfl (by first | omega | (dsimp only; omega)) rfl (by first | omega | (dsimp only; omega)) (by first | omega | (dsimp only; omega)) (lt_dec rfl) fun b49_41 cb49_41 => ?_)
                  refine RA_quiet (g := 0) [16] (by kernel_rfl) (by kernel_rfl) (by kernel_rfl) (by kernel_rfl) ?_
                  refine WQ_cons rfl rfl rfl ((p_assign rfl).q) (lt_dec rfl) ?_
                  refine WQ_nil ?_
                  refine RA_done (by kernel_rfl) ?_
                  refine W_region ?_
                  refine Ops_p (p_move rfl) (lt_dec rfl) ?_
                  refine Ops_p (p_move rfl) (lt_dec rfl) ?_
                  refine Ops_p (p_sub rfl rfl (by exact ⟨(by first | omega | (dsimp only; omega)), (by first | omega | (dsimp only; omega))⟩)) (lt_dec rfl) ?_
                  refine Ops_p (p_take (n := (List.length S - 2)) rfl rfl rfl rfl (by omega) (by omega)) (lt_dec rfl) ?_
                  refine Ops_p (p_move rfl) (lt_dec rfl) ?_
                  refine Ops_x rfl (x_buildSlice rfl rfl rfl rfl rfl rfl rfl rfl (Nat.le_of_ble_eq_true rfl) (lt_dec rfl) fun b55_41 => ?_)
                  refine Ops_x rfl (x_append_t (r := valsB S) (r2 := valsB [((slv b49_41 (0 + (List.length (List.getD S (List.length S - 1) bd).2) + (List.length (List.getD S (List.length S - 2) bd).2) + 1) cb49_41), ((([] ++ (List.getD S (List.length S - 1) bd).2) ++ (List.getD S (List.length S - 2) bd).2) ++ [(swp (l.getD i 0))]))]) (q := valsB ((List.take (List.length S - 2) S) ++ [((slv b49_41 (0 + (List.length (List.getD S (List.length S - 1) bd).2) + (List.length (List.getD S (List.length S - 2) bd).2) + 1) cb49_41), ((([] ++ (List.getD S (List.length S - 1) bd).2) ++ (List.getD S (List.length S - 2) bd).2) ++ [(swp (l.getD i 0))]))])) (n := (List.length S - 2)) (m := 1) rfl rfl rfl rfl rfl rfl (fun _ _ => ((((HpRep.head).tail).tail).tail).tail) (Rds.row m0 rfl) (by rw [valsB_len]; omega) (by rw [valsB_take]; exact valsB_app _ _) rfl (by decide) rfl (by first | omega | (dsimp only; omega)) (by first | omega | (dsimp only; omega)) (lt_dec rfl) fun b56_41 cb56_41 => ?_)
                  refine Ops_p (p_assign rfl) (lt_dec rfl) ?_
                  refine Ops_nil ?_
                  refine W_pool (S := S) (S' := ((List.take (List.length S - 2) S) ++ [((slv b49_41 (0 + (List.length (List.getD S (List.length S - 1) bd).2) + (List.length (List.getD S (List.length S - 2) bd).2) + 1) cb49_41), ((([] ++ (List.getD S (List.length S - 1) bd).2) ++ (List.getD S (List.length S - 2) bd).2) ++ [(swp (l.getD i 0))]))])) (slv b49_41 (0 + (List.length (List.getD S (List.length S - 1) bd).2) + (List.length (List.getD S (List.length S - 2) bd).2) + 1) cb49_41) (((([] ++ (List.getD S (List.length S - 1) bd).2) ++ (List.getD S (List.length S - 2) bd).2) ++ [(swp (l.getD i 0))])) (HpDels.cons (HpDel.head).tail (HpDels.cons ((HpDel.head).tail).tail HpDels.nil)) rfl rfl (own_of_row (by show _ = List.length _; first | (simp; done) | (simp; omega)) rfl) ((List.take_sublist _ _).append (List.Sublist.refl _)) ?_
                  refine W_region ?_
                  refine Ops_p (p_move rfl) (lt_dec rfl) ?_
                  refine Ops_p (p_add rfl rfl (by exact ⟨(by first | omega | (dsimp only; omega)), (by first | omega | (dsimp only; omega))⟩)) (lt_dec rfl) ?_
                  refine Ops_p (p_assign rfl) (lt_dec rfl) ?_
                  refine Ops_nil ?_
                  refine Exists.intro (i + 1, ((List.take (List.length S - 2) S) ++ [((slv b49_41 (0 + (List.length (List.getD S (List.length S - 1) bd).2) + (List.length (List.getD S (List.length S - 2) bd).2) + 1) cb49_41), ((([] ++ (List.getD S (List.length S - 1) bd).2) ++ (List.getD S (List.length S - 2) bd).2) ++ [(swp (l.getD i 0))]))]), b56_41, cb56_41) (And.intro ?_ (And.intro ?_ ?_))
                  · first | exact ⟨by show _ ≤ _; omega, hP.leaf hlf _⟩ | exact ⟨by show _ ≤ _; omega, hP.op hop _ (by first | rfl | simp)⟩
                  · show _ < _; omega
                  · exact Wk.intro (.cons rfl (by first | rfl | exact veq_int (by first | omega | (dsimp only; omega))) (.cons rfl (by exact veq_sl (by simp)) (.cons rfl (by first | rfl | exact veq_int (by first | omega | (dsimp only; omega))) .nil))) (.keep rfl rfl (pool_eq rfl) (.drop (.drop (.keep rfl rfl (fun _ h => h) (.keep rfl rfl (fun _ h => h) .nil)))))
                · refine Xt_of_Qt rfl (lt_dec rfl) ((q_load_bs (S := S) (j := (List.length S - 2)) rfl rfl m3 rfl (by first | omega | (dsimp only; omega)) rfl rfl)) ?_
                  refine RA_one 6 rfl rfl (by kernel_rfl) (x_append_rd (m := (List.length (List.getD S (List.length S - 1) bd).2)) rfl rfl rfl rfl rfl rfl (fun _ _ => HpRep.head) (Rds.poolI (j := (List.length S - 1)) m2 (by first | omega | assumption)) rfl rfl rfl (by first | omega | (dsimp only; omega)) rfl (by first | omega | (dsimp only; omega)) (by first | omega | (dsimp only; omega)) (lt_dec rfl) fun b40_32 cb40_32 => ?_)
                  refine RA_one 12 rfl rfl (by kernel_rfl) (x_append_rd (m := (List.length (List.getD S (List.length S - 2) bd).2)) rfl rfl rfl rfl rfl rfl (fun _ _ => HpRep.head) (Rds.poolI (j := (List.length S - 2)) m2 (by first | omega | assumption)) rfl (by show _ = List.length _; simp) rfl (by first | omega | (dsimp only; omega)) rfl (by first | omega | (dsimp only; omega)) (by first | omega | (dsimp only; omega)) (lt_dec rfl) fun b46_42 cb46_42 => ?_)
                  refine RA_one 15 rfl rfl (by kernel_rfl) (x_append rfl rfl rfl rfl rfl rfl (fun _ _ => HpRep.head) (.inl ⟨m1, rfl⟩) rfl (by show _ = List.length _; simp) rfl (by first | omega | (dsimp only; omega)) rfl (by first | omega | (dsimp only; omega)) (by first | omega | (dsimp only; omega)) (lt_dec rfl) fun b49_42 cb49_42 => ?_)
                  refine RA_quiet (g := 0) [16] (by kernel_rfl) (by kernel_rfl) (by kernel_rfl) (by kernel_rfl) ?_
                  refine WQ_cons rfl rfl rfl ((p_assign rfl).q) (lt_dec rfl) ?_
                  refine WQ_nil ?_
                  refine RA_done (by kernel_rfl) ?_
                  refine W_region ?_
                  refine Ops_p (p_move rfl) (lt_dec rfl) ?_
                  refine Ops_p (p_move rfl) (lt_dec rfl) ?_
                  refine Ops_p (p_sub rfl rfl (by exact ⟨(by first | omega | (dsimp only; omega)), (by first | omega | (dsimp only; omega))⟩)) (lt_dec rfl) ?_
                  refine Ops_p (p_take (n := (List.length S - 2)) rfl rfl rfl rfl (by omega) (by omega)) (lt_dec rfl) ?_
                  refine Ops_p (p_move rfl) (lt_dec rfl) ?_
                  refine Ops_x rfl (x_buildSlice rfl rfl rfl rfl rfl rfl rfl rfl (Nat.le_of_ble_eq_true rfl) (lt_dec rfl) fun b55_42 => ?_)
                  refine Ops_x rfl (x_append_t (r := valsB S) (r2 := valsB [((slv b49_42 (0 + (List.length (List.getD S (List.length S - 1) bd).2) + (List.length (List.getD S (List.length S - 2) bd).2) + 1) cb49_42), ((([] ++ (List.getD S (List.length S - 1) bd).2) ++ (List.getD S (List.length S - 2) bd).2) ++ [(swp (l.getD i 0))]))]) (q := valsB ((List.take (List.length S - 2) S) ++ [((slv b49_42 (0 + (List.length (List.getD S (List.length S - 1) bd).2) + (List.length (List.getD S (List.length S - 2) bd).2) + 1) cb49_42), ((([] ++ (List.getD S (List.length S - 1) bd).2) ++ (List.getD S (List.length S - 2) bd).2) ++ [(swp (l.getD i 0))]))])) (n := (List.length S - 2)) (m := 1) rfl rfl rfl rfl rfl rfl (fun _ _ => ((((HpRep.head).tail).tail).tail).tail) (Rds.row m0 rfl) (by rw [valsB_len]; omega) (by rw [valsB_take]; exact valsB_app _ _) rfl (by decide) rfl (by first | omega | (dsimp only; omega)) (by first | omega | (dsimp only; omega)) (lt_dec rfl) fun b56_42 cb56_42 => ?_)
                  refine Ops_p (p_assign rfl) (lt_dec rfl) ?_
                  refine Ops_nil ?_
                  refine W_pool (S := S) (S' := ((List.take (List.length S - 2) S) ++ [((slv b49_42 (0 + (List.length (List.getD S (List.length S - 1) bd).2) + (List.length (List.getD S (List.length S - 2) bd).2) + 1) cb49_42), ((([] ++ (List.getD S (List.length S - 1) bd).2) ++ (List.getD S (List.length S - 2) bd).2) ++ [(swp (l.getD i 0))]))])) (slv b49_42 (0 + (List.length (List.getD S (List.length S - 1) bd).2) + (List.length (List.getD S (List.length S - 2) bd).2) + 1) cb49_42) (((([] ++ (List.getD S (List.length S - 1) bd).2) ++ (List.getD S (List.length S - 2) bd).2) ++ [(swp (l.getD i 0))])) (HpDels.cons (HpDel.head).tail (HpDels.cons ((HpDel.head).tail).tail HpDels.nil)) rfl rfl (own_of_row (by show _ = List.length _; first | (simp; done) | (simp; omega)) rfl) ((List.take_sublist _ _).append (List.Sublist.refl _)) ?_
                  refine W_region ?_
                  refine Ops_p (p_move rfl) (lt_dec rfl) ?_
                  refine Ops_p (p_add rfl rfl (by exact ⟨(by first | omega | (dsimp only; omega)), (by first | omega | (dsimp only; omega))⟩)) (lt_dec rfl) ?_
                  refine Ops_p (p_assign rfl) (lt_dec rfl) ?_
                  refine Ops_nil ?_
                  refine Exists.intro (i + 1, ((List.take (List.length S - 2) S) ++ [((slv b49_42 (0 + (List.length (List.getD S (List.length S - 1) bd).2) + (List.length (List.getD S (List.length S - 2) bd).2) + 1) cb49_42), ((([] ++ (List.getD S (List.length S - 1) bd).2) ++ (List.getD S (List.length S - 2) bd).2) ++ [(swp (l.getD i 0))]))]), b56_42, cb56_42) (And.intro ?_ (And.intro ?_ ?_))
                  · first | exact ⟨by show _ ≤ _; omega, hP.leaf hlf _⟩ | exact ⟨by show _ ≤ _; omega, hP.op hop _ (by first | rfl | simp)⟩
                  · show _ < _; omega
                  · exact Wk.intro (.cons rfl (by first | rfl | exact veq_int (by first | omega | (dsimp only; omega))) (.cons rfl (by exact veq_sl (by simp)) (.cons rfl (by first | rfl | exact veq_int (by first | omega | (dsimp only; omega))) .nil))) (.keep rfl rfl (pool_eq rfl) (.drop (.drop (.keep rfl rfl (fun _ h => h) (.keep rfl rfl (fun _ h => h) .nil)))))
              · refine Xt_of_Qt rfl (lt_dec rfl) ((q_load_bs (S := S) (j := (List.length S - 2)) rfl rfl m3 rfl (by first | omega | (dsimp only; omega)) rfl rfl)) ?_
                refine RA_quiet (g := 4) [5] (by kernel_rfl) (by kernel_rfl) (by kernel_rfl) (by kernel_rfl) ?_
                refine WQ_cons rfl rfl rfl ((q_load_bs (S := S) (j := (List.length S - 1)) rfl rfl m3 rfl (by first | omega | (dsimp only; omega)) rfl rfl)) (lt_dec rfl) ?_
                refine WQ_nil ?_
                refine RA_one 6 rfl rfl (by kernel_rfl) (x_append_rd (m := (List.length (List.getD S (List.length S - 1) bd).2)) rfl rfl rfl rfl rfl rfl (fun _ _ => HpRep.head) (Rds.poolI (j := (List.length S - 1)) m2 (by first | omega | assumption)) rfl rfl rfl (by first | omega | (dsimp only; omega)) rfl (by first | omega | (dsimp only; omega)) (by first | omega | (dsimp only; omega)) (lt_dec rfl) fun b40_33 cb40_33 => ?_)
                refine RA_one 12 rfl rfl (by kernel_rfl) (x_append_rd (m := (List.length (List.getD S (List.length S - 2) bd).2)) rfl rfl rfl rfl rfl rfl (fun _ _ => HpRep.head) (Rds.poolI (j := (List.length S - 2)) m2 (by first | omega | assumption)) rfl (by show _ = List.length _; simp) rfl (by first | omega | (dsimp only; omega)) rfl (by first | omega | (dsimp only; omega)) (by first | omega | (dsimp only; omega)) (lt_dec rfl) fun b46_43 cb46_43 => ?_)
                refine RA_one 15 rfl rfl (by kernel_rfl) (x_append rfl rfl rfl rfl rfl rfl (fun _ _ => HpRep.head) (.inl ⟨m1, rfl⟩) rfl (by show _ = List.length _; simp) rfl (by first | omega | (dsimp only; omega)) rfl (by first | omega | (dsimp only; omega)) (by first | omega | (dsimp only; omega)) (lt_dec rfl) fun b49_43 cb49_43 => ?_)
                refine RA_quiet (g := 0) [16] (by kernel_rfl) (by kernel_rfl) (by kernel_rfl) (by kernel_rfl) ?_
                refine WQ_cons rfl rfl rfl ((p_assign rfl).q) (lt_dec rfl) ?_
                refine WQ_nil ?_
                refine RA_done (by kernel_rfl) ?_
                refine W_region ?_
                refine Ops_p (p_move rfl) (lt_dec rfl) ?_
                refine Ops_p (p_move rfl) (lt_dec rfl) ?_
                refine Ops_p (p_sub rfl rfl (by exact ⟨(by first | omega | (dsimp only; omega)), (by first | omega | (dsimp only; omega))⟩)) (lt_dec rfl) ?_
                refine Ops_p (p_take (n := (List.length S - 2)) rfl rfl rfl rfl (by omega) (by omega)) (lt_dec rfl) ?_
                refine Ops_p (p_move rfl) (lt_dec rfl) ?_
                refine Ops_x rfl (x_buildSlice rfl rfl rfl rfl rfl rfl rfl rfl (Nat.le_of_ble_eq_true rfl) (lt_dec rfl) fun b55_43 => ?_)
                refine Ops_x rfl (x_append_t (r := valsB S) (r2 := valsB [((slv b49_43 (0 + (List.length (List.getD S (List.length S - 1) bd).2) + (List.length (List.getD S (List.length S - 2) bd).2) + 1) cb49_43), ((([] ++ (List.getD S (List.length S - 1) bd).2) ++ (List.getD S (List.length S - 2) bd).2) ++ [(swp (l.getD i 0))]))]) (q := valsB ((List.take (List.length S - 2) S) ++ [((slv b49_43 (0 + (List.length (List.getD S (List.length S - 1) bd).2) + (List.length (List.getD S (List.length S - 2) bd).2) + 1) cb49_43), ((([] ++ (List.getD S (List.length S - 1) bd).2) ++ (List.getD S (List.length S - 2) bd).2) ++ [(swp (l.getD i 0))]))])) (n := (List.length S - 2)) (m := 1) rfl rfl rfl rfl rfl rfl (fun _ _ => ((((HpRep.head).tail).tail).tail).tail) (Rds.row m0 rfl) (by rw [valsB_len]; omega) (by rw [valsB_take]; exact valsB_app _ _) rfl (by decide) rfl (by first | omega | (dsimp only; omega)) (by first | omega | (dsimp only; omega)) (lt_dec rfl) fun b56_43 cb56_43 => ?_)
                refine Ops_p (p_assign rfl) (lt_dec rfl) ?_
                refine Ops_nil ?_
                refine W_pool (S := S) (S' := ((List.take (List.length S - 2) S) ++ [((slv b49_43 (0 + (List.length (List.getD S (List.length S - 1) bd).2) + (List.length (List.getD S (List.length S - 2) bd).2) + 1) cb49_43), ((([] ++ (List.getD S (List.length S - 1) bd).2) ++ (List.getD S (List.length S - 2) bd).2) ++ [(swp (l.getD i 0))]))])) (slv b49_43 (0 + (List.length (List.getD S (List.length S - 1) bd).2) + (List.length (List.getD S (List.length S - 2) bd).2) + 1) cb49_43) (((([] ++ (List.getD S (List.length S - 1) bd).2) ++ (List.getD S (List.length S - 2) bd).2) ++ [(swp (l.getD i 0))])) (HpDels.cons (HpDel.head).tail (HpDels.cons ((HpDel.head).tail).tail HpDels.nil)) rfl rfl (own_of_row (by show _ = List.length _; first | (simp; done) | (simp; omega)) rfl) ((List.take_sublist _ _).append (List.Sublist.refl _)) ?_
                refine W_region ?_
                refine Ops_p (p_move rfl) (lt_dec rfl) ?_
                refine Ops_p (p_add rfl rfl (by exact ⟨(by first | omega | (dsimp only; omega)), (by first | omega | (dsimp only; omega))⟩)) (lt_dec rfl) ?_
                refine Ops_p (p_assign rfl) (lt_dec rfl) ?_
                refine Ops_nil ?_
                refine Exists.intro (i + 1, ((List.take (List.length S - 2) S) ++ [((slv b49_43 (0 + (List.length (List.getD S (List.length S - 1) bd).2) + (List.length (List.getD S (List.length S - 2) bd).2) + 1) cb49_43), ((([] ++ (List.getD S (List.length S - 1) bd).2) ++ (List.getD S (List.length S - 2) bd).2) ++ [(swp (l.getD i 0))]))]), b56_43, cb56_43) (And.intro ?_ (And.intro ?_ ?_))
                · first | exact ⟨by show _ ≤ _; omega, hP.leaf hlf _⟩ | exact ⟨by show _ ≤ _; omega, hP.op hop _ (by first | rfl | simp)⟩
                · show _ < _; omega
                · exact Wk.intro (.cons rfl (by first | rfl | exact veq_int (by first | omega | (dsimp only; omega))) (.cons rfl (by exact veq_sl (by simp)) (.cons rfl (by first | rfl | exact veq_int (by first | omega | (dsimp only; omega))) .nil))) (.keep rfl rfl (pool_eq rfl) (.drop (.drop (.keep rfl rfl (fun _ h => h) (.keep rfl rfl (fun _ h => h) .nil)))))
            · refine Xt_of_Qt rfl (lt_dec rfl) ((q_load_bs (S := S) (j := (List.length S - 1)) rfl rfl m2 rfl (by first | omega | (dsimp only; omega)) rfl rfl)) ?_
              refine RA_two 0 11 rfl rfl rfl rfl (by kernel_rfl) ?_ ?_
              · refine x_buildSlice rfl rfl rfl rfl rfl rfl rfl rfl (Nat.le_of_ble_eq_true rfl) (lt_dec rfl) fun b34_13 => ?_
                refine RA_two 6 11 rfl rfl rfl rfl (by kernel_rfl) ?_ ?_
                · refine x_append_rd (m := (List.length (List.getD S (List.length S - 1) bd).2)) rfl rfl rfl rfl rfl rfl (fun _ _ => HpRep.head) (Rds.poolI (j := (List.length S - 1)) m2 (by first | omega | assumption)) rfl rfl rfl (by first | omega | (dsimp only; omega)) rfl (by first | omega | (dsimp only; omega)) (by first | omega | (dsimp only; omega)) (lt_dec rfl) fun b40_34 cb40_34 => ?_
                  refine RA_quiet (g := 3) [11] (by kernel_rfl) (by kernel_rfl) (by kernel_rfl) (by kernel_rfl) ?_
                  refine WQ_cons rfl rfl rfl ((q_load_bs (S := S) (j := (List.length S - 2)) rfl rfl m3 rfl (by first | omega | (dsimp only; omega)) rfl rfl)) (lt_dec rfl) ?_
                  refine WQ_nil ?_
                  refine RA_one 12 rfl rfl (by kernel_rfl) (x_append_rd (m := (List.length (List.getD S (List.length S - 2) bd).2)) rfl rfl rfl rfl rfl rfl (fun _ _ => HpRep.head) (Rds.poolI (j := (List.length S - 2)) m2 (by first | omega | assumption)) rfl (by show _ = List.length _; simp) rfl (by first | omega | (dsimp only; omega)) rfl (by first | omega | (dsimp only; omega)) (by first | omega | (dsimp only; omega)) (lt_dec rfl) fun b46_44 cb46_44 => ?_)
                  refine RA_one 15 rfl rfl (by kernel_rfl) (x_append rfl rfl rfl rfl rfl rfl (fun _ _ => HpRep.head) (.inl ⟨m1, rfl⟩) rfl (by show _ = List.length _; simp) rfl (by first | omega | (dsimp only; omega)) rfl (by first | omega | (dsimp only; omega)) (by first | omega | (dsimp only; omega)) (lt_dec rfl) fun b49_44 cb49_44 => ?_)
                  refine RA_quiet (g := 0) [16] (by kernel_rfl) (by kernel_rfl) (by kernel_rfl) (by kernel_rfl) ?_
                  refine WQ_cons rfl rfl rfl ((p_assign rfl).q) (lt_dec rfl) ?_
                  refine WQ_nil ?_
                  refine RA_done (by kernel_rfl) ?_
                  refine W_region ?_
                  refine Ops_p (p_move rfl) (lt_dec rfl) ?_
                  refine Ops_p (p_move rfl) (lt_dec rfl) ?_
                  refine Ops_p (p_sub rfl rfl (by exact ⟨(by first | omega | (dsimp only; omega)), (by first | omega | (dsimp only; omega))⟩)) (lt_dec rfl) ?_
                  refine Ops_p (p_take (n := (List.length S - 2)) rfl rfl rfl rfl (by omega) (by omega)) (lt_dec rfl) ?_
                  refine Ops_p (p_move rfl) (lt_dec rfl) ?_
                  refine Ops_x rfl (x_buildSlice rfl rfl rfl rfl rfl rfl rfl rfl (Nat.le_of_ble_eq_true rfl) (lt_dec rfl) fun b55_44 => ?_)
                  refine Ops_x rfl (x_append_t (r := valsB S) (r2 := valsB [((slv b49_44 (0 + (List.length (List.getD S (List.length S - 1) bd).2) + (List.length (List.getD S (List.length S - 2) bd).2) + 1) cb49_44), ((([] ++ (List.getD S (List.length S - 1) bd).2) ++ (List.getD S (List.length S - 2) bd).2) ++ [(swp (l.getD i 0))]))]) (q := valsB ((List.take (List.length S - 2) S) ++ [((slv b49_44 (0 + (List.length (List.getD S (List.length S - 1) bd).2) + (List.length (List.getD S (List.length S - 2) bd).2) + 1) cb49_44), ((([] ++ (List.getD S (List.length S - 1) bd).2) ++ (List.getD S (List.length S - 2) bd).2) ++ [(swp (l.getD i 0))]))])) (n := (List.length S - 2)) (m := 1) rfl rfl rfl rfl rfl rfl (fun _ _ => ((((HpRep.head).tail).tail).tail).tail) (Rds.row m0 rfl) (by rw [valsB_len]; omega) (by rw [valsB_take]; exact valsB_app _ _) rfl (by decide) rfl (by first | omega | (dsimp only; omega)) (by first | omega | (dsimp only; omega)) (lt_dec rfl) fun b56_44 cb56_44 => ?_)
                  refine Ops_p (p_assign rfl) (lt_dec rfl) ?_
                  refine Ops_nil ?_
                  refine W_pool (S := S) (S' := ((List.take (List.length S - 2) S) ++ [((slv b49_44 (0 + (List.length (List.getD S (List.length S - 1) bd).2) + (List.length (List.getD S (List.length S - 2) bd).2) + 1) cb49_44), ((([] ++ (List.getD S (List.length S - 1) bd).2) ++ (List.getD S (List.length S - 2) bd).2) ++ [(swp (l.getD i 0))]))])) (slv b49_44 (0 + (List.length (List.getD S (List.length S - 1) bd).2) + (List.length (List.getD S (List.length S - 2) bd).2) + 1) cb49_44) (((([] ++ (List.getD S (List.length S - 1) bd).2) ++ (List.getD S (List.length S - 2) bd).2) ++ [(swp (l.getD i 0))])) (HpDels.cons (HpDel.head).tail (HpDels.cons ((HpDel.head).tail).tail HpDels.nil)) rfl rfl (own_of_row (by show _ = List.length _; first | (simp; done) | (simp; omega)) rfl) ((List.take_sublist _ _).append (List.Sublist.refl _)) ?_
                  refine W_region ?_
                  refine Ops_p (p_move rfl) (lt_dec rfl) ?_
                  refine Ops_p (p_add rfl rfl (by exact ⟨(by first | omega | (dsimp only; omega)), (by first | omega | (dsimp only; omega))⟩)) (lt_dec rfl) ?_
                  refine Ops_p (p_assign rfl) (lt_dec rfl) ?_
                  refine Ops_nil ?_
                  refine Exists.intro (i + 1, ((List.take (List.length S - 2) S) ++ [((slv b49_44 (0 + (List.length (List.getD S (List.length S - 1) bd).2) + (List.length (List.getD S (List.length S - 2) bd).2) + 1) cb49_44), ((([] ++ (List.getD S (List.length S - 1) bd).2) ++ (List.getD S (List.length S - 2) bd).2) ++ [(swp (l.getD i 0))]))]), b56_44, cb56_44) (And.intro ?_ (And.intro ?_ ?_))
                  · first | exact ⟨by show _ ≤ _; omega, hP.leaf hlf _⟩ | exact ⟨by show _ ≤ _; omega, hP.op hop _ (by first | rfl | simp)⟩
                  · show _ < _; omega
                  · exact Wk.intro (.cons rfl (by first | rfl | exact veq_int (by first | omega | (dsimp only; omega))) (.cons rfl (by exact veq_sl (by simp)) (.cons rfl (by first | rfl | exact veq_int (by first | omega | (dsimp only; omega))) .nil))) (.keep rfl rfl (pool_eq rfl) (.drop (.drop (.keep rfl rfl (fun _ h => h) (.keep rfl rfl (fun _ h => h) .nil)))))
                · refine Xt_of_Qt rfl (lt_dec rfl) ((q_load_bs (S := S) (j := (List.length S - 2)) rfl rfl m3 rfl (by first | omega | (dsimp only; omega)) rfl rfl)) ?_
                  refine RA_one 6 rfl rfl (by kernel_rfl) (x_append_rd (m := (List.length (List.getD S (List.length S - 1) bd).2)) rfl rfl rfl rfl rfl rfl (fun _ _ => HpRep.head) (Rds.poolI (j := (List.length S - 1)) m2 (by first | omega | assumption)) rfl rfl rfl (by first | omega | (dsimp only; omega)) rfl (by first | omega | (dsimp only; omega)) (by first | omega | (dsimp only; omega)) (lt_dec rfl) fun b40_35 cb40_35 => ?_)
                  refine RA_one 12 rfl rfl (by kernel_rfl) (x_append_rd (m := (List.length (List.getD S (List.length S - 2) bd).2)) rfl rfl rfl rfl rfl rfl (fun _ _ => HpRep.head) (Rds.poolI (j := (List.length S - 2)) m2 (by first | omega | assumption)) rfl (by show _ = List.length _; simp) rfl (by first | omega | (dsimp only; omega)) rfl (by first | omega | (dsimp only; omega)) (by first | omega | (dsimp only; omega)) (lt_dec rfl) fun b46_45 cb46_45 => ?_)
                  refine RA_one 15 rfl rfl (by kernel_rfl) (x_append rfl rfl rfl rfl rfl rfl (fun _ _ => HpRep.head) (.inl ⟨m1, rfl⟩) rfl (by show _ = List.length _; simp) rfl (by first | omega | (dsimp only; omega)) rfl (by first | omega | (dsimp only; omega)) (by first | omega | (dsimp only; omega)) (lt_dec rfl) fun b49_45 cb49_45 => ?_)
                  refine RA_quiet (g := 0) [16] (by kernel_rfl) (by kernel_rfl) (by kernel_rfl) (by kernel_rfl) ?_
                  refine WQ_cons rfl rfl rfl ((p_assign rfl).q) (lt_dec rfl) ?_
                  refine WQ_nil ?_
                  refine RA_done (by kernel_rfl) ?_
                  refine W_region ?_
                  refine Ops_p (p_move rfl) (lt_dec rfl) ?_
                  refine Ops_p (p_move rfl) (lt_dec rfl) ?_
                  refine Ops_p (p_sub rfl rfl (by exact ⟨(by first | omega | (dsimp only; omega)), (by first | omega | (dsimp only; omega))⟩)) (lt_dec rfl) ?_
                  refine Ops_p (p_take (n := (List.length S - 2)) rfl rfl rfl rfl (by omega) (by omega)) (lt_dec rfl) ?_
                  refine Ops_p (p_move rfl) (lt_dec rfl) ?_
                  refine Ops_x rfl (x_buildSlice rfl rfl rfl rfl rfl rfl rfl rfl (Nat.le_of_ble_eq_true rfl) (lt_dec rfl) fun b55_45 => ?_)
                  refine Ops_x rfl (x_append_t (r := valsB S) (r2 := valsB [((slv b49_45 (0 + (List.length (List.getD S (List.length S - 1) bd).2) + (List.length (List.getD S (List.length S - 2) bd).2) + 1) cb49_45), ((([] ++ (List.getD S (List.length S - 1) bd).2) ++ (List.getD S (List.length S - 2) bd).2) ++ [(swp (l.getD i 0))]))]) (q := valsB ((List.take (List.length S - 2) S) ++ [((slv b49_45 (0 + (List.length (List.getD S (List.length S - 1) bd).2) + (List.length (List.getD S (List.length S - 2) bd).2) + 1) cb49_45), ((([] ++ (List.getD S (List.length S - 1) bd).2) ++ (List.getD S (List.length S - 2) bd).2) ++ [(swp (l.getD i 0))]))])) (n := (List.length S - 2)) (m := 1) rfl rfl rfl rfl rfl rfl (fun _ _ => ((((HpRep.head).tail).tail).tail).tail) (Rds.row m0 rfl) (by rw [valsB_len]; omega) (by rw [valsB_take]; exact valsB_app _ _) rfl (by decide) rfl (by first | omega | (dsimp only; omega)) (by first | omega | (dsimp only; omega)) (lt_dec rfl) fun b56_45 cb56_45 => ?_)
                  refine Ops_p (p_assign rfl) (lt_dec rfl) ?_
                  refine Ops_nil ?_
                  refine W_pool (S := S) (S' := ((List.take (List.length S - 2) S) ++ [((slv b49_45 (0 + (List.length (List.getD S (List.length S - 1) bd).2) + (List.length (List.getD S (List.length S - 2) bd).2) + 1) cb49_45), ((([] ++ (List.getD S (List.length S - 1) bd).2) ++ (List.getD S (List.length S - 2) bd).2) ++ [(swp (l.getD i 0))]))])) (slv b49_45 (0 + (List.length (List.getD S (List.length S - 1) bd).2) + (List.length (List.getD S (List.length S - 2) bd).2) + 1) cb49_45) (((([] ++ (List.getD S (List.length S - 1) bd).2) ++ (List.getD S (List.length S - 2) bd).2) ++ [(swp (l.getD i 0))])) (HpDels.cons (HpDel.head).tail (HpDels.cons ((HpDel.head).tail).tail HpDels.nil)) rfl rfl (own_of_row (by show _ = List.length _; first | (simp; done) | (simp; omega)) rfl) ((List.take_sublist _ _).append (List.Sublist.refl _)) ?_
                  refine W_region ?_
                  refine Ops_p (p_move rfl) (lt_dec rfl) ?_
                  refine Ops_p (p_add rfl rfl (by exact ⟨(by first | omega | (dsimp only; omega)), (by first | omega | (dsimp only; omega))⟩)) (lt_dec rfl) ?_
                  refine Ops_p (p_assign rfl) (lt_dec rfl) ?_
                  refine Ops_nil ?_
                  refine Exists.intro (i + 1, ((List.take (List.length S - 2) S) ++ [((slv b49_45 (0 + (List.length (List.getD S (List.length S - 1) bd).2) + (List.length (List.getD S (List.length S - 2) bd).2) + 1) cb49_45), ((([] ++ (List.getD S (List.length S - 1) bd).2) ++ (List.getD S (List.length S - 2) bd).2) ++ [(swp (l.getD i 0))]))]), b56_45, cb56_45) (And.intro ?_ (And.intro ?_ ?_))
                  · first | exact ⟨by show _ ≤ _; omega, hP.leaf hlf _⟩ | exact ⟨by show _ ≤ _; omega, hP.op hop _ (by first | rfl | simp)⟩
                  · show _ < _; omega
                  · exact Wk.intro (.cons rfl (by first | rfl | exact veq_int (by first | omega | (dsimp only; omega))) (.cons rfl (by exact veq_sl (by simp)) (.cons rfl (by first | rfl | exact veq_int (by first | omega | (dsimp only; omega))) .nil))) (.keep rfl rfl (pool_eq rfl) (.drop (.drop (.keep rfl rfl (fun _ h => h) (.keep rfl rfl (fun _ h => h) .nil)))))
              · refine Xt_of_Qt rfl (lt_dec rfl) ((q_load_bs (S := S) (j := (List.length S - 2)) rfl rfl m2 rfl (by first | omega | (dsimp only; omega)) rfl rfl)) ?_
                refine RA_one 0 rfl rfl (by kernel_rfl) (x_buildSlice rfl rfl rfl rfl rfl rfl rfl rfl (Nat.le_of_ble_eq_true rfl) (lt_dec rfl) fun b34_14 => ?_)
                refine RA_one 6 rfl rfl (by kernel_rfl) (x_append_rd (m := (List.length (List.getD S (List.length S - 1) bd).2)) rfl rfl rfl rfl rfl rfl (fun _ _ => HpRep.head) (Rds.poolI (j := (List.length S - 1)) m2 (by first | omega | assumption)) rfl rfl rfl (by first | omega | (dsimp only; omega)) rfl (by first | omega | (dsimp only; omega)) (by first | omega | (dsimp only; omega)) (lt_dec rfl) fun b40_36 cb40_36 => ?_)
                refine RA_one 12 rfl rfl (by kernel_rfl) (x_append_rd (m := (List.length (List.getD S (List.length S - 2) bd).2)) rfl rfl rfl rfl rfl rfl (fun _ _ => HpRep.head) (Rds.poolI (j := (List.length S - 2)) m2 (by first | omega | assumption)) rfl (by show _ = List.length _; simp) rfl (by first | omega | (dsimp only; omega)) rfl (by first | omega | (dsimp only; omega)) (by first | omega | (dsimp only; omega)) (lt_dec rfl) fun b46_46 cb46_46 => ?_)
                refine RA_one 15 rfl rfl (by kernel_rfl) (x_append rfl rfl rfl rfl rfl rfl (fun _ _ => HpRep.head) (.inl ⟨m1, rfl⟩) rfl (by show _ = List.length _; simp) rfl (by first | omega | (dsimp only; omega)) rfl (by first | omega | (dsimp only; omega)) (by first | omega | (dsimp only; omega)) (lt_dec rfl) fun b49_46 cb49_46 => ?_)
                refine RA_quiet (g := 0) [16] (by kernel_rfl) (by kernel_rfl) (by kernel_rfl) (by kernel_rfl) ?_
                refine WQ_cons rfl rfl rfl ((p_assign rfl).q) (lt_dec rfl) ?_
                refine WQ_nil ?_
                refine RA_done (by kernel_rfl) ?_
                refine W_region ?_
                refine Ops_p (p_move rfl) (lt_dec rfl) ?_
                refine Ops_p (p_move rfl) (lt_dec rfl) ?_
                refine Ops_p (p_sub rfl rfl (by exact ⟨(by first | omega | (dsimp only; omega)), (by first | omega | (dsimp only; omega))⟩)) (lt_dec rfl) ?_
                refine Ops_p (p_take (n := (List.length S - 2)) rfl rfl rfl rfl (by omega) (by omega)) (lt_dec rfl) ?_
                refine Ops_p (p_move rfl) (lt_dec rfl) ?_
                refine Ops_x rfl (x_buildSlice rfl rfl rfl rfl rfl rfl rfl rfl (Nat.le_of_ble_eq_true rfl) (lt_dec rfl) fun b55_46 => ?_)
                refine Ops_x rfl (x_append_t (r := valsB S) (r2 := valsB [((slv b49_46 (0 + (List.length (List.getD S (List.length S - 1) bd).2) + (List.length (List.getD S (List.length S - 2) bd).2) + 1) cb49_46), ((([] ++ (List.getD S (List.length S - 1) bd).2) ++ (List.getD S (List.length S - 2) bd).2) ++ [(swp (l.getD i 0))]))]) (q := valsB ((List.take (List.length S - 2) S) ++ [((slv b49_46 (0 + (List.length (List.getD S (List.length S - 1) bd).2) + (List.length (List.getD S (List.length S - 2) bd).2) + 1) cb49_46), ((([] ++ (List.getD S (List.length S - 1) bd).2) ++ (List.getD S (List.length S - 2) bd).2) ++ [(swp (l.getD i 0))]))])) (n := (List.length S - 2)) (m := 1) rfl rfl rfl rfl rfl rfl (fun _ _ => ((((HpRep.head).tail).tail).tail).tail) (Rds.row m0 rfl) (by rw [valsB_len]; omega) (by rw [valsB_take]; exact valsB_app _ _) rfl (by decide) rfl (by first | omega | (dsimp only; omega)) (by first | omega | (dsimp only; omega)) (lt_dec rfl) fun b56_46 cb56_46 => ?_)
                refine Ops_p (p_assign rfl) (lt_dec rfl) ?_
                refine Ops_nil ?_
                refine W_pool (S := S) (S' := ((List.take (List.length S - 2) S) ++ [((slv b49_46 (0 + (List.length (List.getD S (List.length S - 1) bd).2) + (List.length (List.getD S (List.length S - 2) bd).2) + 1) cb49_46), ((([] ++ (List.getD S (List.length S - 1) bd).2) ++ (List.getD S (List.length S - 2) bd).2) ++ [(swp (l.getD i 0))]))])) (slv b49_46 (0 + (List.length (List.getD S (List.length S - 1) bd).2) + (List.length (List.getD S (List.length S - 2) bd).2) + 1) cb49_46) (((([] ++ (List.getD S (List.length S - 1) bd).2) ++ (List.getD S (List.length S - 2) bd).2) ++ [(swp (l.getD i 0))])) (HpDels.cons (HpDel.head).tail (HpDels.cons ((HpDel.head).tail).tail HpDels.nil)) rfl rfl (own_of_row (by show _ = List.length _; first | (simp; done) | (simp; omega)) rfl) ((List.take_sublist _ _).append (List.Sublist.refl _)) ?_
                refine W_region ?_
                refine Ops_p (p_move rfl) (lt_dec rfl) ?_
                refine Ops_p (p_add rfl rfl (by exact ⟨(by first | omega | (dsimp only; omega)), (by first | omega | (dsimp only; omega))⟩)) (lt_dec rfl) ?_
                refine Ops_p (p_assign rfl) (lt_dec rfl) ?_
                refine Ops_nil ?_
                refine Exists.intro (i + 1, ((List.take (List.length S - 2) S) ++ [((slv b49_46 (0 + (List.length (List.getD S (List.length S - 1) bd).2) + (List.length (List.getD S (List.length S - 2) bd).2) + 1) cb49_46), ((([] ++ (List.getD S (List.length S - 1) bd).2) ++ (List.getD S (List.length S - 2) bd).2) ++ [(swp (l.getD i 0))]))]), b56_46, cb56_46) (And.intro ?_ (And.intro ?_ ?_))
                · first | exact ⟨by show _ ≤ _; omega, hP.leaf hlf _⟩ | exact ⟨by show _ ≤ _; omega, hP.op hop _ (by first | rfl | simp)⟩
                · show _ < _; omega
                · exact Wk.intro (.cons rfl (by first | rfl | exact veq_int (by first | omega | (dsimp only; omega))) (.cons rfl (by exact veq_sl (by simp)) (.cons rfl (by first | rfl | exact veq_int (by first | omega | (dsimp only; omega))) .nil))) (.keep rfl rfl (pool_eq rfl) (.drop (.drop (.keep rfl rfl (fun _ h => h) (.keep rfl rfl (fun _ h => h) .nil)))))
            · refine Xt_of_Qt rfl (lt_dec rfl) ((q_load_bs (S := S) (j := (List.length S - 2)) rfl rfl m2 rfl (by first | omega | (dsimp only; omega)) rfl rfl)) ?_
              refine RA_two 0 5 rfl rfl rfl rfl (by kernel_rfl) ?_ ?_
              · refine x_buildSlice rfl rfl rfl rfl rfl rfl rfl rfl (Nat.le_of_ble_eq_true rfl) (lt_dec rfl) fun b34_15 => ?_
                refine RA_quiet (g := 4) [5] (by kernel_rfl) (by kernel_rfl) (by kernel_rfl) (by kernel_rfl) ?_
                refine WQ_cons rfl rfl rfl ((q_load_bs (S := S) (j := (List.length S - 1)) rfl rfl m3 rfl (by first | omega | (dsimp only; omega)) rfl rfl)) (lt_dec rfl) ?_
                refine WQ_nil ?_
                refine RA_one 6 rfl rfl (by kernel_rfl) (x_append_rd (m := (List.length (List.getD S (List.length S - 1) bd).2)) rfl rfl rfl rfl rfl rfl (fun _ _ => HpRep.head) (Rds.poolI (j := (List.length S - 1)) m2 (by first | omega | assumption)) rfl rfl rfl (by first | omega | (dsimp only; omega)) rfl (by first | omega | (dsimp only; omega)) (by first | omega | (dsimp only; omega)) (lt_dec rfl) fun b40_37 cb40_37 => ?_)
                refine RA_one 12 rfl rfl (by kernel_rfl) (x_append_rd (m := (List.length (List.getD S (List.length S - 2) bd).2)) rfl rfl rfl rfl rfl rfl (fun _ _ => HpRep.head) (Rds.poolI (j := (List.length S - 2)) m2 (by first | omega | assumption)) rfl (by show _ = List.length _; simp) rfl (by first | omega | (dsimp only; omega)) rfl (by first | omega | (dsimp only; omega)) (by first | omega | (dsimp only; omega)) (lt_dec rfl) fun b46_47 cb46_47 => ?_)
                refine RA_one 15 rfl rfl (by kernel_rfl) (x_append rfl rfl rfl rfl rfl rfl (fun _ _ => HpRep.head) (.inl ⟨m1, rfl⟩) rfl (by show _ = List.length _; simp) rfl (by first | omega | (dsimp only; omega)) rfl (by first | omega | (dsimp only; omega)) (by first | omega | (dsimp only; omega)) (lt_dec rfl) fun b49_47 cb49_47 => ?_)
                refine RA_quiet (g := 0) [16] (by kernel_rfl) (by kernel_rfl) (by kernel_rfl) (by kernel_rfl) ?_
                refine WQ_cons rfl rfl rfl ((p_assign rfl).q) (lt_dec rfl) ?_
                refine WQ_nil ?_
                refine RA_done (by kernel_rfl) ?_
                refine W_region ?_
                refine Ops_p (p_move rfl) (lt_dec rfl) ?_
                refine Ops_p (p_move rfl) (lt_dec rfl) ?_
                refine Ops_p (p_sub rfl rfl (by exact ⟨(by first | omega | (dsimp only; omega)), (by first | omega | (dsimp only; omega))⟩)) (lt_dec rfl) ?_
                refine Ops_p (p_take (n := (List.length S - 2)) rfl rfl rfl rfl (by omega) (by omega)) (lt_dec rfl) ?_
                refine Ops_p (p_move rfl) (lt_dec rfl) ?_
                refine Ops_x rfl (x_buildSlice rfl rfl rfl rfl rfl rfl rfl rfl (Nat.le_of_ble_eq_true rfl) (lt_dec rfl) fun b55_47 => ?_)
                refine Ops_x rfl (x_append_t (r := valsB S) (r2 := valsB [((slv b49_47 (0 + (List.length (List.getD S (List.length S - 1) bd).2) + (List.length (List.getD S (List.length S - 2) bd).2) + 1) cb49_47), ((([] ++ (List.getD S (List.length S - 1) bd).2) ++ (List.getD S (List.length S - 2) bd).2) ++ [(swp (l.getD i 0))]))]) (q := valsB ((List.take (List.length S - 2) S) ++ [((slv b49_47 (0 + (List.length (List.getD S (List.length S - 1) bd).2) + (List.length (List.getD S (List.length S - 2) bd).2) + 1) cb49_47), ((([] ++ (List.getD S (List.length S - 1) bd).2) ++ (List.getD S (List.length S - 2) bd).2) ++ [(swp (l.getD i 0))]))])) (n := (List.length S - 2)) (m := 1) rfl rfl rfl rfl rfl rfl (fun _ _ => ((((HpRep.head).tail).tail).tail).tail) (Rds.row m0 rfl) (by rw [valsB_len]; omega) (by rw [valsB_take]; exact valsB_app _ _) rfl (by decide) rfl (by first | omega | (dsimp only; omega)) (by first | omega | (dsimp only; omega)) (lt_dec rfl) fun b56_47 cb56_47 => ?_)
                refine Ops_p (p_assign rfl) (lt_dec rfl) ?_
                refine Ops_nil ?_
                refine W_pool (S := S) (S' := ((List.take (List.length S - 2) S) ++ [((slv b49_47 (0 + (List.length (List.getD S (List.length S - 1) bd).2) + (List.length (List.getD S (List.length S - 2) bd).2) + 1) cb49_47), ((([] ++ (List.getD S (List.length S - 1) bd).2) ++ (List.getD S (List.length S - 2) bd).2) ++ [(swp (l.getD i 0))]))])) (slv b49_47 (0 + (List.length (List.getD S (List.length S - 1) bd).2) + (List.length (List.getD S (List.length S - 2) bd).2) + 1) cb49_47) (((([] ++ (List.getD S (List.length S - 1) bd).2) ++ (List.getD S (List.length S - 2) bd).2) ++ [(swp (l.getD i 0))])) (HpDels.cons (HpDel.head).tail (HpDels.cons ((HpDel.head).tail).tail HpDels.nil)) rfl rfl (own_of_row (by show _ = List.length _; first | (simp; done) | (simp; omega)) rfl) ((List.take_sublist _ _).append (List.Sublist.refl _)) ?_
                refine W_region ?_
                refine Ops_p (p_move rfl) (lt_dec rfl) ?_
                refine Ops_p (p_add rfl rfl (by exact ⟨(by first | omega | (dsimp only; omega)), (by first | omega | (dsimp only; omega))⟩)) (lt_dec rfl) ?_
                refine Ops_p (p_assign rfl) (lt_dec rfl) ?_
                refine Ops_nil ?_
                refine Exists.intro (i + 1, ((List.take (List.length S - 2) S) ++ [((slv b49_47 (0 + (List.length (List.getD S (List.length S - 1) bd).2) + (List.length (List.getD S (List.length S - 2) bd).2) + 1) cb49_47), ((([] ++ (List.getD S (List.length S - 1) bd).2) ++ (List.getD S (List.length S - 2) bd).2) ++ [(swp (l.getD i 0))]))]), b56_47, cb56_47) (And.intro ?_ (And.intro ?_ ?_))
                · first | exact ⟨by show _ ≤ _; omega, hP.leaf hlf _⟩ | exact ⟨by show _ ≤ _; omega, hP.op hop _ (by first | rfl | simp)⟩
                · show _ < _; omega
                · exact Wk.intro (.cons rfl (by first | rfl | exact veq_int (by first | omega | (dsimp only; omega))) (.cons rfl (by exact veq_sl (by simp)) (.cons rfl (by first | rfl | exact veq_int (by first | omega | (dsimp only; omega))) .nil))) (.keep rfl rfl (pool_eq rfl) (.drop (.drop (.keep rfl rfl (fun _ h => h) (.keep rfl rfl (fun _ h => h) .nil)))))
              · refine Xt_of_Qt rfl (lt_dec rfl) ((q_load_bs (S := S) (j := (List.length S - 1)) rfl rfl m2 rfl (by first | omega | (dsimp only; omega)) rfl rfl)) ?_
                refine RA_one 0 rfl rfl (by kernel_rfl) (x_buildSlice rfl rfl rfl rfl rfl rfl rfl rfl (Nat.le_of_ble_eq_true rfl) (lt_dec rfl) fun b34_16 => ?_)
                refine RA_one 6 rfl rfl (by kernel_rfl) (x_append_rd (m := (List.length (List.getD S (List.length S - 1) bd).2)) rfl rfl rfl rfl rfl rfl (fun _ _ => HpRep.head) (Rds.poolI (j := (List.length S - 1)) m2 (by first | omega | assumption)) rfl rfl rfl (by first | omega | (dsimp only; omega)) rfl (by first | omega | (dsimp only; omega)) (by first | omega | (dsimp only; omega)) (lt_dec rfl) fun b40_38 cb40_38 => ?_)
                refine RA_one 12 rfl rfl (by kernel_rfl) (x_append_rd (m := (List.length (List.getD S (List.length S - 2) bd).2)) rfl rfl rfl rfl rfl rfl (fun _ _ => HpRep.head) (Rds.poolI (j := (List.length S - 2)) m2 (by first | omega | assumption)) rfl (by show _ = List.length _; simp) rfl (by first | omega | (dsimp only; omega)) rfl (by first | omega | (dsimp only; omega)) (by first | omega | (dsimp only; omega)) (lt_dec rfl) fun b46_48 cb46_48 => ?_)
                refine RA_one 15 rfl rfl (by kernel_rfl) (x_append rfl rfl rfl rfl rfl rfl (fun _ _ => HpRep.head) (.inl ⟨m1, rfl⟩) rfl (by show _ = List.length _; simp) rfl (by first | omega | (dsimp only; omega)) rfl (by first | omega | (dsimp only; omega)) (by first | omega | (dsimp only; omega)) (lt_dec rfl) fun b49_48 cb49_48 => ?_)
                refine RA_quiet (g := 0) [16] (by kernel_rfl) (by kernel_rfl) (by kernel_rfl) (by kernel_rfl) ?_
                refine WQ_cons rfl rfl rfl ((p_assign rfl).q) (lt_dec rfl) ?_
                refine WQ_nil ?_
                refine RA_done (by kernel_rfl) ?_
                refine W_region ?_
                refine Ops_p (p_move rfl) (lt_dec rfl) ?_
                refine Ops_p (p_move rfl) (lt_dec rfl) ?_
                refine Ops_p (p_sub rfl rfl (by exact ⟨(by first | omega | (dsimp only; omega)), (by first | omega | (dsimp only; omega))⟩)) (lt_dec rfl) ?_
                refine Ops_p (p_take (n := (List.length S - 2)) rfl rfl rfl rfl (by omega) (by omega)) (lt_dec rfl) ?_
                refine Ops_p (p_move rfl) (lt_dec rfl) ?_
                refine Ops_x rfl (x_buildSlice rfl rfl rfl rfl rfl rfl rfl rfl (Nat.le_of_ble_eq_true rfl) (lt_dec rfl) fun b55_48 => ?_)
                refine Ops_x rfl (x_append_t (r := valsB S) (r2 := valsB [((slv b49_48 (0 + (List.length (List.getD S (List.length S - 1) bd).2) + (List.length (List.getD S (List.length S - 2) bd).2) + 1) cb49_48), ((([] ++ (List.getD S (List.length S - 1) bd).2) ++ (List.getD S (List.length S - 2) bd).2) ++ [(swp (l.getD i 0))]))]) (q := valsB ((List.take (List.length S - 2) S) ++ [((slv b49_48 (0 + (List.length (List.getD S (List.length S - 1) bd).2) + (List.length (List.getD S (List.length S - 2) bd).2) + 1) cb49_48), ((([] ++ (List.getD S (List.length S - 1) bd).2) ++ (List.getD S (List.length S - 2) bd).2) ++ [(swp (l.getD i 0))]))])) (n := (List.length S - 2)) (m := 1) rfl rfl rfl rfl rfl rfl (fun _ _ => ((((HpRep.head).tail).tail).tail).tail) (Rds.row m0 rfl) (by rw [valsB_len]; omega) (by rw [valsB_take]; exact valsB_app _ _) rfl (by decide) rfl (by first | omega | (dsimp only; omega)) (by first | omega | (dsimp only; omega)) (lt_dec rfl) fun b56_48 cb56_48 => ?_)
                refine Ops_p (p_assign rfl) (lt_dec rfl) ?_
                refine Ops_nil ?_
                refine W_pool (S := S) (S' := ((List.take (List.length S - 2) S) ++ [((slv b49_48 (0 + (List.length (List.getD S (List.length S - 1) bd).2) + (List.length (List.getD S (List.length S - 2) bd).2) + 1) cb49_48), ((([] ++ (List.getD S (List.length S - 1) bd).2) ++ (List.getD S (List.length S - 2) bd).2) ++ [(swp (l.getD i 0))]))])) (slv b49_48 (0 + (List.length (List.getD S (List.length S - 1) bd).2) + (List.length (List.getD S (List.length S - 2) bd).2) + 1) cb49_48) (((([] ++ (List.getD S (List.length S - 1) bd).2) ++ (List.getD S (List.length S - 2) bd).2) ++ [(swp (l.getD i 0))])) (HpDels.cons (HpDel.head).tail (HpDels.cons ((HpDel.head).tail).tail HpDels.nil)) rfl rfl (own_of_row (by show _ = List.length _; first | (simp; done) | (simp; omega)) rfl) ((List.take_sublist _ _).append (List.Sublist.refl _)) ?_
                refine W_region ?_
                refine Ops_p (p_move rfl) (lt_dec rfl) ?_
                refine Ops_p (p_add rfl rfl (by exact ⟨(by first | omega | (dsimp only; omega)), (by first | omega | (dsimp only; omega))⟩)) (lt_dec rfl) ?_
                refine Ops_p (p_assign rfl) (lt_dec rfl) ?_
                refine Ops_nil ?_
                refine Exists.intro (i + 1, ((List.take (List.length S - 2) S) ++ [((slv b49_48 (0 + (List.length (List.getD S (List.length S - 1) bd).2) + (List.length (List.getD S (List.length S - 2) bd).2) + 1) cb49_48), ((([] ++ (List.getD S (List.length S - 1) bd).2) ++ (List.getD S (List.length S - 2) bd).2) ++ [(swp (l.getD i 0))]))]), b56_48, cb56_48) (And.intro ?_ (And.intro ?_ ?_))
                · first | exact ⟨by show _ ≤ _; omega, hP.leaf hlf _⟩ | exact ⟨by show _ ≤ _; omega, hP.op hop _ (by first | rfl | simp)⟩
                · show _ < _; omega
                · exact Wk.intro (.cons rfl (by first | rfl | exact veq_int (by first | omega | (dsimp only; omega))) (.cons rfl (by exact veq_sl (by simp)) (.cons rfl (by first | rfl | exact veq_int (by first | omega | (dsimp only; omega))) .nil))) (.keep rfl rfl (pool_eq rfl) (.drop (.drop (.keep rfl rfl (fun _ h => h) (.keep rfl rfl (fun _ h => h) .nil)))))
    · try simp only [bs] at h1
      obtain rfl : i = l.length := (by omega)
      have hE : S.length = 1 := hP.len hT (Nat.le_refl _) (term_end hT)
      refine W_exit ?_
      refine W_seq ?_
      refine W_pick (S := S) (j := 0) (by omega) (HpDels.cons HpDel.head HpDels.nil) ?_
      refine W_region ?_
      refine Ops_p (p_move rfl) (lt_dec rfl) ?_
      refine Ops_p (p_ixl1 0 rfl rfl rfl rfl rfl rfl (by first | (first | omega | (dsimp only; omega)) | exact Fin.isLt _)) (lt_dec rfl) ?_
      refine Ops_q (q_load_bs (S := S) (j := 0) rfl rfl m1 rfl (by first | omega | (dsimp only; omega)) rfl rfl) (lt_dec rfl) ?_
      refine Ops_p (p_assign rfl) (lt_dec rfl) ?_
      refine Ops_nil ?_
      refine W_ret ?_
      refine Exists.intro _ (And.intro (.cons (.tmp rfl) .nil) (Exists.intro (List.getD S 0 bd).1 (And.intro ?_ (And.intro ?_ (And.intro (.cons HpDel.head rfl (own_eq (by rw [hP.end])) .nil) rfl)))))
      · trivial
      · rfl
end Go.Proofs.Ytdcpggdbjllmpaa
