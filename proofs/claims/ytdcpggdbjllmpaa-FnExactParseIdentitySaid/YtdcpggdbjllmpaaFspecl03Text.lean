/- What the Go function spec.l03Text does, shown of its loaded text; its conditions stand in the statement. -/
import Derived.Test.YtdcpggdbjllmpaaTy
import Derived.Test.YtdcpggdbjllmpaaFspecl03Op
import Derived.Test.YtdcpggdbjllmpaaFspecl03Part
import Derived.Test.YtdcpggdbjllmpaaGx12
import Derived.Test.YtdcpggdbjllmpaaGx14
import Derived.Test.YtdcpggdbjllmpaaGx24
import Derived.Test.YtdcpggdbjllmpaaGx27
import Derived.Test.YtdcpggdbjllmpaaM33
namespace Go.Proofs.Ytdcpggdbjllmpaa
open Go Gx
set_option linter.unusedVariables false
theorem en_spec_l03Text : Enters Try.prog 37 := enters_of Try.func37 (by kernel_rfl) (by kernel_rfl)
set_option maxRecDepth 100000 in
set_option maxHeartbeats 1000000 in
theorem w_spec_l03Text {a : Value} {ha : a.oneCell' = true} {l : List (Fin 256)} (hT : isTerm l = true) : CR Try.prog 37 (vals [.raw a ha]) [rd a (.u8s l)] (.raw (.string (strB (txT l))) rfl) := by
  refine CR_intro (rs := [.tmp 2]) tt tok Try.func37 rfl rfl rfl (by first | rfl | assumption) fun w => ?_
  have hl40 := term_len hT
  refine W_seq ?_
  refine W_region ?_
  refine Ops_p (p_assign rfl) (lt_dec rfl) ?_
  refine Ops_nil ?_
  refine W_seq ?_
  refine W_region ?_
  refine Ops_x rfl (x_buildSlice rfl rfl rfl rfl rfl rfl rfl rfl (Nat.le_of_ble_eq_true rfl) (lt_dec rfl) fun b8_1 => ?_)
  refine Ops_p (p_assign rfl) (lt_dec rfl) ?_
  refine Ops_nil ?_
  refine W_seq ?_
  refine W_seq ?_
  refine W_region ?_
  refine Ops_p (p_assign rfl) (lt_dec rfl) ?_
  refine Ops_nil ?_
  refine W_block ?_
  refine W_loop (α := Nat × Nat × Nat) (fun zz0 => ⟨[(0, .raw a ha), (2, .raw (.string (strB [])) rfl), (3, .sl (zz0.2.1) 0 (List.length (stT l (zz0.1))) (zz0.2.2)), (4, .int .i64 ((zz0.1) : Int))], [.row (zz0.2.1) (zz0.2.2) 9 (strsR (stT l (zz0.1))), rd a (.u8s l)]⟩) (fun zz0 => (zz0.1) ≤ l.length) (fun zz0 => l.length - (zz0.1)) (0, b8_1, 0) ?_ ?_ ?_
  · show _ ≤ _; omega
  · exact Wk.intro (.cons rfl (by first | rfl | exact veq_int (by first | omega | (dsimp only; omega))) (.cons rfl (by first | rfl | exact veq_int (by first | omega | (dsimp only; omega))) (.cons rfl (by first | rfl | exact veq_int (by first | omega | (dsimp only; omega))) (.cons rfl (by first | rfl | exact veq_int (by first | omega | (dsimp only; omega))) .nil)))) (.keep rfl rfl (fun _ h => h) (.keep rfl rfl (fun _ h => h) .nil))
  · rintro ⟨i, bb, cbb⟩ hR
    try dsimp only at *
    obtain ⟨d, hD⟩ := term_dep hT (i := i) (by omega)
    have hSl : (stT l i).length = d := fld_len hT (by omega) hD
    have hd40 := dep_le hD
    have hl40 := term_len hT
    refine W_seq ?_
    refine W_seq ?_
    refine W_region ?_
    refine Ops_p (p_move rfl) (lt_dec rfl) ?_
    refine Ops_p (p_move rfl) (lt_dec rfl) ?_
    refine Ops_q ((q_lenR rfl rfl rfl (Rds.rd m1)).eq (d' := .int .i64 ((l.length : Nat) : Int)) rfl) (lt_dec rfl) ?_
    refine Ops_p (p_lss rfl rfl) (lt_dec rfl) ?_
    refine Ops_nil ?_
    refine W_cond rfl (fun h1 => ?_) (fun h1 => ?_)
    · try simp only [bs] at h1
      refine W_skip ?_
      refine W_seq ?_
      refine W_block ?_
      refine W_seq ?_
      refine W_draw (by kernel_rfl) ?_
      show RA _ _ 10 _ _ _
      first | refine RA_take 0 rfl rfl rfl (by kernel_rfl) (by kernel_rfl) (by kernel_rfl) (p_move rfl) (lt_dec rfl) ?_
      first | refine RA_take 1 rfl rfl rfl (by kernel_rfl) (by kernel_rfl) (by kernel_rfl) (p_len rfl rfl rfl) (lt_dec rfl) ?_
      first | refine RA_take 8 rfl rfl rfl (by kernel_rfl) (by kernel_rfl) (by kernel_rfl) (p_assign rfl) (lt_dec rfl) ?_
      refine RA_quiet (g := 3) [2, 3, 4, 5] (by kernel_rfl) (by kernel_rfl) (by kernel_rfl) (by kernel_rfl) ?_
      refine WQ_cons rfl rfl rfl ((p_move rfl).q) (lt_dec rfl) ?_
      refine WQ_cons rfl rfl rfl ((p_move rfl).q) (lt_dec rfl) ?_
      refine WQ_cons rfl rfl rfl ((q_ixR _ rfl rfl rfl (Rds.rd m1) rfl rfl (by first | (show _ < List.length _; omega) | (show _ < List.length _; first | omega | (dsimp only; omega))) rfl)) (lt_dec rfl) ?_
      refine WQ_cons rfl rfl rfl ((q_loadR rfl rfl (Rds.rd m1) rfl rfl (by first | (show _ < List.length _; omega) | (show _ < List.length _; first | omega | (dsimp only; omega))) rfl rfl rfl)) (lt_dec rfl) ?_
      refine WQ_nil ?_
      refine RA_one 6 rfl rfl (by kernel_rfl) (x_buildSlice rfl rfl rfl rfl rfl rfl rfl rfl (Nat.le_of_ble_eq_true rfl) (lt_dec rfl) fun b21_1 => ?_)
      refine RA_quiet (g := 0) [7, 9] (by kernel_rfl) (by kernel_rfl) (by kernel_rfl) (by kernel_rfl) ?_
      refine WQ_cons rfl rfl rfl ((q_strOfW (l := [(l.getD i 0)]) rfl rfl rfl rfl m0 rfl)) (lt_dec rfl) ?_
      refine WQ_cons rfl rfl rfl ((p_assign rfl).q) (lt_dec rfl) ?_
      refine WQ_nil ?_
      refine RA_done (by kernel_rfl) ?_
      refine W_seq ?_
      refine W_seq ?_
      refine W_region ?_
      refine Ops_p (p_move rfl) (lt_dec rfl) ?_
      refine Ops_p (p_move rfl) (lt_dec rfl) ?_
      refine Ops_q (q_ixR _ rfl rfl rfl (Rds.rd m2) rfl rfl (by first | (show _ < List.length _; omega) | (show _ < List.length _; first | omega | (dsimp only; omega))) rfl) (lt_dec rfl) ?_
      refine Ops_q (q_loadR rfl rfl (Rds.rd m2) rfl rfl (by first | (show _ < List.length _; omega) | (show _ < List.length _; first | omega | (dsimp only; omega))) rfl rfl rfl) (lt_dec rfl) ?_
      refine Ops_q (q_call en_spec_l03Op rfl (w_spec_l03Op) (View.none _)) (lt_dec rfl) ?_
      refine Ops_p (p_not rfl) (lt_dec rfl) ?_
      refine Ops_nil ?_
      refine W_cond rfl (fun h2 => ?_) (fun h2 => ?_)
      · try simp only [bs] at h2
        have hlf : leafB (l.getD i 0) = true := (term_at hT (i := i) (by omega) hD).resolve_right (fun hh => by rw [hh.1] at h2; cases h2); have eS : stT l (i + 1) = stT l i ++ [lfT (l.getD i 0)] := fld_leaf hlf
        refine W_seq ?_
        refine W_region ?_
        refine Ops_p (p_move rfl) (lt_dec rfl) ?_
        refine Ops_p (p_move rfl) (lt_dec rfl) ?_
        refine Ops_x rfl (x_buildSlice rfl rfl rfl rfl rfl rfl rfl rfl (Nat.le_of_ble_eq_true rfl) (lt_dec rfl) fun b31_1 => ?_)
        refine Ops_x rfl (x_append_t (r := strsR (stT l i)) (r2 := strsR [[l.getD i 0]]) (q := strsR ((stT l i) ++ [lfT (l.getD i 0)])) (n := (List.length (stT l i))) (m := 1) rfl rfl rfl rfl rfl rfl (fun _ _ => ((HpRep.head).tail).tail) (Rds.row m0 rfl) (by rw [strsR_len]; omega) (by rw [strsR_take]; rw [List.take_length]; exact strsR_app _ _) rfl (by decide) rfl (by first | omega | (dsimp only; omega)) (by first | omega | (dsimp only; omega)) (lt_dec rfl) fun b32_1 cb32_1 => ?_)
        refine Ops_p (p_assign rfl) (lt_dec rfl) ?_
        refine Ops_nil ?_
        refine W_exit ?_
        refine W_region ?_
        refine Ops_p (p_move rfl) (lt_dec rfl) ?_
        refine Ops_p (p_add rfl rfl (by exact ⟨(by first | omega | (dsimp only; omega)), (by first | omega | (dsimp only; omega))⟩)) (lt_dec rfl) ?_
        refine Ops_p (p_assign rfl) (lt_dec rfl) ?_
        refine Ops_nil ?_
        refine Exists.intro (i + 1, b32_1, cb32_1) (And.intro ?_ (And.intro ?_ ?_))
        · show _ ≤ _; omega
        · show _ < _; omega
        · exact Wk.intro (.cons rfl (by first | rfl | exact veq_int (by first | omega | (dsimp only; omega))) (.cons rfl (by first | rfl | exact veq_int (by first | omega | (dsimp only; omega))) (.cons rfl (by dsimp only; rw [eS]; exact veq_sl (by simp)) (.cons rfl (by first | rfl | exact veq_int (by first | omega | (dsimp only; omega))) .nil)))) (.drop (.drop (.keep rfl rfl (fun _ h => by dsimp only; rw [eS]; exact h) (.keep rfl rfl (fun _ h => h) .nil))))
      · try simp only [bs] at h2
        have hop := h2; have hd2 : 2 ≤ d := ((term_at hT (i := i) (by omega) hD).resolve_left (fun hh => by rw [op_noleaf h2] at hh; cases hh)).2; have eS : stT l (i + 1) = (List.take (List.length (stT l i) - 2) (stT l i) ++ [jnT (l.getD i 0) (List.getD (stT l i) (List.length (stT l i) - 2) []) (List.getD (stT l i) (List.length (stT l i) - 1) [])]) := fld_op hop
        refine W_skip ?_
        refine W_seq ?_
        have hg2 := stT_get hT (i := i) (j := (List.length (stT l i) - 2)) (by omega) hD (by omega)
        have hg1 := stT_get hT (i := i) (j := (List.length (stT l i) - 1)) (by omega) hD (by omega)
        have hp2 := prT_len ((stT l i).getD (List.length (stT l i) - 2) [])
        have hp1 := prT_len ((stT l i).getD (List.length (stT l i) - 1) [])
        refine W_draw (by kernel_rfl) ?_
        show RA _ _ 16 _ _ _
        refine RA_quietF [0, 1, 2, 3, 4, 5, 6, 7, 8, 9, 10, 11, 12, 13, 14, 15] rfl rfl rfl (by kernel_rfl) (by kernel_rfl) ?_
        refine WQ_cons rfl rfl rfl ((p_move rfl).q) (lt_dec rfl) ?_
        refine WQ_cons rfl rfl rfl ((p_move rfl).q) (lt_dec rfl) ?_
        refine WQ_cons rfl rfl rfl ((p_sub rfl rfl (by exact ⟨(by first | omega | (dsimp only; omega)), (by first | omega | (dsimp only; omega))⟩)).q) (lt_dec rfl) ?_
        refine WQ_cons rfl rfl rfl ((p_ixl1 (List.length (stT l i) - 2) rfl rfl rfl rfl rfl (by omega) (by first | (first | omega | (dsimp only; omega)) | exact Fin.isLt _)).q) (lt_dec rfl) ?_
        refine WQ_cons rfl rfl rfl ((q_load_str (S := (stT l i)) (j := (List.length (stT l i) - 2)) rfl rfl m1 rfl (by first | omega | (dsimp only; omega)) rfl rfl)) (lt_dec rfl) ?_
        refine WQ_cons rfl rfl rfl ((q_call en_spec_l03Part rfl (w_spec_l03Part (by omega)) (View.none _))) (lt_dec rfl) ?_
        refine WQ_cons rfl rfl rfl ((p_move rfl).q) (lt_dec rfl) ?_
        refine WQ_cons rfl rfl rfl ((p_cat (a := (prT (List.getD (stT l i) (List.length (stT l i) - 2) []))) (b := [l.getD i 0]) rfl rfl (by first | omega | (simp only [List.length_append, List.length_cons, List.length_nil]; omega))).q) (lt_dec rfl) ?_
        refine WQ_cons rfl rfl rfl ((p_move rfl).q) (lt_dec rfl) ?_
        refine WQ_cons rfl rfl rfl ((p_move rfl).q) (lt_dec rfl) ?_
        refine WQ_cons rfl rfl rfl ((p_sub rfl rfl (by exact ⟨(by first | omega | (dsimp only; omega)), (by first | omega | (dsimp only; omega))⟩)).q) (lt_dec rfl) ?_
        refine WQ_cons rfl rfl rfl ((p_ixl1 (List.length (stT l i) - 1) rfl rfl rfl rfl rfl (by omega) (by first | (first | omega | (dsimp only; omega)) | exact Fin.isLt _)).q) (lt_dec rfl) ?_
        refine WQ_cons rfl rfl rfl ((q_load_str (S := (stT l i)) (j := (List.length (stT l i) - 1)) rfl rfl m1 rfl (by first | omega | (dsimp only; omega)) rfl rfl)) (lt_dec rfl) ?_
        refine WQ_cons rfl rfl rfl ((q_call en_spec_l03Part rfl (w_spec_l03Part (by omega)) (View.none _))) (lt_dec rfl) ?_
        refine WQ_cons rfl rfl rfl ((p_cat (a := ((prT (List.getD (stT l i) (List.length (stT l i) - 2) [])) ++ [l.getD i 0])) (b := (prT (List.getD (stT l i) (List.length (stT l i) - 1) []))) rfl rfl (by first | omega | (simp only [List.length_append, List.length_cons, List.length_nil]; omega))).q) (lt_dec rfl) ?_
        refine WQ_cons rfl rfl rfl ((p_assign rfl).q) (lt_dec rfl) ?_
        refine WQ_nil ?_
        refine W_fact (row_cap m1) fun hcap => ?_
        rw [strsR_len] at hcap
        refine W_region ?_
        refine Ops_p (p_move rfl) (lt_dec rfl) ?_
        refine Ops_p (p_move rfl) (lt_dec rfl) ?_
        refine Ops_p (p_sub rfl rfl (by exact ⟨(by first | omega | (dsimp only; omega)), (by first | omega | (dsimp only; omega))⟩)) (lt_dec rfl) ?_
        refine Ops_p (p_take (n := (List.length (stT l i) - 2)) rfl rfl rfl rfl (by omega) (by omega)) (lt_dec rfl) ?_
        refine Ops_p (p_move rfl) (lt_dec rfl) ?_
        refine Ops_x rfl (x_buildSlice rfl rfl rfl rfl rfl rfl rfl rfl (Nat.le_of_ble_eq_true rfl) (lt_dec rfl) fun b53_1 => ?_)
        refine Ops_x rfl (x_append_t (r := strsR (stT l i)) (r2 := strsR [(((prT (List.getD (stT l i) (List.length (stT l i) - 2) [])) ++ [l.getD i 0]) ++ (prT (List.getD (stT l i) (List.length (stT l i) - 1) [])))]) (q := strsR (List.take (List.length (stT l i) - 2) (stT l i) ++ [jnT (l.getD i 0) (List.getD (stT l i) (List.length (stT l i) - 2) []) (List.getD (stT l i) (List.length (stT l i) - 1) [])])) (n := (List.length (stT l i) - 2)) (m := 1) rfl rfl rfl rfl rfl rfl (fun _ _ => ((HpRep.head).tail).tail) (Rds.row m0 rfl) (by rw [strsR_len]; omega) (by rw [strsR_take]; exact strsR_app _ _) rfl (by decide) rfl (by first | omega | (dsimp only; omega)) (by first | omega | (dsimp only; omega)) (lt_dec rfl) fun b54_1 cb54_1 => ?_)
        refine Ops_p (p_assign rfl) (lt_dec rfl) ?_
        refine Ops_nil ?_
        refine W_region ?_
        refine Ops_p (p_move rfl) (lt_dec rfl) ?_
        refine Ops_p (p_add rfl rfl (by exact ⟨(by first | omega | (dsimp only; omega)), (by first | omega | (dsimp only; omega))⟩)) (lt_dec rfl) ?_
        refine Ops_p (p_assign rfl) (lt_dec rfl) ?_
        refine Ops_nil ?_
        refine Exists.intro (i + 1, b54_1, cb54_1) (And.intro ?_ (And.intro ?_ ?_))
        · show _ ≤ _; omega
        · show _ < _; omega
        · exact Wk.intro (.cons rfl (by first | rfl | exact veq_int (by first | omega | (dsimp only; omega))) (.cons rfl (by first | rfl | exact veq_int (by first | omega | (dsimp only; omega))) (.cons rfl (by dsimp only; rw [eS]; exact veq_sl (by simp)) (.cons rfl (by first | rfl | exact veq_int (by first | omega | (dsimp only; omega))) .nil)))) (.drop (.drop (.keep rfl rfl (fun _ h => by dsimp only; rw [eS]; exact h) (.keep rfl rfl (fun _ h => h) .nil))))
    · try simp only [bs] at h1
      obtain rfl : i = l.length := (by omega)
      have hE : (stT l l.length).length = 1 := fld_len hT (Nat.le_refl _) (term_end hT)
      refine W_exit ?_
      refine W_seq ?_
      refine W_region ?_
      refine Ops_p (p_move rfl) (lt_dec rfl) ?_
      refine Ops_p (p_ixl1 0 rfl rfl rfl rfl rfl rfl (by first | (first | omega | (dsimp only; omega)) | exact Fin.isLt _)) (lt_dec rfl) ?_
      refine Ops_q (q_load_str (S := (stT l l.length)) (j := 0) rfl rfl m0 rfl (by first | omega | (dsimp only; omega)) rfl rfl) (lt_dec rfl) ?_
      refine Ops_p (p_assign rfl) (lt_dec rfl) ?_
      refine Ops_nil ?_
      refine W_ret ?_
      refine Exists.intro _ (And.intro (.cons (.tmp rfl) .nil) ?_)
      rfl
end Go.Proofs.Ytdcpggdbjllmpaa
