/- What the Go function impl.folded[string] does, shown of its loaded text; its conditions stand in the statement. -/
import Derived.Test.YtdcpggdbjllmpaaTy
import Derived.Test.YtdcpggdbjllmpaaFimplisLeaf
import Derived.Test.YtdcpggdbjllmpaaFimpltermTextX1
import Derived.Test.YtdcpggdbjllmpaaFimpltermTextX2
import Derived.Test.YtdcpggdbjllmpaaGx12
import Derived.Test.YtdcpggdbjllmpaaGx14
import Derived.Test.YtdcpggdbjllmpaaGx24
import Derived.Test.YtdcpggdbjllmpaaGx27
import Derived.Test.YtdcpggdbjllmpaaM33
namespace Go.Proofs.Ytdcpggdbjllmpaa
open Go Gx
set_option linter.unusedVariables false
theorem en_impl_foldedGstring : Enters Try.prog 74 := enters_of Try.func74 (by kernel_rfl) (by kernel_rfl)
set_option maxRecDepth 100000 in
set_option maxHeartbeats 1000000 in
theorem w_impl_foldedGstring {a : Value} {ha : a.oneCell' = true} {l : List (Fin 256)} (hT : isTerm l = true) : CR Try.prog 74 (vals [.raw a ha, .raw (.func (.func 75) #[] #[]) rfl, .raw (.func (.func 76) #[] #[]) rfl]) [rd a (.u8s l)] (.raw (.string (strB (txT l))) rfl) := by
  refine CR_intro (rs := [.tmp 6]) tt tok Try.func74 rfl rfl rfl (by first | rfl | assumption) fun w => ?_
  have hl40 := term_len hT
  refine W_seq ?_
  refine W_region ?_
  refine Ops_p (p_assign rfl) (lt_dec rfl) ?_
  refine Ops_nil ?_
  refine W_seq ?_
  refine W_region ?_
  refine Ops_x rfl (x_buildSlice rfl rfl rfl rfl rfl rfl rfl rfl (Nat.le_of_ble_eq_true rfl) (lt_dec rfl) fun b11_1 => ?_)
  refine Ops_p (p_assign rfl) (lt_dec rfl) ?_
  refine Ops_nil ?_
  refine W_seq ?_
  refine W_seq ?_
  refine W_region ?_
  refine Ops_p (p_move rfl) (lt_dec rfl) ?_
  refine Ops_q ((q_lenR rfl rfl rfl (Rds.rd m1)).eq (d' := .int .i64 ((l.length : Nat) : Int)) rfl) (lt_dec rfl) ?_
  refine Ops_p (p_move rfl) (lt_dec rfl) ?_
  refine Ops_nil ?_
  refine W_block ?_
  refine W_loop (α := Nat × Nat × Nat) (fun zz0 => ⟨[(0, .raw a ha), (1, .raw (.func (.func 75) #[] #[]) rfl), (2, .raw (.func (.func 76) #[] #[]) rfl), (6, .raw (.string (strB [])) rfl), (7, .sl (zz0.2.1) 0 (List.length (stT l (zz0.1))) (zz0.2.2)), (12, .raw a ha), (13, .int .i64 (l.length : Int)), (14, .int .i64 ((zz0.1) : Int))], [.row (zz0.2.1) (zz0.2.2) 9 (strsR (stT l (zz0.1))), rd a (.u8s l)]⟩) (fun zz0 => (zz0.1) ≤ l.length) (fun zz0 => l.length - (zz0.1)) (0, b11_1, 0) ?_ ?_ ?_
  · show _ ≤ _; omega
  · exact Wk.intro (.cons rfl (by first | rfl | exact veq_int (by first | omega | (dsimp only; omega))) (.cons rfl (by first | rfl | exact veq_int (by first | omega | (dsimp only; omega))) (.cons rfl (by first | rfl | exact veq_int (by first | omega | (dsimp only; omega))) (.cons rfl (by first | rfl | exact veq_int (by first | omega | (dsimp only; omega))) (.cons rfl (by first | rfl | exact veq_int (by first | omega | (dsimp only; omega))) (.cons rfl (by first | rfl | exact veq_int (by first | omega | (dsimp only; omega))) (.cons rfl (by first | rfl | exact veq_int (by first | omega | (dsimp only; omega))) (.cons rfl (by first | rfl | exact veq_int (by first | omega | (dsimp only; omega))) .nil)))))))) (.keep rfl rfl (fun _ h => h) (.keep rfl rfl (fun _ h => h) .nil))
  · rintro ⟨i, bb, cbb⟩ hR
    try dsimp only at *
    obtain ⟨d, hD⟩ := term_dep hT (i := i) (by omega)
    have hSl : (stT l i).length = d := fld_len hT (by omega) hD
    have hd40 := dep_le hD
    have hl40 := term_len hT
    refine W_seq ?_
    refine W_region ?_
    refine Ops_p (p_lss rfl rfl) (lt_dec rfl) ?_
    refine Ops_nil ?_
    refine W_seq ?_
    refine W_cond rfl (fun h1 => ?_) (fun h1 => ?_)
    · try simp only [bs] at h1
      refine W_skip ?_
      refine W_seq ?_
      refine W_block ?_
      refine W_seq ?_
      refine W_region ?_
      refine Ops_q (q_ixR _ rfl rfl rfl (Rds.rd m1) rfl rfl (by first | (show _ < List.length _; omega) | (show _ < List.length _; first | omega | (dsimp only; omega))) rfl) (lt_dec rfl) ?_
      refine Ops_q (q_loadR rfl rfl (Rds.rd m1) rfl rfl (by first | (show _ < List.length _; omega) | (show _ < List.length _; first | omega | (dsimp only; omega))) rfl rfl rfl) (lt_dec rfl) ?_
      refine Ops_p (p_assign rfl) (lt_dec rfl) ?_
      refine Ops_nil ?_
      refine W_seq ?_
      refine W_seq ?_
      refine W_region ?_
      refine Ops_p (p_move rfl) (lt_dec rfl) ?_
      refine Ops_q (q_call en_impl_isLeaf rfl (w_impl_isLeaf) (View.none _)) (lt_dec rfl) ?_
      refine Ops_nil ?_
      refine W_cond rfl (fun h2 => ?_) (fun h2 => ?_)
      · try simp only [bs] at h2
        have hlf := h2; have eS : stT l (i + 1) = stT l i ++ [lfT (l.getD i 0)] := fld_leaf hlf
        refine W_seq ?_
        have hc128 := leaf_128 hlf
        refine W_region ?_
        refine Ops_p (p_move rfl) (lt_dec rfl) ?_
        refine Ops_p (p_move rfl) (lt_dec rfl) ?_
        refine Ops_p (p_move rfl) (lt_dec rfl) ?_
        refine Ops_q (q_callv en_impl_termTextX1 rfl rfl (w_impl_termTextX1 (c := (l.getD i 0)) hc128) (View.none _)) (lt_dec rfl) ?_
        refine Ops_x rfl (x_buildSlice rfl rfl rfl rfl rfl rfl rfl rfl (Nat.le_of_ble_eq_true rfl) (lt_dec rfl) fun b24_1 => ?_)
        refine Ops_x rfl (x_append_t (r := strsR (stT l i)) (r2 := strsR [[l.getD i 0]]) (q := strsR ((stT l i) ++ [lfT (l.getD i 0)])) (n := (List.length (stT l i))) (m := 1) rfl rfl rfl rfl rfl rfl (fun _ _ => (HpRep.head).tail) (Rds.row m0 rfl) (by rw [strsR_len]; omega) (by rw [strsR_take]; rw [List.take_length]; exact strsR_app _ _) rfl (by decide) rfl (by first | omega | (dsimp only; omega)) (by first | omega | (dsimp only; omega)) (lt_dec rfl) fun b25_1 cb25_1 => ?_)
        refine Ops_p (p_assign rfl) (lt_dec rfl) ?_
        refine Ops_nil ?_
        refine W_exit ?_
        refine W_region ?_
        refine Ops_p (p_add rfl rfl (by exact ⟨(by first | omega | (dsimp only; omega)), (by first | omega | (dsimp only; omega))⟩)) (lt_dec rfl) ?_
        refine Ops_p (p_move rfl) (lt_dec rfl) ?_
        refine Ops_nil ?_
        refine Exists.intro (i + 1, b25_1, cb25_1) (And.intro ?_ (And.intro ?_ ?_))
        · show _ ≤ _; omega
        · show _ < _; omega
        · exact Wk.intro (.cons rfl (by first | rfl | exact veq_int (by first | omega | (dsimp only; omega))) (.cons rfl (by first | rfl | exact veq_int (by first | omega | (dsimp only; omega))) (.cons rfl (by first | rfl | exact veq_int (by first | omega | (dsimp only; omega))) (.cons rfl (by first | rfl | exact veq_int (by first | omega | (dsimp only; omega))) (.cons rfl (by dsimp only; rw [eS]; exact veq_sl (by simp)) (.cons rfl (by first | rfl | exact veq_int (by first | omega | (dsimp only; omega))) (.cons rfl (by first | rfl | exact veq_int (by first | omega | (dsimp only; omega))) (.cons rfl (by first | rfl | exact veq_int (by first | omega | (dsimp only; omega))) .nil)))))))) (.drop (.keep rfl rfl (fun _ h => by dsimp only; rw [eS]; exact h) (.keep rfl rfl (fun _ h => h) .nil)))
      · try simp only [bs] at h2
        have hAt := (term_at hT (i := i) (by omega) hD).resolve_left (fun hh => by rw [hh] at h2; cases h2); have hop := hAt.1; have hd2 := hAt.2; have eS : stT l (i + 1) = (List.take (List.length (stT l i) - 2) (stT l i) ++ [jnT (l.getD i 0) (List.getD (stT l i) (List.length (stT l i) - 2) []) (List.getD (stT l i) (List.length (stT l i) - 1) [])]) := fld_op hop
        refine W_skip ?_
        refine W_seq ?_
        refine W_region ?_
        refine Ops_p (p_move rfl) (lt_dec rfl) ?_
        refine Ops_p (p_len rfl rfl rfl) (lt_dec rfl) ?_
        refine Ops_p (p_sub rfl rfl (by exact ⟨(by first | omega | (dsimp only; omega)), (by first | omega | (dsimp only; omega))⟩)) (lt_dec rfl) ?_
        refine Ops_p (p_assign rfl) (lt_dec rfl) ?_
        refine Ops_nil ?_
        have hc128 := op_128 hop
        refine W_fact (row_cap m0) fun hcap => ?_
        rw [strsR_len] at hcap
        have hg2 := stT_get hT (i := i) (j := (List.length (stT l i) - 2)) (by omega) hD (by omega)
        have hg1 := stT_get hT (i := i) (j := (List.length (stT l i) - 1)) (by omega) hD (by omega)
        refine W_draw (by kernel_rfl) ?_
        show RA _ _ 18 _ _ _
        first | refine RA_take 0 rfl rfl rfl (by kernel_rfl) (by kernel_rfl) (by kernel_rfl) (p_move rfl) (lt_dec rfl) ?_
        first | refine RA_take 1 rfl rfl rfl (by kernel_rfl) (by kernel_rfl) (by kernel_rfl) (p_move rfl) (lt_dec rfl) ?_
        first | refine RA_take 2 rfl rfl rfl (by kernel_rfl) (by kernel_rfl) (by kernel_rfl) (p_take (n := (List.length (stT l i) - 2)) rfl rfl rfl rfl (by omega) (by omega)) (lt_dec rfl) ?_
        refine RA_quiet (g := 3) [3, 4, 5, 6, 7, 8, 9, 10, 11, 12, 13, 14] (by kernel_rfl) (by kernel_rfl) (by kernel_rfl) (by kernel_rfl) ?_
        refine WQ_cons rfl rfl rfl ((p_move rfl).q) (lt_dec rfl) ?_
        refine WQ_cons rfl rfl rfl ((p_move rfl).q) (lt_dec rfl) ?_
        refine WQ_cons rfl rfl rfl ((p_move rfl).q) (lt_dec rfl) ?_
        refine WQ_cons rfl rfl rfl ((p_move rfl).q) (lt_dec rfl) ?_
        refine WQ_cons rfl rfl rfl ((p_ixl1 (List.length (stT l i) - 2) rfl rfl rfl rfl rfl (by omega) (by first | (first | omega | (dsimp only; omega)) | exact Fin.isLt _)).q) (lt_dec rfl) ?_
        refine WQ_cons rfl rfl rfl ((q_load_str (S := (stT l i)) (j := (List.length (stT l i) - 2)) rfl rfl m0 rfl (by first | omega | (dsimp only; omega)) rfl rfl)) (lt_dec rfl) ?_
        refine WQ_cons rfl rfl rfl ((p_move rfl).q) (lt_dec rfl) ?_
        refine WQ_cons rfl rfl rfl ((p_move rfl).q) (lt_dec rfl) ?_
        refine WQ_cons rfl rfl rfl ((p_add rfl rfl (by exact ⟨(by first | omega | (dsimp only; omega)), (by first | omega | (dsimp only; omega))⟩)).q) (lt_dec rfl) ?_
        refine WQ_cons rfl rfl rfl ((p_ixl1 (List.length (stT l i) - 1) rfl rfl rfl rfl rfl (by omega) (by first | (first | omega | (dsimp only; omega)) | exact Fin.isLt _)).q) (lt_dec rfl) ?_
        refine WQ_cons rfl rfl rfl ((q_load_str (S := (stT l i)) (j := (List.length (stT l i) - 1)) rfl rfl m0 rfl (by first | omega | (dsimp only; omega)) rfl rfl)) (lt_dec rfl) ?_
        refine WQ_cons rfl rfl rfl ((q_callv en_impl_termTextX2 rfl rfl (w_impl_termTextX2 (c := (l.getD i 0)) hc128 hg2 hg1) (View.none _))) (lt_dec rfl) ?_
        refine WQ_nil ?_
        refine RA_one 15 rfl rfl (by kernel_rfl) (x_buildSlice rfl rfl rfl rfl rfl rfl rfl rfl (Nat.le_of_ble_eq_true rfl) (lt_dec rfl) fun b44_1 => ?_)
        refine RA_one 16 rfl rfl (by kernel_rfl) (x_append_t (r := strsR (stT l i)) (r2 := strsR [(jnT (l.getD i 0) (List.getD (stT l i) (List.length (stT l i) - 2) []) (List.getD (stT l i) (List.length (stT l i) - 1) []))]) (q := strsR (List.take (List.length (stT l i) - 2) (stT l i) ++ [jnT (l.getD i 0) (List.getD (stT l i) (List.length (stT l i) - 2) []) (List.getD (stT l i) (List.length (stT l i) - 1) [])])) (n := (List.length (stT l i) - 2)) (m := 1) rfl rfl rfl rfl rfl rfl (fun _ _ => (HpRep.head).tail) (Rds.row m0 rfl) (by rw [strsR_len]; omega) (by rw [strsR_take]; exact strsR_app _ _) rfl (by decide) rfl (by first | omega | (dsimp only; omega)) (by first | omega | (dsimp only; omega)) (lt_dec rfl) fun b45_1 cb45_1 => ?_)
        refine RA_quiet (g := 0) [17] (by kernel_rfl) (by kernel_rfl) (by kernel_rfl) (by kernel_rfl) ?_
        refine WQ_cons rfl rfl rfl ((p_assign rfl).q) (lt_dec rfl) ?_
        refine WQ_nil ?_
        refine RA_done (by kernel_rfl) ?_
        refine W_region ?_
        refine Ops_p (p_add rfl rfl (by exact ⟨(by first | omega | (dsimp only; omega)), (by first | omega | (dsimp only; omega))⟩)) (lt_dec rfl) ?_
        refine Ops_p (p_move rfl) (lt_dec rfl) ?_
        refine Ops_nil ?_
        refine Exists.intro (i + 1, b45_1, cb45_1) (And.intro ?_ (And.intro ?_ ?_))
        · show _ ≤ _; omega
        · show _ < _; omega
        · exact Wk.intro (.cons rfl (by first | rfl | exact veq_int (by first | omega | (dsimp only; omega))) (.cons rfl (by first | rfl | exact veq_int (by first | omega | (dsimp only; omega))) (.cons rfl (by first | rfl | exact veq_int (by first | omega | (dsimp only; omega))) (.cons rfl (by first | rfl | exact veq_int (by first | omega | (dsimp only; omega))) (.cons rfl (by dsimp only; rw [eS]; exact veq_sl (by simp)) (.cons rfl (by first | rfl | exact veq_int (by first | omega | (dsimp only; omega))) (.cons rfl (by first | rfl | exact veq_int (by first | omega | (dsimp only; omega))) (.cons rfl (by first | rfl | exact veq_int (by first | omega | (dsimp only; omega))) .nil)))))))) (.drop (.keep rfl rfl (fun _ h => by dsimp only; rw [eS]; exact h) (.keep rfl rfl (fun _ h => h) .nil)))
    · try simp only [bs] at h1
      obtain rfl : i = l.length := (by omega)
      have hE : (stT l l.length).length = 1 := fld_len hT (Nat.le_refl _) (term_end hT)
      refine W_exit ?_
      refine W_seq ?_
      refine W_region ?_
      refine Ops_p (p_move rfl) (lt_dec rfl) ?_
      refine Ops_p (p_ixl1 0 rfl rfl rfl rfl rfl rfl (by first | (first | omega | (dsimp only; omega)) | exact Fin.isLt _)) (lt_dec rfl) ?_
      refine Ops_q (q_load_str (S := (stT l l.length)) (j := 0) rfl rfl m0 rfl (by first | omega | (dsimp only; omega)) rfl rfl) (lt_dec rfl) ?_
      refine Ops_p (p_assign rfl) (lt_dec rfl) ?_
      refine Ops_nil ?_
      refine W_ret ?_
      refine Exists.intro _ (And.intro (.cons (.tmp rfl) .nil) ?_)
      rfl
end Go.Proofs.Ytdcpggdbjllmpaa
