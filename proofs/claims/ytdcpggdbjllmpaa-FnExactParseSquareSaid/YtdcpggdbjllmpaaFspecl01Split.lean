/- What the Go function spec.l01Split does, shown of its loaded text; its conditions stand in the statement. -/
import Derived.Test.YtdcpggdbjllmpaaTy
import Derived.Test.YtdcpggdbjllmpaaGx14
import Derived.Test.YtdcpggdbjllmpaaGx27
import Derived.Test.YtdcpggdbjllmpaaGx31
import Derived.Test.YtdcpggdbjllmpaaM39
namespace Go.Proofs.Ytdcpggdbjllmpaa
open Go Gx
set_option linter.unusedVariables false
theorem en_spec_l01Split : Enters Try.prog 85 := enters_of Try.func85 (by kernel_rfl) (by kernel_rfl)
set_option maxRecDepth 100000 in
set_option maxHeartbeats 1000000 in
theorem w_spec_l01Split {s : List (Fin 256)} (hs : s.length ≤ 1048576) : FR Try.prog 85 (vals [.raw (.string (strB s)) rfl, .int .u8 47]) [] 9 (strsR (spS s)) := by
  refine CF_intro (rs := [.tmp 4]) tt tok Try.func85 rfl rfl rfl (by first | rfl | assumption) fun w => ?_
  refine W_seq ?_
  refine W_region ?_
  refine Ops_p (p_assign rfl) (lt_dec rfl) ?_
  refine Ops_nil ?_
  refine W_seq ?_
  refine W_region ?_
  refine Ops_x rfl (x_buildSlice rfl rfl rfl rfl rfl rfl rfl rfl (Nat.le_of_ble_eq_true rfl) (lt_dec rfl) fun b8_1 => ?_)
  refine Ops_p (p_assign rfl) (lt_dec rfl) ?_
  refine Ops_nil ?_
  refine W_seq ?_
  refine W_region ?_
  refine Ops_p (p_assign rfl) (lt_dec rfl) ?_
  refine Ops_nil ?_
  refine W_seq ?_
  refine W_seq ?_
  refine W_region ?_
  refine Ops_p (p_assign rfl) (lt_dec rfl) ?_
  refine Ops_nil ?_
  refine W_block ?_
  refine W_loop (α := Nat × Nat × Nat) (fun zz0 => ⟨[(0, .raw (.string (strB s)) rfl), (1, .int .u8 47), (5, .sl (zz0.2.1) 0 (List.length (Prod.fst (spG s (zz0.1)))) (zz0.2.2)), (6, .int .i64 (((Prod.snd (spG s (zz0.1))) : Nat) : Int)), (7, .int .i64 ((zz0.1) : Int))], [.row (zz0.2.1) (zz0.2.2) 9 (strsR (Prod.fst (spG s (zz0.1))))]⟩) (fun zz0 => (zz0.1) ≤ s.length) (fun zz0 => s.length - (zz0.1)) (0, b8_1, 0) ?_ ?_ ?_
  · show _ ≤ _; omega
  · exact Wk.intro (.cons rfl (by first | rfl | exact veq_int (by first | omega | (dsimp only; omega))) (.cons rfl (by first | rfl | exact veq_int (by first | omega | (dsimp only; omega))) (.cons rfl (by first | rfl | exact veq_int (by first | omega | (dsimp only; omega))) (.cons rfl (by first | rfl | exact veq_int (by first | omega | (dsimp only; omega))) (.cons rfl (by first | rfl | exact veq_int (by first | omega | (dsimp only; omega))) .nil))))) (.keep rfl rfl (fun _ h => h) .nil)
  · rintro ⟨i, bb, cbb⟩ hR
    try dsimp only at *
    have hg := (spG_inv (s := s) i hR).1
    have hgl := spG_len (s := s) i
    refine W_seq ?_
    refine W_seq ?_
    refine W_region ?_
    refine Ops_p (p_move rfl) (lt_dec rfl) ?_
    refine Ops_p (p_move rfl) (lt_dec rfl) ?_
    refine Ops_p (p_len_B rfl rfl rfl) (lt_dec rfl) ?_
    refine Ops_p (p_lss rfl rfl) (lt_dec rfl) ?_
    refine Ops_nil ?_
    refine W_cond rfl (fun h1 => ?_) (fun h1 => ?_)
    · try simp only [bs] at h1
      refine W_skip ?_
      refine W_seq ?_
      refine W_block ?_
      refine W_seq ?_
      refine W_region ?_
      refine Ops_p (p_move rfl) (lt_dec rfl) ?_
      refine Ops_p (p_move rfl) (lt_dec rfl) ?_
      refine Ops_p ((p_index_s i rfl rfl rfl rfl (by omega))) (lt_dec rfl) ?_
      refine Ops_p (p_move rfl) (lt_dec rfl) ?_
      first | refine Ops_p (p_eql_8 rfl rfl) (lt_dec rfl) ?_ | refine Ops_p (p_eql rfl rfl) (lt_dec rfl) ?_
      refine Ops_nil ?_
      refine W_cond rfl (fun h2 => ?_) (fun h2 => ?_)
      · try simp only [bs] at h2
        have eS := spG_t (char47.1 h2)
        refine W_seq ?_
        refine W_region ?_
        refine Ops_p (p_move rfl) (lt_dec rfl) ?_
        refine Ops_p (p_move rfl) (lt_dec rfl) ?_
        refine Ops_p (p_move rfl) (lt_dec rfl) ?_
        refine Ops_p (p_move rfl) (lt_dec rfl) ?_
        refine Ops_p (p_cut_s (l := (spG s i).2) (h := i) rfl rfl rfl rfl rfl rfl (by omega) (by omega)) (lt_dec rfl) ?_
        refine Ops_x rfl (x_buildSlice rfl rfl rfl rfl rfl rfl rfl rfl (Nat.le_of_ble_eq_true rfl) (lt_dec rfl) fun b25_1 => ?_)
        refine Ops_x rfl (x_append_t (r := strsR (Prod.fst (spG s i))) (r2 := strsR [(List.take (i - (Prod.snd (spG s i))) (List.drop (Prod.snd (spG s i)) s))]) (q := strsR ((Prod.fst (spG s i)) ++ [(List.take (i - (Prod.snd (spG s i))) (List.drop (Prod.snd (spG s i)) s))])) (n := (List.length (Prod.fst (spG s i)))) (m := 1) rfl rfl rfl rfl rfl rfl (fun _ _ => (HpRep.head).tail) (Rds.row m0 rfl) (by rw [strsR_len]; omega) (by rw [strsR_take]; rw [List.take_length]; exact strsR_app _ _) rfl (by decide) rfl (by first | omega | (dsimp only; omega)) (by first | omega | (dsimp only; omega)) (lt_dec rfl) fun b26_1 cb26_1 => ?_)
        refine Ops_p (p_assign rfl) (lt_dec rfl) ?_
        refine Ops_nil ?_
        refine W_region ?_
        refine Ops_p (p_move rfl) (lt_dec rfl) ?_
        refine Ops_p (p_add rfl rfl (by exact ⟨(by first | omega | (dsimp only; omega)), (by first | omega | (dsimp only; omega))⟩)) (lt_dec rfl) ?_
        refine Ops_p (p_assign rfl) (lt_dec rfl) ?_
        refine Ops_nil ?_
        refine W_region ?_
        refine Ops_p (p_move rfl) (lt_dec rfl) ?_
        refine Ops_p (p_add rfl rfl (by exact ⟨(by first | omega | (dsimp only; omega)), (by first | omega | (dsimp only; omega))⟩)) (lt_dec rfl) ?_
        refine Ops_p (p_assign rfl) (lt_dec rfl) ?_
        refine Ops_nil ?_
        refine Exists.intro (i + 1, b26_1, cb26_1) (And.intro ?_ (And.intro ?_ ?_))
        · show _ ≤ _; omega
        · show _ < _; omega
        · exact Wk.intro (.cons rfl (by first | rfl | exact veq_int (by first | omega | (dsimp only; omega))) (.cons rfl (by first | rfl | exact veq_int (by first | omega | (dsimp only; omega))) (.cons rfl (by dsimp only; first | (rw [eS]; done) | (rw [eS]; exact veq_sl (by simp))) (.cons rfl (by dsimp only; first | (rw [eS]; done) | (rw [eS]; first | rfl | exact veq_int (by omega))) (.cons rfl (by first | rfl | exact veq_int (by first | omega | (dsimp only; omega))) .nil))))) (.drop (.keep rfl rfl (fun _ h => by dsimp only; rw [eS]; exact h) .nil))
      · try simp only [bs] at h2
        have eS := spG_f (s := s) (i := i) (fun e => h2 (char47.2 e))
        refine W_skip ?_
        refine W_region ?_
        refine Ops_p (p_move rfl) (lt_dec rfl) ?_
        refine Ops_p (p_add rfl rfl (by exact ⟨(by first | omega | (dsimp only; omega)), (by first | omega | (dsimp only; omega))⟩)) (lt_dec rfl) ?_
        refine Ops_p (p_assign rfl) (lt_dec rfl) ?_
        refine Ops_nil ?_
        refine Exists.intro (i + 1, bb, cbb) (And.intro ?_ (And.intro ?_ ?_))
        · show _ ≤ _; omega
        · show _ < _; omega
        · exact Wk.intro (.cons rfl (by first | rfl | exact veq_int (by first | omega | (dsimp only; omega))) (.cons rfl (by first | rfl | exact veq_int (by first | omega | (dsimp only; omega))) (.cons rfl (by dsimp only; first | (rw [eS]; done) | (rw [eS]; exact veq_sl (by simp))) (.cons rfl (by dsimp only; first | (rw [eS]; done) | (rw [eS]; first | rfl | exact veq_int (by omega))) (.cons rfl (by first | rfl | exact veq_int (by first | omega | (dsimp only; omega))) .nil))))) (.keep rfl rfl (fun _ h => by dsimp only; rw [eS]; exact h) .nil)
    · try simp only [bs] at h1
      obtain rfl : i = s.length := (by omega)
      refine W_exit ?_
      refine W_seq ?_
      refine W_region ?_
      refine Ops_p (p_move rfl) (lt_dec rfl) ?_
      refine Ops_p (p_move rfl) (lt_dec rfl) ?_
      refine Ops_p (p_move rfl) (lt_dec rfl) ?_
      refine Ops_p (p_cutE_s (l := (spG s s.length).2) rfl rfl rfl rfl (by omega)) (lt_dec rfl) ?_
      refine Ops_x rfl (x_buildSlice rfl rfl rfl rfl rfl rfl rfl rfl (Nat.le_of_ble_eq_true rfl) (lt_dec rfl) fun b33_1 => ?_)
      refine Ops_x rfl (x_append_t (r := strsR (Prod.fst (spG s s.length))) (r2 := strsR [(List.drop (Prod.snd (spG s (List.length s))) s)]) (q := strsR (spS s)) (n := (List.length (Prod.fst (spG s s.length)))) (m := 1) rfl rfl rfl rfl rfl rfl (fun _ _ => (HpRep.head).tail) (Rds.row m0 rfl) (by rw [strsR_len]; omega) (by rw [strsR_take]; rw [List.take_length]; exact strsR_app _ _) rfl (by decide) rfl (by first | omega | (dsimp only; omega)) (by first | omega | (dsimp only; omega)) (lt_dec rfl) fun b34_1 cb34_1 => ?_)
      refine Ops_p (p_assign rfl) (lt_dec rfl) ?_
      refine Ops_nil ?_
      refine W_ret ?_
      refine FR_post' (.cons (.tmp rfl) .nil) m1 ?_ ?_
      · rw [strsR_len]; simp [spS]
      · rfl
end Go.Proofs.Ytdcpggdbjllmpaa
