/- What the Go function impl.newClasses does, shown of its loaded text; its conditions stand in the statement. -/
import Derived.Test.YtdcpggdbjllmpabTy
import Derived.Test.YtdcpggdbjllmpabGx12
import Derived.Test.YtdcpggdbjllmpabGx20
import Derived.Test.YtdcpggdbjllmpabM26
namespace Go.Proofs.Ytdcpggdbjllmpab
open Go Gx
set_option linter.unusedVariables false
theorem en_impl_newClasses : Enters Try.prog 87 := enters_of Try.func87 (by kernel_rfl) (by kernel_rfl)
set_option maxRecDepth 100000 in
theorem w_impl_newClasses {n : Int} (hn : 1 ≤ n ∧ n ≤ 10) : CT (X := V1) Try.prog 87 (vals [.int .i64 n]) [] [] (fun x => True) (fun x => .raw x.1 x.2) (fun x => [own x.1 2 (.ints .i64 (rgL n.toNat))]) := by
  refine CT_intro (rs := [.tmp 2]) tt tok Try.func87 rfl rfl rfl (by first | rfl | assumption) fun w => ?_
  show W _ _ _ ⟨tmOf 0 [.int .i64 n], []⟩
  refine W_seq ?_
  refine W_region ?_
  refine Ops_p (p_assign rfl) (lt_dec rfl) ?_
  refine Ops_nil ?_
  refine W_seq ?_
  refine W_region ?_
  refine Ops_x rfl (x_buildSlice rfl rfl rfl rfl rfl rfl rfl rfl (Nat.le_of_ble_eq_true rfl) (lt_dec rfl) fun b5_1 => ?_)
  refine Ops_p (p_assign rfl) (lt_dec rfl) ?_
  refine Ops_nil ?_
  refine W_seq ?_
  refine W_seq ?_
  refine W_region ?_
  refine Ops_p (p_move rfl) (lt_dec rfl) ?_
  refine Ops_p (p_move rfl) (lt_dec rfl) ?_
  refine Ops_nil ?_
  refine W_block ?_
  refine W_loop (α := Nat × Nat × Nat) (fun zz0 => ⟨[(0, .int .i64 n), (3, .sl (zz0.2.1) 0 (zz0.1) (zz0.2.2)), (6, .int .i64 n), (7, .int .i64 ((zz0.1) : Int))], [.row (zz0.2.1) (zz0.2.2) 2 (.ints .i64 (rgL (zz0.1)))]⟩) (fun zz0 => (zz0.1) ≤ n.toNat) (fun zz0 => n.toNat - (zz0.1)) (0, b5_1, 0) ?_ ?_ ?_
  · show _ ≤ _; omega
  · exact Wk.intro (.cons rfl (by first | rfl | exact veq_int (by first | omega | (dsimp only; omega))) (.cons rfl (by first | rfl | exact veq_int (by first | omega | (dsimp only; omega))) (.cons rfl (by first | rfl | exact veq_int (by first | omega | (dsimp only; omega))) (.cons rfl (by first | rfl | exact veq_int (by first | omega | (dsimp only; omega))) .nil)))) (.keep rfl rfl (fun _ h => h) .nil)
  · rintro ⟨i, bb, cbb⟩ hR
    try dsimp only at *
    have hrl := rgL_len i
    refine W_seq ?_
    refine W_region ?_
    refine Ops_p (p_lss rfl rfl) (lt_dec rfl) ?_
    refine Ops_nil ?_
    refine W_seq ?_
    refine W_cond rfl (fun h1 => ?_) (fun h1 => ?_)
    · try simp only [bs] at h1
      refine W_skip ?_
      refine W_seq ?_
      refine W_block ?_
      refine W_seq ?_
      refine W_region ?_
      refine Ops_p (p_move rfl) (lt_dec rfl) ?_
      refine Ops_p (p_assign rfl) (lt_dec rfl) ?_
      refine Ops_nil ?_
      refine W_region ?_
      refine Ops_p (p_move rfl) (lt_dec rfl) ?_
      refine Ops_p (p_move rfl) (lt_dec rfl) ?_
      refine Ops_x rfl (x_buildSlice rfl rfl rfl rfl rfl rfl rfl rfl (Nat.le_of_ble_eq_true rfl) (lt_dec rfl) fun b12_1 => ?_)
      refine Ops_x rfl (x_append rfl rfl rfl rfl rfl rfl (fun _ _ => (HpRep.head).tail) (.inl ⟨m0, rfl⟩) rfl (by show _ = List.length _; rw [rgL_len]) rfl (by first | omega | (dsimp only; omega)) rfl (by first | omega | (dsimp only; omega)) (by first | omega | (dsimp only; omega)) (lt_dec rfl) fun b13_1 cb13_1 => ?_)
      refine Ops_p (p_assign rfl) (lt_dec rfl) ?_
      refine Ops_nil ?_
      refine W_region ?_
      refine Ops_p (p_add rfl rfl (by exact ⟨(by first | omega | (dsimp only; omega)), (by first | omega | (dsimp only; omega))⟩)) (lt_dec rfl) ?_
      refine Ops_p (p_move rfl) (lt_dec rfl) ?_
      refine Ops_nil ?_
      refine Exists.intro (i + 1, b13_1, cb13_1) (And.intro ?_ (And.intro ?_ ?_))
      · show _ ≤ _; omega
      · show _ < _; omega
      · exact Wk.intro (.cons rfl (by first | rfl | exact veq_int (by first | omega | (dsimp only; omega))) (.cons rfl (veq_sl rfl) (.cons rfl (by first | rfl | exact veq_int (by first | omega | (dsimp only; omega))) (.cons rfl (by first | rfl | exact veq_int (by first | omega | (dsimp only; omega))) .nil)))) (.drop (.keep rfl rfl (fun _ h => h) .nil))
    · try simp only [bs] at h1
      obtain rfl : i = n.toNat := (by omega)
      refine W_exit ?_
      refine W_seq ?_
      refine W_region ?_
      refine Ops_p (p_move rfl) (lt_dec rfl) ?_
      refine Ops_p (p_assign rfl) (lt_dec rfl) ?_
      refine Ops_nil ?_
      refine W_ret ?_
      refine Exists.intro _ (And.intro (.cons (.tmp rfl) .nil) (Exists.intro ⟨.slice (some ⟨bb, 0, none⟩) n.toNat cbb, rfl⟩ (And.intro ?_ (And.intro ?_ (And.intro (.cons HpDel.head rfl (own_of_row (by show _ = List.length _; rw [rgL_len]) rfl) .nil) rfl)))))
      · trivial
      · rfl
end Go.Proofs.Ytdcpggdbjllmpab
