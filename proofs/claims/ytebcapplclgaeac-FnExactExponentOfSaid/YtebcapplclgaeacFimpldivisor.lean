/- What the Go function impl.divisor does, shown of its loaded text; its conditions stand in the statement. -/
import Derived.Test.YtebcapplclgaeacTy
import Derived.Test.YtebcapplclgaeacM9
namespace Go.Proofs.Ytebcapplclgaeac
open Go Gx
set_option linter.unusedVariables false
theorem en_impl_divisor : Enters Try.prog 56 := enters_of Try.func56 (by kernel_rfl) (by kernel_rfl)
set_option maxRecDepth 100000 in
theorem w_impl_divisor {a b : Nat} (ha : a ≤ 10000000000) (hb : b ≤ 10000000000) : CR Try.prog 56 (vals [.int .i64 (a : Int), .int .i64 (b : Int)]) [] (.int .i64 ((Nat.gcd a b : Nat) : Int)) := by
  refine CR_intro (rs := [.tmp 4]) tt tok Try.func56 rfl rfl rfl (by first | rfl | assumption) fun w => ?_
  refine W_seq ?_
  refine W_region ?_
  refine Ops_p (p_assign rfl) (lt_dec rfl) ?_
  refine Ops_nil ?_
  refine W_seq ?_
  refine W_block ?_
  refine W_loop (α := Nat × Nat) (fun zz0 => ⟨[(0, .int .i64 ((zz0.1) : Int)), (1, .int .i64 ((zz0.2) : Int)), (4, .int .i64 0)], []⟩) (fun zz0 => Nat.gcd (zz0.1) (zz0.2) = Nat.gcd a b ∧ (zz0.1) ≤ 10000000000 ∧ (zz0.2) ≤ 10000000000) (fun zz0 => (zz0.2)) (a, b) ?_ ?_ ?_
  · exact ⟨rfl, ha, hb⟩
  · exact Wk.intro (.cons rfl (by first | rfl | exact veq_int (by first | omega | (dsimp only; omega))) (.cons rfl (by first | rfl | exact veq_int (by first | omega | (dsimp only; omega))) (.cons rfl (by first | rfl | exact veq_int (by first | omega | (dsimp only; omega))) .nil))) (.nil)
  · rintro ⟨p, q⟩ ⟨hG, hA, hB⟩
    try dsimp only at *
    refine W_seq ?_
    refine W_seq ?_
    refine W_region ?_
    refine Ops_p (p_move rfl) (lt_dec rfl) ?_
    refine Ops_p (p_neq rfl rfl) (lt_dec rfl) ?_
    refine Ops_nil ?_
    refine W_cond rfl (fun h1 => ?_) (fun h1 => ?_)
    · try simp only [bs] at h1
      refine W_skip ?_
      refine W_block ?_
      refine W_draw (by kernel_rfl) ?_
      show RA _ _ 6 _ _ _
      refine RA_quiet (g := 0) [0, 1, 2, 3, 4, 5] (by kernel_rfl) (by kernel_rfl) (by kernel_rfl) (by kernel_rfl) ?_
      refine WQ_cons rfl rfl rfl ((p_move rfl).q) (lt_dec rfl) ?_
      refine WQ_cons rfl rfl rfl ((p_move rfl).q) (lt_dec rfl) ?_
      refine WQ_cons rfl rfl rfl ((p_move rfl).q) (lt_dec rfl) ?_
      refine WQ_cons rfl rfl rfl ((p_rem rfl rfl (by first | omega | (dsimp only; omega)) (by first | omega | (dsimp only; omega))).q) (lt_dec rfl) ?_
      refine WQ_cons rfl rfl rfl ((p_assign rfl).q) (lt_dec rfl) ?_
      refine WQ_cons rfl rfl rfl ((p_assign rfl).q) (lt_dec rfl) ?_
      refine WQ_nil ?_
      refine RA_done (by kernel_rfl) ?_
      refine Exists.intro (q, p % q) (And.intro ?_ (And.intro ?_ ?_))
      · exact ⟨gcd_step.trans hG, hB, Nat.le_of_lt (Nat.lt_of_lt_of_le (Nat.mod_lt p (by omega)) hB)⟩
      · show _ < _; exact Nat.mod_lt _ (by omega)
      · exact Wk.intro (.cons rfl rfl (.cons rfl (veq_int (Int.natCast_emod p q).symm) (.cons rfl (by first | rfl | exact veq_int (by first | omega | (dsimp only; omega))) .nil))) (.nil)
    · try simp only [bs] at h1
      refine W_exit ?_
      refine W_seq ?_
      refine W_region ?_
      refine Ops_p (p_move rfl) (lt_dec rfl) ?_
      refine Ops_p (p_assign rfl) (lt_dec rfl) ?_
      refine Ops_nil ?_
      refine W_ret ?_
      refine Exists.intro _ (And.intro (.cons (.tmp rfl) .nil) ?_)
      obtain rfl : q = 0 := (by omega); exact veq_int (by rw [← hG, Nat.gcd_zero_right])
end Go.Proofs.Ytebcapplclgaeac
