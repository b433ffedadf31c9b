/- What the Go function impl.SignOfPlaces does, shown of its loaded text; its conditions stand in the statement. -/
import Derived.Test.YtnfppiogmcoifaaTy
import Derived.Test.YtnfppiogmcoifaaFimplarePermutations
import Derived.Test.YtnfppiogmcoifaaFimplsign
import Derived.Test.YtnfppiogmcoifaaM3
namespace Go.Proofs.Ytnfppiogmcoifaa
open Go Gx
set_option linter.unusedVariables false
theorem en_impl_SignOfPlaces : Enters Try.prog 35 := enters_of Try.func35 (by kernel_rfl) (by kernel_rfl)
set_option maxRecDepth 100000 in
theorem w_impl_SignOfPlaces {p : Nat → Fin 256} {n : Int}  : CR Try.prog 35 (vals [.arr8 10 p, .int .i64 n]) [] (.tup [.int .i64 (bif isPerm p n then sgn p n.toNat else 0), .int .i64 (bif isPerm p n then 0 else 1)]) := by
  refine CR_intro (rs := [.tmp 4, .tmp 5]) tt tok Try.func35 rfl rfl rfl rfl fun w => ?_
  refine W_seq ?_
  refine W_region ?_
  refine Ops_x rfl (x_box rfl rfl (lt_dec rfl) fun b2_1 => ?_)
  refine Ops_p (p_assign rfl) (lt_dec rfl) ?_
  refine Ops_p (p_assign rfl) (lt_dec rfl) ?_
  refine Ops_nil ?_
  refine W_seq ?_
  refine W_seq ?_
  refine W_region ?_
  refine Ops_p (p_move rfl) (lt_dec rfl) ?_
  refine Ops_q (q_load rfl rfl m0 rfl (by first | trivial | (omega) | exact Fin.isLt _ | (dsimp only; omega))) (lt_dec rfl) ?_
  refine Ops_x rfl (x_buildSlice rfl rfl rfl rfl rfl rfl rfl rfl (Nat.le_of_ble_eq_true rfl) (lt_dec rfl) fun b8_1 => ?_)
  refine Ops_q (q_call en_impl_arePermutations rfl (w_impl_arePermutations (by first | assumption | (omega) | (simp; done) | decide) (by first | assumption | (omega) | (simp; done) | decide)) (View.row m0)) (lt_dec rfl) ?_
  refine Ops_p (p_not rfl) (lt_dec rfl) ?_
  refine Ops_nil ?_
  refine W_cond rfl (fun h1 => ?_) (fun h1 => ?_)
  · try simp only [bs] at h1
    rw [permsAll_1] at h1
    refine W_seq ?_
    refine W_region ?_
    refine Ops_p (p_assign rfl) (lt_dec rfl) ?_
    refine Ops_p (p_assign rfl) (lt_dec rfl) ?_
    refine Ops_nil ?_
    refine W_ret ?_
    refine Exists.intro _ (And.intro (.cons (.tmp rfl) (.cons (.tmp rfl) .nil)) ?_)
    rw [h1]; rfl
  · try simp only [bs] at h1
    rw [permsAll_1] at h1
    refine W_skip ?_
    refine W_seq ?_
    refine W_region ?_
    refine Ops_q (q_load rfl rfl m1 rfl (by first | trivial | (omega) | exact Fin.isLt _ | (dsimp only; omega))) (lt_dec rfl) ?_
    refine Ops_p (p_move rfl) (lt_dec rfl) ?_
    refine Ops_q (q_call en_impl_sign rfl (w_impl_sign (of_isPerm h1)) (View.none _)) (lt_dec rfl) ?_
    refine Ops_p (p_assign rfl) (lt_dec rfl) ?_
    refine Ops_p (p_assign rfl) (lt_dec rfl) ?_
    refine Ops_nil ?_
    refine W_ret ?_
    refine Exists.intro _ (And.intro (.cons (.tmp rfl) (.cons (.tmp rfl) .nil)) ?_)
    rw [h1]; rfl
end Go.Proofs.Ytnfppiogmcoifaa
