/- What the Go function spec.BackPlaces does, shown of its loaded text; its conditions stand in the statement. -/
import Derived.Test.YtnfppiogmcoifaaTy
import Derived.Test.YtnfppiogmcoifaaFspecl01Back
import Derived.Test.YtnfppiogmcoifaaFspecl01Perm
import Derived.Test.YtnfppiogmcoifaaM2
namespace Go.Proofs.Ytnfppiogmcoifaa
open Go Gx
set_option linter.unusedVariables false
theorem en_spec_BackPlaces : Enters Try.prog 39 := enters_of Try.func39 (by kernel_rfl) (by kernel_rfl)
set_option maxRecDepth 100000 in
theorem w_spec_BackPlaces {p : Nat → Fin 256} {n : Int}  : CR Try.prog 39 (vals [.arr8 10 p, .int .i64 n]) [] (.tup [.arr8 10 (bif isPerm p n then backT p n.toNat else fun _ => 0), .int .i64 (bif isPerm p n then 0 else 1)]) := by
  refine CR_intro (rs := [.cell 4 25, .tmp 5]) tt tok Try.func39 rfl rfl rfl rfl fun w => ?_
  refine W_seq ?_
  refine W_region ?_
  refine Ops_x rfl (x_box rfl rfl (lt_dec rfl) fun b2_1 => ?_)
  refine Ops_x rfl (x_alloc rfl (lt_dec rfl) fun b4_1 => ?_)
  refine Ops_p (p_assign rfl) (lt_dec rfl) ?_
  refine Ops_nil ?_
  refine W_seq ?_
  refine W_seq ?_
  refine W_region ?_
  refine Ops_q (q_load rfl rfl m1 rfl (by first | trivial | (omega) | exact Fin.isLt _)) (lt_dec rfl) ?_
  refine Ops_p (p_move rfl) (lt_dec rfl) ?_
  refine Ops_q (q_call en_spec_l01Perm rfl (w_spec_l01Perm) (View.none _)) (lt_dec rfl) ?_
  refine Ops_p (p_not rfl) (lt_dec rfl) ?_
  refine Ops_nil ?_
  refine W_cond rfl (fun h1 => ?_) (fun h1 => ?_)
  · try simp only [bs] at h1
    refine W_seq ?_
    refine W_region ?_
    refine Ops_p (p_build_arr rfl rfl rfl rfl (by first | trivial | (omega) | exact Fin.isLt _)) (lt_dec rfl) ?_
    refine Ops_x rfl (x_store rfl rfl rfl rfl rfl HpRep.head rfl (by first | trivial | (first | (omega) | exact Fin.isLt _)) ?_)
    refine Ops_p (p_assign rfl) (lt_dec rfl) ?_
    refine Ops_nil ?_
    refine W_ret ?_
    refine Exists.intro _ (And.intro (.cons (.cell rfl rfl m0 rfl trivial) (.cons (.tmp rfl) .nil)) ?_)
    rw [h1]; rfl
  · try simp only [bs] at h1
    refine W_skip ?_
    refine W_seq ?_
    refine W_region ?_
    refine Ops_q (q_load rfl rfl m1 rfl (by first | trivial | (omega) | exact Fin.isLt _)) (lt_dec rfl) ?_
    refine Ops_p (p_move rfl) (lt_dec rfl) ?_
    refine Ops_q (q_call en_spec_l01Back rfl (w_spec_l01Back (of_isPerm h1)) (View.none _)) (lt_dec rfl) ?_
    refine Ops_x rfl (x_store rfl rfl rfl rfl rfl HpRep.head rfl (by first | trivial | (first | (omega) | exact Fin.isLt _)) ?_)
    refine Ops_p (p_assign rfl) (lt_dec rfl) ?_
    refine Ops_nil ?_
    refine W_ret ?_
    refine Exists.intro _ (And.intro (.cons (.cell rfl rfl m0 rfl trivial) (.cons (.tmp rfl) .nil)) ?_)
    rw [h1]; rfl
end Go.Proofs.Ytnfppiogmcoifaa
