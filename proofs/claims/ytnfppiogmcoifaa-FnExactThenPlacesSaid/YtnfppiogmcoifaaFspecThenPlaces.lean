/- What the Go function spec.ThenPlaces does, shown of its loaded text; its conditions stand in the statement. -/
import Derived.Test.YtnfppiogmcoifaaTy
import Derived.Test.YtnfppiogmcoifaaFspecl01Perm
import Derived.Test.YtnfppiogmcoifaaFspecl01Then
import Derived.Test.YtnfppiogmcoifaaM2
namespace Go.Proofs.Ytnfppiogmcoifaa
open Go Gx
set_option linter.unusedVariables false
theorem en_spec_ThenPlaces : Enters Try.prog 42 := enters_of Try.func42 (by kernel_rfl) (by kernel_rfl)
set_option maxRecDepth 100000 in
theorem w_spec_ThenPlaces {p q : Nat → Fin 256} {n : Int}  : CR Try.prog 42 (vals [.arr8 10 p, .arr8 10 q, .int .i64 n]) [] (.tup [.arr8 10 (bif isPerm p n && isPerm q n then thenT p q n.toNat else fun _ => 0), .int .i64 (bif isPerm p n && isPerm q n then 0 else 1)]) := by
  refine CR_intro (rs := [.cell 6 25, .tmp 7]) tt tok Try.func42 rfl rfl rfl rfl fun w => ?_
  refine W_seq ?_
  refine W_region ?_
  refine Ops_x rfl (x_box rfl rfl (lt_dec rfl) fun b3_1 => ?_)
  refine Ops_x rfl (x_box rfl rfl (lt_dec rfl) fun b4_1 => ?_)
  refine Ops_x rfl (x_alloc rfl (lt_dec rfl) fun b6_1 => ?_)
  refine Ops_p (p_assign rfl) (lt_dec rfl) ?_
  refine Ops_nil ?_
  refine W_seq ?_
  refine W_seq ?_
  refine W_region ?_
  refine Ops_q (q_load rfl rfl m2 rfl (by first | trivial | (omega) | exact Fin.isLt _)) (lt_dec rfl) ?_
  refine Ops_p (p_move rfl) (lt_dec rfl) ?_
  refine Ops_q (q_call en_spec_l01Perm rfl (w_spec_l01Perm) (View.none _)) (lt_dec rfl) ?_
  refine Ops_p (p_not rfl) (lt_dec rfl) ?_
  refine Ops_p (p_move rfl) (lt_dec rfl) ?_
  refine Ops_guard rfl rfl (lt_dec rfl) (fun hg1 => ?_) (fun hg1 => ?_)
  · try simp only [bs] at hg1
    refine Ops_q (q_load rfl rfl m1 rfl (by first | trivial | (omega) | exact Fin.isLt _)) (lt_dec rfl) ?_
    refine Ops_guard_t rfl rfl (lt_dec rfl) ?_
    refine Ops_p (p_move rfl) (lt_dec rfl) ?_
    refine Ops_guard_t rfl rfl (lt_dec rfl) ?_
    refine Ops_q (q_call en_spec_l01Perm rfl (w_spec_l01Perm) (View.none _)) (lt_dec rfl) ?_
    refine Ops_guard_t rfl rfl (lt_dec rfl) ?_
    refine Ops_p (p_not rfl) (lt_dec rfl) ?_
    refine Ops_p (p_pick_f rfl rfl) (lt_dec rfl) ?_
    refine Ops_nil ?_
    refine W_cond rfl (fun h1 => ?_) (fun h1 => ?_)
    · try simp only [bs] at h1
      refine W_seq ?_
      refine W_region ?_
      refine Ops_p (p_build_arr rfl rfl rfl rfl (by first | trivial | (omega) | exact Fin.isLt _)) (lt_dec rfl) ?_
      refine Ops_x rfl (x_store rfl rfl rfl rfl rfl HpRep.head rfl (by first | trivial | (first | (omega) | exact Fin.isLt _)) ?_)
      refine Ops_p (p_assign rfl) (lt_dec rfl) ?_
      refine Ops_nil ?_
      refine W_ret ?_
      refine Exists.intro _ (And.intro (.cons (.cell rfl rfl m0 rfl trivial) (.cons (.tmp rfl) .nil)) ?_)
      first | (simp [*]; done) | (simp [*]; rfl)
    · try simp only [bs] at h1
      refine W_skip ?_
      refine W_seq ?_
      refine W_region ?_
      refine Ops_q (q_load rfl rfl m2 rfl (by first | trivial | (omega) | exact Fin.isLt _)) (lt_dec rfl) ?_
      refine Ops_q (q_load rfl rfl m1 rfl (by first | trivial | (omega) | exact Fin.isLt _)) (lt_dec rfl) ?_
      refine Ops_p (p_move rfl) (lt_dec rfl) ?_
      refine Ops_q (q_call en_spec_l01Then rfl (w_spec_l01Then (of_isPerm (by simp_all; done))) (View.none _)) (lt_dec rfl) ?_
      refine Ops_x rfl (x_store rfl rfl rfl rfl rfl HpRep.head rfl (by first | trivial | (first | (omega) | exact Fin.isLt _)) ?_)
      refine Ops_p (p_assign rfl) (lt_dec rfl) ?_
      refine Ops_nil ?_
      refine W_ret ?_
      refine Exists.intro _ (And.intro (.cons (.cell rfl rfl m0 rfl trivial) (.cons (.tmp rfl) .nil)) ?_)
      first | (simp [*]; done) | (simp [*]; rfl)
  · try simp only [bs] at hg1
    refine Ops_guard_f rfl rfl rfl (lt_dec rfl) ?_
    refine Ops_guard_f rfl rfl rfl (lt_dec rfl) ?_
    refine Ops_guard_f rfl rfl rfl (lt_dec rfl) ?_
    refine Ops_p (p_pick_t rfl rfl) (lt_dec rfl) ?_
    refine Ops_nil ?_
    refine W_true rfl ?_
    refine W_seq ?_
    refine W_region ?_
    refine Ops_p (p_build_arr rfl rfl rfl rfl (by first | trivial | (omega) | exact Fin.isLt _)) (lt_dec rfl) ?_
    refine Ops_x rfl (x_store rfl rfl rfl rfl rfl HpRep.head rfl (by first | trivial | (first | (omega) | exact Fin.isLt _)) ?_)
    refine Ops_p (p_assign rfl) (lt_dec rfl) ?_
    refine Ops_nil ?_
    refine W_ret ?_
    refine Exists.intro _ (And.intro (.cons (.cell rfl rfl m0 rfl trivial) (.cons (.tmp rfl) .nil)) ?_)
    first | (simp [*]; done) | (simp [*]; rfl)
end Go.Proofs.Ytnfppiogmcoifaa
