/- What the Go function laws.FnExactIsTerm does, shown of its loaded text; its conditions stand in the statement. -/
import Derived.Test.YtnfppiogmcoifaaTy
import Derived.Test.YtnfppiogmcoifaaFimplIsTerm
import Derived.Test.YtnfppiogmcoifaaFlawseqByteS
import Derived.Test.YtnfppiogmcoifaaFlawstoByteS
import Derived.Test.YtnfppiogmcoifaaFspecIsTerm
import Derived.Test.YtnfppiogmcoifaaGx12
import Derived.Test.YtnfppiogmcoifaaGx20
import Derived.Test.YtnfppiogmcoifaaM13
namespace Go.Proofs.Ytnfppiogmcoifaa
open Go Gx
set_option linter.unusedVariables false
theorem en_laws_FnExactIsTerm : Enters Try.prog 5 := enters_of Try.func5 (by kernel_rfl) (by kernel_rfl)
set_option maxRecDepth 100000 in
theorem w_laws_FnExactIsTerm {a : Value} {ha : a.oneCell' = true} {l : List (Fin 256)} (hl0 : l.length ≤ maxLen) : CR Try.prog 5 (vals [.raw a ha]) [rd a (.u8s l)] (.bool true) := by
  refine CR_intro (rs := [.tmp 2]) tt tok Try.func5 rfl rfl rfl (by first | rfl | assumption) fun w => ?_
  refine W_seq ?_
  refine W_region ?_
  refine Ops_p (p_assign rfl) (lt_dec rfl) ?_
  refine Ops_nil ?_
  refine W_seq ?_
  refine W_seq ?_
  refine W_region ?_
  refine Ops_p (p_move rfl) (lt_dec rfl) ?_
  refine Ops_q ((q_lenR rfl rfl rfl (Rds.rd m0)).eq (d' := .int .i64 ((l.length : Nat) : Int)) rfl) (lt_dec rfl) ?_
  refine Ops_p (p_gtr rfl rfl) (lt_dec rfl) ?_
  refine Ops_nil ?_
  refine W_cond rfl (fun h1 => ?_) (fun h1 => ?_)
  · try simp only [bs] at h1
    refine W_seq ?_
    refine W_region ?_
    refine Ops_p (p_assign rfl) (lt_dec rfl) ?_
    refine Ops_nil ?_
    refine W_ret ?_
    refine Exists.intro _ (And.intro (.cons (.tmp rfl) .nil) ?_)
    first | rfl | (refine veq_bool ?_; simp_all; done) | (refine veq_bool ?_; simp; omega) | (refine veq_bool ?_; rw [eq_comm, decide_eq_false_iff_not]; omega) | (refine veq_bool ?_; rw [eq_comm, decide_eq_true_iff]; omega) | (refine veq_int ?_; omega) | (refine veq_arr8 fun j hj => ?_; (try dsimp only); first | (simp; done) | (simp; omega) | ((repeat' split) <;> first | rfl | (exfalso; omega) | (congr 1; omega) | (simp_all; done)))
  · try simp only [bs] at h1
    have hl : l.length ≤ 1048576 := (by omega)
    refine W_skip ?_
    refine W_seq ?_
    refine W_region ?_
    refine Ops_p (p_move rfl) (lt_dec rfl) ?_
    refine Ops_x rfl (x_callT en_laws_toByteS rfl (w_laws_toByteS (by first | assumption | (first | omega | (dsimp only; omega)) | (simp; done) | decide)) HpDels.nil (Vw.rd m0) (fun _ => (HpDels.cons HpDel.head HpDels.nil)) (lt_dec rfl) fun x10_1 _ => ?_)
    refine Ops_q (q_call en_spec_IsTerm rfl (w_spec_IsTerm (by first | assumption | (first | omega | (dsimp only; omega)) | (simp; done) | decide)) (Vw.rdO m0).v) (lt_dec rfl) ?_
    refine Ops_p (p_assign rfl) (lt_dec rfl) ?_
    refine Ops_nil ?_
    refine W_seq ?_
    refine W_region ?_
    refine Ops_p (p_move rfl) (lt_dec rfl) ?_
    refine Ops_x rfl (x_callT en_laws_toByteS rfl (w_laws_toByteS (by first | assumption | (first | omega | (dsimp only; omega)) | (simp; done) | decide)) HpDels.nil (Vw.rd m1) (fun _ => (HpDels.cons HpDel.head HpDels.nil)) (lt_dec rfl) fun x13_1 _ => ?_)
    refine Ops_p (p_assign rfl) (lt_dec rfl) ?_
    refine Ops_nil ?_
    refine W_seq ?_
    refine W_region ?_
    refine Ops_p (p_move rfl) (lt_dec rfl) ?_
    refine Ops_q (q_call en_impl_IsTerm rfl (w_impl_IsTerm (by first | assumption | (first | omega | (dsimp only; omega)) | (simp; done) | decide)) (Vw.rdO m0).v) (lt_dec rfl) ?_
    refine Ops_p (p_assign rfl) (lt_dec rfl) ?_
    refine Ops_nil ?_
    refine W_seq ?_
    refine W_seq ?_
    refine W_region ?_
    refine Ops_p (p_move rfl) (lt_dec rfl) ?_
    refine Ops_p (p_move rfl) (lt_dec rfl) ?_
    refine Ops_p (p_neq_b rfl rfl rfl) (lt_dec rfl) ?_
    refine Ops_nil ?_
    refine W_cond rfl (fun h2 => ?_) (fun h2 => ?_)
    · try simp only [bs] at h2
      exfalso; exact h2 (by first | rfl | trivial)
    · try simp only [bs] at h2
      refine W_skip ?_
      refine W_seq ?_
      refine W_seq ?_
      refine W_region ?_
      refine Ops_p (p_move rfl) (lt_dec rfl) ?_
      refine Ops_p (p_move rfl) (lt_dec rfl) ?_
      refine Ops_x rfl (x_callT en_laws_toByteS rfl (w_laws_toByteS (by first | assumption | (first | omega | (dsimp only; omega)) | (simp; done) | decide)) HpDels.nil (Vw.rd m2) (fun _ => (HpDels.cons HpDel.head HpDels.nil)) (lt_dec rfl) fun x21_1 _ => ?_)
      refine Ops_q (q_call en_laws_eqByteS rfl (w_laws_eqByteS (by first | assumption | (first | omega | (dsimp only; omega)) | (simp; done) | decide)) (View.cons (Vw.rdO m1).v (Vw.rdO m0).v rfl rfl)) (lt_dec rfl) ?_
      refine Ops_p (p_not rfl) (lt_dec rfl) ?_
      refine Ops_nil ?_
      refine W_false rfl ?_
      refine W_skip ?_
      refine W_seq ?_
      refine W_region ?_
      refine Ops_p (p_assign rfl) (lt_dec rfl) ?_
      refine Ops_nil ?_
      refine W_ret ?_
      refine Exists.intro _ (And.intro (.cons (.tmp rfl) .nil) ?_)
      first | rfl | (refine veq_bool ?_; simp_all; done) | (refine veq_bool ?_; simp; omega) | (refine veq_bool ?_; rw [eq_comm, decide_eq_false_iff_not]; omega) | (refine veq_bool ?_; rw [eq_comm, decide_eq_true_iff]; omega) | (refine veq_int ?_; omega) | (refine veq_arr8 fun j hj => ?_; (try dsimp only); first | (simp; done) | (simp; omega) | ((repeat' split) <;> first | rfl | (exfalso; omega) | (congr 1; omega) | (simp_all; done)))
end Go.Proofs.Ytnfppiogmcoifaa
