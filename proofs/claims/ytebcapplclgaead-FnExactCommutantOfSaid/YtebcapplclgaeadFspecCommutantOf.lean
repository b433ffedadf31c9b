/- What the Go function spec.CommutantOf does, shown of its loaded text; its conditions stand in the statement. -/
import Derived.Test.YtebcapplclgaeadTy
import Derived.Test.YtebcapplclgaeadFspecl01Loop
import Derived.Test.YtebcapplclgaeadFspecl05Commutant
import Derived.Test.YtebcapplclgaeadGx12
import Derived.Test.YtebcapplclgaeadGx17
import Derived.Test.YtebcapplclgaeadM14
namespace Go.Proofs.Ytebcapplclgaead
open Go Gx
set_option linter.unusedVariables false
theorem en_spec_CommutantOf : Enters Try.prog 34 := enters_of Try.func34 (by kernel_rfl) (by kernel_rfl)
set_option maxRecDepth 100000 in
theorem w_spec_CommutantOf {t : Nat → Fin 256} {n : Int}  : CT (X := V1) Try.prog 34 (vals [.agg [.int .i64 n, .arr8 100 t]]) [] [] (fun x => True) (fun x => .tup [.raw x.1 x.2, .int .i64 (bif isLp n t then 0 else 1)]) (fun x => [own x.1 2 (.ints .i64 (cmL n t))]) := by
  refine CT_intro (rs := [.tmp 2, .tmp 3]) tt tok Try.func34 rfl rfl rfl (by first | rfl | assumption) fun w => ?_
  show W _ _ _ ⟨tmOf 0 [.agg [.int .i64 n, .arr8 100 t]], []⟩
  refine W_seq ?_
  refine W_region ?_
  refine Ops_x rfl (x_box rfl rfl (lt_dec rfl) fun b1_1 => ?_)
  refine Ops_p (p_assign rfl) (lt_dec rfl) ?_
  refine Ops_p (p_assign rfl) (lt_dec rfl) ?_
  refine Ops_nil ?_
  refine W_seq ?_
  refine W_seq ?_
  refine W_region ?_
  refine Ops_q (q_load rfl rfl m0 rfl (by first | trivial | (first | omega | (dsimp only; omega)) | exact Fin.isLt _ | (dsimp only; omega))) (lt_dec rfl) ?_
  refine Ops_q (q_call en_spec_l01Loop rfl (w_spec_l01Loop) (View.none _)) (lt_dec rfl) ?_
  refine Ops_p (p_not rfl) (lt_dec rfl) ?_
  refine Ops_nil ?_
  refine W_cond rfl (fun h1 => ?_) (fun h1 => ?_)
  · try simp only [bs] at h1
    have hl : isLp n t = false := (show (isSq n t && allB n.toNat (unitP t 0)) = false from (by first | assumption | (rw [Bool.and_eq_false_iff]; assumption)))
    refine W_seq ?_
    refine W_region ?_
    refine Ops_p (p_assign rfl) (lt_dec rfl) ?_
    refine Ops_p (p_assign rfl) (lt_dec rfl) ?_
    refine Ops_nil ?_
    refine W_ret ?_
    refine Exists.intro _ (And.intro (.cons (.tmp rfl) (.cons (.tmp rfl) .nil)) (Exists.intro ⟨.slice none 0 0, rfl⟩ (And.intro ?_ (And.intro ?_ (And.intro (.free rfl (own_nil (by rw [cmL_f hl]; rfl) (by rw [cmL_f hl]; rfl)) .nil) rfl)))))
    · trivial
    · rw [hl]; rfl
  · try simp only [bs] at h1
    have hl : isLp n t = true := (show (isSq n t && allB n.toNat (unitP t 0)) = true from (by first | assumption | (rw [Bool.and_eq_true]; assumption))); have hs := lp_sq hl; have hn := hs.1
    refine W_skip ?_
    refine W_seq ?_
    refine W_region ?_
    refine Ops_q (q_load rfl rfl m0 rfl (by first | trivial | (first | omega | (dsimp only; omega)) | exact Fin.isLt _ | (dsimp only; omega))) (lt_dec rfl) ?_
    refine Ops_x rfl (x_callT en_spec_l05Commutant rfl (w_spec_l05Commutant hn) HpDels.nil (Vw.none _) (fun _ => (HpDels.cons HpDel.head HpDels.nil)) (lt_dec rfl) fun x8_1 _ => ?_)
    refine Ops_p (p_assign rfl) (lt_dec rfl) ?_
    refine Ops_p (p_assign rfl) (lt_dec rfl) ?_
    refine Ops_nil ?_
    refine W_ret ?_
    refine Exists.intro _ (And.intro (.cons (.tmp rfl) (.cons (.tmp rfl) .nil)) (Exists.intro ⟨x8_1.1, x8_1.2⟩ (And.intro ?_ (And.intro ?_ (And.intro (.cons HpDel.head rfl (own_eq (by rw [cmL_t hl])) .nil) rfl)))))
    · trivial
    · rw [hl]; rfl
end Go.Proofs.Ytebcapplclgaead
