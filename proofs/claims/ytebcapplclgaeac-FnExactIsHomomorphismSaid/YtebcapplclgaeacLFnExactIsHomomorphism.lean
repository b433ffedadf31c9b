/- The statement Rows.FnExactIsHomomorphismSaid, out of the walk of its function: for every input of the row. -/
import Derived.Test.YtebcapplclgaeacFlawsFnExactIsHomomorphism
import Derived.Test.YtebcapplclgaeacGx7
import Derived.Test.YtebcapplclgaeacRows
import Derived.Test.YtebcapplclgaeacGx13
namespace Go.Proofs.Ytebcapplclgaeac.fnExactIsHomomorphism
open Go Gx Go.ChangeShapes Go.WideShapes Go.ChangeAt Go.RowKit
set_option linter.unusedVariables false
theorem own : ownKnob Try.prog.godebug = none := by kernel_rfl
set_option maxRecDepth 100000 in
theorem lifted (os : Os) (started : os.Started) (H : Type) (enc : TypeId × Value → H) :
    ReturnsInHanded {} Try.checked os 10 .any (Rows.fnExactIsHomomorphismSpec.pre6 enc Try.prog Try.f10 Rows.fnExactIsHomomorphismRow.domain false) (Rows.fnExactIsHomomorphismSpec.post enc Try.prog Try.f10 false true false false) := by
  refine returnsInHanded_of_change (C := Try.checked) own started (by kernel_rfl) Try.func10
    (ChangeSpec.witness6 (enc := enc) (C := Try.checked) false ⟨#[], #[.agg (#[.int .i64 0] ++ Array.replicate 100 (.int .u8 0)), .agg (#[.int .i64 0] ++ Array.replicate 100 (.int .u8 0)), .slice none 0 0], []⟩ 8 (by kernel_rfl) (by kernel_rfl) (by kernel_rfl) (by kernel_rfl)) ?_
  intro W base args ds gs before hval0 hW hcnd _
  have hval : ∀ (j : Nat) t v, Try.f10.params[j]? = some t → args[j]? = some v → Value.okWide Try.prog W .any base t v := hval0
  have hW' := hW
  obtain ⟨p, q, hA0, hV, rfl, hfz, hnd⟩ := hW
  have hA : DataW.TrodAll enc Try.prog W 0 (fun _ => true) true Try.f10.params.toList args.toList ds p := hA0
  rw [Try.params10] at hA hval
  obtain ⟨v0, vs0, d0, ds0, p0, q0, hargs, rfl, rfl, h0, r0⟩ := trodAll_cons hA
  obtain ⟨v1, vs1, d1, ds1, p1, q1, rfl, rfl, rfl, h1, r1⟩ := trodAll_cons r0
  obtain ⟨v2, vs2, d2, ds2, p2, q2, rfl, rfl, rfl, h2, r2⟩ := trodAll_cons r1
  obtain ⟨rfl, rfl, rfl⟩ := trodAll_nil r2
  obtain rfl : args = #[v0, v1, v2] := by cases args; simp_all
  obtain ⟨rfl, rfl⟩ := trodVars_none hV
  obtain ⟨a0, b0, rfl, w0⟩ := op_int_arr8 (n := 100) Try.underlying25 (by kernel_rfl) (by kernel_rfl) Try.underlying2 Try.underlying5 (hval 0 25 v0 rfl rfl)
  obtain ⟨a1, b1, rfl, w1⟩ := op_int_arr8 (n := 100) Try.underlying25 (by kernel_rfl) (by kernel_rfl) Try.underlying2 Try.underlying5 (hval 1 25 v1 rfl rfl)
  obtain ⟨l2, r2, o2, b2, c2⟩ := op_i64s Try.underlying43 Try.underlying2 (by kernel_rfl) h2 (ok_slice Try.underlying43 (hval 2 43 v2 rfl rfl))
  refine (w_laws_FnExactIsHomomorphism (ha := o2) b2 c2 W (HpOk.one rfl r2)).mono fun e W2 ⟨he, hb⟩ => ?_
  subst he
  exact ⟨_, rfl, law_post (by kernel_rfl) (of_decide_eq_true (by kernel_rfl)) rfl rfl Try.underlying4 hW' rfl hb⟩
theorem proved : Rows.FnExactIsHomomorphismSaid :=
  OpenClaim.holds_of_wide 10 Try.f10 rfl rfl rfl rfl rfl rfl rfl ⟨rfl, rfl, rfl, rfl, rfl⟩ rfl rfl rfl rfl rfl (by kernel_rfl) Try.func10 (by kernel_rfl)
    (of_decide_eq_true (by kernel_rfl)) (by unfold Func.isWrapper; first | (rw [if_pos (by decide +kernel)]; kernel_rfl) | (rw [if_neg (by decide +kernel)]; exact ⟨rfl, rfl⟩))
    (fun os started H enc _ => lifted os started H enc)
#print axioms proved
end Go.Proofs.Ytebcapplclgaeac.fnExactIsHomomorphism
