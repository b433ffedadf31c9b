/- Calls that turn one variable of the caller's, and hand back a value; no conditions but those in the statements. -/
import Derived.Test.YtebcapplclgaeadGx6
namespace Go.Proofs.Ytebcapplclgaead
open Go
namespace Gx
open Go.RowKit (Below)
set_option linter.unusedVariables false
/-- From the variable b that holds d0 (and what else is needed) the call hands back d, and b holds d1; nothing else that was has turned. -/
def CV (P : Program) (f : FuncId) (args : Array Value) (b : Nat) (d0 : D) (need : List Ent) (d d1 : D) : Prop := ∀ w, HpOk (.var b d0 :: need) w →
  Calls P f args w (fun e w' => e = .returned d.val ∧ (Ent.var b d1).ok w' ∧ w'.os = w.os ∧ w'.tape = w.tape ∧ w'.output = w.output ∧ w.heap.size ≤ w'.heap.size ∧ ∀ q, q < w.heap.size → q ≠ b → w'.heap[q]? = w.heap[q]?)
theorem CV.val {P : Program} {f : FuncId} {args : Array Value} {b : Nat} {d0 d1 d d' : D} {need : List Ent} (h : CV P f args b d0 need d d1) (e : d.val = d'.val) : CV P f args b d0 need d' d1 := fun w hh => by rw [← e]; exact h w hh

section
variable {E : Env} {s : St} {dst : Option Tmp} {ty : TypeId} {ps : String} {af : Array Edge} {gd : Option (Nat × Bool)} {k : Nat} {K : St → Prop}
theorem x_callV {f : FuncId} {xs : List Operand} {tys : Array TypeId} {ds : List D} {b : Nat} {d0 d1 d : D} {need hp' : List Ent} (hen : Enters E.P f) (hx : evs s xs = some ds) (hc : CV E.P f (vals ds) b d0 need d d1) (hv : View s.hp (.var b d0 :: need))
    (hr : HpRep (.var b d0) (.var b d1) s.hp hp') (hk : k < E.n) (h : K ⟨(k, d) :: s.tm, hp'⟩) : Xt E ⟨some k, .call { callee := .value (.func f), args := xs.toArray, argTypes := tys }, ty, ps, af, gd⟩ s K := fun a w ho Kw Q hKw => by
  have e : a.eval (.func f) = .func (.func f) #[] #[] := rfl
  have hrun : (execOp a.eval ⟨some k, .call { callee := .value (.func f), args := xs.toArray, argTypes := tys }, ty, ps, af, gd⟩).run E.P w = .ok (.enter f (vals ds)) w := by
    simp [execOp, resolve, e, Deferred.ofValue, invoke, ho.evs hx, vals]
    exact hen _ w
  unfold Oper.wp
  rw [hrun]
  simp only [Oper.upon_enter]
  refine (hc w (hv w ho.hp)).mono fun e w' ⟨he, h1, h2, h3, h4, h5, h6⟩ => ?_
  subst he
  exact hKw _ _ _ h ((ho.rep (b := b) (b' := b) hr rfl rfl rfl rfl h1 h6 (.inl rfl) h2 h3 h4 h5).put (d := d) hk)
theorem x_callvV {f : FuncId} {x : Operand} {first cap : Array Value} {hh : (Value.func (.func f) first cap).oneCell' = true} {xs : List Operand} {tys : Array TypeId} {ds : List D} {b : Nat} {d0 d1 d : D} {need hp' : List Ent} (hen : Enters E.P f)
    (hf : ev s x = some (.raw (.func (.func f) first cap) hh)) (hx : evs s xs = some ds) (hc : CV E.P f (first ++ vals ds ++ cap) b d0 need d d1) (hv : View s.hp (.var b d0 :: need))
    (hr : HpRep (.var b d0) (.var b d1) s.hp hp') (hk : k < E.n) (h : K ⟨(k, d) :: s.tm, hp'⟩) : Xt E ⟨some k, .call { callee := .value x, args := xs.toArray, argTypes := tys }, ty, ps, af, gd⟩ s K := fun a w ho Kw Q hKw => by
  have hrun : (execOp a.eval ⟨some k, .call { callee := .value x, args := xs.toArray, argTypes := tys }, ty, ps, af, gd⟩).run E.P w = .ok (.enter f (first ++ vals ds ++ cap)) w := by
    simp [execOp, resolve, ho.ev hf, D.val, Deferred.ofValue, invoke, ho.evs hx, vals]
    exact hen _ w
  unfold Oper.wp
  rw [hrun]
  simp only [Oper.upon_enter]
  refine (hc w (hv w ho.hp)).mono fun e w' ⟨he, h1, h2, h3, h4, h5, h6⟩ => ?_
  subst he
  exact hKw _ _ _ h ((ho.rep (b := b) (b' := b) hr rfl rfl rfl rfl h1 h6 (.inl rfl) h2 h3 h4 h5).put (d := d) hk)
end

theorem CV_intro {P : Program} (tt : Nat → Option TI) (tok : ∀ t i, tt t = some i → i.met P t) {f : FuncId} {fn : Func} {c : Code} {rs : List ResultVar} {ds : List D} {b : Nat} {d0 d1 d : D} {need : List Ent} (hf : P.funcs[f]? = some fn) (hb : fn.body = some c)
    (hr : fn.results = rs.toArray) (hn : Nat.ble ds.length fn.ntmps = true) (hw : wkeys need = [])
    (h : ∀ w, W ⟨P, tt, tok, fn.ntmps, w, [b]⟩ c (retQ fun s => ∃ ds', ResL ⟨P, tt, tok, fn.ntmps, w, [b]⟩ s rs ds' ∧ (resD ds').val = d.val ∧ ∃ d1', Ent.var b d1' ∈ s.hp ∧ d1'.cells = d1.cells ∧ d1.flat = true) ⟨tmOf 0 ds, .var b d0 :: need⟩) : CV P f (vals ds) b d0 need d d1 := fun w hh => by
  have hkeys : wkeys (Ent.var b d0 :: need) = [b] := by
    show [b] ++ wkeys need = [b]
    rw [hw]; rfl
  refine calls_of_wp hf hb (wp_mono ((h w).out _ w (ok_enter (by simpa using hn) hh [b] (by rw [hkeys]; simp))) ?_)
  rintro e a w' ⟨s', q, o⟩
  have fin : (∃ ds', ResL ⟨P, tt, tok, fn.ntmps, w, [b]⟩ s' rs ds' ∧ (resD ds').val = d.val ∧ ∃ d1', Ent.var b d1' ∈ s'.hp ∧ d1'.cells = d1.cells ∧ d1.flat = true) → bodyPost P fn (fun e w' => e = .returned d.val ∧ (Ent.var b d1).ok w' ∧ w'.os = w.os ∧ w'.tape = w.tape ∧ w'.output = w.output ∧ w.heap.size ≤ w'.heap.size ∧ ∀ q, q < w.heap.size → q ≠ b → w'.heap[q]? = w.heap[q]?) .normal a w' :=
    fun ⟨ds', h1, h2, d1', h3, h4, h5⟩ => ⟨o.defers, d.val, by rw [← h2]; exact results_run o hr h1, rfl, imp_var h4 h5 _ (o.hp.all _ h3), o.fr.os, o.fr.tape, o.fr.output, o.fr.size, fun j hj hne => o.fr.block j hj (by simpa using hne)⟩
  cases e with
  | normal => exact fin q
  | ret => exact fin q
  | exit id => exact q.elim
  | goto l => exact q.elim
  | panic ch => exact q.elim
  | outgrown => exact q.elim

/-- The variable that is turned, and what else is read: of other sizes, so of other blocks. -/
theorem View.w {hp need : List Ent} {b : Nat} {d0 : D} (m : Ent.var b d0 ∈ hp) (v : View hp need) (hw : wkeys need = []) (hs : ∀ e ∈ need, ∃ b2 d2, e = .rvar b2 d2 ∧ d2.size ≠ d0.size) : View hp (.var b d0 :: need) := fun w hh => by
  have hn := v w hh
  have hkeys : wkeys (Ent.var b d0 :: need) = [b] := by
    show [b] ++ wkeys need = [b]
    rw [hw]; rfl
  refine ⟨fun x hx => ?_, by rw [hkeys]; simp, fun k hk => ?_⟩
  · rcases List.mem_cons.1 hx with rfl | hx
    · exact hh.all _ m
    · exact hn.all _ hx
  · rw [hkeys, List.mem_singleton]
    rintro rfl
    have hk' : k ∈ rkeys need := by
      have e1 : rkeys (Ent.var k d0 :: need) = [] ++ rkeys need := rfl
      rw [e1] at hk
      simpa using hk
    obtain ⟨e, he, hek⟩ : ∃ e ∈ need, k ∈ e.rkey := by
      clear hn hkeys hk v hs hw
      induction need with
      | nil => cases hk'
      | cons a r ih =>
        rcases List.mem_append.1 (show k ∈ a.rkey ++ rkeys r from hk') with h1 | h1
        · exact ⟨a, by simp, h1⟩
        · obtain ⟨e, h2, h3⟩ := ih h1
          exact ⟨e, by simp [h2], h3⟩
    obtain ⟨b2, d2, rfl, hne⟩ := hs e he
    obtain rfl : k = b2 := by simpa [Ent.rkey] using hek
    obtain ⟨_, t1, h1⟩ := hh.all _ m
    obtain ⟨_, t2, h2⟩ := hn.all _ he
    rw [h1] at h2
    simp only [Option.some.injEq, Obj.cells.injEq] at h2
    have h3 : d0.cells = d2.cells := by simpa using h2.1
    have h4 := congrArg List.length h3
    rw [D.length_cells, D.length_cells] at h4
    exact hne h4.symm
end Gx
end Go.Proofs.Ytebcapplclgaead
