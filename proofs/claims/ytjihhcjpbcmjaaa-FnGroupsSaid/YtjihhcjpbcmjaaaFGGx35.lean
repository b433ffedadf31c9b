/- Two operations come next, one or both behind a test. No conditions but those in the statements. -/
import Derived.Test.YtjihhcjpbcmjaaaFGGx26
import Derived.Test.YtjihhcjpbcmjaaaFGGx28
namespace Go.Proofs.Ytjihhcjpbcmjaaa
open Go
namespace Gx
set_option linter.unusedVariables false
inductive Gd (E : Env) (ops : Array Oper) (o : Oper) (s : St) (K : St → Prop) : Prop
  | plain (hg : o.guard = none) (x : Xt E o s K)
  | want {g t : Nat} {want : Bool} (hg : o.guard = some (g, want)) (ht : (ops[g]?).bind (·.dst) = some t) (hb : get s.tm t = some (.bool want)) (x : Xt E o s K)
  | skip {g t k : Nat} {want b : Bool} (hg : o.guard = some (g, want)) (ht : (ops[g]?).bind (·.dst) = some t) (hb : get s.tm t = some (.bool b)) (hbw : b = !want) (hd : o.dst = some k) (hk : k < E.n) (x : K (s.put k (.tup [])))
theorem Gd.wp {E : Env} {ops : Array Oper} {o : Oper} {s : St} {K : St → Prop} {i : Nat} (ho : ops[i]? = some o) {a : Act} {w : World} (hok : ok E s a w) {K' : Act → World → Prop} {Q : Exit → Act → World → Prop} (h : Gd E ops o s K) (hK : ∀ s' a' w', K s' → ok E s' a' w' → K' a' w') : (if Region.wanted o (yielded ops a.tmps) then o.wp E.P a w K' Q ∨ (o.asks E.P a w ∧ LetsOut Q) else K' (a.put o.dst undef) w) := by
  cases h with
  | plain hg x => rw [if_pos (by simp [Region.wanted, hg])]; exact .inl (x a w hok _ Q fun s' a' w' hs' ho' => hK s' a' w' hs' ho')
  | want hg ht hb x =>
    have hw := wanted_of hok.t (o := o) hg ht hb
    rw [hw, if_pos (by simp)]; exact .inl (x a w hok _ Q fun s' a' w' hs' ho' => hK s' a' w' hs' ho')
  | skip hg ht hb hbw hd hk x =>
    have hw := wanted_of hok.t (o := o) hg ht hb
    rw [hw, if_neg (by subst hbw; rename_i want; cases want <;> simp), hd]
    exact hK _ _ w x (hok.put (d := .tup []) hk)
theorem RA_twoD {E : Env} {ops : Array Oper} {K : St → Prop} {s : St} {fuel : Nat} {listed : Array Bool} (i j : Nat) {oi oj : Oper} (hi : ops[i]? = some oi) (hj : ops[j]? = some oj) (hr : Region.ready .any ops listed = [i, j]) (h1 : Gd E ops oi s (RA E ops fuel (listed.setIfInBounds i true) K)) (h2 : Gd E ops oj s (RA E ops fuel (listed.setIfInBounds j true) K)) : RA E ops (fuel + 1) listed K s :=
  ⟨fun a w hok Q hQ hp => wpAny_all hr (by simp) fun q hq => by
    simp only [List.mem_cons, List.not_mem_nil, or_false] at hq
    rcases hq with rfl | rfl
    · unfold wpOp
      simp only [hi]
      exact h1.wp hi hok fun s' a' w' hs' ho' => hs'.out a' w' ho' Q hQ hp
    · unfold wpOp
      simp only [hj]
      exact h2.wp hj hok fun s' a' w' hs' ho' => hs'.out a' w' ho' Q hQ hp⟩
/-- A pure operation behind a test that is met. -/
theorem RA_takeG {E : Env} {ops : Array Oper} {K : St → Prop} {s : St} {fuel : Nat} {listed : Array Bool} (i : Nat) {o : Oper} {k g t : Nat} {want : Bool} {d : D} (ho : ops[i]? = some o) (hg : o.guard = some (g, want)) (ht : (ops[g]?).bind (·.dst) = some t) (hb : get s.tm t = some (.bool want)) (hd : o.dst = some k) (hs : Region.noSelect ops = true) (hf : Region.free .any ops listed i = true) (hr : (Region.ready .any ops listed).contains i = true)
    (hp : Pt E o s d) (hk : k < E.n) (h : RA E ops fuel (listed.setIfInBounds i true) K (s.put k d)) : RA E ops (fuel + 1) listed K s := ⟨fun a w hok Q hQ hpn =>
  wpAny_take ho hs hf hr (fun c a w q => hpn c _ _ w q) (v := d.val) (.inl ⟨by rw [wanted_of hok.t (o := o) hg ht hb]; simp, hp a hok.t⟩) (by rw [hd]; exact h.out _ w (hok.put hk) Q hQ hpn)⟩
/-- An operation behind a test that is not met. -/
theorem RA_takeU {E : Env} {ops : Array Oper} {K : St → Prop} {s : St} {fuel : Nat} {listed : Array Bool} (i : Nat) {o : Oper} {k g t : Nat} {want b : Bool} (ho : ops[i]? = some o) (hg : o.guard = some (g, want)) (ht : (ops[g]?).bind (·.dst) = some t) (hb : get s.tm t = some (.bool b)) (hbw : b = !want) (hd : o.dst = some k) (hs : Region.noSelect ops = true) (hf : Region.free .any ops listed i = true) (hr : (Region.ready .any ops listed).contains i = true)
    (hk : k < E.n) (h : RA E ops fuel (listed.setIfInBounds i true) K (s.put k (.tup []))) : RA E ops (fuel + 1) listed K s := ⟨fun a w hok Q hQ hpn =>
  wpAny_take ho hs hf hr (fun c a w q => hpn c _ _ w q) (v := (D.tup []).val) (.inr ⟨by rw [wanted_of hok.t (o := o) hg ht hb]; subst hbw; cases want <;> simp, rfl⟩) (by rw [hd]; exact h.out _ w (hok.put (d := .tup []) hk) Q hQ hpn)⟩
end Gx
end Go.Proofs.Ytjihhcjpbcmjaaa
