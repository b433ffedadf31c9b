/- The ways of a branch meet again. No conditions but those in the statements. -/
import Derived.Test.YtjihhcjpbcmjaaaFGGx12
namespace Go.Proofs.Ytjihhcjpbcmjaaa
open Go
namespace Gx
theorem W_cutE {E : Env} {x y : Code} {Q : Exit → St → Prop} {s : St} (J : Env → St → Prop) (h : W E x (thenQ (J E) Q) s) (hr : ∀ s', J E s' → W E y Q s') : W E (.seq x y) Q s := W_cut (J E) h hr
theorem W_cut2 {E : Env} {x y z : Code} {Q : Exit → St → Prop} {s : St} (J : Env → St → Prop) (h : W E x (thenQ (W E y (thenQ (J E) Q)) Q) s) (hr : ∀ s', J E s' → W E z Q s') : W E (.seq x (.seq y z)) Q s := W_seq (W_mono h fun e s' q => by
  cases e with
  | normal => exact W_cutE J q hr
  | exit id => exact q
  | goto l => exact q
  | _ => exact q)
section
variable {E : Env} {ops : Array Oper} {K : St → Prop} {s : St}
/-- One of two operations comes next: both ways are walked. -/
theorem RA_two {fuel : Nat} {listed : Array Bool} (i j : Nat) {oi oj : Oper} (hi : ops[i]? = some oi) (hj : ops[j]? = some oj) (gi : oi.guard = none) (gj : oj.guard = none) (hr : Region.ready .any ops listed = [i, j]) (h1 : Xt E oi s (RA E ops fuel (listed.setIfInBounds i true) K)) (h2 : Xt E oj s (RA E ops fuel (listed.setIfInBounds j true) K)) : RA E ops (fuel + 1) listed K s :=
  ⟨fun a w hok Q hQ hp => wpAny_all hr (by simp) fun q hq => by
    simp only [List.mem_cons, List.not_mem_nil, or_false] at hq
    rcases hq with rfl | rfl
    · unfold wpOp
      simp only [hi]
      rw [if_pos (by simp [Region.wanted, gi])]
      exact .inl (h1 a w hok _ Q fun s' a' w' hs' ho' => hs'.out a' w' ho' Q hQ hp)
    · unfold wpOp
      simp only [hj]
      rw [if_pos (by simp [Region.wanted, gj])]
      exact .inl (h2 a w hok _ Q fun s' a' w' hs' ho' => hs'.out a' w' ho' Q hQ hp)⟩
theorem RA_three {fuel : Nat} {listed : Array Bool} (i j q : Nat) {oi oj oq : Oper} (hi : ops[i]? = some oi) (hj : ops[j]? = some oj) (hq : ops[q]? = some oq) (gi : oi.guard = none) (gj : oj.guard = none) (gq : oq.guard = none) (hr : Region.ready .any ops listed = [i, j, q]) (h1 : Xt E oi s (RA E ops fuel (listed.setIfInBounds i true) K)) (h2 : Xt E oj s (RA E ops fuel (listed.setIfInBounds j true) K)) (h3 : Xt E oq s (RA E ops fuel (listed.setIfInBounds q true) K)) : RA E ops (fuel + 1) listed K s :=
  ⟨fun a w hok Q hQ hp => wpAny_all hr (by simp) fun z hz => by
    simp only [List.mem_cons, List.not_mem_nil, or_false] at hz
    rcases hz with rfl | rfl | rfl
    · unfold wpOp
      simp only [hi]
      rw [if_pos (by simp [Region.wanted, gi])]
      exact .inl (h1 a w hok _ Q fun s' a' w' hs' ho' => hs'.out a' w' ho' Q hQ hp)
    · unfold wpOp
      simp only [hj]
      rw [if_pos (by simp [Region.wanted, gj])]
      exact .inl (h2 a w hok _ Q fun s' a' w' hs' ho' => hs'.out a' w' ho' Q hQ hp)
    · unfold wpOp
      simp only [hq]
      rw [if_pos (by simp [Region.wanted, gq])]
      exact .inl (h3 a w hok _ Q fun s' a' w' hs' ho' => hs'.out a' w' ho' Q hQ hp)⟩
end
theorem W_free {E : Env} {s : St} {c : Code} {Q : Exit → St → Prop} (e : Ent) (hw : e.wkey = []) (hr : e.rkey = []) (hok : ∀ w, e.ok w) (h : W E c Q ⟨s.tm, e :: s.hp⟩) : W E c Q s := W_wk (s' := ⟨s.tm, e :: s.hp⟩) (fun a w ho => ⟨ho.size, ho.defers, ho.tm, ⟨fun x hx => by
    rcases List.mem_cons.1 hx with rfl | hx
    · exact hok w
    · exact ho.hp.all x hx, by show (e.wkey ++ wkeys s.hp).Nodup; rw [hw]; exact ho.hp.nodup, fun b hb hb' => by
    have h1 : b ∈ e.rkey ++ rkeys s.hp := hb
    have h2 : b ∈ e.wkey ++ wkeys s.hp := hb'
    rw [hr] at h1; rw [hw] at h2
    exact ho.hp.apart b h1 h2⟩, ⟨ho.fr.os, ho.fr.tape, ho.fr.output, ho.fr.size, ho.fr.block, fun b hb => by
    have h2 : b ∈ e.wkey ++ wkeys s.hp := hb
    rw [hw] at h2
    exact ho.fr.own b h2⟩⟩) h
/-- Entries picked in whatever order. -/
inductive HpPick : List Ent → List Ent → Prop
  | nil {hp : List Ent} : HpPick [] hp
  | cons {e e' : Ent} {hp h1 hp' : List Ent} (h : HpDel e hp h1) (k1 : e'.wkey = e.wkey) (k2 : e'.rkey = e.rkey) (hok : ∀ w, e.ok w → e'.ok w) (r : HpPick hp' h1) : HpPick (e' :: hp') hp
theorem HpPick.perm {hp' hp : List Ent} (h : HpPick hp' hp) : ∃ R, (∃ S : List Ent, hp.Perm (S ++ R) ∧ wkeys S = wkeys hp' ∧ rkeys S = rkeys hp' ∧ ∀ w, (∀ e ∈ hp, e.ok w) → ∀ e ∈ hp', e.ok w) := by
  induction h with
  | nil => exact ⟨_, [], .refl _, rfl, rfl, fun _ _ e he => by cases he⟩
  | @cons e e' hp h1 hp' h k1 k2 hok _ ih =>
    obtain ⟨R, S, p, q1, q2, q3⟩ := ih
    refine ⟨R, e :: S, h.perm.trans (.cons _ p), by simp only [wkeys, k1, q1], by simp only [rkeys, k2, q2], fun w ha x hx => ?_⟩
    have ha' : ∀ y ∈ e :: h1, y.ok w := fun y hy => ha y (h.perm.symm.subset hy)
    rcases List.mem_cons.1 hx with rfl | hx
    · exact hok w (ha' e (by simp))
    · exact q3 w (fun y hy => ha' y (by simp [hy])) x hx
theorem Wk.pick {E : Env} {s s' : St} (ht : TmSub s.tm s'.tm) (hh : HpPick s'.hp s.hp) : Wk E s s' := fun a w h => by
  obtain ⟨R, S, p, q1, q2, q3⟩ := hh.perm
  have h4 : ok E ⟨s'.tm, s.hp⟩ a w := Wk.intro (s := s) (s' := ⟨s'.tm, s.hp⟩) ht HpSub.all a w h
  have kw : (wkeys s.hp).Perm (wkeys s'.hp ++ wkeys R) := by have := wkeys_perm p; rwa [wkeys_append, q1] at this
  have kr : (rkeys s.hp).Perm (rkeys s'.hp ++ rkeys R) := by have := rkeys_perm p; rwa [rkeys_append, q2] at this
  have iw : ∀ b ∈ wkeys s'.hp, b ∈ wkeys s.hp := fun b hb => kw.symm.subset (List.mem_append_left _ hb)
  have ir : ∀ b ∈ rkeys s'.hp, b ∈ rkeys s.hp := fun b hb => kr.symm.subset (List.mem_append_left _ hb)
  exact ⟨h4.size, h4.defers, h4.tm, ⟨fun e he => q3 w h.hp.all e he, (List.nodup_append.1 (kw.nodup_iff.1 h.hp.nodup)).1, fun b hb hb' => h.hp.apart b (ir b hb) (iw b hb')⟩,
    ⟨h.fr.os, h.fr.tape, h.fr.output, h.fr.size, h.fr.block, fun b hb => h.fr.own b (iw b hb)⟩⟩
end Gx
end Go.Proofs.Ytjihhcjpbcmjaaa
