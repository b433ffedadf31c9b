/- The ways of a branch meet again. No conditions but those in the statements. -/
import Derived.Test.YtdcpggdbjllmpaaGx12
namespace Go.Proofs.Ytdcpggdbjllmpaa
open Go
namespace Gx
theorem W_cutE {E : Env} {x y : Code} {Q : Exit → St → Prop} {s : St} (J : Env → St → Prop) (h : W E x (thenQ (J E) Q) s) (hr : ∀ s', J E s' → W E y Q s') : W E (.seq x y) Q s := W_cut (J E) h hr
section
variable {E : Env} {ops : Array Oper} {K : St → Prop} {s : St}
/-- One of two operations comes next: both ways are walked. -/
theorem RA_two {fuel : Nat} {listed : Array Bool} (i j : Nat) {oi oj : Oper} (hi : ops[i]? = some oi) (hj : ops[j]? = some oj) (gi : oi.guard = none) (gj : oj.guard = none) (hr : Region.ready .any ops listed = [i, j]) (h1 : Xt E oi s (RA E ops fuel (listed.setIfInBounds i true) K)) (h2 : Xt E oj s (RA E ops fuel (listed.setIfInBounds j true) K)) : RA E ops (fuel + 1) listed K s :=
  ⟨fun a w hok Q hQ hp => wpAny_all hr (by simp) fun q hq => by
    simp only [List.mem_cons, List.not_mem_nil, or_false] at hq
    rcases hq with rfl | rfl
    · unfold wpOp
      simp only [hi]
      rw [if_pos (by simp [Region.wanted, gi])]
      exact .inl (h1 a w hok _ Q fun s' a' w' hs' ho' => hs'.out a' w' ho' Q hQ hp)
    · unfold wpOp
      simp only [hj]
      rw [if_pos (by simp [Region.wanted, gj])]
      exact .inl (h2 a w hok _ Q fun s' a' w' hs' ho' => hs'.out a' w' ho' Q hQ hp)⟩
theorem RA_three {fuel : Nat} {listed : Array Bool} (i j q : Nat) {oi oj oq : Oper} (hi : ops[i]? = some oi) (hj : ops[j]? = some oj) (hq : ops[q]? = some oq) (gi : oi.guard = none) (gj : oj.guard = none) (gq : oq.guard = none) (hr : Region.ready .any ops listed = [i, j, q]) (h1 : Xt E oi s (RA E ops fuel (listed.setIfInBounds i true) K)) (h2 : Xt E oj s (RA E ops fuel (listed.setIfInBounds j true) K)) (h3 : Xt E oq s (RA E ops fuel (listed.setIfInBounds q true) K)) : RA E ops (fuel + 1) listed K s :=
  ⟨fun a w hok Q hQ hp => wpAny_all hr (by simp) fun z hz => by
    simp only [List.mem_cons, List.not_mem_nil, or_false] at hz
    rcases hz with rfl | rfl | rfl
    · unfold wpOp
      simp only [hi]
      rw [if_pos (by simp [Region.wanted, gi])]
      exact .inl (h1 a w hok _ Q fun s' a' w' hs' ho' => hs'.out a' w' ho' Q hQ hp)
    · unfold wpOp
      simp only [hj]
      rw [if_pos (by simp [Region.wanted, gj])]
      exact .inl (h2 a w hok _ Q fun s' a' w' hs' ho' => hs'.out a' w' ho' Q hQ hp)
    · unfold wpOp
      simp only [hq]
      rw [if_pos (by simp [Region.wanted, gq])]
      exact .inl (h3 a w hok _ Q fun s' a' w' hs' ho' => hs'.out a' w' ho' Q hQ hp)⟩
end
end Gx
end Go.Proofs.Ytdcpggdbjllmpaa
