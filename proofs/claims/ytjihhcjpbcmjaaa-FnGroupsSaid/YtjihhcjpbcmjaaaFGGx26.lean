/- One operation behind a test, where nothing else is ready. No conditions but those in the statements. -/
import Derived.Test.YtjihhcjpbcmjaaaFGGx12
import Derived.Test.YtjihhcjpbcmjaaaFGGx20
namespace Go.Proofs.Ytjihhcjpbcmjaaa
open Go
namespace Gx
set_option linter.unusedVariables false
theorem RA_oneG {E : Env} {ops : Array Oper} {K : St → Prop} {s : St} {fuel : Nat} {listed : Array Bool} (i : Nat) {o : Oper} {g t : Nat} {want : Bool} (ho : ops[i]? = some o) (hg : o.guard = some (g, want)) (ht : (ops[g]?).bind (·.dst) = some t) (hb : get s.tm t = some (.bool want)) (hr : Region.ready .any ops listed = [i]) (h : Xt E o s (RA E ops fuel (listed.setIfInBounds i true) K)) : RA E ops (fuel + 1) listed K s :=
  ⟨fun a w hok Q hQ hp => wpAny_all hr (by simp) fun j hj => by
    simp only [List.mem_singleton] at hj
    subst hj
    have hw := wanted_of hok.t (o := o) hg ht hb
    unfold wpOp
    simp only [ho]
    rw [hw, if_pos (by simp)]
    exact .inl (h a w hok _ Q fun s' a' w' hs' ho' => hs'.out a' w' ho' Q hQ hp)⟩
theorem RA_skipG {E : Env} {ops : Array Oper} {K : St → Prop} {s : St} {fuel k : Nat} {listed : Array Bool} (i : Nat) {o : Oper} {g t : Nat} {want b : Bool} (ho : ops[i]? = some o) (hg : o.guard = some (g, want)) (ht : (ops[g]?).bind (·.dst) = some t) (hb : get s.tm t = some (.bool b)) (hbw : b = !want) (hd : o.dst = some k) (hk : k < E.n) (hr : Region.ready .any ops listed = [i]) (h : RA E ops fuel (listed.setIfInBounds i true) K (s.put k (.tup []))) : RA E ops (fuel + 1) listed K s :=
  ⟨fun a w hok Q hQ hp => wpAny_all hr (by simp) fun j hj => by
    simp only [List.mem_singleton] at hj
    subst hj
    have hw := wanted_of hok.t (o := o) hg ht hb
    unfold wpOp
    simp only [ho]
    rw [hw, if_neg (by subst hbw; cases want <;> simp), hd]
    exact h.out _ w (hok.put (d := .tup []) hk) Q hQ hp⟩
/-- One inner slice, out of a slice of slices. -/
theorem oss_part {v : Value} {E1 E2 i : Nat} {l : SL} {r : Rw} (hi : i < l.length) : ∃ R, (oss v E1 E2 l).wkey.Perm ((own (l.getD i sd).1.1 E2 r).wkey ++ R) := by
  obtain ⟨A, B, h1, _⟩ := split_at hi
  refine ⟨sblk v ++ (A.flatMap (fun p => sblk p.1.1) ++ B.flatMap (fun p => sblk p.1.1)), ?_⟩
  show (sblk v ++ l.flatMap fun p => sblk p.1.1).Perm (sblk (l.getD i sd).1.1 ++ _)
  generalize l.getD i sd = p at *
  rw [h1, List.flatMap_append, List.flatMap_cons]
  refine List.Perm.trans ?_ List.perm_append_comm
  rw [List.append_assoc, List.append_assoc]
  refine .append_left _ ?_
  refine .append_left _ ?_
  exact List.perm_append_comm
theorem oss_inner {v : Value} {E1 E2 i : Nat} {l : SL} {li : List Int} (hi : i < l.length) (h : (l.getD i sd).2 = li) : ∀ w, (oss v E1 E2 l).ok w → (own (l.getD i sd).1.1 E2 (.ints .i64 li)).ok w := fun w hw => by
  subst h
  exact hw.2 _ (getD_mem hi)
end Gx
end Go.Proofs.Ytjihhcjpbcmjaaa
