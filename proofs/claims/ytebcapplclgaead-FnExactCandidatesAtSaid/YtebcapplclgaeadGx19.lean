/- Slices of slices of numbers: read inside, marked. No conditions but those in the statements. -/
import Derived.Test.YtebcapplclgaeadGx15
import Derived.Test.YtebcapplclgaeadGx17
namespace Go.Proofs.Ytebcapplclgaead
open Go
namespace Gx
set_option linter.unusedVariables false
theorem Vw.rdI {R : List Ent} {v : Value} {l : SL} {j : Nat} {r : Rw} (m : Gx.rss v l ∈ R) (hj : j < l.length) (hr : r = .ints .i64 (l.getD j sd).2) : Vw R [Gx.rd (l.getD j sd).1.1 r] := by
  subst hr
  exact Vw.one m rfl (fun k hk => .inr (List.mem_append_right _ (List.mem_flatMap.2 ⟨_, getD_mem hj, hk⟩))) fun w h => (show RdP v (valsR l) w ∧ ∀ p ∈ l, RdP p.1.1 (.ints .i64 p.2) w from h).2 _ (getD_mem hj)
theorem Vw.rdIO {R : List Ent} {v : Value} {E1 E2 : Nat} {l : SL} {j : Nat} {r : Rw} (m : oss v E1 E2 l ∈ R) (hj : j < l.length) (hr : r = .ints .i64 (l.getD j sd).2) : Vw R [Gx.rd (l.getD j sd).1.1 r] := by
  subst hr
  exact Vw.one m rfl (fun k hk => .inl (List.mem_append_right _ (List.mem_flatMap.2 ⟨_, getD_mem hj, rdK_sub k hk⟩))) fun w h => OwnP.rd ((show OwnP v E1 (valsR l) w ∧ ∀ p ∈ l, OwnP p.1.1 E2 (.ints .i64 p.2) w from h).2 _ (getD_mem hj))
theorem oss_nil {E1 E2 : Nat} : ∀ w, (oss (.slice none 0 0) E1 E2 []).ok w := fun w => ⟨World.ownsRow_nil _ _ _ _, fun p hp => by cases hp⟩
/-- How many numbers stand in the first i. -/
def sumL (L : SL) : Nat → Int
  | 0 => 0
  | i + 1 => sumL L i + ((L.getD i sd).2.length : Int)
theorem sumL_mono (L : SL) (i : Nat) : ∀ k, sumL L i ≤ sumL L (i + k)
  | 0 => Int.le_refl _
  | k + 1 => by have := sumL_mono L i k; show _ ≤ sumL L (i + k) + _; omega
theorem sumL_le (L : SL) {i j : Nat} (h : i ≤ j) : sumL L i ≤ sumL L j := by
  obtain ⟨k, rfl⟩ : ∃ k, j = i + k := ⟨j - i, by omega⟩
  exact sumL_mono L i k
theorem sumL_nn (L : SL) (i : Nat) : 0 ≤ sumL L i := sumL_le L (Nat.zero_le i)
def markT (k : Int) (L : SL) : Nat → SL
  | 0 => []
  | i + 1 => markT k L i ++ [((L.getD i sd).1, marks (k + sumL L i) (L.getD i sd).2.length)]
theorem markT_len (k : Int) (L : SL) : ∀ i, (markT k L i).length = i
  | 0 => rfl
  | i + 1 => by simp [markT, markT_len k L i]
theorem markT_getD (k : Int) (L : SL) : ∀ {n i : Nat}, i < n → (markT k L n).getD i sd = ((L.getD i sd).1, marks (k + sumL L i) (L.getD i sd).2.length)
  | n + 1, i, h => by
    by_cases hi : i < n
    · have := markT_getD k L hi
      simp only [markT, List.getD] at this ⊢
      rw [List.getElem?_append_left (by rw [markT_len]; exact hi)]
      exact this
    · obtain rfl : i = n := by omega
      simp only [markT, List.getD]
      rw [List.getElem?_append_right (by rw [markT_len]; exact Nat.le_refl _)]
      simp [markT_len]
theorem markT_at (k : Int) {L : SL} {i : Nat} (h : i < L.length) : (markT k L i ++ L.drop i).getD i sd = L.getD i sd := by
  simp only [List.getD]
  rw [List.getElem?_append_right (by rw [markT_len]; exact Nat.le_refl _), markT_len, Nat.sub_self]
  simp
theorem markT_drop (k : Int) {L : SL} {i : Nat} (h : i ≤ L.length) : (markT k L i ++ L.drop i).length = L.length := by simp [markT_len]; omega
theorem markT_set (k : Int) {L : SL} {i : Nat} (h : i < L.length) : (markT k L i ++ L.drop i).set i (((markT k L i ++ L.drop i).getD i sd).1, marks (k + sumL L i) (L.getD i sd).2.length) = markT k L (i + 1) ++ L.drop (i + 1) := by
  rw [markT_at k h, List.set_append_right _ _ (by rw [markT_len]; exact Nat.le_refl _), markT_len, Nat.sub_self, List.drop_eq_getElem_cons h, List.set_cons_zero]
  simp only [markT, List.append_assoc, List.cons_append, List.nil_append]
theorem snd_getD {L L' : SL} (h : L.map (·.2) = L'.map (·.2)) (i : Nat) : (L.getD i sd).2 = (L'.getD i sd).2 := by
  have h1 := congrArg (fun l => (l[i]?).getD []) h
  simp only [List.getElem?_map] at h1
  simp only [List.getD]
  cases h2 : L[i]? <;> cases h3 : L'[i]? <;> rw [h2, h3] at h1 <;> simpa [sd] using h1
theorem snd_len {L L' : SL} (h : L.map (·.2) = L'.map (·.2)) : L.length = L'.length := by simpa using congrArg List.length h
theorem len_getD {L : SL} {LL : List (List Int)} (h : L.map (·.2) = LL) {B : Nat} (hB : ∀ l ∈ LL, l.length ≤ B) (i : Nat) : (L.getD i sd).2.length ≤ B := by
  subst h
  rcases Nat.lt_or_ge i L.length with hi | hi
  · exact hB _ (List.mem_map.2 ⟨_, getD_mem hi, rfl⟩)
  · simp [List.getD, List.getElem?_eq_none hi, sd]
theorem sumL_b {L : SL} {LL : List (List Int)} (h : L.map (·.2) = LL) {B : Nat} (hB : ∀ l ∈ LL, l.length ≤ B) : ∀ i : Nat, sumL L i ≤ (B : Int) * (i : Int)
  | 0 => by simp [sumL]
  | i + 1 => by
    have h1 := sumL_b h hB i
    have h2 := len_getD h hB i
    simp only [sumL]
    rw [Int.natCast_succ, Int.mul_add, Int.mul_one]
    omega
theorem snd_cnt {L : SL} {LL : List (List Int)} (h : L.map (·.2) = LL) : L.length = LL.length := by simpa using congrArg List.length h
theorem sum_cnt {L : SL} {LL : List (List Int)} (h : L.map (·.2) = LL) (hB : LL.length ≤ 100000 ∧ ∀ l ∈ LL, l.length ≤ 10) : sumL L L.length ≤ 9999999 := by
  have h1 := sumL_b h (B := 10) hB.2 L.length
  have h2 := snd_cnt h
  omega
end Gx
end Go.Proofs.Ytebcapplclgaead
