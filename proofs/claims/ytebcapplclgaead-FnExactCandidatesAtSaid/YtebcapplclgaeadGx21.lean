/- Regions whose order Go leaves open and that only look: one test of all pairs, cheap enough for long regions. No conditions but those in the statements. -/
import Derived.Test.YtebcapplclgaeadGx8
namespace Go.Proofs.Ytebcapplclgaead
open Go
namespace Gx
set_option linter.unusedVariables false
/-- oi against those behind it. -/
def chk2 (md : Region.Mode) (ops : Array Oper) (oi : Oper) (i : Nat) : List Oper → Bool
  | [] => true
  | oj :: r => ((oj.after.toList.any fun e => Nat.beq e.on i && Region.binds md e) || oi.apart ops oj) && chk2 md ops oi i r
/-- Every edge leads back; whatever stands behind and does not wait is apart. -/
def chk1 (md : Region.Mode) (ops : Array Oper) : Nat → List Oper → Bool
  | _, [] => true
  | i, oi :: r => (oi.after.toList.all fun e => !Region.binds md e || Nat.blt e.on i) && chk2 md ops oi i r && chk1 md ops (i + 1) r
section
variable {md : Region.Mode} {ops : Array Oper}
theorem chk2_spec {oi : Oper} {i : Nat} : ∀ {l : List Oper}, chk2 md ops oi i l = true → ∀ oj ∈ l, (∀ e ∈ oj.after, Region.binds md e = true → e.on ≠ i) → oi.apart ops oj = true
  | [], _, oj, h, _ => by cases h
  | o :: r, hc, oj, h, hn => by
    simp only [chk2, Bool.and_eq_true, Bool.or_eq_true, List.any_eq_true] at hc
    rcases List.mem_cons.1 h with rfl | h
    · rcases hc.1 with ⟨e, he, h1⟩ | h1
      · exact absurd (Nat.eq_of_beq_eq_true h1.1) (hn e (by simpa using he) h1.2)
      · exact h1
    · exact chk2_spec hc.2 oj h hn
theorem chk1_spec : ∀ {l : List Oper} {i : Nat}, chk1 md ops i l = true → (∀ k, ops[i + k]? = l[k]?) →
    ∀ j oj, i ≤ j → ops[j]? = some oj → (∀ e ∈ oj.after, Region.binds md e = true → e.on < j) ∧ ∀ q oq, j < q → ops[q]? = some oq → (∀ e ∈ oq.after, Region.binds md e = true → e.on ≠ j) → oj.apart ops oq = true
  | [], i, _, hk, j, oj, hij, hj => by
    have := hk (j - i)
    rw [show i + (j - i) = j by omega, hj] at this
    cases this
  | o :: r, i, hc, hk, j, oj, hij, hj => by
    simp only [chk1, Bool.and_eq_true] at hc
    by_cases e : j = i
    · subst e
      have h0 := hk 0
      rw [Nat.add_zero, hj] at h0
      obtain rfl : oj = o := by simpa using h0
      refine ⟨fun e he hb => ?_, fun q oq hq hoq hn => ?_⟩
      · have h1 := List.all_eq_true.1 hc.1.1 e (by simpa using he)
        simp only [hb, Bool.not_true, Bool.false_or] at h1
        exact Nat.le_of_ble_eq_true h1
      · have h1 := hk (q - j)
        rw [show j + (q - j) = q by omega, hoq, show q - j = (q - j - 1) + 1 by omega, List.getElem?_cons_succ] at h1
        exact chk2_spec hc.1.2 oq (List.mem_of_getElem? h1.symm) hn
    · refine chk1_spec hc.2 (fun k => ?_) j oj (by omega) hj
      have := hk (k + 1)
      rw [List.getElem?_cons_succ] at this
      rw [← this]
      congr 1
      omega
/-- What the test says. -/
structure Chk (md : Region.Mode) (ops : Array Oper) : Prop where
  back : ∀ j oj, ops[j]? = some oj → ∀ e ∈ oj.after, Region.binds md e = true → e.on < j
  apart : ∀ j oj q oq, ops[j]? = some oj → j < q → ops[q]? = some oq → (∀ e ∈ oq.after, Region.binds md e = true → e.on ≠ j) → oj.apart ops oq = true
theorem Chk.of (h : chk1 md ops 0 ops.toList = true) : Chk md ops :=
  have h1 := chk1_spec (i := 0) h (fun k => by simp)
  ⟨fun j oj hj => (h1 j oj (Nat.zero_le _) hj).1, fun j oj q oq hj hq hoq hn => (h1 j oj (Nat.zero_le _) hj).2 q oq hq hoq hn⟩
theorem getD_lt {l : Array Bool} {q : Nat} (hq : q < l.size) (d d' : Bool) : l.getD q d = l.getD q d' := by simp [hq]
theorem getD_self {l : Array Bool} {q : Nat} (hq : q < l.size) (d : Bool) : (l.setIfInBounds q true).getD q d = true := by simp [hq]
theorem Chk.lex (h : Chk md ops) : ∀ (m s : Nat) (l : Array Bool), s + m = ops.size → l.size = ops.size → (∀ q, q < s → l.getD q false = true) → (∀ q, s ≤ q → q < ops.size → l.getD q false = false) → lexOrd md ops (List.range' s m) l = true
  | 0, _, _, _, _, _, _ => rfl
  | m + 1, s, l, hs, hl, h1, h2 => by
    have hlt : s < ops.size := by omega
    have ho : ops[s]? = some ops[s] := Array.getElem?_eq_getElem hlt
    simp only [List.range'_succ, lexOrd, Bool.and_eq_true]
    refine ⟨⟨?_, ?_⟩, h.lex m (s + 1) _ (by omega) (by simpa using hl) (fun q hq => ?_) (fun q hq hq2 => ?_)⟩
    · rw [List.contains_iff_mem]
      refine mem_ready.2 ⟨by rw [getD_lt (by omega) true false]; exact h2 s (Nat.le_refl _) hlt, _, ho, fun e he hb => h1 _ (h.back s _ ho e he hb)⟩
    · unfold Region.free
      simp only [ho, List.all_eq_true, List.mem_range, Bool.or_eq_true, beq_iff_eq]
      intro j hj
      rcases Nat.lt_trichotomy j s with hjs | hjs | hjs
      · exact .inl (.inr (by rw [getD_lt (by omega) true false]; exact h1 j hjs))
      · exact .inl (.inl hjs)
      · right
        have hoj : ops[j]? = some ops[j] := Array.getElem?_eq_getElem hj
        simp only [hoj, Bool.or_eq_true, Array.any_eq_true', Bool.and_eq_true, beq_iff_eq]
        by_cases hn : ∃ e ∈ (ops[j]).after, Region.binds md e = true ∧ e.on = s
        · left
          obtain ⟨e, he, h3⟩ := hn
          exact ⟨e, he, h3⟩
        · exact .inr (h.apart s _ j _ ho hjs hoj fun e he hb heq => hn ⟨e, he, hb, heq⟩)
    · by_cases e : s = q
      · subst e; exact getD_self (by omega) _
      · rw [getD_set_ne false e]; exact h1 q (by omega)
    · rw [getD_set_ne false (by omega)]; exact h2 q (by omega) hq2
/-- All but i, and what waits for i. -/
theorem Chk.grow (h : Chk md ops) {i : Nat} (hi : i < ops.size) : ∀ (m s : Nat) (l : Array Bool), s + m = ops.size → l.size = ops.size → (∀ q, q < s → q < i → l.getD q false = true) → (∀ q, s ≤ q → q < ops.size → l.getD q false = false) → l.getD i false = false →
    (∀ q, q < i → (grow md ops i (List.range' s m) l).getD q false = true) ∧ (grow md ops i (List.range' s m) l).getD i false = false ∧ (∀ q, q < s → (grow md ops i (List.range' s m) l).getD q false = l.getD q false) ∧
    ∀ j oj, s ≤ j → ops[j]? = some oj → j ≠ i → (grow md ops i (List.range' s m) l).getD j false = false → ∃ e ∈ oj.after, Region.binds md e = true ∧ (grow md ops i (List.range' s m) l).getD e.on false = false
  | 0, s, l, hs, hl, h1, h2, h3 => ⟨fun q hq => h1 q (by omega) hq, h3, fun q hq => rfl, fun j oj hj hoj => by
      have := (Array.getElem?_eq_some_iff.1 hoj).1
      omega⟩
  | m + 1, s, l, hs, hl, h1, h2, h3 => by
    have hlt : s < ops.size := by omega
    have ho : ops[s]? = some ops[s] := Array.getElem?_eq_getElem hlt
    have hr : s ∈ Region.ready md ops l ↔ ∀ e ∈ (ops[s]).after, Region.binds md e = true → l.getD e.on false = true := by
      rw [mem_ready]
      constructor
      · rintro ⟨_, o, ho2, hh⟩
        rw [ho] at ho2
        obtain rfl : ops[s] = o := by simpa using ho2
        exact hh
      · exact fun hh => ⟨by rw [getD_lt (by omega) true false]; exact h2 s (Nat.le_refl _) hlt, _, ho, hh⟩
    simp only [List.range'_succ, Go.Proofs.Ytebcapplclgaead.Gx.grow]
    by_cases hc : (!Nat.beq s i && (Region.ready md ops l).contains s) = true
    · rw [if_pos hc]
      simp only [Bool.and_eq_true, Bool.not_eq_true', List.contains_iff_mem] at hc
      have hsi : s ≠ i := fun e => by rw [e, Nat.beq_refl] at hc; cases hc.1
      obtain ⟨g1, g2, g3, g4⟩ := h.grow hi m (s + 1) (l.setIfInBounds s true) (by omega) (by simpa using hl) (fun q hq hqi => by
        by_cases e : s = q
        · subst e; exact getD_self (by omega) _
        · rw [getD_set_ne false e]; exact h1 q (by omega) hqi) (fun q hq hq2 => by rw [getD_set_ne false (by omega)]; exact h2 q (by omega) hq2) (by rw [getD_set_ne false hsi]; exact h3)
      refine ⟨g1, g2, fun q hq => ?_, fun j oj hj hoj hji hg => ?_⟩
      · rw [g3 q (by omega), getD_set_ne false (by omega)]
      · by_cases e : s = j
        · subst e
          rw [g3 s (by omega), getD_self (by omega)] at hg
          cases hg
        · exact g4 j oj (by omega) hoj hji hg
    · rw [if_neg hc]
      have hsi : ¬ s < i := fun hsi => hc (by
        simp only [Bool.and_eq_true, Bool.not_eq_true', List.contains_iff_mem]
        refine ⟨?_, hr.2 fun e he hb => ?_⟩
        · rw [Bool.eq_false_iff]; intro hb; have := Nat.eq_of_beq_eq_true hb; omega
        · have := h.back s _ ho e he hb
          exact h1 _ this (by omega))
      obtain ⟨g1, g2, g3, g4⟩ := h.grow hi m (s + 1) l (by omega) hl (fun q hq hqi => h1 q (by omega) hqi) (fun q hq hq2 => h2 q (by omega) hq2) h3
      refine ⟨g1, g2, fun q hq => g3 q (by omega), fun j oj hj hoj hji hg => ?_⟩
      by_cases e : s = j
      · subst e
        have hnr : ¬ s ∈ Region.ready md ops l := fun hh => hc (by
          simp only [Bool.and_eq_true, Bool.not_eq_true', List.contains_iff_mem]
          refine ⟨?_, hh⟩
          rw [Bool.eq_false_iff]; intro hb; exact hji (Nat.eq_of_beq_eq_true hb))
        rw [hr] at hnr
        obtain rfl : ops[s] = oj := by rw [ho] at hoj; simpa using hoj
        apply Classical.byContradiction
        intro hno
        refine hnr fun e he hb => ?_
        have hlt2 := h.back s _ ho e he hb
        cases hv : l.getD e.on false with
        | true => rfl
        | false => exact absurd ⟨e, he, hb, (g3 e.on (by omega)).trans hv⟩ hno
      · exact g4 j oj (by omega) hoj hji hg
theorem filter_one {n i : Nat} (hi : i < n) {p : Nat → Bool} (h : ∀ j, j < n → (p j = true ↔ j = i)) : (List.range n).filter p = [i] := by
  have e1 : (List.range n).filter p = (List.range n).filter fun j => decide (j = i) := by
    apply List.filter_congr
    intro j hj
    rw [Bool.eq_iff_iff, decide_eq_true_eq]
    exact h j (List.mem_range.1 hj)
  rw [e1]
  clear e1 h
  induction n with
  | zero => omega
  | succ n ih =>
    rw [List.range_succ, List.filter_append]
    by_cases e : i = n
    · subst e
      have : (List.range i).filter (fun j => decide (j = i)) = [] := by
        rw [List.filter_eq_nil_iff]
        intro j hj
        have := List.mem_range.1 hj
        simp; omega
      rw [this]; simp
    · rw [ih (by omega)]
      simp; omega
theorem Chk.last (h : Chk md ops) : lastB md ops (List.range ops.size) (Array.replicate ops.size false) = true := by
  unfold lastB
  rw [List.all_eq_true]
  intro i hi
  have hi := List.mem_range.1 hi
  obtain ⟨g1, g2, g3, g4⟩ := h.grow hi ops.size 0 (Array.replicate ops.size false) (by omega) (by simp) (fun q hq => by omega) (fun q _ hq => by simp [hq]) (by simp [hi])
  rw [← List.range_eq_range'] at g1 g2 g3 g4
  have hsz : (Gx.grow md ops i (List.range ops.size) (Array.replicate ops.size false)).size = ops.size := by rw [grow_size]; simp
  rw [decide_eq_true_eq]
  refine filter_one hi fun j hj => ?_
  have hoj : ops[j]? = some ops[j] := Array.getElem?_eq_getElem hj
  have hm : (!(Gx.grow md ops i (List.range ops.size) (Array.replicate ops.size false)).getD j true && ((ops[j]?).map (·.after.all fun e => !Region.binds md e || (Gx.grow md ops i (List.range ops.size) (Array.replicate ops.size false)).getD e.on false)).getD false) = true ↔ j ∈ Region.ready md ops (Gx.grow md ops i (List.range ops.size) (Array.replicate ops.size false)) := by
    unfold Region.ready
    rw [List.mem_filter, List.mem_range]
    exact ⟨fun h => ⟨hj, h⟩, fun h => h.2⟩
  rw [hm, mem_ready]
  constructor
  · rintro ⟨h1, o, ho, h2⟩
    rw [hoj] at ho
    obtain rfl : ops[j] = o := by simpa using ho
    apply Classical.byContradiction
    intro hji
    obtain ⟨e, he, hb, h3⟩ := g4 j _ (Nat.zero_le _) hoj hji (by rw [getD_lt (by omega) false true]; exact h1)
    rw [h2 e he hb] at h3
    cases h3
  · rintro rfl
    exact ⟨by rw [getD_lt (by omega) true false]; exact g2, _, hoj, fun e he hb => g1 _ (h.back j _ hoj e he hb)⟩
theorem ready_done : Region.ready md ops (setAll (Array.replicate ops.size false) (List.range ops.size)) = [] := by
  rw [List.eq_nil_iff_forall_not_mem]
  intro j hj
  obtain ⟨h1, o, ho, _⟩ := mem_ready.1 hj
  have hlt := (Array.getElem?_eq_some_iff.1 ho).1
  rw [setAll_getD _ _ _ _ (by simpa using hlt)] at h1
  simp [hlt] at h1
end
/-- A whole region that only looks. -/
theorem RA_quietF {E : Env} {ops : Array Oper} {K : St → Prop} {s : St} {n : Nat} {base : Array Bool} (hs : List Nat) (hb : base = Array.replicate ops.size false) (hh : hs = List.range ops.size) (hn : n = hs.length) (hsel : Region.noSelect ops = true) (hc : chk1 .any ops 0 ops.toList = true) (h : WQ E ops hs K s) : RA E ops n base K s := by
  subst hb; subst hh; subst hn
  have hC := Chk.of hc
  have hx := hC.lex ops.size 0 (Array.replicate ops.size false) (by omega) (by simp) (fun q hq => by omega) (fun q _ hq => by simp [hq])
  rw [← List.range_eq_range'] at hx
  have := RA_quiet (g := 0) (List.range ops.size) hsel (by simp) hC.last hx (K := K) (E := E) (s := s) ⟨fun a ho Lq hL => h.out a ho Lq fun s' a' hK hp hat => ?_⟩
  · rw [Nat.add_zero] at this; exact this
  · exact hL s' a' (RA_done ready_done hK) hp hat
end Gx
end Go.Proofs.Ytebcapplclgaead
