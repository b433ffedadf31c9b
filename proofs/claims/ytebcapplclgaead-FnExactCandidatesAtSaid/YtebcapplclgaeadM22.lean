/- Squares of which some places are empty, as lists of lists of numbers. No conditions but those in the statements. -/
import Derived.Test.YtebcapplclgaeadM14
import Derived.Test.YtebcapplclgaeadM12
import Derived.Test.YtebcapplclgaeadGx19
namespace Go.Proofs.Ytebcapplclgaead
open Gx
set_option linter.unusedVariables false
abbrev at2 (L : SL) (i j : Nat) : Int := (L.getD i sd).2.getD j 0
abbrev ln2 (L : SL) (i : Nat) : Nat := (L.getD i sd).2.length
def nd2 (L : SL) (i j k : Nat) : Prop := ¬ (0 ≤ at2 L i j ∧ at2 L i j = at2 L i k) ∧ ¬ (0 ≤ at2 L j i ∧ at2 L j i = at2 L k i)
def ParL (L : SL) : Prop := (1 ≤ L.length ∧ L.length ≤ 10) ∧ (∀ i, i < L.length → ln2 L i = L.length) ∧ (∀ i j, i < L.length → j < L.length → -1 ≤ at2 L i j ∧ at2 L i j ≤ (L.length : Int) - 1) ∧
  ∀ i j k, i < L.length → j < L.length → k < j → nd2 L i j k
noncomputable def isPar (L : SL) : Bool := @decide (ParL L) (Classical.propDecidable _)
theorem of_isPar {L : SL} (h : isPar L = true) : ParL L := @of_decide_eq_true _ (Classical.propDecidable _) h
theorem isPar_t {L : SL} (h : ParL L) : true = isPar L := (@decide_eq_true _ (Classical.propDecidable _) h).symm
theorem isPar_f {L : SL} (h : ¬ ParL L) : false = isPar L := (@decide_eq_false _ (Classical.propDecidable _) h).symm
theorem isPar_n {L : SL} (h : ¬ (1 ≤ L.length ∧ L.length ≤ 10)) : false = isPar L := isPar_f fun hh => h hh.1
theorem isPar_l {L : SL} {i : Nat} (hi : i < L.length) (h : ¬ ln2 L i = L.length) : false = isPar L := isPar_f fun hh => h (hh.2.1 i hi)
theorem isPar_r {L : SL} {i j : Nat} (hi : i < L.length) (hj : j < L.length) (h : ¬ (-1 ≤ at2 L i j ∧ at2 L i j ≤ (L.length : Int) - 1)) : false = isPar L := isPar_f fun hh => h (hh.2.2.1 i j hi hj)
theorem isPar_d {L : SL} {i j k : Nat} (hi : i < L.length) (hj : j < L.length) (hk : k < j) (h : ¬ nd2 L i j k) : false = isPar L := isPar_f fun hh => h (hh.2.2.2 i j k hi hj hk)
theorem at2_eq {L M : SL} (h : L.map (·.2) = M.map (·.2)) (i j : Nat) : at2 L i j = at2 M i j := by unfold at2; rw [snd_getD h i]
theorem ln2_eq {L M : SL} (h : L.map (·.2) = M.map (·.2)) (i : Nat) : ln2 L i = ln2 M i := by unfold ln2; rw [snd_getD h i]
theorem sum_eq {L M : SL} (h : L.map (·.2) = M.map (·.2)) : sumL L L.length = sumL M M.length := by
  rw [snd_len h]
  suffices hs : ∀ k, sumL L k = sumL M k from hs _
  intro k
  induction k with
  | zero => rfl
  | succ k ih => show sumL L k + _ = sumL M k + _; rw [ih, snd_getD h k]
theorem isPar_eq {L M : SL} (h : L.map (·.2) = M.map (·.2)) : isPar L = isPar M := by
  unfold isPar
  congr 1
  unfold ParL nd2
  simp only [at2_eq h, ln2_eq h, snd_len h]
/-! ### Sizes -/
def szR (k : Int) : Int := if k < 0 then -1 else k
theorem szR_n {k : Int} (h : k < 0) : szR k = -1 := if_pos h
theorem szR_p {k : Int} (h : ¬ k < 0) : szR k = k := if_neg h
theorem szR_neg {k : Int} (h : szR k < 0) : k < 0 := by
  rcases Int.lt_or_le k 0 with h1 | h1
  · exact h1
  · rw [szR_p (by omega)] at h; exact h
theorem szR_pos {k : Int} (h : 0 ≤ szR k) : ¬ k < 0 := fun h1 => by rw [szR_n h1] at h; omega
theorem ln2_le {L : SL} (i : Nat) : ((L.getD i sd).2.length : Int) ≤ sumL L L.length := by
  rcases Nat.lt_or_ge i L.length with hi | hi
  · have h1 := sumL_le L (i := i + 1) (j := L.length) hi
    have h2 := sumL_nn L i
    have h3 : sumL L (i + 1) = sumL L i + ((L.getD i sd).2.length : Int) := rfl
    omega
  · have h1 := sumL_nn L L.length
    have h2 : L.getD i sd = sd := by simp [List.getD, List.getElem?_eq_none hi]
    rw [h2]
    simpa [sd] using h1
theorem sz_bound {L : SL} (h : ¬ ((1048576 : Int) - ((L.length : Nat) : Int) - sumL L L.length < 0)) : L.length ≤ 1048576 ∧ ∀ i, (L.getD i sd).2.length ≤ 1048576 := by
  have h1 := sumL_nn L L.length
  refine ⟨by omega, fun i => ?_⟩
  have := ln2_le (L := L) i
  omega
theorem ln2_max {L : SL} (h : ∀ p ∈ L, p.2.length ≤ maxLen ∧ ∀ n ∈ p.2, inR .i64 n) (i : Nat) : (L.getD i sd).2.length ≤ 9223372036854775807 := by
  rcases Nat.lt_or_ge i L.length with hi | hi
  · exact (h _ (getD_mem hi)).1
  · have h2 : L.getD i sd = sd := by simp [List.getD, List.getElem?_eq_none hi]
    rw [h2]
    simp [sd]
/-! ### Copies -/
theorem set_repl {D : SL} {n i : Nat} (hD : D.length = i) (hi : i < n) (q : V1 × List Int) : (D ++ List.replicate (n - i) sd).set i q = (D ++ [q]) ++ List.replicate (n - (i + 1)) sd := by
  subst hD
  have e1 : n - D.length = (n - (D.length + 1)) + 1 := by omega
  rw [e1, List.replicate_succ, List.set_append_right _ _ (Nat.le_refl _), Nat.sub_self]
  simp
theorem cp_next {D L : SL} {i : Nat} (h : D.map (·.2) = (L.map (·.2)).take i) (hi : i < L.length) (u : V1) : (D ++ [(u, (L.getD i sd).2)]).map (·.2) = (L.map (·.2)).take (i + 1) := by
  have hi' : i < (L.map (·.2)).length := by simpa using hi
  rw [List.take_succ_eq_append_getElem hi', List.map_append, h]
  congr 1
  simp [List.getD, List.getElem?_eq_getElem hi]
theorem cp_end {D L : SL} {i : Nat} (h : D.map (·.2) = (L.map (·.2)).take i) (hi : i = L.length) : D.map (·.2) = L.map (·.2) := by
  subst hi
  rw [h, List.take_of_length_le (by simp)]
/-! ### The rows and columns as sets -/
def gC (L : SL) (i j : Nat) : Fin 256 := if at2 L i j = -1 then 255 else Fin.ofNat 256 (at2 L i j).toNat
noncomputable def rowS (L : SL) (m i j r : Nat) : Nat := bsP (fun v => @decide (∃ b, ((r < i ∧ b < m) ∨ (r = i ∧ b < j)) ∧ at2 L r b = (v : Int)) (Classical.propDecidable _)) 10
noncomputable def colS (L : SL) (m i j c : Nat) : Nat := bsP (fun v => @decide (∃ a, ((a < i ∧ c < m) ∨ (a = i ∧ c < j)) ∧ at2 L a c = (v : Int)) (Classical.propDecidable _)) 10
theorem bs_congr {P Q : Nat → Bool} : ∀ k, (∀ v, v < k → P v = Q v) → bsP P k = bsP Q k
  | 0, _ => rfl
  | k + 1, h => by simp only [bsP]; rw [bs_congr k (fun v hv => h v (by omega)), h k (by omega)]
theorem bs_or {P Q : Nat → Bool} {m : Nat} (hm : m < 10) (h : ∀ v, v < 10 → Q v = (P v || decide (v = m))) : bsP P 10 ||| 2 ^ m = bsP Q 10 := by
  apply Nat.eq_of_testBit_eq
  intro v
  rw [Nat.testBit_or, bsP_bit, bsP_bit, Nat.testBit_two_pow]
  by_cases hv : v < 10
  · rw [h v hv, decide_eq_true hv]
    simp only [Bool.true_and]
    congr 1
    rw [Bool.eq_iff_iff]; simp only [decide_eq_true_eq]; exact eq_comm
  · rw [decide_eq_false hv]
    simp only [Bool.false_and, Bool.false_or, decide_eq_false_iff_not]
    omega
theorem rowS_lt {L : SL} {m i j r : Nat} : rowS L m i j r < 1024 := bsP_10 (by omega)
theorem colS_lt {L : SL} {m i j c : Nat} : colS L m i j c < 1024 := bsP_10 (by omega)
theorem rowS_has {L : SL} {m i j r v : Nat} (hv : v < 10) : (rowS L m i j r).testBit v = @decide (∃ b, ((r < i ∧ b < m) ∨ (r = i ∧ b < j)) ∧ at2 L r b = (v : Int)) (Classical.propDecidable _) := by
  unfold rowS; rw [bsP_bit, decide_eq_true hv]; rfl
theorem colS_has {L : SL} {m i j c v : Nat} (hv : v < 10) : (colS L m i j c).testBit v = @decide (∃ a, ((a < i ∧ c < m) ∨ (a = i ∧ c < j)) ∧ at2 L a c = (v : Int)) (Classical.propDecidable _) := by
  unfold colS; rw [bsP_bit, decide_eq_true hv]; rfl
theorem bs_zero {P : Nat → Bool} : ∀ k, (∀ v, v < k → P v = false) → bsP P k = 0
  | 0, _ => rfl
  | k + 1, h => by simp only [bsP]; rw [h k (by omega), bs_zero k (fun v hv => h v (by omega))]; rfl
theorem rowS_0 {L : SL} {m r : Nat} : rowS L m 0 0 r = 0 := bs_zero 10 fun v _ => @decide_eq_false _ (Classical.propDecidable _) (by rintro ⟨b, h, _⟩; omega)
theorem colS_0 {L : SL} {m c : Nat} : colS L m 0 0 c = 0 := bs_zero 10 fun v _ => @decide_eq_false _ (Classical.propDecidable _) (by rintro ⟨b, h, _⟩; omega)
theorem rowS_row {L : SL} {m i r : Nat} : rowS L m i m r = rowS L m (i + 1) 0 r := bs_congr 10 fun v _ => by
  rw [Bool.eq_iff_iff, @decide_eq_true_iff _ (Classical.propDecidable _), @decide_eq_true_iff _ (Classical.propDecidable _)]
  exact ⟨fun ⟨b, h, e⟩ => ⟨b, by omega, e⟩, fun ⟨b, h, e⟩ => ⟨b, by omega, e⟩⟩
theorem colS_row {L : SL} {m i c : Nat} : colS L m i m c = colS L m (i + 1) 0 c := bs_congr 10 fun v _ => by
  rw [Bool.eq_iff_iff, @decide_eq_true_iff _ (Classical.propDecidable _), @decide_eq_true_iff _ (Classical.propDecidable _)]
  exact ⟨fun ⟨b, h, e⟩ => ⟨b, by omega, e⟩, fun ⟨b, h, e⟩ => ⟨b, by omega, e⟩⟩
theorem rowS_no {L : SL} {m i j r : Nat} (h : at2 L i j = -1) : rowS L m i j r = rowS L m i (j + 1) r := bs_congr 10 fun v _ => by
  rw [Bool.eq_iff_iff, @decide_eq_true_iff _ (Classical.propDecidable _), @decide_eq_true_iff _ (Classical.propDecidable _)]
  refine ⟨fun ⟨b, h, e⟩ => ⟨b, by omega, e⟩, fun ⟨b, hb, e⟩ => ⟨b, ?_, e⟩⟩
  by_cases e2 : r = i ∧ b = j
  · obtain ⟨rfl, rfl⟩ := e2; omega
  · omega
theorem colS_no {L : SL} {m i j c : Nat} (hj : j < m) (h : at2 L i j = -1) : colS L m i j c = colS L m i (j + 1) c := bs_congr 10 fun v _ => by
  rw [Bool.eq_iff_iff, @decide_eq_true_iff _ (Classical.propDecidable _), @decide_eq_true_iff _ (Classical.propDecidable _)]
  refine ⟨fun ⟨b, h, e⟩ => ⟨b, by omega, e⟩, fun ⟨b, hb, e⟩ => ⟨b, ?_, e⟩⟩
  by_cases e2 : b = i ∧ c = j
  · obtain ⟨rfl, rfl⟩ := e2; omega
  · omega
theorem rowS_put {L : SL} {m i j r v : Nat} (h : at2 L i j = (v : Int)) (hv : v < 10) : (if r = i then rowS L m i j i ||| 2 ^ v else rowS L m i j r) = rowS L m i (j + 1) r := by
  by_cases hr : r = i
  · subst hr
    rw [if_pos rfl]
    refine bs_or hv fun u _ => ?_
    rw [Bool.eq_iff_iff, Bool.or_eq_true, @decide_eq_true_iff _ (Classical.propDecidable _), @decide_eq_true_iff _ (Classical.propDecidable _), decide_eq_true_eq]
    constructor
    · rintro ⟨b, hb, e⟩
      by_cases e2 : b = j
      · subst e2; right; omega
      · left; exact ⟨b, by omega, e⟩
    · rintro (⟨b, hb, e⟩ | rfl)
      · exact ⟨b, by omega, e⟩
      · exact ⟨j, by omega, h⟩
  · rw [if_neg hr]
    refine bs_congr 10 fun u _ => ?_
    rw [Bool.eq_iff_iff, @decide_eq_true_iff _ (Classical.propDecidable _), @decide_eq_true_iff _ (Classical.propDecidable _)]
    exact ⟨fun ⟨b, h, e⟩ => ⟨b, by omega, e⟩, fun ⟨b, h, e⟩ => ⟨b, by omega, e⟩⟩
theorem colS_put {L : SL} {m i j c v : Nat} (hj : j < m) (h : at2 L i j = (v : Int)) (hv : v < 10) : (if c = j then colS L m i j j ||| 2 ^ v else colS L m i j c) = colS L m i (j + 1) c := by
  by_cases hc : c = j
  · subst hc
    rw [if_pos rfl]
    refine bs_or hv fun u _ => ?_
    rw [Bool.eq_iff_iff, Bool.or_eq_true, @decide_eq_true_iff _ (Classical.propDecidable _), @decide_eq_true_iff _ (Classical.propDecidable _), decide_eq_true_eq]
    constructor
    · rintro ⟨a, ha, e⟩
      by_cases e2 : a = i
      · subst e2; right; omega
      · left; exact ⟨a, by omega, e⟩
    · rintro (⟨a, ha, e⟩ | rfl)
      · exact ⟨a, by omega, e⟩
      · exact ⟨i, by omega, h⟩
  · rw [if_neg hc]
    refine bs_congr 10 fun u _ => ?_
    rw [Bool.eq_iff_iff, @decide_eq_true_iff _ (Classical.propDecidable _), @decide_eq_true_iff _ (Classical.propDecidable _)]
    exact ⟨fun ⟨b, h, e⟩ => ⟨b, by omega, e⟩, fun ⟨b, h, e⟩ => ⟨b, by omega, e⟩⟩
/-! ### What is known of the places ahead of (i, j) -/
structure ParA (L : SL) (i j : Nat) : Prop where
  l : ∀ a, a < i → ln2 L a = L.length
  r : ∀ a b, ((a < i ∧ b < L.length) ∨ (a = i ∧ b < j)) → -1 ≤ at2 L a b ∧ at2 L a b ≤ (L.length : Int) - 1
  x : ∀ a b c, ((a < i ∧ b < L.length) ∨ (a = i ∧ b < j)) → c < b → ¬ (0 ≤ at2 L a b ∧ at2 L a b = at2 L a c)
  y : ∀ a b c, ((a < i ∧ b < L.length) ∨ (a = i ∧ b < j)) → c < a → ¬ (0 ≤ at2 L a b ∧ at2 L a b = at2 L c b)
theorem ParA.zero {L : SL} : ParA L 0 0 := ⟨fun a h => by omega, fun a b h => by omega, fun a b c h => by omega, fun a b c h => by omega⟩
theorem ParA.row {L : SL} {i : Nat} (h : ParA L i L.length) (hl : ln2 L i = L.length) : ParA L (i + 1) 0 :=
  ⟨fun a ha => if e : a = i then e ▸ hl else h.l a (by omega), fun a b hh => h.r a b (by omega), fun a b c hh => h.x a b c (by omega), fun a b c hh => h.y a b c (by omega)⟩
theorem ParA.step {L : SL} {i j : Nat} (h : ParA L i j) (hr : -1 ≤ at2 L i j ∧ at2 L i j ≤ (L.length : Int) - 1) (hx : ∀ c, c < j → ¬ (0 ≤ at2 L i j ∧ at2 L i j = at2 L i c)) (hy : ∀ c, c < i → ¬ (0 ≤ at2 L i j ∧ at2 L i j = at2 L c j)) : ParA L i (j + 1) := by
  refine ⟨h.l, fun a b hh => ?_, fun a b c hh hc => ?_, fun a b c hh hc => ?_⟩
  all_goals
    by_cases e : a = i ∧ b = j
    · obtain ⟨rfl, rfl⟩ := e
      first | exact hr | exact hx c hc | exact hy c hc
    · first | exact h.r a b (by omega) | exact h.x a b c (by omega) hc | exact h.y a b c (by omega) hc
theorem ParA.stepE {L : SL} {i j : Nat} (h : ParA L i j) (he : at2 L i j = -1) : ParA L i (j + 1) := h.step (by omega) (fun c _ hh => by omega) (fun c _ hh => by omega)
theorem ParA.stepV {L : SL} {i j v : Nat} (h : ParA L i j) (hv : at2 L i j = (v : Int)) (hv2 : v < 10) (hr : -1 ≤ at2 L i j ∧ at2 L i j ≤ (L.length : Int) - 1) (hj : j < L.length) (hx : ¬ (rowS L L.length i j i).testBit v = true) (hy : ¬ (colS L L.length i j j).testBit v = true) : ParA L i (j + 1) := by
  rw [rowS_has hv2, @decide_eq_true_iff _ (Classical.propDecidable _)] at hx
  rw [colS_has hv2, @decide_eq_true_iff _ (Classical.propDecidable _)] at hy
  exact h.step hr (fun c hc hh => hx ⟨c, by omega, by omega⟩) (fun c hc hh => hy ⟨c, by omega, by omega⟩)
theorem ParA.end {L : SL} (h : ParA L L.length 0) (hn : 1 ≤ L.length ∧ L.length ≤ 10) : ParL L :=
  ⟨hn, h.l, fun i j hi hj => h.r i j (by omega), fun i j k hi hj hk => ⟨h.x i j k (by omega) hk, h.y j i k (by omega) hk⟩⟩
theorem par_rowdup {L : SL} {i j v : Nat} (hi : i < L.length) (hj : j < L.length) (hv : at2 L i j = (v : Int)) (hv2 : v < 10) (h : (rowS L L.length i j i).testBit v = true) : false = isPar L := by
  rw [rowS_has hv2, @decide_eq_true_iff _ (Classical.propDecidable _)] at h
  obtain ⟨b, hb, e⟩ := h
  refine isPar_d (i := i) (j := j) (k := b) hi hj (by omega) fun hh => hh.1 ⟨by omega, by omega⟩
theorem par_coldup {L : SL} {i j v : Nat} (hi : i < L.length) (hj : j < L.length) (hv : at2 L i j = (v : Int)) (hv2 : v < 10) (h : (colS L L.length i j j).testBit v = true) : false = isPar L := by
  rw [colS_has hv2, @decide_eq_true_iff _ (Classical.propDecidable _)] at h
  obtain ⟨b, hb, e⟩ := h
  refine isPar_d (i := j) (j := i) (k := b) hj hi (by omega) fun hh => hh.2 ⟨by omega, by omega⟩
/-- The cells of a square that is in order. -/
noncomputable def cT (L : SL) : Nat → Fin 256 := part L.length (gC L) L.length 0
noncomputable def cR (L : SL) (r : Nat) : Nat := rowS L L.length L.length 0 r
noncomputable def cC (L : SL) (c : Nat) : Nat := colS L L.length L.length 0 c
theorem gC_v {L : SL} {i j v : Nat} (hv : at2 L i j = (v : Int)) : gC L i j = Fin.ofNat 256 v := by
  unfold gC; rw [if_neg (by omega), hv]; rfl
theorem gC_e {L : SL} {i j : Nat} (hv : at2 L i j = -1) : gC L i j = 255 := by
  unfold gC; rw [if_pos hv]
end Go.Proofs.Ytebcapplclgaead
