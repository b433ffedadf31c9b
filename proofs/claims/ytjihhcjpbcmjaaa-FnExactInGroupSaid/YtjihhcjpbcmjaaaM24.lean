/- Squares of which some places are empty, as lists of lists of numbers. No conditions but those in the statements. Candidates for an empty place. No conditions but those in the statements. Forced places, filled one behind the other. No conditions but those in the statements. -/
import Derived.Test.YtjihhcjpbcmjaaaM14
import Derived.Test.YtjihhcjpbcmjaaaM12
import Derived.Test.YtjihhcjpbcmjaaaGx20
namespace Go.Proofs.Ytjihhcjpbcmjaaa
open Gx
set_option linter.unusedVariables false
abbrev at2 (L : SL) (i j : Nat) : Int := (L.getD i sd).2.getD j 0
abbrev ln2 (L : SL) (i : Nat) : Nat := (L.getD i sd).2.length
def nd2 (L : SL) (i j k : Nat) : Prop := ¬ (0 ≤ at2 L i j ∧ at2 L i j = at2 L i k) ∧ ¬ (0 ≤ at2 L j i ∧ at2 L j i = at2 L k i)
def ParL (L : SL) : Prop := (1 ≤ L.length ∧ L.length ≤ 10) ∧ (∀ i, i < L.length → ln2 L i = L.length) ∧ (∀ i j, i < L.length → j < L.length → -1 ≤ at2 L i j ∧ at2 L i j ≤ (L.length : Int) - 1) ∧
  ∀ i j k, i < L.length → j < L.length → k < j → nd2 L i j k
noncomputable def isPar (L : SL) : Bool := @decide (ParL L) (Classical.propDecidable _)
theorem of_isPar {L : SL} (h : isPar L = true) : ParL L := @of_decide_eq_true _ (Classical.propDecidable _) h
theorem isPar_t {L : SL} (h : ParL L) : true = isPar L := (@decide_eq_true _ (Classical.propDecidable _) h).symm
theorem isPar_f {L : SL} (h : ¬ ParL L) : false = isPar L := (@decide_eq_false _ (Classical.propDecidable _) h).symm
theorem isPar_n {L : SL} (h : ¬ (1 ≤ L.length ∧ L.length ≤ 10)) : false = isPar L := isPar_f fun hh => h hh.1
theorem isPar_l {L : SL} {i : Nat} (hi : i < L.length) (h : ¬ ln2 L i = L.length) : false = isPar L := isPar_f fun hh => h (hh.2.1 i hi)
theorem isPar_r {L : SL} {i j : Nat} (hi : i < L.length) (hj : j < L.length) (h : ¬ (-1 ≤ at2 L i j ∧ at2 L i j ≤ (L.length : Int) - 1)) : false = isPar L := isPar_f fun hh => h (hh.2.2.1 i j hi hj)
theorem isPar_d {L : SL} {i j k : Nat} (hi : i < L.length) (hj : j < L.length) (hk : k < j) (h : ¬ nd2 L i j k) : false = isPar L := isPar_f fun hh => h (hh.2.2.2 i j k hi hj hk)
theorem at2_eq {L M : SL} (h : L.map (·.2) = M.map (·.2)) (i j : Nat) : at2 L i j = at2 M i j := by unfold at2; rw [snd_getD h i]
theorem ln2_eq {L M : SL} (h : L.map (·.2) = M.map (·.2)) (i : Nat) : ln2 L i = ln2 M i := by unfold ln2; rw [snd_getD h i]
theorem sum_eq {L M : SL} (h : L.map (·.2) = M.map (·.2)) : sumL L L.length = sumL M M.length := by
  rw [snd_len h]
  suffices hs : ∀ k, sumL L k = sumL M k from hs _
  intro k
  induction k with
  | zero => rfl
  | succ k ih => show sumL L k + _ = sumL M k + _; rw [ih, snd_getD h k]
theorem isPar_eq {L M : SL} (h : L.map (·.2) = M.map (·.2)) : isPar L = isPar M := by
  unfold isPar
  congr 1
  unfold ParL nd2
  simp only [at2_eq h, ln2_eq h, snd_len h]
/-! ### Sizes -/
def szR (k : Int) : Int := if k < 0 then -1 else k
theorem szR_n {k : Int} (h : k < 0) : szR k = -1 := if_pos h
theorem szR_p {k : Int} (h : ¬ k < 0) : szR k = k := if_neg h
theorem szR_neg {k : Int} (h : szR k < 0) : k < 0 := by
  rcases Int.lt_or_le k 0 with h1 | h1
  · exact h1
  · rw [szR_p (by omega)] at h; exact h
theorem szR_pos {k : Int} (h : 0 ≤ szR k) : ¬ k < 0 := fun h1 => by rw [szR_n h1] at h; omega
theorem ln2_le {L : SL} (i : Nat) : ((L.getD i sd).2.length : Int) ≤ sumL L L.length := by
  rcases Nat.lt_or_ge i L.length with hi | hi
  · have h1 := sumL_le L (i := i + 1) (j := L.length) hi
    have h2 := sumL_nn L i
    have h3 : sumL L (i + 1) = sumL L i + ((L.getD i sd).2.length : Int) := rfl
    omega
  · have h1 := sumL_nn L L.length
    have h2 : L.getD i sd = sd := by simp [List.getD, List.getElem?_eq_none hi]
    rw [h2]
    simpa [sd] using h1
theorem sz_bound {L : SL} (h : ¬ ((1048576 : Int) - ((L.length : Nat) : Int) - sumL L L.length < 0)) : L.length ≤ 1048576 ∧ ∀ i, (L.getD i sd).2.length ≤ 1048576 := by
  have h1 := sumL_nn L L.length
  refine ⟨by omega, fun i => ?_⟩
  have := ln2_le (L := L) i
  omega
theorem ln2_max {L : SL} (h : ∀ p ∈ L, p.2.length ≤ maxLen ∧ ∀ n ∈ p.2, inR .i64 n) (i : Nat) : (L.getD i sd).2.length ≤ 9223372036854775807 := by
  rcases Nat.lt_or_ge i L.length with hi | hi
  · exact (h _ (getD_mem hi)).1
  · have h2 : L.getD i sd = sd := by simp [List.getD, List.getElem?_eq_none hi]
    rw [h2]
    simp [sd]
/-! ### Copies -/
theorem set_repl {D : SL} {n i : Nat} (hD : D.length = i) (hi : i < n) (q : V1 × List Int) : (D ++ List.replicate (n - i) sd).set i q = (D ++ [q]) ++ List.replicate (n - (i + 1)) sd := by
  subst hD
  have e1 : n - D.length = (n - (D.length + 1)) + 1 := by omega
  rw [e1, List.replicate_succ, List.set_append_right _ _ (Nat.le_refl _), Nat.sub_self]
  simp
theorem cp_next {D L : SL} {i : Nat} (h : D.map (·.2) = (L.map (·.2)).take i) (hi : i < L.length) (u : V1) : (D ++ [(u, (L.getD i sd).2)]).map (·.2) = (L.map (·.2)).take (i + 1) := by
  have hi' : i < (L.map (·.2)).length := by simpa using hi
  rw [List.take_succ_eq_append_getElem hi', List.map_append, h]
  congr 1
  simp [List.getD, List.getElem?_eq_getElem hi]
theorem snd_take {D L : SL} {i : Nat} (h : D.map (·.2) = (L.map (·.2)).take i) : D.length ≤ L.length := by
  have := congrArg List.length h
  simp at this
  omega
theorem cp_end {D L : SL} {i : Nat} (h : D.map (·.2) = (L.map (·.2)).take i) (hi : i = L.length) : D.map (·.2) = L.map (·.2) := by
  subst hi
  rw [h, List.take_of_length_le (by simp)]
/-! ### The rows and columns as sets -/
def gC (L : SL) (i j : Nat) : Fin 256 := if at2 L i j = -1 then 255 else Fin.ofNat 256 (at2 L i j).toNat
noncomputable def rowS (L : SL) (m i j r : Nat) : Nat := bsP (fun v => @decide (∃ b, ((r < i ∧ b < m) ∨ (r = i ∧ b < j)) ∧ at2 L r b = (v : Int)) (Classical.propDecidable _)) 10
noncomputable def colS (L : SL) (m i j c : Nat) : Nat := bsP (fun v => @decide (∃ a, ((a < i ∧ c < m) ∨ (a = i ∧ c < j)) ∧ at2 L a c = (v : Int)) (Classical.propDecidable _)) 10
theorem bs_congr {P Q : Nat → Bool} : ∀ k, (∀ v, v < k → P v = Q v) → bsP P k = bsP Q k
  | 0, _ => rfl
  | k + 1, h => by simp only [bsP]; rw [bs_congr k (fun v hv => h v (by omega)), h k (by omega)]
theorem bs_or {P Q : Nat → Bool} {m : Nat} (hm : m < 10) (h : ∀ v, v < 10 → Q v = (P v || decide (v = m))) : bsP P 10 ||| 2 ^ m = bsP Q 10 := by
  apply Nat.eq_of_testBit_eq
  intro v
  rw [Nat.testBit_or, bsP_bit, bsP_bit, Nat.testBit_two_pow]
  by_cases hv : v < 10
  · rw [h v hv, decide_eq_true hv]
    simp only [Bool.true_and]
    congr 1
    rw [Bool.eq_iff_iff]; simp only [decide_eq_true_eq]; exact eq_comm
  · rw [decide_eq_false hv]
    simp only [Bool.false_and, Bool.false_or, decide_eq_false_iff_not]
    omega
theorem rowS_lt {L : SL} {m i j r : Nat} : rowS L m i j r < 1024 := bsP_10 (by omega)
theorem colS_lt {L : SL} {m i j c : Nat} : colS L m i j c < 1024 := bsP_10 (by omega)
theorem rowS_has {L : SL} {m i j r v : Nat} (hv : v < 10) : (rowS L m i j r).testBit v = @decide (∃ b, ((r < i ∧ b < m) ∨ (r = i ∧ b < j)) ∧ at2 L r b = (v : Int)) (Classical.propDecidable _) := by
  unfold rowS; rw [bsP_bit, decide_eq_true hv]; rfl
theorem colS_has {L : SL} {m i j c v : Nat} (hv : v < 10) : (colS L m i j c).testBit v = @decide (∃ a, ((a < i ∧ c < m) ∨ (a = i ∧ c < j)) ∧ at2 L a c = (v : Int)) (Classical.propDecidable _) := by
  unfold colS; rw [bsP_bit, decide_eq_true hv]; rfl
theorem bs_zero {P : Nat → Bool} : ∀ k, (∀ v, v < k → P v = false) → bsP P k = 0
  | 0, _ => rfl
  | k + 1, h => by simp only [bsP]; rw [h k (by omega), bs_zero k (fun v hv => h v (by omega))]; rfl
theorem rowS_0 {L : SL} {m r : Nat} : rowS L m 0 0 r = 0 := bs_zero 10 fun v _ => @decide_eq_false _ (Classical.propDecidable _) (by rintro ⟨b, h, _⟩; omega)
theorem colS_0 {L : SL} {m c : Nat} : colS L m 0 0 c = 0 := bs_zero 10 fun v _ => @decide_eq_false _ (Classical.propDecidable _) (by rintro ⟨b, h, _⟩; omega)
theorem rowS_row {L : SL} {m i r : Nat} : rowS L m i m r = rowS L m (i + 1) 0 r := bs_congr 10 fun v _ => by
  rw [Bool.eq_iff_iff, @decide_eq_true_iff _ (Classical.propDecidable _), @decide_eq_true_iff _ (Classical.propDecidable _)]
  exact ⟨fun ⟨b, h, e⟩ => ⟨b, by omega, e⟩, fun ⟨b, h, e⟩ => ⟨b, by omega, e⟩⟩
theorem colS_row {L : SL} {m i c : Nat} : colS L m i m c = colS L m (i + 1) 0 c := bs_congr 10 fun v _ => by
  rw [Bool.eq_iff_iff, @decide_eq_true_iff _ (Classical.propDecidable _), @decide_eq_true_iff _ (Classical.propDecidable _)]
  exact ⟨fun ⟨b, h, e⟩ => ⟨b, by omega, e⟩, fun ⟨b, h, e⟩ => ⟨b, by omega, e⟩⟩
theorem rowS_no {L : SL} {m i j r : Nat} (h : at2 L i j = -1) : rowS L m i j r = rowS L m i (j + 1) r := bs_congr 10 fun v _ => by
  rw [Bool.eq_iff_iff, @decide_eq_true_iff _ (Classical.propDecidable _), @decide_eq_true_iff _ (Classical.propDecidable _)]
  refine ⟨fun ⟨b, h, e⟩ => ⟨b, by omega, e⟩, fun ⟨b, hb, e⟩ => ⟨b, ?_, e⟩⟩
  by_cases e2 : r = i ∧ b = j
  · obtain ⟨rfl, rfl⟩ := e2; omega
  · omega
theorem colS_no {L : SL} {m i j c : Nat} (hj : j < m) (h : at2 L i j = -1) : colS L m i j c = colS L m i (j + 1) c := bs_congr 10 fun v _ => by
  rw [Bool.eq_iff_iff, @decide_eq_true_iff _ (Classical.propDecidable _), @decide_eq_true_iff _ (Classical.propDecidable _)]
  refine ⟨fun ⟨b, h, e⟩ => ⟨b, by omega, e⟩, fun ⟨b, hb, e⟩ => ⟨b, ?_, e⟩⟩
  by_cases e2 : b = i ∧ c = j
  · obtain ⟨rfl, rfl⟩ := e2; omega
  · omega
theorem rowS_put {L : SL} {m i j r v : Nat} (h : at2 L i j = (v : Int)) (hv : v < 10) : (if r = i then rowS L m i j i ||| 2 ^ v else rowS L m i j r) = rowS L m i (j + 1) r := by
  by_cases hr : r = i
  · subst hr
    rw [if_pos rfl]
    refine bs_or hv fun u _ => ?_
    rw [Bool.eq_iff_iff, Bool.or_eq_true, @decide_eq_true_iff _ (Classical.propDecidable _), @decide_eq_true_iff _ (Classical.propDecidable _), decide_eq_true_eq]
    constructor
    · rintro ⟨b, hb, e⟩
      by_cases e2 : b = j
      · subst e2; right; omega
      · left; exact ⟨b, by omega, e⟩
    · rintro (⟨b, hb, e⟩ | rfl)
      · exact ⟨b, by omega, e⟩
      · exact ⟨j, by omega, h⟩
  · rw [if_neg hr]
    refine bs_congr 10 fun u _ => ?_
    rw [Bool.eq_iff_iff, @decide_eq_true_iff _ (Classical.propDecidable _), @decide_eq_true_iff _ (Classical.propDecidable _)]
    exact ⟨fun ⟨b, h, e⟩ => ⟨b, by omega, e⟩, fun ⟨b, h, e⟩ => ⟨b, by omega, e⟩⟩
theorem colS_put {L : SL} {m i j c v : Nat} (hj : j < m) (h : at2 L i j = (v : Int)) (hv : v < 10) : (if c = j then colS L m i j j ||| 2 ^ v else colS L m i j c) = colS L m i (j + 1) c := by
  by_cases hc : c = j
  · subst hc
    rw [if_pos rfl]
    refine bs_or hv fun u _ => ?_
    rw [Bool.eq_iff_iff, Bool.or_eq_true, @decide_eq_true_iff _ (Classical.propDecidable _), @decide_eq_true_iff _ (Classical.propDecidable _), decide_eq_true_eq]
    constructor
    · rintro ⟨a, ha, e⟩
      by_cases e2 : a = i
      · subst e2; right; omega
      · left; exact ⟨a, by omega, e⟩
    · rintro (⟨a, ha, e⟩ | rfl)
      · exact ⟨a, by omega, e⟩
      · exact ⟨i, by omega, h⟩
  · rw [if_neg hc]
    refine bs_congr 10 fun u _ => ?_
    rw [Bool.eq_iff_iff, @decide_eq_true_iff _ (Classical.propDecidable _), @decide_eq_true_iff _ (Classical.propDecidable _)]
    exact ⟨fun ⟨b, h, e⟩ => ⟨b, by omega, e⟩, fun ⟨b, h, e⟩ => ⟨b, by omega, e⟩⟩
/-! ### What is known of the places ahead of (i, j) -/
structure ParA (L : SL) (i j : Nat) : Prop where
  l : ∀ a, a < i → ln2 L a = L.length
  r : ∀ a b, ((a < i ∧ b < L.length) ∨ (a = i ∧ b < j)) → -1 ≤ at2 L a b ∧ at2 L a b ≤ (L.length : Int) - 1
  x : ∀ a b c, ((a < i ∧ b < L.length) ∨ (a = i ∧ b < j)) → c < b → ¬ (0 ≤ at2 L a b ∧ at2 L a b = at2 L a c)
  y : ∀ a b c, ((a < i ∧ b < L.length) ∨ (a = i ∧ b < j)) → c < a → ¬ (0 ≤ at2 L a b ∧ at2 L a b = at2 L c b)
theorem ParA.zero {L : SL} : ParA L 0 0 := ⟨fun a h => by omega, fun a b h => by omega, fun a b c h => by omega, fun a b c h => by omega⟩
theorem ParA.row {L : SL} {i : Nat} (h : ParA L i L.length) (hl : ln2 L i = L.length) : ParA L (i + 1) 0 :=
  ⟨fun a ha => if e : a = i then e ▸ hl else h.l a (by omega), fun a b hh => h.r a b (by omega), fun a b c hh => h.x a b c (by omega), fun a b c hh => h.y a b c (by omega)⟩
theorem ParA.step {L : SL} {i j : Nat} (h : ParA L i j) (hr : -1 ≤ at2 L i j ∧ at2 L i j ≤ (L.length : Int) - 1) (hx : ∀ c, c < j → ¬ (0 ≤ at2 L i j ∧ at2 L i j = at2 L i c)) (hy : ∀ c, c < i → ¬ (0 ≤ at2 L i j ∧ at2 L i j = at2 L c j)) : ParA L i (j + 1) := by
  refine ⟨h.l, fun a b hh => ?_, fun a b c hh hc => ?_, fun a b c hh hc => ?_⟩
  all_goals
    by_cases e : a = i ∧ b = j
    · obtain ⟨rfl, rfl⟩ := e
      first | exact hr | exact hx c hc | exact hy c hc
    · first | exact h.r a b (by omega) | exact h.x a b c (by omega) hc | exact h.y a b c (by omega) hc
theorem ParA.stepE {L : SL} {i j : Nat} (h : ParA L i j) (he : at2 L i j = -1) : ParA L i (j + 1) := h.step (by omega) (fun c _ hh => by omega) (fun c _ hh => by omega)
theorem ParA.stepV {L : SL} {i j v : Nat} (h : ParA L i j) (hv : at2 L i j = (v : Int)) (hv2 : v < 10) (hr : -1 ≤ at2 L i j ∧ at2 L i j ≤ (L.length : Int) - 1) (hj : j < L.length) (hx : ¬ (rowS L L.length i j i).testBit v = true) (hy : ¬ (colS L L.length i j j).testBit v = true) : ParA L i (j + 1) := by
  rw [rowS_has hv2, @decide_eq_true_iff _ (Classical.propDecidable _)] at hx
  rw [colS_has hv2, @decide_eq_true_iff _ (Classical.propDecidable _)] at hy
  exact h.step hr (fun c hc hh => hx ⟨c, by omega, by omega⟩) (fun c hc hh => hy ⟨c, by omega, by omega⟩)
theorem ParA.end {L : SL} (h : ParA L L.length 0) (hn : 1 ≤ L.length ∧ L.length ≤ 10) : ParL L :=
  ⟨hn, h.l, fun i j hi hj => h.r i j (by omega), fun i j k hi hj hk => ⟨h.x i j k (by omega) hk, h.y j i k (by omega) hk⟩⟩
theorem par_rowdup {L : SL} {i j v : Nat} (hi : i < L.length) (hj : j < L.length) (hv : at2 L i j = (v : Int)) (hv2 : v < 10) (h : (rowS L L.length i j i).testBit v = true) : false = isPar L := by
  rw [rowS_has hv2, @decide_eq_true_iff _ (Classical.propDecidable _)] at h
  obtain ⟨b, hb, e⟩ := h
  refine isPar_d (i := i) (j := j) (k := b) hi hj (by omega) fun hh => hh.1 ⟨by omega, by omega⟩
theorem par_coldup {L : SL} {i j v : Nat} (hi : i < L.length) (hj : j < L.length) (hv : at2 L i j = (v : Int)) (hv2 : v < 10) (h : (colS L L.length i j j).testBit v = true) : false = isPar L := by
  rw [colS_has hv2, @decide_eq_true_iff _ (Classical.propDecidable _)] at h
  obtain ⟨b, hb, e⟩ := h
  refine isPar_d (i := j) (j := i) (k := b) hj hi (by omega) fun hh => hh.2 ⟨by omega, by omega⟩
/-- The cells of a square that is in order. -/
noncomputable def cT (L : SL) : Nat → Fin 256 := part L.length (gC L) L.length 0
noncomputable def cR (L : SL) (r : Nat) : Nat := rowS L L.length L.length 0 r
noncomputable def cC (L : SL) (c : Nat) : Nat := colS L L.length L.length 0 c
theorem gC_v {L : SL} {i j v : Nat} (hv : at2 L i j = (v : Int)) : gC L i j = Fin.ofNat 256 v := by
  unfold gC; rw [if_neg (by omega), hv]; rfl
theorem gC_e {L : SL} {i j : Nat} (hv : at2 L i j = -1) : gC L i j = 255 := by
  unfold gC; rw [if_pos hv]
end Go.Proofs.Ytjihhcjpbcmjaaa
namespace Go.Proofs.Ytjihhcjpbcmjaaa
open Gx
set_option linter.unusedVariables false
/-- a without what is in b. -/
theorem p_andn {E : Gx.Env} {s : Gx.St} {dst : Option Nat} {ty : TypeId} {ps : String} {af : Array Edge} {gd : Option (Nat × Bool)} {x y : Operand} {T T' : TypeId} {a b r : Nat} (hx : evI s x = some (.i64, (a : Int))) (hy : evI s y = some (.i64, (b : Int))) (ha : a < 1024) (hb : b < 1024)
    (hr : ∀ j, r.testBit j = (a.testBit j && !b.testBit j)) : Pt E ⟨dst, .binOp .andNot T x y T', ty, ps, af, gd⟩ s (.int .i64 (r : Int)) := fun c ho w => by
  have ia : inR .i64 (a : Int) := ⟨by omega, by omega⟩
  have ib : inR .i64 (b : Int) := ⟨by omega, by omega⟩
  have hra : r < 2 ^ 10 := by
    apply Nat.lt_pow_two_of_testBit
    intro j hj
    rw [hr j, Nat.testBit_lt_two_pow (Nat.lt_of_lt_of_le ha (Nat.pow_le_pow_right (show 0 < 2 by omega) hj))]
    rfl
  have ir : inR .i64 ((r : Nat) : Int) := ⟨by omega, by omega⟩
  have h64 : IntKind.bits .i64 = 64 := rfl
  have e1 : (BitVec.ofInt (IntKind.bits .i64) (a : Int) &&& ~~~ BitVec.ofInt (IntKind.bits .i64) (b : Int)).toNat = r := by
    apply Nat.eq_of_testBit_eq
    intro j
    rw [hr j, BitVec.toNat_and, Nat.testBit_and, toNat_ofInt_in (by omega) ia, Int.toNat_natCast]
    by_cases hj : j < 64
    · congr 1
      rw [BitVec.testBit_toNat, BitVec.getLsbD_not, ← BitVec.testBit_toNat, toNat_ofInt_in (by omega) ib, Int.toNat_natCast]
      simp [h64, hj]
    · have : a.testBit j = false := Nat.testBit_lt_two_pow (Nat.lt_of_lt_of_le ha (Nat.le_trans (show 1024 ≤ 2 ^ 64 by decide) (Nat.pow_le_pow_right (by omega) (by omega))))
      rw [this]; simp
  have e2 : Op.intBits .andNot .i64 (a : Int) (b : Int) = pure (.int .i64 ((r : Nat) : Int)) := by
    show pure (Value.int .i64 (IntKind.wrap .i64 (((BitVec.ofInt (IntKind.bits .i64) (a : Int) &&& ~~~ BitVec.ofInt (IntKind.bits .i64) (b : Int)).toNat : Nat) : Int))) = _
    rw [e1, wrap_in ir]
  simp [execOp, ho.evI hx, ho.evI hy, D.val, run_eqGuard_int, binOp, e2]
theorem shl_nat (n : Nat) : (D.int .i64 (1 * 2 ^ ((n : Int)).toNat)).val = (D.int .i64 ((2 ^ n : Nat) : Int)).val := by
  refine veq_int ?_
  rw [Int.toNat_natCast, Int.one_mul]
  simp
theorem p_or_nn {E : Gx.Env} {s : Gx.St} {dst : Option Nat} {ty : TypeId} {ps : String} {af : Array Edge} {gd : Option (Nat × Bool)} {x y : Operand} {T T' : TypeId} {a b : Nat} (hx : evI s x = some (.i64, (a : Int))) (hy : evI s y = some (.i64, (b : Int))) (ha : a < 1024) (hb : b < 1024) :
    Pt E ⟨dst, .binOp .or T x y T', ty, ps, af, gd⟩ s (.int .i64 ((a ||| b : Nat) : Int)) := by
  have hor : a ||| b < 2 ^ 10 := Nat.or_lt_two_pow (by omega) (by omega)
  have h := p_or (E := E) (s := s) (dst := dst) (ty := ty) (ps := ps) (af := af) (gd := gd) (T := T) (T' := T') hx hy (by omega) (by omega) ⟨by omega, by omega⟩ ⟨by omega, by omega⟩ ⟨by simp only [Int.toNat_natCast]; omega, by simp only [Int.toNat_natCast]; omega⟩
  simpa only [Int.toNat_natCast] using h
def candP (L : SL) (i j : Nat) (v : Nat) : Prop := ∀ k, k < L.length → ¬ (at2 L i k = (v : Int)) ∧ ¬ (at2 L k j = (v : Int))
noncomputable def candB (L : SL) (i j : Nat) (v : Nat) : Bool := @decide (candP L i j v) (Classical.propDecidable _)
theorem candB_t {L : SL} {i j v : Nat} (h : candP L i j v) : true = candB L i j v := (@decide_eq_true _ (Classical.propDecidable _) h).symm
theorem candB_f {L : SL} {i j v k : Nat} (hk : k < L.length) (h : at2 L i k = (v : Int) ∨ at2 L k j = (v : Int)) : false = candB L i j v := (@decide_eq_false _ (Classical.propDecidable _) fun hh => by
  rcases h with h | h
  · exact (hh k hk).1 h
  · exact (hh k hk).2 h).symm
theorem cR_has {L : SL} {i v : Nat} (hi : i < L.length) (hv : v < 10) : (cR L i).testBit v = true ↔ ∃ k, k < L.length ∧ at2 L i k = (v : Int) := by
  unfold cR
  rw [rowS_has hv, @decide_eq_true_iff _ (Classical.propDecidable _)]
  exact ⟨fun ⟨b, h, e⟩ => ⟨b, by omega, e⟩, fun ⟨b, h, e⟩ => ⟨b, by omega, e⟩⟩
theorem cC_has {L : SL} {j v : Nat} (hj : j < L.length) (hv : v < 10) : (cC L j).testBit v = true ↔ ∃ k, k < L.length ∧ at2 L k j = (v : Int) := by
  unfold cC
  rw [colS_has hv, @decide_eq_true_iff _ (Classical.propDecidable _)]
  exact ⟨fun ⟨b, h, e⟩ => ⟨b, by omega, e⟩, fun ⟨b, h, e⟩ => ⟨b, by omega, e⟩⟩
theorem cR_lt {L : SL} {i : Nat} : cR L i < 1024 := rowS_lt
theorem cC_lt {L : SL} {i : Nat} : cC L i < 1024 := colS_lt
theorem or_lt {a b : Nat} (ha : a < 1024) (hb : b < 1024) : a ||| b < 1024 := Nat.or_lt_two_pow (n := 10) ha hb
theorem cand_bits {L : SL} {i j : Nat} (hn : L.length ≤ 10) (hi : i < L.length) (hj : j < L.length) (v : Nat) : (bsP (candB L i j) L.length).testBit v = ((2 ^ L.length - 1).testBit v && !(cR L i ||| cC L j).testBit v) := by
  rw [bsP_bit, Nat.testBit_two_pow_sub_one, Nat.testBit_or]
  by_cases hv : v < L.length
  · rw [decide_eq_true hv, Bool.true_and, Bool.true_and, Bool.eq_iff_iff]
    have h1 := cR_has (v := v) hi (by omega)
    have h2 := cC_has (v := v) hj (by omega)
    unfold candB
    rw [@decide_eq_true_iff _ (Classical.propDecidable _), Bool.not_eq_true', Bool.or_eq_false_iff, Bool.eq_false_iff, Bool.eq_false_iff, Ne, Ne, h1, h2]
    exact ⟨fun h => ⟨fun ⟨k, hk, e⟩ => (h k hk).1 e, fun ⟨k, hk, e⟩ => (h k hk).2 e⟩, fun h k hk => ⟨fun e => h.1 ⟨k, hk, e⟩, fun e => h.2 ⟨k, hk, e⟩⟩⟩
  · rw [decide_eq_false hv]; simp
/-- The code and the list of CandidatesAt. -/
noncomputable def cdC (L : SL) (i j : Int) : Int := if isPar L = true then (if (0 ≤ i ∧ i ≤ (L.length : Int) - 1) ∧ (0 ≤ j ∧ j ≤ (L.length : Int) - 1) then (if 0 ≤ at2 L i.toNat j.toNat then 5 else 0) else 2) else 1
noncomputable def cdL (L : SL) (i j : Int) : List Int := if cdC L i j = 0 then filt (candB L i.toNat j.toNat) L.length else []
theorem cd_1 {L : SL} {i j : Int} (h : isPar L = false) : cdC L i j = 1 := by unfold cdC; rw [if_neg (by rw [h]; decide)]
theorem cd_2 {L : SL} {i j : Int} (h : isPar L = true) (h2 : ¬ ((0 ≤ i ∧ i ≤ (L.length : Int) - 1) ∧ (0 ≤ j ∧ j ≤ (L.length : Int) - 1))) : cdC L i j = 2 := by unfold cdC; rw [if_pos h, if_neg h2]
theorem cd_5 {L : SL} {i j : Int} (h : isPar L = true) (h2 : (0 ≤ i ∧ i ≤ (L.length : Int) - 1) ∧ (0 ≤ j ∧ j ≤ (L.length : Int) - 1)) (h3 : 0 ≤ at2 L i.toNat j.toNat) : cdC L i j = 5 := by unfold cdC; rw [if_pos h, if_pos h2, if_pos h3]
theorem cd_0 {L : SL} {i j : Int} (h : isPar L = true) (h2 : (0 ≤ i ∧ i ≤ (L.length : Int) - 1) ∧ (0 ≤ j ∧ j ≤ (L.length : Int) - 1)) (h3 : ¬ 0 ≤ at2 L i.toNat j.toNat) : cdC L i j = 0 := by unfold cdC; rw [if_pos h, if_pos h2, if_neg h3]
theorem cdL_n {L : SL} {i j c : Int} (h : cdC L i j = c) (hc : c ≠ 0) : cdL L i j = [] := by unfold cdL; rw [if_neg (by omega)]
theorem cdL_0 {L : SL} {i j : Int} (h : cdC L i j = 0) : cdL L i j = filt (candB L i.toNat j.toNat) L.length := if_pos h
theorem cdL_len {L : SL} {i j : Int} : (cdL L i j).length ≤ 10000000 := by
  unfold cdL
  split
  · rename_i h
    have : isPar L = true := by
      cases hp : isPar L with
      | true => rfl
      | false => rw [cd_1 hp] at h; omega
    have h2 := (of_isPar this).1.2
    have := filt_len (P := candB L i.toNat j.toNat) L.length
    omega
  · simp
theorem cd_eq {L M : SL} (h : L.map (·.2) = M.map (·.2)) (i j : Int) : cdC L i j = cdC M i j := by unfold cdC; rw [isPar_eq h, snd_len h, at2_eq h]
theorem cand_eq {L M : SL} (h : L.map (·.2) = M.map (·.2)) (i j : Nat) : candB L i j = candB M i j := by
  funext v
  unfold candB
  congr 1
  unfold candP
  simp only [at2_eq h, snd_len h]
theorem cdL_eq {L M : SL} (h : L.map (·.2) = M.map (·.2)) (i j : Int) : cdL L i j = cdL M i j := by unfold cdL; rw [cd_eq h, cand_eq h, snd_len h]
theorem cT_at {L : SL} {i j : Nat} (hp : isPar L = true) (hi : i < L.length) (hj : j < L.length) : (cT L (10 * i + j) = 255 ↔ ¬ 0 ≤ at2 L i j) := by
  obtain ⟨hn, _, hr, _⟩ := of_isPar hp
  have h1 := hr i j hi hj
  have e1 : (10 * i + j) / 10 = i := by omega
  have e2 : (10 * i + j) % 10 = j := by omega
  unfold cT part gC
  rw [e1, e2, if_pos (by omega)]
  split
  · rename_i h; rw [h]; exact ⟨fun _ => by omega, fun _ => rfl⟩
  · rename_i h
    refine ⟨fun hh => ?_, fun hh => by omega⟩
    have := congrArg Fin.val hh
    rw [ofNat_val (by omega)] at this
    have e255 : (255 : Fin 256).val = 255 := rfl
    omega
theorem cT_v {L : SL} {i j : Nat} (hp : isPar L = true) (hi : i < L.length) (hj : j < L.length) (h : 0 ≤ at2 L i j) : ((cT L (10 * i + j)).val : Int) = at2 L i j := by
  obtain ⟨hn, _, hr, _⟩ := of_isPar hp
  have h1 := hr i j hi hj
  have e1 : (10 * i + j) / 10 = i := by omega
  have e2 : (10 * i + j) % 10 = j := by omega
  unfold cT part gC
  rw [e1, e2, if_pos (by omega), if_neg (by omega), ofNat_val (by omega)]
  omega
end Go.Proofs.Ytjihhcjpbcmjaaa
namespace Go.Proofs.Ytjihhcjpbcmjaaa
open Gx
set_option linter.unusedVariables false
/-! ### One place laid -/
def setS (M : SL) (i j : Nat) (v : Int) : SL := M.set i ((M.getD i sd).1, (M.getD i sd).2.set j v)
theorem setS_len {M : SL} {i j : Nat} {v : Int} : (setS M i j v).length = M.length := by simp [setS]
theorem setS_get {M : SL} {i j : Nat} {v : Int} (hi : i < M.length) (a : Nat) : ((setS M i j v).getD a sd).2 = if a = i then (M.getD i sd).2.set j v else (M.getD a sd).2 := by
  unfold setS
  simp only [List.getD, List.getElem?_set]
  by_cases h : i = a
  · subst h; simp [hi]
  · rw [if_neg h, if_neg (fun e => h e.symm)]
theorem setS_ln {M : SL} {i j : Nat} {v : Int} (hi : i < M.length) (a : Nat) : ln2 (setS M i j v) a = ln2 M a := by
  unfold ln2
  rw [setS_get hi]
  split
  · rename_i h; subst h; simp
  · rfl
theorem setS_at {M : SL} {i j : Nat} {v : Int} (hi : i < M.length) (hj : j < ln2 M i) (a b : Nat) : at2 (setS M i j v) a b = if a = i ∧ b = j then v else at2 M a b := by
  unfold at2
  rw [setS_get hi]
  by_cases ha : a = i
  · subst ha
    rw [if_pos rfl]
    have hj' : j < (M.getD a sd).2.length := hj
    clear hj
    generalize (M.getD a sd).2 = l at *
    by_cases hb : b = j
    · subst hb; rw [if_pos ⟨rfl, rfl⟩]; simp [List.getD, hj']
    · rw [if_neg (fun e => hb e.2)]
      simp only [List.getD, List.getElem?_set]
      rw [if_neg (fun e => hb e.symm)]
  · rw [if_neg ha, if_neg (fun e => ha e.1)]
theorem setS_map {M N : SL} (h : M.map (·.2) = N.map (·.2)) (i j : Nat) (v : Int) : (setS M i j v).map (·.2) = (setS N i j v).map (·.2) := by
  unfold setS
  rw [List.map_set, List.map_set, h, snd_getD h i]
theorem set_par {M : SL} {i j v : Nat} (h : ParL M) (hi : i < M.length) (hj : j < M.length) (he : at2 M i j < 0) (hv : v < M.length) (hc : candP M i j v) : ParL (setS M i j (v : Int)) := by
  obtain ⟨h1, h2, h3, h4⟩ := h
  have hl : (setS M i j (v : Int)).length = M.length := setS_len
  have hat : ∀ a b, at2 (setS M i j (v : Int)) a b = if a = i ∧ b = j then (v : Int) else at2 M a b := setS_at hi (by rw [h2 i hi]; exact hj)
  refine ⟨by rw [hl]; exact h1, fun a ha => by rw [hl] at *; rw [setS_ln hi]; exact h2 a ha, fun a b ha hb => ?_, fun a b c ha hb hc2 => ?_⟩
  · rw [hl] at *
    rw [hat]
    split
    · omega
    · exact h3 a b ha hb
  · rw [hl] at ha hb
    have h5 := h4 a b c ha hb hc2
    have q1 := hc c (by omega)
    have q2 := hc b hb
    have q3 := hc c (by omega)
    unfold nd2 at *
    rw [hat, hat, hat, hat]
    refine ⟨fun hh => ?_, fun hh => ?_⟩
    · by_cases e1 : a = i ∧ b = j
      · rw [if_pos e1, if_neg (by omega)] at hh
        obtain ⟨rfl, rfl⟩ := e1
        exact q1.1 hh.2.symm
      · rw [if_neg e1] at hh
        by_cases e2 : a = i ∧ c = j
        · rw [if_pos e2] at hh
          obtain ⟨rfl, rfl⟩ := e2
          exact q2.1 hh.2
        · rw [if_neg e2] at hh; exact h5.1 hh
    · by_cases e1 : b = i ∧ a = j
      · rw [if_pos e1, if_neg (by omega)] at hh
        obtain ⟨rfl, rfl⟩ := e1
        exact q1.2 hh.2.symm
      · rw [if_neg e1] at hh
        by_cases e2 : c = i ∧ a = j
        · rw [if_pos e2] at hh
          obtain ⟨rfl, rfl⟩ := e2
          exact q2.2 hh.2
        · rw [if_neg e2] at hh; exact h5.2 hh
/-! ### The cells of it -/
theorem cT_set {M : SL} {i j v : Nat} (h : ParL M) (hi : i < M.length) (hj : j < M.length) (k : Nat) (hk : k < 100) : (if k = 10 * i + j then Fin.ofNat 256 v else cT M k) = cT (setS M i j (v : Int)) k := by
  obtain ⟨h1, h2, h3, h4⟩ := h
  have hat : ∀ a b, at2 (setS M i j (v : Int)) a b = if a = i ∧ b = j then (v : Int) else at2 M a b := setS_at hi (by rw [h2 i hi]; exact hj)
  unfold cT part gC
  rw [setS_len, hat]
  by_cases e : k = 10 * i + j
  · subst e
    have e1 : (10 * i + j) / 10 = i := by omega
    have e2 : (10 * i + j) % 10 = j := by omega
    have c1 : (i < M.length ∧ j < M.length) ∨ (i = M.length ∧ j < 0) := .inl ⟨hi, hj⟩
    have c2 : (if i = i ∧ j = j then (v : Int) else at2 M i j) = (v : Int) := if_pos ⟨rfl, rfl⟩
    rw [if_pos rfl, e1, e2, if_pos c1, c2, if_neg (by omega)]
    rfl
  · rw [if_neg e, if_neg (show ¬ (k / 10 = i ∧ k % 10 = j) by omega)]
theorem cR_set {M : SL} {i j v : Nat} (h : ParL M) (hi : i < M.length) (hj : j < M.length) (he : at2 M i j < 0) (hv : v < 10) (r : Nat) : (if r = i then cR M i ||| 2 ^ v else cR M r) = cR (setS M i j (v : Int)) r := by
  obtain ⟨h1, h2, h3, h4⟩ := h
  have hat : ∀ a b, at2 (setS M i j (v : Int)) a b = if a = i ∧ b = j then (v : Int) else at2 M a b := setS_at hi (by rw [h2 i hi]; exact hj)
  unfold cR rowS
  rw [setS_len]
  by_cases hr : r = i
  · subst hr
    rw [if_pos rfl]
    refine bs_or hv fun u _ => ?_
    rw [Bool.eq_iff_iff, Bool.or_eq_true, @decide_eq_true_iff _ (Classical.propDecidable _), @decide_eq_true_iff _ (Classical.propDecidable _), decide_eq_true_eq]
    constructor
    · rintro ⟨b, hb, e⟩
      rw [hat] at e
      by_cases e2 : b = j
      · rw [if_pos ⟨rfl, e2⟩] at e; right; omega
      · rw [if_neg (fun h => e2 h.2)] at e; left; exact ⟨b, hb, e⟩
    · rintro (⟨b, hb, e⟩ | rfl)
      · refine ⟨b, hb, ?_⟩
        rw [hat, if_neg ?_]; exact e
        rintro ⟨_, rfl⟩; omega
      · exact ⟨j, by omega, by rw [hat, if_pos ⟨rfl, rfl⟩]⟩
  · rw [if_neg hr]
    refine bs_congr 10 fun u _ => ?_
    rw [Bool.eq_iff_iff, @decide_eq_true_iff _ (Classical.propDecidable _), @decide_eq_true_iff _ (Classical.propDecidable _)]
    have hat2 : ∀ b, at2 (setS M i j (v : Int)) r b = at2 M r b := fun b => by rw [hat, if_neg (fun h => hr h.1)]
    simp only [hat2]
theorem cC_set {M : SL} {i j v : Nat} (h : ParL M) (hi : i < M.length) (hj : j < M.length) (he : at2 M i j < 0) (hv : v < 10) (c : Nat) : (if c = j then cC M j ||| 2 ^ v else cC M c) = cC (setS M i j (v : Int)) c := by
  obtain ⟨h1, h2, h3, h4⟩ := h
  have hat : ∀ a b, at2 (setS M i j (v : Int)) a b = if a = i ∧ b = j then (v : Int) else at2 M a b := setS_at hi (by rw [h2 i hi]; exact hj)
  unfold cC colS
  rw [setS_len]
  by_cases hc : c = j
  · subst hc
    rw [if_pos rfl]
    refine bs_or hv fun u _ => ?_
    rw [Bool.eq_iff_iff, Bool.or_eq_true, @decide_eq_true_iff _ (Classical.propDecidable _), @decide_eq_true_iff _ (Classical.propDecidable _), decide_eq_true_eq]
    constructor
    · rintro ⟨a, ha, e⟩
      rw [hat] at e
      by_cases e2 : a = i
      · rw [if_pos ⟨e2, rfl⟩] at e; right; omega
      · rw [if_neg (fun h => e2 h.1)] at e; left; exact ⟨a, ha, e⟩
    · rintro (⟨a, ha, e⟩ | rfl)
      · refine ⟨a, ha, ?_⟩
        rw [hat, if_neg ?_]; exact e
        rintro ⟨rfl, _⟩; omega
      · exact ⟨i, by omega, by rw [hat, if_pos ⟨rfl, rfl⟩]⟩
  · rw [if_neg hc]
    refine bs_congr 10 fun u _ => ?_
    rw [Bool.eq_iff_iff, @decide_eq_true_iff _ (Classical.propDecidable _), @decide_eq_true_iff _ (Classical.propDecidable _)]
    have hat2 : ∀ a, at2 (setS M i j (v : Int)) a c = at2 M a c := fun a => by rw [hat, if_neg (fun h => hc h.2)]
    simp only [hat2]
/-! ### The first of a kind -/
def ffrom (P : Nat → Bool) : Nat → Nat → Option Nat
  | 0, _ => none
  | f + 1, k => if P k = true then some k else ffrom P f (k + 1)
theorem ffrom_some {P : Nat → Bool} {q : Nat} (hq : P q = true) : ∀ (f k : Nat), k ≤ q → q < k + f → (∀ p, k ≤ p → p < q → P p = false) → ffrom P f k = some q
  | 0, k, h1, h2, _ => by omega
  | f + 1, k, h1, h2, h3 => by
    unfold ffrom
    by_cases e : k = q
    · subst e; rw [if_pos hq]
    · rw [if_neg (by rw [h3 k (Nat.le_refl _) (by omega)]; decide)]
      exact ffrom_some hq f (k + 1) (by omega) (by omega) fun p hp hp2 => h3 p (by omega) hp2
theorem ffrom_none {P : Nat → Bool} : ∀ (f k : Nat), (∀ p, k ≤ p → p < k + f → P p = false) → ffrom P f k = none
  | 0, _, _ => rfl
  | f + 1, k, h => by
    unfold ffrom
    rw [if_neg (by rw [h k (Nat.le_refl _) (by omega)]; decide)]
    exact ffrom_none f (k + 1) fun p hp hp2 => h p (by omega) (by omega)
theorem ffrom_spec {P : Nat → Bool} {q : Nat} : ∀ (f k : Nat), ffrom P f k = some q → k ≤ q ∧ q < k + f ∧ P q = true ∧ ∀ p, k ≤ p → p < q → P p = false
  | 0, _, h => by cases h
  | f + 1, k, h => by
    unfold ffrom at h
    split at h
    · rename_i hp
      obtain rfl : k = q := by simpa using h
      exact ⟨Nat.le_refl _, by omega, hp, fun p h1 h2 => by omega⟩
    · rename_i hp
      obtain ⟨h1, h2, h3, h4⟩ := ffrom_spec f (k + 1) h
      exact ⟨by omega, by omega, h3, fun p h5 h6 => if e : p = k then by subst e; simpa using hp else h4 p (by omega) h6⟩
theorem ffrom_nspec {P : Nat → Bool} : ∀ (f k : Nat), ffrom P f k = none → ∀ p, k ≤ p → p < k + f → P p = false
  | 0, _, _, p, h1, h2 => by omega
  | f + 1, k, h, p, h1, h2 => by
    unfold ffrom at h
    split at h
    · cases h
    · rename_i hp
      by_cases e : p = k
      · subst e; simpa using hp
      · exact ffrom_nspec f (k + 1) h p (by omega) (by omega)
theorem ffrom_congr {P Q : Nat → Bool} : ∀ (f k : Nat), (∀ p, k ≤ p → p < k + f → P p = Q p) → ffrom P f k = ffrom Q f k
  | 0, _, _ => rfl
  | f + 1, k, h => by
    unfold ffrom
    rw [h k (Nat.le_refl _) (by omega), ffrom_congr f (k + 1) fun p h1 h2 => h p (by omega) (by omega)]
/-! ### Forced places -/
noncomputable def fcL (M : SL) (q : Nat) : List Int := filt (candB M (q / M.length) (q % M.length)) M.length
noncomputable def fq (M : SL) (q : Nat) : Bool := decide (at2 M (q / M.length) (q % M.length) < 0) && decide ((fcL M q).length = 1)
noncomputable def stepF (M : SL) : Option Nat := ffrom (fq M) (M.length * M.length) 0
noncomputable def nxtF (M : SL) : SL := match stepF M with
  | none => M
  | some q => setS M (q / M.length) (q % M.length) ((fcL M q).getD 0 0)
noncomputable def iterF : Nat → SL → SL
  | 0, M => M
  | k + 1, M => iterF k (nxtF M)
theorem fcL_eq {M N : SL} (h : M.map (·.2) = N.map (·.2)) (q : Nat) : fcL M q = fcL N q := by unfold fcL; rw [snd_len h, cand_eq h]
theorem fq_eq {M N : SL} (h : M.map (·.2) = N.map (·.2)) : fq M = fq N := by
  funext q; unfold fq; rw [fcL_eq h, snd_len h, at2_eq h]
theorem stepF_eq {M N : SL} (h : M.map (·.2) = N.map (·.2)) : stepF M = stepF N := by unfold stepF; rw [fq_eq h, snd_len h]
theorem nxtF_eq {M N : SL} (h : M.map (·.2) = N.map (·.2)) : (nxtF M).map (·.2) = (nxtF N).map (·.2) := by
  unfold nxtF
  rw [stepF_eq h]
  split
  · exact h
  · rw [fcL_eq h, snd_len h]; exact setS_map h _ _ _
theorem iterF_eq : ∀ (k : Nat) {M N : SL}, M.map (·.2) = N.map (·.2) → (iterF k M).map (·.2) = (iterF k N).map (·.2)
  | 0, _, _, h => h
  | k + 1, _, _, h => iterF_eq k (nxtF_eq h)
theorem iterF_add : ∀ (k m : Nat) (M : SL), iterF (k + m) M = iterF m (iterF k M)
  | 0, m, M => by rw [Nat.zero_add]; rfl
  | k + 1, m, M => by rw [Nat.succ_add]; exact iterF_add k m (nxtF M)
theorem iterF_stop {M : SL} (h : stepF M = none) : ∀ k, iterF k M = M
  | 0 => rfl
  | k + 1 => by
    have : nxtF M = M := by unfold nxtF; rw [h]
    show iterF k (nxtF M) = M
    rw [this]; exact iterF_stop h k
theorem filt_get {P : Nat → Bool} : ∀ k, (filt P k).length = 1 → ∃ v : Nat, (filt P k).getD 0 0 = (v : Int) ∧ v < k ∧ P v = true
  | 0, h => by simp [filt] at h
  | k + 1, h => by
    unfold filt at *
    by_cases hp : P k = true
    · rw [if_pos hp] at *
      have h0 : filt P k = [] := List.length_eq_zero_iff.1 (by simpa using h)
      rw [h0]
      exact ⟨k, rfl, by omega, hp⟩
    · rw [if_neg hp, List.append_nil] at *
      obtain ⟨v, h1, h2, h3⟩ := filt_get k h
      exact ⟨v, h1, by omega, h3⟩
theorem div_mod_lt {n q : Nat} (h : q < n * n) : q / n < n ∧ q % n < n := by
  have hn : 0 < n := by
    rcases Nat.eq_zero_or_pos n with e | e
    · subst e; simp at h
    · exact e
  exact ⟨Nat.div_lt_of_lt_mul h, Nat.mod_lt _ hn⟩
theorem step_spec {M : SL} {q : Nat} (h : stepF M = some q) : q / M.length < M.length ∧ q % M.length < M.length ∧ at2 M (q / M.length) (q % M.length) < 0 ∧ (fcL M q).length = 1 ∧ ∃ v : Nat, (fcL M q).getD 0 0 = (v : Int) ∧ v < M.length ∧ candP M (q / M.length) (q % M.length) v := by
  obtain ⟨h1, h2, h3, h4⟩ := ffrom_spec _ _ h
  obtain ⟨d1, d2⟩ := div_mod_lt (n := M.length) (q := q) (by omega)
  unfold fq at h3
  simp only [Bool.and_eq_true, decide_eq_true_eq] at h3
  obtain ⟨v, e1, e2, e3⟩ := filt_get _ h3.2
  exact ⟨d1, d2, h3.1, h3.2, v, e1, e2, @of_decide_eq_true _ (Classical.propDecidable _) e3⟩
theorem nxtF_some {M : SL} {q : Nat} (h : stepF M = some q) : nxtF M = setS M (q / M.length) (q % M.length) ((fcL M q).getD 0 0) := by unfold nxtF; rw [h]
theorem nxtF_len {M : SL} : (nxtF M).length = M.length := by
  unfold nxtF
  split
  · rfl
  · exact setS_len
theorem nxtF_par {M : SL} (hM : ParL M) : ParL (nxtF M) := by
  cases h : stepF M with
  | none => unfold nxtF; rw [h]; exact hM
  | some q =>
    rw [nxtF_some h]
    obtain ⟨h1, h2, h3, h4, v, h5, h6, h7⟩ := step_spec h
    rw [h5]
    exact set_par hM h1 h2 h3 h6 h7
theorem iterF_par : ∀ (k : Nat) {M : SL}, ParL M → ParL (iterF k M)
  | 0, _, h => h
  | k + 1, _, h => iterF_par k (nxtF_par h)
theorem iterF_len : ∀ (k : Nat) {M : SL}, (iterF k M).length = M.length
  | 0, _ => rfl
  | k + 1, M => by show (iterF k (nxtF M)).length = _; rw [iterF_len k, nxtF_len]
/-! ### How many are empty -/
def cntB (P : Nat → Bool) : Nat → Nat
  | 0 => 0
  | k + 1 => cntB P k + (if P k = true then 1 else 0)
theorem cntB_le (P : Nat → Bool) : ∀ k, cntB P k ≤ k
  | 0 => Nat.le_refl _
  | k + 1 => by have := cntB_le P k; unfold cntB; split <;> omega
theorem cntB_mono {P Q : Nat → Bool} : ∀ k, (∀ q, q < k → Q q = true → P q = true) → cntB Q k ≤ cntB P k
  | 0, _ => Nat.le_refl _
  | k + 1, h => by
    have h1 := cntB_mono k fun q hq => h q (by omega)
    have h2 := h k (by omega)
    unfold cntB
    by_cases e : Q k = true
    · rw [if_pos e, if_pos (h2 e)]; omega
    · rw [if_neg e]; split <;> omega
theorem cntB_less {P Q : Nat → Bool} {p : Nat} (hp : P p = true) (hq : Q p = false) : ∀ k, p < k → (∀ q, q < k → Q q = true → P q = true) → cntB Q k < cntB P k
  | 0, h, _ => by omega
  | k + 1, hk, h => by
    unfold cntB
    by_cases e : p = k
    · subst e
      have h1 := cntB_mono p fun q hq => h q (by omega)
      rw [if_pos hp, if_neg (by rw [hq]; decide)]; omega
    · have h1 := cntB_less hp hq k (by omega) fun q hq => h q (by omega)
      have h2 := h k (by omega)
      by_cases e : Q k = true
      · rw [if_pos e, if_pos (h2 e)]; omega
      · rw [if_neg e]; split <;> omega
def emB (M : SL) (q : Nat) : Bool := decide (at2 M (q / M.length) (q % M.length) < 0)
def emp (M : SL) : Nat := cntB (emB M) (M.length * M.length)
theorem emp_100 {M : SL} (h : M.length ≤ 10) : emp M ≤ 100 := by
  have := cntB_le (emB M) (M.length * M.length)
  have h2 : M.length * M.length ≤ 10 * 10 := Nat.mul_le_mul h h
  unfold emp; omega
theorem emp_less {M : SL} {i j v : Nat} (hM : ParL M) (hi : i < M.length) (hj : j < M.length) (he : at2 M i j < 0) : emp (setS M i j (v : Int)) < emp M := by
  have hat : ∀ a b, at2 (setS M i j (v : Int)) a b = if a = i ∧ b = j then (v : Int) else at2 M a b := setS_at hi (by rw [hM.2.1 i hi]; exact hj)
  have hn : 0 < M.length := by omega
  have e1 : (i * M.length + j) / M.length = i := by rw [Nat.mul_comm, Nat.mul_add_div hn, Nat.div_eq_of_lt hj]; rfl
  have e2 : (i * M.length + j) % M.length = j := by rw [Nat.mul_comm, Nat.mul_add_mod, Nat.mod_eq_of_lt hj]
  unfold emp
  rw [setS_len]
  refine cntB_less (p := i * M.length + j) ?_ ?_ _ ?_ fun q hq h => ?_
  · unfold emB; rw [e1, e2]; exact decide_eq_true he
  · unfold emB; rw [setS_len, e1, e2, hat, if_pos ⟨rfl, rfl⟩]; exact decide_eq_false (by omega)
  · have : i * M.length + M.length ≤ M.length * M.length := by rw [← Nat.succ_mul]; exact Nat.mul_le_mul_right _ hi
    omega
  · unfold emB at *
    rw [setS_len, hat] at h
    split at h
    · rw [decide_eq_true_eq] at h; omega
    · exact h
theorem nxtF_less {M : SL} {q : Nat} (hM : ParL M) (h : stepF M = some q) : emp (nxtF M) < emp M := by
  obtain ⟨h1, h2, h3, h4, v, h5, h6, h7⟩ := step_spec h
  rw [nxtF_some h, h5]
  exact emp_less hM h1 h2 h3
/-! ### Scanning row by row -/
theorem ij_div {n i j : Nat} (hj : j < n) : (i * n + j) / n = i ∧ (i * n + j) % n = j := by
  have hn : 0 < n := by omega
  exact ⟨by rw [Nat.mul_comm, Nat.mul_add_div hn, Nat.div_eq_of_lt hj]; rfl, by rw [Nat.mul_comm, Nat.mul_add_mod, Nat.mod_eq_of_lt hj]⟩
theorem fq_ij {M : SL} {i j : Nat} (hj : j < M.length) : fq M (i * M.length + j) = (decide (at2 M i j < 0) && decide ((filt (candB M i j) M.length).length = 1)) := by
  obtain ⟨e1, e2⟩ := ij_div (i := i) hj
  unfold fq fcL
  rw [e1, e2]
theorem fq_full {M : SL} {i j : Nat} (hj : j < M.length) (h : 0 ≤ at2 M i j) : fq M (i * M.length + j) = false := by
  rw [fq_ij hj, decide_eq_false (p := at2 M i j < 0) (by omega)]; rfl
theorem fq_len {M : SL} {i j : Nat} (hj : j < M.length) (h : ¬ (filt (candB M i j) M.length).length = 1) : fq M (i * M.length + j) = false := by
  rw [fq_ij hj, decide_eq_false h, Bool.and_false]
theorem fq_yes {M : SL} {i j : Nat} (hj : j < M.length) (h : at2 M i j < 0) (h2 : (filt (candB M i j) M.length).length = 1) : fq M (i * M.length + j) = true := by
  rw [fq_ij hj, decide_eq_true h, decide_eq_true h2]; rfl
theorem ij_lt {n i j : Nat} (hi : i < n) (hj : j < n) : i * n + j < n * n := by
  have : i * n + n ≤ n * n := by rw [← Nat.succ_mul]; exact Nat.mul_le_mul_right _ hi
  omega
theorem step_ij {M : SL} {i j : Nat} (hi : i < M.length) (hj : j < M.length) (h0 : ∀ q, q < i * M.length + j → fq M q = false) (h : fq M (i * M.length + j) = true) : stepF M = some (i * M.length + j) :=
  ffrom_some h _ 0 (Nat.zero_le _) (by have := ij_lt hi hj; omega) fun p _ hp => h0 p hp
theorem nxt_ij {M : SL} {i j : Nat} (hj : j < M.length) (hs : stepF M = some (i * M.length + j)) : nxtF M = setS M i j ((filt (candB M i j) M.length).getD 0 0) := by
  obtain ⟨e1, e2⟩ := ij_div (i := i) hj
  rw [nxtF_some hs]
  unfold fcL
  rw [e1, e2]
theorem step_no {M : SL} (h0 : ∀ q, q < M.length * M.length → fq M q = false) : stepF M = none := ffrom_none _ 0 fun p _ hp => h0 p (by omega)
theorem nxt_no {M : SL} (h : stepF M = none) : nxtF M = M := by unfold nxtF; rw [h]
theorem row_end {n i : Nat} : i * n + n = (i + 1) * n := by rw [Nat.succ_mul]
/-- The test of next. -/
def nxP (t : Nat → Fin 256) (p : Nat → Nat → Bool) (n q : Nat) : Bool := decide (t (10 * (q / n) + q % n) = 255) && p (q / n) (q % n)
theorem nx_step {M : SL} (hM : ParL M) : ffrom (nxP (cT M) (fun i j => decide ((filt (candB M i j) M.length).length = 1)) M.length) (M.length * M.length - 0) 0 = stepF M := by
  refine ffrom_congr _ 0 fun q _ hq => ?_
  obtain ⟨d1, d2⟩ := div_mod_lt (n := M.length) (q := q) (by omega)
  unfold nxP fq fcL
  congr 1
  rw [Bool.eq_iff_iff, decide_eq_true_eq, decide_eq_true_eq, cT_at (isPar_t hM).symm d1 d2]
  omega
theorem nn_b {n : Nat} (h : n ≤ 10) : n * n ≤ 100 := Nat.mul_le_mul h h
theorem nn_in {n : Nat} (h : n ≤ 10) : inR .i64 ((n : Int) * (n : Int)) := by
  have := nn_b h
  rw [← Int.natCast_mul]
  exact ⟨by omega, by omega⟩
theorem quo_in {q n : Nat} (h : q ≤ 1000) : inR .i64 ((q : Int) / (n : Int)) := by
  have h1 := Nat.div_le_self q n
  have h2 : ((q : Int) / (n : Int)) = ((q / n : Nat) : Int) := (Int.natCast_ediv q n).symm
  rw [h2]
  generalize q / n = m at *
  exact ⟨by omega, by omega⟩
theorem veq_quo {q n : Nat} : (D.int .i64 ((q : Int) / (n : Int))).val = (D.int .i64 ((q / n : Nat) : Int)).val := veq_int (Int.natCast_ediv q n).symm
theorem veq_rem {q n : Nat} : (D.int .i64 ((q : Int) % (n : Int))).val = (D.int .i64 ((q % n : Nat) : Int)).val := veq_int (Int.natCast_emod q n).symm
theorem veq_nn {n : Nat} : (D.int .i64 ((n : Int) * (n : Int))).val = (D.int .i64 ((n * n : Nat) : Int)).val := veq_int (Int.natCast_mul n n).symm
/-- A row out of the cells. -/
def rowM (M : SL) (i : Nat) : Nat → List Int
  | 0 => []
  | j + 1 => rowM M i j ++ [at2 M i j]
theorem rowM_len {M : SL} {i : Nat} : ∀ j, (rowM M i j).length = j
  | 0 => rfl
  | j + 1 => by simp [rowM, rowM_len j]
theorem rowM_take {M : SL} {i : Nat} : ∀ j, j ≤ (M.getD i sd).2.length → rowM M i j = (M.getD i sd).2.take j
  | 0, _ => by simp [rowM]
  | j + 1, h => by
    have hj : j < (M.getD i sd).2.length := h
    have e1 : at2 M i j = (M.getD i sd).2[j] := by
      show ((M.getD i sd).2[j]?).getD 0 = _
      rw [List.getElem?_eq_getElem hj]; rfl
    rw [rowM, rowM_take j (by omega), List.take_succ_eq_append_getElem hj, e1]
theorem rowM_full {M : SL} {i n : Nat} (h : (M.getD i sd).2.length = n) : rowM M i n = (M.getD i sd).2 := by
  rw [rowM_take n (by omega), List.take_of_length_le (by omega)]
noncomputable def forceL (L : SL) : SL := iterF 100 L
/-- What is kept while places are filled. -/
def FI (L M : SL) : Prop := ParL M ∧ ∃ k, k + emp M ≤ 100 ∧ (iterF k L).map (·.2) = M.map (·.2)
theorem FI.start {L M : SL} (h : ParL L) (hM : M.map (·.2) = L.map (·.2)) : FI L M := by
  have hp : ParL M := of_isPar (by rw [isPar_eq hM]; exact (isPar_t h).symm)
  exact ⟨hp, 0, by have := emp_100 hp.1.2; omega, hM.symm⟩
theorem FI.step {L M : SL} {q : Nat} (h : FI L M) (hs : stepF M = some q) : FI L (nxtF M) := by
  obtain ⟨h1, k, h2, h3⟩ := h
  have := nxtF_less h1 hs
  exact ⟨nxtF_par h1, k + 1, by omega, by rw [iterF_add]; exact nxtF_eq h3⟩
theorem FI.end {L M : SL} (h : FI L M) (hs : stepF M = none) : M.map (·.2) = (forceL L).map (·.2) := by
  obtain ⟨h1, k, h2, h3⟩ := h
  have e : 100 = k + (100 - k) := by omega
  unfold forceL
  rw [e, iterF_add, iterF_eq (100 - k) h3, iterF_stop hs]
theorem force_eq {M N : SL} (h : M.map (·.2) = N.map (·.2)) : (forceL M).map (·.2) = (forceL N).map (·.2) := iterF_eq 100 h
noncomputable def fcS (L : SL) : List (List Int) := if isPar L = true then (forceL L).map (·.2) else []
theorem fcS_t {L : SL} (h : isPar L = true) : fcS L = (forceL L).map (·.2) := if_pos h
theorem fcS_f {L : SL} (h : isPar L = false) : fcS L = [] := if_neg (by rw [h]; decide)
theorem fcS_eq {M N : SL} (h : M.map (·.2) = N.map (·.2)) : fcS M = fcS N := by unfold fcS; rw [isPar_eq h, force_eq h]
theorem fcS_b (L : SL) : (fcS L).length ≤ 100000 ∧ ∀ l ∈ fcS L, l.length ≤ 10 := by
  unfold fcS
  split
  · rename_i h
    have hp := of_isPar h
    have h2 : ParL (forceL L) := iterF_par 100 hp
    have hl : (forceL L).length = L.length := iterF_len 100
    have hn := hp.1
    refine ⟨by rw [List.length_map, hl]; omega, fun l hl2 => ?_⟩
    obtain ⟨p, hp2, rfl⟩ := List.mem_map.1 hl2
    obtain ⟨i, hi, rfl⟩ := List.mem_iff_getElem.1 hp2
    have := h2.2.1 i hi
    unfold ln2 at this
    rw [List.getD, List.getElem?_eq_getElem hi, Option.getD_some] at this
    omega
  · simp
end Go.Proofs.Ytjihhcjpbcmjaaa
