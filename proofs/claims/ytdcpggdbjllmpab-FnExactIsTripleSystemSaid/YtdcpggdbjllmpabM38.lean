/- Triple systems in plain words. No conditions but those in the statements. -/
import Derived.Test.YtdcpggdbjllmpabM24
namespace Go.Proofs.Ytdcpggdbjllmpab
open Gx
set_option linter.unusedVariables false
/-! ### Lists of three in order -/
def lt3 (p q : List Int) : Prop := p.getD 0 0 < q.getD 0 0 ∨ (p.getD 0 0 = q.getD 0 0 ∧ (p.getD 1 0 < q.getD 1 0 ∨ (p.getD 1 0 = q.getD 1 0 ∧ p.getD 2 0 < q.getD 2 0)))
instance (p q : List Int) : Decidable (lt3 p q) := by unfold lt3; exact inferInstance
theorem lt3_at {p q : List Int} {i : Nat} (hi : i < 3) (hR : ∀ j, j < i → p.getD j 0 = q.getD j 0) (hne : p.getD i 0 ≠ q.getD i 0) : lt3 p q ↔ p.getD i 0 < q.getD i 0 := by
  unfold lt3
  have h0 := hR 0
  have h1 := hR 1
  obtain rfl | rfl | rfl : i = 0 ∨ i = 1 ∨ i = 2 := by omega
  · omega
  · have := h0 (by omega); omega
  · have := h0 (by omega); have := h1 (by omega); omega
theorem lt3_eq {p q : List Int} (hR : ∀ j, j < 3 → p.getD j 0 = q.getD j 0) : ¬ lt3 p q := by
  unfold lt3
  have h0 := hR 0 (by omega)
  have h1 := hR 1 (by omega)
  have h2 := hR 2 (by omega)
  omega
def cmp1 (x y : Int) : Int := if x < y then -1 else if y < x then 1 else 0
def cmp3 (p q : List Int) : Int := if lt3 p q then -1 else if lt3 q p then 1 else 0
theorem cmp3_at {p q : List Int} {i : Nat} (hi : i < 3) (hR : ∀ j, j < i → p.getD j 0 = q.getD j 0) (hne : p.getD i 0 ≠ q.getD i 0) : cmp1 (p.getD i 0) (q.getD i 0) = cmp3 p q := by
  have h1 := lt3_at hi hR hne
  have h2 := lt3_at hi (fun j hj => (hR j hj).symm) (fun h => hne h.symm)
  unfold cmp1 cmp3
  by_cases h : p.getD i 0 < q.getD i 0
  · rw [if_pos h, if_pos (h1.2 h)]
  · rw [if_neg h, if_neg (fun hh => h (h1.1 hh)), if_pos (by omega), if_pos (h2.2 (by omega))]
theorem cmp3_eq {p q : List Int} (hR : ∀ j, j < 3 → p.getD j 0 = q.getD j 0) : 0 = cmp3 p q := by
  unfold cmp3; rw [if_neg (lt3_eq hR), if_neg (lt3_eq fun j hj => (hR j hj).symm)]
theorem cmp3_neg {p q : List Int} : ¬ 0 ≤ cmp3 p q ↔ lt3 p q := by
  unfold cmp3
  split
  · rename_i h; exact ⟨fun _ => h, fun _ => by omega⟩
  · rename_i h; split <;> exact ⟨fun hh => absurd (by omega) hh, fun hh => absurd hh h⟩
theorem cmp1_ne {x y : Int} (h : x ≠ y) : cmp1 x y ≠ 0 := by unfold cmp1; split <;> (try split) <;> omega
theorem cmp1_eq {x y : Int} (h : cmp1 x y = 0) : x = y := by unfold cmp1 at h; split at h <;> (try split at h) <;> omega
/-! ### Triples -/
structure VT (T : SL) (v : Int) (i : Nat) : Prop where
  len : (T.getD i sd).2.length = 3
  a0 : 0 ≤ at2 T i 0
  a1 : at2 T i 0 < at2 T i 1
  a2 : at2 T i 1 < at2 T i 2
  a3 : at2 T i 2 < v
  ord : 0 < i → lt3 (T.getD (i - 1) sd).2 (T.getD i sd).2
theorem VT.inj {T : SL} {v : Int} {i a b : Nat} (h : VT T v i) (ha : a < 3) (hb : b < 3) (e : at2 T i a = at2 T i b) : a = b := by
  have h1 := h.a1; have h2 := h.a2
  obtain rfl | rfl | rfl : a = 0 ∨ a = 1 ∨ a = 2 := by omega
  all_goals obtain rfl | rfl | rfl : b = 0 ∨ b = 1 ∨ b = 2 := by omega
  all_goals first | rfl | (exfalso; omega)
theorem VT.rng {T : SL} {v : Int} {i a : Nat} (h : VT T v i) (ha : a < 3) : 0 ≤ at2 T i a ∧ at2 T i a < v := by
  have h0 := h.a0; have h1 := h.a1; have h2 := h.a2; have h3 := h.a3
  obtain rfl | rfl | rfl : a = 0 ∨ a = 1 ∨ a = 2 := by omega
  all_goals exact ⟨by omega, by omega⟩
/-- Two points that lie together in one of the first i triples. -/
def us (T : SL) (i : Nat) (x y : Int) : Prop := ∃ j a b, j < i ∧ a < 3 ∧ b < 3 ∧ a ≠ b ∧ at2 T j a = x ∧ at2 T j b = y
theorem us_symm {T : SL} {i : Nat} {x y : Int} (h : us T i x y) : us T i y x := by
  obtain ⟨j, a, b, h1, h2, h3, h4, h5, h6⟩ := h
  exact ⟨j, b, a, h1, h3, h2, fun e => h4 e.symm, h6, h5⟩
def fr (T : SL) (i : Nat) : Prop := ∀ a b, a < 3 → b < 3 → a ≠ b → ¬ us T i (at2 T i a) (at2 T i b)
def TSys (T : SL) (v : Int) : Prop := (1 ≤ v ∧ v ≤ 9) ∧ (∀ i, i < T.length → VT T v i ∧ fr T i) ∧ (∀ x y : Nat, (x : Int) < v → (y : Int) < v → x ≠ y → us T T.length x y)
noncomputable def tsB (T : SL) (v : Int) : Bool := @decide (TSys T v) (Classical.propDecidable _)
theorem ts_t {T : SL} {v : Int} (h : TSys T v) : true = tsB T v := (@decide_eq_true _ (Classical.propDecidable _) h).symm
theorem ts_f {T : SL} {v : Int} (h : ¬ TSys T v) : false = tsB T v := (@decide_eq_false _ (Classical.propDecidable _) h).symm
theorem ts_n {T : SL} {v : Int} (h : ¬ (1 ≤ v ∧ v ≤ 9)) : false = tsB T v := ts_f fun hh => h hh.1
theorem ts_v {T : SL} {v : Int} {i : Nat} (hi : i < T.length) (h : ¬ VT T v i) : false = tsB T v := ts_f fun hh => h (hh.2.1 i hi).1
theorem ts_u {T : SL} {v : Int} {i a b : Nat} (hi : i < T.length) (ha : a < 3) (hb : b < 3) (hab : a ≠ b) (h : us T i (at2 T i a) (at2 T i b)) : false = tsB T v := ts_f fun hh => (hh.2.1 i hi).2 a b ha hb hab h
theorem ts_c {T : SL} {v : Int} {x y : Nat} (hx : (x : Int) < v) (hy : (y : Int) < v) (hxy : x ≠ y) (h : ¬ us T T.length x y) : false = tsB T v := ts_f fun hh => h (hh.2.2 x y hx hy hxy)
/-! ### There are at most twelve -/
def codes (T : SL) : Nat → List Nat
  | 0 => []
  | i + 1 => codes T i ++ [9 * (at2 T i 0).toNat + (at2 T i 1).toNat, 9 * (at2 T i 0).toNat + (at2 T i 2).toNat, 9 * (at2 T i 1).toNat + (at2 T i 2).toNat]
theorem codes_len {T : SL} : ∀ i, (codes T i).length = 3 * i
  | 0 => rfl
  | i + 1 => by simp [codes, codes_len i]; omega
theorem codes_in {T : SL} {v : Int} (hv : v ≤ 9) : ∀ i, (∀ j, j < i → VT T v j) → ∀ c ∈ codes T i, c / 9 < c % 9 ∧ c < 81 ∧ us T i ((c / 9 : Nat) : Int) ((c % 9 : Nat) : Int)
  | 0, _, c, h => by simp [codes] at h
  | i + 1, hV, c, h => by
    simp only [codes, List.mem_append, List.mem_cons, List.not_mem_nil, or_false] at h
    have hi := hV i (by omega)
    have r0 := hi.rng (a := 0) (by omega); have r1 := hi.rng (a := 1) (by omega); have r2 := hi.rng (a := 2) (by omega)
    have q1 := hi.a1; have q2 := hi.a2
    rcases h with h | rfl | rfl | rfl
    · obtain ⟨h1, h2, j, a, b, h3, h4⟩ := codes_in hv i (fun j hj => hV j (by omega)) c h
      exact ⟨h1, h2, j, a, b, by omega, h4⟩
    · exact ⟨by omega, by omega, i, 0, 1, by omega, by omega, by omega, by omega, by omega, by omega⟩
    · exact ⟨by omega, by omega, i, 0, 2, by omega, by omega, by omega, by omega, by omega, by omega⟩
    · exact ⟨by omega, by omega, i, 1, 2, by omega, by omega, by omega, by omega, by omega, by omega⟩
theorem codes_nodup {T : SL} {v : Int} (hv : v ≤ 9) : ∀ i, (∀ j, j < i → VT T v j ∧ fr T j) → (codes T i).Nodup
  | 0, _ => List.nodup_nil
  | i + 1, hV => by
    have ih := codes_nodup hv i (fun j hj => hV j (by omega))
    have hi := (hV i (by omega)).1
    have hf := (hV i (by omega)).2
    have r0 := hi.rng (a := 0) (by omega); have r1 := hi.rng (a := 1) (by omega); have r2 := hi.rng (a := 2) (by omega)
    have q1 := hi.a1; have q2 := hi.a2
    have hin := codes_in hv i (fun j hj => (hV j (by omega)).1)
    have hno : ∀ a b, a < 3 → b < 3 → a ≠ b → at2 T i a < at2 T i b → 9 * (at2 T i a).toNat + (at2 T i b).toNat ∉ codes T i := fun a b ha hb hab hlt hm => by
      obtain ⟨_, _, h3⟩ := hin _ hm
      have ra := hi.rng ha; have rb := hi.rng hb
      rw [show (9 * (at2 T i a).toNat + (at2 T i b).toNat) / 9 = (at2 T i a).toNat by omega, show (9 * (at2 T i a).toNat + (at2 T i b).toNat) % 9 = (at2 T i b).toNat by omega, Int.toNat_of_nonneg ra.1, Int.toNat_of_nonneg rb.1] at h3
      exact hf a b ha hb hab h3
    rw [codes, List.nodup_append]
    refine ⟨ih, ?_, fun x hx y hy e => ?_⟩
    · simp only [List.nodup_cons, List.mem_cons, List.not_mem_nil, or_false, not_or, not_false_eq_true, List.nodup_nil, and_true]
      exact ⟨⟨by omega, by omega⟩, by omega⟩
    · subst e
      simp only [List.mem_cons, List.not_mem_nil, or_false] at hy
      rcases hy with rfl | rfl | rfl
      · exact hno 0 1 (by omega) (by omega) (by omega) q1 hx
      · exact hno 0 2 (by omega) (by omega) (by omega) (by omega) hx
      · exact hno 1 2 (by omega) (by omega) (by omega) q2 hx
theorem twelve {T : SL} {v : Int} (hv : v ≤ 9) {i : Nat} (h : ∀ j, j < i → VT T v j ∧ fr T j) : i ≤ 12 := by
  have h1 := length_le_of_subset (codes_nodup hv i h) (m := (List.range 81).filter fun c => decide (c / 9 < c % 9)) (fun c hc => by
    have := codes_in hv i (fun j hj => (h j hj).1) c hc
    exact List.mem_filter.2 ⟨List.mem_range.2 this.2.1, decide_eq_true this.1⟩)
  rw [codes_len] at h1
  have h2 : ((List.range 81).filter fun c => decide (c / 9 < c % 9)).length = 36 := by decide +kernel
  omega
theorem ts_12 {T : SL} {v : Int} (h : ¬ T.length ≤ 12) : false = tsB T v := ts_f fun hh => h (twelve hh.1.2 hh.2.1)
/-! ### What has been marked -/
/-- Ordered pairs ahead of (a, b). -/
def bef (a b a' b' : Nat) : Prop := a' < a ∨ (a' = a ∧ b' < b)
structure MkS (T : SL) (i a b : Nat) (f : Nat → Int) : Prop where
  out : ∀ x y : Nat, x < 9 → y < 9 → (0 ≤ f (9 * x + y) ↔ us T i x y ∨ ∃ a' b', a' < 3 ∧ b' < 3 ∧ a' ≠ b' ∧ bef a b a' b' ∧ at2 T i a' = x ∧ at2 T i b' = y)
theorem MkS.start {T : SL} {f : Nat → Int} (h : ∀ k, k < 81 → f k = -1) : MkS T 0 0 0 f := ⟨fun x y hx hy => by
  rw [h (9 * x + y) (by omega)]
  refine ⟨fun hh => by omega, fun hh => ?_⟩
  rcases hh with ⟨j, a, b, h1, _⟩ | ⟨a', b', _, _, _, h1, _⟩
  · omega
  · unfold bef at h1; omega⟩
theorem MkS.cong {T : SL} {i a b a2 b2 : Nat} {f : Nat → Int} (h : MkS T i a b f) (e : ∀ a' b', a' < 3 → b' < 3 → a' ≠ b' → (bef a b a' b' ↔ bef a2 b2 a' b')) : MkS T i a2 b2 f := ⟨fun x y hx hy => by
  rw [h.out x y hx hy]
  constructor
  · rintro (h1 | ⟨a', b', q1, q2, q3, q4, q5⟩)
    · exact .inl h1
    · exact .inr ⟨a', b', q1, q2, q3, (e a' b' q1 q2 q3).1 q4, q5⟩
  · rintro (h1 | ⟨a', b', q1, q2, q3, q4, q5⟩)
    · exact .inl h1
    · exact .inr ⟨a', b', q1, q2, q3, (e a' b' q1 q2 q3).2 q4, q5⟩⟩
theorem MkS.row {T : SL} {i a : Nat} {f : Nat → Int} (h : MkS T i a 3 f) : MkS T i (a + 1) 0 f := h.cong fun a' b' h1 h2 h3 => by unfold bef; omega
theorem MkS.diag {T : SL} {i a : Nat} {f : Nat → Int} (h : MkS T i a a f) : MkS T i a (a + 1) f := h.cong fun a' b' h1 h2 h3 => by unfold bef; omega
theorem MkS.next {T : SL} {i : Nat} {f : Nat → Int} (h : MkS T i 3 0 f) : MkS T (i + 1) 0 0 f := ⟨fun x y hx hy => by
  rw [h.out x y hx hy]
  constructor
  · rintro (⟨j, a, b, h1, h2⟩ | ⟨a', b', q1, q2, q3, q4, q5⟩)
    · exact .inl ⟨j, a, b, by omega, h2⟩
    · exact .inl ⟨i, a', b', by omega, q1, q2, q3, q5⟩
  · rintro (⟨j, a, b, h1, h2, h3, h4, h5⟩ | ⟨a', b', _, _, _, h1, _⟩)
    · by_cases e : j = i
      · subst e; exact .inr ⟨a, b, h2, h3, h4, .inl h2, h5⟩
      · exact .inl ⟨j, a, b, by omega, h2, h3, h4, h5⟩
    · unfold bef at h1; omega⟩
theorem MkS.hit {T : SL} {v : Int} {i a b : Nat} {f : Nat → Int} (hv : v ≤ 9) (hV : VT T v i) (h : MkS T i a b f) (ha : a < 3) (hb : b < 3) (hf : 0 ≤ f (9 * (at2 T i a).toNat + (at2 T i b).toNat)) : us T i (at2 T i a) (at2 T i b) := by
  have ra := hV.rng ha; have rb := hV.rng hb
  rcases (h.out (at2 T i a).toNat (at2 T i b).toNat (by omega) (by omega)).1 hf with h1 | ⟨a', b', q1, q2, q3, q4, q5, q6⟩
  · rwa [Int.toNat_of_nonneg ra.1, Int.toNat_of_nonneg rb.1] at h1
  · rw [Int.toNat_of_nonneg ra.1] at q5
    rw [Int.toNat_of_nonneg rb.1] at q6
    have e1 := hV.inj q1 ha q5
    have e2 := hV.inj q2 hb q6
    subst e1; subst e2
    unfold bef at q4; omega
theorem MkS.miss {T : SL} {v : Int} {i a b : Nat} {f : Nat → Int} (hv : v ≤ 9) (hV : VT T v i) (h : MkS T i a b f) (ha : a < 3) (hb : b < 3) (hf : ¬ 0 ≤ f (9 * (at2 T i a).toNat + (at2 T i b).toNat)) : ¬ us T i (at2 T i a) (at2 T i b) := fun hu => by
  have ra := hV.rng ha; have rb := hV.rng hb
  refine hf ((h.out (at2 T i a).toNat (at2 T i b).toNat (by omega) (by omega)).2 (.inl ?_))
  rwa [Int.toNat_of_nonneg ra.1, Int.toNat_of_nonneg rb.1]
theorem MkS.set {T : SL} {v : Int} {i a b : Nat} {f : Nat → Int} (hv : v ≤ 9) (hV : VT T v i) (h : MkS T i a b f) (ha : a < 3) (hb : b < 3) (hab : a ≠ b) {z : Int} (hz : 0 ≤ z) : MkS T i a (b + 1) (fun k => if k = 9 * (at2 T i a).toNat + (at2 T i b).toNat then z else f k) := ⟨fun x y hx hy => by
  have ra := hV.rng ha; have rb := hV.rng hb
  by_cases e : 9 * x + y = 9 * (at2 T i a).toNat + (at2 T i b).toNat
  · rw [if_pos e]
    refine ⟨fun _ => .inr ⟨a, b, ha, hb, hab, .inr ⟨rfl, by omega⟩, by omega, by omega⟩, fun _ => hz⟩
  · rw [if_neg e, h.out x y hx hy]
    constructor
    · rintro (h1 | ⟨a', b', q1, q2, q3, q4, q5⟩)
      · exact .inl h1
      · exact .inr ⟨a', b', q1, q2, q3, by unfold bef at *; omega, q5⟩
    · rintro (h1 | ⟨a', b', q1, q2, q3, q4, q5, q6⟩)
      · exact .inl h1
      · refine .inr ⟨a', b', q1, q2, q3, ?_, q5, q6⟩
        unfold bef at *
        rcases q4 with q4 | ⟨q4, q7⟩
        · exact .inl q4
        · subst q4
          by_cases e2 : b' = b
          · subst e2; exact absurd (by omega) e
          · exact .inr ⟨rfl, by omega⟩⟩
theorem MkS.end {T : SL} {i x y : Nat} {f : Nat → Int} (h : MkS T i 0 0 f) (hx : x < 9) (hy : y < 9) : 0 ≤ f (9 * x + y) ↔ us T i x y := by
  rw [h.out x y hx hy]
  refine ⟨fun hh => ?_, .inl⟩
  rcases hh with h1 | ⟨a', b', _, _, _, h1, _⟩
  · exact h1
  · unfold bef at h1; omega
/-! The program's marks: both ways at once. -/
structure MkB (T : SL) (i k : Nat) (g : Nat → Bool) : Prop where
  out : ∀ x y : Nat, x < 9 → y < 9 → (g (9 * x + y) = true ↔ us T i x y ∨ ∃ k', k' < k ∧ ((at2 T i k' = x ∧ at2 T i ((k' + 1) % 3) = y) ∨ (at2 T i k' = y ∧ at2 T i ((k' + 1) % 3) = x)))
theorem MkB.start {T : SL} {g : Nat → Bool} (h : ∀ k, k < 81 → g k = false) : MkB T 0 0 g := ⟨fun x y hx hy => by
  rw [h (9 * x + y) (by omega)]
  refine ⟨fun hh => Bool.noConfusion hh, fun hh => ?_⟩
  rcases hh with ⟨j, a, b, h1, _⟩ | ⟨k', h1, _⟩
  · omega
  · omega⟩
theorem MkB.hit {T : SL} {v : Int} {i k : Nat} {g : Nat → Bool} (hv : v ≤ 9) (hV : VT T v i) (h : MkB T i k g) (hk : k < 3) (hf : g (9 * (at2 T i k).toNat + (at2 T i ((k + 1) % 3)).toNat) = true) : us T i (at2 T i k) (at2 T i ((k + 1) % 3)) := by
  have ra := hV.rng hk; have rb := hV.rng (a := (k + 1) % 3) (by omega)
  rcases (h.out (at2 T i k).toNat (at2 T i ((k + 1) % 3)).toNat (by omega) (by omega)).1 hf with h1 | ⟨k', q1, ⟨q2, q3⟩ | ⟨q2, q3⟩⟩
  · rwa [Int.toNat_of_nonneg ra.1, Int.toNat_of_nonneg rb.1] at h1
  · rw [Int.toNat_of_nonneg ra.1] at q2
    have := hV.inj (by omega) hk q2
    omega
  · rw [Int.toNat_of_nonneg rb.1] at q2
    rw [Int.toNat_of_nonneg ra.1] at q3
    have e1 := hV.inj (by omega) (by omega) q2
    have e2 := hV.inj (by omega) (by omega) q3
    omega
theorem MkB.miss {T : SL} {v : Int} {i k : Nat} {g : Nat → Bool} (hv : v ≤ 9) (hV : VT T v i) (h : MkB T i k g) (hk : k < 3) (hf : g (9 * (at2 T i k).toNat + (at2 T i ((k + 1) % 3)).toNat) = false) : ¬ us T i (at2 T i k) (at2 T i ((k + 1) % 3)) := fun hu => by
  have ra := hV.rng hk; have rb := hV.rng (a := (k + 1) % 3) (by omega)
  have := (h.out (at2 T i k).toNat (at2 T i ((k + 1) % 3)).toNat (by omega) (by omega)).2 (.inl (by rwa [Int.toNat_of_nonneg ra.1, Int.toNat_of_nonneg rb.1]))
  rw [hf] at this; cases this
theorem MkB.set {T : SL} {v : Int} {i k : Nat} {g : Nat → Bool} (hv : v ≤ 9) (hV : VT T v i) (h : MkB T i k g) (hk : k < 3) : MkB T i (k + 1) (fun q => if q = 9 * (at2 T i ((k + 1) % 3)).toNat + (at2 T i k).toNat then true else if q = 9 * (at2 T i k).toNat + (at2 T i ((k + 1) % 3)).toNat then true else g q) := ⟨fun x y hx hy => by
  have ra := hV.rng hk; have rb := hV.rng (a := (k + 1) % 3) (by omega)
  by_cases e1 : 9 * x + y = 9 * (at2 T i ((k + 1) % 3)).toNat + (at2 T i k).toNat
  · rw [if_pos e1]
    exact ⟨fun _ => .inr ⟨k, by omega, .inr ⟨by omega, by omega⟩⟩, fun _ => rfl⟩
  · rw [if_neg e1]
    by_cases e2 : 9 * x + y = 9 * (at2 T i k).toNat + (at2 T i ((k + 1) % 3)).toNat
    · rw [if_pos e2]
      exact ⟨fun _ => .inr ⟨k, by omega, .inl ⟨by omega, by omega⟩⟩, fun _ => rfl⟩
    · rw [if_neg e2, h.out x y hx hy]
      constructor
      · rintro (h1 | ⟨k', q1, q2⟩)
        · exact .inl h1
        · exact .inr ⟨k', by omega, q2⟩
      · rintro (h1 | ⟨k', q1, q2⟩)
        · exact .inl h1
        · by_cases e : k' = k
          · subst e; exfalso; omega
          · exact .inr ⟨k', by omega, q2⟩⟩
theorem MkB.next {T : SL} {i : Nat} {g : Nat → Bool} (h : MkB T i 3 g) : MkB T (i + 1) 0 g := ⟨fun x y hx hy => by
  rw [h.out x y hx hy]
  constructor
  · rintro (⟨j, a, b, h1, h2⟩ | ⟨k', q1, ⟨q2, q3⟩ | ⟨q2, q3⟩⟩)
    · exact .inl ⟨j, a, b, by omega, h2⟩
    · exact .inl ⟨i, k', (k' + 1) % 3, by omega, by omega, by omega, by omega, q2, q3⟩
    · exact .inl ⟨i, (k' + 1) % 3, k', by omega, by omega, by omega, by omega, q3, q2⟩
  · rintro (⟨j, a, b, h1, h2, h3, h4, h5, h6⟩ | ⟨k', h1, _⟩)
    · by_cases e : j = i
      · subst e
        right
        by_cases e2 : b = (a + 1) % 3
        · subst e2; exact ⟨a, h2, .inl ⟨h5, h6⟩⟩
        · have e3 : a = (b + 1) % 3 := by omega
          subst e3; exact ⟨b, h3, .inr ⟨h6, h5⟩⟩
      · exact .inl ⟨j, a, b, by omega, h2, h3, h4, h5, h6⟩
    · omega⟩
theorem MkB.end {T : SL} {i x y : Nat} {g : Nat → Bool} (h : MkB T i 0 g) (hx : x < 9) (hy : y < 9) : g (9 * x + y) = true ↔ us T i x y := by
  rw [h.out x y hx hy]
  refine ⟨fun hh => ?_, .inl⟩
  rcases hh with h1 | ⟨k', h1, _⟩
  · exact h1
  · omega
theorem fr_of3 {T : SL} {i : Nat} (h : ∀ k, k < 3 → ¬ us T i (at2 T i k) (at2 T i ((k + 1) % 3))) : fr T i := fun a b ha hb hab hu => by
  by_cases e2 : b = (a + 1) % 3
  · subst e2; exact h a ha hu
  · have e3 : a = (b + 1) % 3 := by omega
    subst e3; exact h b hb (us_symm hu)
theorem ts_eq {M N : SL} {v : Int} (h : M.map (·.2) = N.map (·.2)) : tsB M v = tsB N v := by
  have e1 : ∀ i, VT M v i ↔ VT N v i := fun i => by
    constructor
    · rintro ⟨a, b, c, d, e, f⟩
      rw [snd_getD h i] at a f; rw [snd_getD h (i - 1)] at f
      simp only [at2_eq h] at b c d e
      exact ⟨a, b, c, d, e, f⟩
    · rintro ⟨a, b, c, d, e, f⟩
      rw [← snd_getD h i] at a f; rw [← snd_getD h (i - 1)] at f
      simp only [← at2_eq h] at b c d e
      exact ⟨a, b, c, d, e, f⟩
  have e2 : ∀ i x y, us M i x y ↔ us N i x y := fun i x y => by unfold us; simp only [at2_eq h]
  have e3 : TSys M v ↔ TSys N v := by
    unfold TSys fr
    simp only [e1, e2, at2_eq h, snd_len h]
  unfold tsB
  rw [Bool.eq_iff_iff, @decide_eq_true_iff _ (Classical.propDecidable _), @decide_eq_true_iff _ (Classical.propDecidable _)]
  exact e3
/-- No pair ahead of (a, b) lies in an earlier triple. -/
def FrU (T : SL) (i a b : Nat) : Prop := ∀ a' b', a' < 3 → b' < 3 → a' ≠ b' → bef a b a' b' → ¬ us T i (at2 T i a') (at2 T i b')
theorem FrU.start {T : SL} {i : Nat} : FrU T i 0 0 := fun a' b' _ _ _ h => by unfold bef at h; omega
theorem FrU.row {T : SL} {i a : Nat} (h : FrU T i a 3) : FrU T i (a + 1) 0 := fun a' b' h1 h2 h3 h4 => h a' b' h1 h2 h3 (by unfold bef at *; omega)
theorem FrU.diag {T : SL} {i a : Nat} (h : FrU T i a a) : FrU T i a (a + 1) := fun a' b' h1 h2 h3 h4 => h a' b' h1 h2 h3 (by unfold bef at *; omega)
theorem FrU.step {T : SL} {i a b : Nat} (h : FrU T i a b) (hn : ¬ us T i (at2 T i a) (at2 T i b)) : FrU T i a (b + 1) := fun a' b' h1 h2 h3 h4 => by
  by_cases e : a' = a ∧ b' = b
  · rw [e.1, e.2]; exact hn
  · exact h a' b' h1 h2 h3 (by unfold bef at *; omega)
theorem FrU.all {T : SL} {i : Nat} (h : FrU T i 3 0) : fr T i := fun a b h1 h2 h3 => h a b h1 h2 h3 (.inl h1)
theorem TSys.of {T : SL} {v : Int} (hv : 1 ≤ v ∧ v ≤ 9) (h : ∀ j, j < T.length → VT T v j ∧ fr T j) (hc : ∀ x y : Nat, x < v.toNat → y < v.toNat → x ≠ y → us T T.length x y) : TSys T v := ⟨hv, h, fun x y h1 h2 h3 => hc x y (by omega) (by omega) h3⟩
end Go.Proofs.Ytdcpggdbjllmpab
