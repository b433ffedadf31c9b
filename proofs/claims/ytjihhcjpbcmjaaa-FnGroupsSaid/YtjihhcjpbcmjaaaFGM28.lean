/- The least equivalence over a pair that the permutations keep. No conditions but those in the statements. -/
import Derived.Test.YtjihhcjpbcmjaaaFGM26
import Derived.Test.YtjihhcjpbcmjaaaFGM24
namespace Go.Proofs.Ytjihhcjpbcmjaaa
open Gx
set_option linter.unusedVariables false
def Bk (ps : List (Nat → Fin 256)) (n x y u v : Nat) : Prop := ∀ F : Nat → Nat → Prop, Eqv F → F x y → (∀ p, p ∈ ps → ∀ a b, a < n → b < n → F a b → F (p a).val (p b).val) → F u v
theorem Bk.eqv {ps : List (Nat → Fin 256)} {n x y : Nat} : Eqv (Bk ps n x y) where
  refl := fun u F hF _ _ => hF.refl u
  symm := fun u v h F hF h1 h2 => hF.symm _ _ (h F hF h1 h2)
  trans := fun u v w h h' F hF h1 h2 => hF.trans _ _ _ (h F hF h1 h2) (h' F hF h1 h2)
theorem Bk.base {ps : List (Nat → Fin 256)} {n x y : Nat} : Bk ps n x y x y := fun F _ h _ => h
theorem Bk.step {ps : List (Nat → Fin 256)} {n x y a b : Nat} {p : Nat → Fin 256} (hp : p ∈ ps) (ha : a < n) (hb : b < n) (h : Bk ps n x y a b) : Bk ps n x y (p a).val (p b).val := fun F hF h1 h2 => h2 p hp a b ha hb (h F hF h1 h2)
noncomputable def bkB (ps : List (Nat → Fin 256)) (n x y u v : Nat) : Bool := @decide (Bk ps n x y u v) (Classical.propDecidable _)
theorem bkB_iff {ps : List (Nat → Fin 256)} {n x y u v : Nat} : bkB ps n x y u v = true ↔ Bk ps n x y u v := @decide_eq_true_iff _ (Classical.propDecidable _)
noncomputable def bkL (ps : List (Nat → Fin 256)) (n x y : Nat) : List Int := filt (bkB ps n x y x) n
/-! ### How many labels are borne -/
noncomputable def lbB (c : Nat → Int) (n u : Nat) : Bool := @decide (∃ v, v < n ∧ c v = (u : Int)) (Classical.propDecidable _)
theorem lbB_iff {c : Nat → Int} {n u : Nat} : lbB c n u = true ↔ ∃ v, v < n ∧ c v = (u : Int) := @decide_eq_true_iff _ (Classical.propDecidable _)
noncomputable def lbN (c : Nat → Int) (n : Nat) : Nat := cntB (lbB c n) n
theorem lbN_less {c c' : Nat → Int} {n b s t : Nat} (hb : b < n) (ht : t < n) (hcb : c b = (t : Int)) (hst : s ≠ t) (hc : ∀ u, u < n → c' u = if c u = (t : Int) then (s : Int) else c u) (hs : ∃ a, a < n ∧ c a = (s : Int)) : lbN c' n < lbN c n := by
  refine cntB_less (p := t) (lbB_iff.2 ⟨b, hb, hcb⟩) ?_ n ht fun q hq h => ?_
  · rw [Bool.eq_false_iff]
    intro h
    obtain ⟨v, hv, e⟩ := lbB_iff.1 h
    rw [hc v hv] at e
    split at e
    · omega
    · rename_i h1; exact h1 e
  · obtain ⟨v, hv, e⟩ := lbB_iff.1 h
    rw [hc v hv] at e
    split at e
    · obtain ⟨a, ha, e2⟩ := hs
      exact lbB_iff.2 ⟨a, ha, by omega⟩
    · exact lbB_iff.2 ⟨v, hv, e⟩
/-! ### The spec's way: pairs in a queue -/
def pr (p : Nat → Fin 256) (a b : Nat) : Nat → Int := fun j => if j = 0 then ((p a).val : Int) else ((p b).val : Int)
structure BI (ps : List (Nat → Fin 256)) (n x y : Nat) (c : Nat → Int) (Q : List (Nat → Int)) (i : Nat) : Prop where
  rng : ∀ u, u < n → ∃ v : Nat, v < n ∧ c u = (v : Int)
  prs : ∀ q, q ∈ Q → ∃ a b : Nat, q 0 = (a : Int) ∧ q 1 = (b : Int) ∧ a < n ∧ b < n ∧ Bk ps n x y a b
  snd : ∀ u v, u < n → v < n → c u = c v → Bk ps n x y u v
  done : ∀ j, j < i → j < Q.length → ∀ a b : Nat, (Q.getD j fun _ => 0) 0 = (a : Int) → (Q.getD j fun _ => 0) 1 = (b : Int) → c a = c b
  gen : ∃ Mg : List (Nat × Nat), (∀ m, m ∈ Mg → m.1 < n ∧ m.2 < n ∧ ∀ p, p ∈ ps → ∃ q, q ∈ Q ∧ q 0 = ((p m.1).val : Int) ∧ q 1 = ((p m.2).val : Int)) ∧ ∀ F : Nat → Nat → Prop, Eqv F → (∀ m, m ∈ Mg → F m.1 m.2) → ∀ u v, u < n → v < n → c u = c v → F u v
  first : ∃ q, q ∈ Q ∧ q 0 = (x : Int) ∧ q 1 = (y : Int)
theorem BI.start {ps : List (Nat → Fin 256)} {n x y : Nat} {c : Nat → Int} {q : Nat → Int} (hx : x < n) (hy : y < n) (hc : ∀ u, u < n → c u = (u : Int)) (h0 : q 0 = (x : Int)) (h1 : q 1 = (y : Int)) : BI ps n x y c [q] 0 where
  rng := fun u hu => ⟨u, hu, hc u hu⟩
  prs := fun q' hq => by rw [List.mem_singleton.1 hq]; exact ⟨x, y, h0, h1, hx, hy, Bk.base⟩
  snd := fun u v hu hv h => by
    rw [hc u hu, hc v hv] at h
    obtain rfl : u = v := by omega
    exact Bk.eqv.refl u
  done := fun j hj => by omega
  gen := ⟨[], (fun m hm => by cases hm), (fun F hF _ u v hu hv h => (show u = v by have e1 := hc u hu; have e2 := hc v hv; omega) ▸ hF.refl u)⟩
  first := ⟨q, List.mem_singleton.2 rfl, h0, h1⟩
theorem getD_memQ {Q : List (Nat → Int)} {i : Nat} (hi : i < Q.length) : (Q.getD i fun _ => 0) ∈ Q := by
  rw [List.getD, List.getElem?_eq_getElem hi]; exact List.getElem_mem hi
theorem BI.at {ps : List (Nat → Fin 256)} {n x y i : Nat} {c : Nat → Int} {Q : List (Nat → Int)} (h : BI ps n x y c Q i) (hi : i < Q.length) : ∃ a b : Nat, (Q.getD i fun _ => 0) 0 = (a : Int) ∧ (Q.getD i fun _ => 0) 1 = (b : Int) ∧ a < n ∧ b < n ∧ Bk ps n x y a b := h.prs _ (getD_memQ hi)
theorem BI.same {ps : List (Nat → Fin 256)} {n x y i a b : Nat} {c : Nat → Int} {Q : List (Nat → Int)} (h : BI ps n x y c Q i) (ha : (Q.getD i fun _ => 0) 0 = (a : Int)) (hb : (Q.getD i fun _ => 0) 1 = (b : Int)) (hab : c a = c b) : BI ps n x y c Q (i + 1) where
  rng := h.rng
  prs := h.prs
  snd := h.snd
  gen := h.gen
  first := h.first
  done := fun j hj hl a' b' e1 e2 => by
    by_cases e : j = i
    · subst e
      obtain rfl : a' = a := by rw [ha] at e1; omega
      obtain rfl : b' = b := by rw [hb] at e2; omega
      exact hab
    · exact h.done j (by omega) hl a' b' e1 e2
theorem BI.merge {ps : List (Nat → Fin 256)} {n : Int} {x y i a b : Nat} {c c' : Nat → Int} {Q : List (Nat → Int)} (hp : PsOk ps n) (h : BI ps n.toNat x y c Q i) (hi : i < Q.length) (ha : (Q.getD i fun _ => 0) 0 = (a : Int)) (hb : (Q.getD i fun _ => 0) 1 = (b : Int)) (han : a < n.toNat) (hbn : b < n.toNat) (hB : Bk ps n.toNat x y a b) (hne : c a ≠ c b)
    (hc : ∀ u, u < n.toNat → c' u = if c u = c b then c a else c u) : BI ps n.toNat x y c' (Q ++ ps.map fun p => pr p a b) (i + 1) := by
  have hn := hp.1
  have hE : Eqv (Bk ps n.toNat x y) := Bk.eqv
  have cases2 : ∀ u v, u < n.toNat → v < n.toNat → c' u = c' v → c u = c v ∨ (c u = c b ∧ c v = c a) ∨ (c u = c a ∧ c v = c b) := fun u v hu hv e => by
    rw [hc u hu, hc v hv] at e
    split at e <;> split at e
    · left; omega
    · right; left; constructor <;> omega
    · right; right; constructor <;> omega
    · left; exact e
  refine ⟨fun u hu => ?_, fun q hq => ?_, fun u v hu hv e => ?_, fun j hj hl a' b' e1 e2 => ?_, ?_, ?_⟩
  · rw [hc u hu]
    split
    · exact h.rng a han
    · exact h.rng u hu
  · rcases List.mem_append.1 hq with hq | hq
    · exact h.prs q hq
    · obtain ⟨p, hpm, rfl⟩ := List.mem_map.1 hq
      have h1 := (perm_lt (i := a) (hp.2 p hpm) (by omega)).1
      have h2 := (perm_lt (i := b) (hp.2 p hpm) (by omega)).1
      exact ⟨(p a).val, (p b).val, rfl, rfl, by omega, by omega, Bk.step hpm han hbn hB⟩
  · rcases cases2 u v hu hv e with h1 | ⟨h1, h2⟩ | ⟨h1, h2⟩
    · exact h.snd u v hu hv h1
    · exact hE.trans _ _ _ (h.snd u b hu hbn h1) (hE.trans _ _ _ (hE.symm _ _ hB) (h.snd a v han hv h2.symm))
    · exact hE.trans _ _ _ (h.snd u a hu han h1) (hE.trans _ _ _ hB (h.snd b v hbn hv h2.symm))
  · have keep : ∀ a' b' : Nat, a' < n.toNat → b' < n.toNat → c a' = c b' → c' a' = c' b' := fun a' b' h1 h2 e => by rw [hc a' h1, hc b' h2, e]
    have hjQ : j < Q.length := by omega
    have eg : ((Q ++ ps.map fun p => pr p a b).getD j fun _ => 0) = Q.getD j fun _ => 0 := by
      simp only [List.getD]; rw [List.getElem?_append_left hjQ]
    rw [eg] at e1 e2
    obtain ⟨a2, b2, g1, g2, g3, g4, _⟩ := h.prs _ (getD_memQ hjQ)
    obtain rfl : a' = a2 := by rw [e1] at g1; omega
    obtain rfl : b' = b2 := by rw [e2] at g2; omega
    by_cases e : j = i
    · subst e
      obtain rfl : a' = a := by rw [ha] at e1; omega
      obtain rfl : b' = b := by rw [hb] at e2; omega
      rw [hc a' han, hc b' hbn, if_neg hne, if_pos rfl]
    · exact keep a' b' g3 g4 (h.done j (by omega) hjQ a' b' e1 e2)
  · obtain ⟨Mg, m1, m2⟩ := h.gen
    refine ⟨(a, b) :: Mg, fun m hm => ?_, fun F hF hM u v hu hv e => ?_⟩
    · rcases List.mem_cons.1 hm with rfl | hm
      · exact ⟨han, hbn, fun p hpm => ⟨pr p a b, List.mem_append_right _ (List.mem_map.2 ⟨p, hpm, rfl⟩), rfl, rfl⟩⟩
      · obtain ⟨g1, g2, g3⟩ := m1 m hm
        exact ⟨g1, g2, fun p hpm => by
          obtain ⟨q, q1, q2, q3⟩ := g3 p hpm
          exact ⟨q, List.mem_append_left _ q1, q2, q3⟩⟩
    · have hold := m2 F hF fun m hm => hM m (List.mem_cons_of_mem _ hm)
      have hab : F a b := hM (a, b) (List.mem_cons_self ..)
      rcases cases2 u v hu hv e with h1 | ⟨h1, h2⟩ | ⟨h1, h2⟩
      · exact hold u v hu hv h1
      · exact hF.trans _ _ _ (hold u b hu hbn h1) (hF.trans _ _ _ (hF.symm _ _ hab) (hold a v han hv h2.symm))
      · exact hF.trans _ _ _ (hold u a hu han h1) (hF.trans _ _ _ hab (hold b v hbn hv h2.symm))
  · obtain ⟨q, q1, q2⟩ := h.first
    exact ⟨q, List.mem_append_left _ q1, q2⟩
theorem BI.end {ps : List (Nat → Fin 256)} {n : Int} {x y : Nat} {c : Nat → Int} {Q : List (Nat → Int)} (hp : PsOk ps n) (h : BI ps n.toNat x y c Q Q.length) {u v : Nat} (hu : u < n.toNat) (hv : v < n.toNat) : c u = c v ↔ Bk ps n.toNat x y u v := by
  have hn := hp.1
  have hall : ∀ q, q ∈ Q → ∀ a b : Nat, q 0 = (a : Int) → q 1 = (b : Int) → c a = c b := fun q hq a b e1 e2 => by
    obtain ⟨j, hj, rfl⟩ := List.mem_iff_getElem.1 hq
    have eg : (Q.getD j fun _ => 0) = Q[j] := by simp [List.getD, hj]
    exact h.done j hj hj a b (by rw [eg]; exact e1) (by rw [eg]; exact e2)
  obtain ⟨Mg, m1, m2⟩ := h.gen
  have hclosed : ∀ p, p ∈ ps → ∀ a b, a < n.toNat → b < n.toNat → c a = c b → c (p a).val = c (p b).val := fun p hpm a b ha hb e => by
    have := m2 (fun a b => a = b ∨ (a < n.toNat ∧ b < n.toNat ∧ c (p a).val = c (p b).val)) ⟨fun _ => .inl rfl, fun a b h => h.elim (fun h => .inl h.symm) fun h => .inr ⟨h.2.1, h.1, h.2.2.symm⟩, fun a b d h1 h2 => by
      rcases h1 with rfl | ⟨a1, a2, a3⟩
      · exact h2
      · rcases h2 with rfl | ⟨b1, b2, b3⟩
        · exact .inr ⟨a1, a2, a3⟩
        · exact .inr ⟨a1, b2, a3.trans b3⟩⟩ (fun m hm => by
      obtain ⟨g1, g2, g3⟩ := m1 m hm
      obtain ⟨q, q1, q2, q3⟩ := g3 p hpm
      exact .inr ⟨g1, g2, hall q q1 _ _ q2 q3⟩) a b ha hb e
    rcases this with rfl | ⟨_, _, h3⟩
    · rfl
    · exact h3
  constructor
  · exact h.snd u v hu hv
  · intro hB
    have := hB (fun a b => a = b ∨ (a < n.toNat ∧ b < n.toNat ∧ c a = c b)) ⟨fun _ => .inl rfl, fun a b h => h.elim (fun h => .inl h.symm) fun h => .inr ⟨h.2.1, h.1, h.2.2.symm⟩, fun a b d h1 h2 => by
      rcases h1 with rfl | ⟨a1, a2, a3⟩
      · exact h2
      · rcases h2 with rfl | ⟨b1, b2, b3⟩
        · exact .inr ⟨a1, a2, a3⟩
        · exact .inr ⟨a1, b2, a3.trans b3⟩⟩ (by
      obtain ⟨q, q1, q2, q3⟩ := h.first
      obtain ⟨a, b, g1, g2, g3, g4, _⟩ := h.prs q q1
      obtain rfl : x = a := by rw [q2] at g1; omega
      obtain rfl : y = b := by rw [q3] at g2; omega
      exact .inr ⟨g3, g4, hall q q1 _ _ q2 q3⟩) (fun p hpm a b ha hb hab => by
      rcases hab with rfl | ⟨_, _, h3⟩
      · exact .inl rfl
      · have h1 := (perm_lt (i := a) (hp.2 p hpm) (by omega)).1
        have h2 := (perm_lt (i := b) (hp.2 p hpm) (by omega)).1
        exact .inr ⟨by omega, by omega, hclosed p hpm a b ha hb h3⟩)
    rcases this with rfl | ⟨_, _, h3⟩
    · rfl
    · exact h3
/-! ### The walk's states -/
def idC (i : Nat) : Nat → Int := fun u => if u < i then (u : Int) else 0
theorem idC_step {i : Nat} (u : Nat) : (if u = i then (i : Int) else idC i u) = idC (i + 1) u := by
  unfold idC
  by_cases e : u = i
  · subst e; rw [if_pos rfl, if_pos (by omega)]
  · rw [if_neg e]
    by_cases h : u < i
    · rw [if_pos h, if_pos (by omega)]
    · rw [if_neg h, if_neg (by omega)]
def pr0 (x y : Nat) : Nat → Int := fun j => if j = 0 then (x : Int) else (y : Int)
def mrg (c : Nat → Int) (a b u : Nat) : Nat → Int := fun v => if v < u then (if c v = c b then c a else c v) else c v
theorem mrg_zero {c : Nat → Int} {a b : Nat} (v : Nat) : c v = mrg c a b 0 v := by simp [mrg]
theorem mrg_at {c : Nat → Int} {a b u : Nat} : mrg c a b u u = c u := by simp [mrg]
theorem mrg_t {c : Nat → Int} {a b u : Nat} (h : c u = c b) (v : Nat) : (if v = u then c a else mrg c a b u v) = mrg c a b (u + 1) v := by
  unfold mrg
  by_cases e : v = u
  · subst e; rw [if_pos rfl, if_pos (show v < v + 1 by omega), if_pos h]
  · rw [if_neg e]
    by_cases h2 : v < u
    · rw [if_pos h2, if_pos (show v < u + 1 by omega)]
    · rw [if_neg h2, if_neg (show ¬ v < u + 1 by omega)]
theorem mrg_f {c : Nat → Int} {a b u : Nat} (h : ¬ c u = c b) (v : Nat) : mrg c a b u v = mrg c a b (u + 1) v := by
  unfold mrg
  by_cases e : v = u
  · subst e; rw [if_neg (show ¬ v < v by omega), if_pos (show v < v + 1 by omega), if_neg h]
  · by_cases h2 : v < u
    · rw [if_pos h2, if_pos (show v < u + 1 by omega)]
    · rw [if_neg h2, if_neg (show ¬ v < u + 1 by omega)]
theorem mrg_end {c : Nat → Int} {a b n : Nat} : ∀ u, u < n → mrg c a b n u = if c u = c b then c a else c u := fun u hu => by unfold mrg; rw [if_pos hu]
theorem getD_appQ {Q R : List (Nat → Int)} {i : Nat} (hi : i < Q.length) : (Q ++ R).getD i (fun _ => 0) = Q.getD i fun _ => 0 := by
  simp only [List.getD]; rw [List.getElem?_append_left hi]
def qz (Q : List (Nat → Int)) (l : List (Nat → Fin 256)) (a b k : Nat) : List (Nat → Int) := Q ++ (l.take k).map fun p => pr p a b
theorem qz_zero {Q : List (Nat → Int)} {l : List (Nat → Fin 256)} {a b : Nat} : qz Q l a b 0 = Q := by simp [qz]
theorem qz_step {Q : List (Nat → Int)} {l : List (Nat → Fin 256)} {a b k : Nat} (hk : k < l.length) : qz Q l a b k ++ [pr (l.getD k fun _ => 0) a b] = qz Q l a b (k + 1) := by
  unfold qz
  rw [List.take_succ_eq_append_getElem hk, List.map_append, ← List.append_assoc]
  simp [List.getD, hk]
theorem qz_end {Q : List (Nat → Int)} {l : List (Nat → Fin 256)} {a b : Nat} : qz Q l a b l.length = Q ++ l.map fun p => pr p a b := by
  unfold qz; rw [List.take_of_length_le (Nat.le_refl _)]
theorem qz_len {Q : List (Nat → Int)} {l : List (Nat → Fin 256)} {a b k : Nat} (hk : k ≤ l.length) : (qz Q l a b k).length = Q.length + k := by
  unfold qz; simp; omega
theorem qz_get {Q : List (Nat → Int)} {l : List (Nat → Fin 256)} {a b k i : Nat} (hi : i < Q.length) : (qz Q l a b k).getD i (fun _ => 0) = Q.getD i fun _ => 0 := getD_appQ hi
/-- What bounds the queue. -/
def BQ (c : Nat → Int) (n len q : Nat) : Prop := q + lbN c n * len ≤ n * len + 1
theorem BQ.start {c : Nat → Int} {n len : Nat} : BQ c n len 1 := by
  have h1 := Nat.mul_le_mul_right len (show lbN c n ≤ n from cntB_le _ n)
  unfold BQ; omega
theorem BQ.b {c : Nat → Int} {n len q : Nat} (h : BQ c n len q) (hn : n ≤ 10) (hl : len ≤ 40) : q ≤ 401 := by
  have h1 : n * len ≤ 10 * 40 := Nat.mul_le_mul hn hl
  unfold BQ at h; omega
theorem BQ.step {c c' : Nat → Int} {n len q : Nat} (h : BQ c n len q) (hl : lbN c' n < lbN c n) : BQ c' n len (q + len) := by
  have h1 := Nat.mul_le_mul_right len (show lbN c' n + 1 ≤ lbN c n from hl)
  rw [Nat.succ_mul] at h1
  unfold BQ at *; omega
theorem BQ.less {a b len q i : Nat} (h : a < b) (hi : i < q) : a * (len + 1) + (q + len - (i + 1)) < b * (len + 1) + (q - i) := by
  have h1 := Nat.mul_le_mul_right (len + 1) (show a + 1 ≤ b from h)
  rw [Nat.succ_mul] at h1
  omega
theorem BI.lb {ps : List (Nat → Fin 256)} {n x y i a b : Nat} {c : Nat → Int} {Q : List (Nat → Int)} (h : BI ps n x y c Q i) (ha : a < n) (hb : b < n) (hne : c a ≠ c b) : lbN (mrg c a b n) n < lbN c n := by
  obtain ⟨t, ht, e⟩ := h.rng b hb
  obtain ⟨s, hs, e2⟩ := h.rng a ha
  refine lbN_less (b := b) (s := s) (t := t) hb ht e (by omega) (fun u hu => ?_) ⟨a, ha, e2⟩
  rw [mrg_end u hu, e, e2]
def lbP (c : Nat → Int) (x : Nat) : Nat → Bool := fun v => decide (c v = c x)
theorem BI.list {ps : List (Nat → Fin 256)} {n : Int} {x y : Nat} {c : Nat → Int} {Q : List (Nat → Int)} (hp : PsOk ps n) (hx : x < n.toNat) (h : BI ps n.toNat x y c Q Q.length) : filt (lbP c x) n.toNat = bkL ps n.toNat x y := by
  unfold bkL lbP
  refine filt_congr _ fun v hv => ?_
  rw [Bool.eq_iff_iff, decide_eq_true_eq, bkB_iff, ← h.end hp hx hv]
  exact eq_comm
end Go.Proofs.Ytjihhcjpbcmjaaa
