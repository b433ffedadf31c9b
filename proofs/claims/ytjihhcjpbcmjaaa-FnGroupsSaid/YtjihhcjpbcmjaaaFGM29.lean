/- The least equivalence, by classes joined until nothing turns. No conditions but those in the statements. -/
import Derived.Test.YtjihhcjpbcmjaaaFGM28
namespace Go.Proofs.Ytjihhcjpbcmjaaa
open Gx
set_option linter.unusedVariables false
def BJ (ps : List (Nat → Fin 256)) (n x y : Nat) (c : List Int) : Prop := ∃ E, Eqv E ∧ Lab n E c ∧ (∀ u v, E u v → Bk ps n x y u v) ∧ E x y
noncomputable def clN (c : List Int) (n : Nat) : Nat := lbN (fun v => c.getD v 0) n
theorem BJ.start {ps : List (Nat → Fin 256)} {n x y : Nat} (hx : x < n) (hy : y < n) : BJ ps n x y (joinL (rgL n) x y) := by
  have hE : Eqv (fun x y : Nat => x = y) := ⟨fun _ => rfl, fun _ _ h => h.symm, fun _ _ _ h1 h2 => h1.trans h2⟩
  refine ⟨Jn (fun x y => x = y) x y, Jn.eqv hE x y, by rw [rgL_eq]; exact (Lab.start n).join hE hx hy, Jn.least Bk.eqv (fun u v h => h ▸ Bk.eqv.refl u) Bk.base, Jn.pair hE x y⟩
theorem BJ.len {ps : List (Nat → Fin 256)} {n x y : Nat} {c : List Int} (h : BJ ps n x y c) : c.length = n := by
  obtain ⟨E, _, h2, _⟩ := h
  exact h2.len
theorem BJ.at {ps : List (Nat → Fin 256)} {n x y j : Nat} {c : List Int} (h : BJ ps n x y c) (hj : j < n) : ∃ m : Nat, c.getD j 0 = (m : Int) ∧ m < n ∧ Bk ps n x y j m := by
  obtain ⟨E, h1, h2, h3, h4⟩ := h
  obtain ⟨m, e, m1, m2, _⟩ := h2.lab j hj
  exact ⟨m, e, by omega, h3 _ _ (h1.symm _ _ m2)⟩
theorem BJ.join {ps : List (Nat → Fin 256)} {n : Int} {x y j m : Nat} {c : List Int} {p : Nat → Fin 256} (hp : PsOk ps n) (h : BJ ps n.toNat x y c) (hpm : p ∈ ps) (hj : j < n.toNat) (hm : m < n.toNat) (hB : Bk ps n.toNat x y j m) : BJ ps n.toNat x y (joinL c (p j).val (p m).val) := by
  have hn := hp.1
  have l1 := (perm_lt (i := j) (hp.2 p hpm) (by omega)).1
  have l2 := (perm_lt (i := m) (hp.2 p hpm) (by omega)).1
  obtain ⟨E, h1, h2, h3, h4⟩ := h
  exact ⟨Jn E (p j).val (p m).val, Jn.eqv h1 _ _, h2.join h1 (by omega) (by omega), Jn.least Bk.eqv h3 (Bk.step hpm hj hm hB), Jn.le h4⟩
theorem joinL_same {c : List Int} {x y : Nat} (h : c.getD x 0 = c.getD y 0) : joinL c x y = c := by
  unfold joinL
  rw [← h, Int.max_self, Int.min_self]
  conv => rhs; rw [← List.map_id c]
  apply List.map_congr_left
  intro z _
  split
  · rename_i e; rw [e]; rfl
  · rfl
theorem BJ.less {ps : List (Nat → Fin 256)} {n x y a b : Nat} {c : List Int} (h : BJ ps n x y c) (ha : a < n) (hb : b < n) (hne : c.getD a 0 ≠ c.getD b 0) : clN (joinL c a b) n < clN c n := by
  have hlen := h.len
  obtain ⟨s, es, s1, _⟩ := h.at ha
  obtain ⟨t, et, t1, _⟩ := h.at hb
  unfold clN
  by_cases hst : s < t
  · refine lbN_less (b := b) (s := s) (t := t) hb t1 et (by omega) (fun u hu => ?_) ⟨a, ha, es⟩
    show (joinL c a b).getD u 0 = if c.getD u 0 = (t : Int) then (s : Int) else c.getD u 0
    rw [joinL_getD (by omega), es, et, show max (s : Int) (t : Int) = (t : Int) by omega, show min (s : Int) (t : Int) = (s : Int) by omega]
  · refine lbN_less (b := a) (s := t) (t := s) ha s1 es (by omega) (fun u hu => ?_) ⟨b, hb, et⟩
    show (joinL c a b).getD u 0 = if c.getD u 0 = (s : Int) then (t : Int) else c.getD u 0
    rw [joinL_getD (by omega), es, et, show max (s : Int) (t : Int) = (s : Int) by omega, show min (s : Int) (t : Int) = (t : Int) by omega]
def clA (c : List Int) (p : Nat → Fin 256) (u : Nat) : Prop := c.getD (p u).val 0 = c.getD (p (c.getD u 0).toNat).val 0
def Cl (ps : List (Nat → Fin 256)) (n : Nat) (c : List Int) (k j : Nat) : Prop := (∀ q, q < k → q < ps.length → ∀ u, u < n → clA c (ps.getD q fun _ => 0) u) ∧ ∀ u, u < j → u < n → k < ps.length → clA c (ps.getD k fun _ => 0) u
theorem Cl.zero {ps : List (Nat → Fin 256)} {n : Nat} {c : List Int} : Cl ps n c 0 0 := ⟨fun q hq => by omega, fun u hu => by omega⟩
theorem Cl.row {ps : List (Nat → Fin 256)} {n k : Nat} {c : List Int} (h : Cl ps n c k n) : Cl ps n c (k + 1) 0 :=
  ⟨fun q hq hq2 u hu => if e : q = k then by subst e; exact h.2 u hu hu hq2 else h.1 q (by omega) hq2 u hu, fun u hu => by omega⟩
theorem Cl.step {ps : List (Nat → Fin 256)} {n k j : Nat} {c : List Int} (h : Cl ps n c k j) (ha : clA c (ps.getD k fun _ => 0) j) : Cl ps n c k (j + 1) :=
  ⟨h.1, fun u hu hun hk => if e : u = j then by subst e; exact ha else h.2 u (by omega) hun hk⟩
theorem clA_id {c : List Int} {p : Nat → Fin 256} {j : Nat} (h : c.getD j 0 = (j : Int)) : clA c p j := by unfold clA; rw [h, Int.toNat_natCast]
theorem BJ.end {ps : List (Nat → Fin 256)} {n : Int} {x y v : Nat} {c : List Int} (hp : PsOk ps n) (hx : x < n.toNat) (hy : y < n.toNat) (h : BJ ps n.toNat x y c) (hc : Cl ps n.toNat c ps.length 0) (hv : v < n.toNat) : c.getD v 0 = c.getD x 0 ↔ Bk ps n.toNat x y x v := by
  have hn := hp.1
  have h0 := h
  obtain ⟨E, h1, h2, h3, h4⟩ := h
  constructor
  · intro e
    exact h3 _ _ ((h2.eq_iff h1 hx hv).1 e.symm)
  · intro hB
    have := hB (fun a b => a = b ∨ (a < n.toNat ∧ b < n.toNat ∧ c.getD a 0 = c.getD b 0)) ⟨fun _ => .inl rfl, fun a b h => h.elim (fun h => .inl h.symm) fun h => .inr ⟨h.2.1, h.1, h.2.2.symm⟩, fun a b d q1 q2 => by
      rcases q1 with rfl | ⟨a1, a2, a3⟩
      · exact q2
      · rcases q2 with rfl | ⟨b1, b2, b3⟩
        · exact .inr ⟨a1, a2, a3⟩
        · exact .inr ⟨a1, b2, a3.trans b3⟩⟩ (.inr ⟨hx, hy, (h2.eq_iff h1 hx hy).2 h4⟩) (fun p hpm a b ha hb hab => by
      rcases hab with rfl | ⟨_, _, e⟩
      · exact .inl rfl
      · obtain ⟨q, hq, hqe⟩ := List.mem_iff_getElem.1 hpm
        have e3 : ps.getD q (fun _ => 0) = p := by simp [List.getD, hq, hqe]
        have c1 := hc.1 q hq hq a ha
        have c2 := hc.1 q hq hq b hb
        rw [e3] at c1 c2
        unfold clA at c1 c2
        rw [← e] at c2
        have l1 := (perm_lt (i := a) (hp.2 p hpm) (by omega)).1
        have l2 := (perm_lt (i := b) (hp.2 p hpm) (by omega)).1
        exact .inr ⟨by omega, by omega, c1.trans c2.symm⟩)
    rcases this with rfl | ⟨_, _, e⟩
    · rfl
    · exact e.symm
theorem BJ.list {ps : List (Nat → Fin 256)} {n : Int} {x y m : Nat} {c : List Int} (hp : PsOk ps n) (hx : x < n.toNat) (hy : y < n.toNat) (h : BJ ps n.toNat x y c) (hc : Cl ps n.toNat c ps.length 0) (hm : c.getD x 0 = (m : Int)) : filt (clP c m) n.toNat = bkL ps n.toNat x y := by
  unfold bkL
  refine filt_congr _ fun v hv => ?_
  unfold clP
  rw [Bool.eq_iff_iff, decide_eq_true_eq, bkB_iff, ← h.end hp hx hy hc hv, hm]
theorem clF_in {c : List Int} {n : Nat} : ∀ {k : Nat}, n ≤ 10 → ∀ l ∈ clF c n k, l.length ≤ 10
  | 0, _, l, h => by simp [clF] at h
  | k + 1, hn, l, h => by
    simp only [clF, List.mem_append] at h
    rcases h with h | h
    · exact clF_in hn l h
    · split at h
      · cases h
      · rw [List.mem_singleton.1 h]
        have := filt_len (P := clP c k) n
        omega
theorem filt_mem {P : Nat → Bool} {v : Nat} : ∀ n, ((v : Int) ∈ filt P n ↔ v < n ∧ P v = true)
  | 0 => by simp [filt]
  | n + 1 => by
    simp only [filt, List.mem_append, filt_mem n]
    split
    · rename_i h
      simp only [List.mem_singleton]
      constructor
      · rintro (h1 | h1)
        · exact ⟨by omega, h1.2⟩
        · obtain rfl : v = n := by omega
          exact ⟨by omega, h⟩
      · rintro ⟨h1, h2⟩
        by_cases e : v = n
        · right; omega
        · left; exact ⟨by omega, h2⟩
    · rename_i h
      constructor
      · rintro (h1 | h1)
        · exact ⟨by omega, h1.2⟩
        · cases h1
      · rintro ⟨h1, h2⟩
        left
        refine ⟨?_, h2⟩
        by_cases e : v = n
        · subst e; exact absurd h2 h
        · omega
theorem clF_mem {c : List Int} {n : Nat} {l : List Int} : ∀ k, (l ∈ clF c n k ↔ ∃ q, q < k ∧ l = filt (clP c q) n ∧ (filt (clP c q) n).length ≠ 0)
  | 0 => by simp [clF]
  | k + 1 => by
    simp only [clF, List.mem_append, clF_mem k]
    constructor
    · rintro (⟨q, h1, h2⟩ | h)
      · exact ⟨q, by omega, h2⟩
      · split at h
        · cases h
        · rename_i h2; exact ⟨k, by omega, List.mem_singleton.1 h, h2⟩
    · rintro ⟨q, h1, h2, h3⟩
      by_cases e : q = k
      · subst e; right; rw [if_neg h3, h2]; exact List.mem_singleton.2 rfl
      · left; exact ⟨q, by omega, h2, h3⟩
theorem blk_pick {ps : List (Nat → Fin 256)} {n : Int} {x y q : Nat} {c : List Int} {L : SL} (hp : PsOk ps n) (hx : x < n.toNat) (hy : y < n.toNat) (h : BJ ps n.toNat x y c) (hc : Cl ps n.toNat c ps.length 0) (hL : L.map (·.2) = clF c c.length c.length) (hq : q < L.length) (hm : (x : Int) ∈ (L.getD q sd).2) : (L.getD q sd).2 = bkL ps n.toNat x y := by
  have hlen := h.len
  have h1 : (L.getD q sd).2 ∈ clF c c.length c.length := by rw [← hL]; exact List.mem_map.2 ⟨_, getD_mem hq, rfl⟩
  obtain ⟨k, k1, k2, _⟩ := (clF_mem _).1 h1
  rw [k2] at hm ⊢
  have hm2 := (filt_mem _).1 hm
  unfold clP at hm2
  rw [hlen]
  exact h.list hp hx hy hc (of_decide_eq_true hm2.2)
theorem blk_none {ps : List (Nat → Fin 256)} {n : Int} {x y : Nat} {c : List Int} {L : SL} (hp : PsOk ps n) (hx : x < n.toNat) (hy : y < n.toNat) (h : BJ ps n.toNat x y c) (hc : Cl ps n.toNat c ps.length 0) (hL : L.map (·.2) = clF c c.length c.length) (hR : ∀ r, r < L.length → ¬ (x : Int) ∈ (L.getD r sd).2) : False := by
  have hlen := h.len
  obtain ⟨m, e, hm, _⟩ := h.at hx
  have hin : (x : Int) ∈ filt (clP c m) c.length := (filt_mem _).2 ⟨by omega, by unfold clP; exact decide_eq_true e⟩
  have h1 : filt (clP c m) c.length ∈ L.map (·.2) := by
    rw [hL]
    refine (clF_mem _).2 ⟨m, by omega, rfl, fun h0 => ?_⟩
    rw [List.length_eq_zero_iff.1 h0] at hin
    cases hin
  obtain ⟨p, hp1, hp2⟩ := List.mem_map.1 h1
  obtain ⟨r, hr, rfl⟩ := List.mem_iff_getElem.1 hp1
  refine hR r hr ?_
  rw [List.getD, List.getElem?_eq_getElem hr]
  show (x : Int) ∈ (L[r]).2
  rw [hp2]; exact hin
end Go.Proofs.Ytjihhcjpbcmjaaa
