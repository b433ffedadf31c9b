/- Orbits as lists. No conditions but those in the statements. -/
import Derived.Test.YtjihhcjpbcmjaaaFGM21
import Derived.Test.YtjihhcjpbcmjaaaFGM14
namespace Go.Proofs.Ytjihhcjpbcmjaaa
open Gx
set_option linter.unusedVariables false
noncomputable def orbB (ps : List (Nat → Fin 256)) (n : Nat) (x y : Nat) : Bool := @decide (Orb (Sp ps n) x y) (Classical.propDecidable _)
theorem orbB_iff {ps : List (Nat → Fin 256)} {n x y : Nat} : orbB ps n x y = true ↔ Orb (Sp ps n) x y := @decide_eq_true_iff _ (Classical.propDecidable _)
/-- Whether one ahead of k is of a kind with y. -/
noncomputable def seenR (R : Nat → Nat → Bool) (k y : Nat) : Bool := @decide (∃ z, z < k ∧ R z y = true) (Classical.propDecidable _)
theorem seenR_iff {R : Nat → Nat → Bool} {k y : Nat} : seenR R k y = true ↔ ∃ z, z < k ∧ R z y = true := @decide_eq_true_iff _ (Classical.propDecidable _)
noncomputable def oL (R : Nat → Nat → Bool) (n : Nat) : Nat → List (List Int)
  | 0 => []
  | k + 1 => oL R n k ++ (if seenR R k k = true then [] else [filt (R k) n])
theorem oL_t {R : Nat → Nat → Bool} {n k : Nat} (h : seenR R k k = true) : oL R n k = oL R n (k + 1) := by simp [oL, h]
theorem oL_f {R : Nat → Nat → Bool} {n k : Nat} (h : seenR R k k = false) : oL R n k ++ [filt (R k) n] = oL R n (k + 1) := by simp [oL, h]
theorem oL_len {R : Nat → Nat → Bool} {n : Nat} : ∀ k, (oL R n k).length ≤ k
  | 0 => by simp [oL]
  | k + 1 => by have := oL_len (R := R) (n := n) k; simp only [oL, List.length_append]; split <;> simp <;> omega
theorem oL_in {R : Nat → Nat → Bool} {n : Nat} : ∀ k, ∀ l ∈ oL R n k, l.length ≤ n
  | 0, l, h => by simp [oL] at h
  | k + 1, l, h => by
    simp only [oL, List.mem_append] at h
    rcases h with h | h
    · exact oL_in k l h
    · split at h
      · cases h
      · rw [List.mem_singleton.1 h]; exact filt_len n
theorem filt_congr {P Q : Nat → Bool} : ∀ n, (∀ y, y < n → P y = Q y) → filt P n = filt Q n
  | 0, _ => rfl
  | n + 1, h => by simp only [filt]; rw [filt_congr n (fun y hy => h y (by omega)), h n (by omega)]
/-! ### Seen, after one more -/
theorem seenR_zero {R : Nat → Nat → Bool} (y : Nat) : false = seenR R 0 y := by
  rw [eq_comm, Bool.eq_false_iff]; intro h
  obtain ⟨z, h, _⟩ := seenR_iff.1 h
  omega
/-- Seen, below n. -/
noncomputable def seenT (R : Nat → Nat → Bool) (n k y : Nat) : Bool := decide (y < n) && seenR R k y
theorem seenT_zero {R : Nat → Nat → Bool} {n : Nat} (y : Nat) : false = seenT R n 0 y := by unfold seenT; rw [← seenR_zero, Bool.and_false]
theorem seenT_at {R : Nat → Nat → Bool} {n k y : Nat} (hy : y < n) : seenT R n k y = seenR R k y := by unfold seenT; rw [decide_eq_true hy, Bool.true_and]
/-- Places below j marked anew. -/
noncomputable def seenM (R : Nat → Nat → Bool) (n k j y : Nat) : Bool := seenT R n k y || (decide (y < j) && R k y)
theorem seenM_zero {R : Nat → Nat → Bool} {n k : Nat} (y : Nat) : seenT R n k y = seenM R n k 0 y := by simp [seenM]
theorem seenM_t {R : Nat → Nat → Bool} {n k j : Nat} (h : R k j = true) (y : Nat) : (if y = j then true else seenM R n k j y) = seenM R n k (j + 1) y := by
  unfold seenM
  by_cases e : y = j
  · subst e; rw [if_pos rfl, h]; simp
  · rw [if_neg e]
    congr 2
    rw [Bool.eq_iff_iff]; simp only [decide_eq_true_eq]; omega
theorem seenM_f {R : Nat → Nat → Bool} {n k j : Nat} (h : R k j = false) (y : Nat) : seenM R n k j y = seenM R n k (j + 1) y := by
  unfold seenM
  by_cases e : y = j
  · subst e; rw [h]; simp
  · congr 2
    rw [Bool.eq_iff_iff]; simp only [decide_eq_true_eq]; omega
theorem seenM_end {R : Nat → Nat → Bool} {n k : Nat} (y : Nat) : seenM R n k n y = seenT R n (k + 1) y := by
  unfold seenM seenT
  by_cases hy : y < n
  · rw [decide_eq_true hy, Bool.true_and, Bool.true_and, Bool.true_and, Bool.eq_iff_iff, Bool.or_eq_true, seenR_iff, seenR_iff]
    constructor
    · rintro (⟨z, h1, h2⟩ | h)
      · exact ⟨z, by omega, h2⟩
      · exact ⟨k, by omega, h⟩
    · rintro ⟨z, h1, h2⟩
      by_cases e : z = k
      · subst e; exact .inr h2
      · exact .inl ⟨z, by omega, h2⟩
  · rw [decide_eq_false hy]; rfl
theorem seenR_same {R : Nat → Nat → Bool} {k : Nat} (ht : ∀ x y z, R x y = true → R y z = true → R x z = true) (h : seenR R k k = true) (y : Nat) : seenR R k y = seenR R (k + 1) y := by
  obtain ⟨w, w1, w2⟩ := seenR_iff.1 h
  rw [Bool.eq_iff_iff, seenR_iff, seenR_iff]
  constructor
  · rintro ⟨z, h1, h2⟩; exact ⟨z, by omega, h2⟩
  · rintro ⟨z, h1, h2⟩
    by_cases e : z = k
    · subst e; exact ⟨w, w1, ht _ _ _ w2 h2⟩
    · exact ⟨z, by omega, h2⟩
theorem seenT_same {R : Nat → Nat → Bool} {n k : Nat} (ht : ∀ x y z, R x y = true → R y z = true → R x z = true) (hk : k < n) (h : seenT R n k k = true) (y : Nat) : seenT R n k y = seenT R n (k + 1) y := by
  rw [seenT_at hk] at h
  unfold seenT
  rw [seenR_same ht h]
theorem orbB_trans {ps : List (Nat → Fin 256)} {n : Nat} (x y z : Nat) (h1 : orbB ps n x y = true) (h2 : orbB ps n y z = true) : orbB ps n x z = true := orbB_iff.2 ((orbB_iff.1 h1).trans (orbB_iff.1 h2))
/-! ### Reached places: breadth first -/
structure Bfs (ps : List (Nat → Fin 256)) (n x i k : Nat) (Q : List Int) (h : Nat → Bool) : Prop where
  mem : ∀ y, y < 10 → (h y = true ↔ (y : Int) ∈ Q)
  rng : ∀ q ∈ Q, ∃ y : Nat, q = (y : Int) ∧ y < n ∧ Orb (Sp ps n) x y
  nodup : Q.Nodup
  start : h x = true
  done : ∀ j, j < i → ∀ q, q < ps.length → h (((ps.getD q fun _ => 0) (Q.getD j 0).toNat).val) = true
  now : ∀ q, q < k → h (((ps.getD q fun _ => 0) (Q.getD i 0).toNat).val) = true
theorem Bfs.len {ps : List (Nat → Fin 256)} {n x i k : Nat} {Q : List Int} {h : Nat → Bool} (b : Bfs ps n x i k Q h) : Q.length ≤ n := by
  have h1 : (Q.map Int.toNat).Nodup := by
    refine List.pairwise_map.2 (b.nodup.imp_of_mem fun {a c} ha hc hne e => hne ?_)
    obtain ⟨u, rfl, _⟩ := b.rng a ha
    obtain ⟨v, rfl, _⟩ := b.rng c hc
    simp at e; rw [e]
  have h2 : ∀ a ∈ Q.map Int.toNat, a ∈ List.range n := fun a ha => by
    obtain ⟨q, hq, rfl⟩ := List.mem_map.1 ha
    obtain ⟨u, rfl, hu, _⟩ := b.rng q hq
    simpa using hu
  have h3 := List.Nodup.length_le_of_subset h1 h2
  simpa using h3
theorem Bfs.zero {ps : List (Nat → Fin 256)} {n x : Nat} (hx : x < n) : Bfs ps n x 0 0 [(x : Int)] (fun y => if y = x then true else false) where
  mem := fun y _ => by simp; omega
  rng := fun q hq => ⟨x, by simpa using hq, hx, Orb.refl x⟩
  nodup := by simp
  start := by simp
  done := fun j hj => by omega
  now := fun q hq => by omega
theorem Bfs.row {ps : List (Nat → Fin 256)} {n x i : Nat} {Q : List Int} {h : Nat → Bool} (b : Bfs ps n x i ps.length Q h) : Bfs ps n x (i + 1) 0 Q h where
  mem := b.mem
  rng := b.rng
  nodup := b.nodup
  start := b.start
  done := fun j hj q hq => if e : j = i then by subst e; exact b.now q hq else b.done j (by omega) q hq
  now := fun q hq => by omega
theorem Bfs.has {ps : List (Nat → Fin 256)} {n x i k u : Nat} {Q : List Int} {h : Nat → Bool} (b : Bfs ps n x i k Q h) (hi : i < Q.length) (hu : Q.getD i 0 = (u : Int)) (h10 : u < 10) : h u = true := by
  refine (b.mem u h10).2 ?_
  have e : Q.getD i 0 = Q[i] := by simp [List.getD, hi]
  rw [← hu, e]
  exact List.getElem_mem hi
theorem Bfs.at {ps : List (Nat → Fin 256)} {n x i k : Nat} {Q : List Int} {h : Nat → Bool} (b : Bfs ps n x i k Q h) (hi : i < Q.length) : ∃ u : Nat, Q.getD i 0 = (u : Int) ∧ u < n ∧ Orb (Sp ps n) x u := by
  have e : Q.getD i 0 = Q[i] := by simp [List.getD, hi]
  rw [e]
  exact b.rng _ (List.getElem_mem hi)
theorem Bfs.old {ps : List (Nat → Fin 256)} {n x i k u : Nat} {Q : List Int} {h : Nat → Bool} (b : Bfs ps n x i k Q h) (hu : Q.getD i 0 = (u : Int)) (hh : h (((ps.getD k fun _ => 0) u).val) = true) : Bfs ps n x i (k + 1) Q h where
  mem := b.mem
  rng := b.rng
  nodup := b.nodup
  start := b.start
  done := b.done
  now := fun q hq => if e : q = k then by subst e; rw [hu, Int.toNat_natCast]; exact hh else b.now q (by omega)
theorem getD_app {Q : List Int} {j : Nat} (hj : j < Q.length) (v : Int) : (Q ++ [v]).getD j 0 = Q.getD j 0 := by
  simp only [List.getD]; rw [List.getElem?_append_left hj]
theorem Bfs.new {ps : List (Nat → Fin 256)} {n : Int} {x i k u : Nat} {Q : List Int} {h : Nat → Bool} (hp : PsOk ps n) (b : Bfs ps n.toNat x i k Q h) (hi : i < Q.length) (hk : k < ps.length) (hu : Q.getD i 0 = (u : Int)) (hun : u < n.toNat) (hou : Orb (Sp ps n.toNat) x u) (hh : h (((ps.getD k fun _ => 0) u).val) = false) :
    Bfs ps n.toNat x i (k + 1) (Q ++ [((((ps.getD k fun _ => 0) u).val : Nat) : Int)]) (fun y => if y = ((ps.getD k fun _ => 0) u).val then true else h y) := by
  have hmem : ps.getD k (fun _ => 0) ∈ ps := by
    rw [List.getD, List.getElem?_eq_getElem hk]; exact List.getElem_mem hk
  have hperm := hp.2 _ hmem
  have hn := hp.1
  have hlt : ((ps.getD k fun _ => 0) u).val < n.toNat := by
    have := (perm_lt (i := u) hperm (by omega)).1
    omega
  have horb : Orb (Sp ps n.toNat) x ((ps.getD k fun _ => 0) u).val := by
    have h1 := Orb.step (S := Sp ps n.toNat) (x := u) ⟨_, hmem, rfl⟩
    rw [nfp_lt hun] at h1
    exact hou.trans h1
  generalize hv : ((ps.getD k fun _ => 0) u).val = v at *
  refine ⟨fun y hy => ?_, fun q hq => ?_, ?_, ?_, fun j hj q hq => ?_, fun q hq => ?_⟩
  · rw [List.mem_append, ← b.mem y hy, List.mem_singleton]
    by_cases e : y = v
    · subst e; simp
    · rw [if_neg e]
      exact ⟨.inl, fun h => h.resolve_right (by omega)⟩
  · rcases List.mem_append.1 hq with hq | hq
    · exact b.rng q hq
    · exact ⟨v, List.mem_singleton.1 hq, hlt, horb⟩
  · rw [List.nodup_append]
    refine ⟨b.nodup, by simp, fun a ha c hc => ?_⟩
    rintro rfl
    rw [List.mem_singleton.1 hc] at ha
    have := (b.mem v (by omega)).2 ha
    rw [hh] at this; cases this
  · show (if x = v then true else h x) = true
    split
    · rfl
    · exact b.start
  · rw [getD_app (by omega)]
    show (if _ = v then true else h _) = true
    split
    · rfl
    · exact b.done j hj q hq
  · rw [getD_app hi]
    show (if _ = v then true else h _) = true
    split
    · rfl
    · rename_i hne
      by_cases e : q = k
      · subst e
        rw [hu, Int.toNat_natCast] at hne
        exact absurd hv hne
      · exact b.now q (by omega)
theorem Bfs.end {ps : List (Nat → Fin 256)} {n : Int} {x : Nat} {Q : List Int} {h : Nat → Bool} (hp : PsOk ps n) (hx : x < n.toNat) (b : Bfs ps n.toNat x Q.length 0 Q h) {y : Nat} (hy : y < n.toNat) : h y = orbB ps n.toNat x y := by
  have hn := hp.1
  rw [Bool.eq_iff_iff, orbB_iff]
  constructor
  · intro hh
    obtain ⟨u, e, _, h3⟩ := b.rng _ ((b.mem y (by omega)).1 hh)
    obtain rfl : y = u := by omega
    exact h3
  · rintro ⟨a, ha, rfl⟩
    have key : ∀ a, Gen (Sp ps n.toNat) a → a x < n.toNat ∧ h (a x) = true := by
      intro a ha
      induction ha with
      | one => exact ⟨hx, b.start⟩
      | mul h1 h2 ih =>
        rename_i a c
        obtain ⟨p, hpm, rfl⟩ := h2
        obtain ⟨i1, i2⟩ := ih
        have e1 : th a (nfp n.toNat p) x = (p (a x)).val := nfp_lt i1
        rw [e1]
        have hperm := hp.2 p hpm
        have := (perm_lt (i := a x) hperm (by omega)).1
        refine ⟨by omega, ?_⟩
        obtain ⟨j, hj, hje⟩ := List.mem_iff_getElem.1 ((b.mem (a x) (by omega)).1 i2)
        obtain ⟨q, hq, hqe⟩ := List.mem_iff_getElem.1 hpm
        have h5 := b.done j hj q hq
        have e2 : Q.getD j 0 = ((a x : Nat) : Int) := by simp [List.getD, hj, hje]
        have e3 : ps.getD q (fun _ => 0) = p := by simp [List.getD, hq, hqe]
        rw [e2, e3, Int.toNat_natCast] at h5
        exact h5
    exact (key a ha).2
/-! ### Classes joined -/
def OI (ps : List (Nat → Fin 256)) (n k j : Nat) (c : List Int) : Prop := ∃ E, Eqv E ∧ Lab n E c ∧ (∀ u v, E u v → Orb (Sp ps n) u v) ∧ (∀ q, q < k → q < ps.length → ∀ u, u < n → E u ((ps.getD q fun _ => 0) u).val) ∧ ∀ u, u < j → u < n → k < ps.length → E u ((ps.getD k fun _ => 0) u).val
theorem OI.zero {ps : List (Nat → Fin 256)} {n : Nat} : OI ps n 0 0 ((List.range n).map fun i : Nat => (i : Int)) :=
  ⟨fun x y => x = y, ⟨fun _ => rfl, fun _ _ h => h.symm, fun _ _ _ h1 h2 => h1.trans h2⟩, Lab.start n, fun u v h => h ▸ Orb.refl u, fun q hq => by omega, fun u hu => by omega⟩
theorem OI.step {ps : List (Nat → Fin 256)} {n : Int} {k j : Nat} {c : List Int} (hp : PsOk ps n) (h : OI ps n.toNat k j c) (hk : k < ps.length) (hj : j < n.toNat) : OI ps n.toNat k (j + 1) (joinL c j ((ps.getD k fun _ => 0) j).val) := by
  obtain ⟨E, h1, h2, h3, h4, h5⟩ := h
  have hn := hp.1
  have hmem : ps.getD k (fun _ => 0) ∈ ps := by
    rw [List.getD, List.getElem?_eq_getElem hk]; exact List.getElem_mem hk
  have hlt := (perm_lt (i := j) (hp.2 _ hmem) (by omega)).1
  have horb : Orb (Sp ps n.toNat) j ((ps.getD k fun _ => 0) j).val := by
    have h1 := Orb.step (S := Sp ps n.toNat) (x := j) ⟨_, hmem, rfl⟩
    rw [nfp_lt hj] at h1
    exact h1
  have hO : Eqv (Orb (Sp ps n.toNat)) := ⟨fun x => Orb.refl x, fun x y h => Orb.symm (by omega) (Sp_pn hp) h, fun x y z h1 h2 => h1.trans h2⟩
  refine ⟨Jn E j ((ps.getD k fun _ => 0) j).val, Jn.eqv h1 _ _, h2.join h1 hj (by omega), Jn.least hO h3 horb, fun q hq hq2 u hu => Jn.le (h4 q hq hq2 u hu), fun u hu hun hkk => ?_⟩
  by_cases e : u = j
  · subst e; exact Jn.pair h1 _ _
  · exact Jn.le (h5 u (by omega) hun hkk)
theorem OI.row {ps : List (Nat → Fin 256)} {n k : Nat} {c : List Int} (h : OI ps n k n c) : OI ps n (k + 1) 0 c := by
  obtain ⟨E, h1, h2, h3, h4, h5⟩ := h
  exact ⟨E, h1, h2, h3, fun q hq hq2 u hu => if e : q = k then by subst e; exact h5 u hu hu hq2 else h4 q (by omega) hq2 u hu, fun u hu => by omega⟩
theorem OI.len {ps : List (Nat → Fin 256)} {n k j : Nat} {c : List Int} (h : OI ps n k j c) : c.length = n := by
  obtain ⟨E, _, h2, _⟩ := h
  exact h2.len
theorem OI.end {ps : List (Nat → Fin 256)} {n : Int} {c : List Int} (hp : PsOk ps n) (h : OI ps n.toNat ps.length 0 c) : ∃ E, Eqv E ∧ Lab n.toNat E c ∧ ∀ u v, u < n.toNat → (E u v ↔ Orb (Sp ps n.toNat) u v) := by
  obtain ⟨E, h1, h2, h3, h4, h5⟩ := h
  refine ⟨E, h1, h2, fun u v hu => ⟨h3 u v, ?_⟩⟩
  rintro ⟨a, ha, rfl⟩
  have hn := hp.1
  have key : ∀ a, Gen (Sp ps n.toNat) a → a u < n.toNat ∧ E u (a u) := by
    intro a ha
    induction ha with
    | one => exact ⟨hu, h1.refl u⟩
    | mul g1 g2 ih =>
      rename_i a b
      obtain ⟨p, hpm, rfl⟩ := g2
      obtain ⟨i1, i2⟩ := ih
      have e1 : th a (nfp n.toNat p) u = (p (a u)).val := nfp_lt i1
      rw [e1]
      have := (perm_lt (i := a u) (hp.2 p hpm) (by omega)).1
      obtain ⟨q, hq, hqe⟩ := List.mem_iff_getElem.1 hpm
      have h6 := h4 q hq hq (a u) i1
      have e3 : ps.getD q (fun _ => 0) = p := by simp [List.getD, hq, hqe]
      rw [e3] at h6
      exact ⟨by omega, h1.trans _ _ _ i2 h6⟩
  exact (key a ha).2
/-- The classes, out of the labels. -/
def clP (c : List Int) (x y : Nat) : Bool := decide (c.getD y 0 = (x : Int))
def clF (c : List Int) (n : Nat) : Nat → List (List Int)
  | 0 => []
  | x + 1 => clF c n x ++ (if (filt (clP c x) n).length = 0 then [] else [filt (clP c x) n])
theorem cls_filt {c : List Int} {x : Nat} : ∀ n, cls c n x = filt (clP c x) n
  | 0 => rfl
  | n + 1 => by
    have h := cls_filt (c := c) (x := x) n
    unfold cls at *
    rw [List.range_succ, List.filter_append, List.map_append, h, filt]
    congr 1
    unfold clP
    by_cases e : c.getD n 0 = (x : Int)
    · rw [List.filter_cons, if_pos (decide_eq_true e), if_pos (decide_eq_true e)]; rfl
    · rw [List.filter_cons, if_neg (by simpa using e), if_neg (by simpa using e)]; rfl
theorem clF_oL {ps : List (Nat → Fin 256)} {n : Int} {c : List Int} (hp : PsOk ps n) (h : OI ps n.toNat ps.length 0 c) : ∀ k, k ≤ n.toNat → clF c n.toNat k = oL (orbB ps n.toNat) n.toNat k
  | 0, _ => rfl
  | k + 1, hk => by
    obtain ⟨E, h1, h2, h3⟩ := h.end hp
    have hne := cls_ne h2 h1 (x := k) (by omega)
    rw [cls_filt] at hne
    simp only [clF, oL]
    rw [clF_oL hp h k (by omega)]
    congr 1
    have hs : seenR (orbB ps n.toNat) k k = true ↔ ∃ y, y < k ∧ E y k := by
      rw [seenR_iff]
      exact ⟨fun ⟨z, a, b⟩ => ⟨z, a, (h3 z k (by omega)).2 (orbB_iff.1 b)⟩, fun ⟨z, a, b⟩ => ⟨z, a, orbB_iff.2 ((h3 z k (by omega)).1 b)⟩⟩
    by_cases e : ∃ y, y < k ∧ E y k
    · rw [if_pos (hs.2 e), if_pos (by rw [hne.2 e]; rfl)]
    · rw [if_neg (fun h => e (hs.1 h)), if_neg (fun h => e (hne.1 (List.length_eq_zero_iff.1 h)))]
      congr 1
      refine filt_congr _ fun y hy => ?_
      have := cls_eq h2 h1 (x := k) (by omega) e y hy
      unfold clP
      rw [Bool.eq_iff_iff, decide_eq_true_eq, this, orbB_iff]
      exact h3 k y (by omega)
/-! ### Codes -/
noncomputable def psB (ps : List (Nat → Fin 256)) (n : Int) : Bool := @decide (∀ p, p ∈ ps → IsPerm p n) (Classical.propDecidable _)
noncomputable def psC (ps : List (Nat → Fin 256)) (n : Int) : Int := if 1 ≤ n ∧ n ≤ 10 then (if psB ps n = true then (if ps.length ≤ 40 then 0 else 2) else 1) else 2
theorem psC_n {ps : List (Nat → Fin 256)} {n : Int} (h : ¬ (1 ≤ n ∧ n ≤ 10)) : psC ps n = 2 := if_neg h
theorem psC_1 {ps : List (Nat → Fin 256)} {n : Int} (h : 1 ≤ n ∧ n ≤ 10) (h2 : psB ps n = false) : psC ps n = 1 := by unfold psC; rw [if_pos h, if_neg (by rw [h2]; decide)]
theorem psC_2 {ps : List (Nat → Fin 256)} {n : Int} (h : 1 ≤ n ∧ n ≤ 10) (h2 : psB ps n = true) (h3 : ¬ ps.length ≤ 40) : psC ps n = 2 := by unfold psC; rw [if_pos h, if_pos h2, if_neg h3]
theorem psC_0 {ps : List (Nat → Fin 256)} {n : Int} (h : 1 ≤ n ∧ n ≤ 10) (h2 : psB ps n = true) (h3 : ps.length ≤ 40) : psC ps n = 0 := by unfold psC; rw [if_pos h, if_pos h2, if_pos h3]
theorem psC_ok {ps : List (Nat → Fin 256)} {n : Int} (h : psC ps n = 0) : PsOk ps n ∧ ps.length ≤ 40 := by
  unfold psC at h
  split at h
  · rename_i h1
    split at h
    · rename_i h2
      split at h
      · rename_i h3
        exact ⟨⟨h1, @of_decide_eq_true _ (Classical.propDecidable _) h2⟩, h3⟩
      · omega
    · omega
  · omega
theorem isPerm_of {p : Nat → Fin 256} {n : Int} (h : IsPerm p n) : isPerm p n = true := @decide_eq_true _ (Classical.propDecidable _) h
theorem psB_t {ps : List (Nat → Fin 256)} {n : Int} (h : ∀ i, i < ps.length → isPerm (ps.getD i fun _ => 0) n = true) : true = psB ps n := (@decide_eq_true _ (Classical.propDecidable _) fun p hp => by
  obtain ⟨i, hi, rfl⟩ := List.mem_iff_getElem.1 hp
  have := h i hi
  rw [List.getD, List.getElem?_eq_getElem hi] at this
  exact of_isPerm this).symm
theorem psB_f {ps : List (Nat → Fin 256)} {n : Int} {i : Nat} (hi : i < ps.length) (h : isPerm (ps.getD i fun _ => 0) n = false) : false = psB ps n := (@decide_eq_false _ (Classical.propDecidable _) fun hh => by
  have := hh (ps.getD i fun _ => 0) (by rw [List.getD, List.getElem?_eq_getElem hi]; exact List.getElem_mem hi)
  rw [isPerm_of this] at h
  cases h).symm
noncomputable def orbS (ps : List (Nat → Fin 256)) (n : Int) : List (List Int) := if psC ps n = 0 then oL (orbB ps n.toNat) n.toNat n.toNat else []
theorem orbS_0 {ps : List (Nat → Fin 256)} {n : Int} (h : psC ps n = 0) : orbS ps n = oL (orbB ps n.toNat) n.toNat n.toNat := if_pos h
theorem orbS_n {ps : List (Nat → Fin 256)} {n : Int} (h : psC ps n ≠ 0) : orbS ps n = [] := if_neg h
theorem orbS_b (ps : List (Nat → Fin 256)) (n : Int) : (orbS ps n).length ≤ 100000 ∧ ∀ l ∈ orbS ps n, l.length ≤ 10 := by
  unfold orbS
  split
  · rename_i h
    have hn := (psC_ok h).1.1
    have h1 := oL_len (R := orbB ps n.toNat) (n := n.toNat) n.toNat
    refine ⟨by omega, fun l hl => ?_⟩
    have := oL_in _ l hl
    omega
  · simp
theorem PsOk.at {ps : List (Nat → Fin 256)} {n : Int} {k : Nat} (hp : PsOk ps n) (hk : k < ps.length) : IsPerm (ps.getD k fun _ => 0) n := hp.2 _ (by rw [List.getD, List.getElem?_eq_getElem hk]; exact List.getElem_mem hk)
/-! ### Witnesses of what is reached -/
def idT (k : Nat) : Nat → Fin 256 := fun j => if j < k then Fin.ofNat 256 j else 0
theorem idT_step {i : Nat} (j : Nat) : (if j = i then Fin.ofNat 256 i else idT i j) = idT (i + 1) j := by
  unfold idT
  by_cases e : j = i
  · subst e; rw [if_pos rfl, if_pos (by omega)]
  · rw [if_neg e]
    by_cases h : j < i
    · rw [if_pos h, if_pos (by omega)]
    · rw [if_neg h, if_neg (by omega)]
theorem idT_perm {n : Int} (hn : 1 ≤ n ∧ n ≤ 10) : IsPerm (idT n.toNat) n := by
  refine ⟨hn.1, hn.2, ⟨fun i hi h => ?_, fun i hi h => ?_⟩, fun i j hi hj h1 h2 h => ?_⟩
  · unfold idT; rw [if_neg (by omega)]
  · unfold idT; rw [if_pos (by omega), ofNat_val (by omega)]; exact h
  · unfold idT at h; rw [if_pos (by omega), if_pos (by omega), ofNat_val (by omega), ofNat_val (by omega)] at h; exact h
theorem thenT_perm {p q : Nat → Fin 256} {n : Int} (hp : IsPerm p n) (hq : IsPerm q n) : IsPerm (thenT p q n.toNat) n := by
  obtain ⟨h1, h2, ⟨h3, h4⟩, h5⟩ := hp
  obtain ⟨_, _, ⟨h6, h7⟩, h8⟩ := hq
  refine ⟨h1, h2, ⟨fun i hi h => ?_, fun i hi h => ?_⟩, fun i j hi hj a1 a2 h => ?_⟩
  · unfold thenT; rw [if_neg (by omega)]
  · unfold thenT; rw [if_pos (by omega)]
    have := h4 i hi h
    exact h7 _ (by omega) this
  · unfold thenT at h; rw [if_pos (by omega), if_pos (by omega)] at h
    have b1 := h4 i hi a1
    have b2 := h4 j hj a2
    exact h5 i j hi hj a1 a2 (h8 _ _ (by omega) (by omega) b1 b2 h)
theorem IsPerm.congr {p q : Nat → Fin 256} {n : Int} (h : IsPerm p n) (e : ∀ j, j < 10 → q j = p j) : IsPerm q n := by
  obtain ⟨h1, h2, ⟨h3, h4⟩, h5⟩ := h
  exact ⟨h1, h2, ⟨fun i hi h => by rw [e i hi]; exact h3 i hi h, fun i hi h => by rw [e i hi]; exact h4 i hi h⟩, fun i j hi hj a b h => by rw [e i hi, e j hj] at h; exact h5 i j hi hj a b h⟩
def Tk (f : Nat → Fin 256) (h : Nat → Bool) (n : Int) : Prop := ∀ y, y < n.toNat → h y = true → IsPerm (fun j => f (10 * y + j)) n
theorem Tk.put {f g : Nat → Fin 256} {h : Nat → Bool} {n : Int} {v : Nat} (hg : IsPerm g n) (hT : Tk f h n) : Tk (fun j => if 10 * v ≤ j ∧ j < 10 * v + 10 then g (j - 10 * v) else f j) (fun y => if y = v then true else h y) n := by
  intro y hy hh
  by_cases e : y = v
  · subst e
    refine hg.congr fun j hj => ?_
    show (if 10 * y ≤ 10 * y + j ∧ 10 * y + j < 10 * y + 10 then g (10 * y + j - 10 * y) else f (10 * y + j)) = g j
    rw [if_pos (by omega)]
    congr 1; omega
  · have hh' : (if y = v then true else h y) = true := hh
    rw [if_neg e] at hh'
    refine (hT y hy hh').congr fun j hj => ?_
    show (if 10 * v ≤ 10 * y + j ∧ 10 * y + j < 10 * v + 10 then g (10 * y + j - 10 * v) else f (10 * y + j)) = f (10 * y + j)
    rw [if_neg (by omega)]
theorem Tk.none {f : Nat → Fin 256} {n : Int} : Tk f (fun _ => false) n := fun y _ h => by cases h
/-! ### Classes, step by step -/
def rgL : Nat → List Int
  | 0 => []
  | k + 1 => rgL k ++ [(k : Int)]
theorem rgL_eq : ∀ k, rgL k = (List.range k).map fun i : Nat => (i : Int)
  | 0 => rfl
  | k + 1 => by rw [rgL, rgL_eq k, List.range_succ, List.map_append]; rfl
theorem rgL_len (k : Nat) : (rgL k).length = k := by rw [rgL_eq]; simp
def jP (c : List Int) (x y z : Nat) : List Int := (joinL c x y).take z ++ c.drop z
theorem joinL_len {c : List Int} {x y : Nat} : (joinL c x y).length = c.length := by simp [joinL]
theorem jP_len {c : List Int} {x y z : Nat} (hz : z ≤ c.length) : (jP c x y z).length = c.length := by
  unfold jP; rw [List.length_append, List.length_take, List.length_drop, joinL_len]; omega
theorem jP_zero {c : List Int} {x y : Nat} : jP c x y 0 = c := by simp [jP]
theorem jP_end {c : List Int} {x y : Nat} : jP c x y c.length = joinL c x y := by
  unfold jP; rw [List.drop_length, List.append_nil, List.take_of_length_le (by rw [joinL_len]; exact Nat.le_refl _)]
theorem jP_get {c : List Int} {x y z i : Nat} (hz : z ≤ c.length) (hi : i < c.length) : (jP c x y z).getD i 0 = if i < z then (joinL c x y).getD i 0 else c.getD i 0 := by
  unfold jP
  simp only [List.getD]
  by_cases h : i < z
  · rw [if_pos h, List.getElem?_append_left (by rw [List.length_take, joinL_len]; omega), List.getElem?_take, if_pos h]
  · rw [if_neg h, List.getElem?_append_right (by rw [List.length_take, joinL_len]; omega), List.length_take, joinL_len, List.getElem?_drop, Nat.min_eq_left hz]
    congr 2
    omega
theorem jP_at {c : List Int} {x y z : Nat} (hz : z < c.length) : (jP c x y z).getD z 0 = c.getD z 0 := by
  rw [jP_get (by omega) hz, if_neg (by omega)]
theorem ext0 {a b : List Int} (hl : a.length = b.length) (h : ∀ i, i < a.length → a.getD i 0 = b.getD i 0) : a = b := by
  apply List.ext_getElem hl
  intro i h1 h2
  have := h i h1
  simpa [List.getD, h1, h2] using this
theorem jP_set {c : List Int} {x y z : Nat} (hz : z < c.length) (h : c.getD z 0 = max (c.getD x 0) (c.getD y 0)) : (jP c x y z).set z (min (c.getD x 0) (c.getD y 0)) = jP c x y (z + 1) := by
  refine ext0 (by rw [List.length_set, jP_len (by omega), jP_len (by omega)]) fun i hi => ?_
  rw [List.length_set, jP_len (by omega)] at hi
  rw [jP_get (by omega) hi]
  by_cases e : z = i
  · subst e
    rw [if_pos (by omega), joinL_getD hz, if_pos h]
    simp [List.getD, jP_len (x := x) (y := y) (Nat.le_of_lt hz), hz]
  · have e2 : ((jP c x y z).set z (min (c.getD x 0) (c.getD y 0))).getD i 0 = (jP c x y z).getD i 0 := by
      simp only [List.getD, List.getElem?_set]; rw [if_neg e]
    rw [e2, jP_get (by omega) hi]
    by_cases h2 : i < z
    · rw [if_pos h2, if_pos (by omega)]
    · rw [if_neg h2, if_neg (by omega)]
theorem jP_same {c : List Int} {x y z : Nat} (hz : z < c.length) (h : ¬ c.getD z 0 = max (c.getD x 0) (c.getD y 0)) : jP c x y z = jP c x y (z + 1) := by
  refine ext0 (by rw [jP_len (by omega), jP_len (by omega)]) fun i hi => ?_
  rw [jP_len (by omega)] at hi
  rw [jP_get (by omega) hi, jP_get (by omega) hi]
  by_cases e : z = i
  · subst e
    rw [if_neg (by omega), if_pos (by omega), joinL_getD hz, if_neg h]
  · by_cases h2 : i < z
    · rw [if_pos h2, if_pos (by omega)]
    · rw [if_neg h2, if_neg (by omega)]
theorem clF_len {c : List Int} {n : Nat} : ∀ k, (clF c n k).length ≤ k
  | 0 => by simp [clF]
  | k + 1 => by have := clF_len (c := c) (n := n) k; simp only [clF, List.length_append]; split <;> simp <;> omega
theorem clF_no {c : List Int} {n k : Nat} (h : (filt (clP c k) n).length = 0) : clF c n k = clF c n (k + 1) := by simp [clF, h]
theorem clF_yes {c : List Int} {n k : Nat} (h : ¬ (filt (clP c k) n).length = 0) : clF c n k ++ [filt (clP c k) n] = clF c n (k + 1) := by simp [clF, h]
end Go.Proofs.Ytjihhcjpbcmjaaa
