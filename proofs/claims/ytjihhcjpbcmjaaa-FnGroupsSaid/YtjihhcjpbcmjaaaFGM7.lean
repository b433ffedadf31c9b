/- Plain facts on permutations kept in rows of bytes: the two ways to test one agree. No program in sight; conditions stand in the statements. Plain facts on lists of permutations, a permutation turned round, one behind another; no program in sight, conditions in the statements. Plain facts on tables that are filled row by row, and on the sign of a permutation; no program in sight, conditions in the statements. Plain facts on Latin squares kept in tables of bytes: the ways to test one agree. No program in sight; conditions stand in the statements. Plain facts on tests that run over all of the first m numbers, and on codes; no program in sight, conditions in the statements. Plain facts on rows, columns and quotients of Latin squares; no program in sight, conditions in the statements. Plain facts on loops: codes, orders of elements; no program in sight, conditions in the statements. -/
import Derived.Test.YtjihhcjpbcmjaaaFGGx6
namespace Go.Proofs.Ytjihhcjpbcmjaaa
set_option linter.unusedVariables false

theorem length_le_of_subset : ∀ {l m : List Nat}, l.Nodup → l ⊆ m → l.length ≤ m.length
  | [], _, _, _ => by simp
  | a :: l, m, hn, hs => by
    have h1 := List.nodup_cons.1 hn
    have h2 : l ⊆ m.erase a := fun x hx => (List.mem_erase_of_ne (by rintro rfl; exact h1.1 hx)).2 (hs (by simp [hx]))
    have h3 := length_le_of_subset h1.2 h2
    have h4 : a ∈ m := hs (by simp)
    have h5 := List.length_erase_of_mem h4
    have h6 := List.length_pos_of_mem h4
    simp only [List.length_cons]
    omega

theorem nodup_map_range (f : Nat → Nat) (m : Nat) (hi : ∀ i j, i < m → j < m → f i = f j → i = j) : ((List.range m).map f).Nodup := by
  rw [List.Nodup, List.pairwise_map]
  refine List.Pairwise.imp_of_mem ?_ List.nodup_range
  intro a b ha hb hne h
  exact hne (hi a b (List.mem_range.1 ha) (List.mem_range.1 hb) h)

theorem surj_of_inj {f : Nat → Nat} {m : Nat} (hf : ∀ i, i < m → f i < m) (hi : ∀ i j, i < m → j < m → f i = f j → i = j) : ∀ x, x < m → ∃ i, i < m ∧ f i = x := by
  intro x hx
  refine Classical.byContradiction fun hno => ?_
  have h1 : (x :: (List.range m).map f).Nodup := List.nodup_cons.2 ⟨by
    intro h
    obtain ⟨i, h2, h3⟩ := List.mem_map.1 h
    exact hno ⟨i, List.mem_range.1 h2, h3⟩, nodup_map_range f m hi⟩
  have h2 := length_le_of_subset h1 (m := List.range m) (by
    intro y hy
    rcases List.mem_cons.1 hy with rfl | hy
    · exact List.mem_range.2 hx
    · obtain ⟨i, h3, rfl⟩ := List.mem_map.1 hy
      exact List.mem_range.2 (hf i (List.mem_range.1 h3)))
  simp at h2
  omega

theorem inj_of_surj {f : Nat → Nat} {m : Nat} (hs : ∀ x, x < m → ∃ i, i < m ∧ f i = x) : ∀ i j, i < m → j < m → f i = f j → i = j := by
  intro i j hi hj h
  refine Classical.byContradiction fun hne => ?_
  have h1 := length_le_of_subset (l := List.range m) (m := ((List.range m).erase j).map f) List.nodup_range (by
    intro x hx
    obtain ⟨k, hk, rfl⟩ := hs x (List.mem_range.1 hx)
    by_cases e : k = j
    · subst e
      exact List.mem_map.2 ⟨i, (List.mem_erase_of_ne hne).2 (List.mem_range.2 hi), h⟩
    · exact List.mem_map.2 ⟨k, (List.mem_erase_of_ne e).2 (List.mem_range.2 hk), rfl⟩)
  have h2 := List.length_erase_of_mem (List.mem_range.2 hj)
  simp only [List.length_map, List.length_range] at h1 h2
  omega

/-- The first k places: what a permutation of n things asks of them but for being one-to-one. -/
def PermA (p : Nat → Fin 256) (n : Int) (k : Nat) : Prop :=
  (∀ i, i < k → n ≤ (i : Int) → p i = 0) ∧ (∀ i, i < k → (i : Int) < n → ((p i).val : Int) < n)
def PermB (p : Nat → Fin 256) (n : Int) (k : Nat) : Prop :=
  ∀ i j, i < k → j < k → (i : Int) < n → (j : Int) < n → (p i).val = (p j).val → i = j
def IsPerm (p : Nat → Fin 256) (n : Int) : Prop := 1 ≤ n ∧ n ≤ 10 ∧ PermA p n 10 ∧ PermB p n 10
noncomputable def isPerm (p : Nat → Fin 256) (n : Int) : Bool := @decide (IsPerm p n) (Classical.propDecidable _)
theorem isPerm_t {p : Nat → Fin 256} {n : Int} (h : IsPerm p n) : true = isPerm p n := (@decide_eq_true _ (Classical.propDecidable _) h).symm
theorem isPerm_f {p : Nat → Fin 256} {n : Int} (h : ¬ IsPerm p n) : false = isPerm p n := (@decide_eq_false _ (Classical.propDecidable _) h).symm
theorem of_isPerm {p : Nat → Fin 256} {n : Int} (h : isPerm p n = true) : IsPerm p n := @of_decide_eq_true _ (Classical.propDecidable _) h
theorem not_isPerm {p : Nat → Fin 256} {n : Int} (h : isPerm p n = false) : ¬ IsPerm p n := @of_decide_eq_false _ (Classical.propDecidable _) h

theorem PermA.zero {p : Nat → Fin 256} {n : Int} : PermA p n 0 := ⟨fun _ h => by omega, fun _ h => by omega⟩
theorem PermB.zero {p : Nat → Fin 256} {n : Int} : PermB p n 0 := fun _ _ h => by omega
theorem PermA.hi {p : Nat → Fin 256} {n : Int} {k : Nat} (h : PermA p n k) (hk : n ≤ (k : Int)) (h0 : p k = 0) : PermA p n (k + 1) :=
  ⟨fun i hi hn => if e : i = k then e ▸ h0 else h.1 i (by omega) hn, fun i hi hn => h.2 i (by omega) hn⟩
theorem PermA.lo {p : Nat → Fin 256} {n : Int} {k : Nat} (h : PermA p n k) (hk : (k : Int) < n) (h0 : ((p k).val : Int) < n) : PermA p n (k + 1) :=
  ⟨fun i hi hn => h.1 i (by omega) hn, fun i hi hn => if e : i = k then e ▸ h0 else h.2 i (by omega) hn⟩
theorem PermB.hi {p : Nat → Fin 256} {n : Int} {k : Nat} (h : PermB p n k) (hk : n ≤ (k : Int)) : PermB p n (k + 1) :=
  fun i j hi hj hin hjn e => h i j (by omega) (by omega) hin hjn e

/-- Which bytes were met among the first k places below n. -/
noncomputable def met (p : Nat → Fin 256) (n : Int) (k : Nat) (x : Nat) : Bool := @decide (∃ j, j < k ∧ (j : Int) < n ∧ (p j).val = x) (Classical.propDecidable _)
theorem met_iff {p : Nat → Fin 256} {n : Int} {k x : Nat} : met p n k x = true ↔ ∃ j, j < k ∧ (j : Int) < n ∧ (p j).val = x := by
  unfold met
  exact @decide_eq_true_iff _ (Classical.propDecidable _)
theorem met_zero {p : Nat → Fin 256} {n : Int} (x : Nat) : met p n 0 x = false := by
  rw [← Bool.not_eq_true, met_iff]
  rintro ⟨j, h, _⟩
  omega
theorem met_hi {p : Nat → Fin 256} {n : Int} {k : Nat} (hk : n ≤ (k : Int)) (x : Nat) : met p n (k + 1) x = met p n k x := by
  rw [Bool.eq_iff_iff, met_iff, met_iff]
  exact ⟨fun ⟨j, h1, h2, h3⟩ => ⟨j, by omega, h2, h3⟩, fun ⟨j, h1, h2, h3⟩ => ⟨j, by omega, h2, h3⟩⟩
theorem met_lo {p : Nat → Fin 256} {n : Int} {k : Nat} (hk : (k : Int) < n) (x : Nat) : met p n (k + 1) x = if x = (p k).val then true else met p n k x := by
  rw [Bool.eq_iff_iff, met_iff]
  split
  · rename_i h
    exact ⟨fun _ => rfl, fun _ => ⟨k, by omega, hk, h.symm⟩⟩
  · rename_i h
    rw [met_iff]
    refine ⟨fun ⟨j, h1, h2, h3⟩ => ⟨j, ?_, h2, h3⟩, fun ⟨j, h1, h2, h3⟩ => ⟨j, by omega, h2, h3⟩⟩
    have : j ≠ k := by rintro rfl; exact h h3.symm
    omega
theorem PermB.lo {p : Nat → Fin 256} {n : Int} {k : Nat} (h : PermB p n k) (hm : met p n k (p k).val = false) : PermB p n (k + 1) := by
  rw [← Bool.not_eq_true, met_iff] at hm
  intro i j hi hj hin hjn e
  by_cases h1 : i = k
  · by_cases h2 : j = k
    · omega
    · exact absurd ⟨j, by omega, hjn, by rw [← e, h1]⟩ hm
  · by_cases h2 : j = k
    · exact absurd ⟨i, by omega, hin, by rw [e, h2]⟩ hm
    · exact h i j (by omega) (by omega) hin hjn e
theorem not_perm_met {p : Nat → Fin 256} {n : Int} {k : Nat} (hk : k < 10) (hkn : (k : Int) < n) (hm : met p n k (p k).val = true) : ¬ IsPerm p n := by
  rintro ⟨_, _, _, hB⟩
  obtain ⟨j, h1, h2, h3⟩ := met_iff.1 hm
  have := hB j k (by omega) hk h2 hkn h3
  omega
theorem not_perm_zero {p : Nat → Fin 256} {n : Int} {k : Nat} (hk : k < 10) (hkn : n ≤ (k : Int)) (h : p k ≠ 0) : ¬ IsPerm p n := fun hp => h (hp.2.2.1.1 k hk hkn)
theorem not_perm_big {p : Nat → Fin 256} {n : Int} {k : Nat} (hk : k < 10) (hkn : (k : Int) < n) (h : n ≤ ((p k).val : Int)) : ¬ IsPerm p n := fun hp => by
  have := hp.2.2.1.2 k hk hkn
  omega
theorem not_perm_n {p : Nat → Fin 256} {n : Int} (h : ¬ (1 ≤ n ∧ n ≤ 10)) : ¬ IsPerm p n := fun hp => h ⟨hp.1, hp.2.1⟩

/-- The bytes met, as bits. -/
def bits (p : Nat → Fin 256) (n : Int) : Nat → Nat
  | 0 => 0
  | k + 1 => if (k : Int) < n then bits p n k ||| 2 ^ (p k).val else bits p n k
theorem bits_test {p : Nat → Fin 256} {n : Int} : ∀ {k : Nat} {x : Nat}, (bits p n k).testBit x = true ↔ ∃ j, j < k ∧ (j : Int) < n ∧ (p j).val = x
  | 0, x => by
    simp only [bits, Nat.zero_testBit]
    exact ⟨fun h => (Bool.false_ne_true h).elim, fun ⟨j, h, _⟩ => by omega⟩
  | k + 1, x => by
    unfold bits
    split
    · rename_i h
      rw [Nat.testBit_or, Bool.or_eq_true, bits_test, Nat.testBit_two_pow]
      simp only [decide_eq_true_eq]
      constructor
      · rintro (⟨j, h1, h2, h3⟩ | h1)
        · exact ⟨j, by omega, h2, h3⟩
        · exact ⟨k, by omega, h, h1⟩
      · rintro ⟨j, h1, h2, h3⟩
        by_cases e : j = k
        · right; rw [← e]; exact h3
        · exact .inl ⟨j, by omega, h2, h3⟩
    · rename_i h
      rw [bits_test]
      exact ⟨fun ⟨j, h1, h2, h3⟩ => ⟨j, by omega, h2, h3⟩, fun ⟨j, h1, h2, h3⟩ => ⟨j, by omega, h2, h3⟩⟩
theorem bits_lt {p : Nat → Fin 256} {n : Int} {m : Nat} (hm : n ≤ (m : Int)) : ∀ {k : Nat}, PermA p n k → bits p n k < 2 ^ m
  | 0, _ => Nat.two_pow_pos m
  | k + 1, h => by
    have h' : PermA p n k := ⟨fun i hi => h.1 i (by omega), fun i hi => h.2 i (by omega)⟩
    unfold bits
    split
    · rename_i hk
      have := h.2 k (by omega) hk
      exact Nat.or_lt_two_pow (bits_lt hm h') (Nat.pow_lt_pow_right (by omega) (by omega))
    · exact bits_lt hm h'
theorem bits_full {p : Nat → Fin 256} {m : Nat} (hm : m ≤ 10) (h : PermA p m 10) : bits p m 10 = 2 ^ m - 1 ↔ PermB p m 10 := by
  have key : (bits p m 10 = 2 ^ m - 1) ↔ ∀ x, x < m → ∃ j, j < m ∧ (p j).val = x := by
    constructor
    · intro e x hx
      have : (bits p m 10).testBit x = true := by rw [e, Nat.testBit_two_pow_sub_one]; simpa using hx
      obtain ⟨j, _, h2, h3⟩ := bits_test.1 this
      exact ⟨j, by omega, h3⟩
    · intro hs
      refine Nat.eq_of_testBit_eq fun x => ?_
      rw [Nat.testBit_two_pow_sub_one, Bool.eq_iff_iff, bits_test, decide_eq_true_iff]
      constructor
      · rintro ⟨j, h1, h2, rfl⟩
        have := h.2 j h1 h2
        omega
      · intro hx
        obtain ⟨j, h1, h2⟩ := hs x hx
        exact ⟨j, by omega, by omega, h2⟩
  rw [key]
  constructor
  · intro hs i j hi hj hin hjn e
    exact inj_of_surj (f := fun j => (p j).val) hs i j (by omega) (by omega) e
  · intro hB
    exact surj_of_inj (f := fun j => (p j).val) (fun i hi => by have := h.2 i (by omega) (by omega); omega) fun i j hi hj e => hB i j (by omega) (by omega) (by omega) (by omega) e
theorem perm_of_bits {p : Nat → Fin 256} {n : Int} (h1 : 1 ≤ n) (h2 : n ≤ 10) (h : PermA p n 10) : decide (((bits p n 10 : Nat) : Int) = 1 * 2 ^ n.toNat - 1) = isPerm p n := by
  obtain ⟨m, rfl⟩ := Int.eq_ofNat_of_zero_le (show 0 ≤ n by omega)
  have hp := Nat.two_pow_pos m
  have e : (((bits p m 10 : Nat) : Int) = 1 * 2 ^ (m : Int).toNat - 1) ↔ bits p m 10 = 2 ^ m - 1 := by
    have : ((2 ^ m : Nat) : Int) = (2 : Int) ^ m := by simp
    simp only [Int.toNat_natCast, Int.one_mul]
    rw [← this]
    omega
  rw [Bool.eq_iff_iff, decide_eq_true_iff, e, bits_full (by omega) h]
  exact ⟨fun hB => (isPerm_t ⟨h1, h2, h, hB⟩).symm, fun hh => (of_isPerm hh).2.2.2⟩
open Go Gx
theorem pow_in {b : Int} (h0 : 0 ≤ b) (h : b ≤ 10) : 1 ≤ (1 : Int) * 2 ^ b.toNat ∧ (1 : Int) * 2 ^ b.toNat ≤ 1024 := by
  have h1 := Nat.pow_le_pow_right (show 0 < 2 by omega) (show b.toNat ≤ 10 by omega)
  have h2 := Nat.two_pow_pos b.toNat
  have e : ((2 ^ b.toNat : Nat) : Int) = (2 : Int) ^ b.toNat := by simp
  rw [Int.one_mul, ← e]
  omega
theorem shl_in {b : Int} (h0 : 0 ≤ b) (h : b ≤ 10) : inR .i64 (1 * 2 ^ b.toNat) := by
  have := pow_in h0 h
  exact ⟨by omega, by omega⟩
theorem shl_in1 {b : Int} (h0 : 0 ≤ b) (h : b ≤ 10) : inR .i64 (1 * 2 ^ b.toNat - 1) := by
  have := pow_in h0 h
  exact ⟨by omega, by omega⟩
theorem p_or_bits {E : Gx.Env} {s : Gx.St} {dst : Option Nat} {ty : TypeId} {ps : String} {af : Array Edge} {gd : Option (Nat × Bool)} {x y : Operand} {T T' : TypeId} {p : Nat → Fin 256} {n : Int} {k : Nat} (hx : evI s x = some (.i64, ((bits p n k : Nat) : Int))) (hy : evI s y = some (.i64, 1 * 2 ^ (((p k).val : Nat) : Int).toNat)) (hA : PermA p n k) (hn : n ≤ 10) (hk : (k : Int) < n)
    (hp : ((p k).val : Int) < n) : Pt E ⟨dst, .binOp .or T x y T', ty, ps, af, gd⟩ s (.int .i64 ((bits p n (k + 1) : Nat) : Int)) := by
  have h1 := pow_in (b := (((p k).val : Nat) : Int)) (by omega) (by omega)
  have h2 := bits_lt (m := 10) (by omega) hA
  have h3 := bits_lt (m := 10) (by omega) (hA.lo hk hp)
  have e : ((bits p n (k + 1) : Nat) : Int) = (((((bits p n k : Nat) : Int).toNat ||| ((1 : Int) * 2 ^ (((p k).val : Nat) : Int).toNat).toNat : Nat)) : Int) := by
    have : ((1 : Int) * 2 ^ (((p k).val : Nat) : Int).toNat).toNat = 2 ^ (p k).val := by
      have e : ((2 ^ (p k).val : Nat) : Int) = (2 : Int) ^ (p k).val := by simp
      rw [Int.one_mul, Int.toNat_natCast, ← e, Int.toNat_natCast]
    rw [this, Int.toNat_natCast]
    show ((if (k : Int) < n then bits p n k ||| 2 ^ (p k).val else bits p n k : Nat) : Int) = _
    rw [if_pos hk]
  have hr : inR .i64 ((bits p n (k + 1) : Nat) : Int) := ⟨by omega, by omega⟩
  rw [e] at hr ⊢
  exact p_or hx hy (by omega) (by omega) ⟨by omega, by omega⟩ ⟨by omega, by omega⟩ hr
theorem bits_hi {p : Nat → Fin 256} {n : Int} {k : Nat} (hk : n ≤ (k : Int)) : ((bits p n k : Nat) : Int) = ((bits p n (k + 1) : Nat) : Int) := by
  show _ = ((if (k : Int) < n then bits p n k ||| 2 ^ (p k).val else bits p n k : Nat) : Int)
  rw [if_neg (by omega)]
end Go.Proofs.Ytjihhcjpbcmjaaa
namespace Go.Proofs.Ytjihhcjpbcmjaaa
open Go Gx
set_option linter.unusedVariables false
/-- A permutation turned round: after k steps. -/
def backT (p : Nat → Fin 256) : Nat → Nat → Fin 256
  | 0 => fun _ => 0
  | k + 1 => fun j => if j = (p k).val then Fin.ofNat 256 k else backT p k j
def thenT (p q : Nat → Fin 256) (k : Nat) : Nat → Fin 256 := fun j => if j < k then q (p j).val else 0
theorem perm_lt {p : Nat → Fin 256} {n : Int} {i : Nat} (h : IsPerm p n) (hi : (i : Int) < n) : ((p i).val : Int) < n ∧ n ≤ 10 := ⟨h.2.2.1.2 i (by have := h.2.1; omega) hi, h.2.1⟩
end Go.Proofs.Ytjihhcjpbcmjaaa
namespace Go.Proofs.Ytjihhcjpbcmjaaa
open Go Gx
set_option linter.unusedVariables false
/-- A table of m columns filled up to row x, column y. -/
def part (m : Nat) (g : Nat → Nat → Fin 256) (x y : Nat) : Nat → Fin 256 := fun k => if (k / 10 < x ∧ k % 10 < m) ∨ (k / 10 = x ∧ k % 10 < y) then g (k / 10) (k % 10) else 0
theorem part_zero {m : Nat} {g : Nat → Nat → Fin 256} (k : Nat) : part m g 0 0 k = 0 := by simp [part]
theorem part_step {m : Nat} {g : Nat → Nat → Fin 256} {x y : Nat} (hy : y < 10) (k : Nat) : (if k = 10 * x + y then g x y else part m g x y k) = part m g x (y + 1) k := by
  unfold part
  by_cases h : k = 10 * x + y
  · have h1 : k / 10 = x := by omega
    have h2 : k % 10 = y := by omega
    rw [if_pos h, if_pos (Or.inr ⟨h1, by omega⟩), h1, h2]
  · rw [if_neg h]
    by_cases h3 : (k / 10 < x ∧ k % 10 < m) ∨ (k / 10 = x ∧ k % 10 < y)
    · rw [if_pos h3, if_pos (h3.imp id fun h => ⟨h.1, by omega⟩)]
    · rw [if_neg h3, if_neg fun h4 => h3 (h4.imp id fun h5 => ⟨h5.1, by omega⟩)]
theorem part_row {m : Nat} {g : Nat → Nat → Fin 256} {x : Nat} (k : Nat) : part m g x m k = part m g (x + 1) 0 k := by
  unfold part
  by_cases h3 : (k / 10 < x ∧ k % 10 < m) ∨ (k / 10 = x ∧ k % 10 < m)
  · rw [if_pos h3, if_pos (Or.inl (h3.elim (fun h => ⟨by omega, h.2⟩) fun h => ⟨by omega, h.2⟩))]
  · rw [if_neg h3, if_neg fun h4 => h3 (h4.elim (fun h => if e : k / 10 = x then .inr ⟨e, h.2⟩ else .inl ⟨by omega, h.2⟩) fun h => by omega)]
theorem mod_in {a n : Int} (h0 : 0 < n) (h1 : n ≤ 10) : 0 ≤ a % n ∧ a % n < 10 := by
  have h2 := Int.emod_nonneg a (show n ≠ 0 by omega)
  have h3 := Int.emod_lt_of_pos a h0
  omega
def cyc (n : Int) (x y : Nat) : Fin 256 := Fin.ofNat 256 (((x : Int) + (y : Int)) % n).toNat
def elm (x y : Nat) : Fin 256 := Fin.ofNat 256 (x ^^^ y)
theorem mod_u8 {a n : Int} (h0 : 0 < n) (h1 : n ≤ 10) : inR .u8 (a % n) := by
  have := mod_in (a := a) h0 h1
  exact ⟨by omega, by omega⟩
theorem mod_st {a n : Int} {e : Nat} (h0 : 0 < n) (h1 : n ≤ 10) (h : e < 100) : e < 100 ∧ 0 ≤ a % n ∧ a % n < 256 := by
  have := mod_in (a := a) h0 h1
  exact ⟨h, by omega, by omega⟩
theorem xor_lt8 {x y : Nat} (hx : x < 8) (hy : y < 8) : x ^^^ y < 8 := Nat.xor_lt_two_pow (n := 3) hx hy
theorem xor_in {x y : Nat} (hx : x < 8) (hy : y < 8) : inR .i64 ((((x : Int).toNat ^^^ (y : Int).toNat : Nat)) : Int) := by
  have : ((((x : Int).toNat ^^^ (y : Int).toNat : Nat)) : Int) = ((x ^^^ y : Nat) : Int) := rfl
  have h := xor_lt8 hx hy
  rw [this]
  exact ⟨by omega, by omega⟩
theorem xor_u8 {x y : Nat} (hx : x < 8) (hy : y < 8) : inR .u8 ((((x : Int).toNat ^^^ (y : Int).toNat : Nat)) : Int) := by
  have : ((((x : Int).toNat ^^^ (y : Int).toNat : Nat)) : Int) = ((x ^^^ y : Nat) : Int) := rfl
  have h := xor_lt8 hx hy
  rw [this]
  exact ⟨by omega, by omega⟩
theorem xor_st {x y e : Nat} (hx : x < 8) (hy : y < 8) (h : e < 100) : e < 100 ∧ 0 ≤ ((((x : Int).toNat ^^^ (y : Int).toNat : Nat)) : Int) ∧ ((((x : Int).toNat ^^^ (y : Int).toNat : Nat)) : Int) < 256 := by
  have := xor_u8 hx hy
  exact ⟨h, this.1, by have := this.2; omega⟩
theorem pow3 {k : Int} (h : 0 ≤ k ∧ k ≤ 3) : 1 ≤ (1 : Int) * 2 ^ k.toNat ∧ (1 : Int) * 2 ^ k.toNat ≤ 8 := by
  have h1 := Nat.pow_le_pow_right (show 0 < 2 by omega) (show k.toNat ≤ 3 by omega)
  have h2 := Nat.two_pow_pos k.toNat
  have e : ((2 ^ k.toNat : Nat) : Int) = (2 : Int) ^ k.toNat := by simp
  rw [Int.one_mul, ← e]
  omega
end Go.Proofs.Ytjihhcjpbcmjaaa
namespace Go.Proofs.Ytjihhcjpbcmjaaa
open Go Gx
set_option linter.unusedVariables false
def rowOf (t : Nat → Fin 256) (x : Nat) : Nat → Fin 256 := fun j => t (10 * x + j)
def colOf (t : Nat → Fin 256) (x : Nat) : Nat → Fin 256 := fun j => t (10 * j + x)
def turned (t : Nat → Fin 256) : Nat → Fin 256 := fun k => t (10 * (k % 10) + k / 10)
def RowP (t : Nat → Fin 256) (n : Int) (x : Nat) : Prop := ((x : Int) < n → IsPerm (rowOf t x) n) ∧ (n ≤ (x : Int) → ∀ j, j < 10 → rowOf t x j = 0)
def RowsP (t : Nat → Fin 256) (n : Int) : Prop := ∀ x, x < 10 → RowP t n x
noncomputable def rowsOk (t : Nat → Fin 256) (n : Int) : Bool := @decide (RowsP t n) (Classical.propDecidable _)
theorem rowsOk_t {t : Nat → Fin 256} {n : Int} (h : RowsP t n) : true = rowsOk t n := (@decide_eq_true _ (Classical.propDecidable _) h).symm
theorem rowsOk_f {t : Nat → Fin 256} {n : Int} (h : ¬ RowsP t n) : false = rowsOk t n := (@decide_eq_false _ (Classical.propDecidable _) h).symm
theorem of_rowsOk {t : Nat → Fin 256} {n : Int} (h : rowsOk t n = true) : RowsP t n := @of_decide_eq_true _ (Classical.propDecidable _) h
/-- A Latin square of order n, nothing beside it. -/
def SqP (n : Int) (t : Nat → Fin 256) : Prop := (1 ≤ n ∧ n ≤ 10) ∧ RowsP t n ∧ RowsP (turned t) n
noncomputable def isSq (n : Int) (t : Nat → Fin 256) : Bool := @decide (SqP n t) (Classical.propDecidable _)
theorem isSq_t {t : Nat → Fin 256} {n : Int} (h : SqP n t) : true = isSq n t := (@decide_eq_true _ (Classical.propDecidable _) h).symm
theorem of_isSq {t : Nat → Fin 256} {n : Int} (h : isSq n t = true) : SqP n t := @of_decide_eq_true _ (Classical.propDecidable _) h
theorem isSq_eq {t : Nat → Fin 256} {n : Int} : isSq n t = (decide (1 ≤ n ∧ n ≤ 10) && (rowsOk t n && rowsOk (turned t) n)) := by
  rw [Bool.eq_iff_iff]
  simp only [Bool.and_eq_true, decide_eq_true_eq]
  exact ⟨fun h => ⟨(of_isSq h).1, (rowsOk_t (of_isSq h).2.1).symm, (rowsOk_t (of_isSq h).2.2).symm⟩, fun ⟨h1, h2, h3⟩ => (isSq_t ⟨h1, of_rowsOk h2, of_rowsOk h3⟩).symm⟩
theorem not_rows_perm {t : Nat → Fin 256} {n : Int} {x : Nat} (hx : x < 10) (h : (x : Int) < n) (hp : isPerm (rowOf t x) n = false) : ¬ RowsP t n := fun hr => not_isPerm hp ((hr x hx).1 h)
theorem not_rows_zero {t : Nat → Fin 256} {n : Int} {x : Nat} (hx : x < 10) (h : n ≤ (x : Int)) (hp : ¬ ∀ j, j < 10 → rowOf t x j = 0) : ¬ RowsP t n := fun hr => hp ((hr x hx).2 h)
theorem rowOf_turned {t : Nat → Fin 256} {x j : Nat} (hj : j < 10) : rowOf (turned t) x j = colOf t x j := by
  unfold rowOf turned colOf
  congr 1
  omega
/-- A table turned, filled up to column x, place y. -/
def partT (t : Nat → Fin 256) (x y : Nat) : Nat → Fin 256 := fun k => if k % 10 < x ∨ (k % 10 = x ∧ k / 10 < y) then turned t k else 0
theorem partT_zero {t : Nat → Fin 256} (k : Nat) : partT t 0 0 k = 0 := by simp [partT]
theorem partT_step {t : Nat → Fin 256} {x y : Nat} (hx : x < 10) (k : Nat) : (if k = 10 * y + x then t (10 * x + y) else partT t x y k) = partT t x (y + 1) k := by
  unfold partT
  by_cases h : k = 10 * y + x
  · have h1 : k % 10 = x := by omega
    have h2 : k / 10 = y := by omega
    rw [if_pos h, if_pos (Or.inr ⟨h1, by omega⟩)]
    unfold turned
    rw [h1, h2]
  · rw [if_neg h]
    by_cases h3 : k % 10 < x ∨ (k % 10 = x ∧ k / 10 < y)
    · rw [if_pos h3, if_pos (h3.imp id fun h => ⟨h.1, by omega⟩)]
    · rw [if_neg h3, if_neg fun h4 => h3 (h4.imp id fun h5 => ⟨h5.1, by omega⟩)]
theorem partT_row {t : Nat → Fin 256} {x : Nat} (k : Nat) (hk : k < 100) : partT t x 10 k = partT t (x + 1) 0 k := by
  unfold partT
  by_cases h3 : k % 10 < x ∨ (k % 10 = x ∧ k / 10 < 10)
  · rw [if_pos h3, if_pos (Or.inl (by omega))]
  · rw [if_neg h3, if_neg (by omega)]
theorem partT_all {t : Nat → Fin 256} (k : Nat) : partT t 10 0 k = turned t k := by
  unfold partT
  rw [if_pos (Or.inl (by omega))]

/-! ### The other way: row by row and column by column at once -/
/-- Row x and column x up to place k are as a square's. -/
def XA (t : Nat → Fin 256) (n : Int) (x k : Nat) : Prop :=
  ((x : Int) < n → PermA (rowOf t x) n k ∧ ∀ y : Nat, y < k → (y : Int) < n → ((colOf t x y).val : Int) < n) ∧ (n ≤ (x : Int) → ∀ y, y < k → rowOf t x y = 0)
theorem XA.zero {t : Nat → Fin 256} {n : Int} {x : Nat} : XA t n x 0 := ⟨fun _ => ⟨PermA.zero, fun _ h => by omega⟩, fun _ _ h => by omega⟩
end Go.Proofs.Ytjihhcjpbcmjaaa
namespace Go.Proofs.Ytjihhcjpbcmjaaa
open Go Gx
set_option linter.unusedVariables false
theorem val_ofNat {v : Fin 256} {x : Nat} (h : x < 256) (e : v = Fin.ofNat 256 x) : (v.val : Int) = (x : Int) := by rw [e, ofNat_val h]
end Go.Proofs.Ytjihhcjpbcmjaaa
namespace Go.Proofs.Ytjihhcjpbcmjaaa
open Go Gx
set_option linter.unusedVariables false
theorem sq_row {n : Int} {t : Nat → Fin 256} (h : SqP n t) {x : Nat} (hx : (x : Int) < n) : IsPerm (rowOf t x) n := (h.2.1 x (by have := h.1; omega)).1 hx
theorem sq_col {n : Int} {t : Nat → Fin 256} (h : SqP n t) {x : Nat} (hx : (x : Int) < n) : IsPerm (rowOf (turned t) x) n := (h.2.2 x (by have := h.1; omega)).1 hx
theorem sq_lt {n : Int} {t : Nat → Fin 256} (h : SqP n t) {x y : Nat} (hx : (x : Int) < n) (hy : (y : Int) < n) : ((t (10 * x + y)).val : Int) < n := (sq_row h hx).2.2.1.2 y (by have := h.1; omega) hy
theorem sq_zr {n : Int} {t : Nat → Fin 256} (h : SqP n t) {x y : Nat} (hx : n ≤ (x : Int)) (hx2 : x < 10) (hy : y < 10) : t (10 * x + y) = 0 := (h.2.1 x hx2).2 hx y hy
theorem sq_zc {n : Int} {t : Nat → Fin 256} (h : SqP n t) {x y : Nat} (hx : x < 10) (hy : n ≤ (y : Int)) (hy2 : y < 10) : t (10 * x + y) = 0 := by
  by_cases hxn : (x : Int) < n
  · exact (sq_row h hxn).2.2.1.1 y hy2 hy
  · exact sq_zr h (by omega) hx hy2
theorem col_all {n : Int} {t : Nat → Fin 256} (h : SqP n t) {y : Nat} (hy : y < 10) {j : Nat} (hj : j < 10) : (if j < n.toNat then t (10 * j + y) else 0) = colOf t y j := by
  split
  · rfl
  · exact (sq_zr h (by omega) hj hy).symm
end Go.Proofs.Ytjihhcjpbcmjaaa
namespace Go.Proofs.Ytjihhcjpbcmjaaa
open Go Gx
set_option linter.unusedVariables false
end Go.Proofs.Ytjihhcjpbcmjaaa
