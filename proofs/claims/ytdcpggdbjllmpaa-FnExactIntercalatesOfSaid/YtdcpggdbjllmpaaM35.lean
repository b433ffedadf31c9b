/- Intercalates, as lists. No conditions but those in the statements. -/
import Derived.Test.YtdcpggdbjllmpaaM7
namespace Go.Proofs.Ytdcpggdbjllmpaa
open Gx
set_option linter.unusedVariables false
def icT (t : Nat → Fin 256) (a b c d : Nat) : Bool := decide (t (10 * a + c) = t (10 * b + d)) && decide (t (10 * a + d) = t (10 * b + c))
def icE (a b c d : Nat) : List Int := [(a : Int), (b : Int), (c : Int), (d : Int)]
def icD (t : Nat → Fin 256) (a b c : Nat) : Nat → List (List Int)
  | 0 => []
  | d + 1 => icD t a b c d ++ (if c < d ∧ icT t a b c d = true then [icE a b c d] else [])
def icC (t : Nat → Fin 256) (m a b : Nat) : Nat → List (List Int)
  | 0 => []
  | c + 1 => icC t m a b c ++ icD t a b c m
def icB (t : Nat → Fin 256) (m a : Nat) : Nat → List (List Int)
  | 0 => []
  | b + 1 => icB t m a b ++ (if a < b then icC t m a b m else [])
def icA (t : Nat → Fin 256) (m : Nat) : Nat → List (List Int)
  | 0 => []
  | a + 1 => icA t m a ++ icB t m a m
theorem icD_y {t : Nat → Fin 256} {a b c d : Nat} (h : c < d) (h2 : icT t a b c d = true) : icD t a b c (d + 1) = icD t a b c d ++ [icE a b c d] := by
  show _ ++ (if _ then _ else _) = _; rw [if_pos ⟨h, h2⟩]
theorem icD_n {t : Nat → Fin 256} {a b c d : Nat} (h : ¬ (c < d ∧ icT t a b c d = true)) : icD t a b c (d + 1) = icD t a b c d := by
  show _ ++ (if _ then _ else _) = _; rw [if_neg h, List.append_nil]
theorem icB_y {t : Nat → Fin 256} {m a b : Nat} (h : a < b) : icB t m a (b + 1) = icB t m a b ++ icC t m a b m := by
  show _ ++ (if _ then _ else _) = _; rw [if_pos h]
theorem icB_n {t : Nat → Fin 256} {m a b : Nat} (h : ¬ a < b) : icB t m a (b + 1) = icB t m a b := by
  show _ ++ (if _ then _ else _) = _; rw [if_neg h, List.append_nil]
theorem icD_0 {t : Nat → Fin 256} {a b c : Nat} : ∀ d, d ≤ c + 1 → icD t a b c d = []
  | 0, _ => rfl
  | d + 1, h => by rw [icD_n (by omega), icD_0 d (by omega)]
theorem icB_0 {t : Nat → Fin 256} {m a : Nat} : ∀ b, b ≤ a + 1 → icB t m a b = []
  | 0, _ => rfl
  | b + 1, h => by rw [icB_n (by omega), icB_0 b (by omega)]
theorem icD_len {t : Nat → Fin 256} {a b c : Nat} : ∀ d, (icD t a b c d).length ≤ d
  | 0 => Nat.le_refl _
  | d + 1 => by
    have := icD_len (t := t) (a := a) (b := b) (c := c) d
    simp only [icD, List.length_append]; split <;> simp <;> omega
theorem icC_len {t : Nat → Fin 256} {m a b : Nat} (hm : m ≤ 10) : ∀ c, (icC t m a b c).length ≤ 10 * c
  | 0 => Nat.le_refl _
  | c + 1 => by
    have := icC_len (t := t) (m := m) (a := a) (b := b) hm c
    have := icD_len (t := t) (a := a) (b := b) (c := c) m
    simp only [icC, List.length_append]; omega
theorem icB_len {t : Nat → Fin 256} {m a : Nat} (hm : m ≤ 10) : ∀ b, (icB t m a b).length ≤ 100 * b
  | 0 => Nat.le_refl _
  | b + 1 => by
    have := icB_len (t := t) (m := m) (a := a) hm b
    have := icC_len (t := t) (m := m) (a := a) (b := b) hm m
    simp only [icB, List.length_append]; split <;> simp <;> omega
theorem icA_len {t : Nat → Fin 256} {m : Nat} (hm : m ≤ 10) : ∀ a, (icA t m a).length ≤ 1000 * a
  | 0 => Nat.le_refl _
  | a + 1 => by
    have := icA_len (t := t) (m := m) hm a
    have := icB_len (t := t) (m := m) (a := a) hm m
    simp only [icA, List.length_append]; omega
theorem icD_4 {t : Nat → Fin 256} {a b c : Nat} : ∀ d, ∀ l ∈ icD t a b c d, l.length ≤ 10
  | 0, l, h => by simp [icD] at h
  | d + 1, l, h => by
    simp only [icD, List.mem_append] at h
    rcases h with h | h
    · exact icD_4 d l h
    · split at h
      · rw [List.mem_singleton.1 h]; simp [icE]
      · simp at h
theorem icC_4 {t : Nat → Fin 256} {m a b : Nat} : ∀ c, ∀ l ∈ icC t m a b c, l.length ≤ 10
  | 0, l, h => by simp [icC] at h
  | c + 1, l, h => by
    simp only [icC, List.mem_append] at h
    rcases h with h | h
    · exact icC_4 c l h
    · exact icD_4 m l h
theorem icB_4 {t : Nat → Fin 256} {m a : Nat} : ∀ b, ∀ l ∈ icB t m a b, l.length ≤ 10
  | 0, l, h => by simp [icB] at h
  | b + 1, l, h => by
    simp only [icB, List.mem_append] at h
    rcases h with h | h
    · exact icB_4 b l h
    · split at h
      · exact icC_4 m l h
      · simp at h
theorem icA_4 {t : Nat → Fin 256} {m : Nat} : ∀ a, ∀ l ∈ icA t m a, l.length ≤ 10
  | 0, l, h => by simp [icA] at h
  | a + 1, l, h => by
    simp only [icA, List.mem_append] at h
    rcases h with h | h
    · exact icA_4 a l h
    · exact icB_4 m l h
noncomputable def icS (n : Int) (t : Nat → Fin 256) : List (List Int) := bif isSq n t then icA t n.toNat n.toNat else []
theorem icS_t {n : Int} {t : Nat → Fin 256} (h : isSq n t = true) : icS n t = icA t n.toNat n.toNat := by simp [icS, h]
theorem icS_f {n : Int} {t : Nat → Fin 256} (h : isSq n t = false) : icS n t = [] := by simp [icS, h]
theorem icS_b (n : Int) (t : Nat → Fin 256) : (icS n t).length ≤ 100000 ∧ ∀ l ∈ icS n t, l.length ≤ 10 := by
  cases h : isSq n t with
  | false => rw [icS_f h]; simp
  | true =>
    have hn := (of_isSq h).1
    rw [icS_t h]
    have := icA_len (t := t) (m := n.toNat) (by omega) n.toNat
    exact ⟨by omega, icA_4 _⟩
/-- What lies before a place. -/
def icP (t : Nat → Fin 256) (m a b c d : Nat) : List (List Int) := icA t m a ++ icB t m a b ++ icC t m a b c ++ icD t a b c d
theorem icP_len {t : Nat → Fin 256} {m a b c d : Nat} (hm : m ≤ 10) (ha : a ≤ 10) (hb : b ≤ 10) (hc : c ≤ 10) (hd : d ≤ 10) : (icP t m a b c d).length ≤ 12000 := by
  have h1 := icA_len (t := t) hm a
  have h2 := icB_len (t := t) (a := a) hm b
  have h3 := icC_len (t := t) (a := a) (b := b) hm c
  have h4 := icD_len (t := t) (a := a) (b := b) (c := c) d
  simp only [icP, List.length_append]; omega
theorem icP_0 {t : Nat → Fin 256} {m : Nat} : icP t m 0 0 0 0 = [] := rfl
theorem icP_y {t : Nat → Fin 256} {m a b c d : Nat} (h : c < d) (h2 : icT t a b c d = true) : icP t m a b c (d + 1) = icP t m a b c d ++ [icE a b c d] := by
  unfold icP; rw [icD_y h h2]; simp only [List.append_assoc]
theorem icP_n {t : Nat → Fin 256} {m a b c d : Nat} (h : ¬ (c < d ∧ icT t a b c d = true)) : icP t m a b c (d + 1) = icP t m a b c d := by
  unfold icP; rw [icD_n h]
theorem icP_d {t : Nat → Fin 256} {m a b c : Nat} : icP t m a b (c + 1) 0 = icP t m a b c m := by
  unfold icP; simp only [icC, icD, List.append_assoc, List.append_nil]
theorem icP_c {t : Nat → Fin 256} {m a b : Nat} (h : a < b) : icP t m a (b + 1) 0 0 = icP t m a b m 0 := by
  unfold icP; rw [icB_y h]; simp only [icC, icD, List.append_assoc, List.append_nil]
theorem icP_cn {t : Nat → Fin 256} {m a b : Nat} (h : ¬ a < b) : icP t m a (b + 1) 0 0 = icP t m a b 0 0 := by
  unfold icP; rw [icB_n h]; simp only [icC, icD, List.append_nil]
theorem icP_b {t : Nat → Fin 256} {m a : Nat} : icP t m (a + 1) 0 0 0 = icP t m a m 0 0 := by
  unfold icP; simp only [icA, icB, icC, icD, List.append_assoc, List.append_nil]
/-- The reference begins behind the first two. -/
theorem icP_d1 {t : Nat → Fin 256} {m a b c : Nat} : icP t m a b c (c + 1) = icP t m a b c 0 := by
  unfold icP; rw [icD_0 (c + 1) (Nat.le_refl _)]; rfl
theorem icP_b1 {t : Nat → Fin 256} {m a : Nat} : icP t m a (a + 1) 0 0 = icP t m a 0 0 0 := by
  unfold icP; rw [icB_0 (a + 1) (Nat.le_refl _)]; rfl
theorem icP_end {t : Nat → Fin 256} {m : Nat} : icP t m m 0 0 0 = icA t m m := by
  unfold icP; simp only [icB, icC, icD, List.append_nil]
end Go.Proofs.Ytdcpggdbjllmpaa
