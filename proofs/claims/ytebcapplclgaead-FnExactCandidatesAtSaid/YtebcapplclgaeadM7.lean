/- Plain facts on loops: codes, orders of elements; no program in sight, conditions in the statements. -/
import Derived.Test.YtebcapplclgaeadM6
namespace Go.Proofs.Ytebcapplclgaead
open Go Gx
set_option linter.unusedVariables false
/-- A loop with the unit 0. -/
noncomputable def isLp (n : Int) (t : Nat → Fin 256) : Bool := isSq n t && allB n.toNat (unitP t 0)
theorem lp_sq {n : Int} {t : Nat → Fin 256} (h : isLp n t = true) : SqP n t := of_isSq (by unfold isLp at h; rw [Bool.and_eq_true] at h; exact h.1)
theorem lp_unit {n : Int} {t : Nat → Fin 256} (h : isLp n t = true) : ∀ j, j < n.toNat → unitP t 0 j := of_allB (by unfold isLp at h; rw [Bool.and_eq_true] at h; exact h.2)
theorem lp_x00 {n : Int} {t : Nat → Fin 256} {x : Fin 256} {h h' : 0 < 256} : code2 (isLp n t) ([x, ⟨0, h⟩, ⟨0, h'⟩].all (ltn n)) = code2 (isLp n t) ([x].all (ltn n)) := by
  cases hs : isLp n t with
  | false => rfl
  | true =>
    have := (lp_sq hs).1
    have e : ltn n ⟨0, h⟩ = true := by simp [ltn]; omega
    simp only [List.all_cons, List.all_nil, e, Bool.and_true, Bool.true_and]
theorem lp_xy0 {n : Int} {t : Nat → Fin 256} {x y : Fin 256} {h : 0 < 256} : code2 (isLp n t) ([x, y, ⟨0, h⟩].all (ltn n)) = code2 (isLp n t) ([x, y].all (ltn n)) := by
  cases hs : isLp n t with
  | false => rfl
  | true =>
    have := (lp_sq hs).1
    have e : ltn n ⟨0, h⟩ = true := by simp [ltn]; omega
    simp only [List.all_cons, List.all_nil, e, Bool.and_true, Bool.true_and]
theorem ltn_3 {n : Int} {x y z : Fin 256} (h : [x, y, z].all (ltn n) = true) : (x.val : Int) < n ∧ (y.val : Int) < n ∧ (z.val : Int) < n := by simpa [ltn] using h
theorem three_f {n : Int} {x y z : Fin 256} (h : n ≤ (x.val : Int) ∨ n ≤ (y.val : Int) ∨ n ≤ (z.val : Int)) : [x, y, z].all (ltn n) = false := by
  simp only [List.all_cons, List.all_nil, Bool.and_true, ltn, Bool.and_eq_false_iff, decide_eq_false_iff_not]
  omega
theorem three_t {n : Int} {x y z : Fin 256} (h : (x.val : Int) < n ∧ (y.val : Int) < n ∧ (z.val : Int) < n) : [x, y, z].all (ltn n) = true := by
  simp [ltn, h.1, h.2.1, h.2.2]
/-- x, f x, f (f x), .. -/
def nth (f : Fin 256 → Fin 256) (x : Fin 256) : Nat → Fin 256
  | 0 => x
  | k + 1 => f (nth f x k)
def mulX (t : Nat → Fin 256) (x : Fin 256) : Fin 256 → Fin 256 := fun v => t (10 * x.val + v.val)
theorem nth_lt {n : Int} {t : Nat → Fin 256} (h : SqP n t) {x : Fin 256} (hx : (x.val : Int) < n) : ∀ k, ((nth (mulX t x) x k).val : Int) < n
  | 0 => hx
  | k + 1 => sq_lt h hx (nth_lt h hx k)
theorem ord_ex {n : Int} {t : Nat → Fin 256} (hl : isLp n t = true) {x : Fin 256} (hx : (x.val : Int) < n) : ∃ k, k < 10 ∧ nth (mulX t x) x k = 0 := by
  have hs := lp_sq hl
  have hn := hs.1
  -- from the unit on
  have h0 : mulX t x 0 = x := Fin.ext ((lp_unit hl x.val (by omega)).2)
  have hg : ∀ k, nth (mulX t x) 0 (k + 1) = nth (mulX t x) x k := by
    intro k
    induction k with
    | zero => exact h0
    | succ k ih => show mulX t x (nth (mulX t x) 0 (k + 1)) = _; rw [ih]; rfl
  have hlt : ∀ k, ((nth (mulX t x) 0 k).val : Int) < n := by
    intro k
    cases k with
    | zero => show ((0 : Fin 256).val : Int) < n; simp; omega
    | succ k => rw [hg]; exact nth_lt hs hx k
  have hinj : ∀ i j, nth (mulX t x) 0 (i + 1) = nth (mulX t x) 0 (j + 1) → nth (mulX t x) 0 i = nth (mulX t x) 0 j := by
    intro i j e
    have hi := hlt i
    have hj := hlt j
    refine Fin.ext ((sq_row hs hx).2.2.2 _ _ (by omega) (by omega) hi hj ?_)
    exact congrArg Fin.val e
  have hback : ∀ d i, nth (mulX t x) 0 i = nth (mulX t x) 0 (i + d) → nth (mulX t x) 0 d = 0 := by
    intro d i
    induction i with
    | zero => intro e; rw [Nat.zero_add] at e; exact e.symm
    | succ i ih => intro e; exact ih (hinj i (i + d) (by rw [e]; congr 1; omega))
  -- two of the first n + 1 agree
  have : ∃ i j, i < j ∧ j ≤ n.toNat ∧ nth (mulX t x) 0 i = nth (mulX t x) 0 j := by
    refine Classical.byContradiction fun hno => ?_
    have h1 := nodup_map_range (fun k => (nth (mulX t x) 0 k).val) (n.toNat + 1) (by
      intro i j hi hj e
      have e' : nth (mulX t x) 0 i = nth (mulX t x) 0 j := Fin.ext e
      rcases Nat.lt_trichotomy i j with h | h | h
      · exact absurd ⟨i, j, h, by omega, e'⟩ hno
      · exact h
      · exact absurd ⟨j, i, h, by omega, e'.symm⟩ hno)
    have h2 := length_le_of_subset h1 (m := List.range n.toNat) (by
      intro v hv
      obtain ⟨k, _, rfl⟩ := List.mem_map.1 hv
      have := hlt k
      exact List.mem_range.2 (by omega))
    simp at h2
    omega
  obtain ⟨i, j, hij, hj, e⟩ := this
  have hd := hback (j - i) i (by rw [e]; congr 1; omega)
  refine ⟨j - i - 1, by omega, ?_⟩
  rw [← hg, show j - i - 1 + 1 = j - i by omega]
  exact hd
/-- The order of x. -/
def ordN (t : Nat → Fin 256) (x : Fin 256) : Nat := lq (fun k => nth (mulX t x) x k) 0 + 1
theorem ordN_eq {t : Nat → Fin 256} {x : Fin 256} {k : Nat} (hk : k < 10) (h : nth (mulX t x) x k = 0) (hm : ∀ j, j < k → ¬ nth (mulX t x) x j = 0) : ordN t x = k + 1 := by
  unfold ordN
  rw [lq_eq hk h hm]
theorem nth0_lt {n : Int} {t : Nat → Fin 256} (h : SqP n t) {x : Fin 256} (hx : (x.val : Int) < n) : ∀ k, ((nth (mulX t x) 0 k).val : Int) < n
  | 0 => by have := h.1; show ((0 : Nat) : Int) < n; omega
  | k + 1 => sq_lt h hx (nth0_lt h hx k)
theorem ord_pos {t : Nat → Fin 256} {x : Fin 256} : 0 < ((ordN t x : Nat) : Int) := by unfold ordN; omega
theorem code2_and {a b c : Bool} : (a && (b && c)) = ((a && b) && c) := by cases a <;> cases b <;> cases c <;> rfl
theorem code2_0 {a b : Bool} (ha : a = true) (hb : b = true) : code2 a b = 0 := by rw [ha, hb]; rfl
theorem ord_le {n : Int} {t : Nat → Fin 256} (hl : isLp n t = true) {x : Fin 256} (hx : (x.val : Int) < n) : ((ordN t x : Nat) : Int) ≤ 10 := by
  obtain ⟨k, hk, h⟩ := ord_ex hl hx
  unfold ordN lq
  cases h2 : (List.range 10).find? fun y => decide (nth (mulX t x) x y = 0) with
  | none => simp
  | some y =>
    have := List.mem_of_find?_eq_some h2
    simp at this
    simp
    omega
theorem pwa {a b c : Bool} (h : code2 a b = 0) (hc : c = false) : (a && (b && c)) = false ∧ code2 a (b && c) = 2 := by
  have := code2_eq h
  rw [this.1, this.2, hc]; exact ⟨rfl, rfl⟩
theorem pwb {a b c : Bool} (h : code2 a b = 0) (hc : c = true) : (a && (b && c)) = true ∧ code2 a (b && c) = 0 := by
  have := code2_eq h
  rw [this.1, this.2, hc]; exact ⟨rfl, rfl⟩
theorem pwc {a b c : Bool} (h : ¬ code2 a b = 0) : (a && (b && c)) = false ∧ code2 a (b && c) = code2 a b := by
  cases a <;> cases b <;> simp [code2] at h ⊢
end Go.Proofs.Ytebcapplclgaead
