/- What is folded out of a term, and the text of a term. No conditions but those in the statements. -/
import Derived.Test.YtdcpggdbjllmpaaM13
namespace Go.Proofs.Ytdcpggdbjllmpaa
open Gx
set_option linter.unusedVariables false
theorem leaf_noop {c : Fin 256} (h : leafB c = true) : operB c = false := by
  unfold leafB at h; unfold operB
  rw [decide_eq_true_eq] at h
  rw [decide_eq_false_iff_not]; omega
theorem op_noleaf {c : Fin 256} (h : operB c = true) : leafB c = false := by
  cases hl : leafB c with
  | false => rfl
  | true => rw [leaf_noop hl] at h; cases h
theorem leaf_128 {c : Fin 256} (h : leafB c = true) : c.val < 128 := by
  unfold leafB at h; rw [decide_eq_true_eq] at h; omega
theorem op_128 {c : Fin 256} (h : operB c = true) : c.val < 128 := by
  unfold operB at h; rw [decide_eq_true_eq] at h; omega
theorem term_dep {l : List (Fin 256)} (h : isTerm l = true) {i : Nat} (hi : i ≤ l.length) : ∃ d, dep l i = some d := by
  cases hd : dep l i with
  | some d => exact ⟨d, rfl⟩
  | none =>
    have h1 := dep_none hd hi
    simp [isTerm, h1] at h
theorem term_len {l : List (Fin 256)} (h : isTerm l = true) : l.length ≤ 40 := by
  simp [isTerm] at h; exact h.2
theorem term_end {l : List (Fin 256)} (h : isTerm l = true) : dep l l.length = some 1 := by
  simp [isTerm] at h; exact h.1
theorem term_at {l : List (Fin 256)} (h : isTerm l = true) {i d : Nat} (hi : i < l.length) (hd : dep l i = some d) : leafB (l.getD i 0) = true ∨ (operB (l.getD i 0) = true ∧ 2 ≤ d) := by
  obtain ⟨e, he⟩ := term_dep h (i := i + 1) (by omega)
  cases hl : leafB (l.getD i 0) with
  | true => exact .inl rfl
  | false =>
    right
    cases ho : operB (l.getD i 0) with
    | false => rw [dep_bad hd hl (.inl ho)] at he; cases he
    | true => exact ⟨rfl, Classical.byContradiction fun h2 => by rw [dep_bad hd hl (.inr (by omega))] at he; cases he⟩
section
variable {α : Type} (leaf : Fin 256 → α) (join : Fin 256 → α → α → α) (z : α)
def fldS (l : List (Fin 256)) : Nat → List α
  | 0 => []
  | i + 1 => bif operB (l.getD i 0) then (fldS l i).take ((fldS l i).length - 2) ++ [join (l.getD i 0) ((fldS l i).getD ((fldS l i).length - 2) z) ((fldS l i).getD ((fldS l i).length - 1) z)] else fldS l i ++ [leaf (l.getD i 0)]
variable {leaf join z}
theorem fld_leaf {l : List (Fin 256)} {i : Nat} (h : leafB (l.getD i 0) = true) : fldS leaf join z l (i + 1) = fldS leaf join z l i ++ [leaf (l.getD i 0)] := by
  simp only [fldS, leaf_noop h, cond_false]
theorem fld_op {l : List (Fin 256)} {i : Nat} (h : operB (l.getD i 0) = true) : fldS leaf join z l (i + 1) = (fldS leaf join z l i).take ((fldS leaf join z l i).length - 2) ++ [join (l.getD i 0) ((fldS leaf join z l i).getD ((fldS leaf join z l i).length - 2) z) ((fldS leaf join z l i).getD ((fldS leaf join z l i).length - 1) z)] := by
  simp only [fldS, h, cond_true]
theorem fld_len {l : List (Fin 256)} (h : isTerm l = true) : ∀ {i d : Nat}, i ≤ l.length → dep l i = some d → (fldS leaf join z l i).length = d
  | 0, d, _, hd => by simp [dep] at hd; subst hd; rfl
  | i + 1, d, hi, hd => by
    obtain ⟨e, he⟩ := term_dep h (i := i) (by omega)
    have ih := fld_len h (by omega) he
    rcases term_at h (by omega) he with hl | ⟨ho, h2⟩
    · rw [dep_leaf he hl] at hd
      rw [fld_leaf hl, List.length_append, ih]; simpa using hd
    · rw [dep_op he (op_noleaf ho) ho h2] at hd
      simp at hd
      rw [fld_op ho, List.length_append, List.length_take, ih]; simp; omega
theorem last2 {S : List α} (h : 2 ≤ S.length) : ∃ A x y, S = A ++ [x, y] ∧ S.take (S.length - 2) = A ∧ S.getD (S.length - 2) z = x ∧ S.getD (S.length - 1) z = y := by
  refine ⟨S.take (S.length - 2), S.getD (S.length - 2) z, S.getD (S.length - 1) z, ?_, rfl, rfl, rfl⟩
  have h1 : S.drop (S.length - 2) = [S.getD (S.length - 2) z, S.getD (S.length - 1) z] := by
    apply List.ext_getElem?
    intro i
    rw [List.getElem?_drop]
    rcases i with _ | _ | i
    · simp only [Nat.add_zero, List.getElem?_cons_zero, List.getD]
      rw [List.getElem?_eq_getElem (by omega)]; rfl
    · simp only [List.getElem?_cons_succ, List.getElem?_cons_zero, List.getD]
      rw [show S.length - 2 + (0 + 1) = S.length - 1 by omega, List.getElem?_eq_getElem (by omega)]; rfl
    · simp; omega
  rw [← h1, List.take_append_drop]
/-- What is true of all that leaves and joins make is true of all on the stack. -/
theorem fld_all {P : α → Prop} (h1 : ∀ c, leafB c = true → P (leaf c)) (h2 : ∀ c x y, operB c = true → P x → P y → P (join c x y)) {l : List (Fin 256)} (h : isTerm l = true) : ∀ {i : Nat}, i ≤ l.length → ∀ x ∈ fldS leaf join z l i, P x
  | 0, _, x, hx => by simp [fldS] at hx
  | i + 1, hi, x, hx => by
    have ih := fld_all (P := P) h1 h2 h (i := i) (by omega)
    obtain ⟨e, he⟩ := term_dep h (i := i) (by omega)
    rcases term_at h (by omega) he with hl | ⟨ho, hd2⟩
    · rw [fld_leaf hl, List.mem_append, List.mem_singleton] at hx
      rcases hx with hx | rfl
      · exact ih x hx
      · exact h1 _ hl
    · obtain ⟨A, a, b, e1, e2, e3, e4⟩ := last2 (z := z) (S := fldS leaf join z l i) (by rw [fld_len h (by omega) he]; exact hd2)
      rw [fld_op ho, e2, e3, e4, List.mem_append, List.mem_singleton] at hx
      rcases hx with hx | rfl
      · exact ih x (by rw [e1]; exact List.mem_append_left _ hx)
      · exact h2 _ _ _ ho (ih a (by rw [e1]; simp)) (ih b (by rw [e1]; simp))
theorem fld_get {l : List (Fin 256)} (h : isTerm l = true) {i d j : Nat} (hi : i ≤ l.length) (hd : dep l i = some d) (hj : j < d) : (fldS leaf join z l i).getD j z ∈ fldS leaf join z l i := by
  have hl := fld_len (leaf := leaf) (join := join) (z := z) h hi hd
  rw [List.getD, List.getElem?_eq_getElem (by omega)]
  exact List.getElem_mem _
end
/-- The lengths of all lists together. -/
def wtL : List (List (Fin 256)) → Nat
  | [] => 0
  | x :: r => x.length + wtL r
theorem wtL_app (a b : List (List (Fin 256))) : wtL (a ++ b) = wtL a + wtL b := by
  induction a with
  | nil => simp [wtL]
  | cons x r ih => simp [wtL, ih]; omega
theorem wtL_mem {x : List (Fin 256)} {S : List (List (Fin 256))} (h : x ∈ S) : x.length ≤ wtL S := by
  induction S with
  | nil => cases h
  | cons y r ih =>
    rcases List.mem_cons.1 h with rfl | h
    · simp [wtL]
    · have := ih h; simp [wtL]; omega
theorem fld_wt {leaf : Fin 256 → List (Fin 256)} {join : Fin 256 → List (Fin 256) → List (Fin 256) → List (Fin 256)} (h1 : ∀ c, (leaf c).length ≤ 1) (h2 : ∀ c x y, (join c x y).length ≤ x.length + y.length + 5) {l : List (Fin 256)} (h : isTerm l = true) : ∀ {i : Nat}, i ≤ l.length → wtL (fldS leaf join [] l i) ≤ 5 * i
  | 0, _ => by simp [fldS, wtL]
  | i + 1, hi => by
    have ih := fld_wt h1 h2 h (i := i) (by omega)
    obtain ⟨e, he⟩ := term_dep h (i := i) (by omega)
    rcases term_at h (by omega) he with hl | ⟨ho, hd2⟩
    · have := h1 (l.getD i 0)
      rw [fld_leaf hl, wtL_app]; simp only [wtL]; omega
    · obtain ⟨A, a, b, e1, e2, e3, e4⟩ := last2 (z := ([] : List (Fin 256))) (S := fldS leaf join [] l i) (by rw [fld_len h (by omega) he]; exact hd2)
      rw [e1, wtL_app] at ih
      rw [fld_op ho, e2, e3, e4, wtL_app]
      simp only [wtL] at ih ⊢
      have := h2 (l.getD i 0) a b
      omega
/-! ### The text -/
def prT (t : List (Fin 256)) : List (Fin 256) := if 1 < t.length then [40] ++ t ++ [41] else t
theorem prT_t {t : List (Fin 256)} (h : 1 < t.length) : prT t = [40] ++ t ++ [41] := if_pos h
theorem prT_f {t : List (Fin 256)} (h : ¬ 1 < t.length) : prT t = t := if_neg h
theorem prT_len (t : List (Fin 256)) : t.length ≤ (prT t).length ∧ (prT t).length ≤ t.length + 2 := by unfold prT; split <;> simp <;> omega
def jnT (c : Fin 256) (x y : List (Fin 256)) : List (Fin 256) := prT x ++ [c] ++ prT y
def lfT (c : Fin 256) : List (Fin 256) := [c]
abbrev stT (l : List (Fin 256)) (i : Nat) : List (List (Fin 256)) := fldS lfT jnT [] l i
def txT (l : List (Fin 256)) : List (Fin 256) := (stT l l.length).getD 0 []
theorem stT_wt {l : List (Fin 256)} (h : isTerm l = true) {i : Nat} (hi : i ≤ l.length) : wtL (stT l i) ≤ 200 := by
  have h1 := fld_wt (leaf := lfT) (join := jnT) (fun c => by simp [lfT]) (fun c x y => by
    have := prT_len x; have := prT_len y
    simp [jnT]; omega) h hi
  have := term_len h
  show wtL (fldS lfT jnT [] l i) ≤ 200
  omega
theorem stT_ne {l : List (Fin 256)} (h : isTerm l = true) {i : Nat} (hi : i ≤ l.length) : ∀ x ∈ stT l i, 1 ≤ x.length :=
  fld_all (P := fun x : List (Fin 256) => 1 ≤ x.length) (fun c _ => by simp [lfT]) (fun c x y _ hx hy => by simp [jnT]; omega) h hi
theorem stT_get {l : List (Fin 256)} (h : isTerm l = true) {i d j : Nat} (hi : i ≤ l.length) (hd : dep l i = some d) (hj : j < d) : 1 ≤ ((stT l i).getD j []).length ∧ ((stT l i).getD j []).length ≤ 200 := by
  have hm := fld_get (leaf := lfT) (join := jnT) (z := []) h hi hd hj
  exact ⟨stT_ne h hi _ hm, Nat.le_trans (wtL_mem hm) (stT_wt h hi)⟩
theorem txT_len {l : List (Fin 256)} (h : isTerm l = true) : 1 ≤ (txT l).length ∧ (txT l).length ≤ 200 := stT_get h (Nat.le_refl _) (term_end h) (by omega)
end Go.Proofs.Ytdcpggdbjllmpaa
