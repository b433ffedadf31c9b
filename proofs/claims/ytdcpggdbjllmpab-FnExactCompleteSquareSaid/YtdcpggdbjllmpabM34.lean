/- The search for completions, both ways. No conditions but those in the statements. -/
import Derived.Test.YtdcpggdbjllmpabM24
namespace Go.Proofs.Ytdcpggdbjllmpab
open Gx
set_option linter.unusedVariables false
theorem cT_out {M : SL} {i j : Nat} (hj : j < 10) (h : M.length ≤ i ∨ M.length ≤ j) : cT M (10 * i + j) = 0 := by
  have e1 : (10 * i + j) / 10 = i := by omega
  have e2 : (10 * i + j) % 10 = j := by omega
  unfold cT part
  rw [e1, e2, if_neg (by omega)]
def FullL (M : SL) : Prop := ∀ i j, i < M.length → j < M.length → 0 ≤ at2 M i j
theorem full_sq {M : SL} (h : ParL M) (hf : FullL M) : isSq ((M.length : Nat) : Int) (cT M) = true := by
  have hp := (isPar_t h).symm
  obtain ⟨h1, h2, h3, h4⟩ := h
  have hv : ∀ i j, i < M.length → j < M.length → ((cT M (10 * i + j)).val : Int) = at2 M i j := fun i j hi hj => cT_v hp hi hj (hf i j hi hj)
  refine (isSq_t ⟨by omega, fun x hx => ⟨fun hxn => ⟨by omega, by omega, ⟨fun i hi hn => ?_, fun i hi hn => ?_⟩, fun i j hi hj hin hjn e => ?_⟩, fun hxn j hj => ?_⟩, fun x hx => ⟨fun hxn => ⟨by omega, by omega, ⟨fun i hi hn => ?_, fun i hi hn => ?_⟩, fun i j hi hj hin hjn e => ?_⟩, fun hxn j hj => ?_⟩⟩).symm
  · exact cT_out hi (.inr (by omega))
  · have := hv x i (by omega) (by omega)
    have := h3 x i (by omega) (by omega)
    show ((cT M (10 * x + i)).val : Int) < _
    omega
  · have e1 := hv x i (by omega) (by omega)
    have e2 := hv x j (by omega) (by omega)
    have e3 : (cT M (10 * x + i)).val = (cT M (10 * x + j)).val := e
    rcases Nat.lt_trichotomy i j with hl | hl | hl
    · exact absurd ⟨hf x j (by omega) (by omega), by omega⟩ (h4 x j i (by omega) (by omega) hl).1
    · exact hl
    · exact absurd ⟨hf x i (by omega) (by omega), by omega⟩ (h4 x i j (by omega) (by omega) hl).1
  · exact cT_out hj (.inl (by omega))
  · rw [rowOf_turned hi]; exact cT_out hx (.inl (by omega))
  · rw [rowOf_turned hi]
    have := hv i x (by omega) (by omega)
    have := h3 i x (by omega) (by omega)
    show ((cT M (10 * i + x)).val : Int) < _
    omega
  · rw [rowOf_turned hi, rowOf_turned hj] at e
    have e1 := hv i x (by omega) (by omega)
    have e2 := hv j x (by omega) (by omega)
    have e3 : (cT M (10 * i + x)).val = (cT M (10 * j + x)).val := e
    rcases Nat.lt_trichotomy i j with hl | hl | hl
    · exact absurd ⟨hf j x (by omega) (by omega), by omega⟩ (h4 x j i (by omega) (by omega) hl).2
    · exact hl
    · exact absurd ⟨hf i x (by omega) (by omega), by omega⟩ (h4 x i j (by omega) (by omega) hl).2
  · rw [rowOf_turned hj]; exact cT_out (by omega) (.inr (by omega))
theorem gC_full {M : SL} {i j : Nat} (h : 0 ≤ at2 M i j) : gC M i j = Fin.ofNat 256 (at2 M i j).toNat := by unfold gC; rw [if_neg (by omega)]
/-! ### Elements of a list of those that fit -/
theorem filt_getD {P : Nat → Bool} : ∀ {k q : Nat}, q < (filt P k).length → ∃ v : Nat, (filt P k).getD q 0 = (v : Int) ∧ v < k ∧ P v = true
  | 0, q, h => by simp [filt] at h
  | k + 1, q, h => by
    simp only [filt] at h ⊢
    by_cases hq : q < (filt P k).length
    · obtain ⟨v, h1, h2, h3⟩ := filt_getD hq
      refine ⟨v, ?_, by omega, h3⟩
      rw [List.getD, List.getElem?_append_left hq]
      exact h1
    · cases hP : P k with
      | false => rw [hP] at h; simp at h; omega
      | true =>
        rw [hP] at h
        simp at h
        refine ⟨k, ?_, by omega, hP⟩
        rw [List.getD, List.getElem?_append_right (by omega), show q - (filt P k).length = 0 by omega]
        rfl
theorem filt_fold {α : Type} (P : Nat → Bool) (g : α → Int → α) (a : α) : ∀ m, (filt P m).foldl g a = (List.range m).foldl (fun a v => if P v = true then g a (v : Int) else a) a
  | 0 => rfl
  | m + 1 => by
    rw [List.range_succ, List.foldl_append, ← filt_fold P g a m]
    simp only [filt, List.foldl_append, List.foldl_cons, List.foldl_nil]
    cases P m <;> rfl
/-! ### The program's way -/
section
variable {Z : Type} (vis : SL → Z → Bool × Z)
noncomputable def cmpS (rc : SL → Nat × Z → Bool × Nat × Z) (M : SL) (i j : Nat) (r : Bool × Nat × Z) (v : Int) : Bool × Nat × Z :=
  if r.1 = false then r else if 20000 < r.2.1 + 1 then (false, r.2.1 + 1, r.2.2) else rc (setS M i j v) (r.2.1 + 1, r.2.2)
noncomputable def cmp : Nat → SL → Nat × Z → Bool × Nat × Z
  | 0, M, s => (!(vis M s.2).1, s.1, (vis M s.2).2)
  | k + 1, M, s => if at2 M ((M.length * M.length - (k + 1)) / M.length) ((M.length * M.length - (k + 1)) % M.length) < 0 then
      (filt (candB M ((M.length * M.length - (k + 1)) / M.length) ((M.length * M.length - (k + 1)) % M.length)) M.length).foldl (cmpS (cmp k) M ((M.length * M.length - (k + 1)) / M.length) ((M.length * M.length - (k + 1)) % M.length)) (true, s)
    else cmp k M s
/-- From position p on. -/
noncomputable def cmpP (p : Nat) (M : SL) (s : Nat × Z) : Bool × Nat × Z := cmp vis (M.length * M.length - p) M s
/-- What the first q candidates make. -/
noncomputable def cmpF (p : Nat) (M : SL) (s : Nat × Z) (q : Nat) : Bool × Nat × Z :=
  ((filt (candB M (p / M.length) (p % M.length)) M.length).take q).foldl (cmpS (cmp vis (M.length * M.length - (p + 1))) M (p / M.length) (p % M.length)) (true, s)
variable {vis}
theorem cmpP_leaf {p : Nat} {M : SL} {s : Nat × Z} (h : M.length * M.length ≤ p) : cmpP vis p M s = (!(vis M s.2).1, s.1, (vis M s.2).2) := by
  unfold cmpP; rw [show M.length * M.length - p = 0 by omega]; rfl
theorem cmpP_fill {p : Nat} {M : SL} {s : Nat × Z} (h : p < M.length * M.length) (h0 : ¬ at2 M (p / M.length) (p % M.length) < 0) : cmpP vis p M s = cmpP vis (p + 1) M s := by
  unfold cmpP
  rw [show M.length * M.length - p = (M.length * M.length - (p + 1)) + 1 by omega, cmp, show M.length * M.length - (M.length * M.length - (p + 1) + 1) = p by omega, if_neg h0]
theorem cmpP_emp {p : Nat} {M : SL} {s : Nat × Z} (h : p < M.length * M.length) (h0 : at2 M (p / M.length) (p % M.length) < 0) : cmpP vis p M s = cmpF vis p M s (filt (candB M (p / M.length) (p % M.length)) M.length).length := by
  unfold cmpP cmpF
  rw [show M.length * M.length - p = (M.length * M.length - (p + 1)) + 1 by omega, cmp, show M.length * M.length - (M.length * M.length - (p + 1) + 1) = p by omega, if_pos h0, List.take_length]
theorem cmpF_zero {p : Nat} {M : SL} {s : Nat × Z} : cmpF vis p M s 0 = (true, s) := rfl
theorem cmpF_succ {p q : Nat} {M : SL} {s : Nat × Z} (h : q < (filt (candB M (p / M.length) (p % M.length)) M.length).length) : cmpF vis p M s (q + 1) = cmpS (cmp vis (M.length * M.length - (p + 1))) M (p / M.length) (p % M.length) (cmpF vis p M s q) ((filt (candB M (p / M.length) (p % M.length)) M.length).getD q 0) := by
  unfold cmpF
  rw [List.take_add_one, List.foldl_append, List.getD, List.getElem?_eq_getElem h]
  rfl
theorem cmpS_f {rc : SL → Nat × Z → Bool × Nat × Z} {M : SL} {i j : Nat} {r : Bool × Nat × Z} {v : Int} (h : r.1 = false) : cmpS rc M i j r v = r := if_pos h
theorem cmpS_over {rc : SL → Nat × Z → Bool × Nat × Z} {M : SL} {i j t : Nat} {z : Z} {v : Int} (h : 20000 < t + 1) : cmpS rc M i j (true, t, z) v = (false, t + 1, z) := by
  unfold cmpS; rw [if_neg (by simp), if_pos h]
theorem cmpS_go {rc : SL → Nat × Z → Bool × Nat × Z} {M : SL} {i j t : Nat} {z : Z} {v : Int} (h : ¬ 20000 < t + 1) : cmpS rc M i j (true, t, z) v = rc (setS M i j v) (t + 1, z) := by
  unfold cmpS; rw [if_neg (by simp), if_neg h]
theorem cmpF_stop {p q : Nat} {M : SL} {s : Nat × Z} (h : (cmpF vis p M s q).1 = false) : ∀ k, q + k ≤ (filt (candB M (p / M.length) (p % M.length)) M.length).length → cmpF vis p M s (q + k) = cmpF vis p M s q
  | 0, _ => rfl
  | k + 1, hk => by
    rw [show q + (k + 1) = (q + k) + 1 by omega, cmpF_succ (by omega), cmpF_stop h k (by omega), cmpS_f h]
theorem cmpF_end {p q : Nat} {M : SL} {s : Nat × Z} (hq : q ≤ (filt (candB M (p / M.length) (p % M.length)) M.length).length) (h : (cmpF vis p M s q).1 = false) : cmpF vis p M s (filt (candB M (p / M.length) (p % M.length)) M.length).length = cmpF vis p M s q := by
  have := cmpF_stop h ((filt (candB M (p / M.length) (p % M.length)) M.length).length - q) (by omega)
  rwa [show q + ((filt (candB M (p / M.length) (p % M.length)) M.length).length - q) = (filt (candB M (p / M.length) (p % M.length)) M.length).length by omega] at this
theorem fold_inv {α β : Type} {Q : α → Prop} {g : α → β → α} (hg : ∀ a b, Q a → Q (g a b)) : ∀ (l : List β) (a : α), Q a → Q (l.foldl g a)
  | [], _, h => h
  | b :: l, a, h => fold_inv hg l _ (hg a b h)
/-- No more than 20000 trials where it goes on. -/
theorem cmp_le : ∀ (k : Nat) {M : SL} {t : Nat} {z : Z}, t ≤ 20000 → (cmp vis k M (t, z)).1 = true → (cmp vis k M (t, z)).2.1 ≤ 20000
  | 0, M, t, z, h, _ => h
  | k + 1, M, t, z, h, hb => by
    rw [cmp] at hb ⊢
    split at hb
    · rename_i h0
      rw [if_pos h0]
      refine fold_inv (Q := fun r : Bool × Nat × Z => r.1 = true → r.2.1 ≤ 20000) (fun r v hr hb => ?_) _ _ (fun _ => h) hb
      obtain ⟨b, t2, z2⟩ := r
      cases b with
      | false => rw [cmpS_f rfl] at hb; cases hb
      | true =>
        by_cases ho : 20000 < t2 + 1
        · rw [cmpS_over ho] at hb; cases hb
        · rw [cmpS_go ho] at hb ⊢
          exact cmp_le k (by omega) hb
    · rename_i h0
      rw [if_neg h0]
      exact cmp_le k h hb
/-- What holds of trials and results. -/
theorem cmp_ok {Q : Nat → Z → Prop} (hleaf : ∀ M t z, Q t z → Q (t + 1) (vis M z).2) (hup : ∀ t z, Q t z → Q (t + 1) z) : ∀ (k : Nat) {M : SL} {t : Nat} {z : Z}, Q t z → Q (cmp vis k M (t + 1, z)).2.1 (cmp vis k M (t + 1, z)).2.2
  | 0, M, t, z, h => hleaf M t z h
  | k + 1, M, t, z, h => by
    rw [cmp]
    split
    · refine fold_inv (Q := fun r : Bool × Nat × Z => Q r.2.1 r.2.2) (fun r v hr => ?_) _ _ (hup _ _ h)
      obtain ⟨b, t2, z2⟩ := r
      cases b with
      | false => rw [cmpS_f rfl]; exact hr
      | true =>
        by_cases ho : 20000 < t2 + 1
        · rw [cmpS_over ho]; exact hup _ _ hr
        · rw [cmpS_go ho]; exact cmp_ok hleaf hup k hr
    · exact cmp_ok hleaf hup k h
end
/-! ### The reference's way -/
abbrev T3 := Nat × Nat × (Int × (Nat → Fin 256))
def stopB (one : Bool) (s : T3) : Bool := decide (20000 < s.1) || (one && (decide (0 < s.2.1) || decide (s.1 = 20000)))
noncomputable def stpS (one : Bool) (rc : SL → T3 → T3) (M : SL) (i j : Nat) (s : T3) (v : Nat) : T3 :=
  if stopB one s = true then s else if candB M i j v = true then rc (setS M i j (v : Int)) (s.1 + 1, s.2) else s
noncomputable def goS (one : Bool) : Nat → SL → T3 → T3
  | 0, M, s => (s.1, s.2.1 + 1, if s.2.1 = 0 then (((M.length : Nat) : Int), cT M) else s.2.2)
  | k + 1, M, s => if at2 M ((M.length * M.length - (k + 1)) / M.length) ((M.length * M.length - (k + 1)) % M.length) < 0 then
      (List.range M.length).foldl (stpS one (goS one k) M ((M.length * M.length - (k + 1)) / M.length) ((M.length * M.length - (k + 1)) % M.length)) s
    else goS one k M s
noncomputable def goP (one : Bool) (p : Nat) (M : SL) (s : T3) : T3 := goS one (M.length * M.length - p) M s
noncomputable def goF (one : Bool) (p : Nat) (M : SL) (s : T3) (v : Nat) : T3 := (List.range v).foldl (stpS one (goS one (M.length * M.length - (p + 1))) M (p / M.length) (p % M.length)) s
theorem goP_leaf {one : Bool} {p : Nat} {M : SL} {s : T3} (h : M.length * M.length ≤ p) : goP one p M s = (s.1, s.2.1 + 1, if s.2.1 = 0 then (((M.length : Nat) : Int), cT M) else s.2.2) := by
  unfold goP; rw [show M.length * M.length - p = 0 by omega]; rfl
theorem goP_fill {one : Bool} {p : Nat} {M : SL} {s : T3} (h : p < M.length * M.length) (h0 : ¬ at2 M (p / M.length) (p % M.length) < 0) : goP one p M s = goP one (p + 1) M s := by
  unfold goP
  rw [show M.length * M.length - p = (M.length * M.length - (p + 1)) + 1 by omega, goS, show M.length * M.length - (M.length * M.length - (p + 1) + 1) = p by omega, if_neg h0]
theorem goP_emp {one : Bool} {p : Nat} {M : SL} {s : T3} (h : p < M.length * M.length) (h0 : at2 M (p / M.length) (p % M.length) < 0) : goP one p M s = goF one p M s M.length := by
  unfold goP goF
  rw [show M.length * M.length - p = (M.length * M.length - (p + 1)) + 1 by omega, goS, show M.length * M.length - (M.length * M.length - (p + 1) + 1) = p by omega, if_pos h0]
theorem goF_zero {one : Bool} {p : Nat} {M : SL} {s : T3} : goF one p M s 0 = s := rfl
theorem goF_succ {one : Bool} {p v : Nat} {M : SL} {s : T3} : goF one p M s (v + 1) = stpS one (goS one (M.length * M.length - (p + 1))) M (p / M.length) (p % M.length) (goF one p M s v) v := by
  unfold goF
  rw [List.range_succ, List.foldl_append]; rfl
theorem goF_no {one : Bool} {p v : Nat} {M : SL} {s : T3} (h : stopB one (goF one p M s v) = false) (hc : candB M (p / M.length) (p % M.length) v = false) : goF one p M s (v + 1) = goF one p M s v := by
  rw [goF_succ, stpS, if_neg (by rw [h]; decide), if_neg (by rw [hc]; decide)]
theorem goF_yes {one : Bool} {p v : Nat} {M : SL} {s : T3} (h : stopB one (goF one p M s v) = false) (hc : candB M (p / M.length) (p % M.length) v = true) : goF one p M s (v + 1) = goP one (p + 1) (setS M (p / M.length) (p % M.length) (v : Int)) ((goF one p M s v).1 + 1, (goF one p M s v).2) := by
  rw [goF_succ, stpS, if_neg (by rw [h]; decide), if_pos hc]
  unfold goP; rw [setS_len]
theorem goF_stop {one : Bool} {p v : Nat} {M : SL} {s : T3} (h : stopB one (goF one p M s v) = true) : ∀ k, goF one p M s (v + k) = goF one p M s v
  | 0 => rfl
  | k + 1 => by rw [show v + (k + 1) = (v + k) + 1 by omega, goF_succ, goF_stop h k, stpS, if_pos h]
theorem goF_end {one : Bool} {p v : Nat} {M : SL} {s : T3} (hv : v ≤ M.length) (h : stopB one (goF one p M s v) = true) : goF one p M s M.length = goF one p M s v := by
  have := goF_stop h (M.length - v)
  rwa [show v + (M.length - v) = M.length by omega] at this
theorem goS_up {one : Bool} : ∀ (k : Nat) {M : SL} {s : T3}, s.1 ≤ (goS one k M s).1
  | 0, M, s => Nat.le_refl _
  | k + 1, M, s => by
    rw [goS]
    split
    · refine fold_inv (Q := fun r : T3 => s.1 ≤ r.1) (fun r v hr => ?_) _ _ (Nat.le_refl _)
      unfold stpS
      split
      · exact hr
      · split
        · exact Nat.le_trans (Nat.le_succ_of_le hr) (goS_up (one := one) k (s := (r.1 + 1, r.2)))
        · exact hr
    · exact goS_up k
theorem goS_le {one : Bool} : ∀ (k : Nat) {M : SL} {s : T3}, s.1 ≤ 20001 → (goS one k M s).1 ≤ 20001
  | 0, M, s, h => h
  | k + 1, M, s, h => by
    rw [goS]
    split
    · refine fold_inv (Q := fun r : T3 => r.1 ≤ 20001) (fun r v hr => ?_) _ _ h
      unfold stpS
      split
      · exact hr
      · rename_i hs
        split
        · refine goS_le k ?_
          simp [stopB] at hs
          show r.1 + 1 ≤ 20001
          omega
        · exact hr
    · exact goS_le k h
theorem goS_ft {one : Bool} : ∀ (k : Nat) {M : SL} {s : T3}, s.2.1 + 1 ≤ s.1 → (goS one k M s).2.1 ≤ (goS one k M s).1
  | 0, M, s, h => h
  | k + 1, M, s, h => by
    rw [goS]
    split
    · refine fold_inv (Q := fun r : T3 => r.2.1 ≤ r.1) (fun r v hr => ?_) _ _ (by omega)
      unfold stpS
      split
      · exact hr
      · split
        · exact goS_ft k (by show r.2.1 + 1 ≤ r.1 + 1; omega)
        · exact hr
    · exact goS_ft k h
theorem goP_ft {one : Bool} {p : Nat} {M : SL} {s : T3} (h : s.2.1 + 1 ≤ s.1) : (goP one p M s).2.1 ≤ (goP one p M s).1 := goS_ft _ h
theorem goP_le {one : Bool} {p : Nat} {M : SL} {s : T3} (h : s.1 ≤ 20001) : (goP one p M s).1 ≤ 20001 := goS_le _ h
/-! ### The two agree -/
theorem fold_rel {α β γ : Type} {Q : α → γ → Prop} {g : α → β → α} {f : γ → β → γ} (hg : ∀ a c b, Q a c → Q (g a b) (f c b)) : ∀ (l : List β) (a : α) (c : γ), Q a c → Q (l.foldl g a) (l.foldl f c)
  | [], _, _, h => h
  | b :: l, a, c, h => fold_rel hg l _ _ (hg a c b h)
def visC (M : SL) (z : Nat) : Bool × Nat := (false, z + 1)
def RelC (r : Bool × Nat × Nat) (s : T3) : Prop := (r.1 = true ∧ r.2.1 = s.1 ∧ r.2.2 = s.2.1 ∧ s.1 ≤ 20000) ∨ (r.1 = false ∧ 20000 < s.1)
theorem rel_c : ∀ (k : Nat) {M : SL} {t f : Nat} {q : Int × (Nat → Fin 256)}, t ≤ 20000 → RelC (cmp visC k M (t, f)) (goS false k M (t, f, q))
  | 0, M, t, f, q, h => .inl ⟨rfl, rfl, rfl, h⟩
  | k + 1, M, t, f, q, h => by
    rw [cmp, goS]
    split
    · rw [filt_fold]
      refine fold_rel (Q := RelC) (fun r s v hr => ?_) _ _ _ (.inl ⟨rfl, rfl, rfl, h⟩)
      rcases hr with ⟨h1, h2, h3, h4⟩ | ⟨h1, h2⟩
      · obtain ⟨b, t2, z2⟩ := r
        obtain ⟨t3, f3, q3⟩ := s
        simp only at h1 h2 h3 h4
        subst h1; subst h2; subst h3
        have hst : ¬ stopB false (t2, z2, q3) = true := by simp [stopB]; omega
        unfold stpS
        rw [if_neg hst]
        split
        · by_cases ho : 20000 < t2 + 1
          · rw [cmpS_over ho]
            exact .inr ⟨rfl, Nat.lt_of_lt_of_le (show 20000 < t2 + 1 from ho) (goS_up (one := false) k (s := (t2 + 1, z2, q3)))⟩
          · rw [cmpS_go ho]
            exact rel_c k (by omega)
        · exact .inl ⟨rfl, rfl, rfl, h4⟩
      · have hst : stopB false s = true := by simp [stopB]; omega
        unfold stpS
        rw [if_pos hst]
        split
        · rw [cmpS_f h1]; exact .inr ⟨h1, h2⟩
        · exact .inr ⟨h1, h2⟩
    · exact rel_c k h
abbrev Sq := Int × (Nat → Fin 256)
def z0S : Sq := (0, fun _ => 0)
noncomputable def visD (M : SL) (z : Sq) : Bool × Sq := (true, ((M.length : Nat) : Int), cT M)
def RelD (r : Bool × Nat × Sq) (s : T3) : Prop := (r.1 = true ∧ r.2.1 = s.1 ∧ r.2.2 = z0S ∧ s.1 ≤ 20000 ∧ s.2.1 = 0) ∨ (r.1 = false ∧ 0 < s.2.1 ∧ r.2.2 = s.2.2 ∧ 0 < s.2.2.1) ∨ (r.1 = false ∧ s.2.1 = 0 ∧ s.1 = 20000 ∧ r.2.1 = 20001 ∧ r.2.2 = z0S)
theorem rel_d : ∀ (k : Nat) {M : SL} {t : Nat} {q : Sq}, 1 ≤ M.length → t ≤ 20000 → RelD (cmp visD k M (t, z0S)) (goS true k M (t, 0, q))
  | 0, M, t, q, hM, h => .inr (.inl ⟨rfl, by show 0 < 0 + 1; omega, rfl, by show (0 : Int) < ((M.length : Nat) : Int); omega⟩)
  | k + 1, M, t, q, hM, h => by
    rw [cmp, goS]
    split
    · rw [filt_fold]
      refine fold_rel (Q := RelD) (fun r s v hr => ?_) _ _ _ (.inl ⟨rfl, rfl, rfl, h, rfl⟩)
      obtain ⟨b, t2, z2⟩ := r
      obtain ⟨t3, f3, q3⟩ := s
      rcases hr with ⟨h1, h2, h3, h4, h5⟩ | ⟨h1, h2, h3⟩ | ⟨h1, h2, h3, h4, h5⟩
      · simp only at h1 h2 h3 h4 h5
        subst h1; subst h2; subst h3; subst h5
        by_cases ho : 20000 < t2 + 1
        · have ht : t2 = 20000 := by omega
          subst ht
          have hst : stopB true ((20000, 0, q3) : T3) = true := by simp [stopB]
          unfold stpS
          rw [if_pos hst]
          split
          · rw [cmpS_over ho]; exact .inr (.inr ⟨rfl, rfl, rfl, rfl, rfl⟩)
          · exact .inl ⟨rfl, rfl, rfl, Nat.le_refl _, rfl⟩
        · have hst : ¬ stopB true (t2, 0, q3) = true := by simp [stopB]; omega
          unfold stpS
          rw [if_neg hst]
          split
          · rw [cmpS_go ho]; exact rel_d k (by rw [setS_len]; exact hM) (by omega)
          · exact .inl ⟨rfl, rfl, rfl, h4, rfl⟩
      · have hst : stopB true (t3, f3, q3) = true := by simp only at h2; simp [stopB, h2]
        unfold stpS
        rw [if_pos hst]
        split
        · rw [cmpS_f h1]; exact .inr (.inl ⟨h1, h2, h3⟩)
        · exact .inr (.inl ⟨h1, h2, h3⟩)
      · have hst : stopB true (t3, f3, q3) = true := by simp only at h3; simp [stopB, h3]
        unfold stpS
        rw [if_pos hst]
        split
        · rw [cmpS_f h1]; exact .inr (.inr ⟨h1, h2, h3, h4, h5⟩)
        · exact .inr (.inr ⟨h1, h2, h3, h4, h5⟩)
    · exact rel_d k hM h
/-! ### Places on the way -/
theorem stopB_t {one : Bool} {t f : Nat} {q : Sq} (h : 20000 < t ∨ (one = true ∧ (0 < f ∨ t = 20000))) : stopB one (t, f, q) = true := by
  unfold stopB
  rcases h with h | ⟨h, h2 | h2⟩
  · simp [h]
  · simp [h, h2]
  · simp [h, h2]
theorem stopB_f {one : Bool} {t f : Nat} {q : Sq} (h1 : ¬ 20000 < t) (h : one = true → ¬ 0 < f ∧ ¬ t = 20000) : stopB one (t, f, q) = false := by
  unfold stopB
  cases one with
  | false => simp; omega
  | true => have := h rfl; simp; omega
/-- All cells before a place are filled. -/
def FillP (M : SL) (p : Nat) : Prop := ∀ q, q < p → 0 ≤ at2 M (q / M.length) (q % M.length)
theorem FillP.zero {M : SL} : FillP M 0 := fun q h => by omega
theorem FillP.step {M : SL} {p : Nat} (h : FillP M p) (h0 : 0 ≤ at2 M (p / M.length) (p % M.length)) : FillP M (p + 1) := fun q hq => by
  by_cases e : q = p
  · subst e; exact h0
  · exact h q (by omega)
theorem FillP.full {M : SL} (h : FillP M (M.length * M.length)) : FullL M := fun i j hi hj => by
  have h1 := h (i * M.length + j) (ij_lt hi hj)
  obtain ⟨e1, e2⟩ := ij_div (i := i) hj
  rwa [e1, e2] at h1
theorem FillP.set {M : SL} {p : Nat} {v : Nat} (hM : ParL M) (hp : p < M.length * M.length) (h : FillP M p) : FillP (setS M (p / M.length) (p % M.length) (v : Int)) (p + 1) := fun q hq => by
  obtain ⟨d1, d2⟩ := div_mod_lt hp
  rw [setS_len, setS_at d1 (by rw [hM.2.1 _ d1]; exact d2)]
  split
  · omega
  · rename_i hne
    refine h q ?_
    rcases Nat.lt_or_ge q p with hl | hl
    · exact hl
    · obtain rfl : q = p := by omega
      exact absurd ⟨rfl, rfl⟩ hne
theorem candB_p {M : SL} {i j v : Nat} (h : candB M i j v = true) : candP M i j v := @of_decide_eq_true _ (Classical.propDecidable _) h
theorem setS_back {M : SL} {i j : Nat} {v : Int} (hi : i < M.length) (hj : j < (M.getD i sd).2.length) (he : at2 M i j = -1) : setS (setS M i j v) i j (-1) = M := by
  unfold setS
  have h1 : (M.set i ((M.getD i sd).1, (M.getD i sd).2.set j v)).getD i sd = ((M.getD i sd).1, (M.getD i sd).2.set j v) := by
    simp [List.getD, hi]
  rw [h1]
  have h2 : ((M.getD i sd).2.set j v).set j (-1) = (M.getD i sd).2 := by
    rw [List.set_set]
    apply List.ext_getElem?
    intro q
    rw [List.getElem?_set]
    split
    · rename_i e; subst e
      unfold at2 at he
      rw [List.getD, List.getElem?_eq_getElem hj] at he
      rw [List.getElem?_eq_getElem hj]
      exact congrArg some he.symm
    · rfl
  simp only [h2, List.set_set]
  apply List.ext_getElem?
  intro q
  rw [List.getElem?_set]
  split
  · rename_i e; subst e
    simp [List.getD, List.getElem?_eq_getElem hi]
  · rfl
theorem setS_v {M : SL} {i j : Nat} {v : Int} (hi : i < M.length) : ((setS M i j v).getD i sd).1 = (M.getD i sd).1 := by
  unfold setS
  simp [List.getD, hi]
theorem rds_back {s : Gx.St} {v : Value} {E1 E2 i j : Nat} {M : SL} {u : Int} (m : oss v E1 E2 (setS M i j u) ∈ s.hp) (hi : i < M.length) : Rds s (M.getD i sd).1.1 (.ints .i64 ((setS M i j u).getD i sd).2) := by
  have h := Rds.ossI (s := s) (j := i) m (by rw [setS_len]; exact hi)
  rwa [setS_v hi] at h
theorem at2_neg {M : SL} (h : ParL M) {i j : Nat} (hi : i < M.length) (hj : j < M.length) (he : at2 M i j < 0) : at2 M i j = -1 := by
  have := h.2.2.1 i j hi hj
  omega
theorem visC_ok {M : SL} {t z : Nat} (h : z ≤ t) : (visC M z).2 ≤ t + 1 := by unfold visC; show z + 1 ≤ t + 1; omega
theorem nx_true {M : SL} (hM : ParL M) (p : Nat) : ffrom (nxP (cT M) (fun _ _ => true) M.length) (M.length * M.length - p) p = ffrom (emB M) (M.length * M.length - p) p := by
  refine ffrom_congr _ _ fun q h1 h2 => ?_
  obtain ⟨d1, d2⟩ := div_mod_lt (n := M.length) (q := q) (by omega)
  have h3 := cT_at (isPar_t hM).symm d1 d2
  unfold nxP emB
  rw [Bool.and_true, Bool.eq_iff_iff, decide_eq_true_eq, decide_eq_true_eq]
  omega
section
variable {Z : Type} {vis : SL → Z → Bool × Z}
theorem cmpP_skip {M : SL} {s : Nat × Z} {p : Nat} : ∀ (k : Nat), p + k ≤ M.length * M.length → (∀ q, p ≤ q → q < p + k → emB M q = false) → cmpP vis p M s = cmpP vis (p + k) M s
  | 0, _, _ => rfl
  | k + 1, h, hq => by
    rw [cmpP_skip k (by omega) (fun q h1 h2 => hq q h1 (by omega))]
    have := hq (p + k) (by omega) (by omega)
    unfold emB at this
    exact cmpP_fill (by omega) (of_decide_eq_false this)
theorem cmpP_to {M : SL} {s : Nat × Z} {p q : Nat} (h : ffrom (emB M) (M.length * M.length - p) p = some q) : cmpP vis p M s = cmpP vis q M s ∧ p ≤ q ∧ q < M.length * M.length ∧ at2 M (q / M.length) (q % M.length) < 0 ∧ (FillP M p → FillP M q) := by
  obtain ⟨h1, h2, h3, h4⟩ := ffrom_spec _ _ h
  have h5 := cmpP_skip (vis := vis) (M := M) (s := s) (p := p) (q - p) (by omega) (fun y a b => h4 y a (by omega))
  rw [show p + (q - p) = q by omega] at h5
  refine ⟨h5, h1, by omega, of_decide_eq_true h3, fun hF y hy => ?_⟩
  by_cases e : y < p
  · exact hF y e
  · have := h4 y (by omega) hy
    unfold emB at this
    have := of_decide_eq_false this
    omega
theorem cmpP_none {M : SL} {s : Nat × Z} {p : Nat} (hp : p ≤ M.length * M.length) (h : ffrom (emB M) (M.length * M.length - p) p = none) : cmpP vis p M s = (!(vis M s.2).1, s.1, (vis M s.2).2) ∧ (FillP M p → FullL M) := by
  have h4 := ffrom_nspec _ _ h
  have h5 := cmpP_skip (vis := vis) (M := M) (s := s) (p := p) (M.length * M.length - p) (by omega) (fun y a b => h4 y a (by omega))
  rw [h5, cmpP_leaf (by omega)]
  refine ⟨rfl, fun hF => FillP.full fun y hy => ?_⟩
  by_cases e : y < p
  · exact hF y e
  · have := h4 y (by omega) (by omega)
    unfold emB at this
    have := of_decide_eq_false this
    omega
end
/-! ### Only the entries count -/
theorem cT_eq {M N : SL} (h : M.map (·.2) = N.map (·.2)) : cT M = cT N := by
  funext k
  unfold cT part gC
  rw [snd_len h, at2_eq h]
theorem goS_eq {one : Bool} : ∀ (k : Nat) {M N : SL} {s : T3}, M.map (·.2) = N.map (·.2) → goS one k M s = goS one k N s
  | 0, M, N, s, h => by rw [goS, goS, snd_len h, cT_eq h]
  | k + 1, M, N, s, h => by
    rw [goS, goS, goS_eq k h, snd_len h, at2_eq h, cand_stp k h (fun h2 => goS_eq k h2)]
 where
  cand_stp {one : Bool} (k : Nat) {M N : SL} {i j : Nat} (h : M.map (·.2) = N.map (·.2)) (ih : ∀ {M N : SL} {s : T3}, M.map (·.2) = N.map (·.2) → goS one k M s = goS one k N s) : stpS one (goS one k) M i j = stpS one (goS one k) N i j := by
    funext s v
    unfold stpS
    rw [cand_eq h, ih (setS_map h i j (v : Int))]
theorem goP_eq {one : Bool} {p : Nat} {M N : SL} {s : T3} (h : M.map (·.2) = N.map (·.2)) : goP one p M s = goP one p N s := by unfold goP; rw [goS_eq _ h, snd_len h]
/-! ### What the two answer -/
noncomputable def ccN (L : SL) : Int := if isPar L = true then (if 20000 < (goP false 0 L (0, 0, z0S)).1 then 0 else ((goP false 0 L (0, 0, z0S)).2.1 : Int)) else 0
noncomputable def ccC (L : SL) : Int := if isPar L = true then (if 20000 < (goP false 0 L (0, 0, z0S)).1 then 3 else 0) else 1
theorem cc_n {L : SL} (h : isPar L = false) : ccN L = 0 ∧ ccC L = 1 := ⟨if_neg (by rw [h]; decide), if_neg (by rw [h]; decide)⟩
theorem cc_over {L : SL} (h : isPar L = true) (h2 : 20000 < (goP false 0 L (0, 0, z0S)).1) : ccN L = 0 ∧ ccC L = 3 := ⟨by unfold ccN; rw [if_pos h, if_pos h2], by unfold ccC; rw [if_pos h, if_pos h2]⟩
theorem cc_ok {L : SL} (h : isPar L = true) (h2 : ¬ 20000 < (goP false 0 L (0, 0, z0S)).1) : ccN L = ((goP false 0 L (0, 0, z0S)).2.1 : Int) ∧ ccC L = 0 := ⟨by unfold ccN; rw [if_pos h, if_neg h2], by unfold ccC; rw [if_pos h, if_neg h2]⟩
theorem cc_impl_f {L : SL} (h : isPar L = true) (h2 : (cmpP visC 0 L (0, 0)).1 = false) : ccN L = 0 ∧ ccC L = 3 := by
  rcases rel_c (M := L) (t := 0) (f := 0) (q := z0S) (L.length * L.length - 0) (by omega) with hr | hr
  · rw [show cmp visC (L.length * L.length - 0) L (0, 0) = cmpP visC 0 L (0, 0) from rfl, h2] at hr; cases hr.1
  · exact cc_over h hr.2
theorem cc_impl_t {L : SL} (h : isPar L = true) (h2 : (cmpP visC 0 L (0, 0)).1 = true) : ccN L = ((cmpP visC 0 L (0, 0)).2.2 : Int) ∧ ccC L = 0 := by
  rcases rel_c (M := L) (t := 0) (f := 0) (q := z0S) (L.length * L.length - 0) (by omega) with hr | hr
  · have h3 := cc_ok h (show ¬ 20000 < (goP false 0 L (0, 0, z0S)).1 by have := hr.2.2.2; unfold goP; omega)
    exact ⟨by rw [h3.1]; exact congrArg (fun x : Nat => (x : Int)) hr.2.2.1.symm, h3.2⟩
  · rw [show cmp visC (L.length * L.length - 0) L (0, 0) = cmpP visC 0 L (0, 0) from rfl, h2] at hr; cases hr.1
theorem cc_eq {M N : SL} (h : M.map (·.2) = N.map (·.2)) : ccN M = ccN N ∧ ccC M = ccC N := by unfold ccN ccC; rw [isPar_eq h, goP_eq h]; exact ⟨rfl, rfl⟩
noncomputable def cqC (L : SL) : Int := if isPar L = true then (if 0 < (goP true 0 L (0, 0, z0S)).2.1 then 0 else if 20000 ≤ (goP true 0 L (0, 0, z0S)).1 then 3 else 4) else 1
noncomputable def cqS (L : SL) : Sq := if cqC L = 0 then (goP true 0 L (0, 0, z0S)).2.2 else z0S
theorem cq_eq {M N : SL} (h : M.map (·.2) = N.map (·.2)) : cqC M = cqC N ∧ cqS M = cqS N := by
  have h1 : cqC M = cqC N := by unfold cqC; rw [isPar_eq h, goP_eq h]
  exact ⟨h1, by unfold cqS; rw [h1, goP_eq h]⟩
theorem cq_1 {L : SL} (h : isPar L = false) : cqC L = 1 := if_neg (by rw [h]; decide)
theorem cq_0 {L : SL} (h : isPar L = true) (h2 : 0 < (goP true 0 L (0, 0, z0S)).2.1) : cqC L = 0 := by unfold cqC; rw [if_pos h, if_pos h2]
theorem cq_3 {L : SL} (h : isPar L = true) (h2 : ¬ 0 < (goP true 0 L (0, 0, z0S)).2.1) (h3 : 20000 ≤ (goP true 0 L (0, 0, z0S)).1) : cqC L = 3 := by unfold cqC; rw [if_pos h, if_neg h2, if_pos h3]
theorem cq_4 {L : SL} (h : isPar L = true) (h2 : ¬ 0 < (goP true 0 L (0, 0, z0S)).2.1) (h3 : ¬ 20000 ≤ (goP true 0 L (0, 0, z0S)).1) : cqC L = 4 := by unfold cqC; rw [if_pos h, if_neg h2, if_neg h3]
theorem cqS_0 {L : SL} (h : cqC L = 0) : cqS L = (goP true 0 L (0, 0, z0S)).2.2 := if_pos h
theorem cqS_n {L : SL} {c : Int} (h : cqC L = c) (hc : c ≠ 0) : cqS L = z0S := if_neg (by omega)
theorem cq_rel {L : SL} (hn : 1 ≤ L.length) : RelD (cmpP visD 0 L (0, z0S)) (goP true 0 L (0, 0, z0S)) := rel_d _ hn (by omega)
theorem cq_i0 {L : SL} (h : isPar L = true) (h2 : 0 < (cmpP visD 0 L (0, z0S)).2.2.1) : cqC L = 0 ∧ cqS L = (cmpP visD 0 L (0, z0S)).2.2 := by
  rcases cq_rel (of_isPar h).1.1 with hr | hr | hr
  · rw [hr.2.2.1] at h2; cases h2
  · have h3 := cq_0 h hr.2.1
    exact ⟨h3, by rw [cqS_0 h3, hr.2.2.1]⟩
  · rw [hr.2.2.2.2] at h2; cases h2
theorem cq_in {L : SL} (h : isPar L = true) (h2 : ¬ 0 < (cmpP visD 0 L (0, z0S)).2.2.1) : cqC L = (if 20000 ≤ (cmpP visD 0 L (0, z0S)).2.1 then 3 else 4) := by
  rcases cq_rel (of_isPar h).1.1 with hr | hr | hr
  · split
    · exact cq_3 h (by omega) (by omega)
    · exact cq_4 h (by omega) (by omega)
  · rw [hr.2.2.1] at h2; exact absurd hr.2.2.2 h2
  · rw [if_pos (by omega)]
    exact cq_3 h (by omega) (by omega)
end Go.Proofs.Ytdcpggdbjllmpab
