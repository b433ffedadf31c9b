/- Reading the text of an identity. No conditions but those in the statements. -/
import Derived.Test.YtdcpggdbjllmpaaM33
namespace Go.Proofs.Ytdcpggdbjllmpaa
open Gx
set_option linter.unusedVariables false
/-! ### A term and its text -/
inductive Tm : List (Fin 256) → List (Fin 256) → Prop
  | leaf {c : Fin 256} : leafB c = true → Tm [c] [c]
  | op {o : Fin 256} {a x b y : List (Fin 256)} : operB o = true → Tm a x → Tm b y → Tm (a ++ b ++ [o]) (jnT o x y)
def lfP (c : Fin 256) : List (Fin 256) × List (Fin 256) := ([c], [c])
def jnP (o : Fin 256) (p q : List (Fin 256) × List (Fin 256)) : List (Fin 256) × List (Fin 256) := (p.1 ++ q.1 ++ [o], jnT o p.2 q.2)
abbrev stP (l : List (Fin 256)) (i : Nat) : List (List (Fin 256) × List (Fin 256)) := fldS lfP jnP ([], []) l i
theorem map_gd {α β : Type} (f : α → β) (S : List α) (j : Nat) (z : α) : (S.map f).getD j (f z) = f (S.getD j z) := by
  simp only [List.getD, List.getElem?_map]
  cases S[j]? <;> rfl
theorem stP_snd (l : List (Fin 256)) : ∀ i, (stP l i).map (·.2) = stT l i
  | 0 => rfl
  | i + 1 => by
    have ih := stP_snd l i
    have hl : (stP l i).length = (stT l i).length := by rw [← ih, List.length_map]
    have hg : ∀ j, (stT l i).getD j [] = ((stP l i).getD j ([], [])).2 := fun j => by rw [← ih]; exact map_gd (fun p : List (Fin 256) × List (Fin 256) => p.2) _ j ([], [])
    show (fldS lfP jnP ([], []) l (i + 1)).map (·.2) = fldS lfT jnT [] l (i + 1)
    unfold fldS
    cases operB (l.getD i 0) with
    | true =>
      simp only [cond_true]
      rw [List.map_append, List.map_take, ih, hl]
      congr 2
      rw [List.map_cons, hg, hg]; rfl
    | false =>
      simp only [cond_false]
      rw [List.map_append, ih]; rfl
theorem stP_fst {l : List (Fin 256)} (h : isTerm l = true) : ∀ i, i ≤ l.length → ((stP l i).map (·.1)).flatten = l.take i
  | 0, _ => by simp [fldS]
  | i + 1, hi => by
    have ih := stP_fst h i (by omega)
    obtain ⟨e, he⟩ := term_dep h (i := i) (by omega)
    have htk : l.take (i + 1) = l.take i ++ [l.getD i 0] := by
      rw [List.take_add_one]
      simp [List.getD, List.getElem?_eq_getElem (show i < l.length by omega)]
    rcases term_at h (by omega) he with hl | ⟨ho, hd2⟩
    · rw [show stP l (i + 1) = stP l i ++ [lfP (l.getD i 0)] from fld_leaf hl, List.map_append, List.flatten_append, ih, htk]; simp [lfP]
    · obtain ⟨A, a, b, e1, e2, e3, e4⟩ := last2 (z := (([], []) : List (Fin 256) × List (Fin 256))) (S := stP l i) (by rw [show (stP l i).length = e from fld_len h (by omega) he]; exact hd2)
      rw [show stP l (i + 1) = _ from fld_op ho, e2, e3, e4, htk, ← ih, e1]
      simp [jnP]
theorem term_tm {l : List (Fin 256)} (h : isTerm l = true) : Tm l (txT l) := by
  have h1 : (stP l l.length).length = 1 := fld_len h (Nat.le_refl _) (term_end h)
  have hall := fld_all (leaf := lfP) (join := jnP) (z := ([], [])) (P := fun p => Tm p.1 p.2) (fun c hc => Tm.leaf hc) (fun c x y hc hx hy => Tm.op hc hx hy) h (Nat.le_refl _)
  obtain ⟨p, hp⟩ : ∃ p, stP l l.length = [p] := List.length_eq_one_iff.1 h1
  have hf := stP_fst h l.length (Nat.le_refl _)
  have hs := stP_snd l l.length
  rw [hp] at hf hs
  have h2 := hall p (by rw [show fldS lfP jnP ([], []) l l.length = [p] from hp]; simp)
  have h3 : p.1 = l := by simpa using hf
  have h4 : p.2 = txT l := by unfold txT; rw [← hs]; rfl
  rw [← h3]
  conv => rhs; rw [h3]
  rw [← h4, h3]; rw [h3] at h2; exact h2
theorem Tm.pos {a x : List (Fin 256)} (h : Tm a x) : 1 ≤ a.length ∧ 1 ≤ x.length := by
  cases h with
  | leaf _ => simp
  | op _ _ _ => simp [jnT]; omega
/-- The text is at most twice as long as the term. -/
theorem Tm.len {a x : List (Fin 256)} (h : Tm a x) : (prT x).length + 1 ≤ 2 * a.length := by
  induction h with
  | leaf _ => simp [prT]
  | @op o a x b y _ ha hb iha ihb =>
    have h1 := (prT_len (jnT o x y)).2
    have h2 : (jnT o x y).length = (prT x).length + 1 + (prT y).length := by simp [jnT]; omega
    simp only [List.length_append, List.length_cons, List.length_nil]
    omega
/-! ### Places in a text -/
def At (s : List (Fin 256)) (p : Nat) (x : List (Fin 256)) : Prop := ∃ A B, s = A ++ x ++ B ∧ A.length = p
theorem At.left {s x y : List (Fin 256)} {p : Nat} (h : At s p (x ++ y)) : At s p x := by
  obtain ⟨A, B, h1, h2⟩ := h
  exact ⟨A, y ++ B, by rw [h1]; simp, h2⟩
theorem At.right {s x y : List (Fin 256)} {p : Nat} (h : At s p (x ++ y)) : At s (p + x.length) y := by
  obtain ⟨A, B, h1, h2⟩ := h
  exact ⟨A ++ x, B, by rw [h1]; simp, by simp [h2]⟩
theorem At.char {s : List (Fin 256)} {c : Fin 256} {p : Nat} (h : At s p [c]) : p < s.length ∧ s.getD p 0 = c := by
  obtain ⟨A, B, h1, h2⟩ := h
  subst h2
  rw [h1]
  refine ⟨by simp, ?_⟩
  simp [List.getD]
theorem At.le {s x : List (Fin 256)} {p : Nat} (h : At s p x) : p + x.length ≤ s.length := by
  obtain ⟨A, B, h1, h2⟩ := h
  rw [h1]; simp; omega
/-! ### The specification's way -/
def sdS (s : List (Fin 256)) (op : Nat → List (Fin 256) × Nat × Bool) (p : Nat) : List (Fin 256) × Nat × Bool :=
  if (op p).2.2 = false ∨ s.length ≤ (op p).2.1 ∨ operB (s.getD (op p).2.1 0) = false then op p
  else if (op ((op p).2.1 + 1)).2.2 = false then ([], p, false)
  else ((op p).1 ++ (op ((op p).2.1 + 1)).1 ++ [s.getD (op p).2.1 0], (op ((op p).2.1 + 1)).2.1, true)
def opS (s : List (Fin 256)) : Nat → Nat → List (Fin 256) × Nat × Bool
  | 0, p => ([], p, false)
  | k + 1, p =>
    if s.length ≤ p then ([], p, false)
    else if leafB (s.getD p 0) = true then ([s.getD p 0], p + 1, true)
    else if s.getD p 0 = 40 then
      if (sdS s (opS s k) (p + 1)).2.2 = false ∨ (sdS s (opS s k) (p + 1)).1.length = 1 ∨ s.length ≤ (sdS s (opS s k) (p + 1)).2.1 ∨ s.getD (sdS s (opS s k) (p + 1)).2.1 0 ≠ 41 then ([], p, false)
      else ((sdS s (opS s k) (p + 1)).1, (sdS s (opS s k) (p + 1)).2.1 + 1, true)
    else ([], p, false)
theorem Tm.side_op {s : List (Fin 256)} {op : Nat → List (Fin 256) × Nat × Bool} {o : Fin 256} {a x b y : List (Fin 256)} {p : Nat} (ho : operB o = true) (h1 : At s p (jnT o x y)) (ha : op p = (a, p + (prT x).length, true)) (hb : op (p + (prT x).length + 1) = (b, p + (prT x).length + 1 + (prT y).length, true)) : sdS s op p = (a ++ b ++ [o], p + (jnT o x y).length, true) := by
  have h2 : At s (p + (prT x).length) [o] := (At.left (y := prT y) h1).right
  have h3 := h2.char
  unfold sdS
  rw [ha]
  dsimp only
  rw [h3.2, if_neg (by rintro (h | h | h); cases h; omega; rw [ho] at h; cases h), hb]
  dsimp only
  rw [if_neg (by decide)]
  simp only [jnT, List.length_append, List.length_cons, List.length_nil, Prod.mk.injEq, and_true, true_and]
  omega
theorem prT_leaf (c : Fin 256) : prT [c] = [c] := prT_f (by simp)
theorem prT_op {o : Fin 256} {x y : List (Fin 256)} (hx : 1 ≤ x.length) : prT (jnT o x y) = [40] ++ jnT o x y ++ [41] := prT_t (by
  have := (prT_len x).1
  simp [jnT]; omega)
theorem jn_left {s x y : List (Fin 256)} {o : Fin 256} {p : Nat} (h : At s p (jnT o x y)) : At s p (prT x) := (At.left (y := prT y) h).left
theorem jn_right {s x y : List (Fin 256)} {o : Fin 256} {p : Nat} (h : At s p (jnT o x y)) : At s (p + (prT x).length + 1) (prT y) := by
  have := At.right (x := prT x ++ [o]) (y := prT y) h
  rw [List.length_append] at this
  exact this
theorem leaf40 : leafB 40 = false := by decide
theorem Tm.op_ok {s a x : List (Fin 256)} (h : Tm a x) : ∀ {k p : Nat}, At s p (prT x) → s.length < p + k → opS s k p = (a, p + (prT x).length, true) := by
  induction h with
  | @leaf c hc =>
    intro k p hA hk
    rw [prT_leaf] at hA ⊢
    have h1 := hA.char
    obtain ⟨k, rfl⟩ : ∃ q, k = q + 1 := ⟨k - 1, by omega⟩
    rw [opS, if_neg (by omega), h1.2, if_pos hc]; rfl
  | @op o a x b y ho ha hb iha ihb =>
    intro k p hA hk
    have px := ha.pos
    rw [prT_op px.2] at hA ⊢
    have h0 : At s p [40] := (At.left (y := jnT o x y) (At.left (y := [41]) hA))
    have h1 := h0.char
    have h2 : At s (p + 1) (jnT o x y) := At.right (x := [40]) (At.left (y := [41]) hA)
    have h3 : At s (p + ([40] ++ jnT o x y).length) [41] := At.right (x := [40] ++ jnT o x y) hA
    obtain ⟨k, rfl⟩ : ∃ q, k = q + 1 := ⟨k - 1, by omega⟩
    have hs := Tm.side_op (op := opS s k) (a := a) (b := b) ho h2 (iha (jn_left h2) (by omega)) (ihb (jn_right h2) (by omega))
    have h4 := h3.char
    have e4 : p + ([40] ++ jnT o x y).length = p + 1 + (jnT o x y).length := by simp; omega
    rw [e4] at h4
    rw [opS, if_neg (by omega), h1.2, if_neg (by rw [leaf40]; decide), if_pos rfl, hs]
    dsimp only
    rw [h4.2, if_neg (by
      rintro (h | h | h | h)
      · cases h
      · simp at h; have := ha.pos; omega
      · omega
      · exact h rfl)]
    simp only [List.length_append, List.length_cons, List.length_nil, Prod.mk.injEq, and_true, true_and]
    omega
theorem Tm.side_ok {s a x : List (Fin 256)} (h : Tm a x) {k p : Nat} (hA : At s p x) (hn : s.length ≤ p + x.length ∨ operB (s.getD (p + x.length) 0) = false) (hk : s.length < p + k) : sdS s (opS s k) p = (a, p + x.length, true) := by
  cases h with
  | @leaf c hc =>
    have h1 := (Tm.leaf hc).op_ok (s := s) (k := k) (p := p) (by rw [prT_leaf]; exact hA) hk
    rw [prT_leaf] at h1
    unfold sdS
    rw [h1, if_pos (.inr hn)]
  | @op o a x b y ho ha hb => exact Tm.side_op ho hA (ha.op_ok (jn_left hA) hk) (hb.op_ok (jn_right hA) (by omega))
/-! ### The program's way -/
def nxW (s : List (Fin 256)) (p : Nat) : Fin 256 × Nat := if p = s.length then (0, p) else (s.getD p 0, p + 1)
def tmW (s : List (Fin 256)) (pt : Nat → List (Fin 256) × Nat) (p : Nat) : List (Fin 256) × Nat :=
  if (pt p).2 = s.length ∨ operB (s.getD (pt p).2 0) = false then pt p
  else ((pt p).1 ++ (pt ((pt p).2 + 1)).1 ++ [s.getD (pt p).2 0], (pt ((pt p).2 + 1)).2)
def ptW (s : List (Fin 256)) : Nat → Nat → List (Fin 256) × Nat
  | 0, p => ([], p)
  | k + 1, p =>
    if (nxW s p).1 ≠ 40 then ([(nxW s p).1], (nxW s p).2)
    else if (nxW s (tmW s (ptW s k) (nxW s p).2).2).1 ≠ 41 then ([], (nxW s (tmW s (ptW s k) (nxW s p).2).2).2)
    else ((tmW s (ptW s k) (nxW s p).2).1, (nxW s (tmW s (ptW s k) (nxW s p).2).2).2)
theorem nxW_le {s : List (Fin 256)} {p : Nat} (h : p ≤ s.length) : p ≤ (nxW s p).2 ∧ (nxW s p).2 ≤ s.length := by
  unfold nxW; split <;> dsimp only <;> omega
theorem nx_at {s : List (Fin 256)} {c : Fin 256} {p : Nat} (h : At s p [c]) : nxW s p = (c, p + 1) := by
  have := h.char
  unfold nxW
  rw [if_neg (by omega), this.2]
theorem Tm.tm_op {s : List (Fin 256)} {pt : Nat → List (Fin 256) × Nat} {o : Fin 256} {a x b y : List (Fin 256)} {p : Nat} (ho : operB o = true) (h1 : At s p (jnT o x y)) (ha : pt p = (a, p + (prT x).length)) (hb : pt (p + (prT x).length + 1) = (b, p + (prT x).length + 1 + (prT y).length)) : tmW s pt p = (a ++ b ++ [o], p + (jnT o x y).length) := by
  have h2 : At s (p + (prT x).length) [o] := (At.left (y := prT y) h1).right
  have h3 := h2.char
  unfold tmW
  rw [ha]
  dsimp only
  rw [h3.2, if_neg (by rintro (h | h); omega; rw [ho] at h; cases h), hb]
  simp only [jnT, List.length_append, List.length_cons, List.length_nil, Prod.mk.injEq, true_and]
  omega
theorem Tm.pt_ok {s a x : List (Fin 256)} (h : Tm a x) : ∀ {k p : Nat}, At s p (prT x) → s.length < p + k → ptW s k p = (a, p + (prT x).length) := by
  induction h with
  | @leaf c hc =>
    intro k p hA hk
    rw [prT_leaf] at hA ⊢
    obtain ⟨k, rfl⟩ : ∃ q, k = q + 1 := ⟨k - 1, by have := hA.char; omega⟩
    rw [ptW, nx_at hA, if_pos (by dsimp only; rintro rfl; rw [leaf40] at hc; cases hc)]; rfl
  | @op o a x b y ho ha hb iha ihb =>
    intro k p hA hk
    have px := ha.pos
    rw [prT_op px.2] at hA ⊢
    have h0 : At s p [40] := (At.left (y := jnT o x y) (At.left (y := [41]) hA))
    have h1 := h0.char
    have h2 : At s (p + 1) (jnT o x y) := At.right (x := [40]) (At.left (y := [41]) hA)
    have h3 : At s (p + ([40] ++ jnT o x y).length) [41] := At.right (x := [40] ++ jnT o x y) hA
    obtain ⟨k, rfl⟩ : ∃ q, k = q + 1 := ⟨k - 1, by omega⟩
    have hs := Tm.tm_op (pt := ptW s k) (a := a) (b := b) ho h2 (iha (jn_left h2) (by omega)) (ihb (jn_right h2) (by omega))
    have e4 : p + ([40] ++ jnT o x y).length = p + 1 + (jnT o x y).length := by simp; omega
    rw [e4] at h3
    rw [ptW, nx_at h0]
    dsimp only
    rw [if_neg (by decide), hs]
    dsimp only
    rw [nx_at h3]
    dsimp only
    rw [if_neg (by decide)]
    simp only [List.length_append, List.length_cons, List.length_nil, Prod.mk.injEq, true_and]
    omega
theorem Tm.tm_ok {s a x : List (Fin 256)} (h : Tm a x) {k p : Nat} (hA : At s p x) (hn : p + x.length = s.length ∨ operB (s.getD (p + x.length) 0) = false) (hk : s.length < p + k) : tmW s (ptW s k) p = (a, p + x.length) := by
  cases h with
  | @leaf c hc =>
    have h1 := (Tm.leaf hc).pt_ok (s := s) (k := k) (p := p) (by rw [prT_leaf]; exact hA) hk
    rw [prT_leaf] at h1
    unfold tmW
    rw [h1, if_pos hn]
  | @op o a x b y ho ha hb => exact Tm.tm_op ho hA (ha.pt_ok (jn_left hA) hk) (hb.pt_ok (jn_right hA) (by omega))
/-! ### The answer -/
def IdOk (s : List (Fin 256)) (z : List (Fin 256) × List (Fin 256)) : Prop := isTerm z.1 = true ∧ isTerm z.2 = true ∧ txT z.1 ++ [61] ++ txT z.2 = s
noncomputable def piB (s : List (Fin 256)) : Bool := @decide (∃ z, IdOk s z) (Classical.propDecidable _)
noncomputable def piR (s : List (Fin 256)) : List (Fin 256) × List (Fin 256) := @dite _ (∃ z, IdOk s z) (Classical.propDecidable _) (fun h => Classical.choose h) (fun _ => ([], []))
noncomputable def piK (s : List (Fin 256)) : Int := bif piB s then 0 else 6
theorem piB_t {s : List (Fin 256)} {z : List (Fin 256) × List (Fin 256)} (h : IdOk s z) : piB s = true := @decide_eq_true _ (Classical.propDecidable _) ⟨z, h⟩
theorem piB_f {s : List (Fin 256)} (h : ∀ z, ¬ IdOk s z) : piB s = false := @decide_eq_false _ (Classical.propDecidable _) (fun ⟨z, hz⟩ => h z hz)
theorem piR_f {s : List (Fin 256)} (h : piB s = false) : piR s = ([], []) := by
  have h2 : ¬ ∃ z, IdOk s z := @of_decide_eq_false _ (Classical.propDecidable _) h
  unfold piR; rw [dif_neg h2]
theorem piR_t {s : List (Fin 256)} (h : piB s = true) : IdOk s (piR s) := by
  have h2 : ∃ z, IdOk s z := @of_decide_eq_true _ (Classical.propDecidable _) h
  unfold piR; rw [dif_pos h2]; exact Classical.choose_spec h2
theorem IdOk.len {s : List (Fin 256)} {z : List (Fin 256) × List (Fin 256)} (h : IdOk s z) : s.length ≤ 200 := by
  obtain ⟨h1, h2, h3⟩ := h
  have a1 := (term_tm h1).len; have a2 := (term_tm h2).len
  have b1 := term_len h1; have b2 := term_len h2
  have c1 := (prT_len (txT z.1)).1; have c2 := (prT_len (txT z.2)).1
  rw [← h3]; simp; omega
theorem op61 : operB 61 = false := by decide
theorem IdOk.at {s : List (Fin 256)} {z : List (Fin 256) × List (Fin 256)} (h : IdOk s z) : At s 0 (txT z.1) ∧ At s (txT z.1).length [61] ∧ At s ((txT z.1).length + 1) (txT z.2) ∧ s.length = (txT z.1).length + 1 + (txT z.2).length := by
  obtain ⟨h1, h2, h3⟩ := h
  exact ⟨⟨[], [61] ++ txT z.2, by rw [← h3]; simp, rfl⟩, ⟨txT z.1, txT z.2, h3.symm, rfl⟩, ⟨txT z.1 ++ [61], [], by rw [← h3]; simp, by simp⟩, by rw [← h3]; simp; omega⟩
theorem IdOk.spec {s : List (Fin 256)} {z : List (Fin 256) × List (Fin 256)} (h : IdOk s z) {k : Nat} (hk : s.length < k) : sdS s (opS s k) 0 = (z.1, (txT z.1).length, true) ∧ sdS s (opS s k) ((txT z.1).length + 1) = (z.2, s.length, true) := by
  obtain ⟨a1, a2, a3, a4⟩ := h.at
  have c := a2.char
  have e1 := (term_tm h.1).side_ok (k := k) a1 (.inr (by rw [Nat.zero_add, c.2]; exact op61)) (by omega)
  have e2 := (term_tm h.2.1).side_ok (k := k) a3 (.inl (by omega)) (by omega)
  rw [Nat.zero_add] at e1
  rw [← a4] at e2
  exact ⟨e1, e2⟩
theorem IdOk.impl {s : List (Fin 256)} {z : List (Fin 256) × List (Fin 256)} (h : IdOk s z) {k : Nat} (hk : s.length < k) : tmW s (ptW s k) 0 = (z.1, (txT z.1).length) ∧ tmW s (ptW s k) ((txT z.1).length + 1) = (z.2, s.length) := by
  obtain ⟨a1, a2, a3, a4⟩ := h.at
  have c := a2.char
  have e1 := (term_tm h.1).tm_ok (k := k) a1 (.inr (by rw [Nat.zero_add, c.2]; exact op61)) (by omega)
  have e2 := (term_tm h.2.1).tm_ok (k := k) a3 (.inl (by omega)) (by omega)
  rw [Nat.zero_add] at e1
  rw [← a4] at e2
  exact ⟨e1, e2⟩
theorem IdOk.uniq {s : List (Fin 256)} {z w : List (Fin 256) × List (Fin 256)} (h : IdOk s z) (g : IdOk s w) : z = w := by
  have h1 := h.spec (k := s.length + 1) (by omega)
  have g1 := g.spec (k := s.length + 1) (by omega)
  have e1 := h1.1.symm.trans g1.1
  simp only [Prod.mk.injEq, and_true] at e1
  have e2 := h1.2
  rw [e1.2] at e2
  have e3 := e2.symm.trans g1.2
  simp only [Prod.mk.injEq, and_true] at e3
  exact Prod.ext e1.1 e3
theorem piR_of {s : List (Fin 256)} {z : List (Fin 256) × List (Fin 256)} (h : IdOk s z) : piR s = z := (piR_t (piB_t h)).uniq h
/-! ### How far, how long -/
theorem sdS_fact {s : List (Fin 256)} {op : Nat → List (Fin 256) × Nat × Bool} (h : ∀ p, p ≤ s.length → p ≤ (op p).2.1 ∧ (op p).2.1 ≤ s.length ∧ (op p).1.length ≤ (op p).2.1 - p ∧ ((op p).2.2 = true → 1 ≤ (op p).1.length)) {p : Nat} (hp : p ≤ s.length) :
    p ≤ (sdS s op p).2.1 ∧ (sdS s op p).2.1 ≤ s.length ∧ (sdS s op p).1.length ≤ (sdS s op p).2.1 - p ∧ ((sdS s op p).2.2 = true → 1 ≤ (sdS s op p).1.length) := by
  obtain ⟨a1, a2, a3, a4⟩ := h p hp
  unfold sdS
  by_cases h1 : (op p).2.2 = false ∨ s.length ≤ (op p).2.1 ∨ operB (s.getD (op p).2.1 0) = false
  · rw [if_pos h1]; exact ⟨a1, a2, a3, a4⟩
  · rw [if_neg h1]
    obtain ⟨b1, b2, b3, b4⟩ := h ((op p).2.1 + 1) (by omega)
    by_cases h2 : (op ((op p).2.1 + 1)).2.2 = false
    · rw [if_pos h2]; exact ⟨Nat.le_refl _, hp, by simp, fun hh => by cases hh⟩
    · rw [if_neg h2]
      refine ⟨by dsimp only; omega, b2, ?_, fun _ => by simp; omega⟩
      simp only [List.length_append, List.length_cons, List.length_nil]; omega
theorem opS_fact {s : List (Fin 256)} : ∀ k p, p ≤ s.length → p ≤ (opS s k p).2.1 ∧ (opS s k p).2.1 ≤ s.length ∧ (opS s k p).1.length ≤ (opS s k p).2.1 - p ∧ ((opS s k p).2.2 = true → 1 ≤ (opS s k p).1.length)
  | 0, p, hp => ⟨Nat.le_refl _, hp, by simp [opS], fun hh => by cases hh⟩
  | k + 1, p, hp => by
    have hbad : p ≤ (([], p, false) : List (Fin 256) × Nat × Bool).2.1 ∧ (([], p, false) : List (Fin 256) × Nat × Bool).2.1 ≤ s.length ∧ (([], p, false) : List (Fin 256) × Nat × Bool).1.length ≤ (([], p, false) : List (Fin 256) × Nat × Bool).2.1 - p ∧ ((([], p, false) : List (Fin 256) × Nat × Bool).2.2 = true → 1 ≤ (([], p, false) : List (Fin 256) × Nat × Bool).1.length) := ⟨Nat.le_refl _, hp, by simp, fun hh => by cases hh⟩
    rw [opS]
    by_cases h1 : s.length ≤ p
    · rw [if_pos h1]; exact hbad
    · rw [if_neg h1]
      by_cases h2 : leafB (s.getD p 0) = true
      · rw [if_pos h2]; exact ⟨by dsimp only; omega, by dsimp only; omega, by simp, fun _ => by simp⟩
      · rw [if_neg h2]
        by_cases h3 : s.getD p 0 = 40
        · rw [if_pos h3]
          by_cases h4 : (sdS s (opS s k) (p + 1)).2.2 = false ∨ (sdS s (opS s k) (p + 1)).1.length = 1 ∨ s.length ≤ (sdS s (opS s k) (p + 1)).2.1 ∨ s.getD (sdS s (opS s k) (p + 1)).2.1 0 ≠ 41
          · rw [if_pos h4]; exact hbad
          · rw [if_neg h4]
            obtain ⟨b1, b2, b3, b4⟩ := sdS_fact (op := opS s k) (fun p hp => opS_fact k p hp) (p := p + 1) (by omega)
            have h5 : (sdS s (opS s k) (p + 1)).2.2 = true := by
              cases h6 : (sdS s (opS s k) (p + 1)).2.2 with
              | true => rfl
              | false => exact absurd (.inl h6) h4
            exact ⟨by dsimp only; omega, by dsimp only; omega, by dsimp only; omega, fun _ => b4 h5⟩
        · rw [if_neg h3]; exact hbad
theorem tmW_fact {s : List (Fin 256)} {pt : Nat → List (Fin 256) × Nat} (h : ∀ p, p ≤ s.length → p ≤ (pt p).2 ∧ (pt p).2 ≤ s.length ∧ (pt p).1.length ≤ 2 * ((pt p).2 - p) + 1) {p : Nat} (hp : p ≤ s.length) : p ≤ (tmW s pt p).2 ∧ (tmW s pt p).2 ≤ s.length ∧ (tmW s pt p).1.length ≤ 2 * ((tmW s pt p).2 - p) + 1 := by
  obtain ⟨a1, a2, a3⟩ := h p hp
  unfold tmW
  by_cases h1 : (pt p).2 = s.length ∨ operB (s.getD (pt p).2 0) = false
  · rw [if_pos h1]; exact ⟨a1, a2, a3⟩
  · rw [if_neg h1]
    obtain ⟨b1, b2, b3⟩ := h ((pt p).2 + 1) (by omega)
    refine ⟨by dsimp only; omega, b2, ?_⟩
    simp only [List.length_append, List.length_cons, List.length_nil]; omega
theorem ptW_fact {s : List (Fin 256)} : ∀ k p, p ≤ s.length → p ≤ (ptW s k p).2 ∧ (ptW s k p).2 ≤ s.length ∧ (ptW s k p).1.length ≤ 2 * ((ptW s k p).2 - p) + 1
  | 0, p, hp => ⟨Nat.le_refl _, hp, by simp [ptW]⟩
  | k + 1, p, hp => by
    have n1 := nxW_le hp
    rw [ptW]
    by_cases h1 : (nxW s p).1 ≠ 40
    · rw [if_pos h1]; exact ⟨n1.1, n1.2, by simp⟩
    · rw [if_neg h1]
      obtain ⟨b1, b2, b3⟩ := tmW_fact (pt := ptW s k) (fun p hp => ptW_fact k p hp) n1.2
      have n2 := nxW_le b2
      by_cases h2 : (nxW s (tmW s (ptW s k) (nxW s p).2).2).1 ≠ 41
      · rw [if_pos h2]; exact ⟨by dsimp only; omega, n2.2, by simp⟩
      · rw [if_neg h2]; exact ⟨by dsimp only; omega, n2.2, by dsimp only; omega⟩
theorem tm_stop {s : List (Fin 256)} {pt : Nat → List (Fin 256) × Nat} {p : Nat} (h : (pt p).2 = s.length) : tmW s pt p = pt p := if_pos (.inl h)
theorem tm_stop2 {s : List (Fin 256)} {pt : Nat → List (Fin 256) × Nat} {p : Nat} (h : operB (s.getD (pt p).2 0) = false) : tmW s pt p = pt p := if_pos (.inr h)
theorem tm_go {s : List (Fin 256)} {pt : Nat → List (Fin 256) × Nat} {p : Nat} (h : ¬ (pt p).2 = s.length) (h2 : operB (s.getD (pt p).2 0) = true) : tmW s pt p = ((pt p).1 ++ (pt ((pt p).2 + 1)).1 ++ [s.getD (pt p).2 0], (pt ((pt p).2 + 1)).2) := if_neg (by rintro (hh | hh); exact h hh; rw [h2] at hh; cases hh)
theorem nx_end {s : List (Fin 256)} {p : Nat} (h : p = s.length) : nxW s p = (0, p) := if_pos h
theorem nx_in {s : List (Fin 256)} {p : Nat} (h : ¬ p = s.length) : nxW s p = (s.getD p 0, p + 1) := if_neg h
theorem ch40 {c : Fin 256} : ((c.val : Nat) : Int) = 40 ↔ c = 40 := ⟨fun h => Fin.ext (by show c.val = 40; omega), by rintro rfl; rfl⟩
theorem ch41 {c : Fin 256} : ((c.val : Nat) : Int) = 41 ↔ c = 41 := ⟨fun h => Fin.ext (by show c.val = 41; omega), by rintro rfl; rfl⟩
theorem ch61 {c : Fin 256} : ((c.val : Nat) : Int) = 61 ↔ c = 61 := ⟨fun h => Fin.ext (by show c.val = 61; omega), by rintro rfl; rfl⟩
/-! ### Where the program stops -/
theorem pi_len {s : List (Fin 256)} (h : 200 < s.length) : piB s = false := piB_f fun z hz => by have := hz.len; omega
theorem IdOk.nx {s : List (Fin 256)} {z : List (Fin 256) × List (Fin 256)} (h : IdOk s z) : nxW s (txT z.1).length = (61, (txT z.1).length + 1) := nx_at h.at.2.1
theorem pi_no61 {s : List (Fin 256)} {k : Nat} (hk : s.length < k) (h : (nxW s (tmW s (ptW s k) 0).2).1 ≠ 61) : piB s = false := piB_f fun z hz => h (by
  rw [(hz.impl hk).1]; dsimp only; rw [hz.nx])
theorem pi_eq {s : List (Fin 256)} {k : Nat} (hk : s.length < k) {z : List (Fin 256) × List (Fin 256)} (hz : IdOk s z) : (tmW s (ptW s k) 0).1 = z.1 ∧ (tmW s (ptW s k) (nxW s (tmW s (ptW s k) 0).2).2).1 = z.2 := by
  obtain ⟨e1, e2⟩ := hz.impl hk
  refine ⟨by rw [e1], ?_⟩
  rw [e1]; dsimp only; rw [hz.nx]; dsimp only; rw [e2]
theorem pi_noT {s : List (Fin 256)} {k : Nat} (hk : s.length < k) (h : ¬ ((isTerm (tmW s (ptW s k) 0).1 && isTerm (tmW s (ptW s k) (nxW s (tmW s (ptW s k) 0).2).2).1) = true)) : piB s = false := piB_f fun z hz => h (by
  obtain ⟨e1, e2⟩ := pi_eq hk hz
  rw [e1, e2, hz.1, hz.2.1]; rfl)
theorem pi_noS {s : List (Fin 256)} {k : Nat} (hk : s.length < k) (h : ¬ txT (tmW s (ptW s k) 0).1 ++ [61] ++ txT (tmW s (ptW s k) (nxW s (tmW s (ptW s k) 0).2).2).1 = s) : piB s = false := piB_f fun z hz => h (by
  obtain ⟨e1, e2⟩ := pi_eq hk hz
  rw [e1, e2]; exact hz.2.2)
/-! ### Where the specification stops -/
theorem sd_eq {s : List (Fin 256)} {k : Nat} (hk : s.length < k) {z : List (Fin 256) × List (Fin 256)} (hz : IdOk s z) : sdS s (opS s k) 0 = (z.1, (txT z.1).length, true) ∧ (txT z.1).length < s.length ∧ s.getD (txT z.1).length 0 = 61 ∧ sdS s (opS s k) ((txT z.1).length + 1) = (z.2, s.length, true) := ⟨(hz.spec hk).1, hz.at.2.1.char.1, hz.at.2.1.char.2, (hz.spec hk).2⟩
theorem ps_no1 {s : List (Fin 256)} {k : Nat} (hk : s.length < k) (h : (sdS s (opS s k) 0).2.2 = false ∨ s.length ≤ (sdS s (opS s k) 0).2.1 ∨ s.getD (sdS s (opS s k) 0).2.1 0 ≠ 61) : piB s = false := piB_f fun z hz => by
  obtain ⟨e1, e2, e3, e4⟩ := sd_eq hk hz
  rw [e1] at h
  dsimp only at h
  rcases h with h | h | h
  · cases h
  · omega
  · exact h e3
theorem ps_no2 {s : List (Fin 256)} {k : Nat} (hk : s.length < k) (h : (sdS s (opS s k) ((sdS s (opS s k) 0).2.1 + 1)).2.2 = false ∨ (sdS s (opS s k) ((sdS s (opS s k) 0).2.1 + 1)).2.1 ≠ s.length ∨ (isTerm (sdS s (opS s k) 0).1 && isTerm (sdS s (opS s k) ((sdS s (opS s k) 0).2.1 + 1)).1) = false ∨ txT (sdS s (opS s k) 0).1 ++ [61] ++ txT (sdS s (opS s k) ((sdS s (opS s k) 0).2.1 + 1)).1 ≠ s) : piB s = false := piB_f fun z hz => by
  obtain ⟨e1, e2, e3, e4⟩ := sd_eq hk hz
  rw [e1] at h
  dsimp only at h
  rw [e4] at h
  dsimp only at h
  rcases h with h | h | h | h
  · cases h
  · exact h rfl
  · rw [hz.1, hz.2.1] at h; cases h
  · exact h hz.2.2
theorem sd_stop {s : List (Fin 256)} {op : Nat → List (Fin 256) × Nat × Bool} {p : Nat} (h : (op p).2.2 = false ∨ s.length ≤ (op p).2.1 ∨ operB (s.getD (op p).2.1 0) = false) : sdS s op p = op p := if_pos h
theorem sd_fail {s : List (Fin 256)} {op : Nat → List (Fin 256) × Nat × Bool} {p : Nat} (h : ¬ ((op p).2.2 = false ∨ s.length ≤ (op p).2.1 ∨ operB (s.getD (op p).2.1 0) = false)) (h2 : (op ((op p).2.1 + 1)).2.2 = false) : sdS s op p = ([], p, false) := by unfold sdS; rw [if_neg h, if_pos h2]
theorem sd_go {s : List (Fin 256)} {op : Nat → List (Fin 256) × Nat × Bool} {p : Nat} (h : ¬ ((op p).2.2 = false ∨ s.length ≤ (op p).2.1 ∨ operB (s.getD (op p).2.1 0) = false)) (h2 : ¬ (op ((op p).2.1 + 1)).2.2 = false) : sdS s op p = ((op p).1 ++ (op ((op p).2.1 + 1)).1 ++ [s.getD (op p).2.1 0], (op ((op p).2.1 + 1)).2.1, true) := by unfold sdS; rw [if_neg h, if_neg h2]
theorem op_end {s : List (Fin 256)} {k p : Nat} (h : s.length ≤ p) : opS s (k + 1) p = ([], p, false) := by rw [opS, if_pos h]
theorem op_leaf {s : List (Fin 256)} {k p : Nat} (h : ¬ s.length ≤ p) (h2 : leafB (s.getD p 0) = true) : opS s (k + 1) p = ([s.getD p 0], p + 1, true) := by rw [opS, if_neg h, if_pos h2]
theorem op_else {s : List (Fin 256)} {k p : Nat} (h : ¬ s.length ≤ p) (h2 : leafB (s.getD p 0) = false) (h3 : ¬ s.getD p 0 = 40) : opS s (k + 1) p = ([], p, false) := by rw [opS, if_neg h, if_neg (by rw [h2]; decide), if_neg h3]
theorem op_bad {s : List (Fin 256)} {k p : Nat} (h : ¬ s.length ≤ p) (h2 : leafB (s.getD p 0) = false) (h3 : s.getD p 0 = 40) (h4 : (sdS s (opS s k) (p + 1)).2.2 = false ∨ (sdS s (opS s k) (p + 1)).1.length = 1 ∨ s.length ≤ (sdS s (opS s k) (p + 1)).2.1 ∨ s.getD (sdS s (opS s k) (p + 1)).2.1 0 ≠ 41) : opS s (k + 1) p = ([], p, false) := by rw [opS, if_neg h, if_neg (by rw [h2]; decide), if_pos h3, if_pos h4]
theorem op_par {s : List (Fin 256)} {k p : Nat} (h : ¬ s.length ≤ p) (h2 : leafB (s.getD p 0) = false) (h3 : s.getD p 0 = 40) (h4 : ¬ ((sdS s (opS s k) (p + 1)).2.2 = false ∨ (sdS s (opS s k) (p + 1)).1.length = 1 ∨ s.length ≤ (sdS s (opS s k) (p + 1)).2.1 ∨ s.getD (sdS s (opS s k) (p + 1)).2.1 0 ≠ 41)) : opS s (k + 1) p = ((sdS s (opS s k) (p + 1)).1, (sdS s (opS s k) (p + 1)).2.1 + 1, true) := by rw [opS, if_neg h, if_neg (by rw [h2]; decide), if_pos h3, if_neg h4]
theorem ps_eq {s : List (Fin 256)} {k : Nat} (hk : s.length < k) (h : piB s = true) : ((sdS s (opS s k) 0).1, (sdS s (opS s k) ((sdS s (opS s k) 0).2.1 + 1)).1) = piR s := by
  obtain ⟨e1, e2, e3, e4⟩ := sd_eq hk (piR_t h)
  rw [e1]; dsimp only; rw [e4]
theorem ps_fin {s : List (Fin 256)} {k : Nat} (hk : s.length < k) (h1 : isTerm (sdS s (opS s k) 0).1 = true) (h2 : isTerm (sdS s (opS s k) ((sdS s (opS s k) 0).2.1 + 1)).1 = true) : decide (txT (sdS s (opS s k) 0).1 ++ [61] ++ txT (sdS s (opS s k) ((sdS s (opS s k) 0).2.1 + 1)).1 = s) = piB s := by
  by_cases e : txT (sdS s (opS s k) 0).1 ++ [61] ++ txT (sdS s (opS s k) ((sdS s (opS s k) 0).2.1 + 1)).1 = s
  · rw [decide_eq_true e]; exact (piB_t (z := (_, _)) ⟨h1, h2, e⟩).symm
  · rw [decide_eq_false e]; exact (ps_no2 hk (.inr (.inr (.inr e)))).symm
theorem piR_len (s : List (Fin 256)) : (piR s).1.length ≤ 40 ∧ (piR s).2.length ≤ 40 := by
  cases h : piB s with
  | false => rw [piR_f h]; simp
  | true => exact ⟨term_len (piR_t h).1, term_len (piR_t h).2.1⟩
end Go.Proofs.Ytdcpggdbjllmpaa
