/- Reading the text of a square. No conditions but those in the statements. -/
import Derived.Test.YtjihhcjpbcmjaaaFGM27
import Derived.Test.YtjihhcjpbcmjaaaFGM7
namespace Go.Proofs.Ytjihhcjpbcmjaaa
open Gx
set_option linter.unusedVariables false
theorem IsPerm.same {p q : Nat → Fin 256} {n : Int} (h : IsPerm p n) (e : ∀ j, j < 10 → q j = p j) : IsPerm q n := by
  obtain ⟨h1, h2, ⟨h3, h4⟩, h5⟩ := h
  exact ⟨h1, h2, ⟨fun i hi h => by rw [e i hi]; exact h3 i hi h, fun i hi h => by rw [e i hi]; exact h4 i hi h⟩, fun i j hi hj a b h => by rw [e i hi, e j hj] at h; exact h5 i j hi hj a b h⟩
theorem some_getD {l : List (Fin 256)} {y : Nat} (h : y < l.length) : l[y]? = some (l.getD y 0) := by simp [List.getD, List.getElem?_eq_getElem h]
def TxOk (s : List (Fin 256)) (z : Int × (Nat → Fin 256)) : Prop := SqP z.1 z.2 ∧ txS z.2 z.1.toNat z.1.toNat = s
noncomputable def txB (s : List (Fin 256)) : Bool := @decide (∃ z, TxOk s z) (Classical.propDecidable _)
noncomputable def psR (s : List (Fin 256)) : Int × (Nat → Fin 256) := @dite _ (∃ z, TxOk s z) (Classical.propDecidable _) (fun h => Classical.choose h) (fun _ => (0, fun _ => 0))
theorem txB_t {s : List (Fin 256)} {z : Int × (Nat → Fin 256)} (h : TxOk s z) : txB s = true := @decide_eq_true _ (Classical.propDecidable _) ⟨z, h⟩
theorem txB_f {s : List (Fin 256)} (h : ∀ z, ¬ TxOk s z) : txB s = false := @decide_eq_false _ (Classical.propDecidable _) (fun ⟨z, hz⟩ => h z hz)
theorem psR_t {s : List (Fin 256)} (h : txB s = true) : TxOk s (psR s) := by
  have h2 : ∃ z, TxOk s z := @of_decide_eq_true _ (Classical.propDecidable _) h
  unfold psR; rw [dif_pos h2]; exact Classical.choose_spec h2
/-! ### Cells of the text -/
theorem sep_len {t : Nat → Fin 256} {m : Nat} : ∀ i, (txS t m i ++ sepT i).length = i * (m + 1)
  | 0 => by simp [txS, sepT]
  | i + 1 => by
    have h1 := sep_len (t := t) (m := m) i
    rw [List.length_append] at h1
    rw [sep_t (by omega), txS, List.length_append, List.length_append, List.length_append, h1, rowTx_len, Nat.succ_mul]; rfl
theorem txS_length {t : Nat → Fin 256} {m i : Nat} (hi : 0 < i) : (txS t m i).length + 1 = i * (m + 1) := by
  rw [← sep_len (t := t) (m := m) i, sep_t hi, List.length_append]; rfl
theorem rowTx_at {t : Nat → Fin 256} {i y : Nat} : ∀ j, y < j → (rowTx t i j).getD y 0 = Fin.ofNat 256 (48 + (t (10 * i + y)).val)
  | 0, h => by omega
  | j + 1, h => by
    have hl := rowTx_len (t := t) (i := i) j
    by_cases e : y = j
    · subst e
      simp only [rowTx, List.getD, List.getElem?_append_right (show (rowTx t i y).length ≤ y by omega), hl, Nat.sub_self]
      rfl
    · have := rowTx_at (t := t) (i := i) j (show y < j by omega)
      simp only [rowTx, List.getD, List.getElem?_append_left (show y < (rowTx t i j).length by omega)]
      exact this
theorem txS_at {t : Nat → Fin 256} {m x y : Nat} (hy : y < m) : ∀ i, x < i → (txS t m i).getD (x * (m + 1) + y) 0 = Fin.ofNat 256 (48 + (t (10 * x + y)).val)
  | 0, h => by omega
  | i + 1, h => by
    have hl := sep_len (t := t) (m := m) i
    have hr := rowTx_len (t := t) (i := i) m
    by_cases e : x = i
    · subst e
      simp only [txS, List.getD, List.getElem?_append_right (show (txS t m x ++ sepT x).length ≤ x * (m + 1) + y by omega), hl, Nat.add_sub_cancel_left]
      exact rowTx_at m hy
    · have h1 : (x + 1) * (m + 1) ≤ i * (m + 1) := Nat.mul_le_mul_right _ (by omega)
      rw [Nat.succ_mul] at h1
      have h2 := txS_length (t := t) (m := m) (i := i) (by omega)
      have := txS_at (t := t) (m := m) hy i (show x < i by omega)
      simp only [txS, List.append_assoc, List.getD, List.getElem?_append_left (show x * (m + 1) + y < (txS t m i).length by omega)]
      exact this
theorem TxOk.len {s : List (Fin 256)} {z : Int × (Nat → Fin 256)} (h : TxOk s z) : s.length + 1 = z.1.toNat * (z.1.toNat + 1) := by
  have h1 := h.1.1
  rw [← h.2]; exact txS_length (by omega)
theorem TxOk.cell {s : List (Fin 256)} {z : Int × (Nat → Fin 256)} (h : TxOk s z) {x y : Nat} (hx : x < z.1.toNat) (hy : y < z.1.toNat) : s.getD (x * (z.1.toNat + 1) + y) 0 = Fin.ofNat 256 (48 + (z.2 (10 * x + y)).val) := by
  rw [← h.2]; exact txS_at hy _ hx
def sub48 (c : Fin 256) : Fin 256 := Fin.ofNat 256 (c.val + 208)
theorem sub48_of {v : Fin 256} (h : v.val < 10) : sub48 (Fin.ofNat 256 (48 + v.val)) = v := by
  unfold sub48
  apply Fin.ext
  simp only [Fin.ofNat]
  omega
theorem sub48_back {c : Fin 256} (h : 48 ≤ c.val) : Fin.ofNat 256 (48 + (sub48 c).val) = c := by
  unfold sub48
  apply Fin.ext
  simp only [Fin.ofNat]
  have := c.isLt
  omega
theorem SqP.ext {n : Int} {t u : Nat → Fin 256} (h : SqP n t) (e : ∀ k, k < 100 → u k = t k) : SqP n u := by
  refine ⟨h.1, fun x hx => ⟨fun hn => ((h.2.1 x hx).1 hn).same fun j hj => e _ (by omega), fun hn j hj => (e _ (by omega)).trans ((h.2.1 x hx).2 hn j hj)⟩, fun x hx => ⟨fun hn => ((h.2.2 x hx).1 hn).same fun j hj => ?_, fun hn j hj => ?_⟩⟩
  · show u (10 * ((10 * x + j) % 10) + (10 * x + j) / 10) = t (10 * ((10 * x + j) % 10) + (10 * x + j) / 10)
    exact e _ (by omega)
  · have := (h.2.2 x hx).2 hn j hj
    refine Eq.trans ?_ this
    show u (10 * ((10 * x + j) % 10) + (10 * x + j) / 10) = t (10 * ((10 * x + j) % 10) + (10 * x + j) / 10)
    exact e _ (by omega)
theorem rowTx_ext {t u : Nat → Fin 256} {i : Nat} : ∀ j, (∀ y, y < j → u (10 * i + y) = t (10 * i + y)) → rowTx u i j = rowTx t i j
  | 0, _ => rfl
  | j + 1, e => by rw [rowTx, rowTx, rowTx_ext j (fun y hy => e y (by omega)), e j (by omega)]
theorem txS_ext {t u : Nat → Fin 256} {m : Nat} : ∀ i, (∀ x y, x < i → y < m → u (10 * x + y) = t (10 * x + y)) → txS u m i = txS t m i
  | 0, _ => rfl
  | i + 1, e => by rw [txS, txS, txS_ext i (fun x y hx hy => e x y (by omega) hy), rowTx_ext m (fun y hy => e i y (by omega) hy)]
theorem TxOk.ext {s : List (Fin 256)} {n : Int} {t u : Nat → Fin 256} (h : TxOk s (n, t)) (e : ∀ k, k < 100 → u k = t k) : TxOk s (n, u) := by
  have h1 := h.1.1
  refine ⟨h.1.ext e, ?_⟩
  have := h.2
  dsimp only at this h1 ⊢
  rw [txS_ext n.toNat fun x y hx hy => e _ (by omega)]; exact this
theorem TxOk.tab {s : List (Fin 256)} {n : Int} {t g : Nat → Fin 256} {f : Nat → Nat → Fin 256} (h : TxOk s (n, t)) (hg : ∀ k, k < 100 → g k = part n.toNat f n.toNat 0 k) (hf : ∀ x y, x < n.toNat → y < n.toNat → f x y = sub48 (s.getD (x * (n.toNat + 1) + y) 0)) : TxOk s (n, g) := h.ext fun k hk => by
  have h1 : 1 ≤ n ∧ n ≤ 10 := h.1.1
  have hk2 : k = 10 * (k / 10) + k % 10 := by omega
  rw [hg k hk]
  unfold part
  split
  · rename_i hc
    rcases hc with ⟨hx, hy⟩ | ⟨_, hy⟩
    · have hc := h.cell (x := k / 10) (y := k % 10) hx hy
      have l1 := sq_lt h.1 (x := k / 10) (y := k % 10) (by dsimp only; omega) (by dsimp only; omega)
      dsimp only at hc l1
      rw [hf _ _ hx hy, hc]
      rw [sub48_of (by omega), ← hk2]
    · omega
  · rename_i hc
    by_cases hx : k / 10 < n.toNat
    · have := sq_zc h.1 (x := k / 10) (y := k % 10) (by omega) (by dsimp only; omega) (by omega)
      dsimp only at this
      rw [← hk2] at this; exact this.symm
    · have := sq_zr h.1 (x := k / 10) (y := k % 10) (by dsimp only; omega) (by omega) (by omega)
      dsimp only at this
      rw [← hk2] at this; exact this.symm
/-! ### Parts between separators -/
def jc (P : List (List (Fin 256))) : List (Fin 256) := (P.map (· ++ [47])).flatten
theorem jc_snoc (P : List (List (Fin 256))) (p : List (Fin 256)) : jc (P ++ [p]) = jc P ++ (p ++ [47]) := by simp [jc]
theorem cut_eq {a b : List (Fin 256)} : ∀ {p q : List (Fin 256)}, 47 ∉ p → 47 ∉ q → p ++ 47 :: a = q ++ 47 :: b → p = q ∧ a = b
  | [], [], _, _, h => ⟨rfl, by simpa using h⟩
  | [], d :: q, _, hq, h => by
    simp only [List.nil_append, List.cons_append, List.cons.injEq] at h
    exact absurd (by rw [← h.1]; exact List.mem_cons_self) hq
  | c :: p, [], hp, _, h => by
    simp only [List.nil_append, List.cons_append, List.cons.injEq] at h
    exact absurd (by rw [h.1]; exact List.mem_cons_self) hp
  | c :: p, d :: q, hp, hq, h => by
    simp only [List.cons_append, List.cons.injEq] at h
    have := cut_eq (fun hh => hp (List.mem_cons_of_mem _ hh)) (fun hh => hq (List.mem_cons_of_mem _ hh)) h.2
    exact ⟨by rw [h.1, this.1], this.2⟩
theorem jc_uniq {l m : List (Fin 256)} (hl : 47 ∉ l) (hm : 47 ∉ m) : ∀ {P Q : List (List (Fin 256))}, (∀ p ∈ P, 47 ∉ p) → (∀ p ∈ Q, 47 ∉ p) → jc P ++ l = jc Q ++ m → P = Q ∧ l = m
  | [], [], _, _, h => ⟨rfl, by simpa [jc] using h⟩
  | [], q :: Q, _, _, h => by
    simp only [jc, List.map_nil, List.flatten_nil, List.nil_append, List.map_cons, List.flatten_cons] at h
    exact absurd (by rw [h]; simp) hl
  | p :: P, [], _, _, h => by
    simp only [jc, List.map_nil, List.flatten_nil, List.nil_append, List.map_cons, List.flatten_cons] at h
    exact absurd (by rw [← h]; simp) hm
  | p :: P, q :: Q, hP, hQ, h => by
    have h' : p ++ 47 :: (jc P ++ l) = q ++ 47 :: (jc Q ++ m) := by simpa [jc] using h
    have h1 := cut_eq (hP p List.mem_cons_self) (hQ q List.mem_cons_self) h'
    have h2 := jc_uniq hl hm (fun x hx => hP x (List.mem_cons_of_mem _ hx)) (fun x hx => hQ x (List.mem_cons_of_mem _ hx)) h1.2
    exact ⟨by rw [h1.1, h2.1], h2.2⟩
def rws (t : Nat → Fin 256) (m i : Nat) : List (List (Fin 256)) := (List.range i).map fun k => rowTx t k m
theorem rws_succ (t : Nat → Fin 256) (m i : Nat) : rws t m (i + 1) = rws t m i ++ [rowTx t i m] := by simp [rws, List.range_succ]
theorem sep_jc {t : Nat → Fin 256} {m : Nat} : ∀ i, txS t m i ++ sepT i = jc (rws t m i)
  | 0 => by simp [txS, sepT, rws, jc]
  | i + 1 => by rw [rws_succ, jc_snoc, ← sep_jc i, sep_t (by omega), txS]; simp
theorem txS_jc (t : Nat → Fin 256) (m i : Nat) : txS t m (i + 1) = jc (rws t m i) ++ rowTx t i m := by rw [txS, sep_jc]
theorem mem_rowTx {t : Nat → Fin 256} {i : Nat} {c : Fin 256} : ∀ j, c ∈ rowTx t i j → ∃ y, y < j ∧ c = Fin.ofNat 256 (48 + (t (10 * i + y)).val)
  | 0, h => by simp [rowTx] at h
  | j + 1, h => by
    rw [rowTx, List.mem_append] at h
    rcases h with h | h
    · obtain ⟨y, h1, h2⟩ := mem_rowTx j h; exact ⟨y, by omega, h2⟩
    · exact ⟨j, by omega, by simpa using h⟩
theorem no47 {n : Int} {t : Nat → Fin 256} (h : SqP n t) {i : Nat} (hi : i < n.toNat) : 47 ∉ rowTx t i n.toNat := fun hm => by
  obtain ⟨y, h1, h2⟩ := mem_rowTx _ hm
  have h3 := h.1
  have h4 := sq_lt h (x := i) (y := y) (by omega) (by omega)
  have h5 := congrArg Fin.val h2
  simp only [Fin.ofNat] at h5
  have h6 : ((47 : Fin 256).val) = 47 := rfl
  omega
/-- A text in parts. -/
structure Spl (s : List (Fin 256)) (P : List (List (Fin 256))) : Prop where
  out : ∃ Q l, P = Q ++ [l] ∧ s = jc Q ++ l ∧ (∀ p ∈ Q, 47 ∉ p) ∧ 47 ∉ l
theorem Spl.rows {s : List (Fin 256)} {P : List (List (Fin 256))} (h : Spl s P) {n : Int} {t : Nat → Fin 256} (g : TxOk s (n, t)) : P = rws t n.toNat n.toNat := by
  obtain ⟨Q, l, e, hs, hQ, hl⟩ := h.out
  have h1 : 1 ≤ n ∧ n ≤ 10 := g.1.1
  have h2 : txS t n.toNat n.toNat = s := g.2
  obtain ⟨k, hk⟩ : ∃ k, n.toNat = k + 1 := ⟨n.toNat - 1, by omega⟩
  have h3 : jc (rws t n.toNat k) ++ rowTx t k n.toNat = jc Q ++ l := by
    rw [← hs, ← h2]
    conv => rhs; rw [show txS t n.toNat n.toNat = txS t n.toNat (k + 1) by rw [← hk]]
    exact (txS_jc t n.toNat k).symm
  have h4 := jc_uniq (no47 g.1 (i := k) (by dsimp only; omega)) hl (fun p hp => by
    obtain ⟨x, hx, rfl⟩ := List.mem_map.1 hp
    exact no47 g.1 (by have := List.mem_range.1 hx; dsimp only; omega)) hQ h3
  rw [e, ← h4.1, ← h4.2, ← rws_succ, ← hk]
theorem rws_len (t : Nat → Fin 256) (m i : Nat) : (rws t m i).length = i := by simp [rws]
theorem rws_at {t : Nat → Fin 256} {m i x : Nat} (hx : x < i) : (rws t m i).getD x [] = rowTx t x m := by simp [rws, List.getD, hx]
theorem Spl.len {s : List (Fin 256)} {P : List (List (Fin 256))} (h : Spl s P) {z : Int × (Nat → Fin 256)} (g : TxOk s z) : z.1 = (P.length : Int) := by
  have h1 := g.1.1
  rw [h.rows (n := z.1) (t := z.2) g, rws_len]; omega
theorem Spl.row {s : List (Fin 256)} {P : List (List (Fin 256))} (h : Spl s P) {z : Int × (Nat → Fin 256)} (g : TxOk s z) {x : Nat} (hx : x < P.length) : P.getD x [] = rowTx z.2 x P.length := by
  have h1 := h.rows (n := z.1) (t := z.2) g
  have h2 : z.1.toNat = P.length := by have := h.len g; omega
  have h3 := rws_at (t := z.2) (m := z.1.toNat) (i := z.1.toNat) (x := x) (by omega)
  rw [← h1, h2] at h3; exact h3
theorem Spl.many {s : List (Fin 256)} {P : List (List (Fin 256))} (h : Spl s P) (hn : 10 < P.length) : txB s = false := txB_f fun z g => by
  have := h.len g; have := g.1.1; omega
theorem Spl.long {s : List (Fin 256)} {P : List (List (Fin 256))} (h : Spl s P) {x : Nat} (hx : x < P.length) (hl : (P.getD x []).length ≠ P.length) : txB s = false := txB_f fun z g => by
  rw [h.row g hx, rowTx_len] at hl; exact hl rfl
theorem Spl.digit {s : List (Fin 256)} {P : List (List (Fin 256))} (h : Spl s P) {x y : Nat} (hx : x < P.length) (hy : y < P.length) (hd : ¬ (48 ≤ ((P.getD x []).getD y 0).val ∧ ((P.getD x []).getD y 0).val ≤ 57)) : txB s = false := txB_f fun z g => by
  have h1 := g.1.1
  have h2 := h.len g
  have h4 := sq_lt g.1 (x := x) (y := y) (by omega) (by omega)
  rw [h.row g hx, rowTx_at _ hy] at hd
  simp only [Fin.ofNat] at hd
  omega
/-- The table of the parts. -/
def spT (P : List (List (Fin 256))) (i j : Nat) : Nat → Fin 256 := part P.length (fun x y => sub48 ((P.getD x []).getD y 0)) i j
theorem Spl.sq {s : List (Fin 256)} {P : List (List (Fin 256))} (h : Spl s P) {z : Int × (Nat → Fin 256)} (g : TxOk s z) : TxOk s ((P.length : Int), spT P P.length 0) := by
  have h1 := g.1.1
  have h2 := h.len g
  have g' : TxOk s ((P.length : Int), z.2) := by rw [← h2]; exact g
  refine g'.tab (f := fun x y => sub48 ((P.getD x []).getD y 0)) (fun k hk => by simp only [Int.toNat_natCast]; rfl) fun x y hx hy => ?_
  have hc := g'.cell (x := x) (y := y) hx hy
  dsimp only at hc hx hy ⊢
  rw [hc, h.row g (by omega), rowTx_at _ (by omega)]
theorem Spl.isSq {s : List (Fin 256)} {P : List (List (Fin 256))} (h : Spl s P) (hl : ∀ x, x < P.length → (P.getD x []).length = P.length) (hd : ∀ x y, x < P.length → y < P.length → 48 ≤ ((P.getD x []).getD y 0).val ∧ ((P.getD x []).getD y 0).val ≤ 57) : isSq (P.length : Int) (spT P P.length 0) = txB s := by
  rw [Bool.eq_iff_iff]
  constructor
  · intro hs
    refine txB_t (z := ((P.length : Int), spT P P.length 0)) ⟨of_isSq hs, ?_⟩
    obtain ⟨Q, l, e, hs', hQ, hll⟩ := h.out
    have hrow : ∀ x, x < P.length → rowTx (spT P P.length 0) x P.length = P.getD x [] := fun x hx => by
      apply List.ext_getElem?
      intro y
      have e1 := rowTx_len (t := spT P P.length 0) (i := x) P.length
      by_cases hy : y < P.length
      · have h1 := rowTx_at (t := spT P P.length 0) (i := x) (y := y) P.length hy
        have hp : P.length ≤ 10 := by have := (of_isSq hs).1; omega
        have h2 : spT P P.length 0 (10 * x + y) = sub48 ((P.getD x []).getD y 0) := by
          unfold spT part
          rw [show (10 * x + y) / 10 = x by omega, show (10 * x + y) % 10 = y by omega, if_pos (.inl ⟨hx, hy⟩)]
        rw [h2, sub48_back (hd x y hx hy).1] at h1
        rw [some_getD (by omega), some_getD (by rw [hl x hx]; exact hy), h1]
      · rw [List.getElem?_eq_none (by omega), List.getElem?_eq_none (by rw [hl x hx]; omega)]
    have hP : P = rws (spT P P.length 0) P.length P.length := by
      apply List.ext_getElem?
      intro x
      by_cases hx : x < P.length
      · have := hrow x hx
        rw [← rws_at (i := P.length) hx] at this
        simp only [List.getD, List.getElem?_eq_getElem hx, List.getElem?_eq_getElem (show x < (rws (spT P P.length 0) P.length P.length).length by rw [rws_len]; exact hx), Option.getD_some] at this
        rw [List.getElem?_eq_getElem hx, List.getElem?_eq_getElem (by rw [rws_len]; exact hx), this]
      · rw [List.getElem?_eq_none (by omega), List.getElem?_eq_none (by rw [rws_len]; omega)]
    dsimp only
    rw [Int.toNat_natCast]
    have hk : P.length = Q.length + 1 := by rw [e]; simp
    have h5 : Q ++ [l] = rws (spT P P.length 0) P.length Q.length ++ [rowTx (spT P P.length 0) Q.length P.length] := by
      rw [← rws_succ, ← hk, ← e]; exact hP
    have h6 := List.append_inj h5 (by rw [rws_len])
    have h7 : l = rowTx (spT P P.length 0) Q.length P.length := by simpa using h6.2
    rw [hs']
    conv => lhs; rw [show txS (spT P P.length 0) P.length P.length = txS (spT P P.length 0) P.length (Q.length + 1) by rw [← hk]]
    rw [txS_jc, ← h6.1, ← h7]
  · intro hb
    exact (isSq_t (h.sq (psR_t hb)).1).symm
theorem Spl.ok {s : List (Fin 256)} {P : List (List (Fin 256))} (h : Spl s P) (hb : txB s = true) : TxOk s ((P.length : Int), spT P P.length 0) := h.sq (psR_t hb)
/-! ### The parts, one character at a time -/
def spG (s : List (Fin 256)) : Nat → List (List (Fin 256)) × Nat
  | 0 => ([], 0)
  | i + 1 => if s.getD i 0 = 47 then ((spG s i).1 ++ [(s.drop (spG s i).2).take (i - (spG s i).2)], i + 1) else spG s i
def spS (s : List (Fin 256)) : List (List (Fin 256)) := (spG s s.length).1 ++ [s.drop (spG s s.length).2]
theorem spG_t {s : List (Fin 256)} {i : Nat} (h : s.getD i 0 = 47) : spG s (i + 1) = ((spG s i).1 ++ [(s.drop (spG s i).2).take (i - (spG s i).2)], i + 1) := by rw [spG, if_pos h]
theorem spG_f {s : List (Fin 256)} {i : Nat} (h : s.getD i 0 ≠ 47) : spG s (i + 1) = spG s i := by rw [spG, if_neg h]
theorem spG_inv {s : List (Fin 256)} : ∀ i, i ≤ s.length → (spG s i).2 ≤ i ∧ s.take (spG s i).2 = jc (spG s i).1 ∧ (∀ p ∈ (spG s i).1, 47 ∉ p) ∧ (∀ k, (spG s i).2 ≤ k → k < i → s.getD k 0 ≠ 47)
  | 0, _ => ⟨Nat.le_refl _, rfl, by simp [spG], fun k _ h => by omega⟩
  | i + 1, hi => by
    obtain ⟨h1, h2, h3, h4⟩ := spG_inv (s := s) i (by omega)
    by_cases e : s.getD i 0 = 47
    · have hno : 47 ∉ (s.drop (spG s i).2).take (i - (spG s i).2) := fun hm => by
        obtain ⟨j, hj, hj2⟩ := List.getElem_of_mem hm
        rw [List.length_take, List.length_drop] at hj
        rw [List.getElem_take, List.getElem_drop] at hj2
        refine h4 ((spG s i).2 + j) (by omega) (by omega) ?_
        simp only [List.getD, List.getElem?_eq_getElem (show (spG s i).2 + j < s.length by omega), Option.getD_some, hj2]
      rw [spG_t e]
      refine ⟨Nat.le_refl _, ?_, ?_, fun k h5 h6 => by dsimp only at h5; omega⟩
      · dsimp only
        rw [jc_snoc, ← h2]
        have e2 : s.take i = s.take (spG s i).2 ++ (s.drop (spG s i).2).take (i - (spG s i).2) := by
          conv => lhs; rw [← List.take_append_drop (spG s i).2 (s.take i)]
          rw [List.take_take, Nat.min_eq_left h1, List.drop_take]
        rw [List.take_add_one, e2, List.append_assoc]
        congr 2
        have e3 := some_getD (l := s) (y := i) (by omega)
        rw [e3, e]; rfl
      · intro p hp
        rcases List.mem_append.1 hp with hp | hp
        · exact h3 p hp
        · rw [List.mem_singleton.1 hp]; exact hno
    · rw [spG_f e]
      refine ⟨by omega, h2, h3, fun k h5 h6 => ?_⟩
      by_cases e5 : k = i
      · subst e5; exact e
      · exact h4 k h5 (by omega)
theorem spG_len {s : List (Fin 256)} : ∀ i, (spG s i).1.length ≤ i
  | 0 => Nat.le_refl _
  | i + 1 => by
    have := spG_len (s := s) i
    rw [spG]
    split
    · simp; omega
    · omega
theorem spS_len {s : List (Fin 256)} : (spS s).length ≤ s.length + 1 := by
  have := spG_len (s := s) s.length
  simp [spS]; omega
theorem spS_spl (s : List (Fin 256)) : Spl s (spS s) := by
  obtain ⟨h1, h2, h3, h4⟩ := spG_inv (s := s) s.length (Nat.le_refl _)
  refine ⟨(spG s s.length).1, s.drop (spG s s.length).2, rfl, ?_, h3, fun hm => ?_⟩
  · rw [← h2, List.take_append_drop]
  · obtain ⟨j, hj, hj2⟩ := List.getElem_of_mem hm
    rw [List.length_drop] at hj
    rw [List.getElem_drop] at hj2
    refine h4 ((spG s s.length).2 + j) (by omega) (by omega) ?_
    simp only [List.getD, List.getElem?_eq_getElem (show (spG s s.length).2 + j < s.length by omega), Option.getD_some, hj2]
theorem char47 {c : Fin 256} : ((c.val : Nat) : Int) = 47 ↔ c = 47 := by
  constructor
  · intro h; apply Fin.ext; show c.val = 47; omega
  · rintro rfl; rfl
/-! ### The other way: one size after the other -/
end Go.Proofs.Ytjihhcjpbcmjaaa
