/- The program's way of growing a chain, as functions of numbers. No conditions but those in the statements. -/
import Derived.Test.YtjihhcjpbcmjaaaFGM44
namespace Go.Proofs.Ytjihhcjpbcmjaaa
open Gx
set_option linter.unusedVariables false
abbrev Pl := Nat → Fin 256
structure Gr where
  md : Nat → List Pl
  ld : Nat → Fin 256
  hs : Nat → Bool
/-- p becomes the leader of the point where it takes k. -/
def Gr.lead (g : Gr) (k : Nat) (p : Pl) : Gr where
  md := g.md
  ld := fun j => if 100 * k + 10 * (p k).val ≤ j ∧ j < 100 * k + 10 * (p k).val + 10 then p (j - (100 * k + 10 * (p k).val)) else g.ld j
  hs := fun j => if j = 10 * k + (p k).val then true else g.hs j
def Gr.push (g : Gr) (k : Nat) (p : Pl) : Gr where
  md := fun j => if j = k then g.md k ++ [p] else g.md j
  ld := g.ld
  hs := g.hs
def restP (g : Gr) (n k : Nat) (p : Pl) : Pl := thenT p (backT (lrP g.ld k (p k).val) n) n
def lksL (lk : Nat → Pl → Gr → Option Gr) (n k : Nat) (p : Pl) : List Pl → Gr → Option Gr
  | [], g => some g
  | x :: r, g => (lk k (thenT p x n) g).bind (lksL lk n k p r)
def addL (lk : Nat → Pl → Gr → Option Gr) (n k : Nat) (p : Pl) : Nat → Gr → Option Gr
  | 0, g => some g
  | d + 1, g => if g.hs (10 * k + (n - (d + 1))) = true then (lk k (thenT (lrP g.ld k (n - (d + 1))) p n) g).bind (addL lk n k p d) else addL lk n k p d g
def addS (lk : Nat → Pl → Gr → Option Gr) (n k : Nat) (p : Pl) (g : Gr) : Option Gr := if (g.md k).length < 1000 then addL lk n k p n (g.push k p) else none
def lookF (n : Nat) : Nat → Nat → Pl → Gr → Option Gr
  | 0, _, _, _ => none
  | f + 1, k, p, g => if g.hs (10 * k + (p k).val) = true then
      (if siB g.hs g.ld n (n - (k + 1)) (k + 1) (restP g n k p) = true then some g else addS (lookF n f) n (k + 1) (restP g n k p) g)
    else lksL (lookF n f) n k p (g.md k) (g.lead k p)
/-- All of a list of generators. -/
def grpL (n f : Nat) : List Pl → Gr → Option Gr
  | [], g => some g
  | p :: r, g => if siB g.hs g.ld n n 0 p = true then grpL n f r g else (addS (lookF n f) n 0 p g).bind (grpL n f r)
def iniG (n : Nat) : Nat → Gr
  | 0 => ⟨fun _ => [], fun _ => 0, fun _ => false⟩
  | k + 1 => (iniG n k).lead k (idT n)
/-! ### What holds all the way -/
structure GOk (n : Nat) (g : Gr) : Prop where
  ld : LdOk g.hs g.ld n
  md : ∀ k p, p ∈ g.md k → IsPerm p (n : Int)
  out : ∀ k x, k < n → n ≤ x → x < 10 → g.hs (10 * k + x) = false
  len : ∀ k, (g.md k).length ≤ 1000
theorem plt {n k : Nat} {p : Pl} (hp : IsPerm p (n : Int)) (hk : k < n) : (p k).val < n := by have := (perm_lt hp (i := k) (by omega)).1; omega
theorem pn10 {n : Nat} {p : Pl} (hp : IsPerm p (n : Int)) : n ≤ 10 := by have := hp.2.1; omega
theorem lead_lr {g : Gr} {k : Nat} {p : Pl} {n : Nat} (hp : IsPerm p (n : Int)) (hk : k < n) : ∀ i, i < 10 → lrP (g.lead k p).ld k (p k).val i = p i := fun i hi => by
  show (if _ then _ else _) = _
  rw [if_pos (by omega)]; congr 1; omega
theorem lead_lr_ne {g : Gr} {k : Nat} {p : Pl} {n j x : Nat} (hp : IsPerm p (n : Int)) (hk : k < n) (hj : j < n) (hx : x < n) (hne : ¬ (j = k ∧ x = (p k).val)) : ∀ i, i < 10 → lrP (g.lead k p).ld j x i = lrP g.ld j x i := fun i hi => by
  have h1 := plt hp hk
  have h2 := pn10 hp
  show (if _ then _ else _) = _
  rw [if_neg (by intro h; apply hne; omega)]; rfl
theorem lead_hs {g : Gr} {k : Nat} {p : Pl} {n j x : Nat} (hp : IsPerm p (n : Int)) (hk : k < n) (hj : j < n) (hx : x < n) : (g.lead k p).hs (10 * j + x) = true ↔ (j = k ∧ x = (p k).val) ∨ g.hs (10 * j + x) = true := by
  have h1 := plt hp hk
  have h2 := pn10 hp
  show (if _ then true else _) = true ↔ _
  by_cases e : 10 * j + x = 10 * k + (p k).val
  · rw [if_pos e]; exact ⟨fun _ => .inl (by omega), fun _ => rfl⟩
  · rw [if_neg e]; exact ⟨fun h => .inr h, fun h => h.resolve_left (by rintro ⟨rfl, rfl⟩; exact e rfl)⟩
theorem GOk.lead {n : Nat} {g : Gr} (h : GOk n g) {k : Nat} {p : Pl} (hp : IsPerm p (n : Int)) (hk : k < n) : GOk n (g.lead k p) where
  ld := fun j x hj hx hh => by
    by_cases e : j = k ∧ x = (p k).val
    · obtain ⟨rfl, rfl⟩ := e
      exact hp.congr (lead_lr hp hk)
    · exact (h.ld j x hj hx (((lead_hs hp hk hj hx).1 hh).resolve_left e)).congr (lead_lr_ne hp hk hj hx e)
  md := h.md
  out := fun j x hj hx hx2 => by
    have h1 := plt hp hk
    show (if _ then true else _) = false
    rw [if_neg (by omega)]
    exact h.out j x hj hx hx2
  len := h.len
theorem GOk.push {n : Nat} {g : Gr} (h : GOk n g) {k : Nat} {p : Pl} (hp : IsPerm p (n : Int)) (hl : (g.md k).length < 1000) : GOk n (g.push k p) where
  ld := h.ld
  md := fun j q hq => by
    have hq' : q ∈ (if j = k then g.md k ++ [p] else g.md j) := hq
    split at hq'
    · rcases List.mem_append.1 hq' with h1 | h1
      · exact h.md _ q h1
      · rw [List.mem_singleton.1 h1]; exact hp
    · exact h.md _ q hq'
  out := h.out
  len := fun j => by
    show (if j = k then g.md k ++ [p] else g.md j).length ≤ 1000
    split
    · simp only [List.length_append, List.length_cons, List.length_nil]; omega
    · exact h.len j
theorem rest_perm {n : Nat} {g : Gr} (h : GOk n g) {k : Nat} {p : Pl} (hp : IsPerm p (n : Int)) (hk : k < n) (hh : g.hs (10 * k + (p k).val) = true) : IsPerm (restP g n k p) (n : Int) :=
  thenT_perm hp (backT_perm (h.ld k _ hk (plt hp hk) hh))
/-- What a way of looking keeps. -/
def Keeps (n : Nat) (lk : Nat → Pl → Gr → Option Gr) : Prop := ∀ k p g g', k < n → IsPerm p (n : Int) → GOk n g → lk k p g = some g' → GOk n g' ∧ ∀ j, j ≤ k → g'.md j = g.md j
theorem lksL_keeps {n : Nat} {lk : Nat → Pl → Gr → Option Gr} (h : Keeps n lk) {k : Nat} {p : Pl} (hk : k < n) (hp : IsPerm p (n : Int)) : ∀ (l : List Pl) (g g' : Gr), (∀ x ∈ l, IsPerm x (n : Int)) → GOk n g → lksL lk n k p l g = some g' → GOk n g' ∧ ∀ j, j ≤ k → g'.md j = g.md j
  | [], g, g', _, hg, e => by simp only [lksL, Option.some.injEq] at e; subst e; exact ⟨hg, fun _ _ => rfl⟩
  | x :: r, g, g', hl, hg, e => by
    obtain ⟨g1, e1, e2⟩ := Option.bind_eq_some_iff.1 (show (lk k (thenT p x n) g).bind (lksL lk n k p r) = some g' from e)
    obtain ⟨a1, a2⟩ := h k _ g g1 hk (thenT_perm hp (hl x (by simp))) hg e1
    obtain ⟨b1, b2⟩ := lksL_keeps h hk hp r g1 g' (fun y hy => hl y (by simp [hy])) a1 e2
    exact ⟨b1, fun j hj => (b2 j hj).trans (a2 j hj)⟩
theorem addL_keeps {n : Nat} {lk : Nat → Pl → Gr → Option Gr} (h : Keeps n lk) {k : Nat} {p : Pl} (hk : k < n) (hp : IsPerm p (n : Int)) : ∀ (d : Nat) (g g' : Gr), d ≤ n → GOk n g → addL lk n k p d g = some g' → GOk n g' ∧ ∀ j, j ≤ k → g'.md j = g.md j
  | 0, g, g', _, hg, e => by simp only [addL, Option.some.injEq] at e; subst e; exact ⟨hg, fun _ _ => rfl⟩
  | d + 1, g, g', hd, hg, e => by
    rw [addL] at e
    split at e
    · rename_i hh
      obtain ⟨g1, e1, e2⟩ := Option.bind_eq_some_iff.1 e
      obtain ⟨a1, a2⟩ := h k _ g g1 hk (thenT_perm (hg.ld k _ hk (by omega) hh) hp) hg e1
      obtain ⟨b1, b2⟩ := addL_keeps h hk hp d g1 g' (by omega) a1 e2
      exact ⟨b1, fun j hj => (b2 j hj).trans (a2 j hj)⟩
    · exact addL_keeps h hk hp d g g' (by omega) hg e
theorem addS_keeps {n : Nat} {lk : Nat → Pl → Gr → Option Gr} (h : Keeps n lk) {k : Nat} {p : Pl} {g g' : Gr} (hk : k < n) (hp : IsPerm p (n : Int)) (hg : GOk n g) (e : addS lk n k p g = some g') : GOk n g' ∧ (∀ j, j < k → g'.md j = g.md j) ∧ g'.md k = g.md k ++ [p] := by
  unfold addS at e
  split at e
  · rename_i hl
    obtain ⟨a1, a2⟩ := addL_keeps h hk hp n _ g' (Nat.le_refl _) (hg.push hp hl) e
    refine ⟨a1, fun j hj => (a2 j (by omega)).trans (if_neg (by omega)), (a2 k (Nat.le_refl _)).trans (if_pos rfl)⟩
  · cases e
theorem sib_lt {hs : Nat → Bool} {ld : Nat → Fin 256} {n k : Nat} {p : Pl} (h : ¬ siB hs ld n (n - k) k p = true) : k < n := by
  apply Classical.byContradiction; intro hk
  exact h (by rw [show n - k = 0 by omega]; rfl)
theorem lookF_keeps {n : Nat} : ∀ f, Keeps n (lookF n f)
  | 0 => fun k p g g' _ _ _ e => by cases e
  | f + 1 => fun k p g g' hk hp hg e => by
    have ih := lookF_keeps (n := n) f
    rw [lookF] at e
    split at e
    · rename_i hh
      split at e
      · simp only [Option.some.injEq] at e; subst e; exact ⟨hg, fun _ _ => rfl⟩
      · rename_i hs
        obtain ⟨a1, a2, _⟩ := addS_keeps ih (sib_lt hs) (rest_perm hg hp hk hh) hg e
        exact ⟨a1, fun j hj => a2 j (by omega)⟩
    · obtain ⟨a1, a2⟩ := lksL_keeps ih hk hp (g.md k) _ g' (fun x hx => hg.md k x hx) (hg.lead hp hk) e
      exact ⟨a1, a2⟩
/-! ### Step by step -/
theorem gdm {l : List Pl} {i : Nat} (h : i < l.length) : l.getD i (fun _ => 0) ∈ l := by
  rw [List.getD, List.getElem?_eq_getElem h]; exact List.getElem_mem h
theorem addL_t {lk : Nat → Pl → Gr → Option Gr} {n k j : Nat} {p : Pl} {g g1 : Gr} (h : addL lk n k p (n - j) g = some g1) (hj : j < n) (hh : g.hs (10 * k + j) = true) : ∃ g2, lk k (thenT (lrP g.ld k j) p n) g = some g2 ∧ addL lk n k p (n - (j + 1)) g2 = some g1 := by
  obtain ⟨d, hd⟩ : ∃ d, n - j = d + 1 := ⟨n - j - 1, by omega⟩
  have e1 : n - (d + 1) = j := by omega
  rw [hd, addL, e1, if_pos hh] at h
  rw [show n - (j + 1) = d by omega]
  exact Option.bind_eq_some_iff.1 h
theorem addL_f {lk : Nat → Pl → Gr → Option Gr} {n k j : Nat} {p : Pl} {g g1 : Gr} (h : addL lk n k p (n - j) g = some g1) (hj : j < n) (hh : g.hs (10 * k + j) = false) : addL lk n k p (n - (j + 1)) g = some g1 := by
  obtain ⟨d, hd⟩ : ∃ d, n - j = d + 1 := ⟨n - j - 1, by omega⟩
  have e1 : n - (d + 1) = j := by omega
  rw [hd, addL, e1, if_neg (by rw [hh]; decide)] at h
  rw [show n - (j + 1) = d by omega]
  exact h
theorem addL_e {lk : Nat → Pl → Gr → Option Gr} {n k : Nat} {p : Pl} {g g1 : Gr} (h : addL lk n k p (n - n) g = some g1) : g = g1 := by
  rw [Nat.sub_self] at h; exact Option.some.inj h
theorem addS_e {lk : Nat → Pl → Gr → Option Gr} {n k : Nat} {p : Pl} {g g1 : Gr} (h : addS lk n k p g = some g1) : (g.md k).length < 1000 ∧ addL lk n k p n (g.push k p) = some g1 := by
  unfold addS at h
  split at h
  · exact ⟨by assumption, h⟩
  · cases h
theorem lksL_s {lk : Nat → Pl → Gr → Option Gr} {n k i : Nat} {p : Pl} {l : List Pl} {g g1 : Gr} (h : lksL lk n k p (l.drop i) g = some g1) (hi : i < l.length) : ∃ g2, lk k (thenT p (l.getD i fun _ => 0) n) g = some g2 ∧ lksL lk n k p (l.drop (i + 1)) g2 = some g1 := by
  rw [List.drop_eq_getElem_cons hi] at h
  have e : l.getD i (fun _ => 0) = l[i] := by simp [List.getD, hi]
  rw [e]
  exact Option.bind_eq_some_iff.1 h
theorem lksL_e {lk : Nat → Pl → Gr → Option Gr} {n k i : Nat} {p : Pl} {l : List Pl} {g g1 : Gr} (h : lksL lk n k p (l.drop i) g = some g1) (hi : i = l.length) : g = g1 := by
  subst hi
  rw [List.drop_length] at h; exact Option.some.inj h
theorem look_si {n f k : Nat} {p : Pl} {g g1 : Gr} (h : lookF n (f + 1) k p g = some g1) (hh : g.hs (10 * k + (p k).val) = true) (hs : siB g.hs g.ld n (n - (k + 1)) (k + 1) (restP g n k p) = true) : g = g1 := by
  rw [lookF, if_pos hh, if_pos hs] at h; exact Option.some.inj h
theorem look_ad {n f k : Nat} {p : Pl} {g g1 : Gr} (h : lookF n (f + 1) k p g = some g1) (hh : g.hs (10 * k + (p k).val) = true) (hs : ¬ siB g.hs g.ld n (n - (k + 1)) (k + 1) (restP g n k p) = true) : addS (lookF n f) n (k + 1) (restP g n k p) g = some g1 := by
  rw [lookF, if_pos hh, if_neg hs] at h; exact h
theorem look_nw {n f k : Nat} {p : Pl} {g g1 : Gr} (h : lookF n (f + 1) k p g = some g1) (hh : g.hs (10 * k + (p k).val) = false) : lksL (lookF n f) n k p (g.md k) (g.lead k p) = some g1 := by
  rw [lookF, if_neg (by rw [hh]; decide)] at h; exact h
theorem look_f {n f k : Nat} {p : Pl} {g g1 : Gr} (h : lookF n f k p g = some g1) : ∃ f', f = f' + 1 := by
  cases f with
  | zero => cases h
  | succ f => exact ⟨f, rfl⟩
theorem grpL_s {n f i : Nat} {l : List Pl} {g g1 : Gr} (h : grpL n f (l.drop i) g = some g1) (hi : i < l.length) : grpL n f (l.getD i (fun _ => 0) :: l.drop (i + 1)) g = some g1 := by
  rw [List.drop_eq_getElem_cons hi] at h
  have e : l.getD i (fun _ => 0) = l[i] := by simp [List.getD, hi]
  rw [e]; exact h
theorem grpL_h {n f i : Nat} {l : List Pl} {g g1 : Gr} (h : grpL n f (l.drop i) g = some g1) (hi : i < l.length) (hs : siB g.hs g.ld n n 0 (l.getD i fun _ => 0) = true) : grpL n f (l.drop (i + 1)) g = some g1 := by
  have h2 := grpL_s h hi
  rw [grpL, if_pos hs] at h2; exact h2
theorem grpL_a {n f i : Nat} {l : List Pl} {g g1 : Gr} (h : grpL n f (l.drop i) g = some g1) (hi : i < l.length) (hs : siB g.hs g.ld n n 0 (l.getD i fun _ => 0) = false) : ∃ g2, addS (lookF n f) n 0 (l.getD i fun _ => 0) g = some g2 ∧ grpL n f (l.drop (i + 1)) g2 = some g1 := by
  have h2 := grpL_s h hi
  rw [grpL, if_neg (by rw [hs]; decide)] at h2; exact Option.bind_eq_some_iff.1 h2
theorem grpL_e {n f i : Nat} {l : List Pl} {g g1 : Gr} (h : grpL n f (l.drop i) g = some g1) (hi : i = l.length) : g = g1 := by
  subst hi
  rw [List.drop_length] at h; exact Option.some.inj h
/-! ### More fuel does no harm -/
def More (lk lk' : Nat → Pl → Gr → Option Gr) : Prop := ∀ k p g g', lk k p g = some g' → lk' k p g = some g'
theorem lksL_more {n : Nat} {lk lk' : Nat → Pl → Gr → Option Gr} (h : More lk lk') {k : Nat} {p : Pl} : ∀ (l : List Pl) (g g' : Gr), lksL lk n k p l g = some g' → lksL lk' n k p l g = some g'
  | [], g, g', e => e
  | x :: r, g, g', e => by
    obtain ⟨g1, e1, e2⟩ := Option.bind_eq_some_iff.1 (show (lk k (thenT p x n) g).bind (lksL lk n k p r) = some g' from e)
    exact Option.bind_eq_some_iff.2 ⟨g1, h _ _ _ _ e1, lksL_more h r g1 g' e2⟩
theorem addL_more {n : Nat} {lk lk' : Nat → Pl → Gr → Option Gr} (h : More lk lk') {k : Nat} {p : Pl} : ∀ (d : Nat) (g g' : Gr), addL lk n k p d g = some g' → addL lk' n k p d g = some g'
  | 0, g, g', e => e
  | d + 1, g, g', e => by
    rw [addL] at e ⊢
    split at e
    · rename_i hh
      rw [if_pos hh]
      obtain ⟨g1, e1, e2⟩ := Option.bind_eq_some_iff.1 e
      exact Option.bind_eq_some_iff.2 ⟨g1, h _ _ _ _ e1, addL_more h d g1 g' e2⟩
    · rename_i hh
      rw [if_neg hh]
      exact addL_more h d g g' e
theorem addS_more {n : Nat} {lk lk' : Nat → Pl → Gr → Option Gr} (h : More lk lk') {k : Nat} {p : Pl} {g g' : Gr} (e : addS lk n k p g = some g') : addS lk' n k p g = some g' := by
  unfold addS at e ⊢
  split at e
  · rename_i hh; rw [if_pos hh]; exact addL_more h n _ g' e
  · cases e
theorem lookF_more {n : Nat} : ∀ f, More (lookF n f) (lookF n (f + 1))
  | 0 => fun k p g g' e => by cases e
  | f + 1 => fun k p g g' e => by
    have ih := lookF_more (n := n) f
    rw [lookF] at e ⊢
    split at e
    · rename_i hh
      rw [if_pos hh]
      split at e
      · rename_i hs; rw [if_pos hs]; exact e
      · rename_i hs; rw [if_neg hs]; exact addS_more ih e
    · rename_i hh
      rw [if_neg hh]
      exact lksL_more ih _ _ _ e
theorem lookF_le {n f f' : Nat} (h : f ≤ f') : More (lookF n f) (lookF n f') := by
  induction h with
  | refl => exact fun _ _ _ _ e => e
  | step _ ih => exact fun k p g g' e => lookF_more _ k p g g' (ih k p g g' e)
theorem grpL_le {n f f' : Nat} (h : f ≤ f') : ∀ (l : List Pl) (g g' : Gr), grpL n f l g = some g' → grpL n f' l g = some g'
  | [], g, g', e => e
  | p :: r, g, g', e => by
    rw [grpL] at e ⊢
    split at e
    · rename_i hs; rw [if_pos hs]; exact grpL_le h r g g' e
    · rename_i hs
      rw [if_neg hs]
      obtain ⟨g1, e1, e2⟩ := Option.bind_eq_some_iff.1 e
      exact Option.bind_eq_some_iff.2 ⟨g1, addS_more (lookF_le h) e1, grpL_le h r g1 g' e2⟩
theorem idT_at {n j : Nat} (hn : n ≤ 10) (hj : j < n) : (idT n j).val = j := by
  unfold idT; rw [if_pos hj, ofNat_val (by omega)]
theorem ini_ok {n : Nat} (h1 : 1 ≤ n) (hn : n ≤ 10) : ∀ k, k ≤ n → GOk n (iniG n k)
  | 0, _ => GOk.mk (fun _ _ _ _ h => by cases h) (fun _ _ h => by cases h) (fun _ _ _ _ _ => rfl) (fun _ => Nat.zero_le _)
  | k + 1, h => (ini_ok h1 hn k (by omega)).lead (idT_perm (n := (n : Int)) ⟨by omega, by omega⟩) (by omega)
end Go.Proofs.Ytjihhcjpbcmjaaa
