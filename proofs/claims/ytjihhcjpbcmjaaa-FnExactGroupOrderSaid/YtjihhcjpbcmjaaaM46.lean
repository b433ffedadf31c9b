/- The program's chain grows, closes and finds its group: plain law. No conditions but those in the statements. -/
import Derived.Test.YtjihhcjpbcmjaaaM45
namespace Go.Proofs.Ytjihhcjpbcmjaaa
open Gx
set_option linter.unusedVariables false
def Gr.R (n : Nat) (g : Gr) (k j : Nat) : Bool := decide (j < n) && g.hs (10 * k + j)
def Gr.L (n : Nat) (g : Gr) (k j : Nat) : Fm := fmP n (lrP g.ld k j)
def Gr.M (n : Nat) (g : Gr) (k : Nat) : Fm → Prop := fun a => ∃ p, p ∈ g.md k ∧ a = fmP n p
theorem R_iff {n k j : Nat} {g : Gr} : g.R n k j = true ↔ j < n ∧ g.hs (10 * k + j) = true := by
  unfold Gr.R; rw [Bool.and_eq_true, decide_eq_true_eq]
theorem R_in {n k j : Nat} {g : Gr} (h : j < n) : g.R n k j = g.hs (10 * k + j) := by unfold Gr.R; rw [decide_eq_true h, Bool.true_and]
abbrev Gr.Ld (n : Nat) (g : Gr) : Prop := Lead n (g.R n) (g.L n) (g.M n)
abbrev Gr.Sf (n : Nat) (g : Gr) (d : Nat) (a : Fm) : Prop := Go.Proofs.Ytjihhcjpbcmjaaa.Sf n (g.R n) (g.L n) d a
abbrev Gr.Cl (n : Nat) (g : Gr) (k : Nat) : Prop := ClosedAt n (g.R n) (g.L n) (g.M n) k
theorem fmP_congr {n : Nat} {p q : Pl} (h : ∀ i, i < n → p i = q i) : fmP n p = fmP n q := funext fun j => by
  unfold fmP
  by_cases hj : j < n
  · rw [if_pos hj, if_pos hj, h j hj]
  · rw [if_neg hj, if_neg hj]
theorem rest_fm {n : Nat} {g : Gr} (h : GOk n g) {k : Nat} {p : Pl} (hp : IsPerm p (n : Int)) (hk : k < n) (hh : g.hs (10 * k + (p k).val) = true) : fmP n (restP g n k p) = th (fmP n p) (iv (g.L n k (fmP n p k))) := by
  unfold restP
  rw [fmP_then hp, fmP_back (h.ld k _ hk (plt hp hk) hh), fmP_in hk]; rfl
theorem si_sf {n : Nat} {g : Gr} (h : GOk n g) : ∀ d, d ≤ n → ∀ p : Pl, IsPerm p (n : Int) → (siB g.hs g.ld n d (n - d) p = true ↔ g.Sf n d (fmP n p))
  | 0, _, p, _ => ⟨fun _ => trivial, fun _ => rfl⟩
  | d + 1, hd, p, hp => by
    have hk : n - (d + 1) < n := by omega
    have ek : n - (d + 1) + 1 = n - d := by omega
    show (g.hs (10 * (n - (d + 1)) + (p (n - (d + 1))).val) && siB g.hs g.ld n d (n - (d + 1) + 1) (restP g n (n - (d + 1)) p)) = true ↔ (g.R n (n - (d + 1)) (fmP n p (n - (d + 1))) = true ∧ _)
    rw [Bool.and_eq_true, ek, fmP_in hk, R_in (plt hp hk)]
    have key : g.hs (10 * (n - (d + 1)) + (p (n - (d + 1))).val) = true → (siB g.hs g.ld n d (n - d) (restP g n (n - (d + 1)) p) = true ↔ Go.Proofs.Ytjihhcjpbcmjaaa.Sf n (g.R n) (g.L n) d (th (fmP n p) (iv (g.L n (n - (d + 1)) (p (n - (d + 1))).val)))) := fun hh => by
      rw [si_sf h d (by omega) _ (rest_perm h hp hk hh), rest_fm h hp hk hh, fmP_in hk]
    exact ⟨fun ⟨a, b⟩ => ⟨a, (key a).1 b⟩, fun ⟨a, b⟩ => ⟨a, (key a).2 b⟩⟩
/-! ### Growing -/
structure Up (n m k : Nat) (g g' : Gr) : Prop where
  mdlo : ∀ j, j < m → g'.md j = g.md j
  md : ∀ j a, a ∈ g.md j → a ∈ g'.md j
  hs : ∀ i, g.hs i = true → g'.hs i = true
  ld : ∀ j x, j < n → x < n → g.hs (10 * j + x) = true → ∀ i, i < 10 → lrP g'.ld j x i = lrP g.ld j x i
  hslo : ∀ j x, j < k → x < n → g'.hs (10 * j + x) = g.hs (10 * j + x)
theorem Up.refl (n m k : Nat) (g : Gr) : Up n m k g g := ⟨fun _ _ => rfl, fun _ _ h => h, fun _ h => h, fun _ _ _ _ _ _ _ => rfl, fun _ _ _ _ => rfl⟩
theorem Up.trans {n m k : Nat} {g g' g'' : Gr} (h : Up n m k g g') (h' : Up n m k g' g'') : Up n m k g g'' :=
  ⟨fun j hj => (h'.mdlo j hj).trans (h.mdlo j hj), fun j a ha => h'.md j a (h.md j a ha), fun i hi => h'.hs i (h.hs i hi),
    fun j x hj hx hh i hi => (h'.ld j x hj hx (h.hs _ hh) i hi).trans (h.ld j x hj hx hh i hi), fun j x hj hx => (h'.hslo j x hj hx).trans (h.hslo j x hj hx)⟩
theorem Up.weak {n m m' k k' : Nat} {g g' : Gr} (h : Up n m k g g') (hm : m' ≤ m) (hk : k' ≤ k) : Up n m' k' g g' :=
  ⟨fun j hj => h.mdlo j (by omega), h.md, h.hs, h.ld, fun j x hj => h.hslo j x (by omega)⟩
section
variable {n m k : Nat} {g g' : Gr}
theorem Up.R (h : Up n m k g g') {j x : Nat} (hr : g.R n j x = true) : g'.R n j x = true := by
  rw [R_iff] at hr ⊢; exact ⟨hr.1, h.hs _ hr.2⟩
theorem Up.L (h : Up n m k g g') (hn : n ≤ 10) {j x : Nat} (hj : j < n) (hr : g.R n j x = true) : g'.L n j x = g.L n j x := by
  rw [R_iff] at hr
  exact fmP_congr fun i hi => h.ld j x hj hr.1 hr.2 i (by omega)
theorem Up.M (h : Up n m k g g') {j : Nat} {a : Fm} (ha : g.M n j a) : g'.M n j a := by
  obtain ⟨p, hp, rfl⟩ := ha; exact ⟨p, h.md j p hp, rfl⟩
theorem Up.sf (h : Up n m k g g') (hn : n ≤ 10) : ∀ d, d ≤ n → ∀ a, g.Sf n d a → g'.Sf n d a
  | 0, _, _, _ => trivial
  | d + 1, hd, a, ⟨h1, h2⟩ => by
    refine ⟨h.R h1, ?_⟩
    rw [h.L hn (by omega) h1]
    exact h.sf hn d (by omega) _ h2
theorem Up.cl (h : Up n m k g g') (hn : n ≤ 10) {j : Nat} (hj : j < n) (hr : ∀ x, g'.R n j x = true → g.R n j x = true) (hm : g'.md j = g.md j) (hc : g.Cl n j) : g'.Cl n j := fun x a hx ha => by
  obtain ⟨p, hp, rfl⟩ := ha
  rw [h.L hn hj (hr x hx)]
  exact h.sf hn _ (by omega) _ (hc x _ (hr x hx) ⟨p, hm ▸ hp, rfl⟩)
end
/-- How many points are reached. -/
def ctB (h : Nat → Bool) : Nat → Nat
  | 0 => 0
  | m + 1 => ctB h m + (if h m = true then 1 else 0)
theorem ctB_bd (h : Nat → Bool) : ∀ m, ctB h m ≤ m
  | 0 => Nat.le_refl _
  | m + 1 => by have := ctB_bd h m; unfold ctB; split <;> omega
theorem ctB_le {h h' : Nat → Bool} : ∀ m, (∀ i, i < m → h i = true → h' i = true) → ctB h m ≤ ctB h' m
  | 0, _ => Nat.le_refl _
  | m + 1, hh => by
    have := ctB_le m fun i hi => hh i (by omega)
    have := hh m (by omega)
    unfold ctB; split <;> split <;> first | omega | simp_all
theorem ctB_lt {h h' : Nat → Bool} : ∀ m, (∀ i, i < m → h i = true → h' i = true) → (∃ i, i < m ∧ h' i = true ∧ h i = false) → ctB h m < ctB h' m
  | 0, _, ⟨i, hi, _⟩ => by omega
  | m + 1, hh, ⟨i, hi, h1, h2⟩ => by
    have a := ctB_le m fun i hi => hh i (by omega)
    by_cases e : i = m
    · subst e
      unfold ctB; rw [if_pos h1, if_neg (by rw [h2]; decide)]; omega
    · have := ctB_lt m (fun i hi => hh i (by omega)) ⟨i, by omega, h1, h2⟩
      have := hh m (by omega)
      unfold ctB; split <;> split <;> first | omega | simp_all
def Gr.ct (g : Gr) : Nat := ctB g.hs 100
theorem Up.ct {n m k : Nat} {g g' : Gr} (h : Up n m k g g') : g.ct ≤ g'.ct := ctB_le 100 fun i _ hi => h.hs i hi
theorem Up.ct_lt {n m k j x : Nat} {g g' : Gr} (h : Up n m k g g') (hn : n ≤ 10) (hj : j < n) (hx : x < n) (h1 : g'.hs (10 * j + x) = true) (h2 : g.hs (10 * j + x) = false) : g.ct < g'.ct :=
  ctB_lt 100 (fun i _ hi => h.hs i hi) ⟨_, by omega, h1, h2⟩
theorem Gr.ct100 (g : Gr) : g.ct ≤ 100 := ctB_bd _ _
/-- Who is found now and was not before has been led by a new point. -/
theorem sf_new {n m k : Nat} {g g' : Gr} (h : Up n m k g g') (hn : n ≤ 10) : ∀ d, d ≤ n → ∀ a, g'.Sf n d a → ¬ g.Sf n d a → ∃ j x, n - d ≤ j ∧ j < n ∧ x < n ∧ g'.hs (10 * j + x) = true ∧ g.hs (10 * j + x) = false
  | 0, _, _, _, hf => absurd trivial hf
  | d + 1, hd, a, ⟨h1, h2⟩, hf => by
    by_cases hr : g.R n (n - (d + 1)) (a (n - (d + 1))) = true
    · have e := h.L hn (by omega) hr
      rw [e] at h2
      obtain ⟨j, x, a1, a2⟩ := sf_new h hn d (by omega) _ h2 (fun hh => hf ⟨hr, hh⟩)
      exact ⟨j, x, by omega, a2⟩
    · have h3 := R_iff.1 h1
      refine ⟨_, _, Nat.le_refl _, by omega, h3.1, h3.2, ?_⟩
      rw [R_in h3.1] at hr
      simpa using hr
/-- A leader more. -/
theorem up_lead {n : Nat} {g : Gr} {k : Nat} {p : Pl} (hp : IsPerm p (n : Int)) (hk : k < n) (hf : g.hs (10 * k + (p k).val) = false) : Up n (k + 1) k g (g.lead k p) where
  mdlo := fun _ _ => rfl
  md := fun _ _ h => h
  hs := fun i hi => by show (if _ then true else _) = true; split <;> first | rfl | exact hi
  ld := fun j x hj hx hh => lead_lr_ne hp hk hj hx (by rintro ⟨rfl, rfl⟩; rw [hf] at hh; cases hh)
  hslo := fun j x hj hx => by
    have := plt hp hk
    have := pn10 hp
    exact if_neg (by omega)
theorem Lead.lead {n : Nat} {g : Gr} (h : g.Ld n) {k : Nat} {p : Pl} (hp : IsPerm p (n : Int)) (hk : k < n) (hf : g.hs (10 * k + (p k).val) = false) (hlow : ∀ i, i < k → fmP n p i = i) (hg : Gen (g.M n k) (fmP n p)) : (g.lead k p).Ld n := by
  have hn := pn10 hp
  have hup := up_lead hp hk hf
  have hl0 : (g.lead k p).L n k (p k).val = fmP n p := fmP_congr fun i hi => lead_lr hp hk i (by omega)
  have cases' : ∀ {j x}, j < n → (g.lead k p).R n j x = true → (j = k ∧ x = (p k).val) ∨ g.R n j x = true := fun {j x} hj hr => by
    rw [R_iff] at hr
    rcases (lead_hs hp hk hj hr.1).1 hr.2 with h1 | h1
    · exact .inl h1
    · exact .inr (R_iff.2 ⟨hr.1, h1⟩)
  have hM : ∀ j a, (g.lead k p).M n j a ↔ g.M n j a := fun _ _ => Iff.rfl
  constructor
  · intro j hj
    have hs := h.self j hj
    exact ⟨hup.R hs.1, (hup.L hn hj hs.1).trans hs.2⟩
  · intro j x hj hr
    rcases cases' hj hr with ⟨rfl, rfl⟩ | h1
    · exact ⟨plt hp hk, by rw [hl0, fmP_in hk]⟩
    · rw [hup.L hn hj h1]; exact h.to j x hj h1
  · intro j x i hj hr hi
    rcases cases' hj hr with ⟨rfl, rfl⟩ | h1
    · rw [hl0]; exact hlow i hi
    · rw [hup.L hn hj h1]; exact h.low j x i hj h1 hi
  · intro j x hj hr
    rcases cases' hj hr with ⟨rfl, rfl⟩ | h1
    · rw [hl0]; exact fmP_pn hp
    · rw [hup.L hn hj h1]; exact h.pn j x hj h1
  · intro j x hj hr
    rcases cases' hj hr with ⟨rfl, rfl⟩ | h1
    · rw [hl0]; exact hg
    · rw [hup.L hn hj h1]; exact h.gen j x hj h1
  · exact h.mpn
  · exact h.mlow
  · exact h.sub
theorem up_push {n : Nat} {g : Gr} {k : Nat} {p : Pl} : Up n k n g (g.push k p) where
  mdlo := fun j hj => if_neg (by omega)
  md := fun j a ha => by
    show a ∈ (if j = k then g.md k ++ [p] else g.md j)
    by_cases e : j = k
    · subst e; rw [if_pos rfl]; exact List.mem_append_left _ ha
    · rw [if_neg e]; exact ha
  hs := fun _ h => h
  ld := fun _ _ _ _ _ _ _ => rfl
  hslo := fun _ _ _ _ => rfl
theorem push_M {n : Nat} {g : Gr} {k j : Nat} {p : Pl} {a : Fm} : (g.push k p).M n j a ↔ g.M n j a ∨ (j = k ∧ a = fmP n p) := by
  constructor
  · rintro ⟨q, hq, rfl⟩
    have hq' : q ∈ (if j = k then g.md k ++ [p] else g.md j) := hq
    split at hq'
    · rename_i e; subst e
      rcases List.mem_append.1 hq' with h1 | h1
      · exact .inl ⟨q, h1, rfl⟩
      · exact .inr ⟨rfl, by rw [List.mem_singleton.1 h1]⟩
    · exact .inl ⟨q, hq', rfl⟩
  · rintro (⟨q, hq, rfl⟩ | ⟨rfl, rfl⟩)
    · exact (up_push (n := n) (p := p)).M ⟨q, hq, rfl⟩
    · exact ⟨p, by show p ∈ (if j = j then _ else _); rw [if_pos rfl]; simp, rfl⟩
theorem Lead.push {n : Nat} {g : Gr} (h : g.Ld n) {k : Nat} {p : Pl} (hp : IsPerm p (n : Int)) (hlow : ∀ i, i < k → fmP n p i = i) (hg : ∀ j, k = j + 1 → Gen (g.M n j) (fmP n p)) : (g.push k p).Ld n := by
  constructor
  · exact h.self
  · exact h.to
  · exact h.low
  · exact h.pn
  · exact fun j x hj hr => Gen.le (fun a ha => .of (push_M.2 (.inl ha))) (h.gen j x hj hr)
  · intro j a ha
    rcases push_M.1 ha with h1 | ⟨rfl, rfl⟩
    · exact h.mpn j a h1
    · exact fmP_pn hp
  · intro j a i ha hi
    rcases push_M.1 ha with h1 | ⟨rfl, rfl⟩
    · exact h.mlow j a i h1 hi
    · exact hlow i hi
  · intro j a ha
    have hle : ∀ {b}, Gen (g.M n j) b → Gen ((g.push k p).M n j) b := fun hb => Gen.le (fun a ha => .of (push_M.2 (.inl ha))) hb
    rcases push_M.1 ha with h1 | ⟨e, rfl⟩
    · exact hle (h.sub j a h1)
    · exact hle (hg j e.symm)
theorem sf_id {n : Nat} {g : Gr} (h : g.Ld n) : ∀ d, d ≤ n → g.Sf n d id
  | 0, _ => trivial
  | d + 1, hd => by
    have hs := h.self (n - (d + 1)) (by omega)
    refine ⟨hs.1, ?_⟩
    show g.Sf n d (th id (iv (g.L n (n - (d + 1)) (n - (d + 1)))))
    rw [hs.2, iv_id]
    exact sf_id h d (by omega)
/-! ### What looking and adding bring -/
structure Lk (n k : Nat) (g g' : Gr) : Prop where
  up : Up n (k + 1) k g g'
  ok : GOk n g'
  ld : g'.Ld n
  cl : ∀ j, k < j → j < n → g'.Cl n j
  len : ∀ j, k < j → (g'.md j).length ≤ g'.ct
  nw : ∀ x a, x < n → g'.hs (10 * k + x) = true → g.hs (10 * k + x) = false → g.M n k a → g'.Sf n (n - k) (th (g'.L n k x) a)
theorem Lk.M {n k : Nat} {g g' : Gr} (h : Lk n k g g') (a : Fm) : g'.M n k a ↔ g.M n k a := by
  unfold Gr.M; rw [h.up.mdlo k (by omega)]
theorem Lk.trans {n k : Nat} {g g' g'' : Gr} (hn : n ≤ 10) (hk : k < n) (h : Lk n k g g') (h' : Lk n k g' g'') : Lk n k g g'' where
  up := h.up.trans h'.up
  ok := h'.ok
  ld := h'.ld
  cl := h'.cl
  len := h'.len
  nw := fun x a hx h1 h2 ha => by
    cases h3 : g'.hs (10 * k + x) with
    | true =>
      rw [h'.up.L hn hk (R_iff.2 ⟨hx, h3⟩)]
      exact h'.up.sf hn _ (by omega) _ (h.nw x a hx h3 h2 ha)
    | false => exact h'.nw x a hx h1 h3 ((h.M a).2 ha)
def LookK (n k : Nat) : Prop := ∀ (u : Nat) (g : Gr) (p : Pl), 100 - g.ct ≤ u → GOk n g → g.Ld n → (∀ j, k < j → j < n → g.Cl n j) → (∀ j, k < j → (g.md j).length ≤ g.ct) → IsPerm p (n : Int) → (∀ i, i < k → fmP n p i = i) → Gen (g.M n k) (fmP n p) →
  ∃ f g', lookF n f k p g = some g' ∧ Lk n k g g' ∧ g'.Sf n (n - k) (fmP n p)
def AddK (n k : Nat) : Prop := ∀ (g : Gr) (p : Pl), GOk n g → g.Ld n → (∀ j, k ≤ j → j < n → g.Cl n j) → (∀ j, k ≤ j → (g.md j).length ≤ g.ct) → IsPerm p (n : Int) → (∀ i, i < k → fmP n p i = i) → (∀ j, k = j + 1 → Gen (g.M n j) (fmP n p)) → ¬ g.Sf n (n - k) (fmP n p) →
  ∃ f g', addS (lookF n f) n k p g = some g' ∧ Up n k k g g' ∧ GOk n g' ∧ g'.Ld n ∧ (∀ j, k ≤ j → j < n → g'.Cl n j) ∧ (∀ j, k ≤ j → (g'.md j).length ≤ g'.ct) ∧ g'.md k = g.md k ++ [p]
theorem sf_closed {n k : Nat} {g : Gr} (hk : k ≤ n) (hl : g.Ld n) (hc : ∀ j, k ≤ j → j < n → g.Cl n j) {a : Fm} (ha : g.M n k a) : g.Sf n (n - k) a :=
  (sift_gen hl (n - k) (by omega) (fun j h1 h2 => hc j (by omega) h2) a (hl.mpn k a ha) (fun i hi => hl.mlow k a i ha (by omega))).2 (by rw [show n - (n - k) = k by omega]; exact .of ha)
theorem sf_split {n k : Nat} (hk : k < n) {g : Gr} {a : Fm} : g.Sf n (n - k) a ↔ g.R n k (a k) = true ∧ g.Sf n (n - (k + 1)) (th a (iv (g.L n k (a k)))) := by
  obtain ⟨d, hd⟩ : ∃ d, n - k = d + 1 := ⟨n - k - 1, by omega⟩
  have e1 : n - (d + 1) = k := by omega
  have e2 : n - (k + 1) = d := by omega
  unfold Gr.Sf
  rw [hd, e2]
  show (g.R n (n - (d + 1)) (a (n - (d + 1))) = true ∧ Go.Proofs.Ytjihhcjpbcmjaaa.Sf n (g.R n) (g.L n) d (th a (iv (g.L n (n - (d + 1)) (a (n - (d + 1))))))) ↔ _
  rw [e1]
theorem up_of_add {n k : Nat} {g g' : Gr} (h : Up n (k + 1) (k + 1) g g') : Up n (k + 1) k g g' := h.weak (Nat.le_refl _) (by omega)
/-- Looking, when adding is known one level on. -/
theorem look_step {n k : Nat} (hk : k < n) (hn : n ≤ 10) (hA : AddK n (k + 1)) : LookK n k := fun u => by
  induction u with
  | zero => exact look_aux 0 fun g hlt => by omega
  | succ u ih => exact look_aux (u + 1) fun g hlt => fun p hg hl hc hlen hp hlow hgen => ih g p (by omega) hg hl hc hlen hp hlow hgen
 where
  look_aux (u : Nat) (ih : ∀ g : Gr, 100 - g.ct < u → ∀ p : Pl, GOk n g → g.Ld n → (∀ j, k < j → j < n → g.Cl n j) → (∀ j, k < j → (g.md j).length ≤ g.ct) → IsPerm p (n : Int) → (∀ i, i < k → fmP n p i = i) → Gen (g.M n k) (fmP n p) →
      ∃ f g', lookF n f k p g = some g' ∧ Lk n k g g' ∧ g'.Sf n (n - k) (fmP n p)) : ∀ (g : Gr) (p : Pl), 100 - g.ct ≤ u → GOk n g → g.Ld n → (∀ j, k < j → j < n → g.Cl n j) → (∀ j, k < j → (g.md j).length ≤ g.ct) → IsPerm p (n : Int) → (∀ i, i < k → fmP n p i = i) → Gen (g.M n k) (fmP n p) →
      ∃ f g', lookF n f k p g = some g' ∧ Lk n k g g' ∧ g'.Sf n (n - k) (fmP n p) := by
    intro g p hu hg hl hc hlen hp hlow hgen
    have hpk : fmP n p k = (p k).val := fmP_in hk
    have hlt := plt hp hk
    cases hh : g.hs (10 * k + (p k).val) with
    | true =>
      have hR : g.R n k (fmP n p k) = true := by rw [hpk]; exact R_iff.2 ⟨hlt, hh⟩
      have hrp := rest_perm hg hp hk hh
      have hrf := rest_fm hg hp hk hh
      obtain ⟨hrn, hrlow⟩ := rest_low hl hk (fmP_pn hp) hlow hR
      by_cases hs : siB g.hs g.ld n (n - (k + 1)) (k + 1) (restP g n k p) = true
      · refine ⟨1, g, ?_, ⟨Up.refl _ _ _ _, hg, hl, hc, hlen, fun x a hx h1 h2 => by rw [h1] at h2; cases h2⟩, ?_⟩
        · rw [lookF, if_pos hh, if_pos hs]
        · rw [sf_split hk]
          refine ⟨hR, ?_⟩
          have h1 := si_sf hg (n - (k + 1)) (by omega) _ hrp
          rw [show n - (n - (k + 1)) = k + 1 by omega] at h1
          rw [← hrf]; exact h1.1 hs
      · have hk1 := sib_lt hs
        have hns : ¬ g.Sf n (n - (k + 1)) (fmP n (restP g n k p)) := fun h => hs (by
          have h1 := si_sf hg (n - (k + 1)) (by omega) _ hrp
          rw [show n - (n - (k + 1)) = k + 1 by omega] at h1
          exact h1.2 h)
        have hgl := hl.gen k _ hk hR
        have hgr : Gen (g.M n k) (fmP n (restP g n k p)) := by
          rw [hrf]
          exact hgen.th (hgl.inv hn (hl.pn k _ hk hR))
        obtain ⟨f, g', e1, e2, e3, e4, e5, e6, e7⟩ := hA g (restP g n k p) hg hl (fun j h1 h2 => hc j (by omega) h2) (fun j h1 => hlen j (by omega)) hrp (by rw [hrf]; exact hrlow) (fun j ej => by
          obtain rfl : k = j := by omega
          exact hgr) hns
        refine ⟨f + 1, g', ?_, ⟨up_of_add e2, e3, e4, fun j h1 h2 => e5 j (by omega) h2, fun j h1 => e6 j (by omega), fun x a hx h1 h2 => ?_⟩, ?_⟩
        · rw [lookF, if_pos hh, if_neg hs]; exact e1
        · rw [e2.hslo k x (by omega) hx, h2] at h1; cases h1
        · rw [sf_split hk]
          refine ⟨e2.R hR, ?_⟩
          rw [e2.L hn hk hR, ← hrf]
          exact sf_closed (by omega) e4 e5 ⟨_, by rw [e7]; simp, rfl⟩
    | false =>
      have hup := up_lead hp hk hh
      have hct : g.ct < (g.lead k p).ct := hup.ct_lt hn hk hlt (if_pos rfl) hh
      have hl0 : (g.lead k p).L n k (p k).val = fmP n p := fmP_congr fun i hi => lead_lr hp hk i (by omega)
      have hR0 : (g.lead k p).R n k (p k).val = true := R_iff.2 ⟨hlt, if_pos rfl⟩
      have h0 : Lk n k (g.lead k p) (g.lead k p) := ⟨Up.refl _ _ _ _, hg.lead hp hk, Lead.lead hl hp hk hh hlow hgen, fun j h1 h2 => hup.cl hn h2 (fun x hx => by
          rw [R_iff] at hx ⊢
          refine ⟨hx.1, ?_⟩
          rcases (lead_hs hp hk h2 hx.1).1 hx.2 with h3 | h3
          · omega
          · exact h3) rfl (hc j h1 h2), fun j h1 => Nat.le_trans (hlen j h1) hup.ct, fun x a hx h1 h2 => by rw [h1] at h2; cases h2⟩
      have loop : ∀ (l : List Pl) (g2 : Gr), (∀ q ∈ l, q ∈ g.md k) → Lk n k (g.lead k p) g2 → ∃ f g3, lksL (lookF n f) n k p l g2 = some g3 ∧ Lk n k g2 g3 ∧ ∀ q ∈ l, g3.Sf n (n - k) (th (fmP n p) (fmP n q)) := by
        intro l
        induction l with
        | nil => exact fun g2 _ h2 => ⟨0, g2, rfl, ⟨Up.refl _ _ _ _, h2.ok, h2.ld, h2.cl, h2.len, fun x a hx h1 h2 => by rw [h1] at h2; cases h2⟩, fun q hq => by cases hq⟩
        | cons q r ihl =>
          intro g2 hsub h2
          have hq := hsub q (by simp)
          have hqp : IsPerm q (n : Int) := hg.md k q hq
          have hqM : g2.M n k (fmP n q) := (h2.M _).2 ⟨q, hq, rfl⟩
          have hct2 := h2.up.ct
          have hpg : Gen (g2.M n k) (fmP n p) := Gen.le (fun a ha => .of ((h2.M a).2 ha)) hgen
          obtain ⟨f1, g3, a1, a2, a3⟩ := ih g2 (by have := g.ct100; have := (g.lead k p).ct100; omega) (thenT p q n) h2.ok h2.ld h2.cl h2.len (thenT_perm hp hqp) (fun i hi => by
            rw [fmP_then hp]
            show fmP n q (fmP n p i) = i
            rw [hlow i hi]; exact h2.ld.mlow k _ i hqM hi) (by rw [fmP_then hp]; exact hpg.mul hqM)
          obtain ⟨f2, g4, b1, b2, b3⟩ := ihl g3 (fun x hx => hsub x (by simp [hx])) (Lk.trans hn hk h2 a2)
          refine ⟨max f1 f2, g4, ?_, Lk.trans hn hk a2 b2, ?_⟩
          · exact Option.bind_eq_some_iff.2 ⟨g3, lookF_le (Nat.le_max_left _ _) _ _ _ _ a1, lksL_more (lookF_le (Nat.le_max_right _ _)) _ _ _ b1⟩
          · intro x hx
            rcases List.mem_cons.1 hx with rfl | hx
            · rw [fmP_then hp] at a3
              exact b2.up.sf hn _ (by omega) _ a3
            · exact b3 x hx
      obtain ⟨f, g3, e1, e2, e3⟩ := loop (g.md k) (g.lead k p) (fun _ h => h) h0
      replace e2 : Lk n k (g.lead k p) g3 := e2
      refine ⟨f + 1, g3, ?_, ⟨hup.trans e2.up, e2.ok, e2.ld, e2.cl, e2.len, fun x a hx h1 h2 ha => ?_⟩, ?_⟩
      · rw [lookF, if_neg (by rw [hh]; decide)]; exact e1
      · cases h3 : (g.lead k p).hs (10 * k + x) with
        | true =>
          rcases (lead_hs hp hk hk hx).1 h3 with ⟨_, rfl⟩ | h4
          · rw [e2.up.L hn hk hR0, hl0]
            obtain ⟨q, hq, rfl⟩ := ha
            exact e3 q hq
          · rw [h4] at h2; cases h2
        | false => exact e2.nw x a hx h1 h3 ha
      · rw [sf_split hk, hpk]
        refine ⟨e2.up.R hR0, ?_⟩
        rw [e2.up.L hn hk hR0, hl0, th_iv (fmP_pn hp)]
        exact sf_id e2.ld _ (by omega)
theorem add_step {n k : Nat} (hk : k < n) (hn : n ≤ 10) (hK : LookK n k) : AddK n k := by
  intro g p hg hl hc hlen hp hlow hgen hns
  have hup := up_push (n := n) (g := g) (k := k) (p := p)
  have hM : ∀ a, (g.push k p).M n k a ↔ g.M n k a ∨ a = fmP n p := fun a => push_M.trans ⟨fun h => h.imp id And.right, fun h => h.imp id fun e => ⟨rfl, e⟩⟩
  have hmk : (g.push k p).md k = g.md k ++ [p] := if_pos rfl
  have hR : ∀ j x, (g.push k p).R n j x = true → g.R n j x = true := fun _ _ h => h
  have h0 : Lk n k (g.push k p) (g.push k p) := ⟨Up.refl _ _ _ _, hg.push hp (by have := hlen k (Nat.le_refl _); have := g.ct100; omega), Lead.push hl hp hlow hgen, fun j h1 h2 => hup.cl hn h2 (hR j) (if_neg (by omega)) (hc j (by omega) h2), fun j h1 => by
    rw [show (g.push k p).md j = g.md j from if_neg (by omega)]; exact hlen j (by omega), fun x a hx h1 h2 => by rw [h1] at h2; cases h2⟩
  have loop : ∀ (d : Nat) (g2 : Gr), d ≤ n → Lk n k (g.push k p) g2 → ∃ f g3, addL (lookF n f) n k p d g2 = some g3 ∧ Lk n k g2 g3 ∧ ∀ x, n - d ≤ x → x < n → g2.hs (10 * k + x) = true → g3.Sf n (n - k) (th (g3.L n k x) (fmP n p)) := by
    intro d
    induction d with
    | zero => exact fun g2 _ h2 => ⟨0, g2, rfl, ⟨Up.refl _ _ _ _, h2.ok, h2.ld, h2.cl, h2.len, fun x a hx h1 h2 => by rw [h1] at h2; cases h2⟩, fun x h1 h2 => by omega⟩
    | succ d ih =>
      intro g2 hd h2
      have hx0 : n - (d + 1) < n := by omega
      cases hh : g2.hs (10 * k + (n - (d + 1))) with
      | true =>
        have hr : g2.R n k (n - (d + 1)) = true := R_iff.2 ⟨hx0, hh⟩
        have hpM : g2.M n k (fmP n p) := (h2.M _).2 ((hM _).2 (.inr rfl))
        have hlp := h2.ok.ld k _ hk hx0 hh
        obtain ⟨f1, g3, a1, a2, a3⟩ := hK _ g2 (thenT (lrP g2.ld k (n - (d + 1))) p n) (Nat.le_refl _) h2.ok h2.ld h2.cl h2.len (thenT_perm hlp hp) (fun i hi => by
          rw [fmP_then hlp]
          show fmP n p (g2.L n k (n - (d + 1)) i) = i
          rw [h2.ld.low k _ i hk hr hi]; exact hlow i hi) (by
          rw [fmP_then hlp]
          exact (h2.ld.gen k _ hk hr).mul hpM)
        obtain ⟨f2, g4, b1, b2, b3⟩ := ih g3 (by omega) (Lk.trans hn hk h2 a2)
        refine ⟨max f1 f2, g4, ?_, Lk.trans hn hk a2 b2, ?_⟩
        · rw [addL, if_pos hh]
          exact Option.bind_eq_some_iff.2 ⟨g3, lookF_le (Nat.le_max_left _ _) _ _ _ _ a1, addL_more (lookF_le (Nat.le_max_right _ _)) _ _ _ b1⟩
        · intro x h1 h3 h4
          by_cases e : x = n - (d + 1)
          · subst e
            rw [fmP_then hlp] at a3
            rw [b2.up.L hn hk (a2.up.R hr), a2.up.L hn hk hr]
            exact b2.up.sf hn _ (by omega) _ a3
          · exact b3 x (by omega) h3 (a2.up.hs _ h4)
      | false =>
        obtain ⟨f2, g4, b1, b2, b3⟩ := ih g2 (by omega) h2
        refine ⟨f2, g4, ?_, b2, fun x h1 h3 h4 => ?_⟩
        · rw [addL, if_neg (by rw [hh]; decide)]; exact b1
        · by_cases e : x = n - (d + 1)
          · subst e; rw [hh] at h4; cases h4
          · exact b3 x (by omega) h3 h4
  obtain ⟨f, g', e1, e2, e3⟩ := loop n _ (Nat.le_refl _) h0
  have hup' : Up n k k g g' := (hup.weak (Nat.le_refl _) (by omega)).trans (e2.up.weak (by omega) (Nat.le_refl _))
  have hmk' : g'.md k = g.md k ++ [p] := (e2.up.mdlo k (by omega)).trans hmk
  have hcl : ∀ j, k ≤ j → j < n → g'.Cl n j := fun j h1 h2 => by
    by_cases e : j = k
    · subst e
      intro x a hx ha
      have hx' := R_iff.1 hx
      have ha' := (e2.M a).1 ha
      cases h3 : g.hs (10 * j + x) with
      | true =>
        have hr0 : g.R n j x = true := R_iff.2 ⟨hx'.1, h3⟩
        rcases (hM a).1 ha' with h4 | rfl
        · rw [hup'.L hn hk hr0]
          exact hup'.sf hn _ (by omega) _ (hc j (Nat.le_refl _) h2 x a hr0 h4)
        · exact e3 x (by omega) hx'.1 h3
      | false => exact e2.nw x a hx'.1 hx'.2 h3 ha'
    · exact e2.cl j (by omega) h2
  have hct : g.ct < g'.ct := by
    have h1 := sf_closed (a := fmP n p) (by omega) e2.ld hcl ⟨p, by rw [hmk']; simp, rfl⟩
    obtain ⟨j, x, _, h3, h4, h5, h6⟩ := sf_new hup' hn (n - k) (by omega) _ h1 hns
    exact hup'.ct_lt hn h3 h4 h5 h6
  refine ⟨f, g', ?_, hup', e2.ok, e2.ld, hcl, fun j h1 => ?_, hmk'⟩
  · have := hlen k (Nat.le_refl _)
    have := g.ct100
    unfold addS
    rw [if_pos (by omega)]; exact e1
  · by_cases e : j = k
    · subst e
      rw [hmk']
      have := hlen j (Nat.le_refl _)
      simp only [List.length_append, List.length_cons, List.length_nil]; omega
    · exact e2.len j (by omega)
theorem add_all {n : Nat} (hn : n ≤ 10) : ∀ d k, n - k = d → k < n → AddK n k := by
  intro d
  induction d with
  | zero => intro k h1 h2; omega
  | succ d ih =>
    intro k h1 h2
    refine add_step h2 hn (look_step h2 hn ?_)
    by_cases e : k + 1 < n
    · exact ih (k + 1) (by omega) e
    · intro g p _ _ _ _ _ _ _ hns
      exact absurd trivial (by rw [show n - (k + 1) = 0 by omega] at hns; exact hns)
/-! ### The whole group -/
structure Done (n : Nat) (g : Gr) : Prop where
  ok : GOk n g
  ld : g.Ld n
  cl : ∀ j, j < n → g.Cl n j
  len : ∀ j, (g.md j).length ≤ g.ct
theorem grp_done {n : Nat} (h1 : 0 < n) (hn : n ≤ 10) : ∀ (l : List Pl) (g : Gr), (∀ p ∈ l, IsPerm p (n : Int)) → Done n g → ∃ f g', grpL n f l g = some g' ∧ Done n g' ∧ (∀ a, g'.M n 0 a → g.M n 0 a ∨ ∃ p, p ∈ l ∧ a = fmP n p) ∧ (∀ a, g.M n 0 a → g'.M n 0 a) ∧ ∀ p ∈ l, Gen (g'.M n 0) (fmP n p)
  | [], g, _, hd => ⟨0, g, rfl, hd, fun a h => .inl h, fun a h => h, fun p hp => by cases hp⟩
  | p :: r, g, hl, hd => by
    have hp := hl p (by simp)
    have hsf := si_sf hd.ok n (Nat.le_refl _) p hp
    rw [Nat.sub_self] at hsf
    have gm : ∀ {g1 g2 : Gr}, (∀ a, g1.M n 0 a → g2.M n 0 a) → ∀ {a}, Gen (g1.M n 0) a → Gen (g2.M n 0) a := fun h _ ha => Gen.le (fun b hb => .of (h b hb)) ha
    by_cases hs : siB g.hs g.ld n n 0 p = true
    · obtain ⟨f, g', e1, e2, e3, e4, e5⟩ := grp_done h1 hn r g (fun q hq => hl q (by simp [hq])) hd
      refine ⟨f, g', by rw [grpL, if_pos hs]; exact e1, e2, fun a ha => (e3 a ha).imp id (fun ⟨q, hq, e⟩ => ⟨q, by simp [hq], e⟩), e4, fun q hq => ?_⟩
      rcases List.mem_cons.1 hq with rfl | hq
      · have h3 := (sift_gen hd.ld n (Nat.le_refl _) (fun k _ hk => hd.cl k hk) _ (fmP_pn hp) (fun i hi => by omega)).1 (hsf.1 hs)
        rw [Nat.sub_self] at h3
        exact gm e4 h3
      · exact e5 q hq
    · obtain ⟨f1, g1, a1, a2, a3, a4, a5, a6, a7⟩ := add_all hn n 0 rfl h1 g p hd.ok hd.ld (fun j _ h => hd.cl j h) (fun j _ => hd.len j) hp (fun i hi => by omega) (fun j e => by omega) (fun h => hs (hsf.2 h))
      obtain ⟨f2, g', e1, e2, e3, e4, e5⟩ := grp_done h1 hn r g1 (fun q hq => hl q (by simp [hq])) ⟨a3, a4, fun j h => a5 j (by omega) h, fun j => a6 j (by omega)⟩
      refine ⟨max f1 f2, g', ?_, e2, fun a ha => ?_, fun a ha => e4 a (a2.M ha), fun q hq => ?_⟩
      · rw [grpL, if_neg hs]
        exact Option.bind_eq_some_iff.2 ⟨g1, addS_more (lookF_le (Nat.le_max_left _ _)) a1, grpL_le (Nat.le_max_right _ _) _ _ _ e1⟩
      · rcases e3 a ha with ⟨q, hq, rfl⟩ | ⟨q, hq, rfl⟩
        · rw [a7] at hq
          rcases List.mem_append.1 hq with hq | hq
          · exact .inl ⟨q, hq, rfl⟩
          · exact .inr ⟨q, by rw [List.mem_singleton.1 hq]; simp, rfl⟩
        · exact .inr ⟨q, by simp [hq], rfl⟩
      · rcases List.mem_cons.1 hq with rfl | hq
        · exact .of (e4 _ ⟨q, by rw [a7]; simp, rfl⟩)
        · exact e5 q hq
theorem ini_md (n : Nat) : ∀ k j, (iniG n k).md j = []
  | 0, _ => rfl
  | k + 1, j => ini_md n k j
theorem ini_R {n : Nat} (h1 : 1 ≤ n) (hn : n ≤ 10) : ∀ k, k ≤ n → ∀ j x, j < n → x < n → ((iniG n k).hs (10 * j + x) = true ↔ j < k ∧ x = j) ∧ ((iniG n k).hs (10 * j + x) = true → ∀ i, i < 10 → lrP (iniG n k).ld j x i = idT n i)
  | 0, _, j, x, _, _ => ⟨⟨fun h => (by cases h), fun h => by omega⟩, fun h => by cases h⟩
  | k + 1, hk, j, x, hj, hx => by
    have ip : IsPerm (idT n) (n : Int) := idT_perm (n := (n : Int)) ⟨by omega, by omega⟩
    have ik := idT_at hn (show k < n by omega)
    obtain ⟨a1, a2⟩ := ini_R h1 hn k (by omega) j x hj hx
    have a3 := lead_hs (g := iniG n k) ip (show k < n by omega) hj hx
    rw [ik] at a3
    refine ⟨?_, fun hh i hi => ?_⟩
    · show ((iniG n k).lead k (idT n)).hs (10 * j + x) = true ↔ _
      rw [a3, a1]; omega
    · show lrP ((iniG n k).lead k (idT n)).ld j x i = _
      by_cases e : j = k ∧ x = (idT n k).val
      · obtain ⟨rfl, rfl⟩ := e
        exact lead_lr ip (by omega) i hi
      · rw [lead_lr_ne ip (show k < n by omega) hj hx e i hi]
        refine a2 ((a3.1 hh).resolve_left ?_) i hi
        rw [ik] at e; exact e
theorem ini_done {n : Nat} (h1 : 1 ≤ n) (hn : n ≤ 10) : Done n (iniG n n) := by
  have hR := ini_R h1 hn n (Nat.le_refl _)
  have hM : ∀ j a, ¬ (iniG n n).M n j a := fun j a ⟨p, hp, _⟩ => by rw [ini_md] at hp; cases hp
  have hid : fmP n (idT n) = id := funext fun i => by
    by_cases hi : i < n
    · rw [fmP_in hi, idT_at hn hi]; rfl
    · rw [fmP_out hi]; rfl
  have hr : ∀ j x, j < n → (iniG n n).R n j x = true → x = j ∧ (iniG n n).L n j x = id := fun j x hj h => by
    rw [R_iff] at h
    obtain ⟨a1, a2⟩ := hR j x hj h.1
    exact ⟨(a1.1 h.2).2, (fmP_congr fun i hi => a2 h.2 i (by omega)).trans hid⟩
  refine ⟨ini_ok h1 hn n (Nat.le_refl _), ?_, fun j hj x a hx ha => absurd ha (hM j a), fun j => by rw [ini_md]; exact Nat.zero_le _⟩
  constructor
  · intro k hk
    have h2 := (hR k k hk hk).1.2 ⟨hk, rfl⟩
    have h3 : (iniG n n).R n k k = true := R_iff.2 ⟨hk, h2⟩
    exact ⟨h3, (hr k k hk h3).2⟩
  · intro k j hk h
    obtain ⟨rfl, h2⟩ := hr k j hk h
    exact ⟨hk, by rw [h2]; rfl⟩
  · intro k j i hk h hi
    rw [(hr k j hk h).2]; rfl
  · intro k j hk h
    rw [(hr k j hk h).2]; exact Pn.id n
  · intro k j hk h
    rw [(hr k j hk h).2]; exact .one
  · exact fun k a h => absurd h (hM k a)
  · exact fun k a i h => absurd h (hM k a)
  · exact fun k a h => absurd h (hM _ a)
/-- What the program's group knows in the end. -/
theorem grp_law {n : Nat} (h1 : 1 ≤ n) (hn : n ≤ 10) {l : List Pl} (hl : ∀ p ∈ l, IsPerm p (n : Int)) : ∃ f g, grpL n f l (iniG n n) = some g ∧ Done n g ∧ ∀ a, Gen (g.M n 0) a ↔ Gen (Sp l n) a := by
  obtain ⟨f, g, e1, e2, e3, _, e5⟩ := grp_done h1 hn l (iniG n n) hl (ini_done h1 hn)
  have hnf : ∀ p : Pl, fmP n p = nfp n p := fun p => rfl
  refine ⟨f, g, e1, e2, fun a => ⟨fun h => Gen.le (fun b hb => ?_) h, fun h => Gen.le (fun b hb => ?_) h⟩⟩
  · rcases e3 b hb with ⟨p, hp, _⟩ | ⟨p, hp, rfl⟩
    · rw [ini_md] at hp; cases hp
    · exact .of ⟨p, hp, rfl⟩
  · obtain ⟨p, hp, rfl⟩ := hb
    exact e5 p hp
end Go.Proofs.Ytjihhcjpbcmjaaa
