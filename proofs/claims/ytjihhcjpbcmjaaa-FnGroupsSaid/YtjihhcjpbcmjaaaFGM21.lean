/- Chains of a permutation group (Schreier and Sims), in plain terms: whoever is closed level by level finds just the group that its generators make. No conditions but those in the statements. Classes of numbers, orbits of permutations, in plain terms; no conditions but those in the statements. -/
import Derived.Test.YtjihhcjpbcmjaaaFGM7
namespace Go.Proofs.Ytjihhcjpbcmjaaa
open Gx
set_option linter.unusedVariables false
/-- Maps of numbers; 'th a b': a, then b. -/
abbrev Fm := Nat → Nat
def th (a b : Fm) : Fm := fun j => b (a j)
theorem th_assoc (a b c : Fm) : th (th a b) c = th a (th b c) := rfl
theorem th_id (a : Fm) : th a id = a := rfl
theorem id_th (a : Fm) : th id a = a := rfl
structure Pn (n : Nat) (a : Fm) : Prop where
  lt : ∀ j, j < n → a j < n
  fix : ∀ j, n ≤ j → a j = j
  inj : ∀ i j, a i = a j → i = j
theorem Pn.id (n : Nat) : Pn n id := ⟨fun _ h => h, fun _ _ => rfl, fun _ _ h => h⟩
theorem Pn.th {n : Nat} {a b : Fm} (ha : Pn n a) (hb : Pn n b) : Pn n (th a b) :=
  ⟨fun j h => hb.lt _ (ha.lt j h), fun j h => by show b (a j) = j; rw [ha.fix j h, hb.fix j h], fun i j h => ha.inj _ _ (hb.inj _ _ h)⟩
theorem Pn.surj {n : Nat} {a : Fm} (ha : Pn n a) (x : Nat) : ∃ j, a j = x := by
  rcases Nat.lt_or_ge x n with h | h
  · obtain ⟨i, _, hi⟩ := surj_of_inj (f := a) (m := n) ha.lt (fun i j _ _ h => ha.inj i j h) x h
    exact ⟨i, hi⟩
  · exact ⟨x, ha.fix x h⟩
noncomputable def iv (a : Fm) : Fm := fun x => @dite _ (∃ j, a j = x) (Classical.propDecidable _) (fun h => h.choose) (fun _ => x)
theorem iv_r {n : Nat} {a : Fm} (ha : Pn n a) (x : Nat) : a (iv a x) = x := by
  unfold iv
  rw [dif_pos (ha.surj x)]
  exact (ha.surj x).choose_spec
theorem iv_l {n : Nat} {a : Fm} (ha : Pn n a) (x : Nat) : iv a (a x) = x := ha.inj _ _ (iv_r ha (a x))
theorem th_iv {n : Nat} {a : Fm} (ha : Pn n a) : th a (iv a) = id := funext fun x => iv_l ha x
theorem iv_th {n : Nat} {a : Fm} (ha : Pn n a) : th (iv a) a = id := funext fun x => iv_r ha x
theorem Pn.iv {n : Nat} {a : Fm} (ha : Pn n a) : Pn n (iv a) where
  lt := fun j h => by
    rcases Nat.lt_or_ge (Go.Proofs.Ytjihhcjpbcmjaaa.iv a j) n with h1 | h1
    · exact h1
    · have := iv_r ha j
      rw [ha.fix _ h1] at this
      omega
  fix := fun j h => by
    have := iv_l ha j
    rw [ha.fix j h] at this
    exact this
  inj := fun i j h => by
    have := congrArg a h
    rw [iv_r ha, iv_r ha] at this
    exact this
theorem iv_id : iv id = id := funext fun x => iv_r (Pn.id 0) x
theorem iv_unique {n : Nat} {a b : Fm} (ha : Pn n a) (h : th a b = id) : b = iv a := by
  funext x
  have := congrFun h (iv a x)
  simp only [th, iv_r ha] at this
  exact this

/-! ### Powers -/
def pw (a : Fm) : Nat → Fm
  | 0 => id
  | k + 1 => th (pw a k) a
theorem pw_add (a : Fm) (k : Nat) : ∀ m, pw a (k + m) = th (pw a k) (pw a m)
  | 0 => rfl
  | m + 1 => by
    show th (pw a (k + m)) a = _
    rw [pw_add a k m]; rfl
theorem Pn.pw {n : Nat} {a : Fm} (ha : Pn n a) : ∀ k, Pn n (pw a k)
  | 0 => Pn.id n
  | k + 1 => (Pn.pw ha k).th ha
theorem pw_back {n : Nat} {a : Fm} (ha : Pn n a) {i c m : Nat} (h : pw a (c + m) i = pw a m i) : pw a c i = i := by
  rw [pw_add] at h
  exact (ha.pw m).inj _ _ h
theorem pw_cyc {n : Nat} {a : Fm} (ha : Pn n a) {i : Nat} (hi : i < n) : ∃ c, 1 ≤ c ∧ c ≤ n ∧ pw a c i = i := by
  by_cases hd : ∀ x y, x < n + 1 → y < n + 1 → pw a x i = pw a y i → x = y
  · exfalso
    have h1 := nodup_map_range (fun k => pw a k i) (n + 1) hd
    have h2 := length_le_of_subset h1 (m := List.range n) (by
      intro x hx
      obtain ⟨k, _, rfl⟩ := List.mem_map.1 hx
      exact List.mem_range.2 ((ha.pw k).lt i hi))
    simp at h2
    omega
  · have : ∃ x y, x < n + 1 ∧ y < n + 1 ∧ pw a x i = pw a y i ∧ x < y := by
      apply Classical.byContradiction
      intro hc
      apply hd
      intro x y hx hy e
      rcases Nat.lt_trichotomy x y with h | h | h
      · exact absurd ⟨x, y, hx, hy, e, h⟩ hc
      · exact h
      · exact absurd ⟨y, x, hy, hx, e.symm, h⟩ hc
    obtain ⟨x, y, hx, hy, e, hxy⟩ := this
    refine ⟨y - x, by omega, by omega, pw_back ha (m := x) ?_⟩
    rw [Nat.sub_add_cancel (by omega)]
    exact e.symm
theorem pw_mul {a : Fm} {i c : Nat} (h : pw a c i = i) : ∀ m, pw a (m * c) i = i
  | 0 => by simp [pw]
  | m + 1 => by
    rw [Nat.add_mul, Nat.one_mul, pw_add]
    show pw a c (pw a (m * c) i) = i
    rw [pw_mul h m, h]
theorem dvd_2520 : ∀ c : Fin 11, c.val ≠ 0 → 2520 / c.val * c.val = 2520 := by decide
theorem pw_2520 {n : Nat} {a : Fm} (ha : Pn n a) (hn : n ≤ 10) : pw a 2520 = id := by
  funext i
  rcases Nat.lt_or_ge i n with hi | hi
  · obtain ⟨c, h1, h2, h3⟩ := pw_cyc ha hi
    have := pw_mul h3 (2520 / c)
    rw [dvd_2520 ⟨c, by omega⟩ (by show c ≠ 0; omega)] at this
    exact this
  · exact (ha.pw 2520).fix i hi
theorem iv_pw {n : Nat} {a : Fm} (ha : Pn n a) (hn : n ≤ 10) : iv a = pw a 2519 := by
  refine (iv_unique ha ?_).symm
  have h := pw_2520 ha hn
  rw [show (2520 : Nat) = 1 + 2519 by omega, pw_add] at h
  exact h

/-! ### What generators make -/
inductive Gen (S : Fm → Prop) : Fm → Prop
  | one : Gen S id
  | mul {a b : Fm} (h : Gen S a) (hb : S b) : Gen S (th a b)
theorem Gen.of {S : Fm → Prop} {a : Fm} (h : S a) : Gen S a := (id_th a) ▸ Gen.mul .one h
theorem Gen.th {S : Fm → Prop} {a b : Fm} (ha : Gen S a) (hb : Gen S b) : Gen S (th a b) := by
  induction hb with
  | one => exact ha
  | @mul c d _ h ih => exact Gen.mul (a := Go.Proofs.Ytjihhcjpbcmjaaa.th a c) ih h
theorem Gen.le {S T : Fm → Prop} (h : ∀ a, S a → Gen T a) {a : Fm} (ha : Gen S a) : Gen T a := by
  induction ha with
  | one => exact .one
  | mul _ hb ih => exact ih.th (h _ hb)
theorem Gen.pw {S : Fm → Prop} {a : Fm} (ha : Gen S a) : ∀ k, Gen S (pw a k)
  | 0 => .one
  | k + 1 => (Gen.pw ha k).th ha
theorem Gen.pn {n : Nat} {S : Fm → Prop} (h : ∀ a, S a → Pn n a) {a : Fm} (ha : Gen S a) : Pn n a := by
  induction ha with
  | one => exact Pn.id n
  | mul _ hb ih => exact ih.th (h _ hb)
theorem Gen.inv {n : Nat} {S : Fm → Prop} (hn : n ≤ 10) {a : Fm} (hp : Pn n a) (ha : Gen S a) : Gen S (iv a) := by
  rw [iv_pw hp hn]; exact ha.pw _
theorem Gen.keep {S : Fm → Prop} {i : Nat} (h : ∀ a, S a → a i = i) {a : Fm} (ha : Gen S a) : a i = i := by
  induction ha with
  | one => rfl
  | @mul a b _ hb ih => show b (a i) = i; rw [ih, h b hb]

/-! ### Sifting -/
/-- Whether a permutation is found from the level n - d on. -/
def Sf (n : Nat) (R : Nat → Nat → Bool) (L : Nat → Nat → Fm) : Nat → Fm → Prop
  | 0, _ => True
  | d + 1, p => R (n - (d + 1)) (p (n - (d + 1))) = true ∧ Sf n R L d (th p (iv (L (n - (d + 1)) (p (n - (d + 1))))))
structure Lead (n : Nat) (R : Nat → Nat → Bool) (L : Nat → Nat → Fm) (M : Nat → Fm → Prop) : Prop where
  self : ∀ k, k < n → R k k = true ∧ L k k = id
  to : ∀ k j, k < n → R k j = true → j < n ∧ L k j k = j
  low : ∀ k j i, k < n → R k j = true → i < k → L k j i = i
  pn : ∀ k j, k < n → R k j = true → Pn n (L k j)
  gen : ∀ k j, k < n → R k j = true → Gen (M k) (L k j)
  mpn : ∀ k a, M k a → Pn n a
  mlow : ∀ k a i, M k a → i < k → a i = i
  sub : ∀ k a, M (k + 1) a → Gen (M k) a
variable {n : Nat} {R : Nat → Nat → Bool} {L : Nat → Nat → Fm} {M : Nat → Fm → Prop}
def ClosedAt (n : Nat) (R : Nat → Nat → Bool) (L : Nat → Nat → Fm) (M : Nat → Fm → Prop) (k : Nat) : Prop := ∀ j a, R k j = true → M k a → Sf n R L (n - k) (th (L k j) a)

theorem low_id {a : Fm} (ha : Pn n a) (h : ∀ i, i < n → a i = i) : a = id := funext fun i => by
  rcases Nat.lt_or_ge i n with hi | hi
  · exact h i hi
  · exact ha.fix i hi
theorem rest_low (hl : Lead n R L M) {k : Nat} (hk : k < n) {p : Fm} (hp : Pn n p) (hlow : ∀ i, i < k → p i = i) (hr : R k (p k) = true) : Pn n (th p (iv (L k (p k)))) ∧ ∀ i, i < k + 1 → th p (iv (L k (p k))) i = i := by
  have h1 := hl.pn k _ hk hr
  refine ⟨hp.th h1.iv, fun i hi => ?_⟩
  show iv (L k (p k)) (p i) = i
  rcases Nat.lt_or_ge i k with h | h
  · rw [hlow i h]
    have := iv_l h1 i
    rw [hl.low k _ i hk hr h] at this
    exact this
  · obtain rfl : i = k := by omega
    have := iv_l h1 i
    rw [(hl.to i _ hk hr).2] at this
    exact this
theorem rest_back (hl : Lead n R L M) {k : Nat} (hk : k < n) {p : Fm} (hr : R k (p k) = true) : th (th p (iv (L k (p k)))) (L k (p k)) = p := by
  rw [th_assoc, iv_th (hl.pn k _ hk hr), th_id]

/-- THE LAW OF CHAINS: closed levels find just what their generators make. -/
theorem sift_gen (hl : Lead n R L M) : ∀ d, d ≤ n → (∀ k, n - d ≤ k → k < n → ClosedAt n R L M k) → ∀ p, Pn n p → (∀ i, i < n - d → p i = i) → (Sf n R L d p ↔ Gen (M (n - d)) p)
  | 0, _, _, p, hp, hlow => by
    have : p = id := low_id hp (by simpa using hlow)
    subst this
    exact ⟨fun _ => .one, fun _ => trivial⟩
  | d + 1, hd, hc, p, hp, hlow => by
    have ih := sift_gen hl d (by omega) (fun k h1 h2 => hc k (by omega) h2)
    have ek : n - d = n - (d + 1) + 1 := by omega
    have hk : n - (d + 1) < n := by omega
    constructor
    · rintro ⟨h1, h2⟩
      obtain ⟨h3, h4⟩ := rest_low hl hk hp hlow h1
      have h5 := (ih _ h3 (by rw [ek]; exact h4)).1 h2
      rw [ek] at h5
      have h6 := (Gen.le (fun a ha => hl.sub _ a ha) h5).th (hl.gen _ _ hk h1)
      rw [rest_back hl hk h1] at h6
      exact h6
    · intro hg
      induction hg with
      | one =>
        have hs := hl.self _ hk
        refine ⟨hs.1, ?_⟩
        show Sf n R L d (th id (iv (L (n - (d + 1)) (n - (d + 1)))))
        rw [hs.2, iv_id]
        exact (ih id (Pn.id n) fun _ _ => rfl).2 .one
      | @mul a b ha hb iha =>
        have hpa : Pn n a := Gen.pn (hl.mpn _) ha
        have hla : ∀ i, i < n - (d + 1) → a i = i := fun i hi => Gen.keep (fun x hx => hl.mlow _ x i hx hi) ha
        obtain ⟨h1, h2⟩ := iha hpa hla
        obtain ⟨h3, h4⟩ := rest_low hl hk hpa hla h1
        have h5 := (ih _ h3 (by rw [ek]; exact h4)).1 h2
        have hcl := hc _ (Nat.le_refl _) hk _ b h1 hb
        rw [show n - (n - (d + 1)) = d + 1 by omega] at hcl
        obtain ⟨h6, h7⟩ := hcl
        generalize hk' : n - (d + 1) = k at *
        have hpb := hl.mpn k b hb
        have hpt := hl.pn k _ hk h1
        have hlt : ∀ i, i < k → th (L k (a k)) b i = i := fun i hi => by
          show b (L k (a k) i) = i
          rw [hl.low k _ i hk h1 hi, hl.mlow k b i hb hi]
        obtain ⟨h8, h9⟩ := rest_low hl hk (hpt.th hpb) hlt h6
        have h10 := (ih _ h8 (by rw [ek]; exact h9)).1 h7
        have e1 : th (L k (a k)) b k = th a b k := by
          show b (L k (a k) k) = b (a k)
          rw [(hl.to k _ hk h1).2]
        rw [e1] at h6 h10
        refine ⟨hk'.symm ▸ h6, ?_⟩
        rw [hk']
        have e2 : th (th a b) (iv (L k (th a b k))) = th (th a (iv (L k (a k)))) (th (th (L k (a k)) b) (iv (L k (th a b k)))) := by
          rw [← th_assoc, ← th_assoc, rest_back hl hk h1]
        have hp3 : Pn n (th (th a b) (iv (L k (th a b k)))) := (hpa.th hpb).th (hl.pn k _ hk h6).iv
        rw [e2]
        refine (ih _ ?_ ?_).2 (h5.th h10)
        · rw [← e2]; exact hp3
        · intro i hi
          rw [ek] at hi
          show th (th (L k (a k)) b) (iv (L k (th a b k))) (th a (iv (L k (a k))) i) = i
          rw [h4 i hi, ← e1]
          exact h9 i hi

/-- Numbers that are kept are passed over. -/
theorem sift_down (hl : Lead n R L M) {p : Fm} : ∀ d m, d + m ≤ n → (∀ i, i < n - d → p i = i) → (Sf n R L (d + m) p ↔ Sf n R L d p)
  | d, 0, _, _ => Iff.rfl
  | d, m + 1, h, hlow => by
    rw [← sift_down hl d m (by omega) hlow]
    have hk : n - (d + m + 1) < n := by omega
    have hs := hl.self _ hk
    have hp := hlow (n - (d + m + 1)) (by omega)
    show (R (n - (d + m + 1)) (p (n - (d + m + 1))) = true ∧ Sf n R L (d + m) (th p (iv (L (n - (d + m + 1)) (p (n - (d + m + 1))))))) ↔ _
    rw [hp, hs.2, iv_id, th_id]
    exact ⟨fun h => h.2, fun h => ⟨hs.1, h⟩⟩

theorem gen_down (hl : Lead n R L M) : ∀ k {a : Fm}, Gen (M k) a → Gen (M 0) a
  | 0, _, h => h
  | k + 1, _, h => gen_down hl k (Gen.le (fun a ha => hl.sub k a ha) h)

/-- What is reached on a level is just where the group leads its number, the lesser ones kept. -/
theorem reach_iff (hl : Lead n R L M) (hc : ∀ k, k < n → ClosedAt n R L M k) {k j : Nat} (hk : k < n) : R k j = true ↔ ∃ p, Gen (M 0) p ∧ (∀ i, i < k → p i = i) ∧ p k = j := by
  constructor
  · intro h
    exact ⟨L k j, gen_down hl k (hl.gen k j hk h), fun i hi => hl.low k j i hk h hi, (hl.to k j hk h).2⟩
  · rintro ⟨p, hg, hlow, rfl⟩
    have hp : Pn n p := Gen.pn (hl.mpn 0) hg
    have h1 := (sift_gen hl n (Nat.le_refl _) (fun k _ hk => hc k hk) p hp (by intro i hi; omega)).2 (by rw [Nat.sub_self]; exact hg)
    have h2 := (sift_down hl (n - k) k (by omega) (by rw [show n - (n - k) = k by omega]; exact hlow)).1 (by rw [show n - k + k = n by omega]; exact h1)
    obtain ⟨d, hd⟩ : ∃ d, n - k = d + 1 := ⟨n - k - 1, by omega⟩
    rw [hd] at h2
    have := h2.1
    rw [show n - (d + 1) = k by omega] at this
    exact this
end Go.Proofs.Ytjihhcjpbcmjaaa
namespace Go.Proofs.Ytjihhcjpbcmjaaa
open Gx
set_option linter.unusedVariables false
/-- A permutation of n things as a map of numbers. -/
def nfp (n : Nat) (p : Nat → Fin 256) : Fm := fun j => if j < n then (p j).val else j
theorem nfp_lt {n j : Nat} {p : Nat → Fin 256} (h : j < n) : nfp n p j = (p j).val := if_pos h
theorem nfp_pn {p : Nat → Fin 256} {n : Int} (h : IsPerm p n) : Pn n.toNat (nfp n.toNat p) := by
  obtain ⟨h1, h2, h3, h4⟩ := h
  have hlt : ∀ j, j < n.toNat → (p j).val < n.toNat := fun j hj => by have := h3.2 j (by omega) (by omega); omega
  refine ⟨fun j hj => by rw [nfp_lt hj]; exact hlt j hj, fun j hj => if_neg (by omega), fun i j e => ?_⟩
  unfold nfp at e
  split at e <;> split at e
  · exact h4 i j (by omega) (by omega) (by omega) (by omega) e
  · have := hlt i (by assumption); omega
  · have := hlt j (by assumption); omega
  · exact e
/-- What a list of permutations makes. -/
def Sp (ps : List (Nat → Fin 256)) (n : Nat) : Fm → Prop := fun a => ∃ p, p ∈ ps ∧ a = nfp n p
def PsOk (ps : List (Nat → Fin 256)) (n : Int) : Prop := (1 ≤ n ∧ n ≤ 10) ∧ ∀ p, p ∈ ps → IsPerm p n
theorem Sp_pn {ps : List (Nat → Fin 256)} {n : Int} (h : PsOk ps n) : ∀ a, Sp ps n.toNat a → Pn n.toNat a := by
  rintro a ⟨p, hp, rfl⟩
  exact nfp_pn (h.2 p hp)
/-- One orbit. -/
def Orb (S : Fm → Prop) (x y : Nat) : Prop := ∃ a, Gen S a ∧ a x = y
theorem Orb.refl {S : Fm → Prop} (x : Nat) : Orb S x x := ⟨id, .one, rfl⟩
theorem Orb.trans {S : Fm → Prop} {x y z : Nat} (h1 : Orb S x y) (h2 : Orb S y z) : Orb S x z := by
  obtain ⟨a, ha, rfl⟩ := h1
  obtain ⟨b, hb, rfl⟩ := h2
  exact ⟨th a b, ha.th hb, rfl⟩
theorem Orb.symm {n : Nat} (hn : n ≤ 10) {S : Fm → Prop} (hS : ∀ a, S a → Pn n a) {x y : Nat} (h : Orb S x y) : Orb S y x := by
  obtain ⟨a, ha, rfl⟩ := h
  have hp := Gen.pn hS ha
  exact ⟨iv a, ha.inv hn hp, iv_l hp x⟩
theorem Orb.step {S : Fm → Prop} {a : Fm} {x : Nat} (h : S a) : Orb S x (a x) := ⟨a, .of h, rfl⟩

/-! ### Labelled classes -/
structure Eqv (E : Nat → Nat → Prop) : Prop where
  refl : ∀ x, E x x
  symm : ∀ x y, E x y → E y x
  trans : ∀ x y z, E x y → E y z → E x z
/-- Each number bears the least one of its class. -/
structure Lab (n : Nat) (E : Nat → Nat → Prop) (c : List Int) : Prop where
  len : c.length = n
  lab : ∀ x, x < n → ∃ m : Nat, c.getD x 0 = (m : Int) ∧ m ≤ x ∧ E m x ∧ ∀ y, y < n → E y x → m ≤ y
theorem Lab.start (n : Nat) : Lab n (fun x y => x = y) ((List.range n).map fun i : Nat => (i : Int)) :=
  ⟨by simp, fun x hx => ⟨x, by simp [List.getD, hx], Nat.le_refl _, rfl, fun y _ e => by omega⟩⟩
theorem Lab.eq_iff {n : Nat} {E : Nat → Nat → Prop} {c : List Int} (h : Lab n E c) (hE : Eqv E) {x y : Nat} (hx : x < n) (hy : y < n) : c.getD x 0 = c.getD y 0 ↔ E x y := by
  obtain ⟨a, e1, h1, h2, h3⟩ := h.lab x hx
  obtain ⟨b, e2, h4, h5, h6⟩ := h.lab y hy
  rw [e1, e2]
  constructor
  · intro e
    obtain rfl : a = b := by omega
    exact hE.trans _ _ _ (hE.symm _ _ h2) h5
  · intro e
    have h7 := h3 b (by omega) (hE.trans _ _ _ h5 (hE.symm _ _ e))
    have h8 := h6 a (by omega) (hE.trans _ _ _ h2 e)
    omega
theorem Lab.rng {n : Nat} {E : Nat → Nat → Prop} {c : List Int} (h : Lab n E c) {x : Nat} (hx : x < n) : 0 ≤ c.getD x 0 ∧ c.getD x 0 ≤ (x : Int) := by
  obtain ⟨a, e1, h1, _⟩ := h.lab x hx
  omega
def Jn (E : Nat → Nat → Prop) (x y : Nat) : Nat → Nat → Prop := fun u v => E u v ∨ (E u x ∧ E y v) ∨ (E u y ∧ E x v)
theorem Jn.eqv {E : Nat → Nat → Prop} (h : Eqv E) (x y : Nat) : Eqv (Jn E x y) where
  refl := fun u => .inl (h.refl u)
  symm := fun u v => by
    rintro (h1 | ⟨h1, h2⟩ | ⟨h1, h2⟩)
    · exact .inl (h.symm _ _ h1)
    · exact .inr (.inr ⟨h.symm _ _ h2, h.symm _ _ h1⟩)
    · exact .inr (.inl ⟨h.symm _ _ h2, h.symm _ _ h1⟩)
  trans := fun u v w => by
    rintro (h1 | ⟨h1, h2⟩ | ⟨h1, h2⟩) (h3 | ⟨h3, h4⟩ | ⟨h3, h4⟩)
    · exact .inl (h.trans _ _ _ h1 h3)
    · exact .inr (.inl ⟨h.trans _ _ _ h1 h3, h4⟩)
    · exact .inr (.inr ⟨h.trans _ _ _ h1 h3, h4⟩)
    · exact .inr (.inl ⟨h1, h.trans _ _ _ h2 h3⟩)
    · exact .inr (.inl ⟨h1, h4⟩)
    · exact .inl (h.trans _ _ _ h1 h4)
    · exact .inr (.inr ⟨h1, h.trans _ _ _ h2 h3⟩)
    · exact .inl (h.trans _ _ _ h1 h4)
    · exact .inr (.inr ⟨h1, h4⟩)
theorem Jn.le {E : Nat → Nat → Prop} {x y u v : Nat} (h : E u v) : Jn E x y u v := .inl h
theorem Jn.pair {E : Nat → Nat → Prop} (h : Eqv E) (x y : Nat) : Jn E x y x y := .inr (.inl ⟨h.refl x, h.refl y⟩)
theorem Jn.least {E F : Nat → Nat → Prop} (hF : Eqv F) (h : ∀ u v, E u v → F u v) {x y : Nat} (hxy : F x y) : ∀ u v, Jn E x y u v → F u v := by
  rintro u v (h1 | ⟨h1, h2⟩ | ⟨h1, h2⟩)
  · exact h _ _ h1
  · exact hF.trans _ _ _ (hF.trans _ _ _ (h _ _ h1) hxy) (h _ _ h2)
  · exact hF.trans _ _ _ (hF.trans _ _ _ (h _ _ h1) (hF.symm _ _ hxy)) (h _ _ h2)
/-- The class of the greater label takes the lesser one. -/
def joinL (c : List Int) (x y : Nat) : List Int := c.map fun z => if z = max (c.getD x 0) (c.getD y 0) then min (c.getD x 0) (c.getD y 0) else z
theorem map_getD {f : Int → Int} {l : List Int} {i : Nat} (hi : i < l.length) : (l.map f).getD i 0 = f (l.getD i 0) := by
  simp [List.getD, hi]
theorem joinL_getD {c : List Int} {x y i : Nat} (hi : i < c.length) : (joinL c x y).getD i 0 = if c.getD i 0 = max (c.getD x 0) (c.getD y 0) then min (c.getD x 0) (c.getD y 0) else c.getD i 0 :=
  map_getD (f := fun z => if z = max (c.getD x 0) (c.getD y 0) then min (c.getD x 0) (c.getD y 0) else z) hi
theorem Lab.join {n : Nat} {E : Nat → Nat → Prop} {c : List Int} (h : Lab n E c) (hE : Eqv E) {x y : Nat} (hx : x < n) (hy : y < n) : Lab n (Jn E x y) (joinL c x y) := by
  refine ⟨by simp [joinL, h.len], fun z hz => ?_⟩
  rw [joinL_getD (by rw [h.len]; exact hz)]
  obtain ⟨a, ea, a1, a2, a3⟩ := h.lab x hx
  obtain ⟨b, eb, b1, b2, b3⟩ := h.lab y hy
  obtain ⟨m, em, m1, m2, m3⟩ := h.lab z hz
  have hmx : (m = a ↔ E z x) := by
    have := h.eq_iff hE hz hx
    rw [em, ea] at this
    exact ⟨fun e => this.1 (by omega), fun e => by have := this.2 e; omega⟩
  have hmy : (m = b ↔ E z y) := by
    have := h.eq_iff hE hz hy
    rw [em, eb] at this
    exact ⟨fun e => this.1 (by omega), fun e => by have := this.2 e; omega⟩
  rw [ea, eb, em]
  by_cases hab : a ≤ b
  · rw [show max (a : Int) b = b by omega, show min (a : Int) b = a by omega]
    by_cases hm : (m : Int) = b
    · rw [if_pos hm]
      have hzy := hmy.1 (by omega)
      refine ⟨a, rfl, by omega, .inr (.inl ⟨a2, hE.symm _ _ hzy⟩), fun w hw => ?_⟩
      rintro (h1 | ⟨h1, _⟩ | ⟨h1, _⟩)
      · have := b3 w hw (hE.trans _ _ _ h1 hzy); omega
      · exact a3 w hw h1
      · have := b3 w hw h1; omega
    · rw [if_neg hm]
      have hzy : ¬ E z y := fun e => hm (by rw [hmy.2 e])
      refine ⟨m, rfl, m1, .inl m2, fun w hw => ?_⟩
      rintro (h1 | ⟨_, h2⟩ | ⟨h1, h2⟩)
      · exact m3 w hw h1
      · exact absurd (hE.symm _ _ h2) hzy
      · have hzx := hmx.2 (hE.symm _ _ h2)
        have := b3 w hw h1
        omega
  · rw [show max (a : Int) b = a by omega, show min (a : Int) b = b by omega]
    by_cases hm : (m : Int) = a
    · rw [if_pos hm]
      have hzx := hmx.1 (by omega)
      refine ⟨b, rfl, by omega, .inr (.inr ⟨b2, hE.symm _ _ hzx⟩), fun w hw => ?_⟩
      rintro (h1 | ⟨h1, _⟩ | ⟨h1, _⟩)
      · have := a3 w hw (hE.trans _ _ _ h1 hzx); omega
      · have := a3 w hw h1; omega
      · exact b3 w hw h1
    · rw [if_neg hm]
      have hzx : ¬ E z x := fun e => hm (by rw [hmx.2 e])
      refine ⟨m, rfl, m1, .inl m2, fun w hw => ?_⟩
      rintro (h1 | ⟨h1, h2⟩ | ⟨_, h2⟩)
      · exact m3 w hw h1
      · have hzy := hmy.2 (hE.symm _ _ h2)
        have := a3 w hw h1
        omega
      · exact absurd (hE.symm _ _ h2) hzx

/-! ### The classes as lists -/
/-- The numbers below n that bear the label x. -/
def cls (c : List Int) (n : Nat) (x : Nat) : List Int := ((List.range n).filter fun y => decide (c.getD y 0 = (x : Int))).map fun y : Nat => (y : Int)
theorem cls_ne {n : Nat} {E : Nat → Nat → Prop} {c : List Int} (h : Lab n E c) (hE : Eqv E) {x : Nat} (hx : x < n) : cls c n x = [] ↔ ∃ y, y < x ∧ E y x := by
  obtain ⟨m, em, m1, m2, m3⟩ := h.lab x hx
  constructor
  · intro e
    have h0 : ¬ c.getD x 0 = (x : Int) := fun h0 => by
      have : x ∈ (List.range n).filter fun y => decide (c.getD y 0 = (x : Int)) := List.mem_filter.2 ⟨List.mem_range.2 hx, decide_eq_true h0⟩
      have h1 : ((x : Nat) : Int) ∈ cls c n x := List.mem_map.2 ⟨x, this, rfl⟩
      rw [e] at h1
      cases h1
    exact ⟨m, by omega, m2⟩
  · rintro ⟨y, hy, e⟩
    unfold cls
    rw [List.map_eq_nil_iff, List.filter_eq_nil_iff]
    intro z hz
    have hz := List.mem_range.1 hz
    obtain ⟨k, ek, k1, k2, k3⟩ := h.lab z hz
    simp only [decide_eq_true_eq, ek]
    intro hk
    obtain rfl : k = x := by omega
    have := k3 y (by omega) (hE.trans _ _ _ e k2)
    omega
theorem cls_eq {n : Nat} {E : Nat → Nat → Prop} {c : List Int} (h : Lab n E c) (hE : Eqv E) {x : Nat} (hx : x < n) (h0 : ¬ ∃ y, y < x ∧ E y x) : ∀ y, y < n → (c.getD y 0 = (x : Int) ↔ E x y) := by
  obtain ⟨m, em, m1, m2, m3⟩ := h.lab x hx
  have hmx : m = x := Classical.byContradiction fun hne => h0 ⟨m, by omega, m2⟩
  subst hmx
  intro y hy
  have := h.eq_iff hE hx hy
  rw [em] at this
  rw [eq_comm]
  exact this
end Go.Proofs.Ytjihhcjpbcmjaaa
