/- The specification's chain: levels of orbits, what is missing, what is found in the end. No conditions but those in the statements. -/
import Derived.Test.YtjihhcjpbcmjaaaFGM46
import Derived.Test.YtjihhcjpbcmjaaaFGGx37
namespace Go.Proofs.Ytjihhcjpbcmjaaa
open Gx
set_option linter.unusedVariables false
/-! ### Witnesses of an orbit -/
structure Tg (l : List Pl) (n : Int) (x0 : Nat) (f : Nat → Fin 256) (h : Nat → Bool) : Prop where
  perm : ∀ y, y < n.toNat → h y = true → IsPerm (fun j => f (10 * y + j)) n
  gen : ∀ y, y < n.toNat → h y = true → Gen (Sp l n.toNat) (fmP n.toNat (fun j => f (10 * y + j)))
  to : ∀ y, y < n.toNat → h y = true → (f (10 * y + x0)).val = y
  one : h x0 = true → ∀ j, j < 10 → f (10 * x0 + j) = idT n.toNat j
  out : ∀ y, n.toNat ≤ y → y < 10 → h y = false
def putF (f : Nat → Fin 256) (v : Nat) (g : Pl) : Nat → Fin 256 := fun j => if 10 * v ≤ j ∧ j < 10 * v + 10 then g (j - 10 * v) else f j
theorem putF_at {f : Nat → Fin 256} {v : Nat} {g : Pl} : ∀ j, j < 10 → putF f v g (10 * v + j) = g j := fun j hj => by
  unfold putF; rw [if_pos (by omega)]; congr 1; omega
theorem putF_ne {f : Nat → Fin 256} {v y : Nat} {g : Pl} (hy : y ≠ v) : ∀ j, j < 10 → putF f v g (10 * y + j) = f (10 * y + j) := fun j hj => by
  unfold putF; rw [if_neg (by omega)]
theorem Tg.none {l : List Pl} {n : Int} {x0 : Nat} {f : Nat → Fin 256} : Tg l n x0 f (fun _ => false) := ⟨fun _ _ h => (by cases h), fun _ _ h => (by cases h), fun _ _ h => (by cases h), fun h => (by cases h), fun _ _ _ => rfl⟩
theorem Tg.put {l : List Pl} {n : Int} {x0 v : Nat} {f : Nat → Fin 256} {h : Nat → Bool} {g : Pl} (hn : n ≤ 10) (hx : x0 < n.toNat) (hg : IsPerm g n) (hgen : Gen (Sp l n.toNat) (fmP n.toNat g)) (hv : (g x0).val = v) (hvn : v < n.toNat)
    (h1 : v = x0 → ∀ j, j < 10 → g j = idT n.toNat j) (hT : Tg l n x0 f h) : Tg l n x0 (putF f v g) (fun y => if y = v then true else h y) where
  perm := fun y hy hh => by
    by_cases e : y = v
    · subst e; exact hg.congr fun j hj => putF_at j hj
    · have hh' : (if y = v then true else h y) = true := hh
      rw [if_neg e] at hh'
      exact (hT.perm y hy hh').congr fun j hj => putF_ne e j hj
  gen := fun y hy hh => by
    by_cases e : y = v
    · subst e
      rw [fmP_congr (q := g) fun j hj => putF_at j (by omega)]; exact hgen
    · have hh' : (if y = v then true else h y) = true := hh
      rw [if_neg e] at hh'
      rw [fmP_congr (q := fun j => f (10 * y + j)) fun j hj => putF_ne e j (by omega)]
      exact hT.gen y hy hh'
  to := fun y hy hh => by
    by_cases e : y = v
    · subst e; rw [putF_at x0 (by omega)]; exact hv
    · have hh' : (if y = v then true else h y) = true := hh
      rw [if_neg e] at hh'
      rw [putF_ne e x0 (by omega)]; exact hT.to y hy hh'
  one := fun hh j hj => by
    by_cases e : x0 = v
    · rw [e, putF_at j hj]; exact h1 e.symm j hj
    · have hh' : (if x0 = v then true else h x0) = true := hh
      rw [if_neg e] at hh'
      rw [putF_ne e j hj]; exact hT.one hh' j hj
  out := fun y h2 h3 => by
    show (if y = v then true else h y) = false
    rw [if_neg (by omega)]; exact hT.out y h2 h3
theorem fmP_id {n : Nat} (hn : n ≤ 10) : fmP n (idT n) = id := funext fun i => by
  by_cases hi : i < n
  · rw [fmP_in hi, idT_at hn hi]; rfl
  · rw [fmP_out hi]; rfl
theorem Tg.start {l : List Pl} {n : Int} {x0 : Nat} (hn : 1 ≤ n ∧ n ≤ 10) (hx : x0 < n.toNat) : Tg l n x0 (putF (fun _ => 0) x0 (idT n.toNat)) (fun y => if y = x0 then true else false) :=
  Tg.put hn.2 hx (idT_perm hn) (by rw [fmP_id (by omega)]; exact .one) (idT_at (by omega) hx) hx (fun _ _ _ => rfl) Tg.none
theorem Tg.new {l : List Pl} {n : Int} {x0 u k : Nat} {f : Nat → Fin 256} {h : Nat → Bool} (hp : PsOk l n) (hx : x0 < n.toNat) (h0 : h x0 = true) (hk : k < l.length) (hu : u < n.toNat) (hhu : h u = true) (hf : h ((l.getD k fun _ => 0) u).val = false) (hT : Tg l n x0 f h) :
    Tg l n x0 (putF f ((l.getD k fun _ => 0) u).val (thenT (fun j => f (10 * u + j)) (l.getD k fun _ => 0) n.toNat)) (fun y => if y = ((l.getD k fun _ => 0) u).val then true else h y) := by
  have hq := hp.at hk
  have hmem : l.getD k (fun _ => 0) ∈ l := by rw [List.getD, List.getElem?_eq_getElem hk]; exact List.getElem_mem hk
  have hpu := hT.perm u hu hhu
  have hn := hp.1
  have en : (n.toNat : Int) = n := by omega
  refine Tg.put hn.2 hx (thenT_perm hpu hq) ?_ ?_ ?_ (fun e => by rw [e, h0] at hf; cases hf) hT
  · rw [fmP_then (by rw [en]; exact hpu)]
    exact (hT.gen u hu hhu).mul ⟨_, hmem, rfl⟩
  · unfold thenT; rw [if_pos hx, hT.to u hu hhu]
  · have := (perm_lt (i := u) hq (by omega)).1; omega
/-! ### Levels -/
def kp (l : List Pl) (k : Nat) : List Pl := kpI l k l.length
theorem kp_mem {l : List Pl} {k : Nat} {p : Pl} : p ∈ kp l k ↔ p ∈ l ∧ keepB p k = true := by
  unfold kp
  rw [kpI_mem _ (Nat.le_refl _)]
  constructor
  · rintro ⟨j, h1, rfl, h2⟩
    refine ⟨?_, h2⟩
    rw [List.getD, List.getElem?_eq_getElem h1]; exact List.getElem_mem h1
  · rintro ⟨h1, h2⟩
    obtain ⟨j, hj, rfl⟩ := List.mem_iff_getElem.1 h1
    exact ⟨j, hj, by simp [List.getD, hj], h2⟩
theorem kp_ok {l : List Pl} {n : Int} (h : PsOk l n) (k : Nat) : PsOk (kp l k) n := ⟨h.1, fun p hp => h.2 p (kp_mem.1 hp).1⟩
theorem kp_zero {l : List Pl} {p : Pl} : p ∈ kp l 0 ↔ p ∈ l := by rw [kp_mem]; exact ⟨fun h => h.1, fun h => ⟨h, rfl⟩⟩
structure LvOk (l : List Pl) (n k : Nat) (q : Lv) : Prop where
  base : q.1 = (k : Int)
  has : ∀ y, y < n → q.2.1 y = orbB (kp l k) n k y
  tg : Tg (kp l k) (n : Int) k q.2.2 q.2.1
def rowC (C : List Lv) (k x : Nat) : Pl := fun j => (C.getD k lv0).2.2 (10 * x + j)
structure ChOk (l : List Pl) (n : Nat) (C : List Lv) : Prop where
  len : C.length = n
  lv : ∀ k, k < n → LvOk l n k (C.getD k lv0)
def RC (n : Nat) (C : List Lv) (k j : Nat) : Bool := decide (j < n) && (C.getD k lv0).2.1 j
def LC (n : Nat) (C : List Lv) (k j : Nat) : Fm := fmP n (rowC C k j)
def MC (n : Nat) (l : List Pl) (k : Nat) : Fm → Prop := Sp (kp l k) n
theorem RC_iff {n k j : Nat} {C : List Lv} : RC n C k j = true ↔ j < n ∧ (C.getD k lv0).2.1 j = true := by
  unfold RC; rw [Bool.and_eq_true, decide_eq_true_eq]
section
variable {l : List Pl} {n : Nat} {C : List Lv}
theorem ChOk.perm (h : ChOk l n C) {k x : Nat} (hk : k < n) (hx : x < n) (hh : (C.getD k lv0).2.1 x = true) : IsPerm (rowC C k x) (n : Int) := (h.lv k hk).tg.perm x hx hh
theorem ChOk.R (h : ChOk l n C) {k x : Nat} (hk : k < n) : RC n C k x = true ↔ x < n ∧ Orb (MC n l k) k x := by
  rw [RC_iff]
  exact ⟨fun ⟨a, b⟩ => ⟨a, orbB_iff.1 (by rw [← (h.lv k hk).has x a]; exact b)⟩, fun ⟨a, b⟩ => ⟨a, by rw [(h.lv k hk).has x a]; exact orbB_iff.2 b⟩⟩
theorem keep_fix {p : Pl} {k i : Nat} (hn : i < n) (h : keepB p k = true) (hi : i < k) : fmP n p i = i := by
  rw [fmP_in hn]; exact keepB_iff k |>.1 h i hi
theorem ChOk.lead (h : ChOk l n C) (hp : PsOk l (n : Int)) : Lead n (RC n C) (LC n C) (MC n l) := by
  have hn : n ≤ 10 := by have := hp.1; omega
  have hM : ∀ k a, MC n l k a → ∃ p, p ∈ l ∧ keepB p k = true ∧ IsPerm p (n : Int) ∧ a = fmP n p := fun k a ⟨p, h1, h2⟩ => ⟨p, (kp_mem.1 h1).1, (kp_mem.1 h1).2, hp.2 p (kp_mem.1 h1).1, h2⟩
  have hmlow : ∀ k a i, MC n l k a → i < k → a i = i := fun k a i ha hi => by
    obtain ⟨p, h1, h2, h3, rfl⟩ := hM k a ha
    by_cases hin : i < n
    · exact keep_fix hin h2 hi
    · exact fmP_out hin
  constructor
  · intro k hk
    have hr : RC n C k k = true := (h.R hk).2 ⟨hk, Orb.refl k⟩
    refine ⟨hr, ?_⟩
    have h1 := (h.lv k hk).tg.one (RC_iff.1 hr).2
    exact (fmP_congr fun j hj => h1 j (by omega)).trans (fmP_id hn)
  · intro k j hk hr
    have h1 := RC_iff.1 hr
    refine ⟨h1.1, ?_⟩
    show fmP n (rowC C k j) k = j
    rw [fmP_in hk]; exact (h.lv k hk).tg.to j h1.1 h1.2
  · intro k j i hk hr hi
    have h1 := RC_iff.1 hr
    exact Gen.keep (fun a ha => hmlow k a i ha hi) ((h.lv k hk).tg.gen j h1.1 h1.2)
  · intro k j hk hr
    have h1 := RC_iff.1 hr
    exact fmP_pn (h.perm hk h1.1 h1.2)
  · intro k j hk hr
    have h1 := RC_iff.1 hr
    exact (h.lv k hk).tg.gen j h1.1 h1.2
  · intro k a ha
    obtain ⟨p, h1, h2, h3, rfl⟩ := hM k a ha
    exact fmP_pn h3
  · exact hmlow
  · rintro k a ⟨p, h1, rfl⟩
    have h2 := kp_mem.1 h1
    exact .of ⟨p, kp_mem.2 ⟨h2.1, (keepB_iff k).2 fun j hj => (keepB_iff (k + 1)).1 h2.2 j (by omega)⟩, rfl⟩
/-! ### Sifting -/
def rstC (C : List Lv) (n k : Nat) (p : Pl) : Pl := thenT p (backT (rowC C k (p k).val) n) n
def sfP (C : List Lv) (n : Nat) : Nat → Nat → Pl → Pl × Nat
  | 0, k, p => (p, k)
  | d + 1, k, p => if (C.getD k lv0).2.1 (p k).val = true then sfP C n d (k + 1) (rstC C n k p) else (p, k)
theorem sfP_t {k : Nat} {p : Pl} (hk : k < n) (h : (C.getD k lv0).2.1 (p k).val = true) : sfP C n (n - k) k p = sfP C n (n - (k + 1)) (k + 1) (rstC C n k p) := by
  rw [show n - k = (n - (k + 1)) + 1 by omega, sfP, if_pos h]
theorem sfP_f {k : Nat} {p : Pl} (hk : k < n) (h : (C.getD k lv0).2.1 (p k).val = false) : sfP C n (n - k) k p = (p, k) := by
  rw [show n - k = (n - (k + 1)) + 1 by omega, sfP, if_neg (by rw [h]; decide)]
theorem sfP_end {p : Pl} : sfP C n (n - n) n p = (p, n) := by rw [Nat.sub_self]; rfl
theorem rst_perm (h : ChOk l n C) {k : Nat} {p : Pl} (hp : IsPerm p (n : Int)) (hk : k < n) (hh : (C.getD k lv0).2.1 (p k).val = true) : IsPerm (rstC C n k p) (n : Int) := thenT_perm hp (backT_perm (h.perm hk (plt hp hk) hh))
theorem rst_fm (h : ChOk l n C) {k : Nat} {p : Pl} (hp : IsPerm p (n : Int)) (hk : k < n) (hh : (C.getD k lv0).2.1 (p k).val = true) : fmP n (rstC C n k p) = th (fmP n p) (iv (LC n C k (fmP n p k))) := by
  unfold rstC
  rw [fmP_then hp, fmP_back (h.perm hk (plt hp hk) hh), fmP_in hk]; rfl
theorem low_same {p : Pl} (hp : IsPerm p (n : Int)) (h : ∀ i, i < n → fmP n p i = i) : ∀ i, i < 10 → p i = idT n i := fun i hi => by
  have hn := pn10 hp
  by_cases hin : i < n
  · have := h i hin
    rw [fmP_in hin] at this
    exact Fin.ext (by rw [this, idT_at hn hin])
  · rw [hp.2.2.1.1 i hi (by omega)]
    unfold idT; rw [if_neg hin]
theorem sf_res (h : ChOk l n C) (hl : PsOk l (n : Int)) {S : Fm → Prop} (hS : ∀ k j, k < n → RC n C k j = true → Gen S (LC n C k j)) : ∀ d k p, n - k = d → k ≤ n → IsPerm p (n : Int) → (∀ i, i < k → fmP n p i = i) → Gen S (fmP n p) →
    IsPerm (sfP C n d k p).1 (n : Int) ∧ Gen S (fmP n (sfP C n d k p).1) ∧ ((Sf n (RC n C) (LC n C) d (fmP n p) ∧ ∀ i, i < 10 → (sfP C n d k p).1 i = idT n i) ∨
      (¬ Sf n (RC n C) (LC n C) d (fmP n p) ∧ ∃ j, j < n ∧ (∀ i, i < j → fmP n (sfP C n d k p).1 i = i) ∧ (C.getD j lv0).2.1 ((sfP C n d k p).1 j).val = false))
  | 0, k, p, hd, hk, hp, hlow, hg => ⟨hp, hg, .inl ⟨trivial, low_same hp fun i hi => hlow i (by omega)⟩⟩
  | d + 1, k, p, hd, hk, hp, hlow, hg => by
    have hk' : k < n := by omega
    have hn : n ≤ 10 := pn10 hp
    have hlead := h.lead hl
    have e1 : n - (d + 1) = k := by omega
    have hsf : Sf n (RC n C) (LC n C) (d + 1) (fmP n p) ↔ RC n C k (fmP n p k) = true ∧ Sf n (RC n C) (LC n C) d (th (fmP n p) (iv (LC n C k (fmP n p k)))) := by
      show (RC n C (n - (d + 1)) (fmP n p (n - (d + 1))) = true ∧ Sf n (RC n C) (LC n C) d (th (fmP n p) (iv (LC n C (n - (d + 1)) (fmP n p (n - (d + 1))))))) ↔ _
      rw [e1]
    have hpk : fmP n p k = (p k).val := fmP_in hk'
    cases hh : (C.getD k lv0).2.1 (p k).val with
    | true =>
      have hr : RC n C k (fmP n p k) = true := by rw [hpk]; exact RC_iff.2 ⟨plt hp hk', hh⟩
      have hrp := rst_perm h hp hk' hh
      have hrf := rst_fm h hp hk' hh
      obtain ⟨_, hrl⟩ := rest_low hlead hk' (fmP_pn hp) hlow hr
      have hgr : Gen S (fmP n (rstC C n k p)) := by
        rw [hrf]
        exact hg.th ((hS k _ hk' hr).inv hn (hlead.pn k _ hk' hr))
      have ih := sf_res h hl hS d (k + 1) (rstC C n k p) (by omega) (by omega) hrp (by rw [hrf]; exact hrl) hgr
      have e2 : sfP C n (d + 1) k p = sfP C n d (k + 1) (rstC C n k p) := by rw [sfP, if_pos hh]
      rw [e2, hsf, ← hrf]
      refine ⟨ih.1, ih.2.1, ?_⟩
      rcases ih.2.2 with ⟨a, b⟩ | ⟨a, b⟩
      · exact .inl ⟨⟨hr, a⟩, b⟩
      · exact .inr ⟨fun hc => a hc.2, b⟩
    | false =>
      have e2 : sfP C n (d + 1) k p = (p, k) := by rw [sfP, if_neg (by rw [hh]; decide)]
      rw [e2, hsf]
      refine ⟨hp, hg, .inr ⟨fun hc => ?_, k, hk', hlow, hh⟩⟩
      have := (RC_iff.1 hc.1).2
      rw [hpk, hh] at this; cases this
/-- Whoever stops is not at rest. -/
theorem not_same (h : ChOk l n C) (hn : n ≤ 10) {q : Pl} {j : Nat} (hj : j < n) (hf : (C.getD j lv0).2.1 (q j).val = false) : ¬ ∀ i, i < 10 → q i = idT n i := fun hs => by
  have h1 := hs j (by omega)
  rw [h1, idT_at hn hj] at hf
  have := (RC_iff.1 ((h.R hj).2 ⟨hj, Orb.refl j⟩)).2
  rw [hf] at this; cases this
/-- What sifting tells. -/
theorem sf_same (h : ChOk l n C) (hl : PsOk l (n : Int)) {p : Pl} (hp : IsPerm p (n : Int)) : (∀ i, i < 10 → (sfP C n n 0 p).1 i = idT n i) ↔ Sf n (RC n C) (LC n C) n (fmP n p) := by
  have hn := pn10 hp
  obtain ⟨_, _, h3⟩ := sf_res h hl (S := fun _ => True) (fun _ _ _ _ => .of trivial) n 0 p rfl (Nat.zero_le _) hp (fun i hi => by omega) (.of trivial)
  rcases h3 with ⟨a, b⟩ | ⟨a, j, b1, b2, b3⟩
  · exact ⟨fun _ => a, fun _ => b⟩
  · exact ⟨fun hs => absurd hs (not_same h hn b1 b3), fun hs => absurd hs a⟩
end
theorem lv_snoc {l : List Pl} {n i : Nat} {D : List Lv} {q : Lv} (hl : D.length = i) (h : ∀ k, k < i → LvOk l n k (D.getD k lv0)) (hq : LvOk l n i q) : ∀ k, k < i + 1 → LvOk l n k ((D ++ [q]).getD k lv0) := fun k hk => by
  by_cases e : k = i
  · subst e
    have : (D ++ [q]).getD k lv0 = q := by simp [List.getD, hl]
    rw [this]; exact hq
  · have : (D ++ [q]).getD k lv0 = D.getD k lv0 := by
      simp only [List.getD]; rw [List.getElem?_append_left (by omega)]
    rw [this]; exact h k (by omega)
/-! ### What is missing; how it is made good -/
def ClC (n : Nat) (l : List Pl) (C : List Lv) (k : Nat) : Prop := ClosedAt n (RC n C) (LC n C) (MC n l) k
structure Miss (l : List Pl) (n : Nat) (C : List Lv) (p : Pl) : Prop where
  perm : IsPerm p (n : Int)
  gen : Gen (Sp l n) (fmP n p)
  stop : ∃ j, j < n ∧ (∀ i, i < j → fmP n p i = i) ∧ (C.getD j lv0).2.1 (p j).val = false
section
variable {l : List Pl} {n : Nat} {C : List Lv}
theorem kp_gen {k : Nat} {a : Fm} (h : Gen (MC n l k) a) : Gen (Sp l n) a := Gen.le (fun b ⟨p, h1, h2⟩ => .of ⟨p, (kp_mem.1 h1).1, h2⟩) h
/-- One product of a leader and a generator. -/
theorem miss_step (h : ChOk l n C) (hl : PsOk l (n : Int)) {k x : Nat} {q : Pl} (hk : k < n) (hx : x < n) (hh : (C.getD k lv0).2.1 x = true) (hq : q ∈ kp l k) :
    IsPerm (thenT (rowC C k x) q n) (n : Int) ∧ ((∀ i, i < 10 → (sfP C n n 0 (thenT (rowC C k x) q n)).1 i = idT n i) → Sf n (RC n C) (LC n C) (n - k) (th (LC n C k x) (fmP n q))) ∧
      ((¬ ∀ i, i < 10 → (sfP C n n 0 (thenT (rowC C k x) q n)).1 i = idT n i) → Miss l n C (sfP C n n 0 (thenT (rowC C k x) q n)).1) := by
  have hlead := h.lead hl
  have hn : n ≤ 10 := by have := hl.1; omega
  have hr : RC n C k x = true := RC_iff.2 ⟨hx, hh⟩
  have hcp := h.perm hk hx hh
  have hqp : IsPerm q (n : Int) := hl.2 q (kp_mem.1 hq).1
  have hpp := thenT_perm hcp hqp
  have hfm : fmP n (thenT (rowC C k x) q n) = th (LC n C k x) (fmP n q) := fmP_then hcp
  have hqM : MC n l k (fmP n q) := ⟨q, hq, rfl⟩
  refine ⟨hpp, fun hs => ?_, fun hs => ?_⟩
  · have h1 := (sf_same h hl hpp).1 hs
    have h1' : Sf n (RC n C) (LC n C) n (th (LC n C k x) (fmP n q)) := by rw [← hfm]; exact h1
    have h2 := sift_down hlead (p := th (LC n C k x) (fmP n q)) (n - k) k (by omega) (fun i hi => by
      show fmP n q (LC n C k x i) = i
      rw [hlead.low k x i hk hr (by omega), hlead.mlow k _ i hqM (by omega)])
    rw [show n - k + k = n by omega] at h2
    exact h2.1 h1'
  · have hgl : ∀ k' j, k' < n → RC n C k' j = true → Gen (Sp l n) (LC n C k' j) := fun k' j hk' hr' => kp_gen (hlead.gen k' j hk' hr')
    have hgp : Gen (Sp l n) (fmP n (thenT (rowC C k x) q n)) := by
      rw [hfm]; exact (hgl k x hk hr).th (kp_gen (.of hqM))
    obtain ⟨a1, a2, a3⟩ := sf_res h hl hgl n 0 _ rfl (Nat.zero_le _) hpp (fun i hi => by omega) hgp
    rcases a3 with ⟨_, b⟩ | ⟨_, b⟩
    · exact absurd b hs
    · exact ⟨a1, a2, b⟩
/-- How much is reached in all. -/
noncomputable def rcB (l : List Pl) (n i : Nat) : Bool := decide (i / 10 < n) && (decide (i % 10 < n) && orbB (kp l (i / 10)) n (i / 10) (i % 10))
noncomputable def rcN (l : List Pl) (n : Nat) : Nat := ctB (rcB l n) 100
theorem rcN_bd (l : List Pl) (n : Nat) : rcN l n ≤ 100 := ctB_bd _ _
theorem kp_app {p : Pl} {k : Nat} {q : Pl} (h : q ∈ kp l k) : q ∈ kp (l ++ [p]) k := kp_mem.2 ⟨List.mem_append_left _ (kp_mem.1 h).1, (kp_mem.1 h).2⟩
theorem rcN_up (h : ChOk l n C) (hl : PsOk l (n : Int)) {p : Pl} (hm : Miss l n C p) : rcN l n + 1 ≤ rcN (l ++ [p]) n := by
  have hn : n ≤ 10 := by have := hl.1; omega
  obtain ⟨j, hj, hlow, hf⟩ := hm.stop
  have hpj := plt hm.perm hj
  refine ctB_lt 100 (fun i hi hh => ?_) ⟨10 * j + (p j).val, by omega, ?_, ?_⟩
  · unfold rcB at hh ⊢
    rw [Bool.and_eq_true, Bool.and_eq_true, orbB_iff] at hh ⊢
    refine ⟨hh.1, hh.2.1, ?_⟩
    obtain ⟨a, ha, hax⟩ := hh.2.2
    exact ⟨a, Gen.le (fun b ⟨q, h1, h2⟩ => .of ⟨q, kp_app h1, h2⟩) ha, hax⟩
  · unfold rcB
    rw [show (10 * j + (p j).val) / 10 = j by omega, show (10 * j + (p j).val) % 10 = (p j).val by omega, decide_eq_true hj, decide_eq_true hpj, Bool.true_and, Bool.true_and, orbB_iff]
    refine ⟨fmP n p, .of ⟨p, kp_mem.2 ⟨by simp, (keepB_iff j).2 fun i hi => ?_⟩, rfl⟩, fmP_in hj⟩
    have := hlow i hi
    rwa [fmP_in (by omega)] at this
  · unfold rcB
    rw [show (10 * j + (p j).val) / 10 = j by omega, show (10 * j + (p j).val) % 10 = (p j).val by omega, decide_eq_true hj, decide_eq_true hpj, Bool.true_and, Bool.true_and, ← (h.lv j hj).has _ hpj]
    exact hf
theorem miss_gen {p : Pl} (hm : Miss l n C p) (a : Fm) : Gen (Sp (l ++ [p]) n) a ↔ Gen (Sp l n) a := by
  constructor
  · refine Gen.le fun b => ?_
    rintro ⟨q, hq, rfl⟩
    rcases List.mem_append.1 hq with hq | hq
    · exact .of ⟨q, hq, rfl⟩
    · rw [List.mem_singleton.1 hq]; exact hm.gen
  · refine Gen.le fun b => ?_
    rintro ⟨q, hq, rfl⟩
    exact .of ⟨q, List.mem_append_left _ hq, rfl⟩
theorem miss_ok {p : Pl} (hl : PsOk l (n : Int)) (hm : Miss l n C p) : PsOk (l ++ [p]) (n : Int) := ⟨hl.1, fun q hq => by
  rcases List.mem_append.1 hq with hq | hq
  · exact hl.2 q hq
  · rw [List.mem_singleton.1 hq]; exact hm.perm⟩
end
def HlC (l : List Pl) (n : Nat) (C : List Lv) (k x : Nat) : Prop := ∀ y q, y < x → (C.getD k lv0).2.1 y = true → q ∈ kp l k → Sf n (RC n C) (LC n C) (n - k) (th (LC n C k y) (fmP n q))
def HrC (l : List Pl) (n : Nat) (C : List Lv) (k x i : Nat) : Prop := ∀ q, q < i → Sf n (RC n C) (LC n C) (n - k) (th (LC n C k x) (fmP n ((kp l k).getD q fun _ => 0)))
theorem kp_getD {l : List Pl} {k i : Nat} (h : i < (kp l k).length) : (kp l k).getD i (fun _ => 0) ∈ kp l k := by
  rw [List.getD, List.getElem?_eq_getElem h]; exact List.getElem_mem h
theorem HlC.zero {l : List Pl} {n : Nat} {C : List Lv} {k : Nat} : HlC l n C k 0 := fun y q h => by omega
theorem HrC.zero {l : List Pl} {n : Nat} {C : List Lv} {k x : Nat} : HrC l n C k x 0 := fun q h => by omega
theorem HrC.next {l : List Pl} {n : Nat} {C : List Lv} {k x i : Nat} (h : HrC l n C k x i) (h2 : Sf n (RC n C) (LC n C) (n - k) (th (LC n C k x) (fmP n ((kp l k).getD i fun _ => 0)))) : HrC l n C k x (i + 1) := fun q hq => by
  by_cases e : q = i
  · subst e; exact h2
  · exact h q (by omega)
theorem HlC.all {l : List Pl} {n : Nat} {C : List Lv} {k x i : Nat} (h : HlC l n C k x) (h2 : HrC l n C k x i) (hi : ¬ i < (kp l k).length) : HlC l n C k (x + 1) := fun y q hy hh hq => by
  by_cases e : y = x
  · subst e
    obtain ⟨j, hj, rfl⟩ := List.mem_iff_getElem.1 hq
    have := h2 j (by omega)
    simpa [List.getD, hj] using this
  · exact h y q (by omega) hh hq
theorem HlC.not {l : List Pl} {n : Nat} {C : List Lv} {k x : Nat} (h : HlC l n C k x) (h2 : (C.getD k lv0).2.1 x = false) : HlC l n C k (x + 1) := fun y q hy hh hq => by
  by_cases e : y = x
  · subst e; rw [h2] at hh; cases hh
  · exact h y q (by omega) hh hq
theorem HlC.end {l : List Pl} {n : Nat} {C : List Lv} {k : Nat} (h : HlC l n C k n) : ClC n l C k := fun j a hr ⟨q, hq, e⟩ => by
  rw [e]; exact h j q (RC_iff.1 hr).1 (RC_iff.1 hr).2 hq
/-! ### The order and who belongs -/
noncomputable def rB (l : List Pl) (n k j : Nat) : Bool := @decide (∃ p, Gen (Sp l n) p ∧ (∀ i, i < k → p i = i) ∧ p k = j) (Classical.propDecidable _)
theorem rB_iff {l : List Pl} {n k j : Nat} : rB l n k j = true ↔ ∃ p, Gen (Sp l n) p ∧ (∀ i, i < k → p i = i) ∧ p k = j := @decide_eq_true_iff _ (Classical.propDecidable _)
noncomputable def ordG (l : List Pl) (n : Nat) : Nat := ordP (fun i => rB l n (i / 10) (i % 10)) n
noncomputable def inG (l : List Pl) (n : Nat) (p : Pl) : Bool := @decide (Gen (Sp l n) (fmP n p)) (Classical.propDecidable _)
theorem inG_iff {l : List Pl} {n : Nat} {p : Pl} : inG l n p = true ↔ Gen (Sp l n) (fmP n p) := @decide_eq_true_iff _ (Classical.propDecidable _)
theorem cnR_congr {h h' : Nat → Bool} {k : Nat} : ∀ x, (∀ y, y < x → h (10 * k + y) = h' (10 * k + y)) → cnR h k x = cnR h' k x
  | 0, _ => rfl
  | x + 1, hh => by
    unfold cnR
    rw [cnR_congr x fun y hy => hh y (by omega), hh x (by omega)]
theorem ordP_congr {h h' : Nat → Bool} : ∀ k, (∀ j y, j < k → y < 10 → h (10 * j + y) = h' (10 * j + y)) → ordP h k = ordP h' k
  | 0, _ => rfl
  | k + 1, hh => by
    unfold ordP
    rw [ordP_congr k fun j y hj hy => hh j y (by omega) hy, cnR_congr 10 fun y hy => hh k y (by omega) hy]
/-- A closed chain of the group counts the order. -/
theorem ord_of {l : List Pl} {n : Nat} (hl : PsOk l (n : Int)) {R : Nat → Nat → Bool} {L : Nat → Nat → Fm} {M : Nat → Fm → Prop} (hd : Lead n R L M) (hc : ∀ k, k < n → ClosedAt n R L M k) (hg : ∀ a, Gen (M 0) a ↔ Gen (Sp l n) a)
    {h : Nat → Bool} (hh : ∀ k j, k < n → j < n → h (10 * k + j) = R k j) (ho : ∀ k j, k < n → n ≤ j → j < 10 → h (10 * k + j) = false) : ordP h n = ordG l n := by
  refine ordP_congr n fun k j hk hj => ?_
  rw [show (10 * k + j) / 10 = k by omega, show (10 * k + j) % 10 = j by omega]
  by_cases hjn : j < n
  · rw [hh k j hk hjn, Bool.eq_iff_iff, reach_iff hd hc hk, rB_iff]
    exact ⟨fun ⟨p, a, b⟩ => ⟨p, (hg p).1 a, b⟩, fun ⟨p, a, b⟩ => ⟨p, (hg p).2 a, b⟩⟩
  · rw [ho k j hk (by omega) hj, eq_comm, Bool.eq_false_iff]
    intro hr
    obtain ⟨p, h1, _, h3⟩ := rB_iff.1 hr
    have hpn : Pn n p := Gen.pn (Sp_pn (n := (n : Int)) hl) h1
    have := hpn.lt k hk
    omega
theorem in_of {l : List Pl} {n : Nat} {R : Nat → Nat → Bool} {L : Nat → Nat → Fm} {M : Nat → Fm → Prop} (hd : Lead n R L M) (hc : ∀ k, k < n → ClosedAt n R L M k) (hg : ∀ a, Gen (M 0) a ↔ Gen (Sp l n) a) {p : Pl} (hp : IsPerm p (n : Int)) :
    Sf n R L n (fmP n p) ↔ inG l n p = true := by
  have h1 := sift_gen hd n (Nat.le_refl _) (fun k _ hk => hc k hk) (fmP n p) (fmP_pn hp) (fun i hi => by omega)
  rw [Nat.sub_self] at h1
  rw [h1, hg, inG_iff]
def hsC (C : List Lv) (i : Nat) : Bool := (C.getD (i / 10) lv0).2.1 (i % 10)
theorem hsC_at {C : List Lv} {k y : Nat} (hy : y < 10) : hsC C (10 * k + y) = (C.getD k lv0).2.1 y := by
  unfold hsC; rw [show (10 * k + y) / 10 = k by omega, show (10 * k + y) % 10 = y by omega]
theorem kp0_gen {l : List Pl} {n : Nat} (a : Fm) : Gen (MC n l 0) a ↔ Gen (Sp l n) a :=
  ⟨kp_gen, Gen.le fun b ⟨p, h1, h2⟩ => .of ⟨p, kp_zero.2 h1, h2⟩⟩
theorem ordC {l l2 : List Pl} {n : Nat} {C : List Lv} (hC : ChOk l2 n C) (hP : PsOk l2 (n : Int)) (hG : ∀ a, Gen (Sp l2 n) a ↔ Gen (Sp l n) a) (hc : ∀ j, j < n → ClC n l2 C j) : ordP (hsC C) n = ordG l n := by
  have hn : n ≤ 10 := by have := hP.1; omega
  have h1 : ordP (hsC C) n = ordG l2 n := ord_of hP (hC.lead hP) hc kp0_gen (fun k j hk hj => by
    rw [hsC_at (by omega), Bool.eq_iff_iff, RC_iff]; exact ⟨fun h => ⟨hj, h⟩, fun h => h.2⟩) (fun k j hk hj hj2 => by
    rw [hsC_at hj2]; exact (hC.lv k hk).tg.out j hj hj2)
  rw [h1]
  refine ordP_congr n fun k j hk hj => ?_
  rw [Bool.eq_iff_iff, rB_iff, rB_iff]
  exact ⟨fun ⟨p, a, b⟩ => ⟨p, (hG p).1 a, b⟩, fun ⟨p, a, b⟩ => ⟨p, (hG p).2 a, b⟩⟩
theorem inC {l l2 : List Pl} {n : Nat} {C : List Lv} (hC : ChOk l2 n C) (hP : PsOk l2 (n : Int)) (hG : ∀ a, Gen (Sp l2 n) a ↔ Gen (Sp l n) a) (hc : ∀ j, j < n → ClC n l2 C j) {p : Pl} (hp : IsPerm p (n : Int)) :
    (∀ i, i < 10 → (sfP C n n 0 p).1 i = idT n i) ↔ inG l n p = true := by
  rw [sf_same hC hP hp, in_of (hC.lead hP) hc kp0_gen hp, inG_iff, inG_iff, hG]
theorem ordD {l : List Pl} {n : Nat} {g : Gr} (hl : PsOk l (n : Int)) (hd : Done n g) (hG : ∀ a, Gen (g.M n 0) a ↔ Gen (Sp l n) a) : ordP g.hs n = ordG l n :=
  ord_of hl hd.ld hd.cl hG (fun k j hk hj => (R_in hj).symm) hd.ok.out
theorem inD {l : List Pl} {n : Nat} {g : Gr} (hd : Done n g) (hG : ∀ a, Gen (g.M n 0) a ↔ Gen (Sp l n) a) {p : Pl} (hp : IsPerm p (n : Int)) : siB g.hs g.ld n n 0 p = inG l n p := by
  have h := si_sf hd.ok n (Nat.le_refl _) p hp
  rw [Nat.sub_self] at h
  rw [Bool.eq_iff_iff, h]
  exact in_of hd.ld hd.cl hG hp
theorem ini_ld {n k : Nat} (hk : k < n) (hn : n ≤ 10) : (iniG n (k + 1)).ld = fun j => if 100 * k + 10 * k ≤ j ∧ j < 100 * k + 10 * k + 10 then idT n (j - (100 * k + 10 * k)) else (iniG n k).ld j := by
  have e := idT_at hn hk
  show (fun j => if 100 * k + 10 * (idT n k).val ≤ j ∧ j < 100 * k + 10 * (idT n k).val + 10 then idT n (j - (100 * k + 10 * (idT n k).val)) else (iniG n k).ld j) = _
  rw [e]
theorem ini_hs {n k : Nat} (hk : k < n) (hn : n ≤ 10) : (iniG n (k + 1)).hs = fun j => if j = 10 * k + k then true else (iniG n k).hs j := by
  have e := idT_at hn hk
  show (fun j => if j = 10 * k + (idT n k).val then true else (iniG n k).hs j) = _
  rw [e]
/-! ### Codes and answers -/
noncomputable def goV (l : List Pl) (n : Int) : Int := if psC l n = 0 then ((ordG l n.toNat : Nat) : Int) else 0
theorem goV_n {l : List Pl} {n : Int} (h : psC l n ≠ 0) : goV l n = 0 := if_neg h
theorem goV_0 {l : List Pl} {n : Nat} (h : psC l (n : Int) = 0) : goV l (n : Int) = ((ordG l n : Nat) : Int) := if_pos h
theorem psn {l : List Pl} {n : Int} (h : psC l n = 0) : ∃ m : Nat, n = (m : Int) := ⟨n.toNat, by have := (psC_ok h).1.1; omega⟩
noncomputable def inK (l : List Pl) (n : Int) (p : Pl) : Int := if (1 ≤ n ∧ n ≤ 10) ∧ isPerm p n = false then 1 else psC l n
noncomputable def inV (l : List Pl) (n : Int) (p : Pl) : Bool := decide (inK l n p = 0) && inG l n.toNat p
theorem inK_1 {l : List Pl} {n : Int} {p : Pl} (h : 1 ≤ n ∧ n ≤ 10) (hp : isPerm p n = false) : inK l n p = 1 := if_pos ⟨h, hp⟩
theorem inK_n {l : List Pl} {n : Int} {p : Pl} (h : ¬ (1 ≤ n ∧ n ≤ 10)) : inK l n p = psC l n := if_neg fun hh => h hh.1
theorem inK_p {l : List Pl} {n : Int} {p : Pl} (h : isPerm p n = true) : inK l n p = psC l n := if_neg fun hh => by rw [h] at hh; cases hh.2
theorem inV_n {l : List Pl} {n : Int} {p : Pl} (h : inK l n p ≠ 0) : inV l n p = false := by unfold inV; rw [decide_eq_false h]; rfl
theorem inV_0 {l : List Pl} {n : Nat} {p : Pl} (h : inK l (n : Int) p = 0) : inV l (n : Int) p = inG l n p := by unfold inV; rw [decide_eq_true h, Bool.true_and]; rfl
theorem inK_ok {l : List Pl} {n : Int} {p : Pl} (h : inK l n p = 0) : psC l n = 0 ∧ IsPerm p n := by
  unfold inK at h
  split at h
  · cases h
  · rename_i hc
    have h1 := (psC_ok h).1.1
    refine ⟨h, of_isPerm ?_⟩
    cases hb : isPerm p n with
    | true => rfl
    | false => exact absurd ⟨h1, hb⟩ hc
end Go.Proofs.Ytjihhcjpbcmjaaa
