/- Squares that draws make: renamed, turned, switched, products. No conditions but those in the statements. -/
import Derived.Test.YtjihhcjpbcmjaaaFGM8
import Derived.Test.YtjihhcjpbcmjaaaFGM19
import Derived.Test.YtjihhcjpbcmjaaaFGM48
namespace Go.Proofs.Ytjihhcjpbcmjaaa
open Gx
set_option linter.unusedVariables false
structure Lat (n : Nat) (t : Nat → Fin 256) : Prop where
  lt : ∀ x y, x < n → y < n → (t (10 * x + y)).val < n
  row : ∀ x y z, x < n → y < n → z < n → t (10 * x + y) = t (10 * x + z) → y = z
  col : ∀ x z y, x < n → z < n → y < n → t (10 * x + y) = t (10 * z + y) → x = z
  out : ∀ x y, x < 10 → y < 10 → n ≤ x ∨ n ≤ y → t (10 * x + y) = 0
theorem lat_of {n : Nat} {t : Nat → Fin 256} (h : SqP (n : Int) t) : Lat n t where
  lt := fun x y hx hy => by have := sq_lt h (x := x) (y := y) (by omega) (by omega); omega
  row := fun x y z hx hy hz e => perm_inj (sq_row h (x := x) (by omega)) y z hy hz (congrArg Fin.val e)
  col := fun x z y hx hz hy e => by
    have hn := h.1
    have hp := sq_col h (x := y) (by omega)
    refine perm_inj hp x z hx hz ?_
    rw [rowOf_turned (by omega), rowOf_turned (by omega)]
    exact congrArg Fin.val e
  out := fun x y hx hy ho => by
    rcases ho with ho | ho
    · exact sq_zr h (by omega) hx hy
    · exact sq_zc h hx (by omega) hy
theorem sq_of {n : Nat} {t : Nat → Fin 256} (h1 : 1 ≤ n ∧ n ≤ 10) (h : Lat n t) : SqP (n : Int) t := by
  have hn : (1 : Int) ≤ n ∧ (n : Int) ≤ 10 := ⟨by omega, by omega⟩
  refine ⟨hn, fun x hx => ⟨fun hxn => ⟨hn.1, hn.2, ⟨fun i hi hin => h.out x i hx hi (by omega), fun i hi hin => ?_⟩, fun i j hi hj hin hjn e => ?_⟩, fun hxn j hj => h.out x j hx hj (by omega)⟩, fun x hx => ⟨fun hxn => ⟨hn.1, hn.2, ⟨fun i hi hin => ?_, fun i hi hin => ?_⟩, fun i j hi hj hin hjn e => ?_⟩, fun hxn j hj => ?_⟩⟩
  · have := h.lt x i (by omega) (by omega)
    show ((t (10 * x + i)).val : Int) < n
    omega
  · exact h.row x i j (by omega) (by omega) (by omega) (Fin.ext e)
  · rw [rowOf_turned hi]; exact h.out i x hi hx (by omega)
  · rw [rowOf_turned hi]
    have := h.lt i x (by omega) (by omega)
    show ((t (10 * i + x)).val : Int) < n
    omega
  · rw [rowOf_turned hi, rowOf_turned hj] at e
    exact h.col i j x (by omega) (by omega) (by omega) (Fin.ext e)
  · rw [rowOf_turned hj]; exact h.out j x hj hx (by omega)
/-! ### Renamed -/
theorem isoW_out {t a b c : Nat → Fin 256} {m p : Nat} : ∀ k, (∀ q, q < k → p ≠ 10 * (a (q / m)).val + (b (q % m)).val) → isoW t a b c m k p = 0
  | 0, _ => rfl
  | k + 1, h => by
    show (if p = 10 * (a (k / m)).val + (b (k % m)).val then c (t (10 * (k / m) + k % m)).val else isoW t a b c m k p) = 0
    rw [if_neg (h k (by omega))]
    exact isoW_out k fun q hq => h q (by omega)
theorem isoW_in {t a b c : Nat → Fin 256} {m p : Nat} {v : Fin 256} : ∀ k, (∃ q, q < k ∧ p = 10 * (a (q / m)).val + (b (q % m)).val) → (∀ q, q < k → p = 10 * (a (q / m)).val + (b (q % m)).val → c (t (10 * (q / m) + q % m)).val = v) → isoW t a b c m k p = v
  | 0, ⟨q, hq, _⟩, _ => by omega
  | k + 1, ⟨q, hq, e⟩, h => by
    show (if p = 10 * (a (k / m)).val + (b (k % m)).val then c (t (10 * (k / m) + k % m)).val else isoW t a b c m k p) = v
    by_cases e2 : p = 10 * (a (k / m)).val + (b (k % m)).val
    · rw [if_pos e2]; exact h k (by omega) e2
    · rw [if_neg e2]
      exact isoW_in k ⟨q, by by_cases e3 : q = k; (subst e3; exact absurd e e2); omega, e⟩ fun q hq => h q (by omega)
theorem iso_at {t a b c : Nat → Fin 256} {m : Nat} (ha : IsPerm a (m : Int)) (hb : IsPerm b (m : Int)) {x y : Nat} (hx : x < m) (hy : y < m) : isoW t a b c m (m * m + 0) (10 * (a x).val + (b y).val) = c (t (10 * x + y)).val := by
  have hm := pn10 ha
  have h1 : ∀ q, q < m * m → q / m < m ∧ q % m < m := fun q hq => ⟨Nat.div_lt_of_lt_mul hq, Nat.mod_lt _ (by omega)⟩
  refine isoW_in _ ⟨x * m + y, ?_, ?_⟩ fun q hq e => ?_
  · have : x * m + y < (x + 1) * m := by rw [Nat.add_mul]; omega
    have := Nat.mul_le_mul_right m (show x + 1 ≤ m by omega)
    omega
  · have e1 : (x * m + y) / m = x := by
      rw [Nat.mul_comm, Nat.mul_add_div (by omega), Nat.div_eq_of_lt hy]; rfl
    have e2 : (x * m + y) % m = y := by
      rw [Nat.mul_comm, Nat.mul_add_mod, Nat.mod_eq_of_lt hy]
    rw [e1, e2]
  · obtain ⟨q1, q2⟩ := h1 q (by omega)
    have b1 := plt ha hx
    have b2 := plt hb hy
    have b3 := plt ha q1
    have b4 := plt hb q2
    have e1 := perm_inj ha x _ hx q1 (by omega)
    have e2 := perm_inj hb y _ hy q2 (by omega)
    rw [← e1, ← e2]
theorem psurj {m : Nat} {a : Nat → Fin 256} (ha : IsPerm a (m : Int)) {u : Nat} (hu : u < m) : ∃ x, x < m ∧ (a x).val = u := surj_of_inj (f := fun j => (a j).val) (m := m) (fun j hj => plt ha hj) (perm_inj ha) u hu
theorem iso_sq {t a b c : Nat → Fin 256} {m : Nat} (ht : SqP (m : Int) t) (ha : IsPerm a (m : Int)) (hb : IsPerm b (m : Int)) (hc : IsPerm c (m : Int)) : SqP (m : Int) (isoW t a b c m (m * m + 0)) := by
  have hL := lat_of ht
  have hm := ht.1
  have cinj : ∀ u v : Fin 256, u.val < m → v.val < m → c u.val = c v.val → u = v := fun u v hu hv e => Fin.ext (perm_inj hc _ _ hu hv (congrArg Fin.val e))
  refine sq_of ⟨by omega, by omega⟩ ⟨fun x y hx hy => ?_, fun x y z hx hy hz e => ?_, fun x z y hx hz hy e => ?_, fun x y hx hy ho => ?_⟩
  · obtain ⟨x', hx', rfl⟩ := psurj ha hx
    obtain ⟨y', hy', rfl⟩ := psurj hb hy
    rw [iso_at ha hb hx' hy']
    exact plt hc (hL.lt x' y' hx' hy')
  · obtain ⟨x', hx', rfl⟩ := psurj ha hx
    obtain ⟨y', hy', rfl⟩ := psurj hb hy
    obtain ⟨z', hz', rfl⟩ := psurj hb hz
    rw [iso_at ha hb hx' hy', iso_at ha hb hx' hz'] at e
    rw [hL.row x' y' z' hx' hy' hz' (cinj _ _ (hL.lt x' y' hx' hy') (hL.lt x' z' hx' hz') e)]
  · obtain ⟨x', hx', rfl⟩ := psurj ha hx
    obtain ⟨z', hz', rfl⟩ := psurj ha hz
    obtain ⟨y', hy', rfl⟩ := psurj hb hy
    rw [iso_at ha hb hx' hy', iso_at ha hb hz' hy'] at e
    rw [hL.col x' z' y' hx' hz' hy' (cinj _ _ (hL.lt x' y' hx' hy') (hL.lt z' y' hz' hy') e)]
  · refine isoW_out _ fun q hq e => ?_
    have q1 : q / m < m := Nat.div_lt_of_lt_mul (by omega)
    have q2 : q % m < m := Nat.mod_lt _ (by omega)
    have b3 := plt ha q1
    have b4 := plt hb q2
    omega
/-! ### Laid by a rule -/
theorem part_at {n : Nat} {g : Nat → Nat → Fin 256} {x y : Nat} (hn : n ≤ 10) (hx : x < n) (hy : y < n) : part n g n 0 (10 * x + y) = g x y := by
  unfold part
  rw [show (10 * x + y) / 10 = x by omega, show (10 * x + y) % 10 = y by omega, if_pos (.inl ⟨hx, hy⟩)]
theorem part_sq {n : Nat} {g : Nat → Nat → Fin 256} (hn : 1 ≤ n ∧ n ≤ 10) (h1 : ∀ x y, x < n → y < n → (g x y).val < n) (h2 : ∀ x y z, x < n → y < n → z < n → g x y = g x z → y = z) (h3 : ∀ x z y, x < n → z < n → y < n → g x y = g z y → x = z) : SqP (n : Int) (part n g n 0) := by
  refine sq_of hn ⟨fun x y hx hy => ?_, fun x y z hx hy hz e => ?_, fun x z y hx hz hy e => ?_, fun x y hx hy ho => ?_⟩
  · rw [part_at hn.2 hx hy]; exact h1 x y hx hy
  · rw [part_at hn.2 hx hy, part_at hn.2 hx hz] at e; exact h2 x y z hx hy hz e
  · rw [part_at hn.2 hx hy, part_at hn.2 hz hy] at e; exact h3 x z y hx hz hy e
  · unfold part
    rw [show (10 * x + y) / 10 = x by omega, show (10 * x + y) % 10 = y by omega, if_neg (by omega)]
theorem cyc_at {n x y : Nat} (hn : 1 ≤ n ∧ n ≤ 10) : (cyc (n : Int) x y).val = (x + y) % n := by
  unfold cyc
  have e : (((x : Int) + (y : Int)) % (n : Int)).toNat = (x + y) % n := by
    rw [show ((x : Int) + (y : Int)) % (n : Int) = (((x + y) % n : Nat) : Int) by simp]; rfl
  rw [e, ofNat_val]
  have := Nat.mod_lt (x + y) (show 0 < n by omega)
  omega
theorem mod_inj {n x y z : Nat} (hy : y < n) (hz : z < n) (h : (x + y) % n = (x + z) % n) : y = z := by
  have h1 := Nat.div_add_mod (x + y) n
  have h2 := Nat.div_add_mod (x + z) n
  rcases Nat.lt_trichotomy ((x + y) / n) ((x + z) / n) with h3 | h3 | h3
  · have := Nat.mul_le_mul_left n h3
    rw [Nat.mul_succ] at this
    omega
  · rw [h3] at h1; omega
  · have := Nat.mul_le_mul_left n h3
    rw [Nat.mul_succ] at this
    omega
theorem cyc_sq {n : Nat} (hn : 1 ≤ n ∧ n ≤ 10) : SqP (n : Int) (part n (cyc (n : Int)) n 0) :=
  part_sq hn (fun x y _ _ => by rw [cyc_at hn]; exact Nat.mod_lt _ (by omega)) (fun x y z _ hy hz e => by
    have := congrArg Fin.val e
    rw [cyc_at hn, cyc_at hn] at this
    exact mod_inj hy hz this) (fun x z y hx hz _ e => by
    have := congrArg Fin.val e
    rw [cyc_at hn, cyc_at hn, Nat.add_comm x, Nat.add_comm z] at this
    exact mod_inj hx hz this)
theorem elm_at {x y : Nat} (hx : x < 8) (hy : y < 8) : (elm x y).val = x ^^^ y := by
  unfold elm
  exact ofNat_val (by have := xor_lt8 hx hy; omega)
theorem elm_sq {k : Nat} (hk : k ≤ 3) : SqP ((2 ^ k : Nat) : Int) (part (2 ^ k) elm (2 ^ k) 0) := by
  have h8 : 2 ^ k ≤ 8 := Nat.pow_le_pow_right (n := 2) (by omega) hk
  have h1 : 1 ≤ 2 ^ k := Nat.one_le_two_pow
  refine part_sq ⟨h1, by omega⟩ (fun x y hx hy => ?_) (fun x y z hx hy hz e => ?_) (fun x z y hx hz hy e => ?_)
  · rw [elm_at (by omega) (by omega)]; exact Nat.xor_lt_two_pow hx hy
  · have := congrArg Fin.val e
    rw [elm_at (by omega) (by omega), elm_at (by omega) (by omega)] at this
    have h2 := congrArg (fun v => x ^^^ v) this
    simpa [← Nat.xor_assoc] using h2
  · have := congrArg Fin.val e
    rw [elm_at (by omega) (by omega), elm_at (by omega) (by omega)] at this
    have h2 := congrArg (fun v => v ^^^ y) this
    simpa [Nat.xor_assoc] using h2
theorem dir_sq {n m : Nat} {t u : Nat → Fin 256} (ht : SqP (n : Int) t) (hu : SqP (m : Int) u) (h : n * m ≤ 10) : SqP ((n * m : Nat) : Int) (part (n * m) (dir (m : Int) t u) (n * m) 0) := by
  have hn := ht.1
  have hm := hu.1
  have hT := lat_of ht
  have hU := lat_of hu
  have hd : ∀ x, x < n * m → x / m < n ∧ x % m < m := fun x hx => ⟨Nat.div_lt_of_lt_mul (by rw [Nat.mul_comm]; exact hx), Nat.mod_lt _ (by omega)⟩
  have hat : ∀ x y, x < n * m → y < n * m → (dir (m : Int) t u x y).val = m * (t (10 * (x / m) + y / m)).val + (u (10 * (x % m) + y % m)).val ∧ (dir (m : Int) t u x y).val < n * m := fun x y hx hy => by
    obtain ⟨x1, x2⟩ := hd x hx
    obtain ⟨y1, y2⟩ := hd y hy
    have a1 := hT.lt _ _ x1 y1
    have a2 := hU.lt _ _ x2 y2
    have a3 : m * (t (10 * (x / m) + y / m)).val + m ≤ m * n := by
      rw [← Nat.mul_succ]; exact Nat.mul_le_mul_left m a1
    rw [Nat.mul_comm m n] at a3
    have e : (dir (m : Int) t u x y).val = m * (t (10 * (x / m) + y / m)).val + (u (10 * (x % m) + y % m)).val := by
      unfold dir
      have e1 : ((m : Int) * ((t (10 * (x / (m : Int).toNat) + y / (m : Int).toNat)).val : Int) + ((u (10 * (x % (m : Int).toNat) + y % (m : Int).toNat)).val : Int)).toNat = m * (t (10 * (x / m) + y / m)).val + (u (10 * (x % m) + y % m)).val := by
        simp only [Int.toNat_natCast]
        rw [← Int.natCast_mul, ← Int.natCast_add, Int.toNat_natCast]
      rw [e1, ofNat_val (by omega)]
    exact ⟨e, by omega⟩
  have split : ∀ {a b c d : Nat}, b < m → d < m → m * a + b = m * c + d → a = c ∧ b = d := fun {a b c d} hb hdm e => by
    rcases Nat.lt_trichotomy a c with h3 | h3 | h3
    · have := Nat.mul_le_mul_left m h3
      rw [Nat.mul_succ] at this
      omega
    · subst h3; omega
    · have := Nat.mul_le_mul_left m h3
      rw [Nat.mul_succ] at this
      omega
  have glue : ∀ {y z : Nat}, y / m = z / m → y % m = z % m → y = z := fun {y z} h1 h2 => by
    have a := Nat.div_add_mod y m
    have b := Nat.div_add_mod z m
    rw [h1, h2] at a; omega
  refine part_sq ⟨Nat.mul_pos (by omega) (by omega), h⟩ (fun x y hx hy => (hat x y hx hy).2) (fun x y z hx hy hz e => ?_) (fun x z y hx hz hy e => ?_)
  · have e1 := congrArg Fin.val e
    rw [(hat x y hx hy).1, (hat x z hx hz).1] at e1
    obtain ⟨s1, s2⟩ := split (hU.lt _ _ (hd x hx).2 (hd y hy).2) (hU.lt _ _ (hd x hx).2 (hd z hz).2) e1
    exact glue (hT.row _ _ _ (hd x hx).1 (hd y hy).1 (hd z hz).1 (Fin.ext s1)) (hU.row _ _ _ (hd x hx).2 (hd y hy).2 (hd z hz).2 (Fin.ext s2))
  · have e1 := congrArg Fin.val e
    rw [(hat x y hx hy).1, (hat z y hz hy).1] at e1
    obtain ⟨s1, s2⟩ := split (hU.lt _ _ (hd x hx).2 (hd y hy).2) (hU.lt _ _ (hd z hz).2 (hd y hy).2) e1
    exact glue (hT.col _ _ _ (hd x hx).1 (hd z hz).1 (hd y hy).1 (Fin.ext s1)) (hU.col _ _ _ (hd x hx).2 (hd z hz).2 (hd y hy).2 (Fin.ext s2))
theorem turned_sq {n : Nat} {t : Nat → Fin 256} (h : SqP (n : Int) t) : SqP (n : Int) (turned t) := by
  have hL := lat_of h
  have hn := h.1
  have e : ∀ x y, x < 10 → y < 10 → turned t (10 * x + y) = t (10 * y + x) := fun x y hx hy => by
    unfold turned
    rw [show (10 * x + y) / 10 = x by omega, show (10 * x + y) % 10 = y by omega]
  refine sq_of ⟨by omega, by omega⟩ ⟨fun x y hx hy => ?_, fun x y z hx hy hz he => ?_, fun x z y hx hz hy he => ?_, fun x y hx hy ho => ?_⟩
  · rw [e x y (by omega) (by omega)]; exact hL.lt y x hy hx
  · rw [e x y (by omega) (by omega), e x z (by omega) (by omega)] at he; exact hL.col y z x hy hz hx he
  · rw [e x y (by omega) (by omega), e z y (by omega) (by omega)] at he; exact hL.row y x z hy hx hz he
  · rw [e x y hx hy]; exact hL.out y x hy hx ho.symm
/-! ### Entries of two rows exchanged -/
def swT (t : Nat → Fin 256) (a b : Nat) (V : Nat → Bool) : Nat → Fin 256 := fun j => if j / 10 = a ∧ V (j % 10) = true then t (10 * b + j % 10) else if j / 10 = b ∧ V (j % 10) = true then t (10 * a + j % 10) else t j
def addV (V : Nat → Bool) (y : Nat) : Nat → Bool := fun z => if z = y then true else V z
section
variable {t : Nat → Fin 256} {a b n : Nat} {V : Nat → Bool}
theorem swT_a {z : Nat} (hz : z < 10) : swT t a b V (10 * a + z) = if V z = true then t (10 * b + z) else t (10 * a + z) := by
  unfold swT
  rw [show (10 * a + z) / 10 = a by omega, show (10 * a + z) % 10 = z by omega]
  by_cases h : V z = true
  · rw [if_pos ⟨rfl, h⟩, if_pos h]
  · rw [if_neg (fun hh => h hh.2), if_neg (fun hh => h hh.2), if_neg h]
theorem swT_b {z : Nat} (hab : a ≠ b) (hz : z < 10) : swT t a b V (10 * b + z) = if V z = true then t (10 * a + z) else t (10 * b + z) := by
  unfold swT
  rw [show (10 * b + z) / 10 = b by omega, show (10 * b + z) % 10 = z by omega, if_neg (fun hh => hab hh.1.symm)]
  by_cases h : V z = true
  · rw [if_pos ⟨rfl, h⟩, if_pos h]
  · rw [if_neg (fun hh => h hh.2), if_neg h]
theorem swT_o {x z : Nat} (hx : x ≠ a) (hx2 : x ≠ b) (hz : z < 10) : swT t a b V (10 * x + z) = t (10 * x + z) := by
  unfold swT
  rw [show (10 * x + z) / 10 = x by omega, if_neg (fun hh => hx hh.1), if_neg (fun hh => hx2 hh.1)]
theorem swT_none (j : Nat) : swT t a b (fun _ => false) j = t j := by
  unfold swT; rw [if_neg (fun h => by cases h.2), if_neg (fun h => by cases h.2)]
theorem swT_step {y : Nat} (hab : a ≠ b) (hy : y < 10) (hV : V y = false) (j : Nat) : (if j = 10 * b + y then swT t a b V (10 * a + y) else if j = 10 * a + y then swT t a b V (10 * b + y) else swT t a b V j) = swT t a b (addV V y) j := by
  by_cases e1 : j = 10 * b + y
  · subst e1
    rw [if_pos rfl, swT_a hy, swT_b hab hy, if_neg (by rw [hV]; decide), if_pos (by unfold addV; rw [if_pos rfl])]
  · rw [if_neg e1]
    by_cases e2 : j = 10 * a + y
    · subst e2
      rw [if_pos rfl, swT_b hab hy, swT_a hy, if_neg (by rw [hV]; decide), if_pos (by unfold addV; rw [if_pos rfl])]
    · rw [if_neg e2]
      by_cases e3 : j % 10 = y
      · have h1 : j / 10 ≠ a := fun h => e2 (by omega)
        have h2 : j / 10 ≠ b := fun h => e1 (by omega)
        unfold swT
        rw [if_neg (fun h => h1 h.1), if_neg (fun h => h2 h.1), if_neg (fun h => h1 h.1), if_neg (fun h => h2 h.1)]
      · unfold swT addV
        rw [if_neg e3]
/-- What holds ahead of an exchange at y: the row a is one-to-one but for y. -/
structure SwH (t : Nat → Fin 256) (a b n : Nat) (V : Nat → Bool) (y : Nat) : Prop where
  lt : y < n
  new : V y = false
  inn : ∀ z, V z = true → z < n
  inj : ∀ z w, z < n → w < n → z ≠ y → w ≠ y → swT t a b V (10 * a + z) = swT t a b V (10 * a + w) → z = w
theorem SwH.start (h : SqP (n : Int) t) (ha : a < n) {y : Nat} (hy : y < n) : SwH t a b n (fun _ => false) y :=
  ⟨hy, rfl, fun _ h => (by cases h), fun z w hz hw _ _ e => (lat_of h).row a z w ha hz hw (by rw [swT_none, swT_none] at e; exact e)⟩
theorem addV_t {y z : Nat} : addV V y z = true ↔ z = y ∨ V z = true := by
  unfold addV
  by_cases e : z = y
  · rw [if_pos e]; exact ⟨fun _ => .inl e, fun _ => rfl⟩
  · rw [if_neg e]; exact ⟨fun h => .inr h, fun h => h.resolve_left e⟩
theorem addV_ne {y z : Nat} (h : z ≠ y) : addV V y z = V z := if_neg h
/-- One more exchange: the place of the same entry has not been met. -/
theorem SwH.next (h : SqP (n : Int) t) (ha : a < n) (hb : b < n) {y z : Nat} (hs : SwH t a b n V y) (hz : z < n) (hzy : z ≠ y) (e : swT t a b (addV V y) (10 * a + z) = swT t a b (addV V y) (10 * a + y)) : SwH t a b n (addV V y) z := by
  have hn := h.1
  have hL := lat_of h
  have hy := hs.lt
  have ey : swT t a b (addV V y) (10 * a + y) = t (10 * b + y) := by rw [swT_a (by omega), if_pos (addV_t.2 (.inl rfl))]
  have keep : ∀ w, w < n → w ≠ y → swT t a b (addV V y) (10 * a + w) = swT t a b V (10 * a + w) := fun w hw hwy => by
    rw [swT_a (by omega), swT_a (by omega), addV_ne hwy]
  have hnew : V z = false := by
    cases hv : V z with
    | false => rfl
    | true =>
      rw [ey, swT_a (by omega), if_pos (addV_t.2 (.inr hv))] at e
      exact absurd (hL.row b z y hb hz hy e) hzy
  refine ⟨hz, by rw [addV_ne hzy]; exact hnew, fun w hw => ?_, fun u w hu hw huz hwz ee => ?_⟩
  · rcases addV_t.1 hw with rfl | hw
    · exact hy
    · exact hs.inn w hw
  · by_cases h1 : u = y
    · by_cases h2 : w = y
      · omega
      · subst h1
        rw [← e, keep z hz hzy, keep w hw h2] at ee
        exact absurd (hs.inj z w hz hw hzy h2 ee) (fun hh => hwz hh.symm)
    · by_cases h2 : w = y
      · subst h2
        rw [← e, keep z hz hzy, keep u hu h1] at ee
        exact absurd (hs.inj u z hu hz h1 hzy ee) huz
      · rw [keep u hu h1, keep w hw h2] at ee
        exact hs.inj u w hu hw h1 h2 ee
/-- The end: the row a is one-to-one again, and so is b. -/
theorem SwH.done (h : SqP (n : Int) t) (ha : a < n) (hb : b < n) (hab : a ≠ b) {y : Nat} (hs : SwH t a b n V y) (he : ∀ w, w < n → w ≠ y → swT t a b (addV V y) (10 * a + w) ≠ swT t a b (addV V y) (10 * a + y)) : SqP (n : Int) (swT t a b (addV V y)) := by
  have hn := h.1
  have hL := lat_of h
  have hy := hs.lt
  have keep : ∀ w, w < n → w ≠ y → swT t a b (addV V y) (10 * a + w) = swT t a b V (10 * a + w) := fun w hw hwy => by
    rw [swT_a (by omega), swT_a (by omega), addV_ne hwy]
  have inA : ∀ u w, u < n → w < n → swT t a b (addV V y) (10 * a + u) = swT t a b (addV V y) (10 * a + w) → u = w := fun u w hu hw e => by
    by_cases h1 : u = y
    · by_cases h2 : w = y
      · omega
      · subst h1; exact absurd e.symm (he w hw h2)
    · by_cases h2 : w = y
      · subst h2; exact absurd e (he u hu h1)
      · rw [keep u hu h1, keep w hw h2] at e
        exact hs.inj u w hu hw h1 h2 e
  generalize hW : addV V y = W at *
  have hWn : ∀ z, W z = true → z < n := fun z hz => by
    rw [← hW] at hz
    rcases addV_t.1 hz with rfl | hz
    · exact hy
    · exact hs.inn z hz
  have ltA : ∀ z, z < n → (swT t a b W (10 * a + z)).val < n := fun z hz => by
    rw [swT_a (by omega)]; split
    · exact hL.lt b z hb hz
    · exact hL.lt a z ha hz
  have key : ∀ z w, z < n → w < n → W z = true → W w = false → t (10 * a + z) = t (10 * b + w) → False := fun z w hz hw h1 h2 e => by
    obtain ⟨c, hc, hcv⟩ := surj_of_inj (f := fun z => (swT t a b W (10 * a + z)).val) (m := n) ltA (fun u w hu hw e => inA u w hu hw (Fin.ext e)) (t (10 * a + z)).val (hL.lt a z ha hz)
    have hce : swT t a b W (10 * a + c) = t (10 * a + z) := Fin.ext hcv
    rw [swT_a (by omega)] at hce
    cases hWc : W c with
    | true =>
      rw [hWc, if_pos rfl, e] at hce
      have := hL.row b c w hb hc hw hce
      subst this; rw [hWc] at h2; cases h2
    | false =>
      rw [hWc, if_neg (by decide)] at hce
      have := hL.row a c z ha hc hz hce
      subst this; rw [hWc] at h1; cases h1
  refine sq_of ⟨by omega, by omega⟩ ⟨fun x z hx hz => ?_, fun x z w hx hz hw e => ?_, fun x w z hx hw hz e => ?_, fun x z hx hz ho => ?_⟩
  · by_cases h1 : x = a
    · subst h1; exact ltA z hz
    · by_cases h2 : x = b
      · subst h2
        rw [swT_b hab (by omega)]; split
        · exact hL.lt a z ha hz
        · exact hL.lt x z hx hz
      · rw [swT_o h1 h2 (by omega)]; exact hL.lt x z hx hz
  · by_cases h1 : x = a
    · subst h1; exact inA z w hz hw e
    · by_cases h2 : x = b
      · subst h2
        rw [swT_b hab (by omega), swT_b hab (by omega)] at e
        cases hz1 : W z <;> cases hw1 : W w <;> simp only [hz1, hw1, if_true, Bool.false_eq_true, if_false] at e
        · exact hL.row x z w hx hz hw e
        · exact (key w z hw hz hw1 hz1 e.symm).elim
        · exact (key z w hz hw hz1 hw1 e).elim
        · exact hL.row a z w ha hz hw e
      · rw [swT_o h1 h2 (by omega), swT_o h1 h2 (by omega)] at e
        exact hL.row x z w hx hz hw e
  · have form : ∀ x, x < n → ∃ x', x' < n ∧ swT t a b W (10 * x + z) = t (10 * x' + z) ∧ (x' = if W z = true then (if x = a then b else if x = b then a else x) else x) := fun x hx => by
      by_cases h1 : x = a
      · subst h1
        rw [swT_a (by omega)]
        by_cases hv : W z = true
        · rw [if_pos hv, if_pos hv, if_pos rfl]; exact ⟨b, hb, rfl, rfl⟩
        · rw [if_neg hv, if_neg hv]; exact ⟨x, hx, rfl, rfl⟩
      · by_cases h2 : x = b
        · subst h2
          rw [swT_b hab (by omega)]
          by_cases hv : W z = true
          · rw [if_pos hv, if_pos hv, if_neg h1, if_pos rfl]; exact ⟨a, ha, rfl, rfl⟩
          · rw [if_neg hv, if_neg hv]; exact ⟨x, hx, rfl, rfl⟩
        · rw [swT_o h1 h2 (by omega), if_neg h1, if_neg h2]
          exact ⟨x, hx, rfl, by split <;> rfl⟩
    obtain ⟨x', hx', e1, e2⟩ := form x hx
    obtain ⟨w', hw', e3, e4⟩ := form w hw
    rw [e1, e3] at e
    have e5 := hL.col x' w' z hx' hw' hz e
    rw [e2, e4] at e5
    by_cases hv : W z = true
    · rw [if_pos hv, if_pos hv] at e5
      have hab' : (a = b) = False := eq_false hab
      have hba' : (b = a) = False := eq_false (fun h => hab h.symm)
      by_cases g1 : x = a <;> by_cases g2 : w = a <;> by_cases g3 : x = b <;> by_cases g4 : w = b <;> simp only [g1, g2, g3, g4, hab', hba', if_true, if_false] at e5 <;> omega
    · rw [if_neg hv, if_neg hv] at e5; exact e5
  · by_cases h1 : x = a
    · subst h1
      have hzn : n ≤ z := by omega
      rw [swT_a hz, if_neg (fun hh => by have := hWn z hh; omega)]
      exact hL.out x z hx hz ho
    · by_cases h2 : x = b
      · subst h2
        have hzn : n ≤ z := by omega
        rw [swT_b hab hz, if_neg (fun hh => by have := hWn z hh; omega)]
        exact hL.out x z hx hz ho
      · rw [swT_o h1 h2 hz]; exact hL.out x z hx hz ho
theorem swV_ct {y : Nat} (hy : y < n) (hV : V y = false) : ctB V n < ctB (addV V y) n := ctB_lt n (fun i _ hi => addV_t.2 (.inr hi)) ⟨y, hy, addV_t.2 (.inl rfl), hV⟩
end
/-! ### Numbers drawn -/
theorem getD_in {L : List Int} {i : Nat} (h : i < L.length) : L.getD i 0 ∈ L := by
  rw [List.getD, List.getElem?_eq_getElem h]; exact List.getElem_mem h
theorem wrap64 (z : Int) : ∃ h : Nat, IntKind.u64.wrap z = (h : Int) ∧ h < 18446744073709551616 := by
  have h1 : IntKind.u64.wrap z = z % 18446744073709551616 := by
    simp [IntKind.wrap, IntKind.bits, IntKind.signed]
  have h2 := Int.emod_nonneg z (show (18446744073709551616 : Int) ≠ 0 by decide)
  have h3 := Int.emod_lt_of_pos z (show (0 : Int) < 18446744073709551616 by decide)
  exact ⟨(z % 18446744073709551616).toNat, by rw [h1]; omega, by omega⟩
theorem swap_perm {n : Int} {w : Nat → Fin 256} {i k : Nat} (hw : IsPerm w n) (hi : (i : Int) < n) (hk : (k : Int) < n) : IsPerm (fun j => if j = k then w i else if j = i then w k else w j) n := by
  obtain ⟨h1, h2, ⟨h3, h4⟩, h5⟩ := hw
  have inv : ∀ j : Nat, j < 10 → (j : Int) < n → ∃ q : Nat, q < 10 ∧ (q : Int) < n ∧ (if j = k then w i else if j = i then w k else w j) = w q ∧ q = (if j = k then i else if j = i then k else j) := fun j hj hjn => by
    by_cases e1 : j = k
    · rw [if_pos e1, if_pos e1]; exact ⟨i, by omega, hi, rfl, rfl⟩
    · rw [if_neg e1, if_neg e1]
      by_cases e2 : j = i
      · rw [if_pos e2, if_pos e2]; exact ⟨k, by omega, hk, rfl, rfl⟩
      · rw [if_neg e2, if_neg e2]; exact ⟨j, hj, hjn, rfl, rfl⟩
  refine ⟨h1, h2, ⟨fun j hj hjn => ?_, fun j hj hjn => ?_⟩, fun j q hj hq hjn hqn e => ?_⟩
  · show (if j = k then w i else if j = i then w k else w j) = 0
    rw [if_neg (by omega), if_neg (by omega)]; exact h3 j hj hjn
  · obtain ⟨q, q1, q2, q3, _⟩ := inv j hj hjn
    show (((if j = k then w i else if j = i then w k else w j).val : Nat) : Int) < n
    rw [q3]; exact h4 q q1 q2
  · obtain ⟨u, u1, u2, u3, u4⟩ := inv j hj hjn
    obtain ⟨v, v1, v2, v3, v4⟩ := inv q hq hqn
    have e' : (if j = k then w i else if j = i then w k else w j).val = (if q = k then w i else if q = i then w k else w q).val := e
    rw [u3, v3] at e'
    have := h5 u v u1 v1 u2 v2 e'
    rw [u4, v4] at this
    by_cases g0 : i = k
    · subst g0
      by_cases g1 : j = i <;> by_cases g2 : q = i <;> simp only [g1, g2, if_true, if_false] at this <;> omega
    · have g0' : (i = k) = False := eq_false g0
      have g0'' : (k = i) = False := eq_false (fun h => g0 h.symm)
      by_cases g1 : j = k <;> by_cases g2 : q = k <;> by_cases g3 : j = i <;> by_cases g4 : q = i <;> simp only [g1, g2, g3, g4, g0', g0'', if_true, if_false] at this <;> omega
theorem pk9a {v : Int} (h : v ∈ ([1, 2, 3, 4, 5, 6, 8, 9, 10] : List Int)) : 1 ≤ v ∧ v ≤ 10 := by
  simp only [List.mem_cons, List.not_mem_nil, or_false] at h; omega
theorem pk9 {v : Int} (h : v ∈ ([1, 2, 3, 4, 5, 6, 8, 9, 10] : List Int)) : 0 ≤ v ∧ v ≤ 11 := by have := pk9a h; omega
theorem pk2 {v : Int} (h : v ∈ ([0, 11] : List Int)) : 0 ≤ v ∧ v ≤ 11 := by
  simp only [List.mem_cons, List.not_mem_nil, or_false] at h; omega
/-! ### The same of whole numbers -/
section
variable {n m : Int} {t u a b c : Nat → Fin 256}
theorem toI {n : Int} (h : 1 ≤ n ∧ n ≤ 10) : ∃ k : Nat, n = (k : Int) := ⟨n.toNat, by omega⟩
theorem iso_sqI (ht : SqP n t) (ha : IsPerm a n) (hb : IsPerm b n) (hc : IsPerm c n) : SqP n (isoW t a b c n.toNat (n.toNat * n.toNat + 0)) := by
  obtain ⟨k, rfl⟩ := toI ht.1
  exact iso_sq ht ha hb hc
theorem turned_sqI (ht : SqP n t) : SqP n (turned t) := by
  obtain ⟨k, rfl⟩ := toI ht.1
  exact turned_sq ht
theorem cyc_sqI (hn : 1 ≤ n ∧ n ≤ 10) : SqP n (part n.toNat (cyc n) n.toNat 0) := by
  obtain ⟨k, rfl⟩ := toI hn
  exact cyc_sq ⟨by omega, by omega⟩
theorem elm_sqI {k : Int} (hk : 0 ≤ k ∧ k ≤ 3) : SqP (1 * 2 ^ k.toNat) (part (1 * 2 ^ k.toNat : Int).toNat elm (1 * 2 ^ k.toNat : Int).toNat 0) := by
  have e : (1 * 2 ^ k.toNat : Int) = ((2 ^ k.toNat : Nat) : Int) := by rw [Int.one_mul, Int.natCast_pow]; rfl
  rw [e]
  exact elm_sq (by omega)
theorem dir_sqI (ht : SqP n t) (hu : SqP m u) (h : n * m ≤ 10) : SqP (n * m) (part (n * m).toNat (dir m t u) (n * m).toNat 0) := by
  obtain ⟨k, rfl⟩ := toI ht.1
  obtain ⟨q, rfl⟩ := toI hu.1
  have e : ((k : Int) * (q : Int)) = ((k * q : Nat) : Int) := by rw [Int.natCast_mul]
  rw [e] at h ⊢
  exact dir_sq ht hu (by omega)
theorem col_perm (ht : SqP n t) {y : Nat} (hy : (y : Int) < n) : IsPerm (colOf t y) n := (sq_col ht hy).congr fun j hj => (rowOf_turned hj).symm
theorem swH_sq (h : SqP n t) {a b y : Nat} {V : Nat → Bool} (ha : (a : Int) < n) (hb : (b : Int) < n) (hab : a ≠ b) (hs : SwH t a b n.toNat V y) (he : ∀ w, w < n.toNat → w = y ∨ swT t a b (addV V y) (10 * a + w) ≠ swT t a b (addV V y) (10 * a + y)) : SqP n (swT t a b (addV V y)) := by
  obtain ⟨k, rfl⟩ := toI h.1
  exact hs.done h (by omega) (by omega) hab fun w hw hwy => (he w hw).resolve_left hwy
theorem swH_next (h : SqP n t) {a b y z : Nat} {V : Nat → Bool} (ha : (a : Int) < n) (hb : (b : Int) < n) (hs : SwH t a b n.toNat V y) (hz : (z : Int) < n) (hzy : z ≠ y) (e : swT t a b (addV V y) (10 * a + z) = swT t a b (addV V y) (10 * a + y)) : SwH t a b n.toNat (addV V y) z := by
  obtain ⟨k, rfl⟩ := toI h.1
  exact hs.next h (by omega) (by omega) (by omega) hzy e
theorem swH_start (h : SqP n t) {a b y : Nat} (ha : (a : Int) < n) (hy : (y : Int) < n) : SwH t a b n.toNat (fun _ => false) y := by
  obtain ⟨k, rfl⟩ := toI h.1
  exact SwH.start h (by omega) (by omega)
end
theorem getD_len {S : List (List (Fin 256))} {r : Nat} (h : S.all (fun l => decide (l.length ≤ 100)) = true) : (S.getD r []).length ≤ 1048576 := by
  rw [List.getD]
  cases hr : S[r]? with
  | none => simp
  | some l =>
    have := List.all_eq_true.1 h l (List.mem_of_getElem? hr)
    simp only [decide_eq_true_eq] at this
    show l.length ≤ 1048576
    omega
theorem mul33 {a b : Int} (h1 : 0 ≤ a) (h2 : a < 3) (h3 : 0 ≤ b) (h4 : b < 3) : (1 + a) * (1 + b) ≤ 10 := by
  have h := Int.mul_le_mul (show 1 + a ≤ 3 by omega) (show 1 + b ≤ 3 by omega) (by omega) (by omega)
  omega
theorem pk3 {a b c v : Int} (h : v ∈ ([a, b, c] : List Int)) (h1 : 0 ≤ a ∧ a < 5) (h2 : 0 ≤ b ∧ b < 8) (h3 : 0 ≤ c ∧ c < 10) : 1 ≤ 1 + v ∧ 1 + v ≤ 10 := by
  simp only [List.mem_cons, List.not_mem_nil, or_false] at h; omega
theorem pk5 {v : Int} (h : v ∈ ([0, 0, 1, 2, 4] : List Int)) : 0 ≤ v ∧ v ≤ 4 := by
  simp only [List.mem_cons, List.not_mem_nil, or_false] at h; omega
end Go.Proofs.Ytjihhcjpbcmjaaa
