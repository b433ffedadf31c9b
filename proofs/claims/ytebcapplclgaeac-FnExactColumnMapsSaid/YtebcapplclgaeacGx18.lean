/- Slices of rows of bytes: a byte of a row read, stored; rows that are marked. No conditions but those in the statements. -/
import Derived.Test.YtebcapplclgaeacGx17
namespace Go.Proofs.Ytebcapplclgaeac
open Go
namespace Gx
open Go.RowKit (Below)
set_option linter.unusedVariables false
abbrev z8 : Nat → Fin 256 := fun _ => 0
def rowC (m : Nat) : (Nat → Fin 256) → List Value := fun f => (List.range m).map fun i => Value.int .u8 ((f i).val : Int)
theorem rowC_len (m : Nat) (f : Nat → Fin 256) : (rowC m f).length = m := by simp [rowC]
theorem arrs_cell {m : Nat} {l : List (Nat → Fin 256)} {i j : Nat} (hi : i < l.length) (hj : j < m) : (Rw.arrs m l).cells[i * m + j]? = some (.int .u8 ((l.getD i z8 j).val : Int)) := by
  have h := flatMap_getElem? m (rowC m) (rowC_len m) l i j hj (l.getD i z8) (getD_get hi)
  show (l.flatMap (rowC m))[i * m + j]? = _
  rw [h]
  simp [rowC, List.getElem?_range hj]
theorem arrs_len (m : Nat) (l : List (Nat → Fin 256)) : (Rw.arrs m l).cells.length = l.length * m := Rw.length_cells (.arrs m l)
theorem arrs_set_spl {m : Nat} {l : List (Nat → Fin 256)} {i j : Nat} {b : Fin 256} (hi : i < l.length) (hj : j < m) :
    (Rw.arrs m (l.set i fun q => if q = j then b else l.getD i z8 q)).cells = spl (Rw.arrs m l).cells (i * m + j) [.int .u8 (b.val : Int)] := by
  have hle : i * m + m ≤ l.length * m := by rw [← Nat.succ_mul]; exact Nat.mul_le_mul_right _ hi
  apply List.ext_getElem?
  intro q
  rw [spl_getElem? _ _ _ (by rw [arrs_len]; simp only [List.length_cons, List.length_nil]; omega)]
  simp only [List.length_cons, List.length_nil]
  rcases Nat.lt_or_ge q (l.length * m) with hq | hq
  · have hm : 0 < m := by omega
    have h1 : q / m < l.length := (Nat.div_lt_iff_lt_mul hm).2 hq
    have h2 : q % m < m := Nat.mod_lt _ hm
    have e : q = q / m * m + q % m := by rw [Nat.mul_comm]; exact (Nat.div_add_mod q m).symm
    have c1 := arrs_cell (m := m) (l := l.set i fun q => if q = j then b else l.getD i z8 q) (i := q / m) (j := q % m) (by simpa using h1) h2
    have c2 := arrs_cell (m := m) (l := l) (i := q / m) (j := q % m) h1 h2
    rw [← e] at c1 c2
    rw [c1, c2]
    by_cases hqi : q / m = i
    · have e2 : (l.set i fun q => if q = j then b else l.getD i z8 q).getD (q / m) z8 = fun q => if q = j then b else l.getD i z8 q := by
        rw [hqi]; simp [List.getD, hi]
      rw [e2]
      by_cases hqj : q % m = j
      · have : q = i * m + j := by rw [← hqi, ← hqj]; exact e
        rw [if_pos ⟨by omega, by omega⟩]; simp only [if_pos hqj]; rw [this]; simp
      · rw [if_neg (by rw [hqi] at e; omega)]; simp only [if_neg hqj]; rw [hqi]
    · have e2 : (l.set i fun q => if q = j then b else l.getD i z8 q).getD (q / m) z8 = l.getD (q / m) z8 := by
        simp [List.getD, List.getElem?_set_ne (fun h => hqi h.symm)]
      rw [e2]
      have : ¬ (i * m + j ≤ q ∧ q < i * m + j + (0 + 1)) := fun h => by
        have : q = i * m + j := by omega
        apply hqi
        rw [this, Nat.mul_comm, Nat.mul_add_div hm, Nat.div_eq_of_lt hj, Nat.add_zero]
      rw [if_neg this]
  · rw [List.getElem?_eq_none (by rw [arrs_len]; simpa using hq), if_neg (by omega), List.getElem?_eq_none (by rw [arrs_len]; exact hq)]
section
variable {E : Env} {s : St} {dst : Option Nat} {ty : TypeId} {ps : String} {af : Array Edge} {gd : Option (Nat × Bool)} {K : St → Prop}
/-- The address of a byte of a row. -/
theorem q_ixA {x y : Operand} {v : Value} {e T len el : Nat} {hv : (ptrAt v e).oneCell' = true} {r : Rw} {kk : IntKind} {i : Int} {sz by_ : Nat} {z : D} {ei : TI} (j : Nat) (ht : E.tt T = some ⟨.arr len el, sz, by_, z⟩) (h3 : E.tt el = some ei) (h1 : ei.size = 1) (hx : ev s x = some (.raw (ptrAt v e) hv)) (hr : Rds s v r) (h0 : 0 < r.len)
    (hy : evI s y = some (kk, i)) (hj : i = (j : Int)) (hi : j < len) : Qt E ⟨dst, .indexAddr T x y, ty, ps, af, gd⟩ s (.raw (ptrAt v (e + j)) (ptrAt_one _ _)) := qt_of fun c w ho => by
  subst hj
  obtain ⟨d, hd, hm⟩ := tt_underlying ht
  simp only [TD.met] at hm
  subst hm
  obtain ⟨x', hx', hs', _⟩ := tt_info h3
  have h2 : (j : Int) < (len : Int) := by omega
  rcases hr w ho.hp with ⟨rfl, h⟩ | ⟨a, cap, rfl, hs, _⟩
  · omega
  · simp [execOp, ho.ev hx, ho.t.evI hy, D.val, Instr.indexAt, asIntOf, run_underlying hd, Instr.sureAddr, hi, sizeOf, typeInfo, hx', hs', h1, Addr.add_at, ptrAt, Nat.add_assoc]
theorem q_loadA {x : Operand} {v : Value} {e T i j m : Nat} {hv : (ptrAt v e).oneCell' = true} {ti : TI} {l : List (Nat → Fin 256)} (ht : E.tt T = some ti) (hx : ev s x = some (.raw (ptrAt v e) hv)) (hr : Rds s v (.arrs m l)) (he : e = mulS i m + j) (hi : i < l.length) (hj : j < m) (h2 : 1 = ti.size) (h3 : false = ti.td.ag) :
    Qt E ⟨dst, .load T x, ty, ps, af, gd⟩ s (.u8 (l.getD i z8 j)) := qt_of fun c w ho => by
  rw [mulS_eq] at he
  rcases hr w ho.hp with ⟨rfl, h0⟩ | ⟨a, cap, rfl, hsp, hrow⟩
  · simp [Rw.len] at h0; rw [h0] at hi; simp at hi
  · have := run_loadAt_cells E.P w T a.block (a.off + e) (.u8 (l.getD i z8 j)) (E.tok T ti ht) (fun q hq => by
      obtain rfl : q = 0 := by omega
      have := hrow (i * m + j) _ (arrs_cell hi hj)
      rw [Nat.add_zero, he]
      exact this) (by rw [← h2]; rfl) h3 rfl
    simp [execOp, ho.ev hx, D.val, ptrAt] at this ⊢
    rw [this]; rfl
theorem x_setOa {T e EE i j m : Nat} {v : Value} {hv : (ptrAt v e).oneCell' = true} {x y : Operand} {ti : TI} {l : List (Nat → Fin 256)} {b : Fin 256} {hp' : List Ent} (ht : E.tt T = some ti) (hx : ev s x = some (.raw (ptrAt v e) hv)) (hy : ev s y = some (.u8 b)) (hs : 1 = ti.size) (he : e = mulS i m + j) (hi : i < l.length) (hj : j < m)
    (hr : HpRep (own v EE (.arrs m l)) (own v EE (.arrs m (l.set i fun q => if q = j then b else l.getD i z8 q))) s.hp hp') (h : K ⟨s.tm, hp'⟩) : Xt E ⟨none, .store T x y, ty, ps, af, none⟩ s K := by
  rw [mulS_eq] at he
  subst he
  have hle : i * m + m ≤ l.length * m := by rw [← Nat.succ_mul]; exact Nat.mul_le_mul_right _ hi
  exact x_storeO ht hx hy rfl hs hr (by simp only [D.size, Rw.len, Rw.size]; omega) (Nat.zero_lt_one) (arrs_set_spl hi hj) (by simp [Rw.len]) rfl h
end
theorem own_cast {v : Value} {EE : Nat} {r r' : Rw} (h : r.cells = r'.cells) (hl : r.len = r'.len) (hs : r.size = r'.size) : ∀ w, (own v EE r).ok w → (own v EE r').ok w := fun w ho => by
  have ho : OwnP v EE r w := ho
  show OwnP v EE r' w
  unfold OwnP at *
  rw [← h, ← hl, ← hs]; exact ho
theorem veq_wrap8 {n : Nat} : (D.int .u8 (IntKind.wrap .u8 (n : Int))).val = (D.u8 (Fin.ofNat 256 n)).val := by
  have : IntKind.wrap .u8 (n : Int) = ((n % 256 : Nat) : Int) := by simp [IntKind.wrap, IntKind.signed, IntKind.bits]
  simp only [D.val, this, Fin.ofNat]
/-- The bytes k, k + 1, .. -/
def mkP (k : Nat) : Nat → Fin 256 := fun j => Fin.ofNat 256 (k + j)
def marksP (k : Nat) : Nat → List (Nat → Fin 256)
  | 0 => []
  | n + 1 => marksP k n ++ [mkP (k + 10 * n)]
theorem marksP_len (k : Nat) : ∀ n, (marksP k n).length = n
  | 0 => rfl
  | n + 1 => by simp [marksP, marksP_len k n]
theorem marksP_getD (k : Nat) : ∀ {n i : Nat}, i < n → (marksP k n).getD i z8 = mkP (k + 10 * i)
  | n + 1, i, h => by
    by_cases hi : i < n
    · have := marksP_getD k hi
      simp only [marksP, List.getD] at this ⊢
      rw [List.getElem?_append_left (by rw [marksP_len]; exact hi)]
      exact this
    · obtain rfl : i = n := by omega
      simp only [marksP, List.getD]
      rw [List.getElem?_append_right (by rw [marksP_len]; exact Nat.le_refl _)]
      simp [marksP_len]
/-- Rows 0 .. i - 1 marked, and j bytes of row i. -/
def mid (k : Nat) (l : List (Nat → Fin 256)) (i j : Nat) : List (Nat → Fin 256) := marksP k i ++ (fun q => if q < j then mkP (k + 10 * i) q else l.getD i z8 q) :: l.drop (i + 1)
theorem mid_len {k i j : Nat} {l : List (Nat → Fin 256)} (h : i < l.length) : (mid k l i j).length = l.length := by simp [mid, marksP_len]; omega
theorem mid_zero {k i : Nat} {l : List (Nat → Fin 256)} (h : i < l.length) : marksP k i ++ l.drop i = mid k l i 0 := by
  unfold mid
  rw [List.drop_eq_getElem_cons h]
  congr 2
  funext q
  simp [List.getD, h]
theorem mid_getD {k i j : Nat} {l : List (Nat → Fin 256)} : (mid k l i j).getD i z8 = fun q => if q < j then mkP (k + 10 * i) q else l.getD i z8 q := by
  unfold mid
  simp only [List.getD]
  rw [List.getElem?_append_right (by rw [marksP_len]; exact Nat.le_refl _)]
  simp [marksP_len]
theorem mid_set {k i j : Nat} {l : List (Nat → Fin 256)} : ((mid k l i j).set i fun q => if q = j then Fin.ofNat 256 (k + 10 * i + j) else (mid k l i j).getD i z8 q) = mid k l i (j + 1) := by
  rw [mid_getD]
  unfold mid
  rw [List.set_append_right _ _ (by rw [marksP_len]; exact Nat.le_refl _), marksP_len, Nat.sub_self, List.set_cons_zero]
  congr 2
  funext q
  by_cases h1 : q = j
  · subst h1; rw [if_pos rfl, if_pos (by omega)]; rfl
  · rw [if_neg h1]
    show (if q < j then mkP (k + 10 * i) q else l.getD i z8 q) = _
    by_cases h2 : q < j
    · rw [if_pos h2, if_pos (by omega)]
    · rw [if_neg h2, if_neg (by omega)]
theorem mid_ten {k i : Nat} {l : List (Nat → Fin 256)} : (Rw.arrs 10 (mid k l i 10)).cells = (Rw.arrs 10 (marksP k (i + 1) ++ l.drop (i + 1))).cells := by
  have hc : ∀ a b : List (Nat → Fin 256), (Rw.arrs 10 (a ++ b)).cells = (Rw.arrs 10 a).cells ++ (Rw.arrs 10 b).cells := fun a b => by simp [Rw.cells]
  have h1 : ∀ (f : Nat → Fin 256) b, (Rw.arrs 10 (f :: b)).cells = rowC 10 f ++ (Rw.arrs 10 b).cells := fun f b => by simp [Rw.cells, rowC]
  have e : rowC 10 (fun q => if q < 10 then mkP (k + 10 * i) q else l.getD i z8 q) = rowC 10 (mkP (k + 10 * i)) := List.map_congr_left fun q hq => by simp only [if_pos (List.mem_range.1 hq)]
  simp only [mid, marksP, List.append_assoc, List.cons_append, List.nil_append, hc, h1, e]
theorem marksP_drop {k i : Nat} {l : List (Nat → Fin 256)} (h : i ≤ l.length) : (marksP k i ++ l.drop i).length = l.length := by simp [marksP_len]; omega
end Gx
end Go.Proofs.Ytebcapplclgaeac
