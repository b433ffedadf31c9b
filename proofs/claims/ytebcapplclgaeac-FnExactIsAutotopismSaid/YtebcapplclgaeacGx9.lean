/- Arrays of bytes compared; no conditions but those in the statements. -/
import Derived.Test.YtebcapplclgaeacGx6
import Derived.DeepKeys
import Derived.ChangeSlices
namespace Go.Proofs.Ytebcapplclgaeac
open Go
namespace Gx
set_option linter.unusedVariables false
section
variable {P : Program}
theorem kl8 {T e n d : Nat} {f : Nat → Fin 256} (hT : P.underlying T = some (.array n e)) (he : P.underlying e = some (.int .u8)) (cT : P.cellsOf T = n) (ce : P.cellsOf e = 1) :
    P.keyLits (d + 2) T (D.arr8 n f).cells = some ((List.range n).map fun i => Lit.int .u8 ((f i).val : Int)) := by
  have h1 : ∀ i, i < n → P.keyLits (d + 1) e (((D.arr8 n f).cells.drop (i * P.cellsOf e)).take (P.cellsOf e)) = some [Lit.int .u8 ((f i).val : Int)] := by
    intro i hi
    have : (((D.arr8 n f).cells.drop (i * P.cellsOf e)).take (P.cellsOf e)) = [Value.int .u8 ((f i).val : Int)] := by
      rw [ce, Nat.mul_one]
      have hl : i < (D.arr8 n f).cells.length := by simp [D.cells]; exact hi
      rw [List.drop_eq_getElem_cons hl]
      simp [D.cells]
    rw [this]
    unfold Program.keyLits
    rw [he]
    have hw : (Lit.int .u8 ((f i).val : Int)).wf = true := by
      have := (f i).isLt
      simp [Lit.wf, IntKind.min, IntKind.max, IntKind.signed, IntKind.bits]
      omega
    simp [hw]
  unfold Program.keyLits
  rw [hT]
  have hl : (D.arr8 n f).cells.length = P.cellsOf T := by rw [cT]; simp [D.cells]
  have h2 := _root_.Go.ChangeShapes.mapM_range_of (f := fun i => P.keyLits (d + 1) e (((D.arr8 n f).cells.drop (i * P.cellsOf e)).take (P.cellsOf e))) (g := fun i => [Lit.int .u8 ((f i).val : Int)]) n h1
  have h3 : ((List.range n).map fun i => [Lit.int .u8 ((f i).val : Int)]).flatten = (List.range n).map fun i => Lit.int .u8 ((f i).val : Int) := by
    generalize List.range n = l
    induction l with
    | nil => rfl
    | cons a l ih => simp [ih]
  show (if (D.arr8 n f).cells.length = P.cellsOf T then ((List.range n).mapM fun i => P.keyLits (d + 1) e (((D.arr8 n f).cells.drop (i * P.cellsOf e)).take (P.cellsOf e))).map List.flatten else none) = _
  rw [if_pos hl, h2]
  simp only [Option.map_some, h3]

theorem run_equal8 {T e n : Nat} {f g : Nat → Fin 256} (hT : P.underlying T = some (.array n e)) (he : P.underlying e = some (.int .u8)) (cT : P.cellsOf T = n) (ce : P.cellsOf e = 1) (w : World) :
    (Op.equal T (D.arr8 n f).val (D.arr8 n g).val).run P w = .ok (@decide (∀ i, i < n → f i = g i) (Classical.propDecidable _)) w := by
  have hk : P.keyTypeAt 2 T = true := by simp [Program.keyTypeAt, hT, he]
  have h := run_equalIn_deep (P := P) 9998 2 T hk w 2 2 (D.arr8 n f).val (D.arr8 n g).val _ _ (by simp [D.val, Value.formed, hT, cT]) (by simp [D.val, Value.formed, hT, cT])
    (by have := kl8 (P := P) (d := 0) (f := f) hT he cT ce; simpa [D.val, Value.cells, D.cells] using this) (by have := kl8 (P := P) (d := 0) (f := g) hT he cT ce; simpa [D.val, Value.cells, D.cells] using this)
  obtain ⟨r, hr, hiff⟩ := h
  have e1 : r = @decide (∀ i, i < n → f i = g i) (Classical.propDecidable _) := by
    rw [Bool.eq_iff_iff, hiff, @decide_eq_true_iff _ (Classical.propDecidable _)]
    constructor
    · intro h i hi
      have := congrArg (fun l => l[i]?) h
      simp [hi] at this
      exact Fin.ext (by omega)
    · intro h
      exact List.map_congr_left fun i hi => by rw [h i (List.mem_range.1 hi)]
  rw [← e1]
  exact hr
end
section
variable {E : Env} {s : St} {dst : Option Nat} {ty : TypeId} {ps : String} {af : Array Edge} {gd : Option (Nat × Bool)}
theorem run_eqGuard8 {T : Nat} (op : BinOp) (x y : Operand) {n : Nat} {f g : Nat → Fin 256} {P : Program} (hg : P.eqGuardType P.depth T = false) (w : World) : (eqGuard op T x y (D.arr8 n f).val (D.arr8 n g).val).run P w = .ok () w := by
  cases op <;> simp [eqGuard, D.val, hg]
/-- Rows of bytes compared. -/
theorem p_neq8 {x y : Operand} {T T' e n sz by_ sz' by_' : Nat} {z z' : D} {f g : Nat → Fin 256} (ht : E.tt T = some ⟨.arr n e, sz, by_, z⟩) (h3 : E.tt e = some ⟨.int .u8, sz', by_', z'⟩) (hx : ev s x = some (.arr8 n f)) (hy : ev s y = some (.arr8 n g))
    (cT : E.P.cellsOf T = n) (ce : E.P.cellsOf e = 1) (hg : E.P.eqGuardType E.P.depth T = false) : Pt E ⟨dst, .binOp .neq T x y T', ty, ps, af, gd⟩ s (.bool (!@decide (∀ i, i < n → f i = g i) (Classical.propDecidable _))) := fun c ho w => by
  obtain ⟨d, hd, hm⟩ := tt_underlying ht
  obtain ⟨d', hd', hm'⟩ := tt_underlying h3
  simp only [TD.met] at hm hm'
  subst hm; subst hm'
  have h1 : binOp .neq T (D.arr8 n f).val (D.arr8 n g).val = (do pure (.bool (!(← Op.equal T (D.arr8 n f).val (D.arr8 n g).val)))) := rfl
  simp only [execOp, ho.ev hx, ho.ev hy, Sem.run_bind, run_eqGuard8 _ _ _ hg, Result.andThen_ok, h1, run_equal8 hd hd' cT ce, Sem.run_pure]
  rfl
theorem p_eql8 {x y : Operand} {T T' e n sz by_ sz' by_' : Nat} {z z' : D} {f g : Nat → Fin 256} (ht : E.tt T = some ⟨.arr n e, sz, by_, z⟩) (h3 : E.tt e = some ⟨.int .u8, sz', by_', z'⟩) (hx : ev s x = some (.arr8 n f)) (hy : ev s y = some (.arr8 n g))
    (cT : E.P.cellsOf T = n) (ce : E.P.cellsOf e = 1) (hg : E.P.eqGuardType E.P.depth T = false) : Pt E ⟨dst, .binOp .eql T x y T', ty, ps, af, gd⟩ s (.bool (@decide (∀ i, i < n → f i = g i) (Classical.propDecidable _))) := fun c ho w => by
  obtain ⟨d, hd, hm⟩ := tt_underlying ht
  obtain ⟨d', hd', hm'⟩ := tt_underlying h3
  simp only [TD.met] at hm hm'
  subst hm; subst hm'
  have h1 : binOp .eql T (D.arr8 n f).val (D.arr8 n g).val = (do pure (.bool (← Op.equal T (D.arr8 n f).val (D.arr8 n g).val))) := rfl
  simp only [execOp, ho.ev hx, ho.ev hy, Sem.run_bind, run_eqGuard8 _ _ _ hg, Result.andThen_ok, h1, run_equal8 hd hd' cT ce, Sem.run_pure]
  rfl
end
end Gx
end Go.Proofs.Ytebcapplclgaeac
