/- Squares (a number and a table of bytes) compared; no conditions but those in the statements. -/
import Derived.Test.YtebcapplclgaeacGx9
namespace Go.Proofs.Ytebcapplclgaeac
open Go
namespace Gx
set_option linter.unusedVariables false
section
variable {P : Program}
/-- The literals of a table of n rows of m bytes. -/
theorem kl88 {T R e n m d : Nat} {f : Nat → Fin 256} (hT : P.underlying T = some (.array n R)) (hR : P.underlying R = some (.array m e)) (he : P.underlying e = some (.int .u8)) (cT : P.cellsOf T = n * m) (cR : P.cellsOf R = m) (ce : P.cellsOf e = 1) :
    P.keyLits (d + 3) T (D.arr8 (n * m) f).cells = some ((List.range (n * m)).map fun i => Lit.int .u8 ((f i).val : Int)) := by
  have h1 : ∀ i, i < n → P.keyLits (d + 2) R (((D.arr8 (n * m) f).cells.drop (i * P.cellsOf R)).take (P.cellsOf R)) = some ((List.range m).map fun j => Lit.int .u8 ((f (i * m + j)).val : Int)) := by
    intro i hi
    have e1 : (((D.arr8 (n * m) f).cells.drop (i * P.cellsOf R)).take (P.cellsOf R)) = (D.arr8 m fun j => f (i * m + j)).cells := by
      rw [cR]
      apply List.ext_getElem?
      intro j
      simp only [D.cells]
      by_cases hj : j < m
      · have hlt : i * m + j < n * m := by
          have : i * m + m ≤ n * m := by rw [← Nat.succ_mul]; exact Nat.mul_le_mul_right _ hi
          omega
        rw [List.getElem?_take, if_pos hj, List.getElem?_drop]
        simp [List.getElem?_range hlt, List.getElem?_range hj]
      · rw [List.getElem?_take, if_neg hj, List.getElem?_eq_none (by simpa using hj)]
    rw [e1]
    exact kl8 hR he cR ce
  unfold Program.keyLits
  rw [hT]
  have hl : (D.arr8 (n * m) f).cells.length = P.cellsOf T := by rw [cT]; simp [D.cells]
  have h2 := _root_.Go.ChangeShapes.mapM_range_of (f := fun i => P.keyLits (d + 2) R (((D.arr8 (n * m) f).cells.drop (i * P.cellsOf R)).take (P.cellsOf R))) (g := fun i => (List.range m).map fun j => Lit.int .u8 ((f (i * m + j)).val : Int)) n h1
  have h3 : ∀ q, ((List.range q).map fun i => (List.range m).map fun j => Lit.int .u8 ((f (i * m + j)).val : Int)).flatten = (List.range (q * m)).map fun i => Lit.int .u8 ((f i).val : Int) := by
    intro q
    induction q with
    | zero => simp
    | succ q ih =>
      rw [List.range_succ, List.map_append, List.flatten_append, ih, Nat.add_mul, Nat.one_mul, List.range_add]
      simp
  show (if (D.arr8 (n * m) f).cells.length = P.cellsOf T then ((List.range n).mapM fun i => P.keyLits (d + 2) R (((D.arr8 (n * m) f).cells.drop (i * P.cellsOf R)).take (P.cellsOf R))).map List.flatten else none) = _
  rw [if_pos hl, h2]
  simp only [Option.map_some, h3]
/-- The literals of a square. -/
theorem klS {T U V R e n m d : Nat} {x : Int} {f : Nat → Fin 256} {f1 f2 : Field} (hT : P.underlying T = some (.struct #[f1, f2])) (t1 : f1.type = U) (t2 : f2.type = V) (o1 : f1.offset = 0) (o2 : f2.offset = 1) (n1 : (f1.name != "_") = true) (n2 : (f2.name != "_") = true)
    (hU : P.underlying U = some (.int .i64)) (cU : P.cellsOf U = 1) (hV : P.underlying V = some (.array n R)) (hR : P.underlying R = some (.array m e)) (he : P.underlying e = some (.int .u8)) (cT : P.cellsOf T = n * m + 1) (cV : P.cellsOf V = n * m) (cR : P.cellsOf R = m) (ce : P.cellsOf e = 1) (hx : inR .i64 x) :
    P.keyLits (d + 4) T (D.agg [.int .i64 x, .arr8 (n * m) f]).cells = some (Lit.int .i64 x :: (List.range (n * m)).map fun i => Lit.int .u8 ((f i).val : Int)) := by
  have hc : (D.agg [.int .i64 x, .arr8 (n * m) f]).cells = Value.int .i64 x :: (D.arr8 (n * m) f).cells := by simp [D.cells, D.cellsL]
  have hl : (D.arr8 (n * m) f).cells.length = n * m := by simp [D.cells]
  have k1 : P.keyLits (d + 3) U [Value.int .i64 x] = some [Lit.int .i64 x] := by
    unfold Program.keyLits
    rw [hU]
    have hw : (Lit.int .i64 x).wf = true := by
      simp only [inR] at hx
      simp [Lit.wf, IntKind.min, IntKind.max, IntKind.signed, IntKind.bits]
      omega
    simp [hw]
  have k2 := kl88 (P := P) (d := d) (f := f) hV hR he cV cR ce
  unfold Program.keyLits
  rw [hT, hc]
  have hlen : (Value.int .i64 x :: (D.arr8 (n * m) f).cells).length = P.cellsOf T := by rw [List.length_cons, hl, cT]
  have hall : (#[f1, f2] : Array Field).all (·.name != "_") = true := by simp [n1, n2]
  show (if (Value.int .i64 x :: (D.arr8 (n * m) f).cells).length = P.cellsOf T ∧ (#[f1, f2] : Array Field).all (·.name != "_") = true then ([f1, f2].mapM fun f' => P.keyLits (d + 3) f'.type (((Value.int .i64 x :: (D.arr8 (n * m) f).cells).drop f'.offset).take (P.cellsOf f'.type))).map List.flatten else none) = _
  rw [if_pos ⟨hlen, hall⟩]
  have e1 : (List.drop f1.offset (Value.int .i64 x :: (D.arr8 (n * m) f).cells)).take (P.cellsOf f1.type) = [Value.int .i64 x] := by rw [o1, t1, cU]; rfl
  have e2 : (List.drop f2.offset (Value.int .i64 x :: (D.arr8 (n * m) f).cells)).take (P.cellsOf f2.type) = (D.arr8 (n * m) f).cells := by
    rw [o2, t2, cV]
    simp only [List.drop_succ_cons, List.drop_zero]
    exact List.take_of_length_le (by rw [hl]; exact Nat.le_refl _)
  simp only [List.mapM_cons, List.mapM_nil, e1, e2]
  rw [t1, t2, k1, k2]
  simp

theorem run_equalS {T U V R e n m : Nat} {x y : Int} {f g : Nat → Fin 256} {f1 f2 : Field} (hT : P.underlying T = some (.struct #[f1, f2])) (t1 : f1.type = U) (t2 : f2.type = V) (o1 : f1.offset = 0) (o2 : f2.offset = 1) (n1 : (f1.name != "_") = true) (n2 : (f2.name != "_") = true)
    (hU : P.underlying U = some (.int .i64)) (cU : P.cellsOf U = 1) (hV : P.underlying V = some (.array n R)) (hR : P.underlying R = some (.array m e)) (he : P.underlying e = some (.int .u8)) (cT : P.cellsOf T = n * m + 1) (cV : P.cellsOf V = n * m) (cR : P.cellsOf R = m) (ce : P.cellsOf e = 1) (hx : inR .i64 x) (hy : inR .i64 y)
    (hk : P.keyTypeAt 4 T = true) (w : World) :
    (Op.equal T (D.agg [.int .i64 x, .arr8 (n * m) f]).val (D.agg [.int .i64 y, .arr8 (n * m) g]).val).run P w = .ok (@decide (x = y ∧ ∀ i, i < n * m → f i = g i) (Classical.propDecidable _)) w := by
  have hf : ∀ (x : Int) (f : Nat → Fin 256), (D.agg [.int .i64 x, .arr8 (n * m) f]).val.formed P T = true := by
    intro x f
    simp [D.val, D.cells, D.cellsL, Value.formed, hT, cT]
  have h := run_equalIn_deep (P := P) 9996 4 T hk w 4 4 (D.agg [.int .i64 x, .arr8 (n * m) f]).val (D.agg [.int .i64 y, .arr8 (n * m) g]).val _ _ (hf x f) (hf y g)
    (by have := klS (P := P) (d := 0) (f := f) hT t1 t2 o1 o2 n1 n2 hU cU hV hR he cT cV cR ce hx; simpa [D.val_cells _ (show (D.agg [.int .i64 x, .arr8 (n * m) f]).flat = true from rfl)] using this) (by have := klS (P := P) (d := 0) (f := g) hT t1 t2 o1 o2 n1 n2 hU cU hV hR he cT cV cR ce hy; simpa [D.val_cells _ (show (D.agg [.int .i64 y, .arr8 (n * m) g]).flat = true from rfl)] using this)
  obtain ⟨r, hr, hiff⟩ := h
  have e1 : r = @decide (x = y ∧ ∀ i, i < n * m → f i = g i) (Classical.propDecidable _) := by
    rw [Bool.eq_iff_iff, hiff, @decide_eq_true_iff _ (Classical.propDecidable _)]
    simp only [List.cons.injEq, Lit.int.injEq, true_and]
    constructor
    · rintro ⟨h0, h⟩
      refine ⟨h0, fun i hi => ?_⟩
      have := congrArg (fun l => l[i]?) h
      simp [hi] at this
      exact Fin.ext (by omega)
    · rintro ⟨h0, h⟩
      exact ⟨h0, List.map_congr_left fun i hi => by rw [h i (List.mem_range.1 hi)]⟩
  rw [← e1]
  exact hr
end
section
variable {E : Env} {s : St} {dst : Option Nat} {ty : TypeId} {ps : String} {af : Array Edge} {gd : Option (Nat × Bool)}
theorem run_eqGuardS {T : Nat} (op : BinOp) (a b : Operand) {x y : List D} {P : Program} (hg : P.eqGuardType P.depth T = false) (w : World) : (eqGuard op T a b (D.agg x).val (D.agg y).val).run P w = .ok () w := by
  cases op <;> simp [eqGuard, D.val, hg]
theorem p_eqlS {a b : Operand} {T T' U V R e n m : Nat} {x y : Int} {f g : Nat → Fin 256} {f1 f2 : Field} (ha : ev s a = some (.agg [.int .i64 x, .arr8 (n * m) f])) (hb : ev s b = some (.agg [.int .i64 y, .arr8 (n * m) g])) (hx : inR .i64 x) (hy : inR .i64 y)
    (hT : E.P.underlying T = some (.struct #[f1, f2])) (t1 : f1.type = U) (t2 : f2.type = V) (o1 : f1.offset = 0) (o2 : f2.offset = 1) (n1 : (f1.name != "_") = true) (n2 : (f2.name != "_") = true)
    (hU : E.P.underlying U = some (.int .i64)) (cU : E.P.cellsOf U = 1) (hV : E.P.underlying V = some (.array n R)) (hR : E.P.underlying R = some (.array m e)) (he : E.P.underlying e = some (.int .u8)) (cT : E.P.cellsOf T = n * m + 1) (cV : E.P.cellsOf V = n * m) (cR : E.P.cellsOf R = m) (ce : E.P.cellsOf e = 1)
    (hk : E.P.keyTypeAt 4 T = true) (hg : E.P.eqGuardType E.P.depth T = false) : Pt E ⟨dst, .binOp .eql T a b T', ty, ps, af, gd⟩ s (.bool (@decide (x = y ∧ ∀ i, i < n * m → f i = g i) (Classical.propDecidable _))) := fun c ho w => by
  have h1 : binOp .eql T (D.agg [.int .i64 x, .arr8 (n * m) f]).val (D.agg [.int .i64 y, .arr8 (n * m) g]).val = (do pure (.bool (← Op.equal T (D.agg [.int .i64 x, .arr8 (n * m) f]).val (D.agg [.int .i64 y, .arr8 (n * m) g]).val))) := rfl
  simp only [execOp, ho.ev ha, ho.ev hb, Sem.run_bind, run_eqGuardS _ _ _ hg, Result.andThen_ok, h1, run_equalS hT t1 t2 o1 o2 n1 n2 hU cU hV hR he cT cV cR ce hx hy hk, Sem.run_pure]
  rfl
end
end Gx
end Go.Proofs.Ytebcapplclgaeac
