/- A struct of two slices of bytes that comes in. No conditions but those in the statements. -/
import Derived.Test.YtdcpggdbjllmpaaGx20
import Derived.ChangeSame
namespace Go.Proofs.Ytdcpggdbjllmpaa
open Go
namespace Gx
open Go.ChangeShapes Go.WideShapes Go.ChangeAt Go.RowKit
set_option linter.unusedVariables false
section
variable {H : Type} {enc : TypeId × Value → H} {P : Program} {w : World} {base : Nat} {spare : Nat → Bool} {held : Bool} {r : Reach} {b : Nat}
theorem op_2u8s {T t e : TypeId} {f0 f1 : Field} {ts : List TypeId} {v : Value} {d : DataW H} {ps : List MemPlace} (hT : P.underlying T = some (.struct #[f0, f1])) (h0 : f0.type = t) (h1 : f1.type = t) (o0 : f0.offset = 0) (o1 : f1.offset = 1) (cT : P.cellsOf T = 2) (ct : P.cellsOf t = 1)
    (hts : P.cellTypes P.depth T = some ts) (hn : P.cellsOf T = ts.length) (ht : P.underlying t = some (.slice e)) (he : P.underlying e = some (.int .u8)) (hc : P.cellsOf e = 1) (h : DataW.Trod enc P w base spare held T v d ps) (hv : Value.okWide P w r b T v) :
    ∃ (v0 v1 : Value) (l0 l1 : List (Fin 256)), v = .agg #[v0, v1] ∧ RdP v0 (.u8s l0) w ∧ RdP v1 (.u8s l1) w ∧ v0.oneCell' = true ∧ v1.oneCell' = true ∧ l0.length ≤ maxLen ∧ l1.length ≤ maxLen := by
  obtain ⟨cs, rfl, _⟩ := op_agg (.inl ⟨_, hT⟩) hts hn hv
  obtain ⟨fuel, h⟩ := h
  have h' : DataW.trod enc P w base spare held fuel T cs = some (d, ps) := by simpa [Value.cells] using h
  obtain ⟨y0, y1, n, _, hl, g0, g1⟩ := trod_struct2 hT h'
  rw [cT] at hl
  match cs, hl with
  | [a, c], _ =>
    rw [h0, o0, ct] at g0
    rw [h1, o1, ct] at g1
    have g0' : DataW.trod enc P w base spare held n t [a] = some y0 := g0
    have g1' : DataW.trod enc P w base spare held n t [c] = some y1 := g1
    obtain ⟨u0, e0, i0, l0, r0, b0, _⟩ := op_cells (α := Fin 256) (Q := fun _ => True) (val := fun a => Value.int .u8 (a.val : Int)) Rw.u8s (fun l => ⟨rfl, rfl⟩) ht hc (el_u8 he) g0'
    obtain ⟨u1, e1, i1, l1, r1, b1, _⟩ := op_cells (α := Fin 256) (Q := fun _ => True) (val := fun a => Value.int .u8 (a.val : Int)) Rw.u8s (fun l => ⟨rfl, rfl⟩) ht hc (el_u8 he) g1'
    simp only [List.cons.injEq, and_true] at e0 e1
    subst e0; subst e1
    exact ⟨a, c, l0, l1, rfl, r0, r1, i0, i1, b0, b1⟩
end
end Gx
end Go.Proofs.Ytdcpggdbjllmpaa
