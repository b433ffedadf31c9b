/- A number inside a row of arrays. No conditions but those in the statements. -/
import Derived.Test.YtjihhcjpbcmjaaaFGGx20
namespace Go.Proofs.Ytjihhcjpbcmjaaa
open Go
namespace Gx
set_option linter.unusedVariables false
section
variable {E : Env} {s : St} {dst : Option Nat} {ty : TypeId} {ps : String} {af : Array Edge} {gd : Option (Nat × Bool)}
theorem q_loadRi {x : Operand} {b e cap EE T i j m : Nat} {k : IntKind} {ti : TI} {l : List (Nat → Int)} (ht : E.tt T = some ti) (hx : ev s x = some (.ptr b 0 (some e))) (hm : Ent.row b cap EE (.arri k m l) ∈ s.hp) (he : e = i * m + j) (hi : i < l.length) (hj : j < m) (h2 : 1 = ti.size) (h3 : false = ti.td.ag) :
    Qt E ⟨dst, .load T x, ty, ps, af, gd⟩ s (.int k (l.getD i (fun _ => 0) j)) := qt_of fun c w ho => by
  subst he
  rcases RdP_of_row (ho.hp.all _ hm) with ⟨h0, _⟩ | ⟨a, cp, h0, hsp, hrow⟩
  · cases h0
  injection h0 with h4 h5 h6
  injection h4 with h4
  subst h4
  have hcell : (Rw.arri k m l).cells[i * m + j]? = some (.int k (l.getD i (fun _ => 0) j)) := by
    have h := flatMap_getElem? m (fun f : Nat → Int => (List.range m).map fun i => Value.int k (f i)) (fun _ => by simp) l i j hj (l.getD i fun _ => 0) (by simp [List.getD, List.getElem?_eq_getElem hi])
    show (l.flatMap fun f => (List.range m).map fun i => Value.int k (f i))[i * m + j]? = _
    rw [h]
    simp [hj]
  have := run_loadAt_cells E.P w T b (0 + (i * m + j)) (.int k (l.getD i (fun _ => 0) j)) (E.tok T ti ht) (fun q hq => by
    rw [← h2] at hq
    obtain rfl : q = 0 := by omega
    exact hrow _ _ hcell) h2 h3 rfl
  simp [execOp, ho.ev hx, D.val] at this ⊢
  simp [this]
end
end Gx
end Go.Proofs.Ytjihhcjpbcmjaaa
