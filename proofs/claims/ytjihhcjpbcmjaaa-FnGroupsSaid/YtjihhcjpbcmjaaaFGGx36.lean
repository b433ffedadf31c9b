/- An index inside an index. No conditions but those in the statements. -/
import Derived.Test.YtjihhcjpbcmjaaaFGGx6
namespace Go.Proofs.Ytjihhcjpbcmjaaa
open Go
namespace Gx
theorem p_ixNs {E : Env} {s : St} {dst : Option Nat} {ty : TypeId} {ps : String} {af : Array Edge} {gd : Option (Nat × Bool)} {x y : Operand} {b o T len el : Nat} {k : IntKind} {i : Int} {sz by_ : Nat} {z : D} {ei : TI} {e : Nat} (n j : Nat) (ht : E.tt T = some ⟨.arr len el, sz, by_, z⟩) (h3 : E.tt el = some ei) (h1 : ei.size = n)
    (hx : ev s x = some (.ptr b o (some e))) (hy : evI s y = some (k, i)) (hj : i = (j : Int)) (hi : j < len) : Pt E ⟨dst, .indexAddr T x y, ty, ps, af, gd⟩ s (.ptr b o (some (e + n * j))) := by
  have h := p_indexAddr (E := E) (s := s) (dst := dst) (ty := ty) (ps := ps) (af := af) (gd := gd) j ht h3 hx hy hj hi
  rw [offS_eq, mulS_eq, h1, Nat.mul_comm] at h
  simpa using h
end Gx
end Go.Proofs.Ytjihhcjpbcmjaaa
