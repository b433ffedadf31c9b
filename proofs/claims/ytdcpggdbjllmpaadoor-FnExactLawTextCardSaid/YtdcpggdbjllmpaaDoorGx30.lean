/- A package-level table of strings that is laid. No conditions but those in the statements. -/
import Derived.Test.YtdcpggdbjllmpaaDoorGx27
import Derived.OpenShut
namespace Go.Proofs.YtdcpggdbjllmpaaDoor
open Go
namespace Gx
open Go.RowKit (Below)
set_option linter.unusedVariables false
section
variable {E : Env} {s : St} {dst : Option Nat} {ty : TypeId} {ps : String} {af : Array Edge} {gd : Option (Nat × Bool)}
theorem q_load_strR {x : Operand} {b e off T j : Nat} {i : TI} {S : List (List (Fin 256))} (ht : E.tt T = some i) (hx : ev s x = some (.ptr b off (some e))) (hm : Ent.ro b off (strsR S) ∈ s.hp) (he : e = mulS j i.size) (hj : j < S.length) (h2 : 1 = i.size) (h3 : false = i.td.ag) :
    Qt E ⟨dst, .load T x, ty, ps, af, gd⟩ s (.raw (.string (strB (S.getD j []))) rfl) := by
  refine (q_load_ro ht hx hm he rfl (by simpa using hj) h2 h3).eq ?_
  show (S.map strV).getD j .nilFunc = strV (S.getD j [])
  simp [List.getD, List.getElem?_map, List.getElem?_eq_getElem hj]
end
theorem bytes_inj {s u : ByteArray} (h : s.data.toList = u.data.toList) : s = u := by
  cases s; cases u
  simpa using h
theorem strs_of_laid {P : Program} {w : World} {g t e n : Nat} {nm : String} {S : List (List (Fin 256))} {D : List (DataW Unit)} (hg : P.globalNamed nm = some g) (ht : (P.globals[g]?).map (·.type) = some t) (hT : P.underlying t = some (.array n e)) (he : P.underlying e = some .string) (ce : P.cellsOf e = 1)
    (hD : D = S.map fun l => DataW.lit (.string ((strB l).data.toList))) (hn : S.length = n) (hn0 : 0 < n) (h : laidMet P [(nm, .agg D)] w) : (Ent.ro g 0 (strsR S)).ok w := by
  obtain ⟨ps, ⟨g0, t0, cs0, f0, p0, q0, hg0, ht0, hv0, hd0, _, _⟩, _, _⟩ := h
  obtain rfl := Option.some.inj (hg.symm.trans hg0)
  obtain rfl := Option.some.inj (ht.symm.trans ht0)
  obtain ⟨xs, m, rfl, hx, hl, hxl, hel⟩ := DataW.trod_array hT hd0
  simp only [Prod.mk.injEq, DataW.agg.injEq] at hx
  have hcell : ∀ i, i < n → w.cell? ⟨g, i, none⟩ = some (.string (strB (S.getD i []))) := fun i hi => by
    have h1 := hel i hi
    rw [List.getElem?_eq_getElem (by omega)] at h1
    obtain ⟨u, h2, h3, _⟩ := DataW.trod_string he h1
    have h4 : D[i]? = some (.lit (.string u.data.toList)) := by
      rw [hx.1, List.getElem?_map, List.getElem?_eq_getElem (by omega), Option.map_some, h3]
    rw [hD, List.getElem?_map, List.getElem?_eq_getElem (by omega), Option.map_some] at h4
    have h5 : strB (S[i]'(by omega)) = u := by
      simp only [Option.some.injEq, DataW.lit.injEq, Lit.string.injEq] at h4
      exact bytes_inj h4
    rw [World.var?_cell hg0 hv0 i]
    rw [ce, Nat.mul_one] at h2
    have h6 : cs0.toList[i]? = some (.string u) := by
      have := congrArg (·[0]?) h2
      simpa using this
    rw [← Array.getElem?_toList, h6, ← h5]
    simp [List.getD, List.getElem?_eq_getElem (show i < S.length by omega)]
  refine ⟨?_, fun j v hj => ?_⟩
  · have := cell_lt (hcell 0 hn0); exact this
  · have h1 : (S.map strV)[j]? = some v := hj
    rw [List.getElem?_map] at h1
    cases h2 : S[j]? with
    | none => rw [h2] at h1; cases h1
    | some l =>
      rw [h2] at h1
      simp only [Option.map_some, Option.some.injEq] at h1
      have h3 : j < S.length := (List.getElem?_eq_some_iff.1 h2).1
      rw [Nat.zero_add, hcell j (by omega), ← h1, List.getD, h2]
      rfl
end Gx
end Go.Proofs.YtdcpggdbjllmpaaDoor
