/- Parts of the elements of a slice of levels that came in. No conditions but those in the statements. -/
import Derived.Test.YtjihhcjpbcmjaaaFGGx12
namespace Go.Proofs.Ytjihhcjpbcmjaaa
open Go
namespace Gx
set_option linter.unusedVariables false
section
variable {E : Env} {s : St} {dst : Option Nat} {ty : TypeId} {ps : String} {af : Array Edge} {gd : Option (Nat × Bool)}
/-- A field's address behind an element's. -/
theorem q_fieldR {x : Operand} {v : Value} {e f T off ft : Nat} {hv : (ptrAt v e).oneCell' = true} {r : Rw} {os ts : List Nat} {sz by_ : Nat} {z : D} {i : TI} (ht : E.tt T = some ⟨.struct os ts, sz, by_, z⟩) (h1 : os[f]? = some off) (h2 : ts[f]? = some ft)
    (h3 : E.tt ft = some i) (h4 : Nat.beq i.size 0 = false) (hx : ev s x = some (.raw (ptrAt v e) hv)) (hr : Rds s v r) (hl : 0 < r.len) : Qt E ⟨dst, .fieldAddr T x f, ty, ps, af, gd⟩ s (.raw (ptrAt v (e + off)) (ptrAt_one _ _)) := qt_of fun c w ho => by
  obtain ⟨d, hd, fs, rfl, e1, e2⟩ := tt_underlying ht
  obtain ⟨x', hx', hsz, _⟩ := tt_info h3
  obtain ⟨fl, hf⟩ : ∃ fl, fs[f]? = some fl ∧ fl.offset = off ∧ fl.type = ft := by
    rw [← e1] at h1
    rw [← e2] at h2
    simp only [List.getElem?_map, Option.map_eq_some_iff] at h1 h2
    obtain ⟨fl, hf, ho1⟩ := h1
    obtain ⟨fl', hf', ho2⟩ := h2
    rw [hf] at hf'
    cases hf'
    exact ⟨fl, by simpa using hf, ho1, ho2⟩
  obtain ⟨hf, rfl, rfl⟩ := hf
  rcases hr w ho.hp with ⟨rfl, h0⟩ | ⟨a, cap, rfl, hs, _⟩
  · omega
  · have hz : ¬ x'.size = 0 := by rw [hsz]; intro hh; rw [hh] at h4; cases h4
    simp [execOp, ho.ev hx, D.val, ptrAt, Instr.fieldAt, run_underlying hd, hf, Instr.sureAddr, fieldPlace, sizeOf, typeInfo, hx', hz, Addr.add, Nat.add_assoc]
/-- What lies at a place of a slice that came in, by its cells. -/
theorem q_loadC {x : Operand} {v : Value} {e T : Nat} {hv : (ptrAt v e).oneCell' = true} {i : TI} {r : Rw} {d : D} (ht : E.tt T = some i) (hx : ev s x = some (.raw (ptrAt v e) hv)) (hr : Rds s v r) (hl : 0 < r.len) (hz : Nat.beq r.size 0 = false) (hc : ∀ q, q < i.size → r.cells[e + q]? = d.cells[q]?) (h2 : d.size = i.size) (h3 : d.isAgg = i.td.ag) (h4 : d.flat = true) :
    Qt E ⟨dst, .load T x, ty, ps, af, gd⟩ s d := qt_of fun c w ho => by
  rcases hr w ho.hp with ⟨rfl, h0⟩ | ⟨a, cap, rfl, hsp, hrow⟩
  · omega
  · have := run_loadAt_cells E.P w T a.block (a.off + e) d (E.tok T i ht) (fun q hq => by
      have h5 := hc q hq
      have hlt : q < d.cells.length := by rw [D.length_cells, h2]; exact hq
      rw [List.getElem?_eq_getElem hlt] at h5 ⊢
      have h6 := hrow _ _ h5
      rw [show (a.off + e + q) = a.off + (e + q) by omega]
      exact h6) h2 h3 h4
    simp [execOp, ho.ev hx, D.val, ptrAt, this]
end
abbrev Lv := Int × (Nat → Bool) × (Nat → Fin 256)
def lv0 : Lv := (0, (fun _ => false), fun _ => 0)
theorem levs_cell {l : List Lv} {k q : Nat} (hk : k < l.length) (hq : q < 111) : (Rw.levs l).cells[111 * k + q]? = (levD (l.getD k lv0)).cells[q]? := by
  have h := flatMap_getElem? 111 (fun q => (levD q).cells) levD_len l k q hq (l.getD k lv0) (by simp [List.getD, List.getElem?_eq_getElem hk])
  rw [Nat.mul_comm 111 k]; exact h
theorem levD_base (q : Lv) : (levD q).cells[0]? = some (.int .i64 q.1) := by simp [levD, D.cells, D.cellsL]
theorem levD_has (q : Lv) {x : Nat} (hx : x < 10) : (levD q).cells[1 + x]? = some (.bool (q.2.1 x)) := by
  simp only [levD, D.cells, D.cellsL, List.append_nil]
  rw [List.getElem?_append_right (by simp), List.getElem?_append_left (by simp; omega)]
  simp [hx]
theorem levD_row (q : Lv) {y : Nat} (hy : y < 100) : (levD q).cells[11 + y]? = some (.int .u8 ((q.2.2 y).val : Int)) := by
  simp only [levD, D.cells, D.cellsL, List.append_nil]
  rw [List.getElem?_append_right (by simp; omega), List.getElem?_append_right (by simp only [List.length_map, List.length_range, List.length_cons, List.length_nil]; omega)]
  rw [show 11 + y - [Value.int IntKind.i64 q.1].length - ((List.range 10).map fun i => Value.bool (q.2.1 i)).length = y by simp only [List.length_map, List.length_range, List.length_cons, List.length_nil]; omega]
  simp [hy]
section
variable {E : Env} {s : St} {dst : Option Nat} {ty : TypeId} {ps : String} {af : Array Edge} {gd : Option (Nat × Bool)}
theorem q_levBase {x : Operand} {v : Value} {e T k : Nat} {hv : (ptrAt v e).oneCell' = true} {i : TI} {l : List Lv} (ht : E.tt T = some i) (hx : ev s x = some (.raw (ptrAt v e) hv)) (hr : Rds s v (.levs l)) (he : e = 111 * k) (hk : k < l.length) (h2 : 1 = i.size) (h3 : false = i.td.ag) :
    Qt E ⟨dst, .load T x, ty, ps, af, gd⟩ s (.int .i64 (l.getD k lv0).1) := q_loadC ht hx hr (by show 0 < l.length; omega) rfl (fun q hq => by
  obtain rfl : q = 0 := by omega
  subst he
  exact (levs_cell hk (by omega)).trans ((levD_base _).trans rfl)) h2 h3 rfl
theorem q_levHas {x : Operand} {v : Value} {e T k y : Nat} {hv : (ptrAt v e).oneCell' = true} {i : TI} {l : List Lv} (ht : E.tt T = some i) (hx : ev s x = some (.raw (ptrAt v e) hv)) (hr : Rds s v (.levs l)) (he : e = 111 * k + 1 + y) (hk : k < l.length) (hy : y < 10) (h2 : 1 = i.size) (h3 : false = i.td.ag) :
    Qt E ⟨dst, .load T x, ty, ps, af, gd⟩ s (.bool ((l.getD k lv0).2.1 y)) := q_loadC ht hx hr (by show 0 < l.length; omega) rfl (fun q hq => by
  obtain rfl : q = 0 := by omega
  subst he
  rw [show 111 * k + 1 + y + 0 = 111 * k + (1 + y) by omega]
  exact (levs_cell hk (by omega)).trans ((levD_has _ hy).trans rfl)) h2 h3 rfl
theorem q_levRow {x : Operand} {v : Value} {e T k y : Nat} {hv : (ptrAt v e).oneCell' = true} {i : TI} {l : List Lv} (ht : E.tt T = some i) (hx : ev s x = some (.raw (ptrAt v e) hv)) (hr : Rds s v (.levs l)) (he : e = 111 * k + 11 + 10 * y) (hk : k < l.length) (hy : y < 10) (h2 : 10 = i.size) (h3 : true = i.td.ag) :
    Qt E ⟨dst, .load T x, ty, ps, af, gd⟩ s (.arr8 10 (fun j => (l.getD k lv0).2.2 (10 * y + j))) := q_loadC ht hx hr (by show 0 < l.length; omega) rfl (fun q hq => by
  subst he
  rw [show 111 * k + 11 + 10 * y + q = 111 * k + (11 + (10 * y + q)) by omega]
  refine (levs_cell hk (by omega)).trans ((levD_row _ (by omega)).trans ?_)
  have : q < 10 := by omega
  simp [D.cells, this]) h2 h3 rfl
end
section
variable {E : Env} {s : St} {dst : Option Nat} {ty : TypeId} {ps : String} {af : Array Edge} {gd : Option (Nat × Bool)}
/-- An index into an array behind an address. -/
theorem q_ixAN {x y : Operand} {v : Value} {e T len el : Nat} {hv : (ptrAt v e).oneCell' = true} {r : Rw} {kk : IntKind} {i : Int} {sz by_ : Nat} {z : D} {ei : TI} (n j : Nat) (ht : E.tt T = some ⟨.arr len el, sz, by_, z⟩) (h3 : E.tt el = some ei) (h1 : ei.size = n) (hx : ev s x = some (.raw (ptrAt v e) hv)) (hr : Rds s v r) (h0 : 0 < r.len)
    (hy : evI s y = some (kk, i)) (hj : i = (j : Int)) (hi : j < len) : Qt E ⟨dst, .indexAddr T x y, ty, ps, af, gd⟩ s (.raw (ptrAt v (e + n * j)) (ptrAt_one _ _)) := qt_of fun c w ho => by
  subst hj
  obtain ⟨d, hd, hm⟩ := tt_underlying ht
  simp only [TD.met] at hm
  subst hm
  obtain ⟨x', hx', hs', _⟩ := tt_info h3
  have h2 : (j : Int) < (len : Int) := by omega
  rcases hr w ho.hp with ⟨rfl, h⟩ | ⟨a, cap, rfl, hs, _⟩
  · omega
  · simp [execOp, ho.ev hx, ho.t.evI hy, D.val, Instr.indexAt, asIntOf, run_underlying hd, Instr.sureAddr, hi, sizeOf, typeInfo, hx', hs', h1, Addr.add_at, ptrAt, Nat.add_assoc, Nat.mul_comm]
end
end Gx
end Go.Proofs.Ytjihhcjpbcmjaaa
