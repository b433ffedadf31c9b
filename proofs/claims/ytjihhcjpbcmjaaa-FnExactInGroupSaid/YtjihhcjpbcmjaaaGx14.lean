/- Strings, and parts of slices. No conditions but those in the statements. -/
import Derived.Test.YtjihhcjpbcmjaaaGx12
import Derived.Laws.BytesString
import Derived.Laws.IdiomStrings
import Derived.Laws.Strings
namespace Go.Proofs.Ytjihhcjpbcmjaaa
open Go
namespace Gx
open Go.RowKit (Below)
set_option linter.unusedVariables false
def b8 (x : Fin 256) : UInt8 := UInt8.ofNat x.val
theorem b8_toNat (x : Fin 256) : (b8 x).toNat = x.val := by
  simp [b8]
theorem b8_inj {x y : Fin 256} (h : b8 x = b8 y) : x = y := by
  have := congrArg UInt8.toNat h
  rw [b8_toNat, b8_toNat] at this
  exact Fin.ext this
/-- The string of some bytes. -/
def strB (l : List (Fin 256)) : ByteArray := ⟨(l.map b8).toArray⟩
theorem strB_size (l : List (Fin 256)) : (strB l).size = l.length := by simp [strB, ByteArray.size]
theorem strB_app (a b : List (Fin 256)) : strB a ++ strB b = strB (a ++ b) := by
  apply ByteArray.ext
  simp [strB]
theorem strB_toList (l : List (Fin 256)) : (strB l).toList = l.map b8 := by rw [ByteArray.toList_eq]; simp [strB]
theorem map_b8_inj : ∀ {a b : List (Fin 256)}, a.map b8 = b.map b8 → a = b
  | [], [], _ => rfl
  | [], _ :: _, h => by simp at h
  | _ :: _, [], h => by simp at h
  | x :: a, y :: b, h => by
    simp only [List.map_cons, List.cons.injEq] at h
    rw [b8_inj h.1, map_b8_inj h.2]
theorem strB_surj (x : ByteArray) : ∃ l, x = strB l := by
  refine ⟨x.data.toList.map fun u => ⟨u.toNat, u.toNat_lt⟩, ?_⟩
  apply ByteArray.ext
  apply Array.ext'
  simp only [strB, List.map_map]
  rw [show (b8 ∘ fun u : UInt8 => (⟨u.toNat, u.toNat_lt⟩ : Fin 256)) = id from funext fun u => by simp [b8], List.map_id]
section
variable {E : Env} {s : St} {dst : Option Nat} {ty : TypeId} {ps : String} {af : Array Edge} {gd : Option (Nat × Bool)}
theorem p_cat {x y : Operand} {a b : List (Fin 256)} {ha : (Value.string (strB a)).oneCell' = true} {hb : (Value.string (strB b)).oneCell' = true} {T T' : TypeId} (hx : ev s x = some (.raw (.string (strB a)) ha)) (hy : ev s y = some (.raw (.string (strB b)) hb)) (h : a.length + b.length ≤ 9223372036854775807) :
    Pt E ⟨dst, .binOp .add T x y T', ty, ps, af, gd⟩ s (.raw (.string (strB (a ++ b))) rfl) := fun c ho w => by
  have h2 : (((strB a).size : Int) + ((strB b).size : Int)) ≤ 9223372036854775807 := by
    rw [strB_size, strB_size]; omega
  simp [execOp, ho.ev hx, ho.ev hy, D.val, run_eqGuard_string, binOp, Op.stringOp, strB_app]
  exact h2
theorem str_beq (a b : List (Fin 256)) : ((strB a).toList == (strB b).toList) = decide (a = b) := by
  rw [strB_toList, strB_toList, Bool.eq_iff_iff]
  simp only [beq_iff_eq, decide_eq_true_eq]
  exact ⟨map_b8_inj, fun h => by rw [h]⟩
theorem p_eql_s {x y : Operand} {a b : List (Fin 256)} {ha : (Value.string (strB a)).oneCell' = true} {hb : (Value.string (strB b)).oneCell' = true} {T T' : TypeId} (hx : ev s x = some (.raw (.string (strB a)) ha)) (hy : ev s y = some (.raw (.string (strB b)) hb)) :
    Pt E ⟨dst, .binOp .eql T x y T', ty, ps, af, gd⟩ s (.bool (decide (a = b))) := fun c ho w => by
  simp only [execOp, ho.ev hx, ho.ev hy, D.val, run_eqGuard_string, binOp, Op.stringOp, Sem.run_bind, Result.andThen_ok, Sem.run_pure, str_beq]
theorem p_neq_s {x y : Operand} {a b : List (Fin 256)} {ha : (Value.string (strB a)).oneCell' = true} {hb : (Value.string (strB b)).oneCell' = true} {T T' : TypeId} (hx : ev s x = some (.raw (.string (strB a)) ha)) (hy : ev s y = some (.raw (.string (strB b)) hb)) :
    Pt E ⟨dst, .binOp .neq T x y T', ty, ps, af, gd⟩ s (.bool (decide (¬ a = b))) := fun c ho w => by
  simp only [execOp, ho.ev hx, ho.ev hy, D.val, run_eqGuard_string, binOp, Op.stringOp, Sem.run_bind, Result.andThen_ok, Sem.run_pure, str_beq, decide_not]
theorem p_len_B {x : Operand} {a : List (Fin 256)} {T : Nat} {sz by_ : Nat} {z : D} {h : (Value.string (strB a)).oneCell' = true} {aty : Array TypeId} (haty : aty = #[T]) (ht : E.tt T = some ⟨.str, sz, by_, z⟩) (hx : ev s x = some (.raw (.string (strB a)) h)) :
    Pt E ⟨dst, .call { callee := .builtin .len, args := #[x], argTypes := aty }, ty, ps, af, gd⟩ s (.int .i64 (a.length : Int)) := by
  rw [← strB_size]; exact p_len_s haty ht hx
theorem p_index_s {x y : Operand} {a : List (Fin 256)} {T : Nat} {k : IntKind} {i : Int} {sz by_ : Nat} {z : D} {h : (Value.string (strB a)).oneCell' = true} (j : Nat) (ht : E.tt T = some ⟨.str, sz, by_, z⟩) (hx : ev s x = some (.raw (.string (strB a)) h)) (hy : evI s y = some (k, i)) (hj : i = (j : Int)) (hi : j < a.length) :
    Pt E ⟨dst, .index T x y, ty, ps, af, gd⟩ s (.u8 (a.getD j 0)) := fun c ho w => by
  subst hj
  obtain ⟨d, hd, hm⟩ := tt_underlying ht
  simp only [TD.met] at hm
  subst hm
  have hlt : ((j : Int).toNat) < (strB a).size := by rw [strB_size]; omega
  have e : ((strB a)[(j : Int).toNat]'hlt).toNat = (a.getD j 0).val := by
    simp only [Int.toNat_natCast, strB, ByteArray.getElem_eq_getElem_data, List.getElem_toArray, List.getElem_map, b8_toNat, List.getD, List.getElem?_eq_getElem hi, Option.getD_some]
  have hr := run_index_string (P := E.P) w T (strB a) k (j : Int) hd
  rw [dif_pos ⟨by omega, by rw [strB_size]; omega⟩] at hr
  simp only [execOp, ho.ev hx, ho.evI hy, D.val, Sem.run_bind, hr, Result.andThen_ok, Sem.run_pure, e]
/-- Bytes read as a string. -/
theorem q_strOf {x : Operand} {v : Value} {hv : v.oneCell' = true} {l : List (Fin 256)} {S T el sz by_ sz2 by2 sz3 by3 : Nat} {z z2 z3 : D} (hs : E.tt S = some ⟨.slice el, sz, by_, z⟩) (he : E.tt el = some ⟨.int .u8, sz2, by2, z2⟩) (ht : E.tt T = some ⟨.str, sz3, by3, z3⟩) (hx : ev s x = some (.raw v hv)) (hr : Rds s v (.u8s l)) :
    Qt E ⟨dst, .convert S T x, ty, ps, af, gd⟩ s (.raw (.string (strB l)) rfl) := qt_of fun c w ho => by
  obtain ⟨d, hd, hm⟩ := tt_underlying hs
  simp only [TD.met] at hm; subst hm
  obtain ⟨d2, hd2, hm⟩ := tt_underlying he
  simp only [TD.met] at hm; subst hm
  obtain ⟨d3, hd3, hm⟩ := tt_underlying ht
  simp only [TD.met] at hm; subst hm
  rcases hr w ho.hp with ⟨rfl, h0⟩ | ⟨a, cap, rfl, hsp, hrow⟩
  · have : l = [] := List.eq_nil_of_length_eq_zero h0
    subst this
    simp only [execOp, ho.ev hx, D.val, Sem.run_bind]
    rw [run_convert_bytes_string w S T el none 0 0 hd hd2 hd3]
    simp [Conv.bytesToString, strB]
    rfl
  · by_cases hne : l = []
    · subst hne
      have hb := run_convert_bytes_back (P := E.P) w S T el a cap [] hd hd2 hd3 (fun j hj => by simp at hj)
      simp only [execOp, ho.ev hx, D.val, Sem.run_bind]
      have e0 : (Rw.u8s []).len = ([] : List UInt8).length := rfl
      rw [e0, hb]
      rfl
    · have hs0 : a.spot = none := hsp (by simpa [Rw.cells] using hne)
      have hb := run_convert_bytes_back (P := E.P) w S T el a cap (l.map b8) hd hd2 hd3 (fun j hj => by
        have hj' : j < l.length := by simpa using hj
        have := hrow j (.int .u8 ((l[j]).val : Int)) (by simp [Rw.cells, hj'])
        obtain ⟨b, o, sp⟩ := a
        simp only at hs0
        subst hs0
        rw [Addr.add_at, this]
        simp [b8_toNat])
      simp only [execOp, ho.ev hx, D.val, Sem.run_bind]
      have e0 : (Rw.u8s l).len = (l.map b8).length := by simp [Rw.len]
      rw [e0, hb]
      rfl
/-- One byte below 128 as a string. -/
theorem p_strOf1 {x : Operand} {c : Fin 256} {S T sz by_ : Nat} {i : TI} {z : D} (hs : E.tt S = some i) (ht : E.tt T = some ⟨.str, sz, by_, z⟩) (hi : i.td = .int .u8) (hx : ev s x = some (.u8 c)) (h : c.val < 128) : Pt E ⟨dst, .convert S T x, ty, ps, af, gd⟩ s (.raw (.string (strB [c])) rfl) := fun a ho w => by
  obtain ⟨d, hd, hm⟩ := tt_underlying hs
  rw [hi] at hm
  simp only [TD.met] at hm; subst hm
  obtain ⟨d3, hd3, hm⟩ := tt_underlying ht
  simp only [TD.met] at hm; subst hm
  have e : Utf8.encode ((c.val : Nat) : Int) = strB [c] := by
    have hv : Utf8.valid ((c.val : Nat) : Int) = true := by
      unfold Utf8.valid
      simp
      omega
    unfold Utf8.encode
    simp only [hv, if_true, Int.toNat_natCast]
    rw [if_pos h]
    rfl
  simp only [execOp, ho.ev hx, D.val, Sem.run_bind]
  simp [convert, run_underlying hd, run_underlying hd3, Conv.intToString, e]
end

/-! ### Parts of slices -/
def Rw.takeR : Rw → Nat → Rw
  | .ints k l, n => .ints k (l.take n)
  | .u8s l, n => .u8s (l.take n)
  | .arrs m l, n => .arrs m (l.take n)
  | .arri k m l, n => .arri k m (l.take n)
  | .vals l h, n => .vals (l.take n) (fun v hv => h v (List.take_subset _ _ hv))
  | .levs l, n => .levs (l.take n)
theorem flatMap_take {α : Type} (m : Nat) (f : α → List Value) (hf : ∀ a, (f a).length = m) : ∀ (l : List α) (n : Nat), (l.take n).flatMap f = (l.flatMap f).take (n * m)
  | [], n => by simp
  | x :: r, 0 => by simp
  | x :: r, n + 1 => by
    simp only [List.take_succ_cons, List.flatMap_cons]
    rw [flatMap_take m f hf r n, List.take_append, hf, List.take_of_length_le (l := f x) (by rw [hf, Nat.add_mul]; omega), show (n + 1) * m - m = n * m by rw [Nat.add_mul]; omega]
theorem Rw.takeR_ok (r : Rw) {n : Nat} (h : n ≤ r.len) : (r.takeR n).cells = r.cells.take (n * r.size) ∧ (r.takeR n).len = n ∧ (r.takeR n).size = r.size := by
  cases r with
  | ints k l => simp only [Rw.len] at h; simp [Rw.takeR, Rw.cells, Rw.len, Rw.size, List.map_take, Nat.min_eq_left h]
  | u8s l => simp only [Rw.len] at h; simp [Rw.takeR, Rw.cells, Rw.len, Rw.size, List.map_take, Nat.min_eq_left h]
  | arrs m l =>
    simp only [Rw.len] at h
    refine ⟨?_, by simp [Rw.takeR, Rw.len, Nat.min_eq_left h], rfl⟩
    exact flatMap_take m _ (fun _ => by simp) l n
  | arri k m l =>
    simp only [Rw.len] at h
    refine ⟨?_, by simp [Rw.takeR, Rw.len, Nat.min_eq_left h], rfl⟩
    exact flatMap_take m _ (fun _ => by simp) l n
  | vals l hh => simp only [Rw.len] at h; simp [Rw.takeR, Rw.cells, Rw.len, Rw.size, Nat.min_eq_left h]
  | levs l =>
    simp only [Rw.len] at h
    refine ⟨?_, by simp [Rw.takeR, Rw.len, Nat.min_eq_left h], rfl⟩
    exact flatMap_take 111 _ levD_len l n
theorem ownsRow_take {w : World} {EE b cap n : Nat} {r : Rw} (h : w.ownsRow 0 EE r.size (.slice (some ⟨b, 0, none⟩) r.len cap) r.len r.cells) (hn : n ≤ r.len) :
    w.ownsRow 0 EE (r.takeR n).size (.slice (some ⟨b, 0, none⟩) n cap) n (r.takeR n).cells := by
  obtain ⟨e1, e2, e3⟩ := r.takeR_ok hn
  rcases h.2 with ⟨h', _⟩ | ⟨g, c, cur, hv, h0, hg, h1, h2, h3, h4⟩
  · cases h'
  · simp only [Value.slice.injEq, Option.some.injEq, Addr.mk.injEq, and_true, true_and] at hv
    obtain ⟨rfl, rfl⟩ := hv
    have hl := Rw.length_cells r
    refine ⟨by rw [e1, e3, List.length_take, hl]; exact Nat.min_eq_left (Nat.mul_le_mul_right _ hn), .inr ⟨b, cap, cur, rfl, h0, hg, by omega, h2, by rw [e3]; exact h3, ?_⟩⟩
    rw [e3, e1, ← h4, List.take_take, Nat.min_eq_left (Nat.mul_le_mul_right _ hn)]
section
variable {E : Env} {s : St} {ty : TypeId} {ps : String} {af : Array Edge} {gd : Option (Nat × Bool)} {k : Nat} {K : St → Prop}
/-- xs[:n] of a row of the call's own: the row is known only so far from now on. -/
theorem x_take {T el b len cap n : Nat} {x y : Operand} {kk : IntKind} {i : Int} {ei : TI} {sz by_ : Nat} {z : D} {r : Rw} {hp' : List Ent} (ht : E.tt T = some ⟨.slice el, sz, by_, z⟩) (h3 : E.tt el = some ei) (hx : ev s x = some (.sl b 0 len cap)) (hy : evI s y = some (kk, i)) (hi : i = (n : Int)) (hn : n ≤ r.len)
    (hr : HpRep (.row b cap el r) (.row b cap el (r.takeR n)) s.hp hp') (hl : len = r.len) (hk : k < E.n) (h : K ⟨(k, .sl b 0 n cap) :: s.tm, hp'⟩) : Xt E ⟨some k, .slice T x none (some y) none, ty, ps, af, gd⟩ s K := xt_value fun a w ho => by
  subst hi; subst hl
  obtain ⟨d, hd, hm⟩ := tt_underlying ht
  simp only [TD.met] at hm
  subst hm
  obtain ⟨x', hx', hs', _⟩ := tt_info h3
  have hrow : w.ownsRow 0 el r.size (.slice (some ⟨b, 0, none⟩) r.len cap) r.len r.cells := ho.hp.all _ hr.mem
  have hcap : r.len ≤ cap := by
    rcases hrow.2 with ⟨h', _⟩ | ⟨g, c, cur, hv, _, _, h1, _⟩
    · cases h'
    · simp only [Value.slice.injEq, Option.some.injEq, Addr.mk.injEq, and_true, true_and] at hv
      omega
  obtain ⟨e1, e2, e3⟩ := r.takeR_ok hn
  have h1 : (0 : Int) ≤ (n : Int) ∧ (n : Int) ≤ (cap : Int) := by omega
  have h9 : ¬ cap < n := by omega
  refine ⟨.slice (some ⟨b, 0, none⟩) n cap, w, ?_, _, h, (ho.rep (b := b) (b' := b) hr rfl rfl rfl rfl ?_ (fun _ _ _ => rfl) (.inl rfl) rfl rfl rfl (Nat.le_refl _)).put (d := .sl b 0 n cap) hk⟩
  · simp [execOp, ho.ev hx, ho.t.evI hy, D.val, Instr.sliceAt, Instr.slice, Instr.sliceBounds, Instr.sliceBound, asIntOf, run_underlying hd, h1, sizeOf, typeInfo, hx', Addr.add]
    intro h; exact absurd h h9
  · show w.ownsRow 0 el (r.takeR n).size (.slice (some ⟨b, 0, none⟩) (r.takeR n).len cap) (r.takeR n).len (r.takeR n).cells
    rw [e2]
    exact ownsRow_take hrow hn
end
end Gx
end Go.Proofs.Ytjihhcjpbcmjaaa
