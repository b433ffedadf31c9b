/- Strings, and parts of slices. No conditions but those in the statements. -/
import Derived.Test.YtjihhcjpbcmjaaaFGGx12
import Derived.Laws.BytesString
import Derived.Laws.IdiomStrings
import Derived.Laws.Strings
namespace Go.Proofs.Ytjihhcjpbcmjaaa
open Go
namespace Gx
open Go.RowKit (Below)
set_option linter.unusedVariables false
def b8 (x : Fin 256) : UInt8 := UInt8.ofNat x.val
theorem b8_toNat (x : Fin 256) : (b8 x).toNat = x.val := by
  simp [b8]
/-- The string of some bytes. -/
def strB (l : List (Fin 256)) : ByteArray := ⟨(l.map b8).toArray⟩
theorem strB_size (l : List (Fin 256)) : (strB l).size = l.length := by simp [strB, ByteArray.size]
section
variable {E : Env} {s : St} {dst : Option Nat} {ty : TypeId} {ps : String} {af : Array Edge} {gd : Option (Nat × Bool)}
theorem p_len_B {x : Operand} {a : List (Fin 256)} {T : Nat} {sz by_ : Nat} {z : D} {h : (Value.string (strB a)).oneCell' = true} {aty : Array TypeId} (haty : aty = #[T]) (ht : E.tt T = some ⟨.str, sz, by_, z⟩) (hx : ev s x = some (.raw (.string (strB a)) h)) :
    Pt E ⟨dst, .call { callee := .builtin .len, args := #[x], argTypes := aty }, ty, ps, af, gd⟩ s (.int .i64 (a.length : Int)) := by
  rw [← strB_size]; exact p_len_s haty ht hx
theorem p_index_s {x y : Operand} {a : List (Fin 256)} {T : Nat} {k : IntKind} {i : Int} {sz by_ : Nat} {z : D} {h : (Value.string (strB a)).oneCell' = true} (j : Nat) (ht : E.tt T = some ⟨.str, sz, by_, z⟩) (hx : ev s x = some (.raw (.string (strB a)) h)) (hy : evI s y = some (k, i)) (hj : i = (j : Int)) (hi : j < a.length) :
    Pt E ⟨dst, .index T x y, ty, ps, af, gd⟩ s (.u8 (a.getD j 0)) := fun c ho w => by
  subst hj
  obtain ⟨d, hd, hm⟩ := tt_underlying ht
  simp only [TD.met] at hm
  subst hm
  have hlt : ((j : Int).toNat) < (strB a).size := by rw [strB_size]; omega
  have e : ((strB a)[(j : Int).toNat]'hlt).toNat = (a.getD j 0).val := by
    simp only [Int.toNat_natCast, strB, ByteArray.getElem_eq_getElem_data, List.getElem_toArray, List.getElem_map, b8_toNat, List.getD, List.getElem?_eq_getElem hi, Option.getD_some]
  have hr := run_index_string (P := E.P) w T (strB a) k (j : Int) hd
  rw [dif_pos ⟨by omega, by rw [strB_size]; omega⟩] at hr
  simp only [execOp, ho.ev hx, ho.evI hy, D.val, Sem.run_bind, hr, Result.andThen_ok, Sem.run_pure, e]
end

/-! ### Parts of slices -/
def Rw.takeR : Rw → Nat → Rw
  | .ints k l, n => .ints k (l.take n)
  | .u8s l, n => .u8s (l.take n)
  | .arrs m l, n => .arrs m (l.take n)
  | .arri k m l, n => .arri k m (l.take n)
  | .vals l h, n => .vals (l.take n) (fun v hv => h v (List.take_subset _ _ hv))
  | .levs l, n => .levs (l.take n)
theorem flatMap_take {α : Type} (m : Nat) (f : α → List Value) (hf : ∀ a, (f a).length = m) : ∀ (l : List α) (n : Nat), (l.take n).flatMap f = (l.flatMap f).take (n * m)
  | [], n => by simp
  | x :: r, 0 => by simp
  | x :: r, n + 1 => by
    simp only [List.take_succ_cons, List.flatMap_cons]
    rw [flatMap_take m f hf r n, List.take_append, hf, List.take_of_length_le (l := f x) (by rw [hf, Nat.add_mul]; omega), show (n + 1) * m - m = n * m by rw [Nat.add_mul]; omega]
theorem Rw.takeR_ok (r : Rw) {n : Nat} (h : n ≤ r.len) : (r.takeR n).cells = r.cells.take (n * r.size) ∧ (r.takeR n).len = n ∧ (r.takeR n).size = r.size := by
  cases r with
  | ints k l => simp only [Rw.len] at h; simp [Rw.takeR, Rw.cells, Rw.len, Rw.size, List.map_take, Nat.min_eq_left h]
  | u8s l => simp only [Rw.len] at h; simp [Rw.takeR, Rw.cells, Rw.len, Rw.size, List.map_take, Nat.min_eq_left h]
  | arrs m l =>
    simp only [Rw.len] at h
    refine ⟨?_, by simp [Rw.takeR, Rw.len, Nat.min_eq_left h], rfl⟩
    exact flatMap_take m _ (fun _ => by simp) l n
  | arri k m l =>
    simp only [Rw.len] at h
    refine ⟨?_, by simp [Rw.takeR, Rw.len, Nat.min_eq_left h], rfl⟩
    exact flatMap_take m _ (fun _ => by simp) l n
  | vals l hh => simp only [Rw.len] at h; simp [Rw.takeR, Rw.cells, Rw.len, Rw.size, Nat.min_eq_left h]
  | levs l =>
    simp only [Rw.len] at h
    refine ⟨?_, by simp [Rw.takeR, Rw.len, Nat.min_eq_left h], rfl⟩
    exact flatMap_take 111 _ levD_len l n
theorem ownsRow_take {w : World} {EE b cap n : Nat} {r : Rw} (h : w.ownsRow 0 EE r.size (.slice (some ⟨b, 0, none⟩) r.len cap) r.len r.cells) (hn : n ≤ r.len) :
    w.ownsRow 0 EE (r.takeR n).size (.slice (some ⟨b, 0, none⟩) n cap) n (r.takeR n).cells := by
  obtain ⟨e1, e2, e3⟩ := r.takeR_ok hn
  rcases h.2 with ⟨h', _⟩ | ⟨g, c, cur, hv, h0, hg, h1, h2, h3, h4⟩
  · cases h'
  · simp only [Value.slice.injEq, Option.some.injEq, Addr.mk.injEq, and_true, true_and] at hv
    obtain ⟨rfl, rfl⟩ := hv
    have hl := Rw.length_cells r
    refine ⟨by rw [e1, e3, List.length_take, hl]; exact Nat.min_eq_left (Nat.mul_le_mul_right _ hn), .inr ⟨b, cap, cur, rfl, h0, hg, by omega, h2, by rw [e3]; exact h3, ?_⟩⟩
    rw [e3, e1, ← h4, List.take_take, Nat.min_eq_left (Nat.mul_le_mul_right _ hn)]
section
variable {E : Env} {s : St} {ty : TypeId} {ps : String} {af : Array Edge} {gd : Option (Nat × Bool)} {k : Nat} {K : St → Prop}
end
end Gx
end Go.Proofs.Ytjihhcjpbcmjaaa
