/- Stores into slices by number; lists that are marked. No conditions but those in the statements. -/
import Derived.Test.YtebcapplclgaeadGx13
namespace Go.Proofs.Ytebcapplclgaead
open Go
namespace Gx
open Go.RowKit (Below)
set_option linter.unusedVariables false
theorem map_set_spl {α : Type} (mk : α → Value) {l : List α} {i : Nat} {a : α} (h : i < l.length) : (l.set i a).map mk = spl (l.map mk) i [mk a] := by
  apply List.ext_getElem?
  intro q
  rw [spl_getElem? _ _ _ (by simp; omega)]
  simp only [List.getElem?_map, List.getElem?_set, List.length_cons, List.length_nil]
  by_cases hq : i = q
  · subst hq; simp [h]
  · rw [if_neg hq, if_neg (by omega)]
theorem veq_sl {b o n m c : Nat} (h : n = m) : (D.sl b o n c).val = (D.sl b o m c).val := by rw [h]
section
variable {E : Env} {s : St} {ty : TypeId} {ps : String} {af : Array Edge} {gd : Option (Nat × Bool)} {K : St → Prop}
theorem x_setOi {T e EE i : Nat} {v : Value} {k : IntKind} {hv : (ptrAt v e).oneCell' = true} {x y : Operand} {ti : TI} {l : List Int} {m : Int} {hp' : List Ent} (ht : E.tt T = some ti) (hx : ev s x = some (.raw (ptrAt v e) hv)) (hy : ev s y = some (.int k m)) (hs : 1 = ti.size) (he : e = mulS i ti.size) (hi : i < l.length)
    (hr : HpRep (own v EE (.ints k l)) (own v EE (.ints k (l.set i m))) s.hp hp') (h : K ⟨s.tm, hp'⟩) : Xt E ⟨none, .store T x y, ty, ps, af, none⟩ s K := by
  rw [mulS_eq, ← hs, Nat.mul_one] at he
  subst he
  exact x_storeO ht hx hy rfl hs hr (by simp only [D.size, Rw.len, Rw.size]; omega) (Nat.zero_lt_one) (map_set_spl (Value.int k) hi) (by simp [Rw.len]) rfl h
theorem x_setO8 {T e EE i : Nat} {v : Value} {hv : (ptrAt v e).oneCell' = true} {x y : Operand} {ti : TI} {l : List (Fin 256)} {m : Fin 256} {hp' : List Ent} (ht : E.tt T = some ti) (hx : ev s x = some (.raw (ptrAt v e) hv)) (hy : ev s y = some (.u8 m)) (hs : 1 = ti.size) (he : e = mulS i ti.size) (hi : i < l.length)
    (hr : HpRep (own v EE (.u8s l)) (own v EE (.u8s (l.set i m))) s.hp hp') (h : K ⟨s.tm, hp'⟩) : Xt E ⟨none, .store T x y, ty, ps, af, none⟩ s K := by
  rw [mulS_eq, ← hs, Nat.mul_one] at he
  subst he
  exact x_storeO ht hx hy rfl hs hr (by simp only [D.size, Rw.len, Rw.size]; omega) (Nat.zero_lt_one) (map_set_spl (fun x : Fin 256 => Value.int .u8 (x.val : Int)) hi) (by simp [Rw.len]) rfl h
theorem x_setRi {T b e cap EE i : Nat} {k : IntKind} {x y : Operand} {ti : TI} {l : List Int} {m : Int} {hp' : List Ent} (ht : E.tt T = some ti) (hx : ev s x = some (.ptr b 0 (some e))) (hy : ev s y = some (.int k m)) (hs : 1 = ti.size) (he : e = i) (hi : i < l.length)
    (hr : HpRep (.row b cap EE (.ints k l)) (.row b cap EE (.ints k (l.set i m))) s.hp hp') (h : K ⟨s.tm, hp'⟩) : Xt E ⟨none, .store T x y, ty, ps, af, none⟩ s K := by
  subst he
  exact x_storeRow ht hx hy rfl hs hr (by simp only [D.size, Rw.len, Rw.size]; omega) (map_set_spl (Value.int k) hi) (by simp [Rw.len]) rfl h
theorem x_setR8 {T b e cap EE i : Nat} {x y : Operand} {ti : TI} {l : List (Fin 256)} {m : Fin 256} {hp' : List Ent} (ht : E.tt T = some ti) (hx : ev s x = some (.ptr b 0 (some e))) (hy : ev s y = some (.u8 m)) (hs : 1 = ti.size) (he : e = i) (hi : i < l.length)
    (hr : HpRep (.row b cap EE (.u8s l)) (.row b cap EE (.u8s (l.set i m))) s.hp hp') (h : K ⟨s.tm, hp'⟩) : Xt E ⟨none, .store T x y, ty, ps, af, none⟩ s K := by
  subst he
  exact x_storeRow ht hx hy rfl hs hr (by simp only [D.size, Rw.len, Rw.size]; omega) (map_set_spl (fun x : Fin 256 => Value.int .u8 (x.val : Int)) hi) (by simp [Rw.len]) rfl h
end
/-- k, k + 1, .. : n of them. -/
def marks (k : Int) : Nat → List Int
  | 0 => []
  | n + 1 => marks k n ++ [k + (n : Int)]
theorem marks_len (k : Int) : ∀ n, (marks k n).length = n
  | 0 => rfl
  | n + 1 => by simp [marks, marks_len k n]
theorem marks_getD (k : Int) : ∀ {n i : Nat}, i < n → (marks k n).getD i 0 = k + (i : Int)
  | n + 1, i, h => by
    by_cases hi : i < n
    · have := marks_getD k hi
      simp only [marks, List.getD] at this ⊢
      rw [List.getElem?_append_left (by rw [marks_len]; exact hi)]
      exact this
    · obtain rfl : i = n := by omega
      simp only [marks, List.getD]
      rw [List.getElem?_append_right (by rw [marks_len]; exact Nat.le_refl _)]
      simp [marks_len]
theorem marks_set {k : Int} {l : List Int} {i : Nat} (h : i < l.length) : (marks k i ++ l.drop i).set i (k + (i : Int)) = marks k (i + 1) ++ l.drop (i + 1) := by
  rw [List.set_append_right _ _ (by rw [marks_len]; exact Nat.le_refl _), marks_len, Nat.sub_self, List.drop_eq_getElem_cons h, List.set_cons_zero]
  simp only [marks, List.append_assoc, List.cons_append, List.nil_append]
theorem marks_lt {k : Int} {l : List Int} {i : Nat} (h : i < l.length) : i < (marks k i ++ l.drop i).length := by
  simp [marks_len]; omega
theorem marks_drop {k : Int} {l : List Int} {i : Nat} (h : i ≤ l.length) : (marks k i ++ l.drop i).length = l.length := by
  simp [marks_len]; omega
theorem take_set {α : Type} {l : List α} {z : α} {i n : Nat} (hn : n = l.length) (h : i < l.length) (a : α) (ha : l[i]? = some a) : (l.take i ++ List.replicate (n - i) z).set i a = l.take (i + 1) ++ List.replicate (n - (i + 1)) z := by
  subst hn
  have e : l.length - i = (l.length - (i + 1)) + 1 := by omega
  have h2 : min i l.length = i := Nat.min_eq_left (by omega)
  rw [List.set_append_right _ _ (by rw [List.length_take]; omega), List.length_take, h2, Nat.sub_self, e, List.replicate_succ, List.set_cons_zero, List.take_add_one, ha]
  simp
theorem take_lt {α : Type} {l : List α} {z : α} {i n : Nat} (hn : n = l.length) (h : i < l.length) : i < (l.take i ++ List.replicate (n - i) z).length := by
  subst hn; simp; omega
theorem getD_get {α : Type} {l : List α} {z : α} {i : Nat} (h : i < l.length) : l[i]? = some (l.getD i z) := by
  simp [List.getD, List.getElem?_eq_getElem h]
end Gx
end Go.Proofs.Ytebcapplclgaead
