/- The frame of this seat's proofs, part 1: values of the walk as plain data (numbers, arrays as functions of an index, structs), and what lies in memory; no conditions. -/
import Derived.WalkKit
import Derived.Deep.Quiet
import Derived.Deep.MidRow
import Derived.Deep.LoopGhost
namespace Go.Proofs.Ytebcapplclgaead
open Go
namespace Gx

/-- A value as the walk knows it. 'arr k n f': an array of n whole numbers, arrays in arrays laid flat. 'u8', 'arr8': bytes. 'ptr b o e': block b, offset o (of a field) and e (of an element, if one was chosen). -/
inductive D where
  | int (k : IntKind) (n : Int)
  | u8 (x : Fin 256)
  | bool (b : Bool)
  | arr (k : IntKind) (n : Nat) (f : Nat → Int)
  | arr8 (n : Nat) (f : Nat → Fin 256)
  | barr (n : Nat) (f : Nat → Bool)
  | varr (n : Nat) (f : Nat → Value) (h : ∀ i, (f i).oneCell' = true)
  | ptr (b o : Nat) (e : Option Nat)
  | sl (b off len cap : Nat)
  | raw (v : Value) (h : v.oneCell' = true)
  | agg (fs : List D)
  | tup (vs : List D)

mutual
def D.cells : D → List Value
  | .int k n => [.int k n]
  | .u8 x => [.int .u8 (x.val : Int)]
  | .bool b => [.bool b]
  | .arr k n f => (List.range n).map fun i => .int k (f i)
  | .arr8 n f => (List.range n).map fun i => .int .u8 ((f i).val : Int)
  | .barr n f => (List.range n).map fun i => .bool (f i)
  | .varr n f _ => (List.range n).map f
  | .ptr b o e => [.pointer (some ⟨b, o + e.getD 0, none⟩)]
  | .sl b off len cap => [.slice (some ⟨b, off, none⟩) len cap]
  | .raw v _ => [v]
  | .agg fs => D.cellsL fs
  | .tup _ => []
def D.cellsL : List D → List Value
  | [] => []
  | d :: r => d.cells ++ D.cellsL r
end

mutual
def D.size : D → Nat
  | .arr _ n _ => n
  | .arr8 n _ => n
  | .u8 _ => 1
  | .barr n _ => n
  | .varr n _ _ => n
  | .agg fs => D.sizeL fs
  | .tup _ => 0
  | .int _ _ => 1
  | .bool _ => 1
  | .ptr _ _ _ => 1
  | .sl _ _ _ _ => 1
  | .raw _ _ => 1
def D.sizeL : List D → Nat
  | [] => 0
  | d :: r => d.size + D.sizeL r
end

mutual
def D.flat : D → Bool
  | .agg fs => D.flatL fs
  | .tup _ => false
  | .arr _ _ _ => true
  | .arr8 _ _ => true
  | .barr _ _ => true
  | .varr _ _ _ => true
  | .int _ _ => true
  | .u8 _ => true
  | .bool _ => true
  | .ptr _ _ _ => true
  | .sl _ _ _ _ => true
  | .raw _ _ => true
def D.flatL : List D → Bool
  | [] => true
  | d :: r => d.flat && D.flatL r
end

def D.isAgg : D → Bool
  | .arr _ _ _ => true
  | .arr8 _ _ => true
  | .barr _ _ => true
  | .varr _ _ _ => true
  | .agg _ => true
  | _ => false

mutual
def D.val : D → Value
  | .int k n => .int k n
  | .u8 x => .int .u8 (x.val : Int)
  | .bool b => .bool b
  | .arr k n f => .agg ((List.range n).map fun i => Value.int k (f i)).toArray
  | .arr8 n f => .agg ((List.range n).map fun i => Value.int .u8 ((f i).val : Int)).toArray
  | .barr n f => .agg ((List.range n).map fun i => Value.bool (f i)).toArray
  | .varr n f _ => .agg ((List.range n).map f).toArray
  | .ptr b o e => .pointer (some ⟨b, o + e.getD 0, none⟩)
  | .sl b off len cap => .slice (some ⟨b, off, none⟩) len cap
  | .raw v _ => v
  | .agg fs => .agg (D.cellsL fs).toArray
  | .tup vs => .tuple (D.valL vs).toArray
def D.valL : List D → List Value
  | [] => []
  | d :: r => d.val :: D.valL r
end

mutual
theorem D.length_cells : ∀ d : D, d.cells.length = d.size
  | .arr _ _ _ => by simp [D.cells, D.size]
  | .arr8 _ _ => by simp [D.cells, D.size]
  | .barr _ _ => by simp [D.cells, D.size]
  | .varr _ _ _ => by simp [D.cells, D.size]
  | .agg fs => by simp only [D.cells, D.size]; exact D.length_cellsL fs
  | .tup _ => by simp [D.cells, D.size]
  | .int _ _ => by simp [D.cells, D.size]
  | .u8 _ => by simp [D.cells, D.size]
  | .bool _ => by simp [D.cells, D.size]
  | .ptr _ _ _ => by simp [D.cells, D.size]
  | .sl _ _ _ _ => by simp [D.cells, D.size]
  | .raw _ _ => by simp [D.cells, D.size]
theorem D.length_cellsL : ∀ l : List D, (D.cellsL l).length = D.sizeL l
  | [] => by simp [D.cellsL, D.sizeL]
  | d :: r => by simp only [D.cellsL, D.sizeL, List.length_append, D.length_cells d, D.length_cellsL r]
end

mutual
theorem D.oneCell : ∀ d : D, ∀ v ∈ d.cells, v.oneCell' = true
  | .arr _ _ _ => by simp [D.cells]; intro a _; rfl
  | .arr8 _ _ => by simp [D.cells]; intro a _; rfl
  | .barr _ _ => by simp [D.cells]; intro a _; rfl
  | .varr _ f h => by simp [D.cells]; intro i _; exact h i
  | .agg fs => by simp only [D.cells]; exact D.oneCellL fs
  | .tup _ => by simp [D.cells]
  | .int _ _ => by simp [D.cells]; rfl
  | .u8 _ => by simp [D.cells]; rfl
  | .bool _ => by simp [D.cells]; rfl
  | .ptr _ _ _ => by simp [D.cells]; rfl
  | .sl _ _ _ _ => by simp [D.cells]; rfl
  | .raw _ h => by simp [D.cells]; exact h
theorem D.oneCellL : ∀ l : List D, ∀ v ∈ D.cellsL l, v.oneCell' = true
  | [] => by simp [D.cellsL]
  | d :: r => by
    simp only [D.cellsL, List.mem_append]
    rintro v (h | h)
    · exact D.oneCell d v h
    · exact D.oneCellL r v h
end

/-- A value's own cells. -/
theorem D.val_cells : ∀ d : D, d.flat = true → d.val.cells = d.cells.toArray
  | .arr _ _ _, _ => by simp [D.val, D.cells, Value.cells]
  | .arr8 _ _, _ => by simp [D.val, D.cells, Value.cells]
  | .barr _ _, _ => by simp [D.val, D.cells, Value.cells]
  | .varr _ _ _, _ => by simp [D.val, D.cells, Value.cells]
  | .agg fs, _ => by simp [D.val, D.cells, Value.cells]
  | .tup _, h => by simp [D.flat] at h
  | .int _ _, _ => by simp [D.val, D.cells, Value.cells]
  | .u8 _, _ => by simp [D.val, D.cells, Value.cells]
  | .bool _, _ => by simp [D.val, D.cells, Value.cells]
  | .ptr _ _ _, _ => by simp [D.val, D.cells, Value.cells]
  | .sl _ _ _ _, _ => by simp [D.val, D.cells, Value.cells]
  | .raw v h, _ => by cases v <;> first | rfl | (cases h; done)

theorem D.val_agg : ∀ d : D, d.isAgg = true → d.val = .agg d.cells.toArray
  | .arr _ _ _, _ => by simp [D.val, D.cells]
  | .arr8 _ _, _ => by simp [D.val, D.cells]
  | .barr _ _, _ => by simp [D.val, D.cells]
  | .varr _ _ _, _ => by simp [D.val, D.cells]
  | .agg fs, _ => by simp [D.val, D.cells]

theorem D.val_one : ∀ d : D, d.isAgg = false → d.flat = true → d.cells = [d.val] ∧ d.val.oneCell' = true
  | .tup _, _, h => by simp [D.flat] at h
  | .int _ _, _, _ => by simp [D.val, D.cells]; rfl
  | .u8 _, _, _ => by simp [D.val, D.cells]; rfl
  | .bool _, _, _ => by simp [D.val, D.cells]; rfl
  | .ptr _ _ _, _, _ => by simp [D.val, D.cells]; rfl
  | .sl _ _ _ _, _, _ => by simp [D.val, D.cells]; rfl
  | .raw v h, _, _ => by simp [D.val, D.cells]; exact h

/-! ### A part of a value, at an offset -/
mutual
def D.sub : D → (o : Nat) → (e : Option Nat) → (sz : Nat) → (ag : Bool) → Option (Prop × D)
  | d, o, e, sz, ag =>
    if (Nat.beq o 0 && Nat.beq d.size sz && (d.isAgg == ag) && d.flat && e.isNone) = true then some (True, d) else
    match d with
    | .agg fs => D.subL fs o e sz ag
    | .arr k n f => if Nat.beq o 0 = true then (match e with
        | some e => if ag = true then some (e + sz ≤ n, .arr k sz (fun j => f (e + j))) else if Nat.beq sz 1 = true then some (e < n, .int k (f e)) else none
        | none => none) else none
    | .arr8 n f => if Nat.beq o 0 = true then (match e with
        | some e => if ag = true then some (e + sz ≤ n, .arr8 sz (fun j => f (e + j))) else if Nat.beq sz 1 = true then some (e < n, .u8 (f e)) else none
        | none => none) else none
    | .barr n f => if Nat.beq o 0 = true then (match e with
        | some e => if ag = true then some (e + sz ≤ n, .barr sz (fun j => f (e + j))) else if Nat.beq sz 1 = true then some (e < n, .bool (f e)) else none
        | none => none) else none
    | .varr n f h => if Nat.beq o 0 = true then (match e with
        | some e => if ag = true then some (e + sz ≤ n, .varr sz (fun j => f (e + j)) (fun j => h (e + j))) else if Nat.beq sz 1 = true then some (e < n, .raw (f e) (h e)) else none
        | none => none) else none
    | _ => none
def D.subL : List D → (o : Nat) → (e : Option Nat) → (sz : Nat) → (ag : Bool) → Option (Prop × D)
  | [], _, _, _, _ => none
  | d :: r, o, e, sz, ag => if Nat.blt o d.size = true then d.sub o e sz ag else D.subL r (o - d.size) e sz ag
end

/-- What 'sub' gives is what lies there. -/
def Lies (cs : List Value) (at_ : Nat) (d : D) (sz : Nat) (ag : Bool) : Prop :=
  (∀ j, j < sz → cs[at_ + j]? = d.cells[j]?) ∧ d.size = sz ∧ d.isAgg = ag ∧ d.flat = true

theorem map_range_lies {α : Type} (n e sz : Nat) (g : Nat → α) (h : e + sz ≤ n) (j : Nat) (hj : j < sz) :
    ((List.range n).map g)[e + j]? = ((List.range sz).map fun i => g (e + i))[j]? := by
  simp [List.getElem?_map, List.getElem?_range (show e + j < n by omega), List.getElem?_range hj]

mutual
theorem D.sub_lies : ∀ (d : D) (o : Nat) (e : Option Nat) (sz : Nat) (ag : Bool) (C : Prop) (d' : D), d.sub o e sz ag = some (C, d') → C → Lies d.cells (o + e.getD 0) d' sz ag
  | d, o, e, sz, ag, C, d', h, hC => by
    unfold D.sub at h
    split at h
    · rename_i hc
      simp only [Bool.and_eq_true, beq_iff_eq, Nat.beq_eq] at hc
      obtain ⟨⟨⟨⟨ho, hs⟩, ha⟩, hf⟩, he⟩ := hc
      simp only [Option.some.injEq, Prod.mk.injEq] at h
      obtain ⟨rfl, rfl⟩ := h
      cases e with
      | some e => cases he
      | none =>
        subst ho
        exact ⟨fun j _ => by simp, hs, ha, hf⟩
    · split at h
      · rename_i fs _
        simp only [D.cells]
        exact D.subL_lies fs o e sz ag C d' h hC
      · rename_i k n f _
        split at h <;> rename_i ho
        · simp only [Nat.beq_eq] at ho; subst ho
          split at h
          · rename_i e _
            split at h <;> rename_i hag
            · subst hag
              simp only [Option.some.injEq, Prod.mk.injEq] at h
              obtain ⟨rfl, rfl⟩ := h
              exact ⟨fun j hj => by simp only [D.cells, Nat.zero_add, Option.getD_some]; exact map_range_lies n e sz (fun i => Value.int k (f i)) hC j hj, rfl, rfl, rfl⟩
            · split at h <;> rename_i hsz
              · simp only [Nat.beq_eq] at hsz; subst hsz
                simp only [Option.some.injEq, Prod.mk.injEq] at h
                obtain ⟨rfl, rfl⟩ := h
                refine ⟨fun j hj => ?_, rfl, by simpa [D.isAgg] using hag, rfl⟩
                obtain rfl : j = 0 := by omega
                simp [D.cells, List.getElem?_range hC]
              · cases h
          · cases h
        · cases h
      · rename_i n f _
        split at h <;> rename_i ho
        · simp only [Nat.beq_eq] at ho; subst ho
          split at h
          · rename_i e _
            split at h <;> rename_i hag
            · subst hag
              simp only [Option.some.injEq, Prod.mk.injEq] at h
              obtain ⟨rfl, rfl⟩ := h
              exact ⟨fun j hj => by simp only [D.cells, Nat.zero_add, Option.getD_some]; exact map_range_lies n e sz (fun i => Value.int .u8 ((f i).val : Int)) hC j hj, rfl, rfl, rfl⟩
            · split at h <;> rename_i hsz
              · simp only [Nat.beq_eq] at hsz; subst hsz
                simp only [Option.some.injEq, Prod.mk.injEq] at h
                obtain ⟨rfl, rfl⟩ := h
                refine ⟨fun j hj => ?_, rfl, by simpa [D.isAgg] using hag, rfl⟩
                obtain rfl : j = 0 := by omega
                simp [D.cells, List.getElem?_range hC]
              · cases h
          · cases h
        · cases h
      · rename_i n f _
        split at h <;> rename_i ho
        · simp only [Nat.beq_eq] at ho; subst ho
          split at h
          · rename_i e _
            split at h <;> rename_i hag
            · subst hag
              simp only [Option.some.injEq, Prod.mk.injEq] at h
              obtain ⟨rfl, rfl⟩ := h
              exact ⟨fun j hj => by simp only [D.cells, Nat.zero_add, Option.getD_some]; exact map_range_lies n e sz (fun i => Value.bool (f i)) hC j hj, rfl, rfl, rfl⟩
            · split at h <;> rename_i hsz
              · simp only [Nat.beq_eq] at hsz; subst hsz
                simp only [Option.some.injEq, Prod.mk.injEq] at h
                obtain ⟨rfl, rfl⟩ := h
                refine ⟨fun j hj => ?_, rfl, by simpa [D.isAgg] using hag, rfl⟩
                obtain rfl : j = 0 := by omega
                simp [D.cells, List.getElem?_range hC]
              · cases h
          · cases h
        · cases h
      · rename_i n f hf _
        split at h <;> rename_i ho
        · simp only [Nat.beq_eq] at ho; subst ho
          split at h
          · rename_i e _
            split at h <;> rename_i hag
            · subst hag
              simp only [Option.some.injEq, Prod.mk.injEq] at h
              obtain ⟨rfl, rfl⟩ := h
              exact ⟨fun j hj => by simp only [D.cells, Nat.zero_add, Option.getD_some]; exact map_range_lies n e sz (f) hC j hj, rfl, rfl, rfl⟩
            · split at h <;> rename_i hsz
              · simp only [Nat.beq_eq] at hsz; subst hsz
                simp only [Option.some.injEq, Prod.mk.injEq] at h
                obtain ⟨rfl, rfl⟩ := h
                refine ⟨fun j hj => ?_, rfl, by simpa [D.isAgg] using hag, rfl⟩
                obtain rfl : j = 0 := by omega
                simp [D.cells, List.getElem?_range hC]
              · cases h
          · cases h
        · cases h
      · cases h
theorem D.subL_lies : ∀ (l : List D) (o : Nat) (e : Option Nat) (sz : Nat) (ag : Bool) (C : Prop) (d' : D), D.subL l o e sz ag = some (C, d') → C → Lies (D.cellsL l) (o + e.getD 0) d' sz ag
  | [], _, _, _, _, _, _, h, _ => by simp [D.subL] at h
  | d :: r, o, e, sz, ag, C, d', h, hC => by
    unfold D.subL at h
    split at h <;> rename_i hb
    · obtain ⟨h1, h2, h3, h4⟩ := D.sub_lies d o e sz ag C d' h hC
      refine ⟨fun j hj => ?_, h2, h3, h4⟩
      have hx := h1 j hj
      have hj' : j < d'.cells.length := by rw [D.length_cells, h2]; exact hj
      have hlt : o + e.getD 0 + j < d.cells.length := by
        rw [List.getElem?_eq_getElem hj'] at hx
        exact (List.getElem?_eq_some_iff.1 hx).1
      simp only [D.cellsL]
      rw [List.getElem?_append_left hlt]
      exact hx
    · have hge : d.size ≤ o := by
        simp only [Nat.blt_eq] at hb
        omega
      obtain ⟨h1, h2, h3, h4⟩ := D.subL_lies r (o - d.size) e sz ag C d' h hC
      refine ⟨fun j hj => ?_, h2, h3, h4⟩
      have hx := h1 j hj
      simp only [D.cellsL]
      rw [List.getElem?_append_right (by rw [D.length_cells]; omega), D.length_cells]
      rw [show o + e.getD 0 + j - d.size = o - d.size + e.getD 0 + j by omega]
      exact hx
end

/-! ### A part of a value, written -/
mutual
def D.upd : D → (o : Nat) → (e : Option Nat) → (new : D) → Option (Prop × D)
  | d, o, e, new =>
    if (Nat.beq o 0 && Nat.beq d.size new.size && (d.isAgg == new.isAgg) && new.flat && e.isNone) = true then some (True, new) else
    match d with
    | .agg fs => (D.updL fs o e new).map fun p => (p.1, .agg p.2)
    | .arr k n f => if Nat.beq o 0 = true then (match e with
      | some e => (match new with
        | .int k' v => if k' = k then some (e < n, .arr k n (fun j => if j = e then v else f j)) else none
        | .arr k' m g => if k' = k then some (e + m ≤ n, .arr k n (fun j => if e ≤ j ∧ j < e + m then g (j - e) else f j)) else none
        | _ => none)
      | none => none) else none
    | .arr8 n f => if Nat.beq o 0 = true then (match e with
      | some e => (match new with
        | .u8 v => some (e < n, .arr8 n (fun j => if j = e then v else f j))
        | .int k' v => if k' = .u8 then some (e < n ∧ 0 ≤ v ∧ v < 256, .arr8 n (fun j => if j = e then Fin.ofNat 256 v.toNat else f j)) else none
        | .arr8 m g => some (e + m ≤ n, .arr8 n (fun j => if e ≤ j ∧ j < e + m then g (j - e) else f j))
        | _ => none)
      | none => none) else none
    | .barr n f => if Nat.beq o 0 = true then (match e with
      | some e => (match new with
        | .bool v => some (e < n, .barr n (fun j => if j = e then v else f j))
        | .barr m g => some (e + m ≤ n, .barr n (fun j => if e ≤ j ∧ j < e + m then g (j - e) else f j))
        | _ => none)
      | none => none) else none
    | .varr n f h => if Nat.beq o 0 = true then (match e with
      | some e => (match new with
        | .raw v hv => some (e < n, .varr n (fun j => if j = e then v else f j) (fun j => by split <;> simp_all))
        | .sl b off len cap => some (e < n, .varr n (fun j => if j = e then .slice (some ⟨b, off, none⟩) len cap else f j) (fun j => by split; rfl; exact h j))
        | _ => none)
      | none => none) else none
    | _ => none
def D.updL : List D → (o : Nat) → (e : Option Nat) → (new : D) → Option (Prop × List D)
  | [], _, _, _ => none
  | d :: r, o, e, new => if Nat.blt o d.size = true then (d.upd o e new).map fun p => (p.1, p.2 :: r) else (D.updL r (o - d.size) e new).map fun p => (p.1, d :: p.2)
end

/-- The cells behind a write. -/
def spl (cs : List Value) (at_ : Nat) (new : List Value) : List Value := cs.take at_ ++ new ++ cs.drop (at_ + new.length)

theorem spl_getElem? (cs : List Value) (a : Nat) (new : List Value) (h : a + new.length ≤ cs.length) (j : Nat) :
    (spl cs a new)[j]? = if a ≤ j ∧ j < a + new.length then new[j - a]? else cs[j]? := by
  unfold spl
  rw [List.append_assoc, List.getElem?_append, List.length_take, Nat.min_eq_left (by omega)]
  split
  · rename_i h1
    rw [if_neg (by omega), List.getElem?_take, if_pos h1]
  · rename_i h1
    rw [List.getElem?_append]
    split
    · rename_i h2
      rw [if_pos ⟨by omega, by omega⟩]
    · rename_i h2
      rw [if_neg (by omega), List.getElem?_drop]
      congr 1
      omega

/-- What 'upd' gives: the same value but for the part. -/
def Writes (cs : List Value) (at_ : Nat) (new : D) (cs' : List Value) : Prop := cs' = spl cs at_ new.cells ∧ at_ + new.size ≤ cs.length

theorem map_range_spl {α : Type} (mk : α → Value) (n e m : Nat) (f g : Nat → α) (h : e + m ≤ n) :
    ((List.range n).map fun j => mk (if e ≤ j ∧ j < e + m then g (j - e) else f j)) = spl ((List.range n).map fun j => mk (f j)) e ((List.range m).map fun j => mk (g j)) := by
  apply List.ext_getElem?
  intro j
  rw [spl_getElem? _ _ _ (by simpa using h)]
  simp only [List.length_map, List.length_range]
  by_cases hj : j < n
  · by_cases h1 : e ≤ j ∧ j < e + m
    · simp [h1, List.getElem?_range hj, List.getElem?_range (show j - e < m by omega)]
    · simp [h1, List.getElem?_range hj]
  · have h1 : ¬ (e ≤ j ∧ j < e + m) := by omega
    simp [h1, List.getElem?_eq_none (show (List.range n).length ≤ j by simpa using hj)]

theorem map_range_spl1 {α : Type} (mk : α → Value) (n e : Nat) (f : Nat → α) (v : α) (h : e < n) :
    ((List.range n).map fun j => mk (if j = e then v else f j)) = spl ((List.range n).map fun j => mk (f j)) e [mk v] := by
  have := map_range_spl mk n e 1 f (fun _ => v) (by omega)
  simp only [List.range_one, List.map_cons, List.map_nil] at this
  rw [← this]
  apply List.map_congr_left
  intro j _
  congr 1
  by_cases hj : j = e
  · simp [hj]
  · rw [if_neg hj, if_neg (by omega)]

mutual
theorem D.upd_writes : ∀ (d : D) (o : Nat) (e : Option Nat) (new : D) (C : Prop) (d' : D), d.upd o e new = some (C, d') → C → new.flat = true → d.flat = true →
    Writes d.cells (o + e.getD 0) new d'.cells ∧ d'.size = d.size ∧ d'.flat = true ∧ d'.isAgg = d.isAgg
  | d, o, e, new, C, d', h, hC, hnf, hdf => by
    unfold D.upd at h
    split at h
    · rename_i hc
      simp only [Bool.and_eq_true, beq_iff_eq, Nat.beq_eq] at hc
      obtain ⟨⟨⟨⟨ho, hs⟩, ha⟩, hf⟩, he⟩ := hc
      simp only [Option.some.injEq, Prod.mk.injEq] at h
      obtain ⟨rfl, rfl⟩ := h
      cases e with
      | some e => cases he
      | none =>
        subst ho
        refine ⟨⟨?_, ?_⟩, hs.symm, hf, ha.symm⟩
        · have e1 : new.cells.length = d.cells.length := by rw [D.length_cells, D.length_cells, hs]
          simp [spl, e1]
        · rw [D.length_cells]; simp only [Option.getD_none]; omega
    · split at h
      · rename_i fs _
        cases hu : D.updL fs o e new with
        | none => simp [hu] at h
        | some p =>
          simp only [hu, Option.map_some, Option.some.injEq, Prod.mk.injEq] at h
          obtain ⟨h1, rfl⟩ := h
          have := D.updL_writes fs o e new p.1 p.2 (by rw [hu]) (h1 ▸ hC) hnf (by simpa [D.flat] using hdf)
          simp only [D.cells, D.size, D.flat, D.isAgg]
          exact ⟨this.1, this.2.1, this.2.2, trivial⟩
      · rename_i k n f _
        split at h <;> rename_i ho
        · simp only [Nat.beq_eq] at ho; subst ho
          split at h
          · rename_i e _
            split at h
            · rename_i k' v _
              split at h <;> rename_i hk
              · subst hk
                simp only [Option.some.injEq, Prod.mk.injEq] at h
                obtain ⟨rfl, rfl⟩ := h
                refine ⟨⟨?_, ?_⟩, rfl, rfl, rfl⟩
                · simp only [D.cells, Nat.zero_add, Option.getD_some]; exact map_range_spl1 (Value.int k') n e f v hC
                · simp only [D.cells, List.length_map, List.length_range, D.size, Nat.zero_add, Option.getD_some]; omega
              · cases h
            · rename_i k' m g _
              split at h <;> rename_i hk
              · subst hk
                simp only [Option.some.injEq, Prod.mk.injEq] at h
                obtain ⟨rfl, rfl⟩ := h
                refine ⟨⟨?_, ?_⟩, rfl, rfl, rfl⟩
                · simp only [D.cells, Nat.zero_add, Option.getD_some]; exact map_range_spl (Value.int k') n e m f g hC
                · simp only [D.cells, List.length_map, List.length_range, D.size, Nat.zero_add, Option.getD_some]; omega
              · cases h
            · cases h
          · cases h
        · cases h
      · rename_i n f _
        split at h <;> rename_i ho
        · simp only [Nat.beq_eq] at ho; subst ho
          split at h
          · rename_i e _
            split at h
            · rename_i v _
              simp only [Option.some.injEq, Prod.mk.injEq] at h
              obtain ⟨rfl, rfl⟩ := h
              refine ⟨⟨?_, ?_⟩, rfl, rfl, rfl⟩
              · simp only [D.cells, Nat.zero_add, Option.getD_some]; exact map_range_spl1 (fun x : Fin 256 => Value.int .u8 (x.val : Int)) n e f v hC
              · simp only [D.cells, List.length_map, List.length_range, D.size, Nat.zero_add, Option.getD_some]; omega
            · rename_i k' v _
              split at h <;> rename_i hk
              · subst hk
                simp only [Option.some.injEq, Prod.mk.injEq] at h
                obtain ⟨rfl, rfl⟩ := h
                refine ⟨⟨?_, ?_⟩, rfl, rfl, rfl⟩
                · simp only [D.cells, Nat.zero_add, Option.getD_some]
                  rw [map_range_spl1 (fun x : Fin 256 => Value.int .u8 (x.val : Int)) n e f _ hC.1]
                  have e2 : ((Fin.ofNat 256 v.toNat).val : Int) = v := by
                    rw [Fin.val_ofNat]; omega
                  rw [e2]
                · have := hC.1
                  simp only [D.cells, List.length_map, List.length_range, D.size, Nat.zero_add, Option.getD_some]; omega
              · cases h
            · rename_i m g _
              simp only [Option.some.injEq, Prod.mk.injEq] at h
              obtain ⟨rfl, rfl⟩ := h
              refine ⟨⟨?_, ?_⟩, rfl, rfl, rfl⟩
              · simp only [D.cells, Nat.zero_add, Option.getD_some]; exact map_range_spl (fun x : Fin 256 => Value.int .u8 (x.val : Int)) n e m f g hC
              · simp only [D.cells, List.length_map, List.length_range, D.size, Nat.zero_add, Option.getD_some]; omega
            · cases h
          · cases h
        · cases h
      · rename_i n f _
        split at h <;> rename_i ho
        · simp only [Nat.beq_eq] at ho; subst ho
          split at h
          · rename_i e _
            split at h
            · rename_i v _
              simp only [Option.some.injEq, Prod.mk.injEq] at h
              obtain ⟨rfl, rfl⟩ := h
              refine ⟨⟨?_, ?_⟩, rfl, rfl, rfl⟩
              · simp only [D.cells, Nat.zero_add, Option.getD_some]; exact map_range_spl1 Value.bool n e f v hC
              · simp only [D.cells, List.length_map, List.length_range, D.size, Nat.zero_add, Option.getD_some]; omega
            · rename_i m g _
              simp only [Option.some.injEq, Prod.mk.injEq] at h
              obtain ⟨rfl, rfl⟩ := h
              refine ⟨⟨?_, ?_⟩, rfl, rfl, rfl⟩
              · simp only [D.cells, Nat.zero_add, Option.getD_some]; exact map_range_spl Value.bool n e m f g hC
              · simp only [D.cells, List.length_map, List.length_range, D.size, Nat.zero_add, Option.getD_some]; omega
            · cases h
          · cases h
        · cases h
      · rename_i n f hf _
        split at h <;> rename_i ho
        · simp only [Nat.beq_eq] at ho; subst ho
          split at h
          · rename_i e _
            split at h
            · rename_i v hv _
              simp only [Option.some.injEq, Prod.mk.injEq] at h
              obtain ⟨rfl, rfl⟩ := h
              refine ⟨⟨?_, ?_⟩, rfl, rfl, rfl⟩
              · simp only [D.cells, Nat.zero_add, Option.getD_some]; exact map_range_spl1 id n e f v hC
              · simp only [D.cells, List.length_map, List.length_range, D.size, Nat.zero_add, Option.getD_some]; omega
            · rename_i b off len cap _
              simp only [Option.some.injEq, Prod.mk.injEq] at h
              obtain ⟨rfl, rfl⟩ := h
              refine ⟨⟨?_, ?_⟩, rfl, rfl, rfl⟩
              · simp only [D.cells, Nat.zero_add, Option.getD_some]; exact map_range_spl1 id n e f _ hC
              · simp only [D.cells, List.length_map, List.length_range, D.size, Nat.zero_add, Option.getD_some]; omega
            · cases h
          · cases h
        · cases h
      · cases h
theorem D.updL_writes : ∀ (l : List D) (o : Nat) (e : Option Nat) (new : D) (C : Prop) (l' : List D), D.updL l o e new = some (C, l') → C → new.flat = true → D.flatL l = true →
    Writes (D.cellsL l) (o + e.getD 0) new (D.cellsL l') ∧ D.sizeL l' = D.sizeL l ∧ D.flatL l' = true
  | [], _, _, _, _, _, h, _, _, _ => by simp [D.updL] at h
  | d :: r, o, e, new, C, l', h, hC, hnf, hlf => by
    simp only [D.flatL, Bool.and_eq_true] at hlf
    unfold D.updL at h
    split at h <;> rename_i hb
    · cases hu : d.upd o e new with
      | none => simp [hu] at h
      | some p =>
        simp only [hu, Option.map_some, Option.some.injEq, Prod.mk.injEq] at h
        obtain ⟨h1, rfl⟩ := h
        obtain ⟨⟨h2, h3⟩, h4, h5, _⟩ := D.upd_writes d o e new p.1 p.2 (by rw [hu]) (h1 ▸ hC) hnf hlf.1
        refine ⟨⟨?_, ?_⟩, by simp only [D.sizeL, h4], by simp only [D.flatL, h5, hlf.2, Bool.and_self]⟩
        · simp only [D.cellsL, h2, spl]
          have e1 : new.cells.length = new.size := D.length_cells new
          rw [List.take_append_of_le_length (by omega), List.drop_append_of_le_length (by omega)]
          simp [List.append_assoc]
        · simp only [D.cellsL, List.length_append]; omega
    · have hge : d.size ≤ o := by
        simp only [Nat.blt_eq] at hb
        omega
      cases hu : D.updL r (o - d.size) e new with
      | none => simp [hu] at h
      | some p =>
        simp only [hu, Option.map_some, Option.some.injEq, Prod.mk.injEq] at h
        obtain ⟨h1, rfl⟩ := h
        obtain ⟨⟨h2, h3⟩, h4, h5⟩ := D.updL_writes r (o - d.size) e new p.1 p.2 (by rw [hu]) (h1 ▸ hC) hnf hlf.2
        have e0 : d.cells.length = d.size := D.length_cells d
        refine ⟨⟨?_, ?_⟩, by simp only [D.sizeL, h4], by simp only [D.flatL, h5, hlf.1, Bool.and_self]⟩
        · simp only [D.cellsL, h2, spl]
          rw [List.take_append, List.drop_append]
          rw [show o + e.getD 0 - d.cells.length = o - d.size + e.getD 0 by omega, show o + e.getD 0 + new.cells.length - d.cells.length = o - d.size + e.getD 0 + new.cells.length by omega]
          rw [List.take_of_length_le (l := d.cells) (by omega), List.drop_eq_nil_of_le (as := d.cells) (by omega)]
          simp [List.append_assoc]
        · simp only [D.cellsL, List.length_append]; omega
end
end Gx
end Go.Proofs.Ytebcapplclgaead
