/- The frame of this seat's proofs, part 1: values of the walk as plain data (numbers, arrays as functions of an index, structs), and what lies in memory; no conditions. The frame of this seat's proofs, part 2: what the walk knows of a frame and of memory, and the rules of a code's shapes; no conditions. The frame of this seat's proofs, part 3: the operations that yield a value and turn nothing that is known; no conditions. The frame of this seat's proofs, part 4: the operations that make or write memory, literals, a function's beginning and end; no conditions. The frame of this seat's proofs, part 5: slices, calls that make or write memory, a function's beginning and end; no conditions. The frame of this seat's proofs, part 6: regions whose order Go leaves open; no conditions. -/
import Derived.WalkKit
import Derived.Deep.Quiet
import Derived.Deep.MidRow
import Derived.Deep.LoopGhost
import Derived.Deep.AppendLies
namespace Go.Proofs.Ytjihhcjpbcmjaaa
open Go
namespace Gx

/-- A value as the walk knows it. 'arr k n f': an array of n whole numbers, arrays in arrays laid flat. 'u8', 'arr8': bytes. 'ptr b o e': block b, offset o (of a field) and e (of an element, if one was chosen). -/
inductive D where
  | int (k : IntKind) (n : Int)
  | u8 (x : Fin 256)
  | bool (b : Bool)
  | arr (k : IntKind) (n : Nat) (f : Nat → Int)
  | arr8 (n : Nat) (f : Nat → Fin 256)
  | barr (n : Nat) (f : Nat → Bool)
  | varr (n : Nat) (f : Nat → Value) (h : ∀ i, (f i).oneCell' = true)
  | ptr (b o : Nat) (e : Option Nat)
  | sl (b off len cap : Nat)
  | raw (v : Value) (h : v.oneCell' = true)
  | agg (fs : List D)
  | tup (vs : List D)

mutual
def D.cells : D → List Value
  | .int k n => [.int k n]
  | .u8 x => [.int .u8 (x.val : Int)]
  | .bool b => [.bool b]
  | .arr k n f => (List.range n).map fun i => .int k (f i)
  | .arr8 n f => (List.range n).map fun i => .int .u8 ((f i).val : Int)
  | .barr n f => (List.range n).map fun i => .bool (f i)
  | .varr n f _ => (List.range n).map f
  | .ptr b o e => [.pointer (some ⟨b, o + e.getD 0, none⟩)]
  | .sl b off len cap => [.slice (some ⟨b, off, none⟩) len cap]
  | .raw v _ => [v]
  | .agg fs => D.cellsL fs
  | .tup _ => []
def D.cellsL : List D → List Value
  | [] => []
  | d :: r => d.cells ++ D.cellsL r
end

mutual
def D.size : D → Nat
  | .arr _ n _ => n
  | .arr8 n _ => n
  | .u8 _ => 1
  | .barr n _ => n
  | .varr n _ _ => n
  | .agg fs => D.sizeL fs
  | .tup _ => 0
  | .int _ _ => 1
  | .bool _ => 1
  | .ptr _ _ _ => 1
  | .sl _ _ _ _ => 1
  | .raw _ _ => 1
def D.sizeL : List D → Nat
  | [] => 0
  | d :: r => d.size + D.sizeL r
end

mutual
def D.flat : D → Bool
  | .agg fs => D.flatL fs
  | .tup _ => false
  | .arr _ _ _ => true
  | .arr8 _ _ => true
  | .barr _ _ => true
  | .varr _ _ _ => true
  | .int _ _ => true
  | .u8 _ => true
  | .bool _ => true
  | .ptr _ _ _ => true
  | .sl _ _ _ _ => true
  | .raw _ _ => true
def D.flatL : List D → Bool
  | [] => true
  | d :: r => d.flat && D.flatL r
end

def D.isAgg : D → Bool
  | .arr _ _ _ => true
  | .arr8 _ _ => true
  | .barr _ _ => true
  | .varr _ _ _ => true
  | .agg _ => true
  | _ => false

mutual
def D.val : D → Value
  | .int k n => .int k n
  | .u8 x => .int .u8 (x.val : Int)
  | .bool b => .bool b
  | .arr k n f => .agg ((List.range n).map fun i => Value.int k (f i)).toArray
  | .arr8 n f => .agg ((List.range n).map fun i => Value.int .u8 ((f i).val : Int)).toArray
  | .barr n f => .agg ((List.range n).map fun i => Value.bool (f i)).toArray
  | .varr n f _ => .agg ((List.range n).map f).toArray
  | .ptr b o e => .pointer (some ⟨b, o + e.getD 0, none⟩)
  | .sl b off len cap => .slice (some ⟨b, off, none⟩) len cap
  | .raw v _ => v
  | .agg fs => .agg (D.cellsL fs).toArray
  | .tup vs => .tuple (D.valL vs).toArray
def D.valL : List D → List Value
  | [] => []
  | d :: r => d.val :: D.valL r
end

mutual
theorem D.length_cells : ∀ d : D, d.cells.length = d.size
  | .arr _ _ _ => by simp [D.cells, D.size]
  | .arr8 _ _ => by simp [D.cells, D.size]
  | .barr _ _ => by simp [D.cells, D.size]
  | .varr _ _ _ => by simp [D.cells, D.size]
  | .agg fs => by simp only [D.cells, D.size]; exact D.length_cellsL fs
  | .tup _ => by simp [D.cells, D.size]
  | .int _ _ => by simp [D.cells, D.size]
  | .u8 _ => by simp [D.cells, D.size]
  | .bool _ => by simp [D.cells, D.size]
  | .ptr _ _ _ => by simp [D.cells, D.size]
  | .sl _ _ _ _ => by simp [D.cells, D.size]
  | .raw _ _ => by simp [D.cells, D.size]
theorem D.length_cellsL : ∀ l : List D, (D.cellsL l).length = D.sizeL l
  | [] => by simp [D.cellsL, D.sizeL]
  | d :: r => by simp only [D.cellsL, D.sizeL, List.length_append, D.length_cells d, D.length_cellsL r]
end

mutual
theorem D.oneCell : ∀ d : D, ∀ v ∈ d.cells, v.oneCell' = true
  | .arr _ _ _ => by simp [D.cells]; intro a _; rfl
  | .arr8 _ _ => by simp [D.cells]; intro a _; rfl
  | .barr _ _ => by simp [D.cells]; intro a _; rfl
  | .varr _ f h => by simp [D.cells]; intro i _; exact h i
  | .agg fs => by simp only [D.cells]; exact D.oneCellL fs
  | .tup _ => by simp [D.cells]
  | .int _ _ => by simp [D.cells]; rfl
  | .u8 _ => by simp [D.cells]; rfl
  | .bool _ => by simp [D.cells]; rfl
  | .ptr _ _ _ => by simp [D.cells]; rfl
  | .sl _ _ _ _ => by simp [D.cells]; rfl
  | .raw _ h => by simp [D.cells]; exact h
theorem D.oneCellL : ∀ l : List D, ∀ v ∈ D.cellsL l, v.oneCell' = true
  | [] => by simp [D.cellsL]
  | d :: r => by
    simp only [D.cellsL, List.mem_append]
    rintro v (h | h)
    · exact D.oneCell d v h
    · exact D.oneCellL r v h
end

/-- A value's own cells. -/
theorem D.val_cells : ∀ d : D, d.flat = true → d.val.cells = d.cells.toArray
  | .arr _ _ _, _ => by simp [D.val, D.cells, Value.cells]
  | .arr8 _ _, _ => by simp [D.val, D.cells, Value.cells]
  | .barr _ _, _ => by simp [D.val, D.cells, Value.cells]
  | .varr _ _ _, _ => by simp [D.val, D.cells, Value.cells]
  | .agg fs, _ => by simp [D.val, D.cells, Value.cells]
  | .tup _, h => by simp [D.flat] at h
  | .int _ _, _ => by simp [D.val, D.cells, Value.cells]
  | .u8 _, _ => by simp [D.val, D.cells, Value.cells]
  | .bool _, _ => by simp [D.val, D.cells, Value.cells]
  | .ptr _ _ _, _ => by simp [D.val, D.cells, Value.cells]
  | .sl _ _ _ _, _ => by simp [D.val, D.cells, Value.cells]
  | .raw v h, _ => by cases v <;> first | rfl | (cases h; done)

theorem D.val_agg : ∀ d : D, d.isAgg = true → d.val = .agg d.cells.toArray
  | .arr _ _ _, _ => by simp [D.val, D.cells]
  | .arr8 _ _, _ => by simp [D.val, D.cells]
  | .barr _ _, _ => by simp [D.val, D.cells]
  | .varr _ _ _, _ => by simp [D.val, D.cells]
  | .agg fs, _ => by simp [D.val, D.cells]

theorem D.val_one : ∀ d : D, d.isAgg = false → d.flat = true → d.cells = [d.val] ∧ d.val.oneCell' = true
  | .tup _, _, h => by simp [D.flat] at h
  | .int _ _, _, _ => by simp [D.val, D.cells]; rfl
  | .u8 _, _, _ => by simp [D.val, D.cells]; rfl
  | .bool _, _, _ => by simp [D.val, D.cells]; rfl
  | .ptr _ _ _, _, _ => by simp [D.val, D.cells]; rfl
  | .sl _ _ _ _, _, _ => by simp [D.val, D.cells]; rfl
  | .raw v h, _, _ => by simp [D.val, D.cells]; exact h

/-! ### A part of a value, at an offset -/
mutual
def D.sub : D → (o : Nat) → (e : Option Nat) → (sz : Nat) → (ag : Bool) → Option (Prop × D)
  | d, o, e, sz, ag =>
    if (Nat.beq o 0 && Nat.beq d.size sz && (d.isAgg == ag) && d.flat && e.isNone) = true then some (True, d) else
    match d with
    | .agg fs => D.subL fs o e sz ag
    | .arr k n f => if Nat.beq o 0 = true then (match e with
        | some e => if ag = true then some (e + sz ≤ n, .arr k sz (fun j => f (e + j))) else if Nat.beq sz 1 = true then some (e < n, .int k (f e)) else none
        | none => none) else none
    | .arr8 n f => if Nat.beq o 0 = true then (match e with
        | some e => if ag = true then some (e + sz ≤ n, .arr8 sz (fun j => f (e + j))) else if Nat.beq sz 1 = true then some (e < n, .u8 (f e)) else none
        | none => none) else none
    | .barr n f => if Nat.beq o 0 = true then (match e with
        | some e => if ag = true then some (e + sz ≤ n, .barr sz (fun j => f (e + j))) else if Nat.beq sz 1 = true then some (e < n, .bool (f e)) else none
        | none => none) else none
    | .varr n f h => if Nat.beq o 0 = true then (match e with
        | some e => if ag = true then some (e + sz ≤ n, .varr sz (fun j => f (e + j)) (fun j => h (e + j))) else if Nat.beq sz 1 = true then some (e < n, .raw (f e) (h e)) else none
        | none => none) else none
    | _ => none
def D.subL : List D → (o : Nat) → (e : Option Nat) → (sz : Nat) → (ag : Bool) → Option (Prop × D)
  | [], _, _, _, _ => none
  | d :: r, o, e, sz, ag => if Nat.blt o d.size = true then d.sub o e sz ag else D.subL r (o - d.size) e sz ag
end

/-- What 'sub' gives is what lies there. -/
def Lies (cs : List Value) (at_ : Nat) (d : D) (sz : Nat) (ag : Bool) : Prop :=
  (∀ j, j < sz → cs[at_ + j]? = d.cells[j]?) ∧ d.size = sz ∧ d.isAgg = ag ∧ d.flat = true

theorem map_range_lies {α : Type} (n e sz : Nat) (g : Nat → α) (h : e + sz ≤ n) (j : Nat) (hj : j < sz) :
    ((List.range n).map g)[e + j]? = ((List.range sz).map fun i => g (e + i))[j]? := by
  simp [List.getElem?_map, List.getElem?_range (show e + j < n by omega), List.getElem?_range hj]

mutual
theorem D.sub_lies : ∀ (d : D) (o : Nat) (e : Option Nat) (sz : Nat) (ag : Bool) (C : Prop) (d' : D), d.sub o e sz ag = some (C, d') → C → Lies d.cells (o + e.getD 0) d' sz ag
  | d, o, e, sz, ag, C, d', h, hC => by
    unfold D.sub at h
    split at h
    · rename_i hc
      simp only [Bool.and_eq_true, beq_iff_eq, Nat.beq_eq] at hc
      obtain ⟨⟨⟨⟨ho, hs⟩, ha⟩, hf⟩, he⟩ := hc
      simp only [Option.some.injEq, Prod.mk.injEq] at h
      obtain ⟨rfl, rfl⟩ := h
      cases e with
      | some e => cases he
      | none =>
        subst ho
        exact ⟨fun j _ => by simp, hs, ha, hf⟩
    · split at h
      · rename_i fs _
        simp only [D.cells]
        exact D.subL_lies fs o e sz ag C d' h hC
      · rename_i k n f _
        split at h <;> rename_i ho
        · simp only [Nat.beq_eq] at ho; subst ho
          split at h
          · rename_i e _
            split at h <;> rename_i hag
            · subst hag
              simp only [Option.some.injEq, Prod.mk.injEq] at h
              obtain ⟨rfl, rfl⟩ := h
              exact ⟨fun j hj => by simp only [D.cells, Nat.zero_add, Option.getD_some]; exact map_range_lies n e sz (fun i => Value.int k (f i)) hC j hj, rfl, rfl, rfl⟩
            · split at h <;> rename_i hsz
              · simp only [Nat.beq_eq] at hsz; subst hsz
                simp only [Option.some.injEq, Prod.mk.injEq] at h
                obtain ⟨rfl, rfl⟩ := h
                refine ⟨fun j hj => ?_, rfl, by simpa [D.isAgg] using hag, rfl⟩
                obtain rfl : j = 0 := by omega
                simp [D.cells, List.getElem?_range hC]
              · cases h
          · cases h
        · cases h
      · rename_i n f _
        split at h <;> rename_i ho
        · simp only [Nat.beq_eq] at ho; subst ho
          split at h
          · rename_i e _
            split at h <;> rename_i hag
            · subst hag
              simp only [Option.some.injEq, Prod.mk.injEq] at h
              obtain ⟨rfl, rfl⟩ := h
              exact ⟨fun j hj => by simp only [D.cells, Nat.zero_add, Option.getD_some]; exact map_range_lies n e sz (fun i => Value.int .u8 ((f i).val : Int)) hC j hj, rfl, rfl, rfl⟩
            · split at h <;> rename_i hsz
              · simp only [Nat.beq_eq] at hsz; subst hsz
                simp only [Option.some.injEq, Prod.mk.injEq] at h
                obtain ⟨rfl, rfl⟩ := h
                refine ⟨fun j hj => ?_, rfl, by simpa [D.isAgg] using hag, rfl⟩
                obtain rfl : j = 0 := by omega
                simp [D.cells, List.getElem?_range hC]
              · cases h
          · cases h
        · cases h
      · rename_i n f _
        split at h <;> rename_i ho
        · simp only [Nat.beq_eq] at ho; subst ho
          split at h
          · rename_i e _
            split at h <;> rename_i hag
            · subst hag
              simp only [Option.some.injEq, Prod.mk.injEq] at h
              obtain ⟨rfl, rfl⟩ := h
              exact ⟨fun j hj => by simp only [D.cells, Nat.zero_add, Option.getD_some]; exact map_range_lies n e sz (fun i => Value.bool (f i)) hC j hj, rfl, rfl, rfl⟩
            · split at h <;> rename_i hsz
              · simp only [Nat.beq_eq] at hsz; subst hsz
                simp only [Option.some.injEq, Prod.mk.injEq] at h
                obtain ⟨rfl, rfl⟩ := h
                refine ⟨fun j hj => ?_, rfl, by simpa [D.isAgg] using hag, rfl⟩
                obtain rfl : j = 0 := by omega
                simp [D.cells, List.getElem?_range hC]
              · cases h
          · cases h
        · cases h
      · rename_i n f hf _
        split at h <;> rename_i ho
        · simp only [Nat.beq_eq] at ho; subst ho
          split at h
          · rename_i e _
            split at h <;> rename_i hag
            · subst hag
              simp only [Option.some.injEq, Prod.mk.injEq] at h
              obtain ⟨rfl, rfl⟩ := h
              exact ⟨fun j hj => by simp only [D.cells, Nat.zero_add, Option.getD_some]; exact map_range_lies n e sz (f) hC j hj, rfl, rfl, rfl⟩
            · split at h <;> rename_i hsz
              · simp only [Nat.beq_eq] at hsz; subst hsz
                simp only [Option.some.injEq, Prod.mk.injEq] at h
                obtain ⟨rfl, rfl⟩ := h
                refine ⟨fun j hj => ?_, rfl, by simpa [D.isAgg] using hag, rfl⟩
                obtain rfl : j = 0 := by omega
                simp [D.cells, List.getElem?_range hC]
              · cases h
          · cases h
        · cases h
      · cases h
theorem D.subL_lies : ∀ (l : List D) (o : Nat) (e : Option Nat) (sz : Nat) (ag : Bool) (C : Prop) (d' : D), D.subL l o e sz ag = some (C, d') → C → Lies (D.cellsL l) (o + e.getD 0) d' sz ag
  | [], _, _, _, _, _, _, h, _ => by simp [D.subL] at h
  | d :: r, o, e, sz, ag, C, d', h, hC => by
    unfold D.subL at h
    split at h <;> rename_i hb
    · obtain ⟨h1, h2, h3, h4⟩ := D.sub_lies d o e sz ag C d' h hC
      refine ⟨fun j hj => ?_, h2, h3, h4⟩
      have hx := h1 j hj
      have hj' : j < d'.cells.length := by rw [D.length_cells, h2]; exact hj
      have hlt : o + e.getD 0 + j < d.cells.length := by
        rw [List.getElem?_eq_getElem hj'] at hx
        exact (List.getElem?_eq_some_iff.1 hx).1
      simp only [D.cellsL]
      rw [List.getElem?_append_left hlt]
      exact hx
    · have hge : d.size ≤ o := by
        simp only [Nat.blt_eq] at hb
        omega
      obtain ⟨h1, h2, h3, h4⟩ := D.subL_lies r (o - d.size) e sz ag C d' h hC
      refine ⟨fun j hj => ?_, h2, h3, h4⟩
      have hx := h1 j hj
      simp only [D.cellsL]
      rw [List.getElem?_append_right (by rw [D.length_cells]; omega), D.length_cells]
      rw [show o + e.getD 0 + j - d.size = o - d.size + e.getD 0 + j by omega]
      exact hx
end

/-! ### A part of a value, written -/
mutual
def D.upd : D → (o : Nat) → (e : Option Nat) → (new : D) → Option (Prop × D)
  | d, o, e, new =>
    if (Nat.beq o 0 && Nat.beq d.size new.size && (d.isAgg == new.isAgg) && new.flat && e.isNone) = true then some (True, new) else
    match d with
    | .agg fs => (D.updL fs o e new).map fun p => (p.1, .agg p.2)
    | .arr k n f => if Nat.beq o 0 = true then (match e with
      | some e => (match new with
        | .int k' v => if k' = k then some (e < n, .arr k n (fun j => if j = e then v else f j)) else none
        | .arr k' m g => if k' = k then some (e + m ≤ n, .arr k n (fun j => if e ≤ j ∧ j < e + m then g (j - e) else f j)) else none
        | _ => none)
      | none => none) else none
    | .arr8 n f => if Nat.beq o 0 = true then (match e with
      | some e => (match new with
        | .u8 v => some (e < n, .arr8 n (fun j => if j = e then v else f j))
        | .int k' v => if k' = .u8 then some (e < n ∧ 0 ≤ v ∧ v < 256, .arr8 n (fun j => if j = e then Fin.ofNat 256 v.toNat else f j)) else none
        | .arr8 m g => some (e + m ≤ n, .arr8 n (fun j => if e ≤ j ∧ j < e + m then g (j - e) else f j))
        | _ => none)
      | none => none) else none
    | .barr n f => if Nat.beq o 0 = true then (match e with
      | some e => (match new with
        | .bool v => some (e < n, .barr n (fun j => if j = e then v else f j))
        | .barr m g => some (e + m ≤ n, .barr n (fun j => if e ≤ j ∧ j < e + m then g (j - e) else f j))
        | _ => none)
      | none => none) else none
    | .varr n f h => if Nat.beq o 0 = true then (match e with
      | some e => (match new with
        | .raw v hv => some (e < n, .varr n (fun j => if j = e then v else f j) (fun j => by split <;> simp_all))
        | .sl b off len cap => some (e < n, .varr n (fun j => if j = e then .slice (some ⟨b, off, none⟩) len cap else f j) (fun j => by split; rfl; exact h j))
        | _ => none)
      | none => none) else none
    | _ => none
def D.updL : List D → (o : Nat) → (e : Option Nat) → (new : D) → Option (Prop × List D)
  | [], _, _, _ => none
  | d :: r, o, e, new => if Nat.blt o d.size = true then (d.upd o e new).map fun p => (p.1, p.2 :: r) else (D.updL r (o - d.size) e new).map fun p => (p.1, d :: p.2)
end

/-- The cells behind a write. -/
def spl (cs : List Value) (at_ : Nat) (new : List Value) : List Value := cs.take at_ ++ new ++ cs.drop (at_ + new.length)

theorem spl_getElem? (cs : List Value) (a : Nat) (new : List Value) (h : a + new.length ≤ cs.length) (j : Nat) :
    (spl cs a new)[j]? = if a ≤ j ∧ j < a + new.length then new[j - a]? else cs[j]? := by
  unfold spl
  rw [List.append_assoc, List.getElem?_append, List.length_take, Nat.min_eq_left (by omega)]
  split
  · rename_i h1
    rw [if_neg (by omega), List.getElem?_take, if_pos h1]
  · rename_i h1
    rw [List.getElem?_append]
    split
    · rename_i h2
      rw [if_pos ⟨by omega, by omega⟩]
    · rename_i h2
      rw [if_neg (by omega), List.getElem?_drop]
      congr 1
      omega

/-- What 'upd' gives: the same value but for the part. -/
def Writes (cs : List Value) (at_ : Nat) (new : D) (cs' : List Value) : Prop := cs' = spl cs at_ new.cells ∧ at_ + new.size ≤ cs.length

theorem map_range_spl {α : Type} (mk : α → Value) (n e m : Nat) (f g : Nat → α) (h : e + m ≤ n) :
    ((List.range n).map fun j => mk (if e ≤ j ∧ j < e + m then g (j - e) else f j)) = spl ((List.range n).map fun j => mk (f j)) e ((List.range m).map fun j => mk (g j)) := by
  apply List.ext_getElem?
  intro j
  rw [spl_getElem? _ _ _ (by simpa using h)]
  simp only [List.length_map, List.length_range]
  by_cases hj : j < n
  · by_cases h1 : e ≤ j ∧ j < e + m
    · simp [h1, List.getElem?_range hj, List.getElem?_range (show j - e < m by omega)]
    · simp [h1, List.getElem?_range hj]
  · have h1 : ¬ (e ≤ j ∧ j < e + m) := by omega
    simp [h1, List.getElem?_eq_none (show (List.range n).length ≤ j by simpa using hj)]

theorem map_range_spl1 {α : Type} (mk : α → Value) (n e : Nat) (f : Nat → α) (v : α) (h : e < n) :
    ((List.range n).map fun j => mk (if j = e then v else f j)) = spl ((List.range n).map fun j => mk (f j)) e [mk v] := by
  have := map_range_spl mk n e 1 f (fun _ => v) (by omega)
  simp only [List.range_one, List.map_cons, List.map_nil] at this
  rw [← this]
  apply List.map_congr_left
  intro j _
  congr 1
  by_cases hj : j = e
  · simp [hj]
  · rw [if_neg hj, if_neg (by omega)]

mutual
theorem D.upd_writes : ∀ (d : D) (o : Nat) (e : Option Nat) (new : D) (C : Prop) (d' : D), d.upd o e new = some (C, d') → C → new.flat = true → d.flat = true →
    Writes d.cells (o + e.getD 0) new d'.cells ∧ d'.size = d.size ∧ d'.flat = true ∧ d'.isAgg = d.isAgg
  | d, o, e, new, C, d', h, hC, hnf, hdf => by
    unfold D.upd at h
    split at h
    · rename_i hc
      simp only [Bool.and_eq_true, beq_iff_eq, Nat.beq_eq] at hc
      obtain ⟨⟨⟨⟨ho, hs⟩, ha⟩, hf⟩, he⟩ := hc
      simp only [Option.some.injEq, Prod.mk.injEq] at h
      obtain ⟨rfl, rfl⟩ := h
      cases e with
      | some e => cases he
      | none =>
        subst ho
        refine ⟨⟨?_, ?_⟩, hs.symm, hf, ha.symm⟩
        · have e1 : new.cells.length = d.cells.length := by rw [D.length_cells, D.length_cells, hs]
          simp [spl, e1]
        · rw [D.length_cells]; simp only [Option.getD_none]; omega
    · split at h
      · rename_i fs _
        cases hu : D.updL fs o e new with
        | none => simp [hu] at h
        | some p =>
          simp only [hu, Option.map_some, Option.some.injEq, Prod.mk.injEq] at h
          obtain ⟨h1, rfl⟩ := h
          have := D.updL_writes fs o e new p.1 p.2 (by rw [hu]) (h1 ▸ hC) hnf (by simpa [D.flat] using hdf)
          simp only [D.cells, D.size, D.flat, D.isAgg]
          exact ⟨this.1, this.2.1, this.2.2, trivial⟩
      · rename_i k n f _
        split at h <;> rename_i ho
        · simp only [Nat.beq_eq] at ho; subst ho
          split at h
          · rename_i e _
            split at h
            · rename_i k' v _
              split at h <;> rename_i hk
              · subst hk
                simp only [Option.some.injEq, Prod.mk.injEq] at h
                obtain ⟨rfl, rfl⟩ := h
                refine ⟨⟨?_, ?_⟩, rfl, rfl, rfl⟩
                · simp only [D.cells, Nat.zero_add, Option.getD_some]; exact map_range_spl1 (Value.int k') n e f v hC
                · simp only [D.cells, List.length_map, List.length_range, D.size, Nat.zero_add, Option.getD_some]; omega
              · cases h
            · rename_i k' m g _
              split at h <;> rename_i hk
              · subst hk
                simp only [Option.some.injEq, Prod.mk.injEq] at h
                obtain ⟨rfl, rfl⟩ := h
                refine ⟨⟨?_, ?_⟩, rfl, rfl, rfl⟩
                · simp only [D.cells, Nat.zero_add, Option.getD_some]; exact map_range_spl (Value.int k') n e m f g hC
                · simp only [D.cells, List.length_map, List.length_range, D.size, Nat.zero_add, Option.getD_some]; omega
              · cases h
            · cases h
          · cases h
        · cases h
      · rename_i n f _
        split at h <;> rename_i ho
        · simp only [Nat.beq_eq] at ho; subst ho
          split at h
          · rename_i e _
            split at h
            · rename_i v _
              simp only [Option.some.injEq, Prod.mk.injEq] at h
              obtain ⟨rfl, rfl⟩ := h
              refine ⟨⟨?_, ?_⟩, rfl, rfl, rfl⟩
              · simp only [D.cells, Nat.zero_add, Option.getD_some]; exact map_range_spl1 (fun x : Fin 256 => Value.int .u8 (x.val : Int)) n e f v hC
              · simp only [D.cells, List.length_map, List.length_range, D.size, Nat.zero_add, Option.getD_some]; omega
            · rename_i k' v _
              split at h <;> rename_i hk
              · subst hk
                simp only [Option.some.injEq, Prod.mk.injEq] at h
                obtain ⟨rfl, rfl⟩ := h
                refine ⟨⟨?_, ?_⟩, rfl, rfl, rfl⟩
                · simp only [D.cells, Nat.zero_add, Option.getD_some]
                  rw [map_range_spl1 (fun x : Fin 256 => Value.int .u8 (x.val : Int)) n e f _ hC.1]
                  have e2 : ((Fin.ofNat 256 v.toNat).val : Int) = v := by
                    rw [Fin.val_ofNat]; omega
                  rw [e2]
                · have := hC.1
                  simp only [D.cells, List.length_map, List.length_range, D.size, Nat.zero_add, Option.getD_some]; omega
              · cases h
            · rename_i m g _
              simp only [Option.some.injEq, Prod.mk.injEq] at h
              obtain ⟨rfl, rfl⟩ := h
              refine ⟨⟨?_, ?_⟩, rfl, rfl, rfl⟩
              · simp only [D.cells, Nat.zero_add, Option.getD_some]; exact map_range_spl (fun x : Fin 256 => Value.int .u8 (x.val : Int)) n e m f g hC
              · simp only [D.cells, List.length_map, List.length_range, D.size, Nat.zero_add, Option.getD_some]; omega
            · cases h
          · cases h
        · cases h
      · rename_i n f _
        split at h <;> rename_i ho
        · simp only [Nat.beq_eq] at ho; subst ho
          split at h
          · rename_i e _
            split at h
            · rename_i v _
              simp only [Option.some.injEq, Prod.mk.injEq] at h
              obtain ⟨rfl, rfl⟩ := h
              refine ⟨⟨?_, ?_⟩, rfl, rfl, rfl⟩
              · simp only [D.cells, Nat.zero_add, Option.getD_some]; exact map_range_spl1 Value.bool n e f v hC
              · simp only [D.cells, List.length_map, List.length_range, D.size, Nat.zero_add, Option.getD_some]; omega
            · rename_i m g _
              simp only [Option.some.injEq, Prod.mk.injEq] at h
              obtain ⟨rfl, rfl⟩ := h
              refine ⟨⟨?_, ?_⟩, rfl, rfl, rfl⟩
              · simp only [D.cells, Nat.zero_add, Option.getD_some]; exact map_range_spl Value.bool n e m f g hC
              · simp only [D.cells, List.length_map, List.length_range, D.size, Nat.zero_add, Option.getD_some]; omega
            · cases h
          · cases h
        · cases h
      · rename_i n f hf _
        split at h <;> rename_i ho
        · simp only [Nat.beq_eq] at ho; subst ho
          split at h
          · rename_i e _
            split at h
            · rename_i v hv _
              simp only [Option.some.injEq, Prod.mk.injEq] at h
              obtain ⟨rfl, rfl⟩ := h
              refine ⟨⟨?_, ?_⟩, rfl, rfl, rfl⟩
              · simp only [D.cells, Nat.zero_add, Option.getD_some]; exact map_range_spl1 id n e f v hC
              · simp only [D.cells, List.length_map, List.length_range, D.size, Nat.zero_add, Option.getD_some]; omega
            · rename_i b off len cap _
              simp only [Option.some.injEq, Prod.mk.injEq] at h
              obtain ⟨rfl, rfl⟩ := h
              refine ⟨⟨?_, ?_⟩, rfl, rfl, rfl⟩
              · simp only [D.cells, Nat.zero_add, Option.getD_some]; exact map_range_spl1 id n e f _ hC
              · simp only [D.cells, List.length_map, List.length_range, D.size, Nat.zero_add, Option.getD_some]; omega
            · cases h
          · cases h
        · cases h
      · cases h
theorem D.updL_writes : ∀ (l : List D) (o : Nat) (e : Option Nat) (new : D) (C : Prop) (l' : List D), D.updL l o e new = some (C, l') → C → new.flat = true → D.flatL l = true →
    Writes (D.cellsL l) (o + e.getD 0) new (D.cellsL l') ∧ D.sizeL l' = D.sizeL l ∧ D.flatL l' = true
  | [], _, _, _, _, _, h, _, _, _ => by simp [D.updL] at h
  | d :: r, o, e, new, C, l', h, hC, hnf, hlf => by
    simp only [D.flatL, Bool.and_eq_true] at hlf
    unfold D.updL at h
    split at h <;> rename_i hb
    · cases hu : d.upd o e new with
      | none => simp [hu] at h
      | some p =>
        simp only [hu, Option.map_some, Option.some.injEq, Prod.mk.injEq] at h
        obtain ⟨h1, rfl⟩ := h
        obtain ⟨⟨h2, h3⟩, h4, h5, _⟩ := D.upd_writes d o e new p.1 p.2 (by rw [hu]) (h1 ▸ hC) hnf hlf.1
        refine ⟨⟨?_, ?_⟩, by simp only [D.sizeL, h4], by simp only [D.flatL, h5, hlf.2, Bool.and_self]⟩
        · simp only [D.cellsL, h2, spl]
          have e1 : new.cells.length = new.size := D.length_cells new
          rw [List.take_append_of_le_length (by omega), List.drop_append_of_le_length (by omega)]
          simp [List.append_assoc]
        · simp only [D.cellsL, List.length_append]; omega
    · have hge : d.size ≤ o := by
        simp only [Nat.blt_eq] at hb
        omega
      cases hu : D.updL r (o - d.size) e new with
      | none => simp [hu] at h
      | some p =>
        simp only [hu, Option.map_some, Option.some.injEq, Prod.mk.injEq] at h
        obtain ⟨h1, rfl⟩ := h
        obtain ⟨⟨h2, h3⟩, h4, h5⟩ := D.updL_writes r (o - d.size) e new p.1 p.2 (by rw [hu]) (h1 ▸ hC) hnf hlf.2
        have e0 : d.cells.length = d.size := D.length_cells d
        refine ⟨⟨?_, ?_⟩, by simp only [D.sizeL, h4], by simp only [D.flatL, h5, hlf.1, Bool.and_self]⟩
        · simp only [D.cellsL, h2, spl]
          rw [List.take_append, List.drop_append]
          rw [show o + e.getD 0 - d.cells.length = o - d.size + e.getD 0 by omega, show o + e.getD 0 + new.cells.length - d.cells.length = o - d.size + e.getD 0 + new.cells.length by omega]
          rw [List.take_of_length_le (l := d.cells) (by omega), List.drop_eq_nil_of_le (as := d.cells) (by omega)]
          simp [List.append_assoc]
        · simp only [D.cellsL, List.length_append]; omega
end
end Gx
end Go.Proofs.Ytjihhcjpbcmjaaa
namespace Go.Proofs.Ytjihhcjpbcmjaaa
open Go
namespace Gx
open Go.RowKit (Below)

/-! ### The types' table -/
inductive TD where
  | int (k : IntKind)
  | bool
  | str
  | arr (len elem : Nat)
  | struct (offs : List Nat) (types : List Nat)
  | slice (elem : Nat)
  | ptr (elem : Nat)
  | other
structure TI where
  td : TD
  size : Nat
  bytes : Nat
  zero : D

def TD.ag : TD → Bool
  | .arr _ _ => true
  | .struct _ _ => true
  | _ => false

def TD.met : TD → TypeDesc → Prop
  | .int k, d => d = .int k
  | .bool, d => d = .bool
  | .str, d => d = .string
  | .arr n e, d => d = .array n e
  | .struct os ts, d => ∃ fs, d = .struct fs ∧ fs.toList.map (·.offset) = os ∧ fs.toList.map (·.type) = ts
  | .slice e, d => d = .slice e
  | .ptr e, d => d = .pointer e
  | .other, d => d.isRow = false

theorem TD.met_row {td : TD} {d : TypeDesc} (h : td.met d) : d.isRow = td.ag := by
  cases td <;> simp only [TD.met] at h
  case struct => obtain ⟨fs, rfl, _⟩ := h; rfl
  case other => simpa [TD.ag] using h
  all_goals (subst h; rfl)

def TI.met (P : Program) (t : TypeId) (i : TI) : Prop :=
  (∃ d, P.underlying t = some d ∧ i.td.met d) ∧ (P.info? t).map (fun x => (x.size, x.bytes, x.zero)) = some (i.size, i.bytes, some i.zero.val) ∧ i.zero.flat = true ∧ i.zero.size = i.size ∧ i.zero.isAgg = i.td.ag

/-- The walk's surroundings: the program, its types, the frame's slots, the world at the call, the blocks that the call may write. -/
structure Env where
  P : Program
  tt : Nat → Option TI
  tok : ∀ t i, tt t = some i → i.met P t
  n : Nat
  w0 : World
  B0 : List Nat

/-! ### Memory -/
inductive Rw where
  | ints (k : IntKind) (l : List Int)
  | u8s (l : List (Fin 256))
  | arrs (m : Nat) (l : List (Nat → Fin 256))
  | arri (k : IntKind) (m : Nat) (l : List (Nat → Int))
  | vals (l : List Value) (h : ∀ v ∈ l, v.oneCell' = true)
  | levs (l : List (Int × (Nat → Bool) × (Nat → Fin 256)))

/-- A level of a chain: its point, whom it reaches, by what. -/
def levD (q : Int × (Nat → Bool) × (Nat → Fin 256)) : D := .agg [.int .i64 q.1, .barr 10 q.2.1, .arr8 100 q.2.2]
theorem levD_len (q : Int × (Nat → Bool) × (Nat → Fin 256)) : (levD q).cells.length = 111 := by simp [levD, D.cells, D.cellsL]
theorem levD_one (q : Int × (Nat → Bool) × (Nat → Fin 256)) : ∀ v ∈ (levD q).cells, v.oneCell' = true := by
  intro v hv
  simp only [levD, D.cells, D.cellsL, List.mem_append, List.mem_cons, List.mem_map, List.not_mem_nil, or_false] at hv
  rcases hv with rfl | ⟨_, _, rfl⟩ | ⟨_, _, rfl⟩ <;> rfl
def Rw.cells : Rw → List Value
  | .ints k l => l.map (.int k)
  | .u8s l => l.map fun x => .int .u8 (x.val : Int)
  | .arrs m l => l.flatMap fun f => (List.range m).map fun i => Value.int .u8 ((f i).val : Int)
  | .arri k m l => l.flatMap fun f => (List.range m).map fun i => Value.int k (f i)
  | .vals l _ => l
  | .levs l => l.flatMap fun q => (levD q).cells
def Rw.size : Rw → Nat
  | .arrs m _ => m
  | .arri _ m _ => m
  | .levs _ => 111
  | _ => 1
def Rw.len : Rw → Nat
  | .ints _ l => l.length
  | .u8s l => l.length
  | .arrs _ l => l.length
  | .arri _ _ l => l.length
  | .vals l _ => l.length
  | .levs l => l.length

theorem Rw.length_cells (r : Rw) : r.cells.length = r.len * r.size := by
  cases r with
  | ints k l => simp [Rw.cells, Rw.len, Rw.size]
  | u8s l => simp [Rw.cells, Rw.len, Rw.size]
  | arrs m l =>
    simp only [Rw.cells, Rw.len, Rw.size]
    induction l with
    | nil => simp
    | cons f r ih => simp [List.flatMap_cons, ih, Nat.add_mul, Nat.add_comm]
  | arri k m l =>
    simp only [Rw.cells, Rw.len, Rw.size]
    induction l with
    | nil => simp
    | cons f r ih => simp [List.flatMap_cons, ih, Nat.add_mul, Nat.add_comm]
  | vals l h => simp [Rw.cells, Rw.len, Rw.size]
  | levs l =>
    simp only [Rw.cells, Rw.len, Rw.size]
    induction l with
    | nil => simp
    | cons f r ih => rw [List.flatMap_cons, List.length_append, ih, levD_len, List.length_cons]; omega

theorem Rw.oneCell (r : Rw) : ∀ v ∈ r.cells, v.oneCell' = true := by
  cases r with
  | ints k l => simp [Rw.cells]; intro a _; rfl
  | u8s l => simp [Rw.cells]; intro a _; rfl
  | arrs m l => simp [Rw.cells]; intro a f _ i _ h; subst h; rfl
  | arri k m l => simp [Rw.cells]; intro a f _ i _ h; subst h; rfl
  | vals l h => simpa [Rw.cells] using h
  | levs l => intro v hv; obtain ⟨q, _, hq⟩ := List.mem_flatMap.1 (show v ∈ l.flatMap fun q => (levD q).cells from hv); exact levD_one q v hq

/-- What is known of memory: 'var': a block that holds one variable, which may be written; 'rvar': the same, not written; 'row': a slice's array that grew out of this call; 'ro': cells of memory that came in. -/
inductive Ent where
  | var (b : Nat) (d : D)
  | rvar (b : Nat) (d : D)
  | row (b cap E : Nat) (r : Rw)
  | ro (b off : Nat) (r : Rw)
  | any (wk rk : List Nat) (Q : World → Prop) (hs : ∀ w w', Q w → (∀ k, (k ∈ wk ∨ k ∈ rk) → k < w.heap.size → w'.heap[k]? = w.heap[k]?) → Q w') (hl : ∀ w, Q w → ∀ k, (k ∈ wk ∨ k ∈ rk) → k < w.heap.size)

def Ent.wkey : Ent → List Nat
  | .var b _ => [b]
  | .row b _ _ _ => [b]
  | .any wk _ _ _ _ => wk
  | _ => []
def Ent.rkey : Ent → List Nat
  | .rvar b _ => [b]
  | .ro b _ _ => [b]
  | .any _ rk _ _ _ => rk
  | _ => []
def Ent.ok (w : World) : Ent → Prop
  | .var b d => d.flat = true ∧ ∃ ty, w.heap[b]? = some (.cells d.cells.toArray ty (0, 0))
  | .rvar b d => d.flat = true ∧ ∃ ty, w.heap[b]? = some (.cells d.cells.toArray ty (0, 0))
  | .row b cap E r => w.ownsRow 0 E r.size (.slice (some ⟨b, 0, none⟩) r.len cap) r.len r.cells
  | .ro b off r => b < w.heap.size ∧ ∀ j v, r.cells[j]? = some v → w.cell? ⟨b, off + j, none⟩ = some v
  | .any _ _ Q _ _ => Q w

def wkeys : List Ent → List Nat
  | [] => []
  | e :: r => e.wkey ++ wkeys r
def rkeys : List Ent → List Nat
  | [] => []
  | e :: r => e.rkey ++ rkeys r

theorem wkeys_append : ∀ a b : List Ent, wkeys (a ++ b) = wkeys a ++ wkeys b
  | [], _ => rfl
  | e :: r, b => by simp [wkeys, wkeys_append r b]
theorem rkeys_append : ∀ a b : List Ent, rkeys (a ++ b) = rkeys a ++ rkeys b
  | [], _ => rfl
  | e :: r, b => by simp [rkeys, rkeys_append r b]
theorem mem_wkeys {b : Nat} : ∀ {l : List Ent}, b ∈ wkeys l ↔ ∃ e ∈ l, b ∈ e.wkey
  | [] => by simp [wkeys]
  | e :: r => by simp [wkeys, mem_wkeys]
theorem mem_rkeys {b : Nat} : ∀ {l : List Ent}, b ∈ rkeys l ↔ ∃ e ∈ l, b ∈ e.rkey
  | [] => by simp [rkeys]
  | e :: r => by simp [rkeys, mem_rkeys]

structure HpOk (hp : List Ent) (w : World) : Prop where
  all : ∀ e ∈ hp, e.ok w
  nodup : (wkeys hp).Nodup
  apart : ∀ b, b ∈ rkeys hp → b ∉ wkeys hp

/-- Since the call began nothing but its own blocks and those of 'B0' has turned. -/
structure Fr (w0 : World) (B0 : List Nat) (hp : List Ent) (w : World) : Prop where
  os : w.os = w0.os
  tape : w.tape = w0.tape
  output : w.output = w0.output
  size : w0.heap.size ≤ w.heap.size
  block : ∀ k, k < w0.heap.size → k ∉ B0 → w.heap[k]? = w0.heap[k]?
  own : ∀ b, b ∈ wkeys hp → b ∈ B0 ∨ w0.heap.size ≤ b

/-! ### The frame -/
def get : List (Nat × D) → Nat → Option D
  | [], _ => none
  | (k, d) :: r, j => match Nat.beq k j with
    | true => some d
    | false => get r j

structure St where
  tm : List (Nat × D)
  hp : List Ent

def St.put (s : St) (k : Nat) (d : D) : St := ⟨(k, d) :: s.tm, s.hp⟩

def constD : Value → Option D
  | .int .u8 (.ofNat m) => if h : m < 256 then some (.u8 ⟨m, h⟩) else some (.int .u8 (.ofNat m))
  | .int k n => some (.int k n)
  | .bool b => some (.bool b)
  | .string x => some (.raw (.string x) rfl)
  | .pointer p => some (.raw (.pointer p) rfl)
  | .slice a l c => some (.raw (.slice a l c) rfl)
  | .nilFunc => some (.raw .nilFunc rfl)
  | .nilIface => some (.raw .nilIface rfl)
  | .func f a c => some (.raw (.func f a c) rfl)
  | _ => none

def ev (s : St) : Operand → Option D
  | .tmp t => get s.tm t
  | .const v => constD v
  | .func f => some (.raw (.func (.func f) #[] #[]) rfl)
  | .global g => some (.ptr g 0 none)

structure okT (E : Env) (s : St) (a : Act) : Prop where
  size : a.tmps.size = E.n
  defers : a.defers = []
  tm : ∀ k d, get s.tm k = some d → k < E.n ∧ a.tmps[k]? = some d.val
structure ok (E : Env) (s : St) (a : Act) (w : World) : Prop where
  size : a.tmps.size = E.n
  defers : a.defers = []
  tm : ∀ k d, get s.tm k = some d → k < E.n ∧ a.tmps[k]? = some d.val
  hp : HpOk s.hp w
  fr : Fr E.w0 E.B0 s.hp w
theorem ok.t {E : Env} {s : St} {a : Act} {w : World} (h : ok E s a w) : okT E s a := ⟨h.size, h.defers, h.tm⟩

theorem okT.ev {E : Env} {s : St} {a : Act} (h : okT E s a) {x : Operand} {d : D} (hx : ev s x = some d) : a.eval x = d.val := by
  cases x with
  | tmp t =>
    have := (h.tm t d hx).2
    show a.tmps.getD t undef = d.val
    simp [this]
  | const v =>
    simp only [Gx.ev] at hx
    unfold constD at hx
    split at hx
    · split at hx <;> (simp only [Option.some.injEq] at hx; subst hx; rfl)
    all_goals first | (simp only [Option.some.injEq] at hx; subst hx; rfl) | (cases hx; done)
  | global g => simp only [Gx.ev, Option.some.injEq] at hx; subst hx; rfl
  | func f => simp only [Gx.ev, Option.some.injEq] at hx; subst hx; rfl

theorem ok.ev {E : Env} {s : St} {a : Act} {w : World} (h : ok E s a w) {x : Operand} {d : D} (hx : ev s x = some d) : a.eval x = d.val := h.t.ev hx

theorem get_cons (k : Nat) (d : D) (r : List (Nat × D)) (j : Nat) : get ((k, d) :: r) j = if k = j then some d else get r j := by
  show (match Nat.beq k j with | true => some d | false => get r j) = _
  by_cases h : k = j
  · subst h; simp
  · have : Nat.beq k j = false := by
      rw [Bool.eq_false_iff]; intro e; exact h (Nat.eq_of_beq_eq_true e)
    simp [this, h]

theorem okT.put {E : Env} {s : St} {a : Act} (h : okT E s a) {k : Nat} {d : D} (hk : k < E.n) : okT E (s.put k d) (a.put (some k) d.val) where
  size := by simp [Act.put, h.size]
  defers := h.defers
  tm := fun j d' hj => by
    simp only [St.put, get_cons] at hj
    split at hj
    · rename_i e; subst e
      simp only [Option.some.injEq] at hj; subst hj
      refine ⟨hk, ?_⟩
      simp [Act.put, h.size, hk]
    · rename_i e
      obtain ⟨h1, h2⟩ := h.tm j d' hj
      refine ⟨h1, ?_⟩
      simp only [Act.put]
      rw [Array.getElem?_setIfInBounds_ne e]
      exact h2

theorem ok.put {E : Env} {s : St} {a : Act} {w : World} (h : ok E s a w) {k : Nat} {d : D} (hk : k < E.n) : ok E (s.put k d) (a.put (some k) d.val) w :=
  ⟨(h.t.put hk).size, (h.t.put hk).defers, (h.t.put (d := d) hk).tm, h.hp, h.fr⟩

/-- The same value, said in other words. -/
theorem okT.same {E : Env} {s : St} {a : Act} (h : okT E s a) {k : Nat} {d d' : D} (hk : get s.tm k = some d) (e : d.val = d'.val) : okT E (s.put k d') a where
  size := h.size
  defers := h.defers
  tm := fun j x hj => by
    simp only [St.put, get_cons] at hj
    split at hj
    · rename_i e'; subst e'
      simp only [Option.some.injEq] at hj; subst hj
      obtain ⟨h1, h2⟩ := h.tm k d hk
      exact ⟨h1, by rw [h2, e]⟩
    · exact h.tm j x hj
theorem ok.same {E : Env} {s : St} {a : Act} {w : World} (h : ok E s a w) {k : Nat} {d d' : D} (hk : get s.tm k = some d) (e : d.val = d'.val) : ok E (s.put k d') a w :=
  ⟨(h.t.same hk e).size, (h.t.same hk e).defers, (h.t.same hk e).tm, h.hp, h.fr⟩

/-! ### Memory stays known -/
theorem Ent.ok_of_blocks {w w' : World} {e : Ent} (h : e.ok w) (hb : ∀ k, (k ∈ e.wkey ∨ k ∈ e.rkey) → k < w.heap.size → w'.heap[k]? = w.heap[k]?) : e.ok w' := by
  cases e with
  | var b d =>
    obtain ⟨hf, ty, ht⟩ := h
    exact ⟨hf, ty, by rw [hb b (.inl (by simp [Ent.wkey])) (Array.getElem?_eq_some_iff.1 ht).1]; exact ht⟩
  | rvar b d =>
    obtain ⟨hf, ty, ht⟩ := h
    exact ⟨hf, ty, by rw [hb b (.inr (by simp [Ent.rkey])) (Array.getElem?_eq_some_iff.1 ht).1]; exact ht⟩
  | row b cap E r =>
    have hl := World.ownsRow.lt h b rfl
    have := hb b (.inl (by simp [Ent.wkey])) hl.2
    refine ⟨h.1, ?_⟩
    rcases h.2 with ⟨h1, _⟩ | ⟨g, c, cur, hv, h0, hg, rest⟩
    · cases h1
    · simp only [Value.slice.injEq, Option.some.injEq, Addr.mk.injEq, and_true, true_and] at hv
      obtain ⟨rfl, rfl⟩ := hv
      exact .inr ⟨b, cap, cur, rfl, h0, by rw [this]; exact hg, rest⟩
  | ro b off r =>
    have h2 := hb b (.inr (by simp [Ent.rkey])) h.1
    refine ⟨?_, fun j v hv => ?_⟩
    · rw [Array.getElem?_eq_getElem h.1] at h2
      exact (Array.getElem?_eq_some_iff.1 h2).1
    · rw [← h.2 j v hv]
      exact World.cell?_of_block (w := w) h2
  | any wk rk Q hs hl => exact hs w w' h hb

theorem Ent.key_lt {w : World} {e : Ent} (h : e.ok w) : ∀ k ∈ e.wkey, k < w.heap.size := by
  cases e with
  | var b d => obtain ⟨_, ty, ht⟩ := h; simp [Ent.wkey]; exact (Array.getElem?_eq_some_iff.1 ht).1
  | rvar b d => simp [Ent.wkey]
  | row b cap E r => simp [Ent.wkey]; exact (World.ownsRow.lt h b rfl).2
  | ro b off r => simp [Ent.wkey]
  | any wk rk Q hs hl => exact fun k hk => hl w h k (.inl hk)

theorem HpOk.key_lt {hp : List Ent} {w : World} (h : HpOk hp w) {b : Nat} (hb : b ∈ wkeys hp) : b < w.heap.size := by
  obtain ⟨e, he, hk⟩ := mem_wkeys.1 hb
  exact Ent.key_lt (h.all e he) b hk

/-- Nothing that was there has turned: what is known stays known. -/
theorem HpOk.below {hp : List Ent} {w w' : World} (h : HpOk hp w) (hb : Below w.heap.size w w') : HpOk hp w' :=
  ⟨fun e he => Ent.ok_of_blocks (h.all e he) fun k _ hk => hb.block k hk, h.nodup, h.apart⟩

theorem ok.below {E : Env} {s : St} {a : Act} {w w' : World} (h : ok E s a w) (hb : Below w.heap.size w w') : ok E s a w' where
  size := h.size
  defers := h.defers
  tm := h.tm
  hp := h.hp.below hb
  fr := ⟨hb.os.trans h.fr.os, hb.tape.trans h.fr.tape, hb.output.trans h.fr.output, Nat.le_trans h.fr.size hb.size,
    fun k hk hn => (hb.block k (Nat.lt_of_lt_of_le hk h.fr.size)).trans (h.fr.block k hk hn), h.fr.own⟩

theorem ok.drew {E : Env} {s : St} {a : Act} {w : World} (h : ok E s a w) : ok E s a { w with drawn := w.drawn + 1 } :=
  h.below ⟨rfl, rfl, rfl, Nat.le_refl _, fun _ _ => rfl⟩

/-! ### Knowing less -/
def Wk (E : Env) (s s' : St) : Prop := ∀ a w, ok E s a w → ok E s' a w

inductive TmSub (tm : List (Nat × D)) : List (Nat × D) → Prop
  | nil : TmSub tm []
  | cons {k : Nat} {d d0 : D} {r : List (Nat × D)} (h : get tm k = some d0) (e : d0.val = d.val) (hr : TmSub tm r) : TmSub tm ((k, d) :: r)

theorem TmSub.c {tm : List (Nat × D)} {k : Nat} {d : D} {r : List (Nat × D)} (h : get tm k = some d) (hr : TmSub tm r) : TmSub tm ((k, d) :: r) := .cons h rfl hr

inductive HpSub : List Ent → List Ent → Prop
  | nil {hp} : HpSub [] hp
  | all {hp} : HpSub hp hp
  | keep {e e' : Ent} {hp hp'} (h1 : e'.wkey = e.wkey) (h2 : e'.rkey = e.rkey) (h : ∀ w, e.ok w → e'.ok w) (hr : HpSub hp' hp) : HpSub (e' :: hp') (e :: hp)
  | drop {e : Ent} {hp hp'} (hr : HpSub hp' hp) : HpSub hp' (e :: hp)

theorem HpSub.keys {hp' hp : List Ent} (h : HpSub hp' hp) : (wkeys hp').Sublist (wkeys hp) ∧ (rkeys hp').Sublist (rkeys hp) := by
  induction h with
  | nil => exact ⟨List.nil_sublist _, List.nil_sublist _⟩
  | all => exact ⟨List.Sublist.refl _, List.Sublist.refl _⟩
  | keep h1 h2 _ _ ih => exact ⟨by simp only [wkeys, h1]; exact (List.Sublist.refl _).append ih.1, by simp only [rkeys, h2]; exact (List.Sublist.refl _).append ih.2⟩
  | drop _ ih => exact ⟨by simp only [wkeys]; exact ih.1.trans (List.sublist_append_right _ _), by simp only [rkeys]; exact ih.2.trans (List.sublist_append_right _ _)⟩

theorem HpSub.ok {hp' hp : List Ent} (h : HpSub hp' hp) {w : World} (ha : ∀ e ∈ hp, e.ok w) : ∀ e ∈ hp', e.ok w := by
  induction h with
  | nil => simp
  | all => exact ha
  | keep _ _ hk _ ih =>
    intro e he
    rcases List.mem_cons.1 he with rfl | he
    · exact hk w (ha _ (by simp))
    · exact ih (fun e he => ha e (by simp [he])) e he
  | drop _ ih => exact ih (fun e he => ha e (by simp [he]))

theorem Wk.intro {E : Env} {s s' : St} (ht : TmSub s.tm s'.tm) (hh : HpSub s'.hp s.hp) : Wk E s s' := fun a w h => by
  refine ⟨h.size, h.defers, ?_, ⟨hh.ok h.hp.all, h.hp.nodup.sublist hh.keys.1, fun b hb hb' => h.hp.apart b (hh.keys.2.subset hb) (hh.keys.1.subset hb')⟩,
    ⟨h.fr.os, h.fr.tape, h.fr.output, h.fr.size, h.fr.block, fun b hb => h.fr.own b (hh.keys.1.subset hb)⟩⟩
  intro k d hk
  generalize s'.tm = tm' at ht hk
  induction ht with
  | nil => simp [get] at hk
  | cons hg he _ ih =>
    rw [get_cons] at hk
    split at hk
    · rename_i e; subst e
      simp only [Option.some.injEq] at hk; subst hk
      obtain ⟨h1, h2⟩ := h.tm _ _ hg
      exact ⟨h1, by rw [h2, he]⟩
    · exact ih hk

theorem Wk.refl (E : Env) (s : St) : Wk E s s := fun _ _ h => h
theorem Wk.trans {E : Env} {s s' s'' : St} (h : Wk E s s') (h' : Wk E s' s'') : Wk E s s'' := fun a w k => h' a w (h a w k)

/-! ### The rules of a code's shapes -/
def liftQ (E : Env) (Q : Exit → St → Prop) : Exit → Act → World → Prop := fun e a w => ∃ s, Q e s ∧ ok E s a w
structure W (E : Env) (c : Code) (Q : Exit → St → Prop) (s : St) : Prop where
  out : ∀ a w, ok E s a w → c.wp E.P (liftQ E Q) a w

def thenQ (K : St → Prop) (Q : Exit → St → Prop) : Exit → St → Prop
  | .normal, s => K s
  | e, s => Q e s
def inQ (id : Nat) (Q : Exit → St → Prop) : Exit → St → Prop
  | .exit j, s => match Nat.beq j id with
    | true => Q .normal s
    | false => Q (.exit j) s
  | e, s => Q e s

theorem W_mono {E : Env} {c : Code} {Q Q' : Exit → St → Prop} {s : St} (h : W E c Q s) (hq : ∀ e s, Q e s → Q' e s) : W E c Q' s :=
  ⟨fun a w ho => wp_mono (h.out a w ho) fun e _ _ ⟨s, q, o⟩ => ⟨s, hq e s q, o⟩⟩
theorem W_wk {E : Env} {c : Code} {Q : Exit → St → Prop} {s s' : St} (hw : Wk E s s') (h : W E c Q s') : W E c Q s := ⟨fun a w ho => h.out a w (hw a w ho)⟩

theorem W_seq {E : Env} {x y : Code} {Q : Exit → St → Prop} {s : St} (h : W E x (thenQ (W E y Q) Q) s) : W E (.seq x y) Q s := ⟨fun a w ho => by
  refine wp_seq (wp_mono (h.out a w ho) ?_)
  rintro e a' w' ⟨s', q, o⟩
  cases e with
  | normal => exact W.out q a' w' o
  | exit id => exact ⟨s', q, o⟩
  | goto l => exact ⟨s', q, o⟩
  | ret => exact ⟨s', q, o⟩
  | panic ch => exact ⟨s', q, o⟩
  | outgrown => exact ⟨s', q, o⟩⟩

/-- Where ways meet again: what holds there is named. -/
theorem W_cut {E : Env} {x y : Code} {Q : Exit → St → Prop} {s : St} (J : St → Prop) (h : W E x (thenQ J Q) s) (hr : ∀ s', J s' → W E y Q s') : W E (.seq x y) Q s := W_seq (W_mono h fun e s' q => by
  cases e with
  | normal => exact hr s' q
  | exit id => exact q
  | goto l => exact q
  | ret => exact q
  | panic ch => exact q
  | outgrown => exact q)

theorem W_skip {E : Env} {Q : Exit → St → Prop} {s : St} (h : Q .normal s) : W E .skip Q s := ⟨fun _ _ ho => wp_skip ⟨s, h, ho⟩⟩
theorem W_exit {E : Env} {id : Nat} {Q : Exit → St → Prop} {s : St} (h : Q (.exit id) s) : W E (.exit id) Q s := ⟨fun _ _ ho => wp_exit ⟨s, h, ho⟩⟩
theorem W_ret {E : Env} {Q : Exit → St → Prop} {s : St} (h : Q .ret s) : W E .ret Q s := ⟨fun _ _ ho => wp_ret ⟨s, h, ho⟩⟩

theorem W_cond {E : Env} {c : Operand} {x y : Code} {Q : Exit → St → Prop} {s : St} {b : Bool} (hc : ev s c = some (.bool b)) (h1 : b = true → W E x Q s) (h2 : b = false → W E y Q s) :
    W E (.cond c x y) Q s := ⟨fun a w ho =>
  wp_cond_split (ho.ev hc) (fun e => (h1 e).out a w ho) (fun e => (h2 e).out a w ho)⟩
theorem W_true {E : Env} {c : Operand} {x y : Code} {Q : Exit → St → Prop} {s : St} (hc : ev s c = some (.bool true)) (h1 : W E x Q s) : W E (.cond c x y) Q s :=
  W_cond hc (fun _ => h1) (fun e => by cases e)
theorem W_false {E : Env} {c : Operand} {x y : Code} {Q : Exit → St → Prop} {s : St} (hc : ev s c = some (.bool false)) (h1 : W E y Q s) : W E (.cond c x y) Q s :=
  W_cond hc (fun e => by cases e) (fun _ => h1)

theorem W_block {E : Env} {id : Nat} {c : Code} {Q : Exit → St → Prop} {s : St} (h : W E c (inQ id Q) s) : W E (.block id c) Q s := ⟨fun a w ho => by
  refine wp_block (wp_mono (h.out a w ho) ?_)
  rintro e a' w' ⟨s', q, o⟩
  cases e with
  | exit j =>
    simp only [inQ] at q
    simp only [Exit.inBlock]
    by_cases hj : j = id
    · subst hj
      simp only [Nat.beq_refl, if_true] at q ⊢
      exact ⟨s', q, o⟩
    · have hb : Nat.beq j id = false := by rw [Bool.eq_false_iff]; intro e; exact hj (Nat.eq_of_beq_eq_true e)
      rw [hb] at q
      rw [if_neg hj]
      exact ⟨s', q, o⟩
  | normal => exact ⟨s', q, o⟩
  | goto l => exact ⟨s', q, o⟩
  | ret => exact ⟨s', q, o⟩
  | panic ch => exact ⟨s', q, o⟩
  | outgrown => exact ⟨s', q, o⟩⟩

/-- A loop: 'inv x' is the state at the head of a round, 'R x' what holds of it, 'm x' the measure. -/
theorem W_loop {E : Env} {c : Code} {Q : Exit → St → Prop} {s : St} {α : Type} (inv : α → St) (R : α → Prop) (m : α → Nat) (x0 : α) (h0 : R x0) (hs : Wk E s (inv x0))
    (round : ∀ x, R x → W E c (thenQ (fun s' => ∃ x', R x' ∧ m x' < m x ∧ Wk E s' (inv x')) Q) (inv x)) : W E (.loop c) Q s := ⟨fun a w ho => by
  refine wp_loop_ghost (fun n a w => ∃ x, R x ∧ m x = n ∧ ok E (inv x) a w) (m x0) ⟨x0, h0, rfl, hs a w ho⟩ ?_
  rintro n a w ⟨x, hx, rfl, ho⟩
  refine wp_mono ((round x hx).out a w ho) ?_
  rintro e a' w' ⟨s', q, o⟩
  cases e with
  | normal =>
    obtain ⟨x', h1, h2, h3⟩ := q
    exact ⟨m x', h2, x', h1, rfl, h3 a' w' o⟩
  | exit id => exact ⟨s', q, o⟩
  | goto l => exact ⟨s', q, o⟩
  | ret => exact ⟨s', q, o⟩
  | panic ch => exact ⟨s', q, o⟩
  | outgrown => exact ⟨s', q, o⟩⟩

/-! ### A region's operations -/
structure Ops (E : Env) (ops : Array Oper) (l : List Oper) (K : St → Prop) (s : St) : Prop where
  out : ∀ a w, ok E s a w → ∀ Q : Exit → Act → World → Prop, (∀ s' a' w', K s' → ok E s' a' w' → Q .normal a' w') → wpList E.P ops Q l a w

theorem W_region {E : Env} {id : Nat} {l : List Oper} {Q : Exit → St → Prop} {s : St} (h : Ops E l.toArray l (Q .normal) s) : W E (.region id l.toArray false) Q s := ⟨fun a w ho =>
  wp_region_lit (h.out a w ho _ fun s' _ _ k o => ⟨s', k, o⟩)⟩

theorem Ops_nil {E : Env} {ops : Array Oper} {K : St → Prop} {s : St} (h : K s) : Ops E ops [] K s := ⟨fun _ _ ho _ hQ => wpList_nil (hQ s _ _ h ho)⟩
theorem Ops_wk {E : Env} {ops : Array Oper} {l : List Oper} {K : St → Prop} {s s' : St} (hw : Wk E s s') (h : Ops E ops l K s') : Ops E ops l K s := ⟨fun a w ho => h.out a w (hw a w ho)⟩

/-- An operation that yields a value and turns nothing that is known; a call that only reads among them. -/
def Qt (E : Env) (o : Oper) (s : St) (d : D) : Prop := ∀ a w, ok E s a w → (execOp a.eval o).run E.P w = .ok (.value d.val) w ∨
  ∃ f args, (execOp a.eval o).run E.P w = .ok (.enter f args) w ∧ Calls E.P f args w (fun e w' => e = .returned d.val ∧ Below w.heap.size w w')

/-- An operation that yields a value in whatever memory. -/
def Pt (E : Env) (o : Oper) (s : St) (d : D) : Prop := ∀ a, okT E s a → ∀ w, (execOp a.eval o).run E.P w = .ok (.value d.val) w
theorem Pt.q {E : Env} {o : Oper} {s : St} {d : D} (h : Pt E o s d) : Qt E o s d := fun a w ho => .inl (h a ho.t w)

/-- An operation, whatever it does. -/
def Xt (E : Env) (o : Oper) (s : St) (K : St → Prop) : Prop := ∀ a w, ok E s a w → ∀ (Kw : Act → World → Prop) (Q : Exit → Act → World → Prop), (∀ s' a' w', K s' → ok E s' a' w' → Kw a' w') → o.wp E.P a w Kw Q

theorem Xt_of_Qt {E : Env} {o : Oper} {s : St} {d : D} {k : Nat} (hd : o.dst = some k) (hk : k < E.n) (h : Qt E o s d) {K : St → Prop} (hK : K (s.put k d)) : Xt E o s K := fun a w ho Kw Q hKw => by
  unfold Oper.wp
  rcases h a w ho with h | ⟨f, args, h, hc⟩
  · rw [h]
    simp only [Oper.upon_value, hd]
    exact hKw _ _ _ hK (ho.put hk)
  · rw [h]
    simp only [Oper.upon_enter]
    refine hc.mono fun e w' ⟨he, hb⟩ => ?_
    subst he
    simp only [hd]
    exact hKw _ _ _ hK ((ho.below hb).put hk)

theorem Ops_x {E : Env} {ops : Array Oper} {r : List Oper} {K : St → Prop} {s : St} {o : Oper} (hg : o.guard = none) (h : Xt E o s (Ops E ops r K)) : Ops E ops (o :: r) K s := ⟨fun a w ho Q hQ =>
  wpList_plain hg fun Kw hKw => h a w ho Kw Q fun _ a' w' hs' ho' => hKw a' w' (hs'.out a' w' ho' Q hQ)⟩

theorem Ops_q {E : Env} {ops : Array Oper} {r : List Oper} {K : St → Prop} {s : St} {k : Nat} {op : Op} {ty : TypeId} {ps : String} {af : Array Edge} {d : D}
    (h : Qt E ⟨some k, op, ty, ps, af, none⟩ s d) (hk : k < E.n) (hr : Ops E ops r K (s.put k d)) : Ops E ops (⟨some k, op, ty, ps, af, none⟩ :: r) K s :=
  Ops_x rfl (Xt_of_Qt rfl hk h hr)

theorem Ops_p {E : Env} {ops : Array Oper} {r : List Oper} {K : St → Prop} {s : St} {k : Nat} {op : Op} {ty : TypeId} {ps : String} {af : Array Edge} {d : D}
    (h : Pt E ⟨some k, op, ty, ps, af, none⟩ s d) (hk : k < E.n) (hr : Ops E ops r K (s.put k d)) : Ops E ops (⟨some k, op, ty, ps, af, none⟩ :: r) K s := Ops_q h.q hk hr

/-- What a guarded operation looks at. -/
theorem wanted_of {E : Env} {s : St} {a : Act} (ho : okT E s a) {ops : Array Oper} {o : Oper} {g t : Nat} {want b : Bool} (hg : o.guard = some (g, want)) (ht : (ops[g]?).bind (·.dst) = some t)
    (hb : get s.tm t = some (.bool b)) : Region.wanted o (yielded ops a.tmps) = (b == want) := by
  have := (ho.tm t _ hb).2
  unfold Region.wanted
  simp only [hg, yielded, ht, Option.bind_some, this, D.val]
  cases b <;> cases want <;> rfl

theorem Ops_guard {E : Env} {ops : Array Oper} {r : List Oper} {K : St → Prop} {s : St} {k g t : Nat} {want b : Bool} {op : Op} {ty : TypeId} {ps : String} {af : Array Edge}
    (ht : (ops[g]?).bind (·.dst) = some t) (hb : get s.tm t = some (.bool b)) (hk : k < E.n)
    (h1 : b = want → Ops E ops (⟨some k, op, ty, ps, af, none⟩ :: r) K (s.put t (.bool want))) (h2 : b = !want → Ops E ops r K ((s.put t (.bool (!want))).put k (.tup []))) :
    Ops E ops (⟨some k, op, ty, ps, af, some (g, want)⟩ :: r) K s := ⟨fun a w ho Q hQ => by
  have hw := wanted_of ho.t (o := ⟨some k, op, ty, ps, af, some (g, want)⟩) rfl ht hb
  unfold wpList
  rw [hw]
  by_cases e : b = want
  · have h := (h1 e).out a w (ho.same hb (by rw [e])) Q hQ
    unfold wpList at h
    rw [if_pos (by simp [Region.wanted])] at h
    rw [if_pos (by simp [e])]
    exact h
  · rw [if_neg (by simpa using e)]
    have e' : b = !want := by cases b <;> cases want <;> simp_all
    exact (h2 e').out _ w ((ho.same (d' := .bool (!want)) hb (by rw [e'])).put (d := .tup []) hk) Q hQ⟩

/-- An operation behind a guard that is known. -/
theorem Ops_guard_t {E : Env} {ops : Array Oper} {r : List Oper} {K : St → Prop} {s : St} {k g t : Nat} {want : Bool} {op : Op} {ty : TypeId} {ps : String} {af : Array Edge}
    (ht : (ops[g]?).bind (·.dst) = some t) (hb : get s.tm t = some (.bool want)) (hk : k < E.n) (h1 : Ops E ops (⟨some k, op, ty, ps, af, none⟩ :: r) K s) : Ops E ops (⟨some k, op, ty, ps, af, some (g, want)⟩ :: r) K s :=
  Ops_guard ht hb hk (fun _ => Ops_wk (fun _ _ ho => (⟨ho.size, ho.defers, fun j d hj => by
    refine ho.tm j d ?_
    show get (s.put t (.bool want)).tm j = some d
    simp only [St.put, get_cons]
    split
    · rename_i e; subst e; rw [hb] at hj; exact hj
    · exact hj, ho.hp, ho.fr⟩ : ok E s _ _)) h1) (fun e => by cases want <;> cases e)
/-- An operation behind a guard that is known not to hold. -/
theorem Ops_guard_f {E : Env} {ops : Array Oper} {r : List Oper} {K : St → Prop} {s : St} {k g t : Nat} {want b : Bool} {op : Op} {ty : TypeId} {ps : String} {af : Array Edge}
    (ht : (ops[g]?).bind (·.dst) = some t) (hb : get s.tm t = some (.bool b)) (hne : b = !want) (hk : k < E.n) (h1 : Ops E ops r K (s.put k (.tup []))) : Ops E ops (⟨some k, op, ty, ps, af, some (g, want)⟩ :: r) K s :=
  Ops_guard ht hb hk (fun e => by subst e; cases b <;> cases hne) (fun e => Ops_wk (fun _ _ ho => (⟨ho.size, ho.defers, fun j d hj => by
    refine ho.tm j d ?_
    show get ((s.put t (.bool (!want))).put k (.tup [])).tm j = some d
    simp only [St.put, get_cons] at hj ⊢
    split
    · rename_i e2; rw [if_pos e2] at hj; exact hj
    · rename_i e2
      rw [if_neg e2] at hj
      split
      · rename_i e3; subst e3; rw [hb] at hj; rw [← e]; exact hj
      · exact hj, ho.hp, ho.fr⟩ : ok E (s.put k (.tup [])) _ _)) h1)

theorem lt_dec {a b : Nat} (h : Nat.blt a b = true) : a < b := by simpa using h

/-! ### A function -/
end Gx
end Go.Proofs.Ytjihhcjpbcmjaaa
namespace Go.Proofs.Ytjihhcjpbcmjaaa
open Go
namespace Gx
open Go.RowKit (Below)

section
variable {E : Env} {s : St} {dst : Option Tmp} {ty : TypeId} {ps : String} {af : Array Edge} {gd : Option (Nat × Bool)}

theorem qt_of {o : Oper} {d : D} (h : ∀ a w, ok E s a w → (execOp a.eval o).run E.P w = .ok (.value d.val) w) : Qt E o s d := fun a w ho => .inl (h a w ho)

theorem p_move {x : Operand} {d : D} (h : ev s x = some d) : Pt E ⟨dst, .move x, ty, ps, af, gd⟩ s d := fun a ho w => by
  simp [execOp, ho.ev h]
theorem p_assign {x : Operand} {d : D} (h : ev s x = some d) : Pt E ⟨dst, .assign x, ty, ps, af, gd⟩ s d := fun a ho w => by
  simp [execOp, ho.ev h]

theorem o_mv {ops : Array Oper} {r : List Oper} {K : St → Prop} {k : Nat} {x : Operand} {d : D} (h : ev s x = some d) (hk : Nat.blt k E.n = true) (hr : Ops E ops r K (s.put k d)) : Ops E ops (⟨some k, .move x, ty, ps, af, none⟩ :: r) K s := Ops_p (p_move h) (lt_dec hk) hr
theorem o_as {ops : Array Oper} {r : List Oper} {K : St → Prop} {k : Nat} {x : Operand} {d : D} (h : ev s x = some d) (hk : Nat.blt k E.n = true) (hr : Ops E ops r K (s.put k d)) : Ops E ops (⟨some k, .assign x, ty, ps, af, none⟩ :: r) K s := Ops_p (p_assign h) (lt_dec hk) hr
theorem p_pick_t {c x y : Operand} {d : D} (hc : ev s c = some (.bool true)) (h : ev s x = some d) : Pt E ⟨dst, .pick c x y, ty, ps, af, gd⟩ s d := fun a ho w => by
  simp [execOp, ho.ev hc, ho.ev h, D.val, asBool]
theorem p_pick_f {c x y : Operand} {d : D} (hc : ev s c = some (.bool false)) (h : ev s y = some d) : Pt E ⟨dst, .pick c x y, ty, ps, af, gd⟩ s d := fun a ho w => by
  simp [execOp, ho.ev hc, ho.ev h, D.val, asBool]

/-! ### Numbers -/
def inR : IntKind → Int → Prop
  | .i8, n => -128 ≤ n ∧ n ≤ 127
  | .i16, n => -32768 ≤ n ∧ n ≤ 32767
  | .i32, n => -2147483648 ≤ n ∧ n ≤ 2147483647
  | .i64, n => -9223372036854775808 ≤ n ∧ n ≤ 9223372036854775807
  | .u8, n => 0 ≤ n ∧ n ≤ 255
  | .u16, n => 0 ≤ n ∧ n ≤ 65535
  | .u32, n => 0 ≤ n ∧ n ≤ 4294967295
  | .u64, n => 0 ≤ n ∧ n ≤ 18446744073709551615
theorem wrap_in {k : IntKind} {n : Int} (h : inR k n) : k.wrap n = n := by
  cases k with
  | i8 => exact IntWalk.i8_in n h
  | i16 => exact IntWalk.i16_in n h
  | i32 => exact IntWalk.i32_in n h
  | i64 => exact IntWalk.i64_in n h
  | u8 => exact IntWalk.u8_in n h
  | u16 => exact IntWalk.u16_in n h
  | u32 => exact IntWalk.u32_in n h
  | u64 => exact IntWalk.u64_in n h

/-- A whole number, in whichever form. -/
def asI : D → Option (IntKind × Int)
  | .int k n => some (k, n)
  | .u8 x => some (.u8, (x.val : Int))
  | _ => none
def evI (s : St) (x : Operand) : Option (IntKind × Int) := match ev s x with
  | some d => asI d
  | none => none
theorem okT.evI {a : Act} (ho : okT E s a) {x : Operand} {k : IntKind} {n : Int} (h : evI s x = some (k, n)) : a.eval x = .int k n := by
  unfold Gx.evI at h
  split at h
  · rename_i d hd
    rw [ho.ev hd]
    cases d <;> simp only [asI, Option.some.injEq, Prod.mk.injEq] at h
    case int => obtain ⟨rfl, rfl⟩ := h; rfl
    case u8 => obtain ⟨rfl, rfl⟩ := h; rfl
    all_goals cases h
  · cases h

theorem run_eqGuard_int (op : BinOp) (t : TypeId) (x y : Operand) (k k' : IntKind) (a b : Int) (P : Program) (w : World) : (eqGuard op t x y (.int k a) (.int k' b)).run P w = .ok () w := by
  cases op <;> simp [eqGuard]
theorem run_eqGuard_bool (op : BinOp) (t : TypeId) (x y : Operand) (a b : Bool) (P : Program) (w : World) : (eqGuard op t x y (.bool a) (.bool b)).run P w = .ok () w := by
  cases op <;> simp [eqGuard]
theorem p_add {x y : Operand} {k : IntKind} {a b : Int} {T T' : TypeId} (hx : evI s x = some (k, a)) (hy : evI s y = some (k, b)) (hr : inR k (a + b)) :
    Pt E ⟨dst, .binOp .add T x y T', ty, ps, af, gd⟩ s (.int k (a + b)) := fun c ho w => by
  simp [execOp, ho.evI hx, ho.evI hy, D.val, run_eqGuard_int, binOp, Op.intArith, wrap_in hr]
theorem p_sub {x y : Operand} {k : IntKind} {a b : Int} {T T' : TypeId} (hx : evI s x = some (k, a)) (hy : evI s y = some (k, b)) (hr : inR k (a - b)) :
    Pt E ⟨dst, .binOp .sub T x y T', ty, ps, af, gd⟩ s (.int k (a - b)) := fun c ho w => by
  simp [execOp, ho.evI hx, ho.evI hy, D.val, run_eqGuard_int, binOp, Op.intArith, wrap_in hr]
theorem p_mul {x y : Operand} {k : IntKind} {a b : Int} {T T' : TypeId} (hx : evI s x = some (k, a)) (hy : evI s y = some (k, b)) (hr : inR k (a * b)) :
    Pt E ⟨dst, .binOp .mul T x y T', ty, ps, af, gd⟩ s (.int k (a * b)) := fun c ho w => by
  simp [execOp, ho.evI hx, ho.evI hy, D.val, run_eqGuard_int, binOp, Op.intArith, wrap_in hr]
theorem p_add_w {x y : Operand} {k : IntKind} {a b : Int} {T T' : TypeId} (hx : evI s x = some (k, a)) (hy : evI s y = some (k, b)) :
    Pt E ⟨dst, .binOp .add T x y T', ty, ps, af, gd⟩ s (.int k (k.wrap (a + b))) := fun c ho w => by
  simp [execOp, ho.evI hx, ho.evI hy, D.val, run_eqGuard_int, binOp, Op.intArith]
theorem p_sub_w {x y : Operand} {k : IntKind} {a b : Int} {T T' : TypeId} (hx : evI s x = some (k, a)) (hy : evI s y = some (k, b)) :
    Pt E ⟨dst, .binOp .sub T x y T', ty, ps, af, gd⟩ s (.int k (k.wrap (a - b))) := fun c ho w => by
  simp [execOp, ho.evI hx, ho.evI hy, D.val, run_eqGuard_int, binOp, Op.intArith]
theorem p_mul_w {x y : Operand} {k : IntKind} {a b : Int} {T T' : TypeId} (hx : evI s x = some (k, a)) (hy : evI s y = some (k, b)) :
    Pt E ⟨dst, .binOp .mul T x y T', ty, ps, af, gd⟩ s (.int k (k.wrap (a * b))) := fun c ho w => by
  simp [execOp, ho.evI hx, ho.evI hy, D.val, run_eqGuard_int, binOp, Op.intArith]

theorem p_quo {x y : Operand} {k : IntKind} {a b : Int} {T T' : TypeId} (hx : evI s x = some (k, a)) (hy : evI s y = some (k, b)) (ha : 0 ≤ a) (hb : 0 < b) (hr : inR k (a / b)) :
    Pt E ⟨dst, .binOp .quo T x y T', ty, ps, af, gd⟩ s (.int k (a / b)) := fun c ho w => by
  have e : a.tdiv b = a / b := Int.tdiv_eq_ediv_of_nonneg ha
  have h0 : ¬ b = 0 := by omega
  simp [execOp, ho.evI hx, ho.evI hy, D.val, run_eqGuard_int, binOp, Op.intDiv, h0, e, wrap_in hr]
theorem p_rem {x y : Operand} {k : IntKind} {a b : Int} {T T' : TypeId} (hx : evI s x = some (k, a)) (hy : evI s y = some (k, b)) (ha : 0 ≤ a) (hb : 0 < b) :
    Pt E ⟨dst, .binOp .rem T x y T', ty, ps, af, gd⟩ s (.int k (a % b)) := fun c ho w => by
  have e : a.tmod b = a % b := Int.tmod_eq_emod_of_nonneg ha
  have h0 : ¬ b = 0 := by omega
  simp [execOp, ho.evI hx, ho.evI hy, D.val, run_eqGuard_int, binOp, Op.intDiv, h0, e]
theorem p_lss {x y : Operand} {k : IntKind} {a b : Int} {T T' : TypeId} (hx : evI s x = some (k, a)) (hy : evI s y = some (k, b)) :
    Pt E ⟨dst, .binOp .lss T x y T', ty, ps, af, gd⟩ s (.bool (decide (a < b))) := fun c ho w => by
  simp [execOp, ho.evI hx, ho.evI hy, D.val, run_eqGuard_int, binOp, Op.intCmp]
theorem p_leq {x y : Operand} {k : IntKind} {a b : Int} {T T' : TypeId} (hx : evI s x = some (k, a)) (hy : evI s y = some (k, b)) :
    Pt E ⟨dst, .binOp .leq T x y T', ty, ps, af, gd⟩ s (.bool (decide (a ≤ b))) := fun c ho w => by
  simp [execOp, ho.evI hx, ho.evI hy, D.val, run_eqGuard_int, binOp, Op.intCmp]
theorem p_gtr {x y : Operand} {k : IntKind} {a b : Int} {T T' : TypeId} (hx : evI s x = some (k, a)) (hy : evI s y = some (k, b)) :
    Pt E ⟨dst, .binOp .gtr T x y T', ty, ps, af, gd⟩ s (.bool (decide (b < a))) := fun c ho w => by
  simp [execOp, ho.evI hx, ho.evI hy, D.val, run_eqGuard_int, binOp, Op.intCmp]
theorem p_geq {x y : Operand} {k : IntKind} {a b : Int} {T T' : TypeId} (hx : evI s x = some (k, a)) (hy : evI s y = some (k, b)) :
    Pt E ⟨dst, .binOp .geq T x y T', ty, ps, af, gd⟩ s (.bool (decide (b ≤ a))) := fun c ho w => by
  simp [execOp, ho.evI hx, ho.evI hy, D.val, run_eqGuard_int, binOp, Op.intCmp]
theorem p_eql {x y : Operand} {k : IntKind} {a b : Int} {T T' : TypeId} (hx : evI s x = some (k, a)) (hy : evI s y = some (k, b)) :
    Pt E ⟨dst, .binOp .eql T x y T', ty, ps, af, gd⟩ s (.bool (decide (a = b))) := fun c ho w => by
  have e : (a == b) = decide (a = b) := by rw [Bool.eq_iff_iff]; simp
  simp [execOp, ho.evI hx, ho.evI hy, D.val, run_eqGuard_int, binOp, Op.intCmp, e]
theorem p_neq {x y : Operand} {k : IntKind} {a b : Int} {T T' : TypeId} (hx : evI s x = some (k, a)) (hy : evI s y = some (k, b)) :
    Pt E ⟨dst, .binOp .neq T x y T', ty, ps, af, gd⟩ s (.bool (decide (¬ a = b))) := fun c ho w => by
  have e : (a != b) = decide (¬ a = b) := by rw [Bool.eq_iff_iff]; simp
  simp [execOp, ho.evI hx, ho.evI hy, D.val, run_eqGuard_int, binOp, Op.intCmp, e]

theorem tt_underlying {t : TypeId} {i : TI} (h : E.tt t = some i) : ∃ d, E.P.underlying t = some d ∧ i.td.met d := (E.tok t i h).1
theorem tt_info {t : TypeId} {i : TI} (h : E.tt t = some i) : ∃ x, E.P.info? t = some x ∧ x.size = i.size ∧ x.bytes = i.bytes ∧ x.zero = some i.zero.val := by
  have := (E.tok t i h).2.1
  cases hx : E.P.info? t with
  | none => simp [hx] at this
  | some x => simp [hx] at this; exact ⟨x, rfl, this⟩

theorem run_equal_bool {T : TypeId} {sz by_ : Nat} {z : D} (ht : E.tt T = some ⟨.bool, sz, by_, z⟩) (a b : Bool) (w : World) : (Op.equal T (.bool a) (.bool b)).run E.P w = .ok (decide (a = b)) w := by
  obtain ⟨d, hd, hm⟩ := tt_underlying ht
  simp only [TD.met] at hm
  subst hm
  have e : (a == b) = decide (a = b) := by cases a <;> cases b <;> rfl
  show (Op.equalIn (9999 + 1) T (.bool a) (.bool b)).run E.P w = _
  unfold Op.equalIn
  simp only [Sem.run_bind, run_underlying hd, Result.andThen_ok, Sem.run_pure, e]
theorem p_neq_b {x y : Operand} {a b : Bool} {T T' : TypeId} {sz by_ : Nat} {z : D} (ht : E.tt T = some ⟨.bool, sz, by_, z⟩) (hx : ev s x = some (.bool a)) (hy : ev s y = some (.bool b)) :
    Pt E ⟨dst, .binOp .neq T x y T', ty, ps, af, gd⟩ s (.bool (decide (¬ a = b))) := fun c ho w => by
  have h1 : binOp .neq T (.bool a) (.bool b) = (do pure (.bool (!(← Op.equal T (.bool a) (.bool b))))) := rfl
  simp only [execOp, ho.ev hx, ho.ev hy, D.val, Sem.run_bind, run_eqGuard_bool, Result.andThen_ok, h1, run_equal_bool ht, Sem.run_pure, decide_not]

theorem p_not {x : Operand} {b : Bool} {T : TypeId} (hx : ev s x = some (.bool b)) : Pt E ⟨dst, .unOp .not T x, ty, ps, af, gd⟩ s (.bool (!b)) := fun c ho w => by
  simp [execOp, ho.ev hx, D.val, Op.unary]
theorem p_shl {x y : Operand} {k yk : IntKind} {a b : Int} {T T' : TypeId} (hx : evI s x = some (k, a)) (hy : evI s y = some (yk, b)) (h0 : 0 ≤ b) (hb : b ≤ k.bits) (hr : inR k (a * 2 ^ b.toNat)) :
    Pt E ⟨dst, .binOp .shl T x y T', ty, ps, af, gd⟩ s (.int k (a * 2 ^ b.toNat)) := fun c ho w => by
  have h1 : ¬ b < 0 := by omega
  have h2 : min b.toNat k.bits = b.toNat := by omega
  simp [execOp, ho.evI hx, ho.evI hy, D.val, run_eqGuard_int, binOp, Op.shift, h1, h2, wrap_in hr]
theorem p_shr {x y : Operand} {k yk : IntKind} {a b : Int} {T T' : TypeId} (hx : evI s x = some (k, a)) (hy : evI s y = some (yk, b)) (h0 : 0 ≤ b) (hb : b ≤ k.bits) :
    Pt E ⟨dst, .binOp .shr T x y T', ty, ps, af, gd⟩ s (.int k (a / 2 ^ b.toNat)) := fun c ho w => by
  have h1 : ¬ b < 0 := by omega
  have h2 : min b.toNat k.bits = b.toNat := by omega
  have e : a.fdiv (2 ^ b.toNat) = a / 2 ^ b.toNat := Int.fdiv_eq_ediv_of_nonneg _ (Int.le_of_lt (Int.pow_pos (by decide)))
  simp [execOp, ho.evI hx, ho.evI hy, D.val, run_eqGuard_int, binOp, Op.shift, h1, h2, e]

theorem inR_lt {k : IntKind} {n : Int} (h0 : 0 ≤ n) (h : inR k n) : n.toNat < 2 ^ k.bits := by
  cases k <;> simp only [inR] at h <;> simp only [IntKind.bits] <;> omega

theorem toNat_ofInt_in {k : IntKind} {n : Int} (h0 : 0 ≤ n) (h : inR k n) : (BitVec.ofInt k.bits n).toNat = n.toNat := by
  obtain ⟨m, rfl⟩ := Int.eq_ofNat_of_zero_le h0
  have := inR_lt h0 h
  simp only [Int.toNat_natCast] at this
  rw [BitVec.ofInt_natCast, BitVec.toNat_ofNat, Nat.mod_eq_of_lt this]
  rfl

theorem p_or {x y : Operand} {k : IntKind} {a b : Int} {T T' : TypeId} (hx : evI s x = some (k, a)) (hy : evI s y = some (k, b)) (ha : 0 ≤ a) (hb : 0 ≤ b) (ra : inR k a) (rb : inR k b)
    (hr : inR k ((a.toNat ||| b.toNat : Nat) : Int)) : Pt E ⟨dst, .binOp .or T x y T', ty, ps, af, gd⟩ s (.int k ((a.toNat ||| b.toNat : Nat) : Int)) := fun c ho w => by
  simp [execOp, ho.evI hx, ho.evI hy, D.val, run_eqGuard_int, binOp, Op.intBits, BitVec.toNat_or, toNat_ofInt_in ha ra, toNat_ofInt_in hb rb, wrap_in hr]
theorem p_and {x y : Operand} {k : IntKind} {a b : Int} {T T' : TypeId} (hx : evI s x = some (k, a)) (hy : evI s y = some (k, b)) (ha : 0 ≤ a) (hb : 0 ≤ b) (ra : inR k a) (rb : inR k b)
    (hr : inR k ((a.toNat &&& b.toNat : Nat) : Int)) : Pt E ⟨dst, .binOp .and T x y T', ty, ps, af, gd⟩ s (.int k ((a.toNat &&& b.toNat : Nat) : Int)) := fun c ho w => by
  simp [execOp, ho.evI hx, ho.evI hy, D.val, run_eqGuard_int, binOp, Op.intBits, BitVec.toNat_and, toNat_ofInt_in ha ra, toNat_ofInt_in hb rb, wrap_in hr]
theorem p_xor {x y : Operand} {k : IntKind} {a b : Int} {T T' : TypeId} (hx : evI s x = some (k, a)) (hy : evI s y = some (k, b)) (ha : 0 ≤ a) (hb : 0 ≤ b) (ra : inR k a) (rb : inR k b)
    (hr : inR k ((a.toNat ^^^ b.toNat : Nat) : Int)) : Pt E ⟨dst, .binOp .xor T x y T', ty, ps, af, gd⟩ s (.int k ((a.toNat ^^^ b.toNat : Nat) : Int)) := fun c ho w => by
  simp [execOp, ho.evI hx, ho.evI hy, D.val, run_eqGuard_int, binOp, Op.intBits, BitVec.toNat_xor, toNat_ofInt_in ha ra, toNat_ofInt_in hb rb, wrap_in hr]

theorem p_conv {x : Operand} {k k' : IntKind} {n : Int} {S T : TypeId} {i : TI} {sz by_ : Nat} {z : D} (hs : E.tt S = some i) (ht : E.tt T = some ⟨.int k', sz, by_, z⟩) (hx : evI s x = some (k, n)) (hr : inR k' n) :
    Pt E ⟨dst, .convert S T x, ty, ps, af, gd⟩ s (.int k' n) := fun c ho w => by
  obtain ⟨d, hd, _⟩ := tt_underlying hs
  obtain ⟨d', hd', hm⟩ := tt_underlying ht
  simp only [TD.met] at hm
  subst hm
  simp [execOp, ho.evI hx, D.val, convert, run_underlying hd, run_underlying hd', Conv.intToInt, wrap_in hr]
/-! ### Bytes -/
theorem fin_eq_val (a b : Fin 256) : ((a.val : Int) == (b.val : Int)) = decide (a = b) := by
  rw [Bool.eq_iff_iff]; simp; omega
theorem p_eql_8 {x y : Operand} {a b : Fin 256} {T T' : TypeId} (hx : ev s x = some (.u8 a)) (hy : ev s y = some (.u8 b)) :
    Pt E ⟨dst, .binOp .eql T x y T', ty, ps, af, gd⟩ s (.bool (decide (a = b))) := fun c ho w => by
  have e := fin_eq_val a b
  simp only [execOp, ho.ev hx, ho.ev hy, D.val, Sem.run_bind, run_eqGuard_int, Result.andThen_ok, binOp, Op.intCmp, ne_eq, not_true_eq_false, if_false, Sem.run_pure, e]
theorem p_neq_8 {x y : Operand} {a b : Fin 256} {T T' : TypeId} (hx : ev s x = some (.u8 a)) (hy : ev s y = some (.u8 b)) :
    Pt E ⟨dst, .binOp .neq T x y T', ty, ps, af, gd⟩ s (.bool (decide (¬ a = b))) := fun c ho w => by
  have e : ((a.val : Int) != (b.val : Int)) = decide (¬ a = b) := by rw [bne, fin_eq_val, decide_not]
  simp only [execOp, ho.ev hx, ho.ev hy, D.val, Sem.run_bind, run_eqGuard_int, Result.andThen_ok, binOp, Op.intCmp, ne_eq, not_true_eq_false, if_false, Sem.run_pure, e]

/-! ### Addresses -/
theorem p_nilCheck {x : Operand} {b o : Nat} {e : Option Nat} (hx : ev s x = some (.ptr b o e)) : Pt E ⟨dst, .nilCheck x, ty, ps, af, gd⟩ s (.ptr b o e) := fun c ho w => by
  simp [execOp, ho.ev hx, D.val]

theorem p_fieldAddr {x : Operand} {b o f T off ft : Nat} {e : Option Nat} {os ts : List Nat} {sz by_ : Nat} {z : D} {i : TI} (ht : E.tt T = some ⟨.struct os ts, sz, by_, z⟩) (h1 : os[f]? = some off) (h2 : ts[f]? = some ft)
    (h3 : E.tt ft = some i) (h4 : Nat.beq i.size 0 = false) (hx : ev s x = some (.ptr b o e)) : Pt E ⟨dst, .fieldAddr T x f, ty, ps, af, gd⟩ s (.ptr b (o + off) e) := fun c ho w => by
  obtain ⟨d, hd, fs, rfl, e1, e2⟩ := tt_underlying ht
  obtain ⟨x', hx', hsz, _⟩ := tt_info h3
  obtain ⟨fl, hf⟩ : ∃ fl, fs[f]? = some fl ∧ fl.offset = off ∧ fl.type = ft := by
    rw [← e1] at h1
    rw [← e2] at h2
    simp only [List.getElem?_map, Option.map_eq_some_iff] at h1 h2
    obtain ⟨fl, hf, ho1⟩ := h1
    obtain ⟨fl', hf', ho2⟩ := h2
    rw [hf] at hf'
    cases hf'
    exact ⟨fl, by simpa using hf, ho1, ho2⟩
  have hne : ¬ x'.size = 0 := by
    rw [hsz]
    intro e
    rw [e] at h4
    cases h4
  obtain ⟨hf, rfl, rfl⟩ := hf
  have hadd : (⟨b, o + e.getD 0, none⟩ : Addr).add fl.offset = ⟨b, o + fl.offset + e.getD 0, none⟩ := by
    unfold Addr.add
    split
    · rename_i h; rw [h]; simp
    · simp only [Addr.mk.injEq, and_true, true_and]; omega
  simp [execOp, ho.ev hx, D.val, Instr.fieldAt, run_underlying hd, hf, Instr.sureAddr, fieldPlace, sizeOf, typeInfo, hx', hne, hadd]

theorem Addr.add_at (b o n : Nat) : (⟨b, o, none⟩ : Addr).add n = ⟨b, o + n, none⟩ := by unfold Addr.add; split <;> simp_all

/-- n elements of a size. -/
def mulS (n sz : Nat) : Nat := match sz with
  | 1 => n
  | sz => n * sz
theorem mulS_eq (n sz : Nat) : mulS n sz = n * sz := by
  unfold mulS; split <;> simp
def offS (e : Option Nat) (m : Nat) : Nat := match e with
  | none => m
  | some e => e + m
theorem offS_eq (e : Option Nat) (m : Nat) : offS e m = e.getD 0 + m := by cases e <;> simp [offS]

theorem p_indexAddr {x y : Operand} {b o T len el : Nat} {e : Option Nat} {k : IntKind} {i : Int} {sz by_ : Nat} {z : D} {ei : TI} (j : Nat) (ht : E.tt T = some ⟨.arr len el, sz, by_, z⟩) (h3 : E.tt el = some ei)
    (hx : ev s x = some (.ptr b o e)) (hy : evI s y = some (k, i)) (hj : i = (j : Int)) (hi : j < len) : Pt E ⟨dst, .indexAddr T x y, ty, ps, af, gd⟩ s (.ptr b o (some (offS e (mulS j ei.size)))) := fun c ho w => by
  subst hj
  obtain ⟨d, hd, hm⟩ := tt_underlying ht
  simp only [TD.met] at hm
  subst hm
  obtain ⟨x', hx', hsz, _⟩ := tt_info h3
  have h1 : (0 : Int) ≤ (j : Int) := Int.natCast_nonneg j
  have h2 : (j : Int) < (len : Int) := by omega
  simp [execOp, ho.ev hx, ho.evI hy, D.val, Instr.indexAt, asIntOf, run_underlying hd, Instr.sureAddr, hi, sizeOf, typeInfo, hx', hsz, Addr.add_at, Nat.add_assoc, mulS_eq, offS_eq]

theorem p_indexAddr_sl {x y : Operand} {b off len cap T el : Nat} {k : IntKind} {i : Int} {sz by_ : Nat} {z : D} {ei : TI} (j : Nat) (ht : E.tt T = some ⟨.slice el, sz, by_, z⟩) (h3 : E.tt el = some ei)
    (hx : ev s x = some (.sl b off len cap)) (hy : evI s y = some (k, i)) (hj : i = (j : Int)) (hi : j < len) : Pt E ⟨dst, .indexAddr T x y, ty, ps, af, gd⟩ s (.ptr b off (some (mulS j ei.size))) := fun c ho w => by
  subst hj
  obtain ⟨d, hd, hm⟩ := tt_underlying ht
  simp only [TD.met] at hm
  subst hm
  obtain ⟨x', hx', hsz, _⟩ := tt_info h3
  have h1 : (0 : Int) ≤ (j : Int) := Int.natCast_nonneg j
  have h2 : (j : Int) < (len : Int) := by omega
  simp [execOp, ho.ev hx, ho.evI hy, D.val, Instr.indexAt, asIntOf, run_underlying hd, hi, sizeOf, typeInfo, hx', hsz, Addr.add_at, mulS_eq]

/-! ### Loads -/
theorem run_loadAt_lies (P : Program) (w : World) (T : TypeId) (b at_ : Nat) (cs : List Value) (ty : TypeId) (d : D) {i : TI} (hT : i.met P T) (hw : w.heap[b]? = some (.cells cs.toArray ty (0, 0))) (hl : Lies cs at_ d i.size i.td.ag) :
    (Instr.loadAt T (.pointer (some ⟨b, at_, none⟩))).run P w = .ok d.val w := by
  obtain ⟨h1, h2, h3, h4⟩ := hl
  obtain ⟨⟨td, hd, hm⟩, hi, _⟩ := hT
  have hc : w.rangeAt b at_ d.cells := fun j v hv => by
    have hj : j < i.size := by rw [← h2, ← D.length_cells]; exact (List.getElem?_eq_some_iff.1 hv).1
    rw [cell_of_row w b (at_ + j) _ ty (0, 0) hw]
    simp only [List.getElem?_toArray]
    rw [h1 j hj, hv]
  cases hag : i.td.ag with
  | true =>
    rw [hag] at h3
    rw [D.val_agg d h3]
    refine run_loadAt_mid w b at_ T d.cells td hc hd ?_ ?_
    · rw [TD.met_row hm, hag]
    · rw [D.length_cells, h2]
      cases hx : P.info? T with
      | none => simp [hx] at hi
      | some x => simp [hx] at hi; simp [hi.1]
  | false =>
    rw [hag] at h3
    obtain ⟨e1, e2⟩ := D.val_one d h3 h4
    have hag' : (isAgg T).run P w = .ok false w := by
      unfold isAgg
      rw [Sem.run_bind, run_underlying hd w]
      have hrow := TD.met_row hm
      rw [hag] at hrow
      cases td <;> first | rfl | (simp [TypeDesc.isRow] at hrow; done)
    have hcell : w.cell? ⟨b, at_, none⟩ = some d.val := by
      have := hc 0 d.val (by rw [e1]; rfl)
      simpa using this
    simp [Instr.loadAt, Instr.sureAddr, loadVar, hag', hcell]

theorem q_load {x : Operand} {b o T : Nat} {e : Option Nat} {i : TI} {d0 d : D} {C : Prop} (ht : E.tt T = some i) (hx : ev s x = some (.ptr b o e)) (hm : Ent.var b d0 ∈ s.hp) (hs : d0.sub o e i.size i.td.ag = some (C, d)) (hC : C) :
    Qt E ⟨dst, .load T x, ty, ps, af, gd⟩ s d := qt_of fun c w ho => by
  obtain ⟨hf, ty', hw⟩ := ho.hp.all _ hm
  have := run_loadAt_lies E.P w T b (o + e.getD 0) d0.cells ty' d (E.tok T i ht) hw (D.sub_lies _ _ _ _ _ _ _ hs hC)
  simp [execOp, ho.ev hx, D.val, this]
theorem q_load_r {x : Operand} {b o T : Nat} {e : Option Nat} {i : TI} {d0 d : D} {C : Prop} (ht : E.tt T = some i) (hx : ev s x = some (.ptr b o e)) (hm : Ent.rvar b d0 ∈ s.hp) (hs : d0.sub o e i.size i.td.ag = some (C, d)) (hC : C) :
    Qt E ⟨dst, .load T x, ty, ps, af, gd⟩ s d := qt_of fun c w ho => by
  obtain ⟨hf, ty', hw⟩ := ho.hp.all _ hm
  have := run_loadAt_lies E.P w T b (o + e.getD 0) d0.cells ty' d (E.tok T i ht) hw (D.sub_lies _ _ _ _ _ _ _ hs hC)
  simp [execOp, ho.ev hx, D.val, this]

/-- A slice's element, by its number. -/
def Rw.at : Rw → Nat → Option (Prop × D)
  | .ints k l, j => some (j < l.length, .int k (l.getD j 0))
  | .u8s l, j => some (j < l.length, .u8 (l.getD j 0))
  | .arrs m l, j => some (j < l.length, .arr8 m (l.getD j fun _ => 0))
  | .arri k m l, j => some (j < l.length, .arr k m (l.getD j fun _ => 0))
  | .vals l h, j => some (j < l.length, .raw (l.getD j .nilFunc) (by
      rcases Nat.lt_or_ge j l.length with hj | hj
      · simp only [List.getD, List.getElem?_eq_getElem hj, Option.getD_some]; exact h _ (List.getElem_mem hj)
      · simp only [List.getD, List.getElem?_eq_none hj, Option.getD_none]; rfl))
  | .levs l, j => some (j < l.length, levD (l.getD j (0, (fun _ => false), fun _ => 0)))
def Rw.agB : Rw → Bool
  | .arrs _ _ => true
  | .arri _ _ _ => true
  | .levs _ => true
  | _ => false

theorem flatMap_getElem? {α : Type} (m : Nat) (f : α → List Value) (hf : ∀ a, (f a).length = m) : ∀ (l : List α) (j i : Nat), i < m → ∀ a, l[j]? = some a → (l.flatMap f)[j * m + i]? = (f a)[i]?
  | [], j, i, _, a, h => by simp at h
  | x :: r, 0, i, hi, a, h => by
    simp only [List.getElem?_cons_zero, Option.some.injEq] at h
    subst h
    simp only [Nat.zero_mul, Nat.zero_add, List.flatMap_cons]
    rw [List.getElem?_append_left (by rw [hf]; exact hi)]
  | x :: r, j + 1, i, hi, a, h => by
    simp only [List.getElem?_cons_succ] at h
    simp only [List.flatMap_cons]
    rw [List.getElem?_append_right (by rw [hf, Nat.add_mul]; omega), hf, show (j + 1) * m + i - m = j * m + i by rw [Nat.add_mul]; omega]
    exact flatMap_getElem? m f hf r j i hi a h

theorem Rw.at_lies {r : Rw} {j : Nat} {C : Prop} {d : D} (h : r.at j = some (C, d)) (hC : C) : Lies r.cells (j * r.size) d r.size r.agB ∧ j < r.len := by
  cases r with
  | ints k l =>
    simp only [Option.some.injEq, Prod.mk.injEq, Rw.at] at h
    obtain ⟨rfl, rfl⟩ := h
    refine ⟨⟨fun i hi => ?_, rfl, rfl, rfl⟩, hC⟩
    simp only [Rw.size] at hi
    obtain rfl : i = 0 := by omega
    simp only [List.getElem?_map, Rw.cells, Rw.size, D.cells, Nat.mul_one, Nat.add_zero, List.getElem?_cons_zero]
    rw [List.getElem?_eq_getElem hC]
    simp [List.getD, List.getElem?_eq_getElem hC]
  | u8s l =>
    simp only [Option.some.injEq, Prod.mk.injEq, Rw.at] at h
    obtain ⟨rfl, rfl⟩ := h
    refine ⟨⟨fun i hi => ?_, rfl, rfl, rfl⟩, hC⟩
    simp only [Rw.size] at hi
    obtain rfl : i = 0 := by omega
    simp only [List.getElem?_map, Rw.cells, Rw.size, D.cells, Nat.mul_one, Nat.add_zero, List.getElem?_cons_zero]
    rw [List.getElem?_eq_getElem hC]
    simp [List.getD, List.getElem?_eq_getElem hC]
  | arrs m l =>
    simp only [Rw.at, Option.some.injEq, Prod.mk.injEq] at h
    obtain ⟨rfl, rfl⟩ := h
    refine ⟨⟨fun i hi => ?_, rfl, rfl, rfl⟩, hC⟩
    simp only [Rw.size] at hi
    simp only [Rw.cells, Rw.size, D.cells]
    rw [flatMap_getElem? m (fun f : Nat → Fin 256 => (List.range m).map fun i => Value.int .u8 ((f i).val : Int)) (fun _ => by simp) l j i hi (l.getD j fun _ => 0) (by simp [List.getD, List.getElem?_eq_getElem hC])]
  | arri k m l =>
    simp only [Rw.at, Option.some.injEq, Prod.mk.injEq] at h
    obtain ⟨rfl, rfl⟩ := h
    refine ⟨⟨fun i hi => ?_, rfl, rfl, rfl⟩, hC⟩
    simp only [Rw.size] at hi
    simp only [Rw.cells, Rw.size, D.cells]
    rw [flatMap_getElem? m (fun f : Nat → Int => (List.range m).map fun i => Value.int k (f i)) (fun _ => by simp) l j i hi (l.getD j fun _ => 0) (by simp [List.getD, List.getElem?_eq_getElem hC])]
  | vals l hl =>
    simp only [Option.some.injEq, Prod.mk.injEq, Rw.at] at h
    obtain ⟨rfl, rfl⟩ := h
    refine ⟨⟨fun i hi => ?_, rfl, rfl, rfl⟩, hC⟩
    simp only [Rw.size] at hi
    obtain rfl : i = 0 := by omega
    simp only [Rw.cells, Rw.size, D.cells, Nat.mul_one, Nat.add_zero, List.getElem?_cons_zero]
    rw [List.getElem?_eq_getElem hC]
    simp [List.getD, List.getElem?_eq_getElem hC]
  | levs l =>
    simp only [Rw.at, Option.some.injEq, Prod.mk.injEq] at h
    obtain ⟨rfl, rfl⟩ := h
    refine ⟨⟨fun i hi => ?_, rfl, rfl, rfl⟩, hC⟩
    simp only [Rw.size] at hi
    simp only [Rw.cells, Rw.size]
    rw [flatMap_getElem? 111 (fun q => (levD q).cells) levD_len l j i hi (l.getD j (0, (fun _ => false), fun _ => 0)) (by simp [List.getD, List.getElem?_eq_getElem hC])]

theorem run_loadAt_cells (P : Program) (w : World) (T : TypeId) (b at_ : Nat) (d : D) {i : TI} (hT : i.met P T) (hc : ∀ j, j < i.size → w.cell? ⟨b, at_ + j, none⟩ = d.cells[j]?) (h2 : d.size = i.size) (h3 : d.isAgg = i.td.ag) (h4 : d.flat = true) :
    (Instr.loadAt T (.pointer (some ⟨b, at_, none⟩))).run P w = .ok d.val w := by
  obtain ⟨⟨td, hd, hm⟩, hi, _⟩ := hT
  have hc : w.rangeAt b at_ d.cells := fun j v hv => by
    have hj : j < i.size := by rw [← h2, ← D.length_cells]; exact (List.getElem?_eq_some_iff.1 hv).1
    rw [hc j hj, hv]
  cases hag : i.td.ag with
  | true =>
    rw [hag] at h3
    rw [D.val_agg d h3]
    refine run_loadAt_mid w b at_ T d.cells td hc hd ?_ ?_
    · rw [TD.met_row hm, hag]
    · rw [D.length_cells, h2]
      cases hx : P.info? T with
      | none => simp [hx] at hi
      | some x => simp [hx] at hi; simp [hi.1]
  | false =>
    rw [hag] at h3
    obtain ⟨e1, e2⟩ := D.val_one d h3 h4
    have hag' : (isAgg T).run P w = .ok false w := by
      unfold isAgg
      rw [Sem.run_bind, run_underlying hd w]
      have hrow := TD.met_row hm
      rw [hag] at hrow
      cases td <;> first | rfl | (simp [TypeDesc.isRow] at hrow; done)
    have hcell : w.cell? ⟨b, at_, none⟩ = some d.val := by
      have := hc 0 d.val (by rw [e1]; rfl)
      simpa using this
    simp [Instr.loadAt, Instr.sureAddr, loadVar, hag', hcell]

theorem q_load_row {x : Operand} {b e cap EE T j : Nat} {i : TI} {r : Rw} {d : D} {C : Prop} (ht : E.tt T = some i) (hx : ev s x = some (.ptr b 0 (some e))) (hm : Ent.row b cap EE r ∈ s.hp) (he : e = mulS j i.size) (hs : r.at j = some (C, d)) (hC : C)
    (h2 : r.size = i.size) (h3 : r.agB = i.td.ag) : Qt E ⟨dst, .load T x, ty, ps, af, gd⟩ s d := qt_of fun c w ho => by
  rw [mulS_eq] at he
  have hrow : w.ownsRow 0 EE r.size (.slice (some ⟨b, 0, none⟩) r.len cap) r.len r.cells := ho.hp.all _ hm
  obtain ⟨⟨l1, l2, l3, l4⟩, hj⟩ := Rw.at_lies hs hC
  have := run_loadAt_cells E.P w T b (0 + e) d (E.tok T i ht) (fun q hq => by
    rw [← h2] at hq
    rw [World.ownsRow.cellAt hrow (0 + e + q) (by
      rw [he, ← h2]
      have : j * r.size + r.size ≤ r.len * r.size := by rw [← Nat.succ_mul]; exact Nat.mul_le_mul_right _ hj
      omega), he, ← h2, Nat.zero_add]
    exact l1 q hq) (by rw [l2, h2]) (by rw [l3, h3]) l4
  simp only [Nat.zero_add] at this
  simp [execOp, ho.ev hx, D.val, this]

theorem q_load_ro {x : Operand} {b e off T j : Nat} {i : TI} {r : Rw} {d : D} {C : Prop} (ht : E.tt T = some i) (hx : ev s x = some (.ptr b off (some e))) (hm : Ent.ro b off r ∈ s.hp) (he : e = mulS j i.size) (hs : r.at j = some (C, d)) (hC : C)
    (h2 : r.size = i.size) (h3 : r.agB = i.td.ag) : Qt E ⟨dst, .load T x, ty, ps, af, gd⟩ s d := qt_of fun c w ho => by
  rw [mulS_eq] at he
  have hrow : ∀ q v, r.cells[q]? = some v → w.cell? ⟨b, off + q, none⟩ = some v := (ho.hp.all _ hm).2
  obtain ⟨⟨l1, l2, l3, l4⟩, hj⟩ := Rw.at_lies hs hC
  have := run_loadAt_cells E.P w T b (off + e) d (E.tok T i ht) (fun q hq => by
    rw [← h2] at hq
    have h5 := l1 q hq
    have hlt : q < d.cells.length := by rw [D.length_cells, l2]; exact hq
    rw [List.getElem?_eq_getElem hlt] at h5 ⊢
    have h6 := hrow _ _ h5
    rw [show (off + e + q) = off + (j * r.size + q) by rw [he, h2]; omega]
    exact h6) (by rw [l2, h2]) (by rw [l3, h3]) l4
  simp [execOp, ho.ev hx, D.val, this]

/-! ### Parts of values -/
theorem p_index8 {x y : Operand} {T len el n : Nat} {ke : IntKind} {f : Nat → Fin 256} {k' : IntKind} {i : Int} {sz by_ sz' by_' : Nat} {z z' : D} (j : Nat) (ht : E.tt T = some ⟨.arr len el, sz, by_, z⟩) (h3 : E.tt el = some ⟨.int ke, sz', by_', z'⟩) (hs : Nat.beq sz' 1 = true)
    (hx : ev s x = some (.arr8 n f)) (hy : evI s y = some (k', i)) (hj : i = (j : Int)) (hi : j < len) (hn : len ≤ n) : Pt E ⟨dst, .index T x y, ty, ps, af, gd⟩ s (.u8 (f j)) := fun c ho w => by
  subst hj
  obtain ⟨d, hd, hm⟩ := tt_underlying ht
  obtain ⟨d', hd', hm'⟩ := tt_underlying h3
  simp only [TD.met] at hm hm'
  subst hm; subst hm'
  obtain ⟨x', hx', hsz, _⟩ := tt_info h3
  have hs1 : sz' = 1 := Nat.eq_of_beq_eq_true hs
  subst hs1
  have hag : (isAgg el).run E.P w = .ok false w := by unfold isAgg; rw [Sem.run_bind, run_underlying hd' w]; rfl
  have hlt : j < n := by omega
  simp [execOp, ho.ev hx, ho.evI hy, D.val, Instr.index, asIntOf, run_underlying hd, hi, part, hag, sizeOf, typeInfo, hx', hsz, hlt]
theorem p_index_b {x y : Operand} {T len el n : Nat} {f : Nat → Bool} {k' : IntKind} {i : Int} {sz by_ sz' by_' : Nat} {z z' : D} (j : Nat) (ht : E.tt T = some ⟨.arr len el, sz, by_, z⟩) (h3 : E.tt el = some ⟨.bool, sz', by_', z'⟩) (hs : Nat.beq sz' 1 = true)
    (hx : ev s x = some (.barr n f)) (hy : evI s y = some (k', i)) (hj : i = (j : Int)) (hi : j < len) (hn : len ≤ n) : Pt E ⟨dst, .index T x y, ty, ps, af, gd⟩ s (.bool (f j)) := fun c ho w => by
  subst hj
  obtain ⟨d, hd, hm⟩ := tt_underlying ht
  obtain ⟨d', hd', hm'⟩ := tt_underlying h3
  simp only [TD.met] at hm hm'
  subst hm; subst hm'
  obtain ⟨x', hx', hsz, _⟩ := tt_info h3
  have hs1 : sz' = 1 := Nat.eq_of_beq_eq_true hs
  subst hs1
  have hag : (isAgg el).run E.P w = .ok false w := by unfold isAgg; rw [Sem.run_bind, run_underlying hd' w]; rfl
  have hlt : j < n := by omega
  simp [execOp, ho.ev hx, ho.evI hy, D.val, Instr.index, asIntOf, run_underlying hd, hi, part, hag, sizeOf, typeInfo, hx', hsz, hlt]

theorem valL_getElem? : ∀ (l : List D) (j : Nat), (D.valL l)[j]? = (l[j]?).map D.val
  | [], j => by simp [D.valL]
  | d :: r, 0 => by simp [D.valL]
  | d :: r, j + 1 => by simp [D.valL, valL_getElem? r j]

theorem p_extract {x : Operand} {vs : List D} {j : Nat} {d : D} (hx : ev s x = some (.tup vs)) (hj : vs[j]? = some d) : Pt E ⟨dst, .extract x j, ty, ps, af, gd⟩ s d := fun c ho w => by
  simp [execOp, ho.ev hx, D.val, Instr.extract, valL_getElem?, hj]

theorem p_len {x : Operand} {b off len cap T el : Nat} {sz by_ : Nat} {z : D} {aty : Array TypeId} (haty : aty = #[T]) (ht : E.tt T = some ⟨.slice el, sz, by_, z⟩) (hx : ev s x = some (.sl b off len cap)) :
    Pt E ⟨dst, .call { callee := .builtin .len, args := #[x], argTypes := aty }, ty, ps, af, gd⟩ s (.int .i64 (len : Int)) := fun c ho w => by
  subst haty
  obtain ⟨d, hd, hm⟩ := tt_underlying ht
  simp only [TD.met] at hm
  subst hm
  simp [execOp, resolve, invoke, builtin, ho.ev hx, D.val, Builtin.len_, run_underlying hd, goInt]
theorem p_len_nil {x : Operand} {T el : Nat} {sz by_ : Nat} {z : D} {aty : Array TypeId} (haty : aty = #[T]) (ht : E.tt T = some ⟨.slice el, sz, by_, z⟩) (hx : ev s x = some (.raw (.slice none 0 0) rfl)) :
    Pt E ⟨dst, .call { callee := .builtin .len, args := #[x], argTypes := aty }, ty, ps, af, gd⟩ s (.int .i64 0) := fun c ho w => by
  subst haty
  obtain ⟨d, hd, hm⟩ := tt_underlying ht
  simp only [TD.met] at hm
  subst hm
  simp [execOp, resolve, invoke, builtin, ho.ev hx, D.val, Builtin.len_, run_underlying hd, goInt]
theorem p_len_s {x : Operand} {t : ByteArray} {T : Nat} {sz by_ : Nat} {z : D} {h : (Value.string t).oneCell' = true} {aty : Array TypeId} (haty : aty = #[T]) (ht : E.tt T = some ⟨.str, sz, by_, z⟩) (hx : ev s x = some (.raw (.string t) h)) :
    Pt E ⟨dst, .call { callee := .builtin .len, args := #[x], argTypes := aty }, ty, ps, af, gd⟩ s (.int .i64 (t.size : Int)) := fun c ho w => by
  subst haty
  obtain ⟨d, hd, hm⟩ := tt_underlying ht
  simp only [TD.met] at hm
  subst hm
  simp [execOp, resolve, invoke, builtin, ho.ev hx, D.val, Builtin.len_, run_underlying hd, goInt]

def evs (s : St) : List Operand → Option (List D)
  | [] => some []
  | x :: r => match ev s x, evs s r with
    | some d, some ds => some (d :: ds)
    | _, _ => none
theorem okT.evs {a : Act} (ho : okT E s a) : ∀ {xs : List Operand} {ds : List D}, evs s xs = some ds → xs.map a.eval = D.valL ds
  | [], ds, h => by simp [Gx.evs] at h; subst h; rfl
  | x :: r, ds, h => by
    simp only [Gx.evs] at h
    split at h
    · rename_i d ds' h1 h2
      simp only [Option.some.injEq] at h
      subst h
      simp only [List.map_cons, D.valL, ho.ev h1, ho.evs h2]
    · cases h

theorem ok.evs {a : Act} {w : World} (ho : ok E s a w) {xs : List Operand} {ds : List D} (h : evs s xs = some ds) : xs.map a.eval = D.valL ds := ho.t.evs h

def vals (ds : List D) : Array Value := (D.valL ds).toArray

/-! ### Calls -/
def Enters (P : Program) (f : FuncId) : Prop := ∀ args w, (callFunc f args).run P w = .ok (.enter f args) w
theorem enters_of {P : Program} {f : FuncId} {fn : Func} (hf : P.funcs[f]? = some fn) (hb : fn.body.isNone = false) (hn : (fn.name == "runtime.NumGoroutine") = false) : Enters P f := fun args w => by
  have hp : (program : Sem Program).run P w = .ok P w := rfl
  simp only [callFunc, Sem.run_bind, hp, Result.andThen_ok, hf, hn, hb, Bool.false_eq_true, if_false, Sem.run_pure]

/-- A call that only reads: 'need' is what it must know of memory. -/
def CR (P : Program) (f : FuncId) (args : Array Value) (need : List Ent) (d : D) : Prop := ∀ w, HpOk need w → Calls P f args w (fun e w' => e = .returned d.val ∧ Below w.heap.size w w')

/-- What one may know of memory out of what one knows. -/
def View (hp need : List Ent) : Prop := ∀ w, HpOk hp w → HpOk need w
theorem View.none (hp : List Ent) : View hp [] := fun _ _ => ⟨by simp, by simp [wkeys], by simp [rkeys]⟩
theorem View.refl (hp : List Ent) : View hp hp := fun _ h => h

theorem q_call {f : FuncId} {xs : List Operand} {tys : Array TypeId} {ds : List D} {need : List Ent} {d : D} (hen : Enters E.P f) (hx : evs s xs = some ds) (hc : CR E.P f (vals ds) need d) (hv : View s.hp need) :
    Qt E ⟨dst, .call { callee := .value (.func f), args := xs.toArray, argTypes := tys }, ty, ps, af, gd⟩ s d := fun a w ho => by
  refine .inr ⟨f, vals ds, ?_, hc w (hv w ho.hp)⟩
  have e : a.eval (.func f) = .func (.func f) #[] #[] := rfl
  simp [execOp, resolve, e, Deferred.ofValue, invoke, ho.evs hx, vals]
  exact hen _ w

end
end Gx
end Go.Proofs.Ytjihhcjpbcmjaaa
namespace Go.Proofs.Ytjihhcjpbcmjaaa
open Go
namespace Gx
open Go.RowKit (Below)

/-! ### One entry turned -/
inductive HpRep (e e' : Ent) : List Ent → List Ent → Prop
  | head {r : List Ent} : HpRep e e' (e :: r) (e' :: r)
  | tail {x : Ent} {r r' : List Ent} (h : HpRep e e' r r') : HpRep e e' (x :: r) (x :: r')

theorem HpRep.mem {e e' : Ent} {hp hp' : List Ent} (h : HpRep e e' hp hp') : e ∈ hp := by
  induction h with
  | head => simp
  | tail _ ih => simp [ih]
theorem HpRep.mem' {e e' x : Ent} {hp hp' : List Ent} (h : HpRep e e' hp hp') (hx : x ∈ hp') : x = e' ∨ x ∈ hp := by
  induction h with
  | head => rcases List.mem_cons.1 hx with h | h <;> simp [h]
  | tail _ ih =>
    rcases List.mem_cons.1 hx with h | h
    · simp [h]
    · rcases ih h with h | h <;> simp [h]

/-- What stands beside the turned entry. -/
theorem HpRep.split {e e' : Ent} {hp hp' : List Ent} (h : HpRep e e' hp hp') : ∃ l r, hp = l ++ e :: r ∧ hp' = l ++ e' :: r := by
  induction h with
  | @head r => exact ⟨[], r, rfl, rfl⟩
  | @tail x r r' _ ih =>
    obtain ⟨l, q, h1, h2⟩ := ih
    exact ⟨x :: l, q, by simp [h1], by simp [h2]⟩

theorem HpOk.rep {hp hp' : List Ent} {w w' : World} {e e' : Ent} {b b' : Nat} (h : HpOk hp w) (hr : HpRep e e' hp hp') (hk : e.wkey = [b]) (hk' : e'.wkey = [b']) (hr' : e'.rkey = []) (hr0 : e.rkey = [])
    (hlt : ∀ x ∈ hp, ∀ k ∈ x.rkey, k < w.heap.size) (he : e'.ok w') (hw : ∀ k, k < w.heap.size → k ≠ b → w'.heap[k]? = w.heap[k]?) (hb : b' = b ∨ w.heap.size ≤ b') : HpOk hp' w' := by
  obtain ⟨l, r, rfl, rfl⟩ := hr.split
  have hnd := h.nodup
  have hap := h.apart
  rw [wkeys_append, wkeys, hk] at hnd
  have hnb : b ∉ wkeys l ∧ b ∉ wkeys r := by
    rw [List.nodup_append] at hnd
    obtain ⟨_, h2, h3⟩ := hnd
    rw [List.cons_append, List.nil_append, List.nodup_cons] at h2
    exact ⟨fun hm => h3 b hm b (by simp) rfl, h2.1⟩
  have hrb : b ∉ rkeys l ∧ b ∉ rkeys r := by
    constructor <;> intro hm
    · exact hap b (by rw [rkeys_append]; simp [hm]) (by rw [wkeys_append, wkeys, hk]; simp)
    · exact hap b (by rw [rkeys_append, rkeys]; simp [hm]) (by rw [wkeys_append, wkeys, hk]; simp)
  have hold : ∀ x, (x ∈ l ∨ x ∈ r) → x.ok w' := fun x hx => by
    refine Ent.ok_of_blocks (h.all x (by rcases hx with hx | hx <;> simp [hx])) fun k hkk hlt => hw k hlt ?_
    rintro rfl
    rcases hkk with hkk | hkk <;> rcases hx with hx | hx
    · exact hnb.1 (mem_wkeys.2 ⟨x, hx, hkk⟩)
    · exact hnb.2 (mem_wkeys.2 ⟨x, hx, hkk⟩)
    · exact hrb.1 (mem_rkeys.2 ⟨x, hx, hkk⟩)
    · exact hrb.2 (mem_rkeys.2 ⟨x, hx, hkk⟩)
  have hfresh : b' ∉ wkeys l ∧ b' ∉ wkeys r := by
    rcases hb with rfl | hb
    · exact hnb
    · constructor <;> intro hm
      · have := h.key_lt (b := b') (by rw [wkeys_append]; simp [hm]); omega
      · have := h.key_lt (b := b') (by rw [wkeys_append, wkeys]; simp [hm]); omega
  refine ⟨fun x hx => ?_, ?_, ?_⟩
  · rcases List.mem_append.1 hx with hx | hx
    · exact hold x (.inl hx)
    · rcases List.mem_cons.1 hx with rfl | hx
      · exact he
      · exact hold x (.inr hx)
  · rw [wkeys_append, wkeys, hk']
    rw [List.nodup_append] at hnd ⊢
    obtain ⟨h1, h2, h3⟩ := hnd
    rw [List.cons_append, List.nil_append, List.nodup_cons] at h2 ⊢
    refine ⟨h1, ⟨hfresh.2, h2.2⟩, fun x hx y hy => ?_⟩
    rcases List.mem_cons.1 hy with rfl | hy
    · rintro rfl; exact hfresh.1 hx
    · exact h3 x hx y (by simp [hy])
  · intro k hk1 hk2
    rw [rkeys_append, rkeys, hr', List.nil_append, List.mem_append] at hk1
    rw [wkeys_append, wkeys, hk', List.mem_append, List.cons_append, List.nil_append, List.mem_cons] at hk2
    have hk3 : k ∈ rkeys (l ++ e :: r) := by rw [rkeys_append, rkeys, hr0, List.nil_append, List.mem_append]; exact hk1
    rcases hk2 with hk2 | rfl | hk2
    · exact hap k hk3 (by rw [wkeys_append]; simp [hk2])
    · rcases hb with rfl | hb
      · exact hap _ hk3 (by rw [wkeys_append, wkeys, hk]; simp)
      · obtain ⟨x, hx, hkx⟩ := mem_rkeys.1 hk3
        have := hlt x hx _ hkx
        omega
    · exact hap k hk3 (by rw [wkeys_append, wkeys]; simp [hk2])

theorem Ent.rkey_lt {w : World} {e : Ent} (h : e.ok w) : ∀ k ∈ e.rkey, k < w.heap.size := by
  cases e with
  | var b d => simp [Ent.rkey]
  | rvar b d => obtain ⟨_, ty, ht⟩ := h; simp [Ent.rkey]; exact (Array.getElem?_eq_some_iff.1 ht).1
  | row b cap E r => simp [Ent.rkey]
  | ro b off r => simp only [Ent.rkey, List.mem_singleton]; rintro k rfl; exact h.1
  | any wk rk Q hs hl => exact fun k hk => hl w h k (.inr hk)

theorem ok.rep {E : Env} {s : St} {a : Act} {w w' : World} (h : ok E s a w) {e e' : Ent} {b b' : Nat} {hp' : List Ent} (hr : HpRep e e' s.hp hp') (hk : e.wkey = [b]) (hk' : e'.wkey = [b']) (hr' : e'.rkey = []) (hr0 : e.rkey = [])
    (he : e'.ok w') (hw : ∀ k, k < w.heap.size → k ≠ b → w'.heap[k]? = w.heap[k]?) (hb : b' = b ∨ w.heap.size ≤ b') (hos : w'.os = w.os) (htape : w'.tape = w.tape) (hout : w'.output = w.output) (hsz : w.heap.size ≤ w'.heap.size) :
    ok E ⟨s.tm, hp'⟩ a w' := by
  have hbw : b ∈ wkeys s.hp := mem_wkeys.2 ⟨e, hr.mem, by simp [hk]⟩
  refine ⟨h.size, h.defers, h.tm, h.hp.rep hr hk hk' hr' hr0 (fun x hx => Ent.rkey_lt (h.hp.all x hx)) he hw hb,
    ⟨hos.trans h.fr.os, htape.trans h.fr.tape, hout.trans h.fr.output, Nat.le_trans h.fr.size hsz, fun k hk1 hk2 => ?_, fun x hx => ?_⟩⟩
  · rw [hw k (Nat.lt_of_lt_of_le hk1 h.fr.size) ?_]
    · exact h.fr.block k hk1 hk2
    · rintro rfl
      rcases h.fr.own _ hbw with h1 | h1
      · exact hk2 h1
      · omega
  · obtain ⟨y, hy, hxy⟩ := mem_wkeys.1 hx
    rcases hr.mem' hy with rfl | hy
    · rw [hk'] at hxy
      simp only [List.mem_singleton] at hxy
      subst hxy
      rcases hb with rfl | hb
      · exact h.fr.own _ hbw
      · right; exact Nat.le_trans h.fr.size hb
    · exact h.fr.own x (mem_wkeys.2 ⟨y, hy, hxy⟩)

/-- New entries in new blocks. -/
theorem ok.more {E : Env} {s : St} {a : Act} {w w' : World} (h : ok E s a w) (hb : Below w.heap.size w w') {new : List Ent} (hn : HpOk new w') (hr : rkeys new = []) (hf : ∀ b ∈ wkeys new, w.heap.size ≤ b) :
    ok E ⟨s.tm, new ++ s.hp⟩ a w' := by
  have h' := h.below hb
  refine ⟨h.size, h.defers, h.tm, ⟨fun e he => ?_, ?_, ?_⟩, ⟨h'.fr.os, h'.fr.tape, h'.fr.output, h'.fr.size, h'.fr.block, fun b hbb => ?_⟩⟩
  · rcases List.mem_append.1 he with he | he
    · exact hn.all e he
    · exact h'.hp.all e he
  · rw [wkeys_append, List.nodup_append]
    refine ⟨hn.nodup, h'.hp.nodup, fun x hx y hy => ?_⟩
    rintro rfl
    have h1 := hf x hx
    have h2 := h.hp.key_lt hy
    omega
  · intro b h1 h2
    rw [rkeys_append, hr, List.nil_append] at h1
    rw [wkeys_append, List.mem_append] at h2
    rcases h2 with h2 | h2
    · obtain ⟨x, hx, hkx⟩ := mem_rkeys.1 h1
      have := Ent.rkey_lt (h.hp.all x hx) b hkx
      have := hf b h2
      omega
    · exact h'.hp.apart b h1 h2
  · rw [wkeys_append, List.mem_append] at hbb
    rcases hbb with hbb | hbb
    · right; exact Nat.le_trans h.fr.size (hf b hbb)
    · exact h'.fr.own b hbb

theorem ok.alloc {E : Env} {s : St} {a : Act} {w : World} (h : ok E s a w) {d : D} (hd : d.flat = true) (ty : TypeId) : ok E ⟨s.tm, .var w.heap.size d :: s.hp⟩ a (w.alloc (.cells d.cells.toArray ty)) :=
  h.more (new := [.var w.heap.size d]) ((Below.refl _ _).alloc (Nat.le_refl _) _)
    ⟨fun e he => by
      simp only [List.mem_singleton] at he; subst he
      exact ⟨hd, ty, heap_alloc_new w _⟩, by simp [wkeys, Ent.wkey], by simp [rkeys, Ent.rkey]⟩ rfl (by simp [wkeys, Ent.wkey])

section
variable {E : Env} {s : St} {ty : TypeId} {ps : String} {af : Array Edge} {gd : Option (Nat × Bool)} {K : St → Prop} {k : Nat}

theorem xt_value {o : Oper} (h : ∀ a w, ok E s a w → ∃ d w', (execOp a.eval o).run E.P w = .ok (.value d) w' ∧ ∃ s', K s' ∧ ok E s' (a.put o.dst d) w') : Xt E o s K := fun a w ho Kw Q hK => by
  obtain ⟨d, w', h1, s', h2, h3⟩ := h a w ho
  unfold Oper.wp
  rw [h1]
  exact hK _ _ _ h2 h3
theorem xt_skip {op : Op} (h : ∀ a w, ok E s a w → ∃ w', (execOp a.eval ⟨none, op, ty, ps, af, gd⟩).run E.P w = .ok .skip w' ∧ ∃ s', K s' ∧ ok E s' a w') : Xt E ⟨none, op, ty, ps, af, gd⟩ s K := fun a w ho Kw Q hK => by
  obtain ⟨w', h1, s', h2, h3⟩ := h a w ho
  unfold Oper.wp
  rw [h1]
  exact hK _ _ _ h2 h3

theorem run_newVar (P : Program) (w : World) (T : TypeId) (d : D) (hd : d.flat = true) : (newVar T d.val).run P w = .ok ⟨w.heap.size, 0, none⟩ (w.alloc (.cells d.cells.toArray T)) := by
  simp [newVar, newRow, D.val_cells d hd]

theorem x_alloc {T : TypeId} {i : TI} (ht : E.tt T = some i) (hk : k < E.n) (h : ∀ b, K ⟨(k, .ptr b 0 none) :: s.tm, .var b i.zero :: s.hp⟩) : Xt E ⟨some k, .alloc T, ty, ps, af, gd⟩ s K := xt_value fun a w ho => by
  obtain ⟨x, hx, h1, h2, h3⟩ := tt_info ht
  have hf := (E.tok T i ht).2.2.1
  refine ⟨_, _, ?_, _, h w.heap.size, (ho.alloc hf T).put (d := .ptr w.heap.size 0 none) hk⟩
  simp [execOp, Instr.alloc, zeroValue, typeInfo, hx, h3, run_newVar _ _ _ _ hf, D.val]

theorem x_box {T : TypeId} {x : Operand} {d : D} (hx : ev s x = some d) (hd : d.flat = true) (hk : k < E.n) (h : ∀ b, K ⟨(k, .ptr b 0 none) :: s.tm, .var b d :: s.hp⟩) : Xt E ⟨some k, .box T x, ty, ps, af, gd⟩ s K := xt_value fun a w ho => by
  refine ⟨_, _, ?_, _, h w.heap.size, (ho.alloc hd T).put (d := .ptr w.heap.size 0 none) hk⟩
  simp [execOp, Instr.box, ho.ev hx, run_newVar _ _ _ _ hd, D.val]

theorem run_storeAt (P : Program) (w : World) (T : TypeId) (b at_ : Nat) (d0 nw : D) (ty : TypeId) (cs' : List Value) {i : TI} (hT : i.met P T) (hw : w.heap[b]? = some (.cells d0.cells.toArray ty (0, 0))) (hf : nw.flat = true) (hs : nw.size = i.size)
    (h : Writes d0.cells at_ nw cs') : (Instr.storeAt T (.pointer (some ⟨b, at_, none⟩)) nw.val).run P w = .ok () (w.setRow b cs'.toArray) := by
  obtain ⟨h1, h2⟩ := h
  have hi := hT.2.1
  cases hx : P.info? T with
  | none => simp [hx] at hi
  | some x =>
    simp [hx] at hi
    have hl : nw.cells.length = x.size := by rw [D.length_cells, hs, hi.1]
    have := run_storeCells_at (P := P) b at_ ty nw.cells 0 d0.cells.toArray w hw (by simp only [List.size_toArray, Nat.add_zero, D.length_cells nw]; exact h2) (D.oneCell nw)
    simp only [Nat.add_zero] at this
    have e : cs' = d0.cells.take at_ ++ nw.cells ++ d0.cells.drop (at_ + nw.cells.length) := h1
    simp [Instr.storeAt, Instr.sureAddr, storeVar, sizeOf, typeInfo, hx, D.val_cells nw hf, hl, this, e]

theorem x_store {T b o : Nat} {e : Option Nat} {x y : Operand} {i : TI} {d0 d1 nw : D} {C : Prop} {hp' : List Ent} (ht : E.tt T = some i) (hx : ev s x = some (.ptr b o e)) (hy : ev s y = some nw) (hf : nw.flat = true) (hs : nw.size = i.size)
    (hr : HpRep (.var b d0) (.var b d1) s.hp hp') (hu : d0.upd o e nw = some (C, d1)) (hC : C) (h : K ⟨s.tm, hp'⟩) : Xt E ⟨none, .store T x y, ty, ps, af, gd⟩ s K := xt_skip fun a w ho => by
  obtain ⟨hf0, ty', hw⟩ := ho.hp.all _ hr.mem
  obtain ⟨hwr, h1, h2, _⟩ := D.upd_writes d0 o e nw C d1 hu hC hf hf0
  have hrun := run_storeAt E.P w T b (o + e.getD 0) d0 nw ty' d1.cells (E.tok T i ht) hw hf hs hwr
  refine ⟨w.setRow b d1.cells.toArray, ?_, _, h, ho.rep (b := b) (b' := b) hr rfl rfl rfl rfl ⟨h2, ty', setRow_heap w b _ _ _ _ hw⟩ (fun q _ hq => setRow_other w b q _ hq) (.inl rfl) rfl rfl rfl (by simp)⟩
  have e1 : (execOp a.eval ⟨none, .store T x y, ty, ps, af, gd⟩) = (do Instr.storeAt T (a.eval x) (a.eval y); pure .skip) := rfl
  rw [e1, ho.ev hx, ho.ev hy]
  simp only [D.val, Sem.run_bind, hrun, Result.andThen_ok, Sem.run_pure]

/-! ### Literals -/
theorem foldl_set (new : List Value) : ∀ (q : Nat) (off : Nat) (cs : Array Value), off + q + new.length ≤ cs.size →
    (new.zipIdx q).foldl (fun (cs : Array Value) (p : Value × Nat) => cs.setIfInBounds (off + p.2) p.1) cs = (spl cs.toList (off + q) new).toArray := by
  induction new with
  | nil => intro q off cs _; simp [spl]
  | cons v r ih =>
    intro q off cs h
    simp only [List.length_cons] at h
    simp only [List.zipIdx_cons, List.foldl_cons]
    rw [ih (q + 1) off _ (by simp; omega)]
    congr 1
    apply List.ext_getElem?
    intro j
    rw [spl_getElem? _ _ _ (by simp; omega), spl_getElem? _ _ _ (by simp; omega)]
    simp only [Array.toList_setIfInBounds, List.length_cons, List.getElem?_set, Array.length_toList]
    by_cases h1 : off + (q + 1) ≤ j ∧ j < off + (q + 1) + r.length
    · rw [if_pos h1, if_pos ⟨by omega, by omega⟩, show j - (off + q) = (j - (off + (q + 1))) + 1 by omega, List.getElem?_cons_succ]
    · rw [if_neg h1]
      by_cases h2 : off + q = j
      · subst h2
        rw [if_pos rfl, if_pos (by omega), if_pos ⟨by omega, by omega⟩]
        simp
      · rw [if_neg h2, if_neg (by omega)]

def fillD (place : Nat → Option (Nat × Option Nat × Nat)) : D → List (Nat × D) → Option (Prop × D)
  | z, [] => some (True, z)
  | z, (i, d) :: r => match place i with
    | none => none
    | some (o, e, size) => if (Nat.beq d.size size && d.flat) = true then (match z.upd o e d with
        | none => none
        | some (C, z') => (fillD place z' r).map fun p => (C ∧ p.1, p.2)) else none

theorem fill_ok (place : Nat → Option (Nat × Option Nat × Nat)) (pl : Nat → Option (Nat × Nat)) (hpl : ∀ i, pl i = (place i).map fun p => (p.1 + p.2.1.getD 0, p.2.2)) : ∀ (parts : List (Nat × D)) (z d : D) (C : Prop), fillD place z parts = some (C, d) → C → z.flat = true →
    Instr.fill pl z.cells.toArray (parts.map fun p => (p.1, p.2.val)) = some d.cells.toArray ∧ d.flat = true ∧ d.size = z.size ∧ d.isAgg = z.isAgg
  | [], z, d, C, h, _, hz => by
    simp only [fillD, Option.some.injEq, Prod.mk.injEq] at h
    obtain ⟨_, rfl⟩ := h
    simp [Instr.fill, hz]
  | (i, x) :: r, z, d, C, h, hC, hz => by
    unfold fillD at h
    cases hp : place i with
    | none => simp [hp] at h
    | some q =>
      obtain ⟨o, e, size⟩ := q
      simp only [hp] at h
      split at h
      · rename_i hb
        simp only [Bool.and_eq_true, Nat.beq_eq] at hb
        obtain ⟨hsz, hfx⟩ := hb
        cases hu : z.upd o e x with
        | none => simp [hu] at h
        | some p =>
          obtain ⟨C1, z'⟩ := p
          simp only [hu] at h
          cases hr : fillD place z' r with
          | none => simp [hr] at h
          | some p2 =>
            obtain ⟨C2, d2⟩ := p2
            simp only [hr, Option.map_some, Option.some.injEq, Prod.mk.injEq] at h
            obtain ⟨rfl, rfl⟩ := h
            obtain ⟨⟨h1, h2⟩, h3, h4, h5⟩ := D.upd_writes z o e x C1 z' hu hC.1 hfx hz
            obtain ⟨i1, i2, i3, i4⟩ := fill_ok place pl hpl r z' d2 C2 hr hC.2 h4
            refine ⟨?_, i2, i3.trans h3, i4.trans h5⟩
            have hpi : pl i = some (o + e.getD 0, size) := by rw [hpl, hp]; rfl
            have hxs : x.cells.length = x.size := D.length_cells x
            have hzl : z.cells.length = z.size := D.length_cells z
            simp only [List.map_cons, Instr.fill, hpi, D.val_cells x hfx, List.size_toArray, hxs, hsz]
            rw [if_neg (by simp; omega)]
            have := foldl_set x.cells 0 (o + e.getD 0) z.cells.toArray (by simp only [List.size_toArray, Nat.add_zero, hxs]; omega)
            simp only [Nat.add_zero] at this
            have e1 : (x.cells.toArray.zipIdx.foldl (fun cs (c, j) => cs.setIfInBounds (o + e.getD 0 + j) c) z.cells.toArray) = z'.cells.toArray := by
              rw [h1, ← Array.foldl_toList]
              simpa using this
            rw [e1]
            exact i1
      · cases h

def evp (s : St) : List (Nat × Operand) → Option (List (Nat × D))
  | [] => some []
  | (i, x) :: r => match ev s x, evp s r with
    | some d, some ds => some ((i, d) :: ds)
    | _, _ => none
theorem okT.evp {a : Act} (ho : okT E s a) : ∀ {xs : List (Nat × Operand)} {ds : List (Nat × D)}, evp s xs = some ds → xs.map (fun p => (p.1, a.eval p.2)) = ds.map fun p => (p.1, p.2.val)
  | [], ds, h => by simp [Gx.evp] at h; subst h; rfl
  | (i, x) :: r, ds, h => by
    simp only [Gx.evp] at h
    split at h
    · rename_i d ds' h1 h2
      simp only [Option.some.injEq] at h
      subst h
      simp only [List.map_cons, ho.ev h1, ho.evp h2]
    · cases h

theorem ok.evp {a : Act} {w : World} (ho : ok E s a w) {xs : List (Nat × Operand)} {ds : List (Nat × D)} (h : evp s xs = some ds) : xs.map (fun p => (p.1, a.eval p.2)) = ds.map fun p => (p.1, p.2.val) := ho.t.evp h

def sPlace (os : List Nat) (szs : List Nat) (i : Nat) : Option (Nat × Option Nat × Nat) := match os[i]?, szs[i]? with
  | some o, some z => some (o, none, z)
  | _, _ => none

/-- The sizes of a struct's fields. -/
def sizes (E : Env) : List Nat → Option (List Nat)
  | [] => some []
  | t :: r => match E.tt t, sizes E r with
    | some i, some l => some (i.size :: l)
    | _, _ => none

theorem mapM_places (P : Program) (w : World) : ∀ (fs : List Field) (szs : List Nat), (∀ (j : Nat) (f : Field), fs[j]? = some f → ∃ x, P.info? f.type = some x ∧ szs[j]? = some x.size) →
    (fs.mapM (fun (f : Field) => (do pure (f.offset, ← sizeOf f.type) : Sem (Nat × Nat)))).run P w = .ok ((fs.zip szs).map fun p => (p.1.offset, p.2)) w
  | [], szs, _ => by simp
  | f :: r, szs, h => by
    obtain ⟨x, hx, hs⟩ := h 0 f rfl
    cases szs with
    | nil => simp at hs
    | cons z szs =>
      simp only [List.getElem?_cons_zero, Option.some.injEq] at hs
      subst hs
      have ih := mapM_places P w r szs (fun j g hg => h (j + 1) g (by simpa using hg))
      have hsz : (sizeOf f.type).run P w = .ok x.size w := by simp [sizeOf, typeInfo, hx]
      simp only [List.mapM_cons, Sem.run_bind, hsz, Result.andThen_ok, Sem.run_pure, ih, List.zip_cons_cons, List.map_cons]

theorem sizes_get {E : Env} : ∀ {ts : List Nat} {szs : List Nat}, sizes E ts = some szs → ∀ (j t : Nat), ts[j]? = some t → ∃ i, E.tt t = some i ∧ szs[j]? = some i.size
  | [], szs, h, j, t, ht => by simp at ht
  | t0 :: r, szs, h, j, t, ht => by
    simp only [sizes] at h
    split at h
    · rename_i i l h1 h2
      simp only [Option.some.injEq] at h
      subst h
      cases j with
      | zero => simp at ht; subst ht; exact ⟨i, h1, rfl⟩
      | succ j => simpa using sizes_get h2 j t (by simpa using ht)
    · cases h

variable {dst : Option Tmp}
theorem p_build {T : Nat} {os ts szs : List Nat} {sz by_ : Nat} {z d : D} {parts : List (Nat × Operand)} {ds : List (Nat × D)} {C : Prop} (ht : E.tt T = some ⟨.struct os ts, sz, by_, z⟩) (hs : sizes E ts = some szs) (hp : evp s parts = some ds)
    (hf : fillD (sPlace os szs) z ds = some (C, d)) (hC : C) : Pt E ⟨dst, .build T parts.toArray, ty, ps, af, gd⟩ s d := fun a ho w => by
  obtain ⟨td, hd, fs, rfl, e1, e2⟩ := tt_underlying ht
  obtain ⟨x, hx, _, _, hz⟩ := tt_info ht
  obtain ⟨_, _, hzf, _, hza⟩ := E.tok T _ ht
  have hplaces := mapM_places E.P w fs.toList szs (fun j f hj => by
    obtain ⟨i, h1, h2⟩ := sizes_get hs j f.type (by rw [← e2]; simp [hj])
    obtain ⟨y, hy, hys, _⟩ := tt_info h1
    exact ⟨y, hy, by rw [h2, hys]⟩)
  have hlen : os.length = fs.toList.length := by rw [← e1]; simp
  obtain ⟨i1, i2, i3, i4⟩ := fill_ok (sPlace os szs) (fun i => (((fs.toList.zip szs).map fun p => (p.1.offset, p.2)).toArray)[i]?) (fun i => by
    simp only [sPlace, List.getElem?_toArray, List.getElem?_map]
    rw [← e1, List.getElem?_map]
    cases hf' : fs.toList[i]? with
    | none => simp [hf', List.zip, List.getElem?_zipWith]
    | some f =>
      cases hz' : szs[i]? with
      | none => simp [hf', hz', List.zip, List.getElem?_zipWith]
      | some zz => simp [hf', hz', List.zip, List.getElem?_zipWith]) ds z d C hf hC hzf
  have hagd : d.isAgg = true := by rw [i4]; exact hza
  have hm : (fs.mapM (fun (f : Field) => (do pure (f.offset, ← sizeOf f.type) : Sem (Nat × Nat)))).run E.P w = .ok ((fs.toList.zip szs).map fun p => (p.1.offset, p.2)).toArray w := by
    rw [Array.mapM_eq_mapM_toList, Sem.run_map, hplaces]
    rfl
  have hev := ho.evp hp
  simp only [execOp, Instr.build, zeroValue, typeInfo, Sem.run_bind]
  have hprog : (program : Sem Program).run E.P w = .ok E.P w := rfl
  simp only [hprog, Result.andThen_ok, hx, Sem.run_pure, hz, run_underlying hd]
  simp only [List.map_toArray, hev, D.val_cells z hzf]
  simp only [Sem.run_bind, hm, Result.andThen_ok, i1, Sem.run_pure, D.val_agg d hagd]

theorem p_build_arr {T len el : Nat} {ei : TI} {sz by_ : Nat} {z d : D} {parts : List (Nat × Operand)} {ds : List (Nat × D)} {C : Prop} (ht : E.tt T = some ⟨.arr len el, sz, by_, z⟩) (h3 : E.tt el = some ei) (hp : evp s parts = some ds)
    (hf : fillD (fun i => some (0, some (mulS i ei.size), ei.size)) z ds = some (C, d)) (hC : C) : Pt E ⟨dst, .build T parts.toArray, ty, ps, af, gd⟩ s d := fun a ho w => by
  obtain ⟨td, hd, hm⟩ := tt_underlying ht
  simp only [TD.met] at hm
  subst hm
  obtain ⟨x, hx, _, _, hz⟩ := tt_info ht
  obtain ⟨xe, hxe, hxs, _, _⟩ := tt_info h3
  obtain ⟨_, _, hzf, _, hza⟩ := E.tok T _ ht
  obtain ⟨i1, i2, i3, i4⟩ := fill_ok (fun i => some (0, some (mulS i ei.size), ei.size)) (fun i => some (i * ei.size, ei.size)) (fun i => by simp [mulS_eq]) ds z d C hf hC hzf
  have hagd : d.isAgg = true := by rw [i4]; exact hza
  have hev := ho.evp hp
  have hprog : (program : Sem Program).run E.P w = .ok E.P w := rfl
  simp only [execOp, Instr.build, zeroValue, typeInfo, Sem.run_bind]
  simp only [hprog, Result.andThen_ok, hx, Sem.run_pure, hz, run_underlying hd, sizeOf, typeInfo, Sem.run_bind, hxe, hxs]
  simp only [List.map_toArray, hev, D.val_cells z hzf, i1, Sem.run_pure, Result.andThen_ok, D.val_agg d hagd]

end
end Gx
end Go.Proofs.Ytjihhcjpbcmjaaa
namespace Go.Proofs.Ytjihhcjpbcmjaaa
open Go
namespace Gx
open Go.RowKit (Below)

/-! ### Rows -/
def intsOf (k : IntKind) : List D → Option (List Int)
  | [] => some []
  | .int k' n :: r => if k' = k then (intsOf k r).map (n :: ·) else none
  | _ => none
def u8sOf : List D → Option (List (Fin 256))
  | [] => some []
  | .u8 n :: r => (u8sOf r).map (n :: ·)
  | _ => none
def arrsOf (m : Nat) : List D → Option (List (Nat → Fin 256))
  | [] => some []
  | .arr8 m' f :: r => if m' = m then (arrsOf m r).map (f :: ·) else none
  | _ => none
def arrisOf (k : IntKind) (m : Nat) : List D → Option (List (Nat → Int))
  | [] => some []
  | .arr k' m' f :: r => if m' = m ∧ k' = k then (arrisOf k m r).map (f :: ·) else none
  | _ => none
def oneB : D → Bool
  | .int _ _ => true
  | .u8 _ => true
  | .bool _ => true
  | .ptr _ _ _ => true
  | .sl _ _ _ _ => true
  | .raw _ _ => true
  | _ => false
theorem oneB_val : ∀ {d : D}, oneB d = true → d.val.oneCell' = true ∧ d.cells = [d.val]
  | .int _ _, _ => ⟨rfl, rfl⟩
  | .u8 _, _ => ⟨rfl, rfl⟩
  | .bool _, _ => ⟨rfl, rfl⟩
  | .ptr _ _ _, _ => ⟨rfl, rfl⟩
  | .sl _ _ _ _, _ => ⟨rfl, rfl⟩
  | .raw _ h, _ => ⟨h, rfl⟩
def valsOf : List D → Option { l : List Value // ∀ v ∈ l, v.oneCell' = true }
  | [] => some ⟨[], by simp⟩
  | d :: r => if h : oneB d = true then (valsOf r).map fun p => ⟨d.val :: p.1, by
      intro v hv
      rcases List.mem_cons.1 hv with rfl | hv
      · exact (oneB_val h).1
      · exact p.2 v hv⟩ else none
def levsOf : List D → Option (List (Int × (Nat → Bool) × (Nat → Fin 256)))
  | [] => some []
  | .agg [.int .i64 b, .barr 10 h, .arr8 100 f] :: r => (levsOf r).map ((b, h, f) :: ·)
  | _ => none
theorem levsOf_cells : ∀ {ds : List D} {l : List (Int × (Nat → Bool) × (Nat → Fin 256))}, levsOf ds = some l → ds.flatMap D.cells = (l.flatMap fun q => (levD q).cells) ∧ ds.length = l.length := by
  intro ds
  induction ds with
  | nil => intro l h; simp [levsOf] at h; subst h; simp
  | cons d r ih =>
    intro l h
    unfold levsOf at h
    split at h
    · rename_i e; cases e
    · rename_i b hh f r' e
      cases e
      cases hr : levsOf r with
      | none => simp [hr] at h
      | some l' =>
        simp only [hr, Option.map_some, Option.some.injEq] at h
        subst h
        have := ih hr
        simp only [List.flatMap_cons, this.1, List.length_cons, this.2, levD, and_self]
    · cases h
/-- The row of some elements; what kind of row the zero value tells. -/
def mkRw : D → List D → Option Rw
  | .int k _, ds => (intsOf k ds).map (.ints k)
  | .u8 _, ds => (u8sOf ds).map .u8s
  | .arr8 m _, ds => (arrsOf m ds).map (.arrs m)
  | .arr k m _, ds => (arrisOf k m ds).map (.arri k m)
  | .raw _ _, ds => (valsOf ds).map fun p => .vals p.1 p.2
  | .agg _, ds => (levsOf ds).map .levs
  | _, _ => none

theorem intsOf_cells {k : IntKind} : ∀ {ds : List D} {l : List Int}, intsOf k ds = some l → ds.flatMap D.cells = l.map (Value.int k) ∧ ds.length = l.length
  | [], l, h => by simp [intsOf] at h; subst h; simp
  | .int k' n :: r, l, h => by
    simp only [intsOf] at h
    split at h
    · rename_i e; subst e
      cases hr : intsOf k' r with
      | none => simp [hr] at h
      | some l' =>
        simp only [hr, Option.map_some, Option.some.injEq] at h
        subst h
        have := intsOf_cells hr
        simp [List.flatMap_cons, D.cells, this.1, this.2]
    · cases h
  | .u8 _ :: _, l, h => by simp [intsOf] at h
  | .bool _ :: _, l, h => by simp [intsOf] at h
  | .arr _ _ _ :: _, l, h => by simp [intsOf] at h
  | .arr8 _ _ :: _, l, h => by simp [intsOf] at h
  | .barr _ _ :: _, l, h => by simp [intsOf] at h
  | .varr _ _ _ :: _, l, h => by simp [intsOf] at h
  | .ptr _ _ _ :: _, l, h => by simp [intsOf] at h
  | .sl _ _ _ _ :: _, l, h => by simp [intsOf] at h
  | .raw _ _ :: _, l, h => by simp [intsOf] at h
  | .agg _ :: _, l, h => by simp [intsOf] at h
  | .tup _ :: _, l, h => by simp [intsOf] at h
theorem u8sOf_cells : ∀ {ds : List D} {l : List (Fin 256)}, u8sOf ds = some l → ds.flatMap D.cells = (l.map fun x => Value.int .u8 (x.val : Int)) ∧ ds.length = l.length
  | [], l, h => by simp [u8sOf] at h; subst h; simp
  | .u8 n :: r, l, h => by
    simp only [u8sOf] at h
    cases hr : u8sOf r with
    | none => simp [hr] at h
    | some l' =>
      simp only [hr, Option.map_some, Option.some.injEq] at h
      subst h
      have := u8sOf_cells hr
      simp [List.flatMap_cons, D.cells, this.1, this.2]
  | .int _ _ :: _, l, h => by simp [u8sOf] at h
  | .bool _ :: _, l, h => by simp [u8sOf] at h
  | .arr _ _ _ :: _, l, h => by simp [u8sOf] at h
  | .arr8 _ _ :: _, l, h => by simp [u8sOf] at h
  | .barr _ _ :: _, l, h => by simp [u8sOf] at h
  | .varr _ _ _ :: _, l, h => by simp [u8sOf] at h
  | .ptr _ _ _ :: _, l, h => by simp [u8sOf] at h
  | .sl _ _ _ _ :: _, l, h => by simp [u8sOf] at h
  | .raw _ _ :: _, l, h => by simp [u8sOf] at h
  | .agg _ :: _, l, h => by simp [u8sOf] at h
  | .tup _ :: _, l, h => by simp [u8sOf] at h
theorem arrsOf_cells {m : Nat} : ∀ {ds : List D} {l : List (Nat → Fin 256)}, arrsOf m ds = some l → ds.flatMap D.cells = (l.flatMap fun f => (List.range m).map fun i => Value.int .u8 ((f i).val : Int)) ∧ ds.length = l.length
  | [], l, h => by simp [arrsOf] at h; subst h; simp
  | .arr8 m' f :: r, l, h => by
    simp only [arrsOf] at h
    split at h
    · rename_i e; subst e
      cases hr : arrsOf m' r with
      | none => simp [hr] at h
      | some l' =>
        simp only [hr, Option.map_some, Option.some.injEq] at h
        subst h
        have := arrsOf_cells hr
        simp [List.flatMap_cons, D.cells, this.1, this.2]
    · cases h
  | .int _ _ :: _, l, h => by simp [arrsOf] at h
  | .u8 _ :: _, l, h => by simp [arrsOf] at h
  | .bool _ :: _, l, h => by simp [arrsOf] at h
  | .arr _ _ _ :: _, l, h => by simp [arrsOf] at h
  | .barr _ _ :: _, l, h => by simp [arrsOf] at h
  | .varr _ _ _ :: _, l, h => by simp [arrsOf] at h
  | .ptr _ _ _ :: _, l, h => by simp [arrsOf] at h
  | .sl _ _ _ _ :: _, l, h => by simp [arrsOf] at h
  | .raw _ _ :: _, l, h => by simp [arrsOf] at h
  | .agg _ :: _, l, h => by simp [arrsOf] at h
  | .tup _ :: _, l, h => by simp [arrsOf] at h
theorem arrisOf_cells {k : IntKind} {m : Nat} : ∀ {ds : List D} {l : List (Nat → Int)}, arrisOf k m ds = some l → ds.flatMap D.cells = (l.flatMap fun f => (List.range m).map fun i => Value.int k (f i)) ∧ ds.length = l.length
  | [], l, h => by simp [arrisOf] at h; subst h; simp
  | .arr k' m' f :: r, l, h => by
    simp only [arrisOf] at h
    split at h
    · rename_i e; obtain ⟨rfl, rfl⟩ := e
      cases hr : arrisOf k' m' r with
      | none => simp [hr] at h
      | some l' =>
        simp only [hr, Option.map_some, Option.some.injEq] at h
        subst h
        have := arrisOf_cells hr
        simp [List.flatMap_cons, D.cells, this.1, this.2]
    · cases h
  | .int _ _ :: _, l, h => by simp [arrisOf] at h
  | .u8 _ :: _, l, h => by simp [arrisOf] at h
  | .bool _ :: _, l, h => by simp [arrisOf] at h
  | .arr8 _ _ :: _, l, h => by simp [arrisOf] at h
  | .barr _ _ :: _, l, h => by simp [arrisOf] at h
  | .varr _ _ _ :: _, l, h => by simp [arrisOf] at h
  | .ptr _ _ _ :: _, l, h => by simp [arrisOf] at h
  | .sl _ _ _ _ :: _, l, h => by simp [arrisOf] at h
  | .raw _ _ :: _, l, h => by simp [arrisOf] at h
  | .agg _ :: _, l, h => by simp [arrisOf] at h
  | .tup _ :: _, l, h => by simp [arrisOf] at h
theorem valsOf_cells : ∀ {ds : List D} {p : { l : List Value // ∀ v ∈ l, v.oneCell' = true }}, valsOf ds = some p → ds.flatMap D.cells = p.1 ∧ ds.length = p.1.length
  | [], p, h => by simp [valsOf] at h; subst h; simp
  | d :: r, p, h => by
    simp only [valsOf] at h
    split at h
    · rename_i hd
      cases hr : valsOf r with
      | none => simp [hr] at h
      | some q =>
        simp only [hr, Option.map_some, Option.some.injEq] at h
        subst h
        have := valsOf_cells hr
        simp [List.flatMap_cons, (oneB_val hd).2, this.1, this.2]
    · cases h
theorem mkRw_cells {z : D} {ds : List D} {r : Rw} (h : mkRw z ds = some r) : ds.flatMap D.cells = r.cells ∧ ds.length = r.len := by
  cases z <;> simp only [mkRw, Option.map_eq_some_iff] at h
  case int k n => obtain ⟨l, hl, rfl⟩ := h; exact intsOf_cells hl
  case u8 n => obtain ⟨l, hl, rfl⟩ := h; exact u8sOf_cells hl
  case arr8 m f => obtain ⟨l, hl, rfl⟩ := h; exact arrsOf_cells hl
  case arr k m f => obtain ⟨l, hl, rfl⟩ := h; exact arrisOf_cells hl
  case raw v hv => obtain ⟨l, hl, rfl⟩ := h; exact valsOf_cells hl
  case agg fs => obtain ⟨l, hl, rfl⟩ := h; exact levsOf_cells hl
  all_goals cases h

/-- Rows one behind the other. -/
def Rw.app : Rw → Rw → Option Rw
  | .ints k l, .ints k' l' => if k = k' then some (.ints k (l ++ l')) else none
  | .u8s l, .u8s l' => some (.u8s (l ++ l'))
  | .arrs m l, .arrs m' l' => if m = m' then some (.arrs m (l ++ l')) else none
  | .arri k m l, .arri k' m' l' => if m = m' ∧ k = k' then some (.arri k m (l ++ l')) else none
  | .vals l h, .vals l' h' => some (.vals (l ++ l') (by intro v hv; rcases List.mem_append.1 hv with hv | hv; exact h v hv; exact h' v hv))
  | .levs l, .levs l' => some (.levs (l ++ l'))
  | _, _ => none
theorem Rw.app_ok {r r' q : Rw} (h : r.app r' = some q) : q.cells = r.cells ++ r'.cells ∧ q.len = r.len + r'.len ∧ q.size = r.size ∧ r'.size = r.size := by
  cases r <;> cases r' <;> simp only [Rw.app] at h
  case ints.ints k l k' l' =>
    split at h
    · rename_i e; subst e
      simp only [Option.some.injEq] at h; subst h
      simp [Rw.cells, Rw.len, Rw.size]
    · cases h
  case u8s.u8s l l' =>
    simp only [Option.some.injEq] at h; subst h
    simp [Rw.cells, Rw.len, Rw.size]
  case arrs.arrs m l m' l' =>
    split at h
    · rename_i e; subst e
      simp only [Option.some.injEq] at h; subst h
      simp [Rw.cells, Rw.len, Rw.size]
    · cases h
  case arri.arri k m l k' m' l' =>
    split at h
    · rename_i e; obtain ⟨rfl, rfl⟩ := e
      simp only [Option.some.injEq] at h; subst h
      simp [Rw.cells, Rw.len, Rw.size]
    · cases h
  case vals.vals l hl l' hl' =>
    simp only [Option.some.injEq] at h; subst h
    simp [Rw.cells, Rw.len, Rw.size]
  case levs.levs l l' =>
    simp only [Option.some.injEq] at h; subst h
    simp [Rw.cells, Rw.len, Rw.size]
  all_goals cases h

theorem fill_all (m : Nat) : ∀ (ds : List D) (i0 : Nat) (cs : List Value), (∀ d ∈ ds, d.flat = true ∧ d.size = m) → cs.length = (i0 + ds.length) * m →
    ∀ pds : List (Nat × D), pds.map (·.1) = List.range' i0 ds.length → pds.map (·.2) = ds →
    Instr.fill (fun i => some (i * m, m)) cs.toArray (pds.map fun p => (p.1, p.2.val)) = some (cs.take (i0 * m) ++ ds.flatMap D.cells).toArray
  | [], i0, cs, _, hl, pds, h1, h2 => by
    have : pds = [] := by simpa using h2
    subst this
    have e : cs.take (i0 * m) = cs := List.take_of_length_le (by simpa using Nat.le_of_eq hl)
    simp [Instr.fill, e]
  | d :: r, i0, cs, hd, hl, pds, h1, h2 => by
    cases pds with
    | nil => simp at h2
    | cons p pds =>
      obtain ⟨i, d'⟩ := p
      simp only [List.map_cons, List.length_cons, List.range'_succ, List.cons.injEq] at h1 h2
      obtain ⟨rfl, h1⟩ := h1
      obtain ⟨rfl, h2⟩ := h2
      obtain ⟨hf, hs⟩ := hd d' (by simp)
      simp only [List.length_cons] at hl
      have hmul : (i + (r.length + 1)) * m = i * m + m + r.length * m := by rw [Nat.add_mul, Nat.add_mul]; omega
      have hc : d'.cells.length = m := by rw [D.length_cells, hs]
      have hset := foldl_set d'.cells 0 (i * m) cs.toArray (by simp only [List.size_toArray, Nat.add_zero, hc]; omega)
      simp only [Nat.add_zero] at hset
      simp only [List.map_cons, Instr.fill, D.val_cells d' hf, List.size_toArray, hc]
      rw [if_neg (by simp; omega)]
      have e1 : (d'.cells.toArray.zipIdx.foldl (fun cs (c, j) => cs.setIfInBounds (i * m + j) c) cs.toArray) = (spl cs (i * m) d'.cells).toArray := by
        rw [← Array.foldl_toList]
        simpa using hset
      rw [e1]
      have hlen : (spl cs (i * m) d'.cells).length = cs.length := by
        simp only [spl, List.length_append, List.length_take, List.length_drop, hc]; omega
      rw [fill_all m r (i + 1) _ (fun d hd' => hd d (by simp [hd'])) (by rw [hlen, hl]; congr 1; omega) pds h1 h2]
      have e2 : (spl cs (i * m) d'.cells).take ((i + 1) * m) = cs.take (i * m) ++ d'.cells := by
        unfold spl
        rw [List.take_append_of_le_length (by simp only [List.length_append, List.length_take, hc, Nat.add_mul]; omega)]
        rw [List.take_of_length_le (by simp only [List.length_append, List.length_take, hc, Nat.add_mul]; omega)]
      rw [e2]
      simp [List.flatMap_cons, List.append_assoc]

section
variable {E : Env} {s : St} {ty : TypeId} {ps : String} {af : Array Edge} {gd : Option (Nat × Bool)} {K : St → Prop} {k : Nat}

theorem x_buildSlice {T el len : Nat} {ei : TI} {sz by_ : Nat} {z : D} {parts : List (Nat × Operand)} {pds : List (Nat × D)} {r : Rw} (ht : E.tt T = some ⟨.slice el, sz, by_, z⟩) (h3 : E.tt el = some ei)
    (hp : evp s parts = some pds) (h1 : pds.map (·.1) = List.range' 0 len) (h2 : pds.all (fun p => p.2.flat && Nat.beq p.2.size ei.size) = true) (hmk : mkRw ei.zero (pds.map (·.2)) = some r) (hrs : r.size = ei.size) (hz : Nat.beq ei.size 0 = false)
    (hle : len * ei.size ≤ 16777216) (hk : k < E.n)
    (h : ∀ b, K ⟨(k, .sl b 0 len len) :: s.tm, .row b len el r :: s.hp⟩) : Xt E ⟨some k, .buildSlice T len parts.toArray, ty, ps, af, gd⟩ s K := xt_value fun a w ho => by
  obtain ⟨d, hd, hm⟩ := tt_underlying ht
  simp only [TD.met] at hm
  subst hm
  obtain ⟨x, hx, hxs, hxb, hxz⟩ := tt_info h3
  obtain ⟨_, _, hzf, hzs, _⟩ := E.tok el _ h3
  obtain ⟨hc, hl⟩ := mkRw_cells hmk
  have hlen : (pds.map (·.2)).length = len := by
    have := congrArg List.length h1
    simpa using this
  have hel : ∀ d ∈ pds.map (·.2), d.flat = true ∧ d.size = ei.size := by
    intro d hd
    obtain ⟨p, hp1, rfl⟩ := List.mem_map.1 hd
    have := List.all_eq_true.1 h2 p hp1
    simp only [Bool.and_eq_true, Nat.beq_eq] at this
    exact this
  have hne : ¬ ei.size = 0 := fun e => by rw [e] at hz; cases hz
  let zc : List Value := ((Array.range (len * ei.size)).map (fun i => ei.zero.cells.toArray[i % ei.zero.cells.toArray.size]!)).toList
  have hzl : zc.length = (0 + (pds.map (·.2)).length) * ei.size := by simp [zc, hlen]
  have hfill := fill_all ei.size (pds.map (·.2)) 0 zc hel hzl pds (by rw [h1, hlen]) rfl
  have hprog : (program : Sem Program).run E.P w = .ok E.P w := rfl
  have hrow : (w.alloc (.cells r.cells.toArray el)).ownsRow 0 el r.size (.slice (some ⟨w.heap.size, 0, none⟩) r.len len) r.len r.cells := by
    have h0 := World.ownsRow_lit (base := 0) (e := el) (size := r.size) w r.cells.toArray len (Nat.zero_le _) (by unfold maxLen; have : len ≤ len * ei.size := Nat.le_mul_of_pos_right _ (by omega); omega) (by
      simp only [List.size_toArray, Rw.length_cells, ← hl, hlen])
    rw [hlen] at hl
    subst hl
    exact h0
  refine ⟨_, _, ?_, _, h w.heap.size, ((ho.more (new := [.row w.heap.size len el r]) ((Below.refl _ _).alloc (Nat.le_refl _) (.cells r.cells.toArray el))
    ⟨fun e he => by simp only [List.mem_singleton] at he; subst he; exact hrow, by simp [wkeys, Ent.wkey], by simp [rkeys, Ent.rkey]⟩ rfl (by simp [wkeys, Ent.wkey])).put (d := .sl w.heap.size 0 len len) hk)⟩
  have hev := ho.evp hp
  have hle' : ¬ 2 ^ 24 < len * ei.size := by omega
  simp only [execOp, Instr.buildSlice, Sem.run_bind, run_underlying hd, Result.andThen_ok, sizeOf, typeInfo, hprog, hx, Sem.run_pure, hxs, gt_iff_lt, hle', if_false]
  have hzv : (zeroValue el).run E.P w = .ok ei.zero.val w := by simp [zeroValue, typeInfo, hprog, hx, hxz]
  have hzB : Array.map (fun i => ei.zero.cells.toArray[i % ei.zero.cells.toArray.size]!) (Array.range (len * ei.size)) = zc.toArray := by simp only [zc, Array.toArray_toList]
  have hzA : len * ei.size = 0 → Array.map (fun i => (#[] : Array Value)[i % (#[] : Array Value).size]!) (Array.range (len * ei.size)) = zc.toArray := fun h0 => by
    rw [← hzB, h0]; simp
  simp only [List.map_toArray, hev]
  by_cases h0 : len * ei.size = 0
  · rw [if_pos h0]
    simp only [Sem.run_bind, Sem.run_pure, Result.andThen_ok]
    rw [hzA h0, hfill]
    simp [hc, newRow, D.val]
  · rw [if_neg h0]
    simp only [Sem.run_bind, Sem.run_pure, Result.andThen_ok, hzv, D.val_cells _ hzf]
    rw [hzB, hfill]
    simp [hc, newRow, D.val]

/-- Something at the end of a row: the source is a row of this call's. -/
theorem run_append_rows (P : Program) (w : World) (T el : Nat) (ty' : TypeId) {ei : TI} (hd : P.underlying T = some (.slice el)) (h3 : ei.met P el) (hz : Nat.beq ei.size 0 = false)
    (v : Value) (n : Nat) (xs : List Value) (hown : w.ownsRow 0 el ei.size v n xs) (ad : Addr) (m c : Nat) (news : List Value) (hl : news.length = m * ei.size) (hnews : ∀ j u, news[j]? = some u → w.cell? (ad.add j) = some u)
    (h1 : ∀ u ∈ news, u.oneCell' = true) (hm : 0 < m) (hb : (n + m) * ei.bytes ≤ 140737488355328) (hb2 : n + m ≤ 140737488355328) :
    ∃ g cap w', (Builtin.append_ #[T, T] ty' #[v, .slice (some ad) m c]).run P w = .ok (.slice (some ⟨g, 0, none⟩) (n + m) cap) w' ∧
      w'.ownsRow 0 el ei.size (.slice (some ⟨g, 0, none⟩) (n + m) cap) (n + m) (xs ++ news) ∧ w.grownBy w' v.ownBlock ∧ (v.ownBlock = some g ∨ g = w.heap.size) := by
  obtain ⟨_, hi, hzf, hzs, _⟩ := h3
  cases hx : P.info? el with
  | none => simp [hx] at hi
  | some x =>
    simp [hx] at hi
    obtain ⟨g, cap, w', r1, r2, r3, r4, _⟩ := run_append_lies (P := P) w T ty' 0 el x ei.zero.val ei.size ei.bytes hd hx hi.2.2 hi.1 hi.2.1 (by rw [D.val_cells _ hzf]; simp [D.length_cells, hzs])
      (Nat.pos_of_ne_zero fun e => by rw [e] at hz; cases hz) v n xs hown ad m c news hl hnews h1 hm (by unfold maxLen; omega) hb (Nat.zero_le _) w.heap.size rfl
    exact ⟨g, cap, w', r1, r2, r3, r4⟩

theorem x_append {T el b b2 off2 cap c2 EE n m : Nat} {x y : Operand} {ei : TI} {sz by_ : Nat} {z : D} {r r2 q : Rw} {tys : Array TypeId} {hp' : Nat → Nat → List Ent} (htys : tys = #[T, T]) (ht : E.tt T = some ⟨.slice el, sz, by_, z⟩) (h3 : E.tt el = some ei) (hz : Nat.beq ei.size 0 = false)
    (hx : ev s x = some (.sl b 0 n cap)) (hy : ev s y = some (.sl b2 off2 m c2)) (hr : ∀ b' cap', HpRep (.row b cap el r) (.row b' cap' el q) s.hp (hp' b' cap')) (hr2 : (Ent.row b2 c2 EE r2 ∈ s.hp ∧ off2 = 0) ∨ Ent.ro b2 off2 r2 ∈ s.hp) (hq : r.app r2 = some q)
    (hn : n = r.len) (hm : m = r2.len) (hm0 : 0 < m)
    (hrs : r.size = ei.size) (hb : (n + m) * ei.bytes ≤ 140737488355328) (hb2 : n + m ≤ 140737488355328) (hk : k < E.n)
    (h : ∀ b' cap', K ⟨(k, .sl b' 0 (n + m) cap') :: s.tm, hp' b' cap'⟩) :
    Xt E ⟨some k, .call { callee := .builtin .append, args := #[x, y], argTypes := tys }, ty, ps, af, gd⟩ s K := xt_value fun a w ho => by
  subst htys; subst hm; subst hn
  obtain ⟨d, hd, hm⟩ := tt_underlying ht
  simp only [TD.met] at hm
  subst hm
  obtain ⟨q1, q2, q3, q4⟩ := Rw.app_ok hq
  have hown : w.ownsRow 0 el r.size (.slice (some ⟨b, 0, none⟩) r.len cap) r.len r.cells := ho.hp.all _ (hr 0 0).mem
  rw [hrs] at hown q3 q4
  have hsrc : ∀ j u, r2.cells[j]? = some u → w.cell? ((⟨b2, off2, none⟩ : Addr).add j) = some u := fun j u hu => by
    rw [Addr.add_at]
    rcases hr2 with ⟨hr2, rfl⟩ | hr2
    · have h2 : w.ownsRow 0 EE r2.size (.slice (some ⟨b2, 0, none⟩) r2.len c2) r2.len r2.cells := ho.hp.all _ hr2
      have := h2.cells (g := b2) rfl j u hu
      rwa [Addr.add_at] at this
    · exact (ho.hp.all _ hr2).2 j u hu
  obtain ⟨g, cap', w', r1, r2', r3, r4⟩ := run_append_rows E.P w T el ty hd (E.tok el ei h3) hz _ _ _ hown ⟨b2, off2, none⟩ r2.len c2 r2.cells (by rw [Rw.length_cells, q4]) hsrc (Rw.oneCell r2) hm0 hb hb2
  have hown' : w'.ownsRow 0 el q.size (.slice (some ⟨g, 0, none⟩) q.len cap') q.len q.cells := by
    rw [q1, q2, q3]; exact r2'
  refine ⟨_, w', ?_, _, h g cap', ((ho.rep (b := b) (b' := g) (hr g cap') rfl rfl rfl rfl hown' (fun j hj hne => r3.block j hj (by simpa [Value.ownBlock] using hne)) ?_ r3.os r3.tape r3.output r3.size).put (d := .sl g 0 (r.len + r2.len) cap') hk)⟩
  · simp only [execOp, resolve, invoke, builtin, Sem.run_bind, Sem.run_pure, Result.andThen_ok, List.map_toArray, List.map_cons, List.map_nil, ho.ev hx, ho.ev hy, D.val, r1]
  · rcases r4 with r4 | r4
    · left; simpa [Value.ownBlock] using r4.symm
    · right; omega

/-! ### A store into a row -/
def Rw.set : Rw → Nat → D → Option Rw
  | .ints k l, j, .int k' n => if k' = k then some (.ints k (l.set j n)) else none
  | .u8s l, j, .u8 n => some (.u8s (l.set j n))
  | .arrs m l, j, .arr8 m' f => if m' = m then some (.arrs m (l.set j f)) else none
  | _, _, _ => none

/-! ### Calls that make memory -/
/-- A call that makes memory and turns none: its value and the new entries. -/
def CF (P : Program) (f : FuncId) (args : Array Value) (need : List Ent) (post : D → List Ent → Prop) : Prop := ∀ w, HpOk need w → Calls P f args w (fun e w' => ∃ d new, post d new ∧ e = .returned d.val ∧ HpOk new w' ∧ rkeys new = [] ∧ Below w.heap.size w w' ∧ ∀ b ∈ wkeys new, w.heap.size ≤ b)

theorem x_callF {f : FuncId} {xs : List Operand} {tys : Array TypeId} {ds : List D} {need : List Ent} {post : D → List Ent → Prop} (hen : Enters E.P f) (hx : evs s xs = some ds) (hc : CF E.P f (vals ds) need post) (hv : View s.hp need) (hk : k < E.n)
    (h : ∀ d new, post d new → K ⟨(k, d) :: s.tm, new ++ s.hp⟩) : Xt E ⟨some k, .call { callee := .value (.func f), args := xs.toArray, argTypes := tys }, ty, ps, af, gd⟩ s K := fun a w ho Kw Q hKw => by
  have e : a.eval (.func f) = .func (.func f) #[] #[] := rfl
  have hrun : (execOp a.eval ⟨some k, .call { callee := .value (.func f), args := xs.toArray, argTypes := tys }, ty, ps, af, gd⟩).run E.P w = .ok (.enter f (vals ds)) w := by
    simp [execOp, resolve, e, Deferred.ofValue, invoke, ho.evs hx, vals]
    exact hen _ w
  unfold Oper.wp
  rw [hrun]
  simp only [Oper.upon_enter]
  refine (hc w (hv w ho.hp)).mono fun e w' ⟨d, new, hp, he, hn, hr, hb, hf⟩ => ?_
  subst he
  exact hKw _ _ _ (h d new hp) ((ho.more hb hn hr hf).put (d := d) hk)

/-- A call that hands back a new slice. -/
def FR (P : Program) (f : FuncId) (args : Array Value) (need : List Ent) (EE : Nat) (r : Rw) : Prop := CF P f args need fun d new => ∃ b cap, d = .sl b 0 r.len cap ∧ new = [.row b cap EE r]
theorem x_callRow {f : FuncId} {xs : List Operand} {tys : Array TypeId} {ds : List D} {need : List Ent} {EE len : Nat} {r : Rw} (hen : Enters E.P f) (hx : evs s xs = some ds) (hc : FR E.P f (vals ds) need EE r) (hv : View s.hp need) (hl : r.len = len) (hk : k < E.n)
    (h : ∀ b cap, K ⟨(k, .sl b 0 len cap) :: s.tm, .row b cap EE r :: s.hp⟩) : Xt E ⟨some k, .call { callee := .value (.func f), args := xs.toArray, argTypes := tys }, ty, ps, af, gd⟩ s K :=
  x_callF hen hx hc hv hk fun d new ⟨b, cap, h1, h2⟩ => by subst h1; subst h2; subst hl; exact h b cap

/-! ### A function's beginning and end -/
inductive ResOk (E : Env) (s : St) : ResultVar → D → Prop
  | tmp {t : Tmp} {d : D} (h : get s.tm t = some d) : ResOk E s (.tmp t) d
  | cell {t : Tmp} {T b o : Nat} {e : Option Nat} {i : TI} {d0 d : D} {C : Prop} (ht : E.tt T = some i) (hx : get s.tm t = some (.ptr b o e)) (hm : Ent.var b d0 ∈ s.hp) (hs : d0.sub o e i.size i.td.ag = some (C, d)) (hC : C) : ResOk E s (.cell t T) d

inductive ResL (E : Env) (s : St) : List ResultVar → List D → Prop
  | nil : ResL E s [] []
  | cons {r : ResultVar} {d : D} {rs : List ResultVar} {ds : List D} (h : ResOk E s r d) (hr : ResL E s rs ds) : ResL E s (r :: rs) (d :: ds)

def resD : List D → D
  | [d] => d
  | ds => .tup ds

def resOf (tmps : Array Value) : ResultVar → Sem Value
  | .tmp t => pure (tmps.getD t undef)
  | .cell a t => do loadVar t (← asAddr (tmps.getD a undef))

theorem ResOk.run {a : Act} {w : World} (ho : ok E s a w) {r : ResultVar} {d : D} (h : ResOk E s r d) : (resOf a.tmps r).run E.P w = .ok d.val w := by
  cases h with
  | tmp h =>
    have := (ho.tm _ _ h).2
    simp [resOf, this]
  | @cell t T b o e i d0 d C ht hx hm hs hC =>
    have h1 := (ho.tm _ _ hx).2
    obtain ⟨hf, ty', hw⟩ := ho.hp.all _ hm
    have := run_loadAt_lies E.P w T b (o + e.getD 0) d0.cells ty' d (E.tok T i ht) hw (D.sub_lies _ _ _ _ _ _ _ hs hC)
    simp only [Instr.loadAt, Instr.sureAddr, Sem.run_bind, Sem.run_pure, Result.andThen_ok] at this
    simp [resOf, h1, D.val, asAddr, this]

theorem ResL.run {a : Act} {w : World} (ho : ok E s a w) : ∀ {rs : List ResultVar} {ds : List D}, ResL E s rs ds → (rs.mapM (resOf a.tmps)).run E.P w = .ok (D.valL ds) w
  | [], _, .nil => by simp [D.valL]
  | r :: rs, _, .cons h hr => by
    have h1 := h.run ho
    have h2 := ResL.run ho hr
    simp only [List.mapM_cons, Sem.run_bind, h1, Result.andThen_ok, h2, Sem.run_pure, D.valL]

theorem length_valL : ∀ l : List D, (D.valL l).length = l.length
  | [] => rfl
  | d :: r => by simp [D.valL, length_valL r]

theorem results_run {a : Act} {w : World} (ho : ok E s a w) {fn : Func} {rs : List ResultVar} {ds : List D} (hf : fn.results = rs.toArray) (h : ResL E s rs ds) : (results fn a.tmps).run E.P w = .ok (resD ds).val w := by
  have h2 := ResL.run ho h
  have e : results fn a.tmps = (do
      let vs ← fn.results.mapM (resOf a.tmps)
      pure (if h : vs.size = 1 then vs[0] else .tuple vs)) := by
    unfold results
    rfl
  rw [e, hf, Array.mapM_eq_mapM_toList]
  simp only [Sem.run_bind, Sem.run_map, h2, Result.andThen_ok, Sem.run_pure]
  cases ds with
  | nil => simp [D.valL, resD, D.val]
  | cons d r =>
    cases r with
    | nil => simp [D.valL, resD]
    | cons d2 r2 => simp [D.valL, resD, D.val]

/-- The frame at a call. -/
def tmOf : Nat → List D → List (Nat × D)
  | _, [] => []
  | i, d :: r => (i, d) :: tmOf (i + 1) r
theorem get_tmOf : ∀ (ds : List D) (i j : Nat), get (tmOf i ds) j = if i ≤ j then ds[j - i]? else none
  | [], i, j => by simp [tmOf, get]
  | d :: r, i, j => by
    simp only [tmOf, get_cons]
    by_cases h : i = j
    · subst h; simp
    · rw [if_neg h, get_tmOf r (i + 1) j]
      by_cases h2 : i ≤ j
      · rw [if_pos (by omega), if_pos h2, show j - i = (j - (i + 1)) + 1 by omega, List.getElem?_cons_succ]
      · rw [if_neg (by omega), if_neg h2]

def retQ (K : St → Prop) : Exit → St → Prop
  | .normal, s => K s
  | .ret, s => K s
  | _, _ => False

theorem FR_post {E : Env} {s : St} {rs : List ResultVar} {b n cap EE : Nat} {r : Rw} (h : ResL E s rs [.sl b 0 n cap]) (hm : Ent.row b cap EE r ∈ s.hp) (hn : n = r.len) :
    ∃ ds' new, ResL E s rs ds' ∧ (∃ b cap, resD ds' = .sl b 0 r.len cap ∧ new = [.row b cap EE r]) ∧ HpSub new s.hp ∧ rkeys new = [] := by
  subst hn
  refine ⟨_, [.row b cap EE r], h, ⟨b, cap, rfl, rfl⟩, ?_, rfl⟩
  obtain ⟨l, q, hsp⟩ := List.append_of_mem hm
  rw [hsp]
  clear hsp hm h
  induction l with
  | nil => exact .keep rfl rfl (fun _ h => h) .nil
  | cons x l ih => exact .drop ih

theorem ok_enter {P : Program} {tt : Nat → Option TI} {tok : ∀ t i, tt t = some i → i.met P t} {n : Nat} {w : World} {ds : List D} {need : List Ent} (hn : ds.length ≤ n) (hh : HpOk need w) (B0 : List Nat) (hB : ∀ b ∈ wkeys need, b ∈ B0) :
    ok ⟨P, tt, tok, n, w, B0⟩ ⟨tmOf 0 ds, need⟩ { tmps := vals ds ++ Array.replicate (n - (vals ds).size) undef, defers := [] } w where
  size := by simp [vals, length_valL]; omega
  defers := rfl
  tm := fun j d hj => by
    rw [get_tmOf] at hj
    simp only [Nat.zero_le, if_true, Nat.sub_zero] at hj
    have hlt : j < ds.length := (List.getElem?_eq_some_iff.1 hj).1
    refine ⟨Nat.lt_of_lt_of_le hlt hn, ?_⟩
    rw [Array.getElem?_append_left (by simpa [vals, length_valL] using hlt)]
    simp [vals, valL_getElem?, hj]
  hp := hh
  fr := ⟨rfl, rfl, rfl, Nat.le_refl _, fun _ _ _ => rfl, fun b hb => .inl (hB b hb)⟩

/-- THE PROOF OF A CALL THAT ONLY READS. -/
theorem CR_intro {P : Program} (tt : Nat → Option TI) (tok : ∀ t i, tt t = some i → i.met P t) {f : FuncId} {fn : Func} {c : Code} {rs : List ResultVar} {ds : List D} {need : List Ent} {d : D} (hf : P.funcs[f]? = some fn) (hb : fn.body = some c)
    (hr : fn.results = rs.toArray) (hn : Nat.ble ds.length fn.ntmps = true) (hw : wkeys need = [])
    (h : ∀ w, W ⟨P, tt, tok, fn.ntmps, w, []⟩ c (retQ fun s => ∃ ds', ResL ⟨P, tt, tok, fn.ntmps, w, []⟩ s rs ds' ∧ (resD ds').val = d.val) ⟨tmOf 0 ds, need⟩) : CR P f (vals ds) need d := fun w hh => by
  refine calls_of_wp hf hb (wp_mono ((h w).out _ w (ok_enter (by simpa using hn) hh [] (by simp [hw]))) ?_)
  rintro e a w' ⟨s', q, o⟩
  have fin : (∃ ds', ResL ⟨P, tt, tok, fn.ntmps, w, []⟩ s' rs ds' ∧ (resD ds').val = d.val) → bodyPost P fn (fun e w' => e = .returned d.val ∧ Below w.heap.size w w') .normal a w' := fun ⟨ds', h1, h2⟩ =>
    ⟨o.defers, d.val, by rw [← h2]; exact results_run o hr h1, rfl, o.fr.os, o.fr.tape, o.fr.output, o.fr.size, fun j hj => o.fr.block j hj (by simp)⟩
  cases e with
  | normal => exact fin q
  | ret => exact fin q
  | exit id => exact q.elim
  | goto l => exact q.elim
  | panic ch => exact q.elim
  | outgrown => exact q.elim

/-- THE PROOF OF A CALL THAT MAKES MEMORY. -/
theorem CF_intro {P : Program} (tt : Nat → Option TI) (tok : ∀ t i, tt t = some i → i.met P t) {f : FuncId} {fn : Func} {c : Code} {rs : List ResultVar} {ds : List D} {need : List Ent} {post : D → List Ent → Prop} (hf : P.funcs[f]? = some fn) (hb : fn.body = some c)
    (hr : fn.results = rs.toArray) (hn : Nat.ble ds.length fn.ntmps = true) (hw : wkeys need = [])
    (h : ∀ w, W ⟨P, tt, tok, fn.ntmps, w, []⟩ c (retQ fun s => ∃ ds' new, ResL ⟨P, tt, tok, fn.ntmps, w, []⟩ s rs ds' ∧ post (resD ds') new ∧ HpSub new s.hp ∧ rkeys new = []) ⟨tmOf 0 ds, need⟩) : CF P f (vals ds) need post := fun w hh => by
  refine calls_of_wp hf hb (wp_mono ((h w).out _ w (ok_enter (by simpa using hn) hh [] (by simp [hw]))) ?_)
  rintro e a w' ⟨s', q, o⟩
  have fin : (∃ ds' new, ResL ⟨P, tt, tok, fn.ntmps, w, []⟩ s' rs ds' ∧ post (resD ds') new ∧ HpSub new s'.hp ∧ rkeys new = []) → bodyPost P fn (fun e w' => ∃ d new, post d new ∧ e = .returned d.val ∧ HpOk new w' ∧ rkeys new = [] ∧ Below w.heap.size w w' ∧ ∀ b ∈ wkeys new, w.heap.size ≤ b) .normal a w' :=
    fun ⟨ds', new, h1, h2, h3, h4⟩ =>
    ⟨o.defers, _, results_run o hr h1, _, new, h2, rfl, ⟨h3.ok o.hp.all, o.hp.nodup.sublist h3.keys.1, fun b hb => by rw [h4] at hb; cases hb⟩, h4,
      ⟨o.fr.os, o.fr.tape, o.fr.output, o.fr.size, fun j hj => o.fr.block j hj (by simp)⟩, fun b hb => (o.fr.own b (h3.keys.1.subset hb)).resolve_left (by simp)⟩
  cases e with
  | normal => exact fin q
  | ret => exact fin q
  | exit id => exact q.elim
  | goto l => exact q.elim
  | panic ch => exact q.elim
  | outgrown => exact q.elim

end
theorem m0 {α : Type} {a : α} {l : List α} : a ∈ a :: l := .head _
theorem m1 {α : Type} {a x : α} {l : List α} : a ∈ x :: a :: l := .tail _ m0
theorem m2 {α : Type} {a x y : α} {l : List α} : a ∈ x :: y :: a :: l := .tail _ m1
theorem m3 {α : Type} {a x y z : α} {l : List α} : a ∈ x :: y :: z :: a :: l := .tail _ m2
theorem m4 {α : Type} {a x y z u : α} {l : List α} : a ∈ x :: y :: z :: u :: a :: l := .tail _ m3
theorem m5 {α : Type} {a x y z u v : α} {l : List α} : a ∈ x :: y :: z :: u :: v :: a :: l := .tail _ m4
theorem veq_int {k : IntKind} {a b : Int} (h : a = b) : (D.int k a).val = (D.int k b).val := by rw [h]
theorem veq_bool {a b : Bool} (h : a = b) : (D.bool a).val = (D.bool b).val := by rw [h]
theorem veq_arr8 {n : Nat} {f g : Nat → Fin 256} (h : ∀ i, i < n → f i = g i) : (D.arr8 n f).val = (D.arr8 n g).val := by
  have e : (List.range n).map (fun i => Value.int .u8 ((f i).val : Int)) = (List.range n).map (fun i => Value.int .u8 ((g i).val : Int)) := List.map_congr_left fun i hi => by rw [h i (List.mem_range.1 hi)]
  simp only [D.val, e]
theorem ceq_arr8 {n : Nat} {f g : Nat → Fin 256} (h : ∀ i, i < n → f i = g i) : (D.arr8 n f).cells = (D.arr8 n g).cells :=
  List.map_congr_left fun i hi => by rw [h i (List.mem_range.1 hi)]
theorem ceq_barr {n : Nat} {f g : Nat → Bool} (h : ∀ i, i < n → f i = g i) : (D.barr n f).cells = (D.barr n g).cells :=
  List.map_congr_left fun i hi => by rw [h i (List.mem_range.1 hi)]
theorem imp_var {b : Nat} {d d' : D} (h : d.cells = d'.cells) (hf : d'.flat = true) : ∀ w, (Ent.var b d).ok w → (Ent.var b d').ok w := fun _ ⟨_, ty, ht⟩ => ⟨hf, ty, by rw [← h]; exact ht⟩
end Gx
end Go.Proofs.Ytjihhcjpbcmjaaa
namespace Go.Proofs.Ytjihhcjpbcmjaaa
open Go
namespace Gx
open Go.RowKit (Below)
set_option linter.unusedVariables false

section
variable {P : Program} {md : Region.Mode} {ops : Array Oper} {C : World → Prop}

theorem getD_both {listed : Array Bool} {i : Nat} (h : listed.getD i true = false) : listed.getD i false = false := by
  rcases Nat.lt_or_ge i listed.size with h' | h'
  · simp [h'] at h ⊢; exact h
  · simp [Array.getElem?_eq_none h'] at h

def setAll : Array Bool → List Nat → Array Bool
  | l, [] => l
  | l, i :: r => setAll (l.setIfInBounds i true) r

theorem setAll_getD : ∀ (l : Array Bool) (r : List Nat) (j : Nat) (d : Bool), j < l.size → (setAll l r).getD j d = (l.getD j d || decide (j ∈ r))
  | l, [], j, d, _ => by simp [setAll]
  | l, i :: r, j, d, hj => by
    rw [setAll, setAll_getD _ r j d (by simpa using hj)]
    by_cases h : i = j
    · subst h
      simp [hj]
    · rw [getD_set_ne d h]
      have : decide (j ∈ i :: r) = decide (j ∈ r) := by simp [Ne.symm h]
      rw [this]

/-- The walk of the quiet operations, in the order given; then 'L'. -/
def wpAnyLQ (P : Program) (md : Region.Mode) (ops : Array Oper) (C : World → Prop) (hs : List Nat) (L : Array Bool → Act → Prop) : Nat → Array Bool → Act → Prop
  | 0, listed, a => L listed a
  | f + 1, listed, a => Region.ready md ops listed ≠ [] ∧ ∀ i ∈ Region.ready md ops listed, i ∈ hs ∧ qOp P ops C i (wpAnyLQ P md ops C hs L f (listed.setIfInBounds i true)) a

theorem wpAny_of_headQ {hs : List Nat} {g : Nat} {L : Array Bool → Act → Prop} {Q' : Exit → Act → World → Prop} (hL : ∀ listed a, L listed a → ∀ w, C w → wpAny P md ops Q' g listed a w) :
    ∀ (f : Nat) (listed : Array Bool) (a : Act), wpAnyLQ P md ops C hs L f listed a → ∀ w, C w → wpAny P md ops Q' (f + g) listed a w
  | 0, listed, a, h, w, hw => by rw [Nat.zero_add]; exact hL _ _ h w hw
  | f + 1, listed, a, h, w, hw => by
    rw [show f + 1 + g = (f + g) + 1 by omega]
    exact ⟨fun h0 => absurd h0 h.1, fun i hi => wpOp_of_qOp hw (fun a' w' hw' h' => wpAny_of_headQ hL f _ a' h' w' hw') (h.2 i hi).2⟩

/-- One behind the other. -/
def lexOrd (md : Region.Mode) (ops : Array Oper) : List Nat → Array Bool → Bool
  | [], _ => true
  | k :: r, listed => (Region.ready md ops listed).contains k && Region.free md ops listed k && lexOrd md ops r (listed.setIfInBounds k true)
/-- All of them but 'i', and what waits for 'i'. -/
def grow (md : Region.Mode) (ops : Array Oper) (i : Nat) : List Nat → Array Bool → Array Bool
  | [], l => l
  | j :: r, l => grow md ops i r (if (!Nat.beq j i && (Region.ready md ops l).contains j) = true then l.setIfInBounds j true else l)
/-- Whichever of them comes last: nothing else may come up beside it. -/
def lastB (md : Region.Mode) (ops : Array Oper) (hs : List Nat) (base : Array Bool) : Bool :=
  hs.all fun i => decide (Region.ready md ops (grow md ops i hs base) = [i])

theorem grow_size {i : Nat} : ∀ (r : List Nat) (l : Array Bool), (grow md ops i r l).size = l.size
  | [], _ => rfl
  | j :: r, l => by
    unfold grow
    rw [grow_size r]
    split <;> simp
theorem grow_up {i : Nat} : ∀ (r : List Nat) (l : Array Bool) (q : Nat), q < l.size → l.getD q false = true → (grow md ops i r l).getD q false = true
  | [], _, _, _, h => h
  | j :: r, l, q, hq, h => by
    unfold grow
    generalize hc : (!Nat.beq j i && (Region.ready md ops l).contains j) = c
    cases c with
    | false => exact grow_up r l q hq h
    | true =>
      refine grow_up r _ q (by simpa using hq) ?_
      show (l.setIfInBounds j true).getD q false = true
      by_cases e : j = q
      · subst e; simp [hq]
      · rw [getD_set_ne false e]; exact h
theorem grow_down {i : Nat} : ∀ (r : List Nat) (l : Array Bool) (q : Nat), (grow md ops i r l).getD q false = true → l.getD q false = true ∨ q ∈ r
  | [], _, _, h => .inl h
  | j :: r, l, q, h => by
    unfold grow at h
    generalize hc : (!Nat.beq j i && (Region.ready md ops l).contains j) = c at h
    cases c with
    | false =>
      rcases grow_down r l q h with h1 | h1
      · exact .inl h1
      · exact .inr (by simp [h1])
    | true =>
      have h' : (grow md ops i r (l.setIfInBounds j true)).getD q false = true := h
      rcases grow_down r _ q h' with h1 | h1
      · by_cases e : j = q
        · subst e; exact .inr (by simp)
        · rw [getD_set_ne false e] at h1; exact .inl h1
      · exact .inr (by simp [h1])

structure Inv (md : Region.Mode) (ops : Array Oper) (hs : List Nat) (base listed : Array Bool) : Prop where
  size : listed.size = base.size
  bsize : base.size = ops.size
  up : ∀ j, j < base.size → base.getD j false = true → listed.getD j false = true
  low : ∀ i ∈ hs, listed.getD i false = false → ∀ j, j < base.size → listed.getD j false = true → (grow md ops i hs base).getD j false = true

theorem Inv.start {hs : List Nat} {base : Array Bool} (h : base.size = ops.size) : Inv md ops hs base base :=
  ⟨rfl, h, fun _ _ h => h, fun i _ _ j hj hb => grow_up hs base j hj hb⟩

theorem getD_any {listed : Array Bool} {i : Nat} (hi : i < listed.size) (d d' : Bool) : listed.getD i d = listed.getD i d' := by simp [hi]

theorem ready_lt {listed : Array Bool} {j : Nat} (hj : j ∈ Region.ready md ops listed) : j < ops.size := by
  obtain ⟨_, o, ho, _⟩ := mem_ready.1 hj
  exact (Array.getElem?_eq_some_iff.1 ho).1

/-- While one of the quiet operations is open, whatever may come up does not wait for it. -/
theorem ready_grow {hs : List Nat} {base listed : Array Bool} (inv : Inv md ops hs base listed) (hB : lastB md ops hs base = true) {i : Nat} (hi : i ∈ hs) (hun : listed.getD i false = false) {j : Nat} (hj : j ∈ Region.ready md ops listed) (hji : j ≠ i) :
    (grow md ops i hs base).getD j false = true := by
  cases hg : (grow md ops i hs base).getD j false with
  | true => rfl
  | false =>
    exfalso
    have h1 := List.all_eq_true.1 hB i hi
    simp only [decide_eq_true_eq] at h1
    obtain ⟨hjl, o, ho, hall⟩ := mem_ready.1 hj
    have hjlt := ready_lt hj
    have hbs : base.size = ops.size := inv.bsize
    have hgs : (grow md ops i hs base).size = base.size := grow_size hs base
    have : j ∈ Region.ready md ops (grow md ops i hs base) := by
      refine mem_ready.2 ⟨by rw [getD_any (by omega) true false]; exact hg, o, ho, fun e he hb => ?_⟩
      have h3 := hall e he hb
      have hlt : e.on < base.size := by
        rcases Nat.lt_or_ge e.on base.size with h | h
        · exact h
        · rw [← inv.size] at h
          simp [Array.getElem?_eq_none h] at h3
      exact inv.low i hi hun e.on hlt h3
    rw [h1, List.mem_singleton] at this
    exact hji this

/-- While one of the quiet operations is open, nothing but they may come up. -/
theorem ready_in {hs : List Nat} {base listed : Array Bool} (inv : Inv md ops hs base listed) (hB : lastB md ops hs base = true) {i : Nat} (hi : i ∈ hs) (hun : listed.getD i false = false) {j : Nat} (hj : j ∈ Region.ready md ops listed) (hji : j ≠ i) :
    j ∈ hs := by
  rcases grow_down hs base j (ready_grow inv hB hi hun hj hji) with h | h
  · exfalso
    have hjl := (mem_ready.1 hj).1
    have hjlt := ready_lt hj
    have := inv.up j (by rw [inv.bsize]; exact hjlt) h
    rw [getD_any (by rw [inv.size, inv.bsize]; exact hjlt) false true, hjl] at this
    cases this
  · exact h

theorem Inv.set {hs : List Nat} {base listed : Array Bool} (h : Inv md ops hs base listed) (hB : lastB md ops hs base = true) {k : Nat} (hk : k ∈ Region.ready md ops listed) : Inv md ops hs base (listed.setIfInBounds k true) where
  size := by simp [h.size]
  bsize := h.bsize
  up := fun j hj hb => by
    by_cases e : k = j
    · subst e; simp [h.size, hj]
    · rw [getD_set_ne false e]; exact h.up j hj hb
  low := fun i hi hun j hj hl => by
    have hks : k < listed.size := by rw [h.size, h.bsize]; exact ready_lt hk
    have hik : k ≠ i := by
      rintro rfl
      simp [hks] at hun
    rw [getD_set_ne false hik] at hun
    by_cases e : k = j
    · subst e; exact ready_grow h hB hi hun hk hik
    · rw [getD_set_ne false e] at hl; exact h.low i hi hun j hj hl

theorem wpAnyLQ_first {hs : List Nat} {base : Array Bool} {Lq : Act → Prop} {i : Nat} {oi : Oper} {v : Value} (hi : ops[i]? = some oi) (hsel : ∀ (j : Nat) (o : Oper) cs b, ops[j]? = some o → o.op ≠ .select cs b)
    (hB : lastB md ops hs base = true) (hin : i ∈ hs) :
    ∀ (f : Nat) (listed : Array Bool) (a : Act), Inv md ops hs base listed →
      (∀ j oj, ops[j]? = some oj → j ≠ i → listed.getD j true = false → (∀ e ∈ oj.after, Region.binds md e = true → e.on ≠ i) → oi.apart ops oj = true) →
      i ∈ Region.ready md ops listed → YieldsIn P ops C oi v a →
      wpAnyLQ P md ops C hs (fun listed' a' => listed' = setAll base hs ∧ Lq a') f (listed.setIfInBounds i true) (a.put oi.dst v) → wpAnyLQ P md ops C hs (fun listed' a' => listed' = setAll base hs ∧ Lq a') (f + 1) listed a := by
  intro f
  induction f with
  | zero =>
    intro listed a inv _ hr hy H
    have hun := getD_both (mem_ready.1 hr).1
    refine ⟨fun h => (by rw [h] at hr; cases hr), fun j hj => ?_⟩
    by_cases hji : j = i
    · subst hji; exact ⟨hin, hy.qOp hi H⟩
    · exfalso
      have hjs := ready_in inv hB hin hun hj hji
      have hjl := (mem_ready.1 hj).1
      have hjlt := ready_lt hj
      have h1 : (listed.setIfInBounds i true).getD j true = false := by rw [getD_set_ne true (Ne.symm hji)]; exact hjl
      rw [H.1, setAll_getD _ _ _ _ (by rw [inv.bsize]; exact hjlt)] at h1
      simp [hjs] at h1
  | succ f ih =>
    intro listed a inv hfree hr hy H
    have hun := getD_both (mem_ready.1 hr).1
    refine ⟨fun h => (by rw [h] at hr; cases hr), fun j hj => ?_⟩
    by_cases hji : j = i
    · subst hji; exact ⟨hin, hy.qOp hi H⟩
    · have hjs := ready_in inv hB hin hun hj hji
      refine ⟨hjs, ?_⟩
      have h1 := (H.2 j (ready_mono hj hji)).2
      obtain ⟨hjun, oj, hoj, hall⟩ := mem_ready.1 hj
      have hnot : ∀ e ∈ oj.after, Region.binds md e = true → e.on ≠ i := fun e he hb heq => by
        have h1 := hall e he hb
        rw [heq, hun] at h1
        cases h1
      have h2 := qOp_put hoj (hfree j oj hoj hji hjun hnot) (fun cs b => hsel i oi cs b hi) (fun cs b => hsel j oj cs b hoj) hy h1
      have hfree' : ∀ k ok, ops[k]? = some ok → k ≠ i → (listed.setIfInBounds j true).getD k true = false →
          (∀ e ∈ ok.after, Region.binds md e = true → e.on ≠ i) → oi.apart ops ok = true := fun k ok hk hki hun hno => by
        refine hfree k ok hk hki ?_ hno
        by_cases hjk : j = k
        · subst hjk; exact hjun
        · rw [getD_set_ne true hjk] at hun; exact hun
      refine qOp_mono (fun a' h3 => ih (listed.setIfInBounds j true) a' (inv.set hB hj) hfree' (ready_mono hr (Ne.symm hji)) h3.1 ?_) h2
      rw [Array.setIfInBounds_comm _ _ hji]
      exact h3.2

def wpQ (P : Program) (ops : Array Oper) (C : World → Prop) (Lq : Act → Prop) : List Nat → Act → Prop
  | [], a => Lq a
  | i :: r, a => (∃ o, ops[i]? = some o) ∧ qOp P ops C i (wpQ P ops C Lq r) a

theorem wpAnyLQ_lex {hs : List Nat} {base : Array Bool} {Lq : Act → Prop} (hsel : Region.noSelect ops = true) (hB : lastB md ops hs base = true) :
    ∀ (l : List Nat) (listed : Array Bool) (a : Act), (∀ i ∈ l, i ∈ hs) → setAll listed l = setAll base hs → Inv md ops hs base listed → lexOrd md ops l listed = true → wpQ P ops C Lq l a →
    wpAnyLQ P md ops C hs (fun listed' a' => listed' = setAll base hs ∧ Lq a') l.length listed a
  | [], listed, a, _, hset, _, _, h => ⟨hset, h⟩
  | k :: l, listed, a, hin, hset, inv, hlex, h => by
    simp only [lexOrd, Bool.and_eq_true] at hlex
    obtain ⟨⟨hr, hf⟩, hlex'⟩ := hlex
    have hr' : k ∈ Region.ready md ops listed := by simpa using hr
    obtain ⟨⟨o, ho⟩, hq⟩ := h
    obtain ⟨v, hy, hK⟩ := yieldsIn_of_qOp ho hq
    exact wpAnyLQ_first ho (Region.noSelect_spec hsel) hB (hin k (by simp)) l.length listed a inv (Region.free_spec ho hf) hr' hy
      (wpAnyLQ_lex hsel hB l _ _ (fun i hi => hin i (by simp [hi])) hset (inv.set hB hr') hlex' hK)

theorem wpAny_quiet {hs : List Nat} {base : Array Bool} {g : Nat} {a : Act} {Q' : Exit → Act → World → Prop} (hsel : Region.noSelect ops = true) (hsz : base.size = ops.size) (hB : lastB md ops hs base = true)
    (hlex : lexOrd md ops hs base = true) (h : wpQ P ops C (fun a' => ∀ w, C w → wpAny P md ops Q' g (setAll base hs) a' w) hs a) : ∀ w, C w → wpAny P md ops Q' (hs.length + g) base a w := by
  have H := wpAnyLQ_lex hsel hB hs base a (fun _ h => h) rfl (.start hsz) hlex h
  exact wpAny_of_headQ (fun listed' a' ⟨h1, h2⟩ w hw => by rw [h1]; exact h2 w hw) _ _ _ H
end

/-! ### In the frame -/
section
variable {E : Env} {ops : Array Oper} {K : St → Prop} {s : St}

/-- From here on, whatever order. -/
structure RA (E : Env) (ops : Array Oper) (fuel : Nat) (listed : Array Bool) (K : St → Prop) (s : St) : Prop where
  out : ∀ a w, ok E s a w → ∀ Q : Exit → Act → World → Prop, (∀ s' a' w', K s' → ok E s' a' w' → Q .normal a' w') → (∀ c a a' w, Q (.panic c) a w → Q (.panic c) a' w) → wpAny E.P .any ops Q fuel listed a w

theorem W_draw {id : Nat} {l : List Oper} {Q : Exit → St → Prop} (hm : E.P.follows .mixedOrders = true) (h : RA E l.toArray l.length (Array.replicate l.length false) (Q .normal) s) : W E (.region id l.toArray true) Q s := ⟨fun a w ho => by
  -- a way out by panic is not taken
  have h0 : (Code.region id l.toArray true).wp E.P (fun e a w => match e with | .normal => liftQ E Q .normal a w | _ => False) a w := by
    refine wp_region_any hm ?_
    have := h.out a _ ho.drew (fun e a w => match e with | .normal => liftQ E Q .normal a w | _ => False) (fun s' a' w' k o => ⟨s', k, o⟩) (fun _ _ _ _ h => h)
    simpa using this
  refine wp_mono h0 fun e a w q => ?_
  cases e with
  | normal => exact q
  | exit id => exact q.elim
  | goto l => exact q.elim
  | ret => exact q.elim
  | panic ch => exact q.elim
  | outgrown => exact q.elim⟩

theorem RA_done {fuel : Nat} {listed : Array Bool} (hr : Region.ready .any ops listed = []) (h : K s) : RA E ops fuel listed K s := ⟨fun a w ho _ hQ _ => wpAny_done hr (hQ s a w h ho) fuel⟩

theorem RA_one {fuel : Nat} {listed : Array Bool} (i : Nat) {o : Oper} (ho : ops[i]? = some o) (hg : o.guard = none) (hr : Region.ready .any ops listed = [i]) (h : Xt E o s (RA E ops fuel (listed.setIfInBounds i true) K)) : RA E ops (fuel + 1) listed K s :=
  ⟨fun a w hok Q hQ hp => wpAny_all hr (by simp) fun j hj => by
    simp only [List.mem_singleton] at hj
    subst hj
    unfold wpOp
    simp only [ho]
    rw [if_pos (by simp [Region.wanted, hg])]
    exact .inl (h a w hok _ Q fun s' a' w' hs' ho' => hs'.out a' w' ho' Q hQ hp)⟩

/-- An operation of numbers and addresses alone may be taken first. -/
theorem RA_take {fuel : Nat} {listed : Array Bool} (i : Nat) {o : Oper} {k : Nat} {d : D} (ho : ops[i]? = some o) (hg : o.guard = none) (hd : o.dst = some k) (hs : Region.noSelect ops = true) (hf : Region.free .any ops listed i = true) (hr : (Region.ready .any ops listed).contains i = true)
    (hp : Pt E o s d) (hk : k < E.n) (h : RA E ops fuel (listed.setIfInBounds i true) K (s.put k d)) : RA E ops (fuel + 1) listed K s := ⟨fun a w hok Q hQ hpn =>
  wpAny_take ho hs hf hr (fun c a w q => hpn c _ _ w q) (v := d.val) (.inl ⟨by simp [Region.wanted, hg], hp a hok.t⟩) (by rw [hd]; exact h.out _ w (hok.put hk) Q hQ hpn)⟩

/-- The quiet ones, in the order given. -/
structure WQ (E : Env) (ops : Array Oper) (hs : List Nat) (K : St → Prop) (s : St) : Prop where
  out : ∀ a, okT E s a → ∀ Lq : Act → Prop, (∀ s' a', K s' → s'.hp = s.hp → okT E s' a' → Lq a') → wpQ E.P ops (fun w => HpOk s.hp w ∧ Fr E.w0 E.B0 s.hp w) Lq hs a

theorem WQ_nil (h : K s) : WQ E ops [] K s := ⟨fun a ho _ hL => hL s a h rfl ho⟩
theorem WQ_cons {i k : Nat} {r : List Nat} {o : Oper} {d : D} (ho : ops[i]? = some o) (hg : o.guard = none) (hd : o.dst = some k) (h : Qt E o s d) (hk : k < E.n) (hr : WQ E ops r K (s.put k d)) : WQ E ops (i :: r) K s := ⟨fun a ht Lq hL => by
  refine ⟨⟨o, ho⟩, ?_⟩
  unfold qOp
  simp only [ho]
  rw [if_pos (by simp [Region.wanted, hg])]
  refine ⟨d.val, fun w ⟨h1, h2⟩ => ?_, ?_⟩
  · have hok : ok E s a w := ⟨ht.size, ht.defers, ht.tm, h1, h2⟩
    unfold Oper.quietAt
    rcases h a w hok with h | ⟨f, args, h, hc⟩
    · rw [h]; exact ⟨rfl, rfl⟩
    · rw [h]
      refine ⟨rfl, hc.mono fun e w' ⟨he, hb⟩ => ⟨he, ?_⟩⟩
      have := hok.below hb
      exact ⟨this.hp, this.fr⟩
  · rw [hd]
    exact hr.out _ (ht.put hk) Lq fun s' a' hK hh => hL s' a' hK (by rw [hh]; rfl)⟩
theorem WQ_guard {i k g t : Nat} {want b : Bool} {r : List Nat} {op : Op} {ty : TypeId} {ps : String} {af : Array Edge} (ho : ops[i]? = some ⟨some k, op, ty, ps, af, some (g, want)⟩) (ht : (ops[g]?).bind (·.dst) = some t) (hb : get s.tm t = some (.bool b)) (hk : k < E.n)
    (h1 : b = want → ∃ d, Qt E ⟨some k, op, ty, ps, af, some (g, want)⟩ (s.put t (.bool want)) d ∧ WQ E ops r K ((s.put t (.bool want)).put k d)) (h2 : b = !want → WQ E ops r K ((s.put t (.bool (!want))).put k (.tup []))) : WQ E ops (i :: r) K s := ⟨fun a hat Lq hL => by
  refine ⟨⟨_, ho⟩, ?_⟩
  have hw := wanted_of hat (o := ⟨some k, op, ty, ps, af, some (g, want)⟩) rfl ht hb
  unfold qOp
  simp only [ho]
  rw [hw]
  by_cases e : b = want
  · rw [if_pos (by simp [e])]
    obtain ⟨d, hq, hr⟩ := h1 e
    have hat' : okT E (s.put t (.bool want)) a := hat.same hb (by rw [e])
    refine ⟨d.val, fun w ⟨h3, h4⟩ => ?_, ?_⟩
    · have hok : ok E (s.put t (.bool want)) a w := ⟨hat'.size, hat'.defers, hat'.tm, h3, h4⟩
      unfold Oper.quietAt
      rcases hq a w hok with h | ⟨f, args, h, hc⟩
      · rw [h]; exact ⟨rfl, rfl⟩
      · rw [h]
        refine ⟨rfl, hc.mono fun e w' ⟨he, hb⟩ => ⟨he, ?_⟩⟩
        have := hok.below hb
        exact ⟨this.hp, this.fr⟩
    · exact hr.out _ (hat'.put hk) Lq fun s' a' hK hh => hL s' a' hK (by rw [hh]; rfl)
  · rw [if_neg (by simpa using e)]
    have e' : b = !want := by cases b <;> cases want <;> simp_all
    exact (h2 e').out _ ((hat.same (d' := .bool (!want)) hb (by rw [e'])).put (d := .tup []) hk) Lq fun s' a' hK hh => hL s' a' hK (by rw [hh]; rfl)⟩

theorem RA_quiet {g : Nat} {base : Array Bool} (hs : List Nat) (hsel : Region.noSelect ops = true) (hsz : base.size = ops.size) (hB : lastB .any ops hs base = true)
    (hlex : lexOrd .any ops hs base = true) (h : WQ E ops hs (RA E ops g (setAll base hs) K) s) : RA E ops (hs.length + g) base K s := ⟨fun a w ho Q hQ hp =>
  wpAny_quiet hsel hsz hB hlex (h.out a ho.t _ fun s' a' hs' hh hat w' ⟨h1, h2⟩ => hs'.out a' w' ⟨hat.size, hat.defers, hat.tm, by rw [hh]; exact h1, by rw [hh]; exact h2⟩ Q hQ hp) w ⟨ho.hp, ho.fr⟩⟩
end
end Gx
/-- Tests as propositions. -/
theorem bs : (∀ (p : Prop) [Decidable p], (decide p = true) = p) ∧ (∀ (p : Prop) [Decidable p], (decide p = false) = ¬p) ∧ (∀ b : Bool, ((!b) = true) = (b = false)) ∧ (∀ b : Bool, ((!b) = false) = (b = true)) ∧
    (∀ a b : Bool, ((a && b) = true) = (a = true ∧ b = true)) ∧ (∀ a b : Bool, ((a || b) = true) = (a = true ∨ b = true)) ∧ (∀ a b : Bool, ((a && b) = false) = (a = false ∨ b = false)) ∧ (∀ a b : Bool, ((a || b) = false) = (a = false ∧ b = false)) ∧
    (∀ a b : Int, (¬ a < b) = (b ≤ a)) ∧ (∀ a b : Int, (¬ a ≤ b) = (b < a)) ∧ (∀ p : Prop, (¬¬p) = p) ∧ ((!true) = false) ∧ ((!false) = true) := by
  refine ⟨?_, ?_, ?_, ?_, ?_, ?_, ?_, ?_, ?_, ?_, ?_, ?_, ?_⟩
  case refine_7 => intro a b; cases a <;> cases b <;> simp
  all_goals first | rfl | (intros; simp)
namespace Gx
open Go
/-- A byte read as a number of a wider kind. -/
theorem p_conv8 {E : Env} {s : St} {dst : Option Nat} {ty : TypeId} {ps : String} {af : Array Edge} {gd : Option (Nat × Bool)} {x : Operand} {k' : IntKind} {v : Fin 256} {S T : TypeId} {i : TI} {sz by_ : Nat} {z : D} (hs : E.tt S = some i) (ht : E.tt T = some ⟨.int k', sz, by_, z⟩) (hx : ev s x = some (.u8 v)) (hk : k' ≠ .i8) :
    Pt E ⟨dst, .convert S T x, ty, ps, af, gd⟩ s (.int k' (v.val : Int)) := by
  refine p_conv hs ht (k := .u8) (by unfold evI; rw [hx]; rfl) ?_
  have := v.isLt
  cases k' <;> first | exact absurd rfl hk | (simp only [inR]; omega)
/-- The cells of structs, field by field. -/
theorem ceq_cons {d d' : D} {r r' : List D} (h : d.cells = d'.cells) (hr : (D.agg r).cells = (D.agg r').cells) : (D.agg (d :: r)).cells = (D.agg (d' :: r')).cells := by
  simp only [D.cells, D.cellsL] at hr ⊢
  rw [h, hr]
theorem ceq_int {k : IntKind} {a b : Int} (h : a = b) : (D.int k a).cells = (D.int k b).cells := by rw [h]
theorem ceq_arr {k : IntKind} {n : Nat} {f g : Nat → Int} (h : ∀ i, i < n → f i = g i) : (D.arr k n f).cells = (D.arr k n g).cells :=
  List.map_congr_left fun i hi => by rw [h i (List.mem_range.1 hi)]
theorem veq_arr {k : IntKind} {n : Nat} {f g : Nat → Int} (h : ∀ i, i < n → f i = g i) : (D.arr k n f).val = (D.arr k n g).val := by
  have e : (List.range n).map (fun i => Value.int k (f i)) = (List.range n).map (fun i => Value.int k (g i)) := List.map_congr_left fun i hi => by rw [h i (List.mem_range.1 hi)]
  simp only [D.val, e]
/-- The address of an element: of one cell | of several; in a row | in a part of a row. -/
theorem p_ix1 {E : Env} {s : St} {dst : Option Nat} {ty : TypeId} {ps : String} {af : Array Edge} {gd : Option (Nat × Bool)} {x y : Operand} {b o T len el : Nat} {k : IntKind} {i : Int} {sz by_ : Nat} {z : D} {ei : TI} (j : Nat) (ht : E.tt T = some ⟨.arr len el, sz, by_, z⟩) (h3 : E.tt el = some ei) (h1 : ei.size = 1)
    (hx : ev s x = some (.ptr b o none)) (hy : evI s y = some (k, i)) (hj : i = (j : Int)) (hi : j < len) : Pt E ⟨dst, .indexAddr T x y, ty, ps, af, gd⟩ s (.ptr b o (some j)) := by
  have h := p_indexAddr (E := E) (s := s) (dst := dst) (ty := ty) (ps := ps) (af := af) (gd := gd) j ht h3 hx hy hj hi
  rw [offS_eq, mulS_eq, h1] at h
  simpa using h
theorem p_ix1s {E : Env} {s : St} {dst : Option Nat} {ty : TypeId} {ps : String} {af : Array Edge} {gd : Option (Nat × Bool)} {x y : Operand} {b o T len el : Nat} {k : IntKind} {i : Int} {sz by_ : Nat} {z : D} {ei : TI} {e : Nat} (j : Nat) (ht : E.tt T = some ⟨.arr len el, sz, by_, z⟩) (h3 : E.tt el = some ei) (h1 : ei.size = 1)
    (hx : ev s x = some (.ptr b o (some e))) (hy : evI s y = some (k, i)) (hj : i = (j : Int)) (hi : j < len) : Pt E ⟨dst, .indexAddr T x y, ty, ps, af, gd⟩ s (.ptr b o (some (e + j))) := by
  have h := p_indexAddr (E := E) (s := s) (dst := dst) (ty := ty) (ps := ps) (af := af) (gd := gd) j ht h3 hx hy hj hi
  rw [offS_eq, mulS_eq, h1] at h
  simpa using h
theorem p_ixN {E : Env} {s : St} {dst : Option Nat} {ty : TypeId} {ps : String} {af : Array Edge} {gd : Option (Nat × Bool)} {x y : Operand} {b o T len el : Nat} {k : IntKind} {i : Int} {sz by_ : Nat} {z : D} {ei : TI} (n j : Nat) (ht : E.tt T = some ⟨.arr len el, sz, by_, z⟩) (h3 : E.tt el = some ei) (h1 : ei.size = n)
    (hx : ev s x = some (.ptr b o none)) (hy : evI s y = some (k, i)) (hj : i = (j : Int)) (hi : j < len) : Pt E ⟨dst, .indexAddr T x y, ty, ps, af, gd⟩ s (.ptr b o (some (n * j))) := by
  have h := p_indexAddr (E := E) (s := s) (dst := dst) (ty := ty) (ps := ps) (af := af) (gd := gd) j ht h3 hx hy hj hi
  rw [offS_eq, mulS_eq, h1, Nat.mul_comm] at h
  simpa using h
theorem p_ixl1 {E : Env} {s : St} {dst : Option Nat} {ty : TypeId} {ps : String} {af : Array Edge} {gd : Option (Nat × Bool)} {x y : Operand} {b o T el : Nat} {k : IntKind} {i : Int} {sz by_ : Nat} {z : D} {ei : TI} {l cap : Nat} (j : Nat) (ht : E.tt T = some ⟨.slice el, sz, by_, z⟩) (h3 : E.tt el = some ei) (h1 : ei.size = 1)
    (hx : ev s x = some (.sl b o l cap)) (hy : evI s y = some (k, i)) (hj : i = (j : Int)) (hi : j < l) : Pt E ⟨dst, .indexAddr T x y, ty, ps, af, gd⟩ s (.ptr b o (some j)) := by
  have h := p_indexAddr_sl (E := E) (s := s) (dst := dst) (ty := ty) (ps := ps) (af := af) (gd := gd) j ht h3 hx hy hj hi
  rw [mulS_eq, h1] at h
  simpa using h
theorem p_ixlN {E : Env} {s : St} {dst : Option Nat} {ty : TypeId} {ps : String} {af : Array Edge} {gd : Option (Nat × Bool)} {x y : Operand} {b o T el : Nat} {k : IntKind} {i : Int} {sz by_ : Nat} {z : D} {ei : TI} {l cap : Nat} (n j : Nat) (ht : E.tt T = some ⟨.slice el, sz, by_, z⟩) (h3 : E.tt el = some ei) (h1 : ei.size = n)
    (hx : ev s x = some (.sl b o l cap)) (hy : evI s y = some (k, i)) (hj : i = (j : Int)) (hi : j < l) : Pt E ⟨dst, .indexAddr T x y, ty, ps, af, gd⟩ s (.ptr b o (some (j * n))) := by
  have h := p_indexAddr_sl (E := E) (s := s) (dst := dst) (ty := ty) (ps := ps) (af := af) (gd := gd) j ht h3 hx hy hj hi
  rw [mulS_eq, h1] at h
  simpa using h
theorem veq_tup2 {a a' b b' : D} (h1 : a.val = a'.val) (h2 : b.val = b'.val) : (D.tup [a, b]).val = (D.tup [a', b']).val := by
  simp only [D.val, D.valL, h1, h2]
theorem View.cons {hp rest : List Ent} {e : Ent} (h1 : View hp [e]) (h2 : View hp rest) (hw : wkeys [e] = []) (hw2 : wkeys rest = []) : View hp (e :: rest) := fun w h => by
  have a := h1 w h
  have b := h2 w h
  have hw' : wkeys (e :: rest) = [] := by
    have e1 : wkeys [e] = e.wkey ++ [] := rfl
    show e.wkey ++ wkeys rest = []
    rw [hw2]; rw [hw] at e1; exact e1.symm
  refine ⟨fun x hx => ?_, by rw [hw']; exact List.nodup_nil, fun x _ => by rw [hw']; simp⟩
  rcases List.mem_cons.1 hx with rfl | hx
  · exact a.all _ (by simp)
  · exact b.all _ hx
theorem View.one {hp : List Ent} {e : Ent} (hw : wkeys [e] = []) (h : ∀ w, HpOk hp w → e.ok w) : View hp [e] := fun w hh =>
  ⟨fun x hx => by rw [List.mem_singleton.1 hx]; exact h w hh, by rw [hw]; exact List.nodup_nil, fun x _ => by rw [hw]; simp⟩
theorem View.var {hp : List Ent} {b : Nat} {d : D} (m : Ent.var b d ∈ hp) : View hp [.rvar b d] := View.one rfl fun w h => by
  have a := h.all _ m
  exact a
theorem View.rvar {hp : List Ent} {b : Nat} {d : D} (m : Ent.rvar b d ∈ hp) : View hp [.rvar b d] := View.one rfl fun w h => h.all _ m
theorem View.ro {hp : List Ent} {b off : Nat} {r : Rw} (m : Ent.ro b off r ∈ hp) : View hp [.ro b off r] := View.one rfl fun w h => h.all _ m
theorem View.row {hp : List Ent} {b cap EE : Nat} {r : Rw} (m : Ent.row b cap EE r ∈ hp) : View hp [.ro b 0 r] := View.one rfl fun w h => by
  have hrow : w.ownsRow 0 EE r.size (.slice (some ⟨b, 0, Option.none⟩) r.len cap) r.len r.cells := h.all _ m
  refine ⟨(World.ownsRow.lt hrow b rfl).2, fun j v hj => ?_⟩
  have hl : j < r.cells.length := (List.getElem?_eq_some_iff.1 hj).1
  have := World.ownsRow.cellAt hrow j (by rw [← Rw.length_cells]; exact hl)
  rw [hj] at this
  simpa using this
theorem View.tail {hp need : List Ent} {e : Ent} (h : View hp need) : View (e :: hp) need := fun w hh => h w ⟨fun x hx => hh.all x (by simp [hx]), (List.nodup_append.1 (show (e.wkey ++ wkeys hp).Nodup from hh.nodup)).2.1, fun b hb hb' => hh.apart b (List.mem_append_right _ hb) (List.mem_append_right _ hb')⟩
theorem Pt.eq {E : Env} {o : Oper} {s : St} {d d' : D} (h : Pt E o s d) (e : d.val = d'.val) : Pt E o s d' := fun a ho w => by rw [← e]; exact h a ho w
theorem Qt.eq {E : Env} {o : Oper} {s : St} {d d' : D} (h : Qt E o s d) (e : d.val = d'.val) : Qt E o s d' := fun a w ho => by rw [← e]; exact h a w ho
theorem ofNat_val {n : Nat} (h : n < 256) : (Fin.ofNat 256 n).val = n := by simp [Fin.ofNat, Nat.mod_eq_of_lt h]
theorem veq_byte {n : Nat} (h : n < 256) : (D.int .u8 (n : Int)).val = (D.u8 (Fin.ofNat 256 n)).val := by
  simp only [D.val, ofNat_val h]
/-- The bytes 0 .. m - 1. -/
def elems (m : Nat) : List (Fin 256) := (List.range m).map (Fin.ofNat 256)
theorem elems_len {m : Nat} : (Rw.u8s (elems m)).len = m := by simp [Rw.len, elems]
theorem FR_post' {E : Env} {s : St} {rs : List ResultVar} {b n cap EE : Nat} {r r' : Rw} (h : ResL E s rs [.sl b 0 n cap]) (hm : Ent.row b cap EE r' ∈ s.hp) (hn : n = r.len) (hr : r' = r) :
    ∃ ds' new, ResL E s rs ds' ∧ (∃ b cap, resD ds' = .sl b 0 r.len cap ∧ new = [.row b cap EE r]) ∧ HpSub new s.hp ∧ rkeys new = [] := by
  subst hr
  exact FR_post h hm hn
theorem wanted_undef {E : Env} {s : St} {a : Act} (ho : okT E s a) {ops : Array Oper} {o : Oper} {g t : Nat} {want : Bool} (hg : o.guard = some (g, want)) (ht : (ops[g]?).bind (·.dst) = some t)
    (hb : get s.tm t = some (.tup [])) : Region.wanted o (yielded ops a.tmps) = false := by
  have := (ho.tm t _ hb).2
  unfold Region.wanted
  simp only [hg, yielded, ht, Option.bind_some, this, D.val, D.valL]
  cases want <;> rfl
/-- A guard whose own operation was not carried out. -/
theorem Ops_guard_u {E : Env} {ops : Array Oper} {r : List Oper} {K : St → Prop} {s : St} {k g t : Nat} {want : Bool} {op : Op} {ty : TypeId} {ps : String} {af : Array Edge}
    (ht : (ops[g]?).bind (·.dst) = some t) (hb : get s.tm t = some (.tup [])) (hk : k < E.n) (h1 : Ops E ops r K (s.put k (.tup []))) : Ops E ops (⟨some k, op, ty, ps, af, some (g, want)⟩ :: r) K s := ⟨fun a w ho Q hQ => by
  have hw := wanted_undef ho.t (o := ⟨some k, op, ty, ps, af, some (g, want)⟩) rfl ht hb
  unfold wpList
  rw [hw, if_neg (by simp)]
  exact h1.out _ w (ho.put (d := .tup []) hk) Q hQ⟩
end Gx
end Go.Proofs.Ytjihhcjpbcmjaaa
