/- Room asked for ahead: slices.Grow at a nil slice. No conditions but those in the statements. -/
import Derived.Lib.AppendZeros
import Derived.Test.YtjihhcjpbcmjaaaGx32
namespace Go.Proofs.Ytjihhcjpbcmjaaa
open Go
namespace Gx
open Go.RowKit (Below)
set_option linter.unusedVariables false
section
variable {E : Env} {s : St} {dst : Option Nat} {ty : TypeId} {ps : String} {af : Array Edge} {gd : Option (Nat × Bool)} {k : Nat} {K : St → Prop}
theorem p_cap_nil {x : Operand} {T el : Nat} {sz by_ : Nat} {z : D} {h : (Value.slice none 0 0).oneCell' = true} {aty : Array TypeId} (haty : aty = #[T]) (ht : E.tt T = some ⟨.slice el, sz, by_, z⟩) (hx : ev s x = some (.raw (.slice none 0 0) h)) :
    Pt E ⟨dst, .call { callee := .builtin .cap, args := #[x], argTypes := aty }, ty, ps, af, gd⟩ s (.int .i64 0) := fun c ho w => by
  subst haty
  obtain ⟨d, hd, hm⟩ := tt_underlying ht
  simp only [TD.met] at hm
  subst hm
  simp [execOp, resolve, invoke, builtin, ho.ev hx, D.val, Builtin.cap_, run_underlying hd, goInt]
theorem p_take_nil {T el : Nat} {x y : Operand} {kk : IntKind} {i : Int} {ei : TI} {sz by_ : Nat} {z : D} {h : (Value.slice none 0 0).oneCell' = true} (ht : E.tt T = some ⟨.slice el, sz, by_, z⟩) (h3 : E.tt el = some ei) (hx : ev s x = some (.raw (.slice none 0 0) h)) (hy : evI s y = some (kk, i)) (hi : i = 0) :
    Pt E ⟨dst, .slice T x none (some y) none, ty, ps, af, gd⟩ s (.raw (.slice none 0 0) rfl) := fun a ho w => by
  subst hi
  obtain ⟨d, hd, hm'⟩ := tt_underlying ht
  simp only [TD.met] at hm'
  subst hm'
  obtain ⟨x', hx', hs', _⟩ := tt_info h3
  simp [execOp, ho.ev hx, ho.evI hy, D.val, Instr.sliceAt, Instr.slice, Instr.sliceBounds, Instr.sliceBound, asIntOf, run_underlying hd, sizeOf, typeInfo, hx']
/-- append(nil, make([]T, n)..): the room is there, and of its cells nothing is said. -/
theorem x_growNil {T Ti el n : Nat} {x y : Operand} {ei ii : TI} {sz by_ : Nat} {z : D} {kn kq : IntKind} {i : Int} {tys : Array TypeId} {hh : (Value.slice none 0 0).oneCell' = true} (htys : tys = #[T, Ti]) (ht : E.tt T = some ⟨.slice el, sz, by_, z⟩) (hti : E.tt Ti = some ii) (htd : ii.td = .int kn) (h3 : E.tt el = some ei)
    (hx : ev s x = some (.raw (.slice none 0 0) hh)) (hy : evI s y = some (kq, i)) (hi : i = (n : Int)) (h0 : 0 < n) (h1 : ei.size = 1) (hb : n * ei.bytes ≤ 140737488355328) (hb2 : n ≤ 140737488355328) (hk : k < E.n)
    (h : ∀ b cap, K ⟨(k, .sl b 0 n cap) :: s.tm, .row b cap el (.u8s []) :: s.hp⟩) :
    Xt E ⟨some k, .call { callee := .builtin .append, args := #[x, y], argTypes := tys }, ty, ps, af, gd⟩ s K := xt_value fun a w ho => by
  subst htys; subst hi
  obtain ⟨d, hd, hm⟩ := tt_underlying ht
  simp only [TD.met] at hm
  subst hm
  obtain ⟨d2, hd2, hm2⟩ := tt_underlying hti
  rw [htd] at hm2
  simp only [TD.met] at hm2
  subst hm2
  obtain ⟨xi, hxi, e1, e2, e3⟩ := tt_info h3
  have hf := (E.tok el ei h3).2.2.1
  have hzs := (E.tok el ei h3).2.2.2.1
  have hzc : ei.zero.val.cells.size = 1 := by rw [D.val_cells _ hf]; simp [D.length_cells, hzs, h1]
  have hrun := Lib.run_append_nil_zeros (P := E.P) w T Ti ty el xi ei.zero.val kq kn hd hd2 hxi e3 n h0 (by rw [e1, h1]; omega) (by omega) (by rw [e2]; omega)
  have hge := grownCap_ge w n 0 el
  have hle := grownCap_le_maxLen w n 0 el (by unfold maxLen; omega)
  have hsz : ∀ m, (Builtin.zeroCells ei.zero.val.cells m).size = m := fun m => by simp [Builtin.zeroCells, hzc]
  have hrow := World.ownsRow_made (base := 0) (e := el) (size := 1) w.drew (Builtin.zeroCells ei.zero.val.cells n ++ Builtin.zeroCells ei.zero.val.cells (grownCap w n 0 el - n)) (grownCap w n 0 el) (Nat.zero_le _) hle (by rw [Array.size_append, hsz, hsz]; omega)
  have hbel : Below w.heap.size w (w.drew.alloc (.cells (Builtin.zeroCells ei.zero.val.cells n ++ Builtin.zeroCells ei.zero.val.cells (grownCap w n 0 el - n)) el)) := (show Below w.heap.size w w.drew from ⟨rfl, rfl, rfl, Nat.le_refl _, fun _ _ => rfl⟩).trans ((Below.refl _ w.drew).alloc (Nat.le_refl _) _)
  refine ⟨_, _, ?_, _, h w.heap.size (grownCap w n 0 el), ((ho.more (new := [.row w.heap.size (grownCap w n 0 el) el (.u8s [])]) hbel
    ⟨fun e he => by simp only [List.mem_singleton] at he; subst he; exact hrow, by simp [wkeys, Ent.wkey], by simp [rkeys, Ent.rkey]⟩ rfl (by simp [wkeys, Ent.wkey])).put (d := .sl w.heap.size 0 n (grownCap w n 0 el)) hk)⟩
  simp only [execOp, resolve, invoke, builtin, Sem.run_bind, Sem.run_pure, Result.andThen_ok, List.map_toArray, List.map_cons, List.map_nil, ho.ev hx, ho.t.evI hy, D.val, hrun]
end
/-! ### Slices of bytes that are read together -/
def rpl (l : SB) : Ent := .any [] (l.flatMap fun p => rdK p.1.1 (.u8s p.2)) (fun w => ∀ p ∈ l, RdP p.1.1 (.u8s p.2) w)
  (fun w w' h hb => fun p hp => (h p hp).stays fun k hk hl => hb k (.inr (List.mem_flatMap.2 ⟨p, hp, hk.resolve_left (by simp)⟩)) hl)
  (fun w h k hk => by
    obtain ⟨p, hp, hk⟩ := List.mem_flatMap.1 (hk.resolve_left (by simp))
    exact rdK_lt (h p hp) k hk)
theorem Rds.rplI {s : St} {l : SB} {j : Nat} (m : Gx.rpl l ∈ s.hp) (hj : j < l.length) : Rds s (l.getD j bd).1.1 (.u8s (l.getD j bd).2) := fun w h => (show ∀ p ∈ l, RdP p.1.1 (.u8s p.2) w from h.all _ m) _ (bd_mem hj)
theorem Vw.rpl2 {R : List Ent} {u v : V1} {p q : List (Fin 256)} (h1 : Vw R [Gx.rd u.1 (.u8s p)]) (h2 : Vw R [Gx.rd v.1 (.u8s q)]) : Vw R [rpl [(u, p), (v, q)]] := by
  have hk : rkeys [rpl [(u, p), (v, q)]] = rkeys [Gx.rd u.1 (.u8s p)] ++ rkeys [Gx.rd v.1 (.u8s q)] := by simp [rkeys, rpl, Gx.rd, Ent.rkey]
  refine ⟨View.one rfl fun w hh => ?_, fun b hb => ?_, rfl⟩
  · intro x hx
    simp only [List.mem_cons, List.not_mem_nil, or_false] at hx
    rcases hx with rfl | rfl
    · exact (h1.v w hh).all (Gx.rd u.1 (.u8s p)) (by simp)
    · exact (h2.v w hh).all (Gx.rd v.1 (.u8s q)) (by simp)
  · rw [hk] at hb
    rcases List.mem_append.1 hb with hb | hb
    · exact h1.k b hb
    · exact h2.k b hb
theorem q_load_rb {E : Env} {s : St} {dst : Option Nat} {ty : TypeId} {ps : String} {af : Array Edge} {gd : Option (Nat × Bool)} {x : Operand} {v : Value} {e T j : Nat} {hv : (ptrAt v e).oneCell' = true} {i : TI} {l : SB} (ht : E.tt T = some i) (hx : ev s x = some (.raw (ptrAt v e) hv)) (hr : Rds s v (valsB l)) (he : e = mulS j i.size) (hj : j < l.length)
    (h2 : 1 = i.size) (h3 : false = i.td.ag) : Qt E ⟨dst, .load T x, ty, ps, af, gd⟩ s (.raw (l.getD j bd).1.1 (l.getD j bd).1.2) :=
  (q_loadR (r := valsB l) (j := j) ht hx hr he rfl (by simpa [valsB] using hj) h2 h3 rfl).eq (by
    simp only [D.val, List.getD, List.getElem?_map, List.getElem?_eq_getElem hj, Option.map_some, Option.getD_some])
/-- The first i of them, one behind the other. -/
def catB (S : SB) (i : Nat) : List (Fin 256) := ((S.take i).map (·.2)).flatten
theorem catB_succ {S : SB} {i : Nat} (h : i < S.length) : catB S (i + 1) = catB S i ++ (S.getD i bd).2 := by
  unfold catB
  rw [List.take_add_one, List.getElem?_eq_getElem h, List.map_append, List.flatten_append]
  simp [List.getD, List.getElem?_eq_getElem h]
theorem catB_len {S : SB} {B : Nat} (h : ∀ p ∈ S, p.2.length ≤ B) : ∀ i, i ≤ S.length → (catB S i).length ≤ i * B
  | 0, _ => by simp [catB]
  | i + 1, hi => by
    have := catB_len h i (by omega)
    have h2 := h _ (bd_mem (j := i) (by omega))
    rw [catB_succ (by omega), List.length_append, Nat.succ_mul]; omega
theorem m8 {α : Type} {a x y z u v w p q : α} {l : List α} : a ∈ x :: y :: z :: u :: v :: w :: p :: q :: a :: l := .tail _ m7
theorem m9 {α : Type} {a x y z u v w p q r : α} {l : List α} : a ∈ x :: y :: z :: u :: v :: w :: p :: q :: r :: a :: l := .tail _ m8
theorem m10 {α : Type} {a x y z u v w p q r t : α} {l : List α} : a ∈ x :: y :: z :: u :: v :: w :: p :: q :: r :: t :: a :: l := .tail _ m9
theorem m11 {α : Type} {a x y z u v w p q r t b : α} {l : List α} : a ∈ x :: y :: z :: u :: v :: w :: p :: q :: r :: t :: b :: a :: l := .tail _ m10
theorem m12 {α : Type} {a x y z u v w p q r t b c : α} {l : List α} : a ∈ x :: y :: z :: u :: v :: w :: p :: q :: r :: t :: b :: c :: a :: l := .tail _ m11
theorem m13 {α : Type} {a x y z u v w p q r t b c d : α} {l : List α} : a ∈ x :: y :: z :: u :: v :: w :: p :: q :: r :: t :: b :: c :: d :: a :: l := .tail _ m12
theorem m14 {α : Type} {a x y z u v w p q r t b c d e : α} {l : List α} : a ∈ x :: y :: z :: u :: v :: w :: p :: q :: r :: t :: b :: c :: d :: e :: a :: l := .tail _ m13
theorem m15 {α : Type} {a x y z u v w p q r t b c d e f : α} {l : List α} : a ∈ x :: y :: z :: u :: v :: w :: p :: q :: r :: t :: b :: c :: d :: e :: f :: a :: l := .tail _ m14
end Gx
end Go.Proofs.Ytjihhcjpbcmjaaa
