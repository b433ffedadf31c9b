/- Slices that came in, opened into lists; slices of slices of whole numbers. No conditions but those in the statements. Slices of slices that the call owns: one inner slice turned, stores, appends. No conditions but those in the statements. Squares (a number and a table of bytes) compared; no conditions but those in the statements. Stores into slices by number; lists that are marked. No conditions but those in the statements. Slices of rows of bytes: a byte of a row read, stored; rows that are marked. No conditions but those in the statements. Slices of slices of numbers: read inside, marked. No conditions but those in the statements. An inner slice laid into a slice of slices; a row laid into a slice of rows. No conditions but those in the statements. Appending what a slice reads. No conditions but those in the statements. The larger and the smaller of two numbers; slices of rows made. No conditions but those in the statements. -/
import Derived.Test.YtjihhcjpbcmjaaaFGGx12
import Derived.ChangeSlices
namespace Go.Proofs.Ytjihhcjpbcmjaaa
open Go
namespace Gx
open Go.RowKit (Below)
open Go.ChangeShapes
set_option linter.unusedVariables false

/-! ### Opening -/
theorem exL {α : Type} {Q : Nat → α → Prop} : ∀ n, (∀ i, i < n → ∃ x, Q i x) → ∃ l : List α, l.length = n ∧ ∀ i x, l[i]? = some x → Q i x
  | 0, _ => ⟨[], rfl, fun i x h => by simp at h⟩
  | n + 1, h => by
    obtain ⟨l, hl, hq⟩ := exL n fun i hi => h i (by omega)
    obtain ⟨x, hx⟩ := h n (by omega)
    refine ⟨l ++ [x], by simp [hl], fun i y hy => ?_⟩
    by_cases hi : i < l.length
    · rw [List.getElem?_append_left hi] at hy; exact hq i y hy
    · rw [List.getElem?_append_right (by omega)] at hy
      have : i - l.length = 0 := by
        cases hc : i - l.length with
        | zero => rfl
        | succ q => rw [hc] at hy; simp at hy
      rw [this] at hy
      simp at hy
      subst hy
      have : i = n := by omega
      subst this
      exact hx
theorem spot_of {w : World} {a : Addr} {u : Value} (h : w.cell? a = some u) : a.spot = none := by
  unfold World.cell? at h
  split at h
  · cases hs : a.spot with
    | none => rfl
    | some x => simp [hs] at h
  · cases h
theorem add_add (a : Addr) (n m : Nat) : (a.add n).add m = a.add (n + m) := by
  unfold Addr.add
  split <;> split <;> (try split) <;> simp_all <;> omega
theorem cell_at {w : World} {a : Addr} {n : Nat} (hs : a.spot = none) : w.cell? (a.add n) = w.cell? ⟨a.block, a.off + n, none⟩ := by
  obtain ⟨b, o, sp⟩ := a
  simp only at hs
  subst hs
  rw [Addr.add_at]
section
variable {H : Type} {enc : TypeId × Value → H} {P : Program} {w : World} {base : Nat} {spare : Nat → Bool} {held : Bool}
theorem op_slice {t e : TypeId} {fuel : Nat} {cs : List Value} {x : DataW H × List MemPlace} (ht : P.underlying t = some (.slice e)) (h : DataW.trod enc P w base spare held fuel t cs = some x) :
    ∃ v, cs = [v] ∧ v.oneCell' = true ∧ (v = .slice none 0 0 ∨ ∃ a len cap, v = .slice (some a) len cap ∧ len ≤ maxLen ∧ ∀ i, i < len → ∃ ys n y, (∀ j u, ys[j]? = some u → w.cell? (a.add (i * P.cellsOf e + j)) = some u) ∧ DataW.trod enc P w base spare held n e ys = some y) := by
  rcases DataW.trod_slice ht h with ⟨rfl, _⟩ | ⟨a, len, cap, elems, rest, n, _, rfl, _, hb, hl, hm, hlen, hel, _⟩
  · exact ⟨_, rfl, rfl, .inl rfl⟩
  refine ⟨_, rfl, rfl, .inr ⟨a, len, cap, rfl, by omega, fun i hi => ?_⟩⟩
  have h1 := hel i hi
  have h2 : i < elems.length := by omega
  rw [List.getElem?_eq_getElem h2, Option.bind_eq_some_iff] at h1
  obtain ⟨ys, h3, h4⟩ := h1
  refine ⟨ys, n, _, fun j u hj => ?_, h4⟩
  have h5 := World.cells?_some h3
  have hj' : j < P.cellsOf e := by
    have := (List.getElem?_eq_some_iff.1 hj).1
    have e1 : ys.length = P.cellsOf e := h5.2.1
    omega
  have := h5.2.2 j hj'
  rw [add_add] at this
  rw [this, hj]

/-- A slice whose elements are one cell each. -/
theorem op_cells {α : Type} {t e : TypeId} {fuel : Nat} {cs : List Value} {x : DataW H × List MemPlace} {Q : α → Prop} {val : α → Value} (mk : List α → Rw) (hmk : ∀ l, (mk l).cells = l.map val ∧ (mk l).len = l.length) (ht : P.underlying t = some (.slice e)) (hc : P.cellsOf e = 1)
    (hel : ∀ ys n y, DataW.trod enc P w base spare held n e ys = some y → ∃ a, ys = [val a] ∧ Q a) (h : DataW.trod enc P w base spare held fuel t cs = some x) :
    ∃ v, cs = [v] ∧ v.oneCell' = true ∧ ∃ l : List α, RdP v (mk l) w ∧ l.length ≤ maxLen ∧ ∀ a ∈ l, Q a := by
  obtain ⟨v, rfl, hv, h⟩ := op_slice ht h
  refine ⟨v, rfl, hv, ?_⟩
  rcases h with rfl | ⟨a, len, cap, rfl, hl, hh⟩
  · exact ⟨[], .inl ⟨rfl, (hmk []).2⟩, by simp, by simp⟩
  have hh' : ∀ i, i < len → ∃ y : α, w.cell? (a.add i) = some (val y) ∧ Q y := fun i hi => by
    obtain ⟨ys, n, y, h1, h2⟩ := hh i hi
    obtain ⟨z, rfl, h3⟩ := hel ys n y h2
    exact ⟨z, by simpa [hc] using h1 0 _ rfl, h3⟩
  obtain ⟨l, h1, h2⟩ := exL len hh'
  refine ⟨l, .inr ⟨a, cap, by rw [(hmk l).2, h1], fun hne => ?_, fun j u hu => ?_⟩, by omega, fun y hy => ?_⟩
  · rw [(hmk l).1] at hne
    cases l with
    | nil => exact absurd rfl hne
    | cons y r => have := spot_of (h2 0 y rfl).1; simpa [Addr.add] using this
  · rw [(hmk l).1, List.getElem?_map] at hu
    cases hy : l[j]? with
    | none => rw [hy] at hu; cases hu
    | some y =>
      rw [hy] at hu
      simp only [Option.map_some, Option.some.injEq] at hu
      subst hu
      have h3 := (h2 j y hy).1
      have hs : a.spot = none := by
        cases l with
        | nil => simp at hy
        | cons y r => have := spot_of (h2 0 y rfl).1; simpa [Addr.add] using this
      rwa [cell_at hs] at h3
  · obtain ⟨i, hi⟩ := List.getElem?_of_mem hy
    exact (h2 i y hi).2

theorem wf_in {k : IntKind} {n : Int} (h : (Lit.int k n).wf = true) : inR k n := by
  simp [Lit.wf, IntKind.has] at h
  cases k <;> simp [IntKind.min, IntKind.max, IntKind.signed, IntKind.bits] at h <;> simp only [inR] <;> omega

theorem el_u8 {e : TypeId} (he : P.underlying e = some (.int .u8)) : ∀ ys n y, DataW.trod enc P w base spare held n e ys = some y → ∃ a : Fin 256, ys = [Value.int .u8 (a.val : Int)] ∧ True := by
  intro ys n y h
  obtain ⟨m, rfl, _, h2⟩ := DataW.trod_int he h
  obtain ⟨h3, h4⟩ := wf_in h2
  exact ⟨⟨m.toNat, by omega⟩, by simp only [List.cons.injEq, Value.int.injEq, true_and, and_true]; omega, trivial⟩
theorem op_u8s {t e : TypeId} {v : Value} {d : DataW H} {ps : List MemPlace} (ht : P.underlying t = some (.slice e)) (he : P.underlying e = some (.int .u8)) (hc : P.cellsOf e = 1) (h : DataW.Trod enc P w base spare held t v d ps) (hone : ∀ u, v.cells.toList = [u] → v = u) :
    ∃ l : List (Fin 256), RdP v (.u8s l) w ∧ v.oneCell' = true ∧ l.length ≤ maxLen := by
  obtain ⟨fuel, h⟩ := h
  obtain ⟨u, hu, h1, l, h2, h3, _⟩ := op_cells (α := Fin 256) (Q := fun _ => True) (val := fun a => Value.int .u8 (a.val : Int)) Rw.u8s (fun l => ⟨rfl, rfl⟩) ht hc (el_u8 he) h
  rw [hone u hu]
  exact ⟨l, h2, h1, h3⟩
/-! ### Slices of slices of whole numbers -/
abbrev SL := List (V1 × List Int)
def sd : V1 × List Int := (⟨.slice none 0 0, rfl⟩, [])
def valsR (l : SL) : Rw := .vals (l.map (·.1.1)) (by intro v hv; obtain ⟨p, _, rfl⟩ := List.mem_map.1 hv; exact p.1.2)
def rss (v : Value) (l : SL) : Ent := .any [] (rdK v (valsR l) ++ l.flatMap fun p => rdK p.1.1 (.ints .i64 p.2)) (fun w => RdP v (valsR l) w ∧ ∀ p ∈ l, RdP p.1.1 (.ints .i64 p.2) w)
  (fun w w' h hb => ⟨h.1.stays fun k hk hl => hb k (.inr (List.mem_append_left _ (hk.resolve_left (by simp)))) hl, fun p hp => (h.2 p hp).stays fun k hk hl => hb k (.inr (List.mem_append_right _ (List.mem_flatMap.2 ⟨p, hp, hk.resolve_left (by simp)⟩))) hl⟩)
  (fun w h k hk => by
    rcases List.mem_append.1 (hk.resolve_left (by simp)) with h1 | h1
    · exact rdK_lt h.1 k h1
    · obtain ⟨p, hp, hk⟩ := List.mem_flatMap.1 h1
      exact rdK_lt (h.2 p hp) k hk)
def oss (v : Value) (E1 E2 : Nat) (l : SL) : Ent := .any (sblk v ++ l.flatMap fun p => sblk p.1.1) [] (fun w => OwnP v E1 (valsR l) w ∧ ∀ p ∈ l, OwnP p.1.1 E2 (.ints .i64 p.2) w)
  (fun w w' h hb => ⟨h.1.stays fun k hk hl => hb k (.inl (List.mem_append_left _ hk)) hl, fun p hp => (h.2 p hp).stays fun k hk hl => hb k (.inl (List.mem_append_right _ (List.mem_flatMap.2 ⟨p, hp, hk⟩))) hl⟩)
  (fun w h k hk => by
    rcases List.mem_append.1 (hk.resolve_right (by simp)) with h1 | h1
    · exact h.1.lt k h1
    · obtain ⟨p, hp, hk⟩ := List.mem_flatMap.1 h1
      exact (h.2 p hp).lt k hk)
theorem oss_rss {v : Value} {E1 E2 : Nat} {l : SL} {w : World} (h : (oss v E1 E2 l).ok w) : (rss v l).ok w := ⟨OwnP.rd h.1, fun p hp => OwnP.rd (h.2 p hp)⟩
theorem Vw.rss {R : List Ent} {v : Value} {l : SL} (m : Gx.rss v l ∈ R) : Vw R [Gx.rss v l] := Vw.one m rfl (fun k hk => .inr hk) fun w h => h
theorem Vw.rssO {R : List Ent} {v : Value} {E1 E2 : Nat} {l : SL} (m : oss v E1 E2 l ∈ R) : Vw R [Gx.rss v l] := Vw.one m rfl (fun k hk => .inl (by
  rcases List.mem_append.1 (show k ∈ rdK v (valsR l) ++ l.flatMap (fun p => rdK p.1.1 (.ints .i64 p.2)) from hk) with h | h
  · exact List.mem_append_left _ (rdK_sub k h)
  · obtain ⟨p, hp, hk⟩ := List.mem_flatMap.1 h
    exact List.mem_append_right _ (List.mem_flatMap.2 ⟨p, hp, rdK_sub k hk⟩))) fun w h => oss_rss h
theorem getD_mem {l : SL} {j : Nat} (h : j < l.length) : l.getD j sd ∈ l := by
  simp only [List.getD, List.getElem?_eq_getElem h, Option.getD_some]
  exact List.getElem_mem h
theorem Rds.rssO {s : St} {v : Value} {l : SL} (m : Gx.rss v l ∈ s.hp) : Rds s v (valsR l) := fun w h => (show RdP v (valsR l) w ∧ _ from h.all _ m).1
theorem Rds.ossO {s : St} {v : Value} {E1 E2 : Nat} {l : SL} (m : oss v E1 E2 l ∈ s.hp) : Rds s v (valsR l) := fun w h => OwnP.rd (show OwnP v E1 (valsR l) w ∧ _ from h.all _ m).1
theorem Rds.ossI {s : St} {v : Value} {E1 E2 : Nat} {l : SL} {j : Nat} (m : oss v E1 E2 l ∈ s.hp) (hj : j < l.length) : Rds s (l.getD j sd).1.1 (.ints .i64 (l.getD j sd).2) := fun w h => OwnP.rd ((show OwnP v E1 (valsR l) w ∧ ∀ p ∈ l, OwnP p.1.1 E2 (.ints .i64 p.2) w from h.all _ m).2 _ (getD_mem hj))
theorem valsR_len (l : SL) : (valsR l).len = l.length := by simp [valsR, Rw.len]
theorem q_lenO {E : Env} {s : St} {dst : Option Nat} {ty : TypeId} {ps : String} {af : Array Edge} {gd : Option (Nat × Bool)} {x : Operand} {v : Value} {hv : v.oneCell' = true} {l : SL} {T el : Nat} {sz by_ : Nat} {z : D} {aty : Array TypeId} (haty : aty = #[T]) (ht : E.tt T = some ⟨.slice el, sz, by_, z⟩) (hx : ev s x = some (.raw v hv)) (hr : Rds s v (valsR l)) :
    Qt E ⟨dst, .call { callee := .builtin .len, args := #[x], argTypes := aty }, ty, ps, af, gd⟩ s (.int .i64 ((l.length : Nat) : Int)) := (q_lenR haty ht hx hr).eq (by rw [valsR_len])
theorem q_loadI {E : Env} {s : St} {dst : Option Nat} {ty : TypeId} {ps : String} {af : Array Edge} {gd : Option (Nat × Bool)} {x : Operand} {v : Value} {e T j : Nat} {hv : (ptrAt v e).oneCell' = true} {i : TI} {l : SL} (ht : E.tt T = some i) (hx : ev s x = some (.raw (ptrAt v e) hv)) (hr : Rds s v (valsR l)) (he : e = mulS j i.size) (hj : j < l.length)
    (h2 : 1 = i.size) (h3 : false = i.td.ag) : Qt E ⟨dst, .load T x, ty, ps, af, gd⟩ s (.raw (l.getD j sd).1.1 (l.getD j sd).1.2) :=
  (q_loadR (r := valsR l) (j := j) ht hx hr he rfl (by simpa [valsR] using hj) h2 h3 rfl).eq (by
    simp only [D.val, List.getD, List.getElem?_map, List.getElem?_eq_getElem hj, Option.map_some, Option.getD_some])

end
section
variable {P : Program} {w : World} {r : Reach} {b : Nat}
theorem ok_slice {t e : TypeId} {v : Value} (hu : P.underlying t = some (.slice e)) (h : Value.okWide P w r b t v) : ∀ u, v.cells.toList = [u] → v = u := by
  unfold Value.okWide at h
  rw [hu] at h
  have h2 : Cell.okWide P w r b t v := h
  unfold Cell.okWide at h2
  rw [hu] at h2
  have h3 : Cell.ok P w r b t v := h2
  unfold Cell.ok at h3
  rw [hu] at h3
  intro u hc
  cases v <;> first | (exact h3.elim; done) | (simpa [Value.cells] using hc; done)
end
theorem HpOk.one {e : Ent} {w : World} (hw : e.wkey = []) (h : e.ok w) : HpOk [e] w :=
  ⟨fun x hx => by rw [List.mem_singleton.1 hx]; exact h, by show (e.wkey ++ []).Nodup; rw [hw]; exact List.nodup_nil, fun b _ => by show b ∉ e.wkey ++ []; rw [hw]; simp⟩
end Gx
end Go.Proofs.Ytjihhcjpbcmjaaa
namespace Go.Proofs.Ytjihhcjpbcmjaaa
open Go
namespace Gx
open Go.RowKit (Below)
set_option linter.unusedVariables false
/-- A slice of a block's own, from its beginning. -/
def slv (b n c : Nat) : V1 := ⟨.slice (some ⟨b, 0, none⟩) n c, rfl⟩
theorem split_at {l : SL} {i : Nat} (hi : i < l.length) : ∃ A B, l = A ++ l.getD i sd :: B ∧ ∀ q, l.set i q = A ++ q :: B := by
  refine ⟨l.take i, l.drop (i + 1), ?_, fun q => ?_⟩
  · rw [List.getD, List.getElem?_eq_getElem hi, Option.getD_some]
    conv => lhs; rw [← List.take_append_drop i l]
    rw [List.drop_eq_getElem_cons hi]
  · rw [List.set_eq_take_append_cons_drop, if_pos hi]
theorem valsR_same {l l' : SL} (h : l.map (·.1.1) = l'.map (·.1.1)) : (valsR l).cells = (valsR l').cells ∧ (valsR l).len = (valsR l').len ∧ (valsR l).size = (valsR l').size := ⟨h, by simpa [valsR, Rw.len] using congrArg List.length h, rfl⟩
theorem OwnP.cast {v : Value} {EE : Nat} {r r' : Rw} {w : World} (h : OwnP v EE r w) (e : r.cells = r'.cells ∧ r.len = r'.len ∧ r.size = r'.size) : OwnP v EE r' w := by
  unfold OwnP at *
  rw [← e.1, ← e.2.1, ← e.2.2]; exact h
def ossK (v : Value) (l : SL) : List Nat := sblk v ++ l.flatMap fun p => sblk p.1.1
theorem ossK_set {v : Value} {l : SL} {i : Nat} (hi : i < l.length) (l2 : List Int) : ossK v (l.set i ((l.getD i sd).1, l2)) = ossK v l := by
  obtain ⟨A, B, h1, h2⟩ := split_at hi
  unfold ossK
  rw [h2]
  conv => rhs; rw [h1]
  simp
/-- One inner slice turned, the others as they were. -/
theorem oss_turn {v : Value} {E1 E2 : Nat} {l : SL} {i : Nat} {l2 : List Int} {w w' : World} (hi : i < l.length) (h : (oss v E1 E2 l).ok w) (hnd : (ossK v l).Nodup) (hb : ∀ q, q < w.heap.size → q ∉ sblk (l.getD i sd).1.1 → w'.heap[q]? = w.heap[q]?)
    (hn : OwnP (l.getD i sd).1.1 E2 (.ints .i64 l2) w') : (oss v E1 E2 (l.set i ((l.getD i sd).1, l2))).ok w' := by
  obtain ⟨A, B, h1, h2⟩ := split_at hi
  generalize hp : l.getD i sd = p at *
  obtain ⟨h3, h4⟩ : OwnP v E1 (valsR l) w ∧ ∀ p ∈ l, OwnP p.1.1 E2 (.ints .i64 p.2) w := h
  have hnd' : (sblk v ++ (A.flatMap (fun p => sblk p.1.1) ++ (sblk p.1.1 ++ B.flatMap (fun p => sblk p.1.1)))).Nodup := by
    have := hnd
    unfold ossK at this
    rw [h1] at this
    simpa [List.flatMap_append] using this
  have d1 : ∀ k ∈ sblk v, k ∉ sblk p.1.1 := fun k hk hk' => (List.nodup_append.1 hnd').2.2 k hk k (by simp [hk']) rfl
  have hnd2 := (List.nodup_append.1 hnd').2.1
  have d2 : ∀ k ∈ A.flatMap (fun p => sblk p.1.1), k ∉ sblk p.1.1 := fun k hk hk' => (List.nodup_append.1 hnd2).2.2 k hk k (by simp [hk']) rfl
  have d3 : ∀ k ∈ B.flatMap (fun p => sblk p.1.1), k ∉ sblk p.1.1 := fun k hk hk' => (List.nodup_append.1 (List.nodup_append.1 hnd2).2.1).2.2 k hk' k hk rfl
  refine ⟨(h3.stays fun k hk hl => hb k hl (d1 k hk)).cast (valsR_same ?_), fun q hq => ?_⟩
  · rw [h2]
    conv => lhs; rw [h1]
    simp
  · rw [h2] at hq
    rcases List.mem_append.1 hq with hq | hq
    · exact (h4 q (by rw [h1]; simp [hq])).stays fun k hk hl => hb k hl (d2 k (List.mem_flatMap.2 ⟨q, hq, hk⟩))
    · rcases List.mem_cons.1 hq with rfl | hq
      · exact hn
      · exact (h4 q (by rw [h1]; simp [hq])).stays fun k hk hl => hb k hl (d3 k (List.mem_flatMap.2 ⟨q, hq, hk⟩))
theorem CT.oss {P : Program} {f : FuncId} {args : Array Value} {v : Value} {E1 E2 : Nat} {l : SL} {i : Nat} {d : D} {l2 : List Int} (hi : i < l.length)
    (h : CT P f args [own (l.getD i sd).1.1 E2 (.ints .i64 (l.getD i sd).2)] [] (fun _ : Unit => True) (fun _ => d) (fun _ => [own (l.getD i sd).1.1 E2 (.ints .i64 l2)])) :
    CT P f args [Gx.oss v E1 E2 l] [] (fun _ : Unit => True) (fun _ => d) (fun _ => [Gx.oss v E1 E2 (l.set i ((l.getD i sd).1, l2))]) := fun w hh => by
  have hk : ∀ l : SL, wkeys ([Gx.oss v E1 E2 l] : List Ent) = ossK v l := fun l => by simp [wkeys, Gx.oss, Ent.wkey, ossK]
  have hnd : (ossK v l).Nodup := by rw [← hk]; simpa using hh.nodup
  have hok : (Gx.oss v E1 E2 l).ok w := hh.all _ (by simp)
  have hin : OwnP (l.getD i sd).1.1 E2 (.ints .i64 (l.getD i sd).2) w := hok.2 _ (getD_mem hi)
  have hsub : ∀ k ∈ sblk (l.getD i sd).1.1, k ∈ ossK v l := fun k hk => List.mem_append_right _ (List.mem_flatMap.2 ⟨_, getD_mem hi, hk⟩)
  have hk1 : wkeys ([own (l.getD i sd).1.1 E2 (.ints .i64 (l.getD i sd).2)] : List Ent) = sblk (l.getD i sd).1.1 := by simp [wkeys, own, Ent.wkey]
  refine (h w ⟨fun e he => ?_, ?_, fun b hb => ?_⟩).mono ?_
  · simp only [List.append_nil, List.mem_singleton] at he; subst he; exact hin
  · rw [List.append_nil, hk1]; exact sblk_nodup _
  · simp [rkeys, own, Ent.rkey] at hb
  · rintro e w' ⟨_, _, h1, h2, _, h4, h5, h6, h7, h8, _⟩
    rw [hk1] at h8
    have h9 : OwnP (l.getD i sd).1.1 E2 (.ints .i64 l2) w' := h2.all (own (l.getD i sd).1.1 E2 (.ints .i64 l2)) (List.mem_singleton.2 rfl)
    have hn := oss_turn hi hok hnd h8 h9
    refine ⟨(), trivial, h1, ⟨fun e he => by rw [List.mem_singleton.1 he]; exact hn, by rw [hk, ossK_set hi]; exact hnd, fun b hb => by simp [rkeys, Gx.oss, Ent.rkey] at hb⟩, by simp [rkeys, Gx.oss, Ent.rkey], h4, h5, h6, h7, fun q hq hne => h8 q hq fun hc => hne ?_, fun q hq => .inl ?_⟩
    · rw [hk]; exact hsub q hc
    · rw [hk, ossK_set hi] at hq; rw [hk]; exact hq

section
variable {E : Env} {s : St} {ty : TypeId} {ps : String} {af : Array Edge} {gd : Option (Nat × Bool)} {k : Nat} {K : St → Prop}
/-- One more inner slice. -/
theorem x_appendSS {T E1 E2 b2 c2 EE : Nat} {x y : Operand} {ei : TI} {sz by_ : Nat} {z : D} {v : Value} {hv : v.oneCell' = true} {l : SL} {u : V1} {li : List Int} {e3 : Ent} {hu : ∀ a ∈ [u.1], a.oneCell' = true} {R : List Ent} {hp' : V1 → List Ent} {tys : Array TypeId} (htys : tys = #[T, T]) (ht : E.tt T = some ⟨.slice E1, sz, by_, z⟩) (h3 : E.tt E1 = some ei) (hz : 1 = ei.size)
    (hx : ev s x = some (.raw v hv)) (hy : ev s y = some (.sl b2 0 1 c2)) (m2 : Ent.row b2 c2 EE (.vals [u.1] hu) ∈ s.hp) (hd : HpDels [oss v E1 E2 l, e3] s.hp R) (hk3 : e3.wkey = sblk u.1) (hr3 : e3.rkey = []) (ho3 : ∀ w, e3.ok w → OwnP u.1 E2 (.ints .i64 li) w)
    (hi : ∀ v' : V1, HpDels [oss v'.1 E1 E2 (l ++ [(u, li)])] (hp' v') R) (hb : (l.length + 1) * ei.bytes ≤ 140737488355328) (hb2 : l.length + 1 ≤ 140737488355328) (hk : k < E.n)
    (h : ∀ v' : V1, K ⟨(k, .raw v'.1 v'.2) :: s.tm, hp' v'⟩) : Xt E ⟨some k, .call { callee := .builtin .append, args := #[x, y], argTypes := tys }, ty, ps, af, gd⟩ s K := xt_value fun a w ho => by
  subst htys
  obtain ⟨d, hd0, hm⟩ := tt_underlying ht
  simp only [TD.met] at hm
  subst hm
  have hH := ho.hp.perm hd.perm
  have hok : (oss v E1 E2 l).ok w := hH.all _ (by simp)
  have hown : OwnP v E1 (valsR l) w := hok.1
  have hin3 : OwnP u.1 E2 (.ints .i64 li) w := ho3 w (hH.all _ (by simp))
  have h2 : w.ownsRow 0 EE (Rw.vals [u.1] hu).size (.slice (some ⟨b2, 0, none⟩) (Rw.vals [u.1] hu).len c2) (Rw.vals [u.1] hu).len (Rw.vals [u.1] hu).cells := ho.hp.all _ m2
  have hsrc : ∀ j q, [u.1][j]? = some q → w.cell? ((⟨b2, 0, none⟩ : Addr).add j) = some q := h2.cells (g := b2) rfl
  have hsz1 : ei.size = 1 := hz.symm
  have hown' : w.ownsRow 0 E1 ei.size v l.length (valsR l).cells := by
    have := hown
    unfold OwnP at this
    rw [valsR_len] at this
    rw [hsz1]; exact this
  obtain ⟨g, cap', w', r1, r2, r3, r4⟩ := run_append_rows E.P w T E1 ty hd0 (E.tok E1 ei h3) (by rw [hsz1]; rfl) v l.length (valsR l).cells hown' ⟨b2, 0, none⟩ 1 c2 [u.1] (by rw [hsz1]; rfl) hsrc (by simpa using u.2) (by omega) hb hb2
  have hknd := hH.nodup
  have hkA : wkeys ([oss v E1 E2 l, e3] ++ R) = ossK v l ++ (sblk u.1 ++ wkeys R) := by
    show (ossK v l) ++ (e3.wkey ++ wkeys R) = _
    rw [hk3]
  have hnd := hknd
  rw [hkA, List.nodup_append] at hnd
  have hne : ∀ q, q < w.heap.size → v.ownBlock ≠ some q → w'.heap[q]? = w.heap[q]? := fun q hq hne => r3.block q hq (fun h => hne h.symm)
  have hgk : ∀ q ∈ sblk v, q ∉ l.flatMap (fun p => sblk p.1.1) := fun q hq hq' => (List.nodup_append.1 hnd.1).2.2 q hq q hq' rfl
  have houter : OwnP (.slice (some ⟨g, 0, none⟩) (l.length + 1) cap') E1 (valsR (l ++ [(u, li)])) w' := by
    unfold OwnP
    rw [hsz1] at r2
    have e1 : (valsR (l ++ [(u, li)])).cells = (valsR l).cells ++ [u.1] := by simp [valsR, Rw.cells]
    have e2 : (valsR (l ++ [(u, li)])).len = l.length + 1 := by rw [valsR_len]; simp
    rw [e1, e2]
    exact r2
  have hinner : ∀ p ∈ l ++ [(u, li)], OwnP p.1.1 E2 (.ints .i64 p.2) w' := fun p hp => by
    rcases List.mem_append.1 hp with hp | hp
    · refine (hok.2 p hp).stays fun q hq hl => hne q hl fun hc => hgk q ((sblk_own v q).2 hc) (List.mem_flatMap.2 ⟨p, hp, hq⟩)
    · rw [List.mem_singleton.1 hp]
      refine hin3.stays fun q hq hl => hne q hl fun hc => ?_
      exact hnd.2.2 q (List.mem_append_left _ ((sblk_own v q).2 hc)) q (List.mem_append_left _ hq) rfl
  have hgnew : ∀ q ∈ ossK (.slice (some ⟨g, 0, none⟩) (l.length + 1) cap') (l ++ [(u, li)]), q ∈ ossK v l ++ sblk u.1 ∨ w.heap.size ≤ q := fun q hq => by
    simp only [ossK, sblk, List.flatMap_append, List.flatMap_cons, List.flatMap_nil, List.append_nil, List.mem_append, List.mem_singleton] at hq
    rcases hq with rfl | hq | hq
    · rcases r4 with r4 | r4
      · exact .inl (List.mem_append_left _ (List.mem_append_left _ ((sblk_own v q).2 r4)))
      · exact .inr (by omega)
    · exact .inl (List.mem_append_left _ (List.mem_append_right _ hq))
    · exact .inl (List.mem_append_right _ hq)
  have hndnew : (ossK (.slice (some ⟨g, 0, none⟩) (l.length + 1) cap') (l ++ [(u, li)])).Nodup := by
    have e1 : ossK (.slice (some ⟨g, 0, none⟩) (l.length + 1) cap') (l ++ [(u, li)]) = g :: (l.flatMap (fun p => sblk p.1.1) ++ sblk u.1) := by simp [ossK, sblk]
    rw [e1, List.nodup_cons]
    have hfl : (l.flatMap (fun p => sblk p.1.1) ++ sblk u.1).Nodup := by
      rw [List.nodup_append]
      exact ⟨(List.nodup_append.1 hnd.1).2.1, sblk_nodup _, fun x hx y hy => hnd.2.2 x (List.mem_append_right _ hx) y (List.mem_append_left _ hy)⟩
    refine ⟨fun hg => ?_, hfl⟩
    rcases r4 with r4 | r4
    · have hgv := (sblk_own v g).2 r4
      rcases List.mem_append.1 hg with hg | hg
      · exact hgk g hgv hg
      · exact hnd.2.2 g (List.mem_append_left _ hgv) g (List.mem_append_left _ hg) rfl
    · have : g < w.heap.size := by
        rcases List.mem_append.1 hg with hg | hg
        · obtain ⟨p, hp, hq⟩ := List.mem_flatMap.1 hg
          exact (hok.2 p hp).lt g hq
        · exact hin3.lt g hg
      omega
  refine ⟨_, w', ?_, _, h ⟨.slice (some ⟨g, 0, none⟩) (l.length + 1) cap', rfl⟩, ((ho.turn (A := [_, _]) (B := [_]) hd.perm (hi ⟨.slice (some ⟨g, 0, none⟩) (l.length + 1) cap', rfl⟩).perm (fun en hen => by rw [List.mem_singleton.1 hen]; exact ⟨houter, hinner⟩) ?_ rfl (fun q hq hn => hne q hq fun hc => hn ?_) (fun q hq => ?_) r3.os r3.tape r3.output r3.size).put (d := .raw (.slice (some ⟨g, 0, none⟩) (l.length + 1) cap') rfl) hk)⟩
  · simp only [execOp, resolve, invoke, builtin, Sem.run_bind, Sem.run_pure, Result.andThen_ok, List.map_toArray, List.map_cons, List.map_nil, ho.ev hx, ho.ev hy, D.val, r1]
  · show (ossK _ _ ++ []).Nodup
    rw [List.append_nil]; exact hndnew
  · show q ∈ ossK v l ++ (e3.wkey ++ [])
    exact List.mem_append_left _ (List.mem_append_left _ ((sblk_own v q).2 hc))
  · have hq' : q ∈ ossK (.slice (some ⟨g, 0, none⟩) (l.length + 1) cap') (l ++ [(u, li)]) ++ [] := hq
    rw [List.append_nil] at hq'
    rcases hgnew q hq' with h1 | h1
    · left
      show q ∈ ossK v l ++ (e3.wkey ++ [])
      rw [hk3, List.append_nil]; exact h1
    · exact .inr h1
end
theorem oss_of_row {b cap E1 E2 : Nat} {hh : ∀ a ∈ ([] : List Value), a.oneCell' = true} : ∀ w, (Ent.row b cap E1 (.vals [] hh)).ok w → (oss (.slice (some ⟨b, 0, none⟩) 0 cap) E1 E2 []).ok w := fun w h => ⟨h, fun p hp => by cases hp⟩
theorem oss_eq {v : Value} {E1 E2 : Nat} {l l' : SL} (h : l = l') : ∀ w, (oss v E1 E2 l).ok w → (oss v E1 E2 l').ok w := by subst h; exact fun w h => h
end Gx
end Go.Proofs.Ytjihhcjpbcmjaaa
namespace Go.Proofs.Ytjihhcjpbcmjaaa
open Go
namespace Gx
set_option linter.unusedVariables false
section
variable {P : Program}
end
section
variable {E : Env} {s : St} {dst : Option Nat} {ty : TypeId} {ps : String} {af : Array Edge} {gd : Option (Nat × Bool)}
end
end Gx
end Go.Proofs.Ytjihhcjpbcmjaaa
namespace Go.Proofs.Ytjihhcjpbcmjaaa
open Go
namespace Gx
open Go.RowKit (Below)
set_option linter.unusedVariables false
theorem map_set_spl {α : Type} (mk : α → Value) {l : List α} {i : Nat} {a : α} (h : i < l.length) : (l.set i a).map mk = spl (l.map mk) i [mk a] := by
  apply List.ext_getElem?
  intro q
  rw [spl_getElem? _ _ _ (by simp; omega)]
  simp only [List.getElem?_map, List.getElem?_set, List.length_cons, List.length_nil]
  by_cases hq : i = q
  · subst hq; simp [h]
  · rw [if_neg hq, if_neg (by omega)]
theorem veq_sl {b o n m c : Nat} (h : n = m) : (D.sl b o n c).val = (D.sl b o m c).val := by rw [h]
section
variable {E : Env} {s : St} {ty : TypeId} {ps : String} {af : Array Edge} {gd : Option (Nat × Bool)} {K : St → Prop}
theorem x_setOi {T e EE i : Nat} {v : Value} {k : IntKind} {hv : (ptrAt v e).oneCell' = true} {x y : Operand} {ti : TI} {l : List Int} {m : Int} {hp' : List Ent} (ht : E.tt T = some ti) (hx : ev s x = some (.raw (ptrAt v e) hv)) (hy : ev s y = some (.int k m)) (hs : 1 = ti.size) (he : e = mulS i ti.size) (hi : i < l.length)
    (hr : HpRep (own v EE (.ints k l)) (own v EE (.ints k (l.set i m))) s.hp hp') (h : K ⟨s.tm, hp'⟩) : Xt E ⟨none, .store T x y, ty, ps, af, none⟩ s K := by
  rw [mulS_eq, ← hs, Nat.mul_one] at he
  subst he
  exact x_storeO ht hx hy rfl hs hr (by simp only [D.size, Rw.len, Rw.size]; omega) (Nat.zero_lt_one) (map_set_spl (Value.int k) hi) (by simp [Rw.len]) rfl h
end
theorem getD_get {α : Type} {l : List α} {z : α} {i : Nat} (h : i < l.length) : l[i]? = some (l.getD i z) := by
  simp [List.getD, List.getElem?_eq_getElem h]
end Gx
end Go.Proofs.Ytjihhcjpbcmjaaa
namespace Go.Proofs.Ytjihhcjpbcmjaaa
open Go
namespace Gx
open Go.RowKit (Below)
set_option linter.unusedVariables false
abbrev z8 : Nat → Fin 256 := fun _ => 0
def rowC (m : Nat) : (Nat → Fin 256) → List Value := fun f => (List.range m).map fun i => Value.int .u8 ((f i).val : Int)
theorem rowC_len (m : Nat) (f : Nat → Fin 256) : (rowC m f).length = m := by simp [rowC]
theorem arrs_cell {m : Nat} {l : List (Nat → Fin 256)} {i j : Nat} (hi : i < l.length) (hj : j < m) : (Rw.arrs m l).cells[i * m + j]? = some (.int .u8 ((l.getD i z8 j).val : Int)) := by
  have h := flatMap_getElem? m (rowC m) (rowC_len m) l i j hj (l.getD i z8) (getD_get hi)
  show (l.flatMap (rowC m))[i * m + j]? = _
  rw [h]
  simp [rowC, List.getElem?_range hj]
section
variable {E : Env} {s : St} {dst : Option Nat} {ty : TypeId} {ps : String} {af : Array Edge} {gd : Option (Nat × Bool)} {K : St → Prop}
/-- The address of a byte of a row. -/
theorem q_ixA {x y : Operand} {v : Value} {e T len el : Nat} {hv : (ptrAt v e).oneCell' = true} {r : Rw} {kk : IntKind} {i : Int} {sz by_ : Nat} {z : D} {ei : TI} (j : Nat) (ht : E.tt T = some ⟨.arr len el, sz, by_, z⟩) (h3 : E.tt el = some ei) (h1 : ei.size = 1) (hx : ev s x = some (.raw (ptrAt v e) hv)) (hr : Rds s v r) (h0 : 0 < r.len)
    (hy : evI s y = some (kk, i)) (hj : i = (j : Int)) (hi : j < len) : Qt E ⟨dst, .indexAddr T x y, ty, ps, af, gd⟩ s (.raw (ptrAt v (e + j)) (ptrAt_one _ _)) := qt_of fun c w ho => by
  subst hj
  obtain ⟨d, hd, hm⟩ := tt_underlying ht
  simp only [TD.met] at hm
  subst hm
  obtain ⟨x', hx', hs', _⟩ := tt_info h3
  have h2 : (j : Int) < (len : Int) := by omega
  rcases hr w ho.hp with ⟨rfl, h⟩ | ⟨a, cap, rfl, hs, _⟩
  · omega
  · simp [execOp, ho.ev hx, ho.t.evI hy, D.val, Instr.indexAt, asIntOf, run_underlying hd, Instr.sureAddr, hi, sizeOf, typeInfo, hx', hs', h1, Addr.add_at, ptrAt, Nat.add_assoc]
theorem q_loadA {x : Operand} {v : Value} {e T i j m : Nat} {hv : (ptrAt v e).oneCell' = true} {ti : TI} {l : List (Nat → Fin 256)} (ht : E.tt T = some ti) (hx : ev s x = some (.raw (ptrAt v e) hv)) (hr : Rds s v (.arrs m l)) (he : e = mulS i m + j) (hi : i < l.length) (hj : j < m) (h2 : 1 = ti.size) (h3 : false = ti.td.ag) :
    Qt E ⟨dst, .load T x, ty, ps, af, gd⟩ s (.u8 (l.getD i z8 j)) := qt_of fun c w ho => by
  rw [mulS_eq] at he
  rcases hr w ho.hp with ⟨rfl, h0⟩ | ⟨a, cap, rfl, hsp, hrow⟩
  · simp [Rw.len] at h0; rw [h0] at hi; simp at hi
  · have := run_loadAt_cells E.P w T a.block (a.off + e) (.u8 (l.getD i z8 j)) (E.tok T ti ht) (fun q hq => by
      obtain rfl : q = 0 := by omega
      have := hrow (i * m + j) _ (arrs_cell hi hj)
      rw [Nat.add_zero, he]
      exact this) (by rw [← h2]; rfl) h3 rfl
    simp [execOp, ho.ev hx, D.val, ptrAt] at this ⊢
    rw [this]; rfl
end
end Gx
end Go.Proofs.Ytjihhcjpbcmjaaa
namespace Go.Proofs.Ytjihhcjpbcmjaaa
open Go
namespace Gx
set_option linter.unusedVariables false
theorem Vw.rdI {R : List Ent} {v : Value} {l : SL} {j : Nat} {r : Rw} (m : Gx.rss v l ∈ R) (hj : j < l.length) (hr : r = .ints .i64 (l.getD j sd).2) : Vw R [Gx.rd (l.getD j sd).1.1 r] := by
  subst hr
  exact Vw.one m rfl (fun k hk => .inr (List.mem_append_right _ (List.mem_flatMap.2 ⟨_, getD_mem hj, hk⟩))) fun w h => (show RdP v (valsR l) w ∧ ∀ p ∈ l, RdP p.1.1 (.ints .i64 p.2) w from h).2 _ (getD_mem hj)
theorem Vw.rdIO {R : List Ent} {v : Value} {E1 E2 : Nat} {l : SL} {j : Nat} {r : Rw} (m : oss v E1 E2 l ∈ R) (hj : j < l.length) (hr : r = .ints .i64 (l.getD j sd).2) : Vw R [Gx.rd (l.getD j sd).1.1 r] := by
  subst hr
  exact Vw.one m rfl (fun k hk => .inl (List.mem_append_right _ (List.mem_flatMap.2 ⟨_, getD_mem hj, rdK_sub k hk⟩))) fun w h => OwnP.rd ((show OwnP v E1 (valsR l) w ∧ ∀ p ∈ l, OwnP p.1.1 E2 (.ints .i64 p.2) w from h).2 _ (getD_mem hj))
theorem oss_nil {E1 E2 : Nat} : ∀ w, (oss (.slice none 0 0) E1 E2 []).ok w := fun w => ⟨World.ownsRow_nil _ _ _ _, fun p hp => by cases hp⟩
theorem snd_getD {L L' : SL} (h : L.map (·.2) = L'.map (·.2)) (i : Nat) : (L.getD i sd).2 = (L'.getD i sd).2 := by
  have h1 := congrArg (fun l => (l[i]?).getD []) h
  simp only [List.getElem?_map] at h1
  simp only [List.getD]
  cases h2 : L[i]? <;> cases h3 : L'[i]? <;> rw [h2, h3] at h1 <;> simpa [sd] using h1
theorem snd_len {L L' : SL} (h : L.map (·.2) = L'.map (·.2)) : L.length = L'.length := by simpa using congrArg List.length h
theorem len_getD {L : SL} {LL : List (List Int)} (h : L.map (·.2) = LL) {B : Nat} (hB : ∀ l ∈ LL, l.length ≤ B) (i : Nat) : (L.getD i sd).2.length ≤ B := by
  subst h
  rcases Nat.lt_or_ge i L.length with hi | hi
  · exact hB _ (List.mem_map.2 ⟨_, getD_mem hi, rfl⟩)
  · simp [List.getD, List.getElem?_eq_none hi, sd]
theorem snd_cnt {L : SL} {LL : List (List Int)} (h : L.map (·.2) = LL) : L.length = LL.length := by simpa using congrArg List.length h
end Gx
end Go.Proofs.Ytjihhcjpbcmjaaa
namespace Go.Proofs.Ytjihhcjpbcmjaaa
open Go
namespace Gx
open Go.RowKit (Below)
set_option linter.unusedVariables false
section
variable {E : Env} {s : St} {ty : TypeId} {ps : String} {af : Array Edge} {gd : Option (Nat × Bool)} {k : Nat} {K : St → Prop}
end
end Gx
end Go.Proofs.Ytjihhcjpbcmjaaa
namespace Go.Proofs.Ytjihhcjpbcmjaaa
open Go
namespace Gx
open Go.RowKit (Below)
set_option linter.unusedVariables false
section
variable {E : Env} {s : St} {ty : TypeId} {ps : String} {af : Array Edge} {gd : Option (Nat × Bool)} {k : Nat} {K : St → Prop}
end
end Gx
end Go.Proofs.Ytjihhcjpbcmjaaa
namespace Go.Proofs.Ytjihhcjpbcmjaaa
open Go
namespace Gx
open Go.RowKit (Below)
set_option linter.unusedVariables false
section
variable {E : Env} {s : St} {dst : Option Nat} {ty : TypeId} {ps : String} {af : Array Edge} {gd : Option (Nat × Bool)} {k : Nat} {K : St → Prop}
theorem p_max {x y : Operand} {kk : IntKind} {a b : Int} {aty : Array TypeId} (hx : evI s x = some (kk, a)) (hy : evI s y = some (kk, b)) : Pt E ⟨dst, .call { callee := .builtin .max, args := #[x, y], argTypes := aty }, ty, ps, af, gd⟩ s (.int kk (max a b)) := fun c ho w => by
  have e : (if b > a then b else a) = max a b := by split <;> omega
  simp [execOp, resolve, invoke, builtin, ho.evI hx, ho.evI hy, D.val, Builtin.max_, Builtin.max2, e]
theorem p_min {x y : Operand} {kk : IntKind} {a b : Int} {aty : Array TypeId} (hx : evI s x = some (kk, a)) (hy : evI s y = some (kk, b)) : Pt E ⟨dst, .call { callee := .builtin .min, args := #[x, y], argTypes := aty }, ty, ps, af, gd⟩ s (.int kk (min a b)) := fun c ho w => by
  have e : (if b < a then b else a) = min a b := by split <;> omega
  simp [execOp, resolve, invoke, builtin, ho.evI hx, ho.evI hy, D.val, Builtin.min_, Builtin.min2, e]
end
end Gx
end Go.Proofs.Ytjihhcjpbcmjaaa
