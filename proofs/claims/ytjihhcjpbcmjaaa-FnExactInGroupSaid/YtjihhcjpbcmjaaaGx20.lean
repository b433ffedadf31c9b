/- Slices that came in, opened into lists; slices of slices of whole numbers. No conditions but those in the statements. Slices of slices that the call owns: one inner slice turned, stores, appends. No conditions but those in the statements. Squares (a number and a table of bytes) compared; no conditions but those in the statements. Stores into slices by number; lists that are marked. No conditions but those in the statements. Slices of rows of bytes: a byte of a row read, stored; rows that are marked. No conditions but those in the statements. Slices of slices of numbers: read inside, marked. No conditions but those in the statements. An inner slice laid into a slice of slices; a row laid into a slice of rows. No conditions but those in the statements. Appending what a slice reads. No conditions but those in the statements. The larger and the smaller of two numbers; slices of rows made. No conditions but those in the statements. -/
import Derived.Test.YtjihhcjpbcmjaaaGx12
import Derived.ChangeSlices
namespace Go.Proofs.Ytjihhcjpbcmjaaa
open Go
namespace Gx
open Go.RowKit (Below)
open Go.ChangeShapes
set_option linter.unusedVariables false

/-! ### Opening -/
theorem exL {α : Type} {Q : Nat → α → Prop} : ∀ n, (∀ i, i < n → ∃ x, Q i x) → ∃ l : List α, l.length = n ∧ ∀ i x, l[i]? = some x → Q i x
  | 0, _ => ⟨[], rfl, fun i x h => by simp at h⟩
  | n + 1, h => by
    obtain ⟨l, hl, hq⟩ := exL n fun i hi => h i (by omega)
    obtain ⟨x, hx⟩ := h n (by omega)
    refine ⟨l ++ [x], by simp [hl], fun i y hy => ?_⟩
    by_cases hi : i < l.length
    · rw [List.getElem?_append_left hi] at hy; exact hq i y hy
    · rw [List.getElem?_append_right (by omega)] at hy
      have : i - l.length = 0 := by
        cases hc : i - l.length with
        | zero => rfl
        | succ q => rw [hc] at hy; simp at hy
      rw [this] at hy
      simp at hy
      subst hy
      have : i = n := by omega
      subst this
      exact hx
theorem spot_of {w : World} {a : Addr} {u : Value} (h : w.cell? a = some u) : a.spot = none := by
  unfold World.cell? at h
  split at h
  · cases hs : a.spot with
    | none => rfl
    | some x => simp [hs] at h
  · cases h
theorem add_add (a : Addr) (n m : Nat) : (a.add n).add m = a.add (n + m) := by
  unfold Addr.add
  split <;> split <;> (try split) <;> simp_all <;> omega
theorem cell_at {w : World} {a : Addr} {n : Nat} (hs : a.spot = none) : w.cell? (a.add n) = w.cell? ⟨a.block, a.off + n, none⟩ := by
  obtain ⟨b, o, sp⟩ := a
  simp only at hs
  subst hs
  rw [Addr.add_at]
section
variable {H : Type} {enc : TypeId × Value → H} {P : Program} {w : World} {base : Nat} {spare : Nat → Bool} {held : Bool}
theorem op_slice {t e : TypeId} {fuel : Nat} {cs : List Value} {x : DataW H × List MemPlace} (ht : P.underlying t = some (.slice e)) (h : DataW.trod enc P w base spare held fuel t cs = some x) :
    ∃ v, cs = [v] ∧ v.oneCell' = true ∧ (v = .slice none 0 0 ∨ ∃ a len cap, v = .slice (some a) len cap ∧ len ≤ maxLen ∧ ∀ i, i < len → ∃ ys n y, (∀ j u, ys[j]? = some u → w.cell? (a.add (i * P.cellsOf e + j)) = some u) ∧ DataW.trod enc P w base spare held n e ys = some y) := by
  rcases DataW.trod_slice ht h with ⟨rfl, _⟩ | ⟨a, len, cap, elems, rest, n, _, rfl, _, hb, hl, hm, hlen, hel, _⟩
  · exact ⟨_, rfl, rfl, .inl rfl⟩
  refine ⟨_, rfl, rfl, .inr ⟨a, len, cap, rfl, by omega, fun i hi => ?_⟩⟩
  have h1 := hel i hi
  have h2 : i < elems.length := by omega
  rw [List.getElem?_eq_getElem h2, Option.bind_eq_some_iff] at h1
  obtain ⟨ys, h3, h4⟩ := h1
  refine ⟨ys, n, _, fun j u hj => ?_, h4⟩
  have h5 := World.cells?_some h3
  have hj' : j < P.cellsOf e := by
    have := (List.getElem?_eq_some_iff.1 hj).1
    have e1 : ys.length = P.cellsOf e := h5.2.1
    omega
  have := h5.2.2 j hj'
  rw [add_add] at this
  rw [this, hj]

/-- A slice whose elements are one cell each. -/
theorem op_cells {α : Type} {t e : TypeId} {fuel : Nat} {cs : List Value} {x : DataW H × List MemPlace} {Q : α → Prop} {val : α → Value} (mk : List α → Rw) (hmk : ∀ l, (mk l).cells = l.map val ∧ (mk l).len = l.length) (ht : P.underlying t = some (.slice e)) (hc : P.cellsOf e = 1)
    (hel : ∀ ys n y, DataW.trod enc P w base spare held n e ys = some y → ∃ a, ys = [val a] ∧ Q a) (h : DataW.trod enc P w base spare held fuel t cs = some x) :
    ∃ v, cs = [v] ∧ v.oneCell' = true ∧ ∃ l : List α, RdP v (mk l) w ∧ l.length ≤ maxLen ∧ ∀ a ∈ l, Q a := by
  obtain ⟨v, rfl, hv, h⟩ := op_slice ht h
  refine ⟨v, rfl, hv, ?_⟩
  rcases h with rfl | ⟨a, len, cap, rfl, hl, hh⟩
  · exact ⟨[], .inl ⟨rfl, (hmk []).2⟩, by simp, by simp⟩
  have hh' : ∀ i, i < len → ∃ y : α, w.cell? (a.add i) = some (val y) ∧ Q y := fun i hi => by
    obtain ⟨ys, n, y, h1, h2⟩ := hh i hi
    obtain ⟨z, rfl, h3⟩ := hel ys n y h2
    exact ⟨z, by simpa [hc] using h1 0 _ rfl, h3⟩
  obtain ⟨l, h1, h2⟩ := exL len hh'
  refine ⟨l, .inr ⟨a, cap, by rw [(hmk l).2, h1], fun hne => ?_, fun j u hu => ?_⟩, by omega, fun y hy => ?_⟩
  · rw [(hmk l).1] at hne
    cases l with
    | nil => exact absurd rfl hne
    | cons y r => have := spot_of (h2 0 y rfl).1; simpa [Addr.add] using this
  · rw [(hmk l).1, List.getElem?_map] at hu
    cases hy : l[j]? with
    | none => rw [hy] at hu; cases hu
    | some y =>
      rw [hy] at hu
      simp only [Option.map_some, Option.some.injEq] at hu
      subst hu
      have h3 := (h2 j y hy).1
      have hs : a.spot = none := by
        cases l with
        | nil => simp at hy
        | cons y r => have := spot_of (h2 0 y rfl).1; simpa [Addr.add] using this
      rwa [cell_at hs] at h3
  · obtain ⟨i, hi⟩ := List.getElem?_of_mem hy
    exact (h2 i y hi).2

theorem wf_in {k : IntKind} {n : Int} (h : (Lit.int k n).wf = true) : inR k n := by
  simp [Lit.wf, IntKind.has] at h
  cases k <;> simp [IntKind.min, IntKind.max, IntKind.signed, IntKind.bits] at h <;> simp only [inR] <;> omega

theorem el_u8 {e : TypeId} (he : P.underlying e = some (.int .u8)) : ∀ ys n y, DataW.trod enc P w base spare held n e ys = some y → ∃ a : Fin 256, ys = [Value.int .u8 (a.val : Int)] ∧ True := by
  intro ys n y h
  obtain ⟨m, rfl, _, h2⟩ := DataW.trod_int he h
  obtain ⟨h3, h4⟩ := wf_in h2
  exact ⟨⟨m.toNat, by omega⟩, by simp only [List.cons.injEq, Value.int.injEq, true_and, and_true]; omega, trivial⟩
theorem el_int {k : IntKind} {e : TypeId} (he : P.underlying e = some (.int k)) : ∀ ys n y, DataW.trod enc P w base spare held n e ys = some y → ∃ a : Int, ys = [Value.int k a] ∧ inR k a := by
  intro ys n y h
  obtain ⟨m, rfl, _, h2⟩ := DataW.trod_int he h
  exact ⟨m, rfl, wf_in h2⟩

theorem op_u8s {t e : TypeId} {v : Value} {d : DataW H} {ps : List MemPlace} (ht : P.underlying t = some (.slice e)) (he : P.underlying e = some (.int .u8)) (hc : P.cellsOf e = 1) (h : DataW.Trod enc P w base spare held t v d ps) (hone : ∀ u, v.cells.toList = [u] → v = u) :
    ∃ l : List (Fin 256), RdP v (.u8s l) w ∧ v.oneCell' = true ∧ l.length ≤ maxLen := by
  obtain ⟨fuel, h⟩ := h
  obtain ⟨u, hu, h1, l, h2, h3, _⟩ := op_cells (α := Fin 256) (Q := fun _ => True) (val := fun a => Value.int .u8 (a.val : Int)) Rw.u8s (fun l => ⟨rfl, rfl⟩) ht hc (el_u8 he) h
  rw [hone u hu]
  exact ⟨l, h2, h1, h3⟩
theorem op_i64s {k : IntKind} {t e : TypeId} {v : Value} {d : DataW H} {ps : List MemPlace} (ht : P.underlying t = some (.slice e)) (he : P.underlying e = some (.int k)) (hc : P.cellsOf e = 1) (h : DataW.Trod enc P w base spare held t v d ps) (hone : ∀ u, v.cells.toList = [u] → v = u) :
    ∃ l : List Int, RdP v (.ints k l) w ∧ v.oneCell' = true ∧ l.length ≤ maxLen ∧ ∀ n ∈ l, inR k n := by
  obtain ⟨fuel, h⟩ := h
  obtain ⟨u, hu, h1, l, h2, h3, h4⟩ := op_cells (α := Int) (Q := inR k) (val := fun a => Value.int k a) (Rw.ints k) (fun l => ⟨rfl, rfl⟩) ht hc (el_int he) h
  rw [hone u hu]
  exact ⟨l, h2, h1, h3, h4⟩

/-! ### Slices of slices of whole numbers -/
abbrev SL := List (V1 × List Int)
def sd : V1 × List Int := (⟨.slice none 0 0, rfl⟩, [])
def valsR (l : SL) : Rw := .vals (l.map (·.1.1)) (by intro v hv; obtain ⟨p, _, rfl⟩ := List.mem_map.1 hv; exact p.1.2)
def rss (v : Value) (l : SL) : Ent := .any [] (rdK v (valsR l) ++ l.flatMap fun p => rdK p.1.1 (.ints .i64 p.2)) (fun w => RdP v (valsR l) w ∧ ∀ p ∈ l, RdP p.1.1 (.ints .i64 p.2) w)
  (fun w w' h hb => ⟨h.1.stays fun k hk hl => hb k (.inr (List.mem_append_left _ (hk.resolve_left (by simp)))) hl, fun p hp => (h.2 p hp).stays fun k hk hl => hb k (.inr (List.mem_append_right _ (List.mem_flatMap.2 ⟨p, hp, hk.resolve_left (by simp)⟩))) hl⟩)
  (fun w h k hk => by
    rcases List.mem_append.1 (hk.resolve_left (by simp)) with h1 | h1
    · exact rdK_lt h.1 k h1
    · obtain ⟨p, hp, hk⟩ := List.mem_flatMap.1 h1
      exact rdK_lt (h.2 p hp) k hk)
def oss (v : Value) (E1 E2 : Nat) (l : SL) : Ent := .any (sblk v ++ l.flatMap fun p => sblk p.1.1) [] (fun w => OwnP v E1 (valsR l) w ∧ ∀ p ∈ l, OwnP p.1.1 E2 (.ints .i64 p.2) w)
  (fun w w' h hb => ⟨h.1.stays fun k hk hl => hb k (.inl (List.mem_append_left _ hk)) hl, fun p hp => (h.2 p hp).stays fun k hk hl => hb k (.inl (List.mem_append_right _ (List.mem_flatMap.2 ⟨p, hp, hk⟩))) hl⟩)
  (fun w h k hk => by
    rcases List.mem_append.1 (hk.resolve_right (by simp)) with h1 | h1
    · exact h.1.lt k h1
    · obtain ⟨p, hp, hk⟩ := List.mem_flatMap.1 h1
      exact (h.2 p hp).lt k hk)
theorem oss_rss {v : Value} {E1 E2 : Nat} {l : SL} {w : World} (h : (oss v E1 E2 l).ok w) : (rss v l).ok w := ⟨OwnP.rd h.1, fun p hp => OwnP.rd (h.2 p hp)⟩
theorem Vw.rss {R : List Ent} {v : Value} {l : SL} (m : Gx.rss v l ∈ R) : Vw R [Gx.rss v l] := Vw.one m rfl (fun k hk => .inr hk) fun w h => h
theorem Vw.rssO {R : List Ent} {v : Value} {E1 E2 : Nat} {l : SL} (m : oss v E1 E2 l ∈ R) : Vw R [Gx.rss v l] := Vw.one m rfl (fun k hk => .inl (by
  rcases List.mem_append.1 (show k ∈ rdK v (valsR l) ++ l.flatMap (fun p => rdK p.1.1 (.ints .i64 p.2)) from hk) with h | h
  · exact List.mem_append_left _ (rdK_sub k h)
  · obtain ⟨p, hp, hk⟩ := List.mem_flatMap.1 h
    exact List.mem_append_right _ (List.mem_flatMap.2 ⟨p, hp, rdK_sub k hk⟩))) fun w h => oss_rss h
theorem getD_mem {l : SL} {j : Nat} (h : j < l.length) : l.getD j sd ∈ l := by
  simp only [List.getD, List.getElem?_eq_getElem h, Option.getD_some]
  exact List.getElem_mem h
theorem Rds.rssO {s : St} {v : Value} {l : SL} (m : Gx.rss v l ∈ s.hp) : Rds s v (valsR l) := fun w h => (show RdP v (valsR l) w ∧ _ from h.all _ m).1
theorem Rds.rssI {s : St} {v : Value} {l : SL} {j : Nat} (m : Gx.rss v l ∈ s.hp) (hj : j < l.length) : Rds s (l.getD j sd).1.1 (.ints .i64 (l.getD j sd).2) := fun w h => (show RdP v (valsR l) w ∧ ∀ p ∈ l, RdP p.1.1 (.ints .i64 p.2) w from h.all _ m).2 _ (getD_mem hj)
theorem Rds.ossO {s : St} {v : Value} {E1 E2 : Nat} {l : SL} (m : oss v E1 E2 l ∈ s.hp) : Rds s v (valsR l) := fun w h => OwnP.rd (show OwnP v E1 (valsR l) w ∧ _ from h.all _ m).1
theorem Rds.ossI {s : St} {v : Value} {E1 E2 : Nat} {l : SL} {j : Nat} (m : oss v E1 E2 l ∈ s.hp) (hj : j < l.length) : Rds s (l.getD j sd).1.1 (.ints .i64 (l.getD j sd).2) := fun w h => OwnP.rd ((show OwnP v E1 (valsR l) w ∧ ∀ p ∈ l, OwnP p.1.1 E2 (.ints .i64 p.2) w from h.all _ m).2 _ (getD_mem hj))
theorem valsR_len (l : SL) : (valsR l).len = l.length := by simp [valsR, Rw.len]
theorem q_lenO {E : Env} {s : St} {dst : Option Nat} {ty : TypeId} {ps : String} {af : Array Edge} {gd : Option (Nat × Bool)} {x : Operand} {v : Value} {hv : v.oneCell' = true} {l : SL} {T el : Nat} {sz by_ : Nat} {z : D} {aty : Array TypeId} (haty : aty = #[T]) (ht : E.tt T = some ⟨.slice el, sz, by_, z⟩) (hx : ev s x = some (.raw v hv)) (hr : Rds s v (valsR l)) :
    Qt E ⟨dst, .call { callee := .builtin .len, args := #[x], argTypes := aty }, ty, ps, af, gd⟩ s (.int .i64 ((l.length : Nat) : Int)) := (q_lenR haty ht hx hr).eq (by rw [valsR_len])
theorem q_loadI {E : Env} {s : St} {dst : Option Nat} {ty : TypeId} {ps : String} {af : Array Edge} {gd : Option (Nat × Bool)} {x : Operand} {v : Value} {e T j : Nat} {hv : (ptrAt v e).oneCell' = true} {i : TI} {l : SL} (ht : E.tt T = some i) (hx : ev s x = some (.raw (ptrAt v e) hv)) (hr : Rds s v (valsR l)) (he : e = mulS j i.size) (hj : j < l.length)
    (h2 : 1 = i.size) (h3 : false = i.td.ag) : Qt E ⟨dst, .load T x, ty, ps, af, gd⟩ s (.raw (l.getD j sd).1.1 (l.getD j sd).1.2) :=
  (q_loadR (r := valsR l) (j := j) ht hx hr he rfl (by simpa [valsR] using hj) h2 h3 rfl).eq (by
    simp only [D.val, List.getD, List.getElem?_map, List.getElem?_eq_getElem hj, Option.map_some, Option.getD_some])

theorem op_i64ss {t e2 e : TypeId} {v : Value} {d : DataW H} {ps : List MemPlace} (ht : P.underlying t = some (.slice e2)) (h2 : P.underlying e2 = some (.slice e)) (he : P.underlying e = some (.int .i64)) (hc2 : P.cellsOf e2 = 1) (hc : P.cellsOf e = 1) (h : DataW.Trod enc P w base spare held t v d ps) (hone : ∀ u, v.cells.toList = [u] → v = u) :
    ∃ l : SL, (rss v l).ok w ∧ v.oneCell' = true ∧ l.length ≤ maxLen ∧ ∀ p ∈ l, p.2.length ≤ maxLen ∧ ∀ n ∈ p.2, inR .i64 n := by
  obtain ⟨fuel, h⟩ := h
  obtain ⟨u, hu, h1, l, h3, h4, h5⟩ := op_cells (α := V1 × List Int) (Q := fun p => RdP p.1.1 (.ints .i64 p.2) w ∧ p.2.length ≤ maxLen ∧ ∀ n ∈ p.2, inR .i64 n) (val := fun p => p.1.1) valsR (fun l => ⟨rfl, valsR_len l⟩) ht hc2 (fun ys n y hy => by
    obtain ⟨u, rfl, q1, l, q2, q3, q4⟩ := op_cells (α := Int) (Q := inR .i64) (val := fun a => Value.int .i64 a) (Rw.ints .i64) (fun l => ⟨rfl, rfl⟩) h2 hc (el_int he) hy
    exact ⟨(⟨u, q1⟩, l), rfl, q2, q3, q4⟩) h
  rw [hone u hu]
  exact ⟨l, ⟨h3, fun p hp => (h5 p hp).1⟩, h1, h4, fun p hp => (h5 p hp).2⟩

/-- A slice of rows of m bytes. -/
theorem op_arrs {t e2 e : TypeId} {m : Nat} {v : Value} {d : DataW H} {ps : List MemPlace} (ht : P.underlying t = some (.slice e2)) (h2 : P.underlying e2 = some (.array m e)) (he : P.underlying e = some (.int .u8)) (hc2 : P.cellsOf e2 = m) (hc : P.cellsOf e = 1) (hm : 0 < m) (h : DataW.Trod enc P w base spare held t v d ps) (hone : ∀ u, v.cells.toList = [u] → v = u) :
    ∃ l : List (Nat → Fin 256), RdP v (.arrs m l) w ∧ v.oneCell' = true ∧ l.length ≤ maxLen := by
  obtain ⟨fuel, h⟩ := h
  obtain ⟨u, hu, h1, h3⟩ := op_slice ht h
  rw [hone u hu]
  rcases h3 with rfl | ⟨a, len, cap, rfl, hl, hh⟩
  · exact ⟨[], .inl ⟨rfl, rfl⟩, rfl, by simp⟩
  have hh' : ∀ i, i < len → ∃ f : Nat → Fin 256, ∀ j, j < m → w.cell? (a.add (i * m + j)) = some (.int .u8 ((f j).val : Int)) := fun i hi => by
    obtain ⟨ys, n, y, q1, q2⟩ := hh i hi
    obtain ⟨xs, n2, _, _, q3, q4, q5⟩ := DataW.trod_array h2 q2
    have hcell : ∀ j, j < m → ∃ b : Fin 256, ys[j]? = some (.int .u8 (b.val : Int)) := fun j hj => by
      have q6 := q5 j hj
      rw [List.getElem?_eq_getElem (by omega), hc, Nat.mul_one] at q6
      obtain ⟨b, q7, _⟩ := el_u8 he _ _ _ q6
      have hlt : j < ys.length := by omega
      refine ⟨b, ?_⟩
      have q8 := congrArg List.head? q7
      simpa [List.head?_take, List.head?_drop] using q8
    refine ⟨fun j => if hj : j < m then (hcell j hj).choose else 0, fun j hj => ?_⟩
    have q9 := (hcell j hj).choose_spec
    have := q1 j _ q9
    rw [hc2] at this
    simpa [hj] using this
  obtain ⟨l, e1, e2'⟩ := exL len hh'
  have hs : l ≠ [] → a.spot = none := fun hne => by
    cases l with
    | nil => exact absurd rfl hne
    | cons y r => have := spot_of (e2' 0 y rfl 0 hm); simpa [Addr.add] using this
  refine ⟨l, .inr ⟨a, cap, by simp [Rw.len, e1], fun hne => hs fun h0 => hne (by simp [Rw.cells, h0]), fun j u hu => ?_⟩, rfl, by omega⟩
  have hlt := (List.getElem?_eq_some_iff.1 hu).1
  have hcl := Rw.length_cells (.arrs m l)
  simp only [Rw.len, Rw.size] at hcl
  rw [hcl] at hlt
  have hjm : j / m < l.length := (Nat.div_lt_iff_lt_mul hm).2 hlt
  have hmod : j % m < m := Nat.mod_lt _ hm
  have ej : j = j / m * m + j % m := by rw [Nat.mul_comm]; exact (Nat.div_add_mod j m).symm
  have hf := flatMap_getElem? m (fun f : Nat → Fin 256 => (List.range m).map fun i => Value.int .u8 ((f i).val : Int)) (fun _ => by simp) l (j / m) (j % m) hmod l[j / m] (List.getElem?_eq_getElem hjm)
  rw [← ej] at hf
  have hu' : (l.flatMap fun f : Nat → Fin 256 => (List.range m).map fun i => Value.int .u8 ((f i).val : Int))[j]? = some u := hu
  rw [hf] at hu'
  simp only [List.getElem?_map, List.getElem?_range hmod, Option.map_some, Option.some.injEq] at hu'
  subst hu'
  have := e2' (j / m) _ (List.getElem?_eq_getElem hjm) (j % m) hmod
  rw [← ej] at this
  rwa [cell_at (hs (by intro h0; simp [h0] at hjm))] at this

theorem op_str {t : TypeId} {v : Value} {d : DataW H} {ps : List MemPlace} (ht : P.underlying t = some .string) (h : DataW.Trod enc P w base spare held t v d ps) (hone : ∀ u, v.cells.toList = [u] → v = u) : ∃ x : ByteArray, v = .string x ∧ x.size ≤ maxLen := by
  obtain ⟨fuel, h⟩ := h
  obtain ⟨x, hx, _, h2⟩ := DataW.trod_string ht h
  exact ⟨x, hone _ hx, h2⟩
end
section
variable {P : Program} {w : World} {r : Reach} {b : Nat}
theorem ok_slice {t e : TypeId} {v : Value} (hu : P.underlying t = some (.slice e)) (h : Value.okWide P w r b t v) : ∀ u, v.cells.toList = [u] → v = u := by
  unfold Value.okWide at h
  rw [hu] at h
  have h2 : Cell.okWide P w r b t v := h
  unfold Cell.okWide at h2
  rw [hu] at h2
  have h3 : Cell.ok P w r b t v := h2
  unfold Cell.ok at h3
  rw [hu] at h3
  intro u hc
  cases v <;> first | (exact h3.elim; done) | (simpa [Value.cells] using hc; done)
theorem ok_str {t : TypeId} {v : Value} (hu : P.underlying t = some .string) (h : Value.okWide P w r b t v) : ∀ u, v.cells.toList = [u] → v = u := by
  unfold Value.okWide at h
  rw [hu] at h
  have h2 : Cell.okWide P w r b t v := h
  unfold Cell.okWide at h2
  rw [hu] at h2
  have h3 : Cell.ok P w r b t v := h2
  unfold Cell.ok at h3
  rw [hu] at h3
  intro u hc
  cases v <;> first | (exact h3.elim; done) | (simpa [Value.cells] using hc; done)
end
theorem HpOk.ros {l : List Ent} {w : World} (h : ∀ e ∈ l, e.wkey = [] ∧ e.ok w) : HpOk l w := by
  have hk : wkeys l = [] := by
    rw [wkeys_flat, List.flatMap_eq_nil_iff]
    exact fun e he => (h e he).1
  exact ⟨fun e he => (h e he).2, by rw [hk]; exact List.nodup_nil, fun b _ => by rw [hk]; simp⟩
theorem HpOk.one {e : Ent} {w : World} (hw : e.wkey = []) (h : e.ok w) : HpOk [e] w :=
  ⟨fun x hx => by rw [List.mem_singleton.1 hx]; exact h, by show (e.wkey ++ []).Nodup; rw [hw]; exact List.nodup_nil, fun b _ => by show b ∉ e.wkey ++ []; rw [hw]; simp⟩
end Gx
end Go.Proofs.Ytjihhcjpbcmjaaa
namespace Go.Proofs.Ytjihhcjpbcmjaaa
open Go
namespace Gx
open Go.RowKit (Below)
set_option linter.unusedVariables false
/-- A slice of a block's own, from its beginning. -/
def slv (b n c : Nat) : V1 := ⟨.slice (some ⟨b, 0, none⟩) n c, rfl⟩
theorem split_at {l : SL} {i : Nat} (hi : i < l.length) : ∃ A B, l = A ++ l.getD i sd :: B ∧ ∀ q, l.set i q = A ++ q :: B := by
  refine ⟨l.take i, l.drop (i + 1), ?_, fun q => ?_⟩
  · rw [List.getD, List.getElem?_eq_getElem hi, Option.getD_some]
    conv => lhs; rw [← List.take_append_drop i l]
    rw [List.drop_eq_getElem_cons hi]
  · rw [List.set_eq_take_append_cons_drop, if_pos hi]
theorem valsR_same {l l' : SL} (h : l.map (·.1.1) = l'.map (·.1.1)) : (valsR l).cells = (valsR l').cells ∧ (valsR l).len = (valsR l').len ∧ (valsR l).size = (valsR l').size := ⟨h, by simpa [valsR, Rw.len] using congrArg List.length h, rfl⟩
theorem OwnP.cast {v : Value} {EE : Nat} {r r' : Rw} {w : World} (h : OwnP v EE r w) (e : r.cells = r'.cells ∧ r.len = r'.len ∧ r.size = r'.size) : OwnP v EE r' w := by
  unfold OwnP at *
  rw [← e.1, ← e.2.1, ← e.2.2]; exact h
def ossK (v : Value) (l : SL) : List Nat := sblk v ++ l.flatMap fun p => sblk p.1.1
theorem ossK_set {v : Value} {l : SL} {i : Nat} (hi : i < l.length) (l2 : List Int) : ossK v (l.set i ((l.getD i sd).1, l2)) = ossK v l := by
  obtain ⟨A, B, h1, h2⟩ := split_at hi
  unfold ossK
  rw [h2]
  conv => rhs; rw [h1]
  simp
/-- One inner slice turned, the others as they were. -/
theorem oss_turn {v : Value} {E1 E2 : Nat} {l : SL} {i : Nat} {l2 : List Int} {w w' : World} (hi : i < l.length) (h : (oss v E1 E2 l).ok w) (hnd : (ossK v l).Nodup) (hb : ∀ q, q < w.heap.size → q ∉ sblk (l.getD i sd).1.1 → w'.heap[q]? = w.heap[q]?)
    (hn : OwnP (l.getD i sd).1.1 E2 (.ints .i64 l2) w') : (oss v E1 E2 (l.set i ((l.getD i sd).1, l2))).ok w' := by
  obtain ⟨A, B, h1, h2⟩ := split_at hi
  generalize hp : l.getD i sd = p at *
  obtain ⟨h3, h4⟩ : OwnP v E1 (valsR l) w ∧ ∀ p ∈ l, OwnP p.1.1 E2 (.ints .i64 p.2) w := h
  have hnd' : (sblk v ++ (A.flatMap (fun p => sblk p.1.1) ++ (sblk p.1.1 ++ B.flatMap (fun p => sblk p.1.1)))).Nodup := by
    have := hnd
    unfold ossK at this
    rw [h1] at this
    simpa [List.flatMap_append] using this
  have d1 : ∀ k ∈ sblk v, k ∉ sblk p.1.1 := fun k hk hk' => (List.nodup_append.1 hnd').2.2 k hk k (by simp [hk']) rfl
  have hnd2 := (List.nodup_append.1 hnd').2.1
  have d2 : ∀ k ∈ A.flatMap (fun p => sblk p.1.1), k ∉ sblk p.1.1 := fun k hk hk' => (List.nodup_append.1 hnd2).2.2 k hk k (by simp [hk']) rfl
  have d3 : ∀ k ∈ B.flatMap (fun p => sblk p.1.1), k ∉ sblk p.1.1 := fun k hk hk' => (List.nodup_append.1 (List.nodup_append.1 hnd2).2.1).2.2 k hk' k hk rfl
  refine ⟨(h3.stays fun k hk hl => hb k hl (d1 k hk)).cast (valsR_same ?_), fun q hq => ?_⟩
  · rw [h2]
    conv => lhs; rw [h1]
    simp
  · rw [h2] at hq
    rcases List.mem_append.1 hq with hq | hq
    · exact (h4 q (by rw [h1]; simp [hq])).stays fun k hk hl => hb k hl (d2 k (List.mem_flatMap.2 ⟨q, hq, hk⟩))
    · rcases List.mem_cons.1 hq with rfl | hq
      · exact hn
      · exact (h4 q (by rw [h1]; simp [hq])).stays fun k hk hl => hb k hl (d3 k (List.mem_flatMap.2 ⟨q, hq, hk⟩))
theorem CT.oss {P : Program} {f : FuncId} {args : Array Value} {v : Value} {E1 E2 : Nat} {l : SL} {i : Nat} {d : D} {l2 : List Int} (hi : i < l.length)
    (h : CT P f args [own (l.getD i sd).1.1 E2 (.ints .i64 (l.getD i sd).2)] [] (fun _ : Unit => True) (fun _ => d) (fun _ => [own (l.getD i sd).1.1 E2 (.ints .i64 l2)])) :
    CT P f args [Gx.oss v E1 E2 l] [] (fun _ : Unit => True) (fun _ => d) (fun _ => [Gx.oss v E1 E2 (l.set i ((l.getD i sd).1, l2))]) := fun w hh => by
  have hk : ∀ l : SL, wkeys ([Gx.oss v E1 E2 l] : List Ent) = ossK v l := fun l => by simp [wkeys, Gx.oss, Ent.wkey, ossK]
  have hnd : (ossK v l).Nodup := by rw [← hk]; simpa using hh.nodup
  have hok : (Gx.oss v E1 E2 l).ok w := hh.all _ (by simp)
  have hin : OwnP (l.getD i sd).1.1 E2 (.ints .i64 (l.getD i sd).2) w := hok.2 _ (getD_mem hi)
  have hsub : ∀ k ∈ sblk (l.getD i sd).1.1, k ∈ ossK v l := fun k hk => List.mem_append_right _ (List.mem_flatMap.2 ⟨_, getD_mem hi, hk⟩)
  have hk1 : wkeys ([own (l.getD i sd).1.1 E2 (.ints .i64 (l.getD i sd).2)] : List Ent) = sblk (l.getD i sd).1.1 := by simp [wkeys, own, Ent.wkey]
  refine (h w ⟨fun e he => ?_, ?_, fun b hb => ?_⟩).mono ?_
  · simp only [List.append_nil, List.mem_singleton] at he; subst he; exact hin
  · rw [List.append_nil, hk1]; exact sblk_nodup _
  · simp [rkeys, own, Ent.rkey] at hb
  · rintro e w' ⟨_, _, h1, h2, _, h4, h5, h6, h7, h8, _⟩
    rw [hk1] at h8
    have h9 : OwnP (l.getD i sd).1.1 E2 (.ints .i64 l2) w' := h2.all (own (l.getD i sd).1.1 E2 (.ints .i64 l2)) (List.mem_singleton.2 rfl)
    have hn := oss_turn hi hok hnd h8 h9
    refine ⟨(), trivial, h1, ⟨fun e he => by rw [List.mem_singleton.1 he]; exact hn, by rw [hk, ossK_set hi]; exact hnd, fun b hb => by simp [rkeys, Gx.oss, Ent.rkey] at hb⟩, by simp [rkeys, Gx.oss, Ent.rkey], h4, h5, h6, h7, fun q hq hne => h8 q hq fun hc => hne ?_, fun q hq => .inl ?_⟩
    · rw [hk]; exact hsub q hc
    · rw [hk, ossK_set hi] at hq; rw [hk]; exact hq

section
variable {E : Env} {s : St} {ty : TypeId} {ps : String} {af : Array Edge} {gd : Option (Nat × Bool)} {k : Nat} {K : St → Prop}
/-- A store into an inner slice. -/
theorem x_storeSS {T e E1 E2 i j : Nat} {v : Value} {l : SL} {hv : (ptrAt (l.getD i sd).1.1 e).oneCell' = true} {x y : Operand} {ti : TI} {m : Int} {hp' : List Ent} (ht : E.tt T = some ti) (hx : ev s x = some (.raw (ptrAt (l.getD i sd).1.1 e) hv)) (hy : ev s y = some (.int .i64 m)) (hs : 1 = ti.size)
    (hr : HpRep (oss v E1 E2 l) (oss v E1 E2 (l.set i ((l.getD i sd).1, (l.getD i sd).2.set j m))) s.hp hp') (hi : i < l.length) (he : e = mulS j ti.size) (hj : j < (l.getD i sd).2.length) (h : K ⟨s.tm, hp'⟩) : Xt E ⟨none, .store T x y, ty, ps, af, none⟩ s K := xt_skip fun a w ho => by
  have hok : (oss v E1 E2 l).ok w := ho.hp.all _ hr.mem
  obtain ⟨R, p1, p2⟩ := hr.perm
  have hnd : (ossK v l).Nodup := by
    have := (wkeys_perm p1).nodup_iff.1 ho.hp.nodup
    exact (List.nodup_append.1 (show (ossK v l ++ wkeys R).Nodup from this)).1
  have hrow : OwnP (l.getD i sd).1.1 E2 (.ints .i64 (l.getD i sd).2) w := hok.2 _ (getD_mem hi)
  generalize hp : l.getD i sd = p at *
  rw [mulS_eq, ← hs, Nat.mul_one] at he
  subst he
  rcases hrow.2 with ⟨_, h0⟩ | ⟨b, cap, cur0, hpv, _, _, _⟩
  · simp [Rw.len] at h0; rw [h0] at hj; simp at hj
  unfold OwnP at hrow
  have hxa : a.eval x = .pointer (some ⟨b, 0 + e, none⟩) := by
    rw [ho.ev hx]
    simp only [D.val, hpv, ptrAt]
  rw [hpv] at hrow
  obtain ⟨cur, hg, hc, how⟩ := ownsRow_store (new := [Value.int .i64 m]) (at_ := e) hrow (by simp only [Rw.len, Rw.size, List.length_cons, List.length_nil]; omega)
  have hT := E.tok T ti ht
  have hti := hT.2.1
  have hrun : (Instr.storeAt T (.pointer (some ⟨b, e, none⟩)) (D.int .i64 m).val).run E.P w = .ok () (w.setRow b (spl cur.toList e [Value.int .i64 m]).toArray) := by
    cases hx : E.P.info? T with
    | none => simp [hx] at hti
    | some x =>
      simp [hx] at hti
      have hl : (D.int .i64 m).cells.length = x.size := by rw [D.length_cells, hti.1, ← hs]; rfl
      have := run_storeCells_at (P := E.P) b e E2 (D.int .i64 m).cells 0 cur w hg (by simpa [D.cells] using hc) (D.oneCell _)
      simp only [Nat.add_zero] at this
      have hx1 : x.size = 1 := by rw [hti.1, ← hs]
      simp [Instr.storeAt, Instr.sureAddr, storeVar, sizeOf, typeInfo, hx, D.val_cells (.int .i64 m) rfl, hl, this, spl]
      rw [hx1]; rfl
  have hn : OwnP p.1.1 E2 (.ints .i64 (p.2.set e m)) (w.setRow b (spl cur.toList e [Value.int .i64 m]).toArray) := by
    unfold OwnP
    rw [hpv]
    have e1 : (Rw.ints .i64 (p.2.set e m)).cells = spl (Rw.ints .i64 p.2).cells e [Value.int .i64 m] := by
      apply List.ext_getElem?
      intro q
      rw [spl_getElem? _ _ _ (by simp [Rw.cells]; omega)]
      simp only [Rw.cells, List.getElem?_map, List.getElem?_set, List.length_cons, List.length_nil]
      by_cases hq : e = q
      · subst hq; simp [hj]
      · rw [if_neg hq, if_neg (by omega)]
    have e2 : (Rw.ints .i64 (p.2.set e m)).len = (Rw.ints .i64 p.2).len := by simp [Rw.len]
    rw [e1, e2]
    exact how
  have hblk : sblk p.1.1 = [b] := by rw [hpv]; rfl
  have hnew := oss_turn (l2 := p.2.set e m) hi hok hnd (w' := w.setRow b (spl cur.toList e [Value.int .i64 m]).toArray) (fun q _ hq => setRow_other w b q _ (by rw [hp, hblk] at hq; simpa using hq)) (by rw [hp]; exact hn)
  rw [hp] at hnew
  have hks := ossK_set (v := v) hi (p.2.set e m)
  rw [hp] at hks
  refine ⟨w.setRow b (spl cur.toList e [Value.int .i64 m]).toArray, ?_, _, h, ho.turn (A := [_]) (B := [_]) p1 p2 (fun en hen => by rw [List.mem_singleton.1 hen]; exact hnew) ?_ rfl (fun q _ hq => setRow_other w b q _ ?_) (fun q hq => .inl ?_) rfl rfl rfl (by simp)⟩
  · have e1 : (execOp a.eval ⟨none, .store T x y, ty, ps, af, none⟩) = (do Instr.storeAt T (a.eval x) (a.eval y); pure .skip) := rfl
    rw [e1, hxa, ho.ev hy]
    simp only [D.val, Sem.run_bind, Nat.zero_add]
    have hrun' : (Instr.storeAt T (.pointer (some ⟨b, e, none⟩)) (.int .i64 m)).run E.P w = .ok () (w.setRow b (spl cur.toList e [Value.int .i64 m]).toArray) := hrun
    rw [hrun']
    simp only [Result.andThen_ok, Sem.run_pure]
  · show (ossK v _ ++ []).Nodup
    rw [hks, List.append_nil]; exact hnd
  · rintro rfl
    refine hq ?_
    show q ∈ ossK v l ++ []
    rw [List.append_nil]
    refine List.mem_append_right _ (List.mem_flatMap.2 ⟨p, by rw [← hp]; exact getD_mem hi, by rw [hblk]; simp⟩)
  · have : q ∈ ossK v _ ++ [] := hq
    rw [hks] at this
    exact this

/-- One more inner slice. -/
theorem x_appendSS {T E1 E2 b2 c2 EE : Nat} {x y : Operand} {ei : TI} {sz by_ : Nat} {z : D} {v : Value} {hv : v.oneCell' = true} {l : SL} {u : V1} {li : List Int} {e3 : Ent} {hu : ∀ a ∈ [u.1], a.oneCell' = true} {R : List Ent} {hp' : V1 → List Ent} {tys : Array TypeId} (htys : tys = #[T, T]) (ht : E.tt T = some ⟨.slice E1, sz, by_, z⟩) (h3 : E.tt E1 = some ei) (hz : 1 = ei.size)
    (hx : ev s x = some (.raw v hv)) (hy : ev s y = some (.sl b2 0 1 c2)) (m2 : Ent.row b2 c2 EE (.vals [u.1] hu) ∈ s.hp) (hd : HpDels [oss v E1 E2 l, e3] s.hp R) (hk3 : e3.wkey = sblk u.1) (hr3 : e3.rkey = []) (ho3 : ∀ w, e3.ok w → OwnP u.1 E2 (.ints .i64 li) w)
    (hi : ∀ v' : V1, HpDels [oss v'.1 E1 E2 (l ++ [(u, li)])] (hp' v') R) (hb : (l.length + 1) * ei.bytes ≤ 140737488355328) (hb2 : l.length + 1 ≤ 140737488355328) (hk : k < E.n)
    (h : ∀ v' : V1, K ⟨(k, .raw v'.1 v'.2) :: s.tm, hp' v'⟩) : Xt E ⟨some k, .call { callee := .builtin .append, args := #[x, y], argTypes := tys }, ty, ps, af, gd⟩ s K := xt_value fun a w ho => by
  subst htys
  obtain ⟨d, hd0, hm⟩ := tt_underlying ht
  simp only [TD.met] at hm
  subst hm
  have hH := ho.hp.perm hd.perm
  have hok : (oss v E1 E2 l).ok w := hH.all _ (by simp)
  have hown : OwnP v E1 (valsR l) w := hok.1
  have hin3 : OwnP u.1 E2 (.ints .i64 li) w := ho3 w (hH.all _ (by simp))
  have h2 : w.ownsRow 0 EE (Rw.vals [u.1] hu).size (.slice (some ⟨b2, 0, none⟩) (Rw.vals [u.1] hu).len c2) (Rw.vals [u.1] hu).len (Rw.vals [u.1] hu).cells := ho.hp.all _ m2
  have hsrc : ∀ j q, [u.1][j]? = some q → w.cell? ((⟨b2, 0, none⟩ : Addr).add j) = some q := h2.cells (g := b2) rfl
  have hsz1 : ei.size = 1 := hz.symm
  have hown' : w.ownsRow 0 E1 ei.size v l.length (valsR l).cells := by
    have := hown
    unfold OwnP at this
    rw [valsR_len] at this
    rw [hsz1]; exact this
  obtain ⟨g, cap', w', r1, r2, r3, r4⟩ := run_append_rows E.P w T E1 ty hd0 (E.tok E1 ei h3) (by rw [hsz1]; rfl) v l.length (valsR l).cells hown' ⟨b2, 0, none⟩ 1 c2 [u.1] (by rw [hsz1]; rfl) hsrc (by simpa using u.2) (by omega) hb hb2
  have hknd := hH.nodup
  have hkA : wkeys ([oss v E1 E2 l, e3] ++ R) = ossK v l ++ (sblk u.1 ++ wkeys R) := by
    show (ossK v l) ++ (e3.wkey ++ wkeys R) = _
    rw [hk3]
  have hnd := hknd
  rw [hkA, List.nodup_append] at hnd
  have hne : ∀ q, q < w.heap.size → v.ownBlock ≠ some q → w'.heap[q]? = w.heap[q]? := fun q hq hne => r3.block q hq (fun h => hne h.symm)
  have hgk : ∀ q ∈ sblk v, q ∉ l.flatMap (fun p => sblk p.1.1) := fun q hq hq' => (List.nodup_append.1 hnd.1).2.2 q hq q hq' rfl
  have houter : OwnP (.slice (some ⟨g, 0, none⟩) (l.length + 1) cap') E1 (valsR (l ++ [(u, li)])) w' := by
    unfold OwnP
    rw [hsz1] at r2
    have e1 : (valsR (l ++ [(u, li)])).cells = (valsR l).cells ++ [u.1] := by simp [valsR, Rw.cells]
    have e2 : (valsR (l ++ [(u, li)])).len = l.length + 1 := by rw [valsR_len]; simp
    rw [e1, e2]
    exact r2
  have hinner : ∀ p ∈ l ++ [(u, li)], OwnP p.1.1 E2 (.ints .i64 p.2) w' := fun p hp => by
    rcases List.mem_append.1 hp with hp | hp
    · refine (hok.2 p hp).stays fun q hq hl => hne q hl fun hc => hgk q ((sblk_own v q).2 hc) (List.mem_flatMap.2 ⟨p, hp, hq⟩)
    · rw [List.mem_singleton.1 hp]
      refine hin3.stays fun q hq hl => hne q hl fun hc => ?_
      exact hnd.2.2 q (List.mem_append_left _ ((sblk_own v q).2 hc)) q (List.mem_append_left _ hq) rfl
  have hgnew : ∀ q ∈ ossK (.slice (some ⟨g, 0, none⟩) (l.length + 1) cap') (l ++ [(u, li)]), q ∈ ossK v l ++ sblk u.1 ∨ w.heap.size ≤ q := fun q hq => by
    simp only [ossK, sblk, List.flatMap_append, List.flatMap_cons, List.flatMap_nil, List.append_nil, List.mem_append, List.mem_singleton] at hq
    rcases hq with rfl | hq | hq
    · rcases r4 with r4 | r4
      · exact .inl (List.mem_append_left _ (List.mem_append_left _ ((sblk_own v q).2 r4)))
      · exact .inr (by omega)
    · exact .inl (List.mem_append_left _ (List.mem_append_right _ hq))
    · exact .inl (List.mem_append_right _ hq)
  have hndnew : (ossK (.slice (some ⟨g, 0, none⟩) (l.length + 1) cap') (l ++ [(u, li)])).Nodup := by
    have e1 : ossK (.slice (some ⟨g, 0, none⟩) (l.length + 1) cap') (l ++ [(u, li)]) = g :: (l.flatMap (fun p => sblk p.1.1) ++ sblk u.1) := by simp [ossK, sblk]
    rw [e1, List.nodup_cons]
    have hfl : (l.flatMap (fun p => sblk p.1.1) ++ sblk u.1).Nodup := by
      rw [List.nodup_append]
      exact ⟨(List.nodup_append.1 hnd.1).2.1, sblk_nodup _, fun x hx y hy => hnd.2.2 x (List.mem_append_right _ hx) y (List.mem_append_left _ hy)⟩
    refine ⟨fun hg => ?_, hfl⟩
    rcases r4 with r4 | r4
    · have hgv := (sblk_own v g).2 r4
      rcases List.mem_append.1 hg with hg | hg
      · exact hgk g hgv hg
      · exact hnd.2.2 g (List.mem_append_left _ hgv) g (List.mem_append_left _ hg) rfl
    · have : g < w.heap.size := by
        rcases List.mem_append.1 hg with hg | hg
        · obtain ⟨p, hp, hq⟩ := List.mem_flatMap.1 hg
          exact (hok.2 p hp).lt g hq
        · exact hin3.lt g hg
      omega
  refine ⟨_, w', ?_, _, h ⟨.slice (some ⟨g, 0, none⟩) (l.length + 1) cap', rfl⟩, ((ho.turn (A := [_, _]) (B := [_]) hd.perm (hi ⟨.slice (some ⟨g, 0, none⟩) (l.length + 1) cap', rfl⟩).perm (fun en hen => by rw [List.mem_singleton.1 hen]; exact ⟨houter, hinner⟩) ?_ rfl (fun q hq hn => hne q hq fun hc => hn ?_) (fun q hq => ?_) r3.os r3.tape r3.output r3.size).put (d := .raw (.slice (some ⟨g, 0, none⟩) (l.length + 1) cap') rfl) hk)⟩
  · simp only [execOp, resolve, invoke, builtin, Sem.run_bind, Sem.run_pure, Result.andThen_ok, List.map_toArray, List.map_cons, List.map_nil, ho.ev hx, ho.ev hy, D.val, r1]
  · show (ossK _ _ ++ []).Nodup
    rw [List.append_nil]; exact hndnew
  · show q ∈ ossK v l ++ (e3.wkey ++ [])
    exact List.mem_append_left _ (List.mem_append_left _ ((sblk_own v q).2 hc))
  · have hq' : q ∈ ossK (.slice (some ⟨g, 0, none⟩) (l.length + 1) cap') (l ++ [(u, li)]) ++ [] := hq
    rw [List.append_nil] at hq'
    rcases hgnew q hq' with h1 | h1
    · left
      show q ∈ ossK v l ++ (e3.wkey ++ [])
      rw [hk3, List.append_nil]; exact h1
    · exact .inr h1
end
theorem oss_of_row {b cap E1 E2 : Nat} {hh : ∀ a ∈ ([] : List Value), a.oneCell' = true} : ∀ w, (Ent.row b cap E1 (.vals [] hh)).ok w → (oss (.slice (some ⟨b, 0, none⟩) 0 cap) E1 E2 []).ok w := fun w h => ⟨h, fun p hp => by cases hp⟩
theorem oss_eq {v : Value} {E1 E2 : Nat} {l l' : SL} (h : l = l') : ∀ w, (oss v E1 E2 l).ok w → (oss v E1 E2 l').ok w := by subst h; exact fun w h => h
end Gx
end Go.Proofs.Ytjihhcjpbcmjaaa
namespace Go.Proofs.Ytjihhcjpbcmjaaa
open Go
namespace Gx
set_option linter.unusedVariables false
section
variable {P : Program}
/-- The literals of a table of n rows of m bytes. -/
theorem kl88 {T R e n m d : Nat} {f : Nat → Fin 256} (hT : P.underlying T = some (.array n R)) (hR : P.underlying R = some (.array m e)) (he : P.underlying e = some (.int .u8)) (cT : P.cellsOf T = n * m) (cR : P.cellsOf R = m) (ce : P.cellsOf e = 1) :
    P.keyLits (d + 3) T (D.arr8 (n * m) f).cells = some ((List.range (n * m)).map fun i => Lit.int .u8 ((f i).val : Int)) := by
  have h1 : ∀ i, i < n → P.keyLits (d + 2) R (((D.arr8 (n * m) f).cells.drop (i * P.cellsOf R)).take (P.cellsOf R)) = some ((List.range m).map fun j => Lit.int .u8 ((f (i * m + j)).val : Int)) := by
    intro i hi
    have e1 : (((D.arr8 (n * m) f).cells.drop (i * P.cellsOf R)).take (P.cellsOf R)) = (D.arr8 m fun j => f (i * m + j)).cells := by
      rw [cR]
      apply List.ext_getElem?
      intro j
      simp only [D.cells]
      by_cases hj : j < m
      · have hlt : i * m + j < n * m := by
          have : i * m + m ≤ n * m := by rw [← Nat.succ_mul]; exact Nat.mul_le_mul_right _ hi
          omega
        rw [List.getElem?_take, if_pos hj, List.getElem?_drop]
        simp [List.getElem?_range hlt, List.getElem?_range hj]
      · rw [List.getElem?_take, if_neg hj, List.getElem?_eq_none (by simpa using hj)]
    rw [e1]
    exact kl8 hR he cR ce
  unfold Program.keyLits
  rw [hT]
  have hl : (D.arr8 (n * m) f).cells.length = P.cellsOf T := by rw [cT]; simp [D.cells]
  have h2 := _root_.Go.ChangeShapes.mapM_range_of (f := fun i => P.keyLits (d + 2) R (((D.arr8 (n * m) f).cells.drop (i * P.cellsOf R)).take (P.cellsOf R))) (g := fun i => (List.range m).map fun j => Lit.int .u8 ((f (i * m + j)).val : Int)) n h1
  have h3 : ∀ q, ((List.range q).map fun i => (List.range m).map fun j => Lit.int .u8 ((f (i * m + j)).val : Int)).flatten = (List.range (q * m)).map fun i => Lit.int .u8 ((f i).val : Int) := by
    intro q
    induction q with
    | zero => simp
    | succ q ih =>
      rw [List.range_succ, List.map_append, List.flatten_append, ih, Nat.add_mul, Nat.one_mul, List.range_add]
      simp
  show (if (D.arr8 (n * m) f).cells.length = P.cellsOf T then ((List.range n).mapM fun i => P.keyLits (d + 2) R (((D.arr8 (n * m) f).cells.drop (i * P.cellsOf R)).take (P.cellsOf R))).map List.flatten else none) = _
  rw [if_pos hl, h2]
  simp only [Option.map_some, h3]
/-- The literals of a square. -/
theorem klS {T U V R e n m d : Nat} {x : Int} {f : Nat → Fin 256} {f1 f2 : Field} (hT : P.underlying T = some (.struct #[f1, f2])) (t1 : f1.type = U) (t2 : f2.type = V) (o1 : f1.offset = 0) (o2 : f2.offset = 1) (n1 : (f1.name != "_") = true) (n2 : (f2.name != "_") = true)
    (hU : P.underlying U = some (.int .i64)) (cU : P.cellsOf U = 1) (hV : P.underlying V = some (.array n R)) (hR : P.underlying R = some (.array m e)) (he : P.underlying e = some (.int .u8)) (cT : P.cellsOf T = n * m + 1) (cV : P.cellsOf V = n * m) (cR : P.cellsOf R = m) (ce : P.cellsOf e = 1) (hx : inR .i64 x) :
    P.keyLits (d + 4) T (D.agg [.int .i64 x, .arr8 (n * m) f]).cells = some (Lit.int .i64 x :: (List.range (n * m)).map fun i => Lit.int .u8 ((f i).val : Int)) := by
  have hc : (D.agg [.int .i64 x, .arr8 (n * m) f]).cells = Value.int .i64 x :: (D.arr8 (n * m) f).cells := by simp [D.cells, D.cellsL]
  have hl : (D.arr8 (n * m) f).cells.length = n * m := by simp [D.cells]
  have k1 : P.keyLits (d + 3) U [Value.int .i64 x] = some [Lit.int .i64 x] := by
    unfold Program.keyLits
    rw [hU]
    have hw : (Lit.int .i64 x).wf = true := by
      simp only [inR] at hx
      simp [Lit.wf, IntKind.min, IntKind.max, IntKind.signed, IntKind.bits]
      omega
    simp [hw]
  have k2 := kl88 (P := P) (d := d) (f := f) hV hR he cV cR ce
  unfold Program.keyLits
  rw [hT, hc]
  have hlen : (Value.int .i64 x :: (D.arr8 (n * m) f).cells).length = P.cellsOf T := by rw [List.length_cons, hl, cT]
  have hall : (#[f1, f2] : Array Field).all (·.name != "_") = true := by simp [n1, n2]
  show (if (Value.int .i64 x :: (D.arr8 (n * m) f).cells).length = P.cellsOf T ∧ (#[f1, f2] : Array Field).all (·.name != "_") = true then ([f1, f2].mapM fun f' => P.keyLits (d + 3) f'.type (((Value.int .i64 x :: (D.arr8 (n * m) f).cells).drop f'.offset).take (P.cellsOf f'.type))).map List.flatten else none) = _
  rw [if_pos ⟨hlen, hall⟩]
  have e1 : (List.drop f1.offset (Value.int .i64 x :: (D.arr8 (n * m) f).cells)).take (P.cellsOf f1.type) = [Value.int .i64 x] := by rw [o1, t1, cU]; rfl
  have e2 : (List.drop f2.offset (Value.int .i64 x :: (D.arr8 (n * m) f).cells)).take (P.cellsOf f2.type) = (D.arr8 (n * m) f).cells := by
    rw [o2, t2, cV]
    simp only [List.drop_succ_cons, List.drop_zero]
    exact List.take_of_length_le (by rw [hl]; exact Nat.le_refl _)
  simp only [List.mapM_cons, List.mapM_nil, e1, e2]
  rw [t1, t2, k1, k2]
  simp

theorem run_equalS {T U V R e n m : Nat} {x y : Int} {f g : Nat → Fin 256} {f1 f2 : Field} (hT : P.underlying T = some (.struct #[f1, f2])) (t1 : f1.type = U) (t2 : f2.type = V) (o1 : f1.offset = 0) (o2 : f2.offset = 1) (n1 : (f1.name != "_") = true) (n2 : (f2.name != "_") = true)
    (hU : P.underlying U = some (.int .i64)) (cU : P.cellsOf U = 1) (hV : P.underlying V = some (.array n R)) (hR : P.underlying R = some (.array m e)) (he : P.underlying e = some (.int .u8)) (cT : P.cellsOf T = n * m + 1) (cV : P.cellsOf V = n * m) (cR : P.cellsOf R = m) (ce : P.cellsOf e = 1) (hx : inR .i64 x) (hy : inR .i64 y)
    (hk : P.keyTypeAt 4 T = true) (w : World) :
    (Op.equal T (D.agg [.int .i64 x, .arr8 (n * m) f]).val (D.agg [.int .i64 y, .arr8 (n * m) g]).val).run P w = .ok (@decide (x = y ∧ ∀ i, i < n * m → f i = g i) (Classical.propDecidable _)) w := by
  have hf : ∀ (x : Int) (f : Nat → Fin 256), (D.agg [.int .i64 x, .arr8 (n * m) f]).val.formed P T = true := by
    intro x f
    simp [D.val, D.cells, D.cellsL, Value.formed, hT, cT]
  have h := run_equalIn_deep (P := P) 9996 4 T hk w 4 4 (D.agg [.int .i64 x, .arr8 (n * m) f]).val (D.agg [.int .i64 y, .arr8 (n * m) g]).val _ _ (hf x f) (hf y g)
    (by have := klS (P := P) (d := 0) (f := f) hT t1 t2 o1 o2 n1 n2 hU cU hV hR he cT cV cR ce hx; simpa [D.val_cells _ (show (D.agg [.int .i64 x, .arr8 (n * m) f]).flat = true from rfl)] using this) (by have := klS (P := P) (d := 0) (f := g) hT t1 t2 o1 o2 n1 n2 hU cU hV hR he cT cV cR ce hy; simpa [D.val_cells _ (show (D.agg [.int .i64 y, .arr8 (n * m) g]).flat = true from rfl)] using this)
  obtain ⟨r, hr, hiff⟩ := h
  have e1 : r = @decide (x = y ∧ ∀ i, i < n * m → f i = g i) (Classical.propDecidable _) := by
    rw [Bool.eq_iff_iff, hiff, @decide_eq_true_iff _ (Classical.propDecidable _)]
    simp only [List.cons.injEq, Lit.int.injEq, true_and]
    constructor
    · rintro ⟨h0, h⟩
      refine ⟨h0, fun i hi => ?_⟩
      have := congrArg (fun l => l[i]?) h
      simp [hi] at this
      exact Fin.ext (by omega)
    · rintro ⟨h0, h⟩
      exact ⟨h0, List.map_congr_left fun i hi => by rw [h i (List.mem_range.1 hi)]⟩
  rw [← e1]
  exact hr
end
section
variable {E : Env} {s : St} {dst : Option Nat} {ty : TypeId} {ps : String} {af : Array Edge} {gd : Option (Nat × Bool)}
theorem run_eqGuardS {T : Nat} (op : BinOp) (a b : Operand) {x y : List D} {P : Program} (hg : P.eqGuardType P.depth T = false) (w : World) : (eqGuard op T a b (D.agg x).val (D.agg y).val).run P w = .ok () w := by
  cases op <;> simp [eqGuard, D.val, hg]
theorem p_eqlS {a b : Operand} {T T' U V R e n m : Nat} {x y : Int} {f g : Nat → Fin 256} {f1 f2 : Field} (ha : ev s a = some (.agg [.int .i64 x, .arr8 (n * m) f])) (hb : ev s b = some (.agg [.int .i64 y, .arr8 (n * m) g])) (hx : inR .i64 x) (hy : inR .i64 y)
    (hT : E.P.underlying T = some (.struct #[f1, f2])) (t1 : f1.type = U) (t2 : f2.type = V) (o1 : f1.offset = 0) (o2 : f2.offset = 1) (n1 : (f1.name != "_") = true) (n2 : (f2.name != "_") = true)
    (hU : E.P.underlying U = some (.int .i64)) (cU : E.P.cellsOf U = 1) (hV : E.P.underlying V = some (.array n R)) (hR : E.P.underlying R = some (.array m e)) (he : E.P.underlying e = some (.int .u8)) (cT : E.P.cellsOf T = n * m + 1) (cV : E.P.cellsOf V = n * m) (cR : E.P.cellsOf R = m) (ce : E.P.cellsOf e = 1)
    (hk : E.P.keyTypeAt 4 T = true) (hg : E.P.eqGuardType E.P.depth T = false) : Pt E ⟨dst, .binOp .eql T a b T', ty, ps, af, gd⟩ s (.bool (@decide (x = y ∧ ∀ i, i < n * m → f i = g i) (Classical.propDecidable _))) := fun c ho w => by
  have h1 : binOp .eql T (D.agg [.int .i64 x, .arr8 (n * m) f]).val (D.agg [.int .i64 y, .arr8 (n * m) g]).val = (do pure (.bool (← Op.equal T (D.agg [.int .i64 x, .arr8 (n * m) f]).val (D.agg [.int .i64 y, .arr8 (n * m) g]).val))) := rfl
  simp only [execOp, ho.ev ha, ho.ev hb, Sem.run_bind, run_eqGuardS _ _ _ hg, Result.andThen_ok, h1, run_equalS hT t1 t2 o1 o2 n1 n2 hU cU hV hR he cT cV cR ce hx hy hk, Sem.run_pure]
  rfl
end
end Gx
end Go.Proofs.Ytjihhcjpbcmjaaa
namespace Go.Proofs.Ytjihhcjpbcmjaaa
open Go
namespace Gx
open Go.RowKit (Below)
set_option linter.unusedVariables false
theorem map_set_spl {α : Type} (mk : α → Value) {l : List α} {i : Nat} {a : α} (h : i < l.length) : (l.set i a).map mk = spl (l.map mk) i [mk a] := by
  apply List.ext_getElem?
  intro q
  rw [spl_getElem? _ _ _ (by simp; omega)]
  simp only [List.getElem?_map, List.getElem?_set, List.length_cons, List.length_nil]
  by_cases hq : i = q
  · subst hq; simp [h]
  · rw [if_neg hq, if_neg (by omega)]
theorem veq_sl {b o n m c : Nat} (h : n = m) : (D.sl b o n c).val = (D.sl b o m c).val := by rw [h]
section
variable {E : Env} {s : St} {ty : TypeId} {ps : String} {af : Array Edge} {gd : Option (Nat × Bool)} {K : St → Prop}
theorem x_setOi {T e EE i : Nat} {v : Value} {k : IntKind} {hv : (ptrAt v e).oneCell' = true} {x y : Operand} {ti : TI} {l : List Int} {m : Int} {hp' : List Ent} (ht : E.tt T = some ti) (hx : ev s x = some (.raw (ptrAt v e) hv)) (hy : ev s y = some (.int k m)) (hs : 1 = ti.size) (he : e = mulS i ti.size) (hi : i < l.length)
    (hr : HpRep (own v EE (.ints k l)) (own v EE (.ints k (l.set i m))) s.hp hp') (h : K ⟨s.tm, hp'⟩) : Xt E ⟨none, .store T x y, ty, ps, af, none⟩ s K := by
  rw [mulS_eq, ← hs, Nat.mul_one] at he
  subst he
  exact x_storeO ht hx hy rfl hs hr (by simp only [D.size, Rw.len, Rw.size]; omega) (Nat.zero_lt_one) (map_set_spl (Value.int k) hi) (by simp [Rw.len]) rfl h
theorem x_setO8 {T e EE i : Nat} {v : Value} {hv : (ptrAt v e).oneCell' = true} {x y : Operand} {ti : TI} {l : List (Fin 256)} {m : Fin 256} {hp' : List Ent} (ht : E.tt T = some ti) (hx : ev s x = some (.raw (ptrAt v e) hv)) (hy : ev s y = some (.u8 m)) (hs : 1 = ti.size) (he : e = mulS i ti.size) (hi : i < l.length)
    (hr : HpRep (own v EE (.u8s l)) (own v EE (.u8s (l.set i m))) s.hp hp') (h : K ⟨s.tm, hp'⟩) : Xt E ⟨none, .store T x y, ty, ps, af, none⟩ s K := by
  rw [mulS_eq, ← hs, Nat.mul_one] at he
  subst he
  exact x_storeO ht hx hy rfl hs hr (by simp only [D.size, Rw.len, Rw.size]; omega) (Nat.zero_lt_one) (map_set_spl (fun x : Fin 256 => Value.int .u8 (x.val : Int)) hi) (by simp [Rw.len]) rfl h
theorem x_setRi {T b e cap EE i : Nat} {k : IntKind} {x y : Operand} {ti : TI} {l : List Int} {m : Int} {hp' : List Ent} (ht : E.tt T = some ti) (hx : ev s x = some (.ptr b 0 (some e))) (hy : ev s y = some (.int k m)) (hs : 1 = ti.size) (he : e = i) (hi : i < l.length)
    (hr : HpRep (.row b cap EE (.ints k l)) (.row b cap EE (.ints k (l.set i m))) s.hp hp') (h : K ⟨s.tm, hp'⟩) : Xt E ⟨none, .store T x y, ty, ps, af, none⟩ s K := by
  subst he
  exact x_storeRow ht hx hy rfl hs hr (by simp only [D.size, Rw.len, Rw.size]; omega) (map_set_spl (Value.int k) hi) (by simp [Rw.len]) rfl h
theorem x_setR8 {T b e cap EE i : Nat} {x y : Operand} {ti : TI} {l : List (Fin 256)} {m : Fin 256} {hp' : List Ent} (ht : E.tt T = some ti) (hx : ev s x = some (.ptr b 0 (some e))) (hy : ev s y = some (.u8 m)) (hs : 1 = ti.size) (he : e = i) (hi : i < l.length)
    (hr : HpRep (.row b cap EE (.u8s l)) (.row b cap EE (.u8s (l.set i m))) s.hp hp') (h : K ⟨s.tm, hp'⟩) : Xt E ⟨none, .store T x y, ty, ps, af, none⟩ s K := by
  subst he
  exact x_storeRow ht hx hy rfl hs hr (by simp only [D.size, Rw.len, Rw.size]; omega) (map_set_spl (fun x : Fin 256 => Value.int .u8 (x.val : Int)) hi) (by simp [Rw.len]) rfl h
end
/-- k, k + 1, .. : n of them. -/
def marks (k : Int) : Nat → List Int
  | 0 => []
  | n + 1 => marks k n ++ [k + (n : Int)]
theorem marks_len (k : Int) : ∀ n, (marks k n).length = n
  | 0 => rfl
  | n + 1 => by simp [marks, marks_len k n]
theorem marks_getD (k : Int) : ∀ {n i : Nat}, i < n → (marks k n).getD i 0 = k + (i : Int)
  | n + 1, i, h => by
    by_cases hi : i < n
    · have := marks_getD k hi
      simp only [marks, List.getD] at this ⊢
      rw [List.getElem?_append_left (by rw [marks_len]; exact hi)]
      exact this
    · obtain rfl : i = n := by omega
      simp only [marks, List.getD]
      rw [List.getElem?_append_right (by rw [marks_len]; exact Nat.le_refl _)]
      simp [marks_len]
theorem marks_set {k : Int} {l : List Int} {i : Nat} (h : i < l.length) : (marks k i ++ l.drop i).set i (k + (i : Int)) = marks k (i + 1) ++ l.drop (i + 1) := by
  rw [List.set_append_right _ _ (by rw [marks_len]; exact Nat.le_refl _), marks_len, Nat.sub_self, List.drop_eq_getElem_cons h, List.set_cons_zero]
  simp only [marks, List.append_assoc, List.cons_append, List.nil_append]
theorem marks_lt {k : Int} {l : List Int} {i : Nat} (h : i < l.length) : i < (marks k i ++ l.drop i).length := by
  simp [marks_len]; omega
theorem marks_drop {k : Int} {l : List Int} {i : Nat} (h : i ≤ l.length) : (marks k i ++ l.drop i).length = l.length := by
  simp [marks_len]; omega
theorem take_set {α : Type} {l : List α} {z : α} {i n : Nat} (hn : n = l.length) (h : i < l.length) (a : α) (ha : l[i]? = some a) : (l.take i ++ List.replicate (n - i) z).set i a = l.take (i + 1) ++ List.replicate (n - (i + 1)) z := by
  subst hn
  have e : l.length - i = (l.length - (i + 1)) + 1 := by omega
  have h2 : min i l.length = i := Nat.min_eq_left (by omega)
  rw [List.set_append_right _ _ (by rw [List.length_take]; omega), List.length_take, h2, Nat.sub_self, e, List.replicate_succ, List.set_cons_zero, List.take_add_one, ha]
  simp
theorem take_lt {α : Type} {l : List α} {z : α} {i n : Nat} (hn : n = l.length) (h : i < l.length) : i < (l.take i ++ List.replicate (n - i) z).length := by
  subst hn; simp; omega
theorem getD_get {α : Type} {l : List α} {z : α} {i : Nat} (h : i < l.length) : l[i]? = some (l.getD i z) := by
  simp [List.getD, List.getElem?_eq_getElem h]
end Gx
end Go.Proofs.Ytjihhcjpbcmjaaa
namespace Go.Proofs.Ytjihhcjpbcmjaaa
open Go
namespace Gx
open Go.RowKit (Below)
set_option linter.unusedVariables false
abbrev z8 : Nat → Fin 256 := fun _ => 0
def rowC (m : Nat) : (Nat → Fin 256) → List Value := fun f => (List.range m).map fun i => Value.int .u8 ((f i).val : Int)
theorem rowC_len (m : Nat) (f : Nat → Fin 256) : (rowC m f).length = m := by simp [rowC]
theorem arrs_cell {m : Nat} {l : List (Nat → Fin 256)} {i j : Nat} (hi : i < l.length) (hj : j < m) : (Rw.arrs m l).cells[i * m + j]? = some (.int .u8 ((l.getD i z8 j).val : Int)) := by
  have h := flatMap_getElem? m (rowC m) (rowC_len m) l i j hj (l.getD i z8) (getD_get hi)
  show (l.flatMap (rowC m))[i * m + j]? = _
  rw [h]
  simp [rowC, List.getElem?_range hj]
theorem arrs_len (m : Nat) (l : List (Nat → Fin 256)) : (Rw.arrs m l).cells.length = l.length * m := Rw.length_cells (.arrs m l)
theorem arrs_set_spl {m : Nat} {l : List (Nat → Fin 256)} {i j : Nat} {b : Fin 256} (hi : i < l.length) (hj : j < m) :
    (Rw.arrs m (l.set i fun q => if q = j then b else l.getD i z8 q)).cells = spl (Rw.arrs m l).cells (i * m + j) [.int .u8 (b.val : Int)] := by
  have hle : i * m + m ≤ l.length * m := by rw [← Nat.succ_mul]; exact Nat.mul_le_mul_right _ hi
  apply List.ext_getElem?
  intro q
  rw [spl_getElem? _ _ _ (by rw [arrs_len]; simp only [List.length_cons, List.length_nil]; omega)]
  simp only [List.length_cons, List.length_nil]
  rcases Nat.lt_or_ge q (l.length * m) with hq | hq
  · have hm : 0 < m := by omega
    have h1 : q / m < l.length := (Nat.div_lt_iff_lt_mul hm).2 hq
    have h2 : q % m < m := Nat.mod_lt _ hm
    have e : q = q / m * m + q % m := by rw [Nat.mul_comm]; exact (Nat.div_add_mod q m).symm
    have c1 := arrs_cell (m := m) (l := l.set i fun q => if q = j then b else l.getD i z8 q) (i := q / m) (j := q % m) (by simpa using h1) h2
    have c2 := arrs_cell (m := m) (l := l) (i := q / m) (j := q % m) h1 h2
    rw [← e] at c1 c2
    rw [c1, c2]
    by_cases hqi : q / m = i
    · have e2 : (l.set i fun q => if q = j then b else l.getD i z8 q).getD (q / m) z8 = fun q => if q = j then b else l.getD i z8 q := by
        rw [hqi]; simp [List.getD, hi]
      rw [e2]
      by_cases hqj : q % m = j
      · have : q = i * m + j := by rw [← hqi, ← hqj]; exact e
        rw [if_pos ⟨by omega, by omega⟩]; simp only [if_pos hqj]; rw [this]; simp
      · rw [if_neg (by rw [hqi] at e; omega)]; simp only [if_neg hqj]; rw [hqi]
    · have e2 : (l.set i fun q => if q = j then b else l.getD i z8 q).getD (q / m) z8 = l.getD (q / m) z8 := by
        simp [List.getD, List.getElem?_set_ne (fun h => hqi h.symm)]
      rw [e2]
      have : ¬ (i * m + j ≤ q ∧ q < i * m + j + (0 + 1)) := fun h => by
        have : q = i * m + j := by omega
        apply hqi
        rw [this, Nat.mul_comm, Nat.mul_add_div hm, Nat.div_eq_of_lt hj, Nat.add_zero]
      rw [if_neg this]
  · rw [List.getElem?_eq_none (by rw [arrs_len]; simpa using hq), if_neg (by omega), List.getElem?_eq_none (by rw [arrs_len]; exact hq)]
section
variable {E : Env} {s : St} {dst : Option Nat} {ty : TypeId} {ps : String} {af : Array Edge} {gd : Option (Nat × Bool)} {K : St → Prop}
/-- The address of a byte of a row. -/
theorem q_ixA {x y : Operand} {v : Value} {e T len el : Nat} {hv : (ptrAt v e).oneCell' = true} {r : Rw} {kk : IntKind} {i : Int} {sz by_ : Nat} {z : D} {ei : TI} (j : Nat) (ht : E.tt T = some ⟨.arr len el, sz, by_, z⟩) (h3 : E.tt el = some ei) (h1 : ei.size = 1) (hx : ev s x = some (.raw (ptrAt v e) hv)) (hr : Rds s v r) (h0 : 0 < r.len)
    (hy : evI s y = some (kk, i)) (hj : i = (j : Int)) (hi : j < len) : Qt E ⟨dst, .indexAddr T x y, ty, ps, af, gd⟩ s (.raw (ptrAt v (e + j)) (ptrAt_one _ _)) := qt_of fun c w ho => by
  subst hj
  obtain ⟨d, hd, hm⟩ := tt_underlying ht
  simp only [TD.met] at hm
  subst hm
  obtain ⟨x', hx', hs', _⟩ := tt_info h3
  have h2 : (j : Int) < (len : Int) := by omega
  rcases hr w ho.hp with ⟨rfl, h⟩ | ⟨a, cap, rfl, hs, _⟩
  · omega
  · simp [execOp, ho.ev hx, ho.t.evI hy, D.val, Instr.indexAt, asIntOf, run_underlying hd, Instr.sureAddr, hi, sizeOf, typeInfo, hx', hs', h1, Addr.add_at, ptrAt, Nat.add_assoc]
theorem q_loadA {x : Operand} {v : Value} {e T i j m : Nat} {hv : (ptrAt v e).oneCell' = true} {ti : TI} {l : List (Nat → Fin 256)} (ht : E.tt T = some ti) (hx : ev s x = some (.raw (ptrAt v e) hv)) (hr : Rds s v (.arrs m l)) (he : e = mulS i m + j) (hi : i < l.length) (hj : j < m) (h2 : 1 = ti.size) (h3 : false = ti.td.ag) :
    Qt E ⟨dst, .load T x, ty, ps, af, gd⟩ s (.u8 (l.getD i z8 j)) := qt_of fun c w ho => by
  rw [mulS_eq] at he
  rcases hr w ho.hp with ⟨rfl, h0⟩ | ⟨a, cap, rfl, hsp, hrow⟩
  · simp [Rw.len] at h0; rw [h0] at hi; simp at hi
  · have := run_loadAt_cells E.P w T a.block (a.off + e) (.u8 (l.getD i z8 j)) (E.tok T ti ht) (fun q hq => by
      obtain rfl : q = 0 := by omega
      have := hrow (i * m + j) _ (arrs_cell hi hj)
      rw [Nat.add_zero, he]
      exact this) (by rw [← h2]; rfl) h3 rfl
    simp [execOp, ho.ev hx, D.val, ptrAt] at this ⊢
    rw [this]; rfl
theorem x_setOa {T e EE i j m : Nat} {v : Value} {hv : (ptrAt v e).oneCell' = true} {x y : Operand} {ti : TI} {l : List (Nat → Fin 256)} {b : Fin 256} {hp' : List Ent} (ht : E.tt T = some ti) (hx : ev s x = some (.raw (ptrAt v e) hv)) (hy : ev s y = some (.u8 b)) (hs : 1 = ti.size) (he : e = mulS i m + j) (hi : i < l.length) (hj : j < m)
    (hr : HpRep (own v EE (.arrs m l)) (own v EE (.arrs m (l.set i fun q => if q = j then b else l.getD i z8 q))) s.hp hp') (h : K ⟨s.tm, hp'⟩) : Xt E ⟨none, .store T x y, ty, ps, af, none⟩ s K := by
  rw [mulS_eq] at he
  subst he
  have hle : i * m + m ≤ l.length * m := by rw [← Nat.succ_mul]; exact Nat.mul_le_mul_right _ hi
  exact x_storeO ht hx hy rfl hs hr (by simp only [D.size, Rw.len, Rw.size]; omega) (Nat.zero_lt_one) (arrs_set_spl hi hj) (by simp [Rw.len]) rfl h
end
theorem own_cast {v : Value} {EE : Nat} {r r' : Rw} (h : r.cells = r'.cells) (hl : r.len = r'.len) (hs : r.size = r'.size) : ∀ w, (own v EE r).ok w → (own v EE r').ok w := fun w ho => by
  have ho : OwnP v EE r w := ho
  show OwnP v EE r' w
  unfold OwnP at *
  rw [← h, ← hl, ← hs]; exact ho
theorem veq_wrap8 {n : Nat} : (D.int .u8 (IntKind.wrap .u8 (n : Int))).val = (D.u8 (Fin.ofNat 256 n)).val := by
  have : IntKind.wrap .u8 (n : Int) = ((n % 256 : Nat) : Int) := by simp [IntKind.wrap, IntKind.signed, IntKind.bits]
  simp only [D.val, this, Fin.ofNat]
/-- The bytes k, k + 1, .. -/
def mkP (k : Nat) : Nat → Fin 256 := fun j => Fin.ofNat 256 (k + j)
def marksP (k : Nat) : Nat → List (Nat → Fin 256)
  | 0 => []
  | n + 1 => marksP k n ++ [mkP (k + 10 * n)]
theorem marksP_len (k : Nat) : ∀ n, (marksP k n).length = n
  | 0 => rfl
  | n + 1 => by simp [marksP, marksP_len k n]
theorem marksP_getD (k : Nat) : ∀ {n i : Nat}, i < n → (marksP k n).getD i z8 = mkP (k + 10 * i)
  | n + 1, i, h => by
    by_cases hi : i < n
    · have := marksP_getD k hi
      simp only [marksP, List.getD] at this ⊢
      rw [List.getElem?_append_left (by rw [marksP_len]; exact hi)]
      exact this
    · obtain rfl : i = n := by omega
      simp only [marksP, List.getD]
      rw [List.getElem?_append_right (by rw [marksP_len]; exact Nat.le_refl _)]
      simp [marksP_len]
/-- Rows 0 .. i - 1 marked, and j bytes of row i. -/
def mid (k : Nat) (l : List (Nat → Fin 256)) (i j : Nat) : List (Nat → Fin 256) := marksP k i ++ (fun q => if q < j then mkP (k + 10 * i) q else l.getD i z8 q) :: l.drop (i + 1)
theorem mid_len {k i j : Nat} {l : List (Nat → Fin 256)} (h : i < l.length) : (mid k l i j).length = l.length := by simp [mid, marksP_len]; omega
theorem mid_zero {k i : Nat} {l : List (Nat → Fin 256)} (h : i < l.length) : marksP k i ++ l.drop i = mid k l i 0 := by
  unfold mid
  rw [List.drop_eq_getElem_cons h]
  congr 2
  funext q
  simp [List.getD, h]
theorem mid_getD {k i j : Nat} {l : List (Nat → Fin 256)} : (mid k l i j).getD i z8 = fun q => if q < j then mkP (k + 10 * i) q else l.getD i z8 q := by
  unfold mid
  simp only [List.getD]
  rw [List.getElem?_append_right (by rw [marksP_len]; exact Nat.le_refl _)]
  simp [marksP_len]
theorem mid_set {k i j : Nat} {l : List (Nat → Fin 256)} : ((mid k l i j).set i fun q => if q = j then Fin.ofNat 256 (k + 10 * i + j) else (mid k l i j).getD i z8 q) = mid k l i (j + 1) := by
  rw [mid_getD]
  unfold mid
  rw [List.set_append_right _ _ (by rw [marksP_len]; exact Nat.le_refl _), marksP_len, Nat.sub_self, List.set_cons_zero]
  congr 2
  funext q
  by_cases h1 : q = j
  · subst h1; rw [if_pos rfl, if_pos (by omega)]; rfl
  · rw [if_neg h1]
    show (if q < j then mkP (k + 10 * i) q else l.getD i z8 q) = _
    by_cases h2 : q < j
    · rw [if_pos h2, if_pos (by omega)]
    · rw [if_neg h2, if_neg (by omega)]
theorem mid_ten {k i : Nat} {l : List (Nat → Fin 256)} : (Rw.arrs 10 (mid k l i 10)).cells = (Rw.arrs 10 (marksP k (i + 1) ++ l.drop (i + 1))).cells := by
  have hc : ∀ a b : List (Nat → Fin 256), (Rw.arrs 10 (a ++ b)).cells = (Rw.arrs 10 a).cells ++ (Rw.arrs 10 b).cells := fun a b => by simp [Rw.cells]
  have h1 : ∀ (f : Nat → Fin 256) b, (Rw.arrs 10 (f :: b)).cells = rowC 10 f ++ (Rw.arrs 10 b).cells := fun f b => by simp [Rw.cells, rowC]
  have e : rowC 10 (fun q => if q < 10 then mkP (k + 10 * i) q else l.getD i z8 q) = rowC 10 (mkP (k + 10 * i)) := List.map_congr_left fun q hq => by simp only [if_pos (List.mem_range.1 hq)]
  simp only [mid, marksP, List.append_assoc, List.cons_append, List.nil_append, hc, h1, e]
theorem marksP_drop {k i : Nat} {l : List (Nat → Fin 256)} (h : i ≤ l.length) : (marksP k i ++ l.drop i).length = l.length := by simp [marksP_len]; omega
end Gx
end Go.Proofs.Ytjihhcjpbcmjaaa
namespace Go.Proofs.Ytjihhcjpbcmjaaa
open Go
namespace Gx
set_option linter.unusedVariables false
theorem Vw.rdI {R : List Ent} {v : Value} {l : SL} {j : Nat} {r : Rw} (m : Gx.rss v l ∈ R) (hj : j < l.length) (hr : r = .ints .i64 (l.getD j sd).2) : Vw R [Gx.rd (l.getD j sd).1.1 r] := by
  subst hr
  exact Vw.one m rfl (fun k hk => .inr (List.mem_append_right _ (List.mem_flatMap.2 ⟨_, getD_mem hj, hk⟩))) fun w h => (show RdP v (valsR l) w ∧ ∀ p ∈ l, RdP p.1.1 (.ints .i64 p.2) w from h).2 _ (getD_mem hj)
theorem Vw.rdIO {R : List Ent} {v : Value} {E1 E2 : Nat} {l : SL} {j : Nat} {r : Rw} (m : oss v E1 E2 l ∈ R) (hj : j < l.length) (hr : r = .ints .i64 (l.getD j sd).2) : Vw R [Gx.rd (l.getD j sd).1.1 r] := by
  subst hr
  exact Vw.one m rfl (fun k hk => .inl (List.mem_append_right _ (List.mem_flatMap.2 ⟨_, getD_mem hj, rdK_sub k hk⟩))) fun w h => OwnP.rd ((show OwnP v E1 (valsR l) w ∧ ∀ p ∈ l, OwnP p.1.1 E2 (.ints .i64 p.2) w from h).2 _ (getD_mem hj))
theorem oss_nil {E1 E2 : Nat} : ∀ w, (oss (.slice none 0 0) E1 E2 []).ok w := fun w => ⟨World.ownsRow_nil _ _ _ _, fun p hp => by cases hp⟩
/-- How many numbers stand in the first i. -/
def sumL (L : SL) : Nat → Int
  | 0 => 0
  | i + 1 => sumL L i + ((L.getD i sd).2.length : Int)
theorem sumL_mono (L : SL) (i : Nat) : ∀ k, sumL L i ≤ sumL L (i + k)
  | 0 => Int.le_refl _
  | k + 1 => by have := sumL_mono L i k; show _ ≤ sumL L (i + k) + _; omega
theorem sumL_le (L : SL) {i j : Nat} (h : i ≤ j) : sumL L i ≤ sumL L j := by
  obtain ⟨k, rfl⟩ : ∃ k, j = i + k := ⟨j - i, by omega⟩
  exact sumL_mono L i k
theorem sumL_nn (L : SL) (i : Nat) : 0 ≤ sumL L i := sumL_le L (Nat.zero_le i)
def markT (k : Int) (L : SL) : Nat → SL
  | 0 => []
  | i + 1 => markT k L i ++ [((L.getD i sd).1, marks (k + sumL L i) (L.getD i sd).2.length)]
theorem markT_len (k : Int) (L : SL) : ∀ i, (markT k L i).length = i
  | 0 => rfl
  | i + 1 => by simp [markT, markT_len k L i]
theorem markT_getD (k : Int) (L : SL) : ∀ {n i : Nat}, i < n → (markT k L n).getD i sd = ((L.getD i sd).1, marks (k + sumL L i) (L.getD i sd).2.length)
  | n + 1, i, h => by
    by_cases hi : i < n
    · have := markT_getD k L hi
      simp only [markT, List.getD] at this ⊢
      rw [List.getElem?_append_left (by rw [markT_len]; exact hi)]
      exact this
    · obtain rfl : i = n := by omega
      simp only [markT, List.getD]
      rw [List.getElem?_append_right (by rw [markT_len]; exact Nat.le_refl _)]
      simp [markT_len]
theorem markT_at (k : Int) {L : SL} {i : Nat} (h : i < L.length) : (markT k L i ++ L.drop i).getD i sd = L.getD i sd := by
  simp only [List.getD]
  rw [List.getElem?_append_right (by rw [markT_len]; exact Nat.le_refl _), markT_len, Nat.sub_self]
  simp
theorem markT_drop (k : Int) {L : SL} {i : Nat} (h : i ≤ L.length) : (markT k L i ++ L.drop i).length = L.length := by simp [markT_len]; omega
theorem markT_set (k : Int) {L : SL} {i : Nat} (h : i < L.length) : (markT k L i ++ L.drop i).set i (((markT k L i ++ L.drop i).getD i sd).1, marks (k + sumL L i) (L.getD i sd).2.length) = markT k L (i + 1) ++ L.drop (i + 1) := by
  rw [markT_at k h, List.set_append_right _ _ (by rw [markT_len]; exact Nat.le_refl _), markT_len, Nat.sub_self, List.drop_eq_getElem_cons h, List.set_cons_zero]
  simp only [markT, List.append_assoc, List.cons_append, List.nil_append]
theorem snd_getD {L L' : SL} (h : L.map (·.2) = L'.map (·.2)) (i : Nat) : (L.getD i sd).2 = (L'.getD i sd).2 := by
  have h1 := congrArg (fun l => (l[i]?).getD []) h
  simp only [List.getElem?_map] at h1
  simp only [List.getD]
  cases h2 : L[i]? <;> cases h3 : L'[i]? <;> rw [h2, h3] at h1 <;> simpa [sd] using h1
theorem snd_len {L L' : SL} (h : L.map (·.2) = L'.map (·.2)) : L.length = L'.length := by simpa using congrArg List.length h
theorem len_getD {L : SL} {LL : List (List Int)} (h : L.map (·.2) = LL) {B : Nat} (hB : ∀ l ∈ LL, l.length ≤ B) (i : Nat) : (L.getD i sd).2.length ≤ B := by
  subst h
  rcases Nat.lt_or_ge i L.length with hi | hi
  · exact hB _ (List.mem_map.2 ⟨_, getD_mem hi, rfl⟩)
  · simp [List.getD, List.getElem?_eq_none hi, sd]
theorem sumL_b {L : SL} {LL : List (List Int)} (h : L.map (·.2) = LL) {B : Nat} (hB : ∀ l ∈ LL, l.length ≤ B) : ∀ i : Nat, sumL L i ≤ (B : Int) * (i : Int)
  | 0 => by simp [sumL]
  | i + 1 => by
    have h1 := sumL_b h hB i
    have h2 := len_getD h hB i
    simp only [sumL]
    rw [Int.natCast_succ, Int.mul_add, Int.mul_one]
    omega
theorem snd_cnt {L : SL} {LL : List (List Int)} (h : L.map (·.2) = LL) : L.length = LL.length := by simpa using congrArg List.length h
theorem sum_cnt {L : SL} {LL : List (List Int)} (h : L.map (·.2) = LL) (hB : LL.length ≤ 100000 ∧ ∀ l ∈ LL, l.length ≤ 10) : sumL L L.length ≤ 9999999 := by
  have h1 := sumL_b h (B := 10) hB.2 L.length
  have h2 := snd_cnt h
  omega
end Gx
end Go.Proofs.Ytjihhcjpbcmjaaa
namespace Go.Proofs.Ytjihhcjpbcmjaaa
open Go
namespace Gx
open Go.RowKit (Below)
set_option linter.unusedVariables false
theorem map_set_splA {α : Type} (mk : α → Value) {l : List α} {i : Nat} {a : α} (h : i < l.length) : (l.set i a).map mk = spl (l.map mk) i [mk a] := map_set_spl mk h
abbrev z8' : Nat → Fin 256 := fun _ => 0
def rowC' (m : Nat) : (Nat → Fin 256) → List Value := fun f => (List.range m).map fun i => Value.int .u8 ((f i).val : Int)
theorem flat_len (m : Nat) (l : List (Nat → Fin 256)) : (l.flatMap (rowC' m)).length = l.length * m := Rw.length_cells (.arrs m l)
theorem split_set {l : SL} {i : Nat} (hi : i < l.length) (q : V1 × List Int) : ∃ A B p, l = A ++ p :: B ∧ l.set i q = A ++ q :: B ∧ A.length = i := by
  obtain ⟨A, B, h1, h2⟩ := split_at hi
  refine ⟨l.take i, l.drop (i + 1), l[i], ?_, ?_, by simp; omega⟩
  · conv => lhs; rw [← List.take_append_drop i l]
    rw [List.drop_eq_getElem_cons hi]
  · rw [List.set_eq_take_append_cons_drop, if_pos hi]
section
variable {E : Env} {s : St} {ty : TypeId} {ps : String} {af : Array Edge} {gd : Option (Nat × Bool)} {k : Nat} {K : St → Prop}
theorem x_setSS {T e E1 E2 i : Nat} {x y : Operand} {ti : TI} {v : Value} {hv : (ptrAt v e).oneCell' = true} {l : SL} {u : Value} {hu : u.oneCell' = true} {li : List Int} {R hp' : List Ent} (ht : E.tt T = some ti) (hx : ev s x = some (.raw (ptrAt v e) hv)) (hy : ev s y = some (.raw u hu)) (hs : 1 = ti.size) (he : e = mulS i ti.size) (hi : i < l.length)
    (hd : HpDels [oss v E1 E2 l, own u E2 (.ints .i64 li)] s.hp R) (hI : HpDels [oss v E1 E2 (l.set i (⟨u, hu⟩, li))] hp' R) (h : K ⟨s.tm, hp'⟩) : Xt E ⟨none, .store T x y, ty, ps, af, none⟩ s K := xt_skip fun a w ho => by
  rw [mulS_eq, ← hs, Nat.mul_one] at he
  subst he
  have hH := ho.hp.perm hd.perm
  have hok : (oss v E1 E2 l).ok w := hH.all _ (by simp)
  have hin3 : OwnP u E2 (.ints .i64 li) w := hH.all (own u E2 (.ints .i64 li)) (by simp)
  have hrow : OwnP v E1 (valsR l) w := hok.1
  rcases hrow.2 with ⟨_, h0⟩ | ⟨b, cap, cur0, rfl, _, _, _⟩
  · rw [valsR_len] at h0; omega
  obtain ⟨cur, hg, hc, how⟩ := ownsRow_store (new := [u]) (at_ := e) hrow (by rw [valsR_len]; show e + 1 ≤ l.length * 1; omega)
  have hT := E.tok T ti ht
  have hti := hT.2.1
  have hone : ∀ q ∈ [u], q.oneCell' = true := by simpa using hu
  have hrun : (Instr.storeAt T (.pointer (some ⟨b, e, none⟩)) u).run E.P w = .ok () (w.setRow b (spl cur.toList e [u]).toArray) := by
    cases hx : E.P.info? T with
    | none => simp [hx] at hti
    | some x =>
      simp [hx] at hti
      have hx1 : x.size = 1 := by rw [hti.1, ← hs]
      have := run_storeCells_at (P := E.P) b e E1 [u] 0 cur w hg (by simpa using hc) hone
      simp only [Nat.add_zero] at this
      have hcu : u.cells = #[u] := by cases u <;> first | rfl | (cases hu; done)
      simp [Instr.storeAt, Instr.sureAddr, storeVar, sizeOf, typeInfo, hx, hcu, hx1, this, spl]
  obtain ⟨A, B, p, h1, h2, h3⟩ := split_set hi (⟨u, hu⟩, li)
  have hkA : wkeys ([oss (.slice (some ⟨b, 0, none⟩) (valsR l).len cap) E1 E2 l, own u E2 (.ints .i64 li)] ++ R) = ossK (.slice (some ⟨b, 0, none⟩) (valsR l).len cap) l ++ (sblk u ++ wkeys R) := rfl
  have hnd := hH.nodup
  rw [hkA, List.nodup_append] at hnd
  have hKl : ossK (.slice (some ⟨b, 0, none⟩) (valsR l).len cap) l = b :: (A.flatMap (fun p => sblk p.1.1) ++ (sblk p.1.1 ++ B.flatMap (fun p => sblk p.1.1))) := by
    unfold ossK; conv => lhs; rw [h1]
    simp [sblk]
  have hKl2 : ossK (.slice (some ⟨b, 0, none⟩) (valsR l).len cap) (l.set e (⟨u, hu⟩, li)) = b :: (A.flatMap (fun p => sblk p.1.1) ++ (sblk u ++ B.flatMap (fun p => sblk p.1.1))) := by
    unfold ossK; rw [h2]
    simp [sblk]
  have hndl := hnd.1
  rw [hKl, List.nodup_cons, List.nodup_append, List.nodup_append] at hndl
  obtain ⟨hb1, hA1, ⟨hp1, hB1, hpB⟩, hApB⟩ := hndl
  have hub : b ∉ sblk u := fun hc => hnd.2.2 b (by rw [hKl]; simp) b (List.mem_append_left _ hc) rfl
  have hne : ∀ q, q < w.heap.size → q ≠ b → (w.setRow b (spl cur.toList e [u]).toArray).heap[q]? = w.heap[q]? := fun q _ hq => setRow_other w b q _ hq
  have hnew : (oss (.slice (some ⟨b, 0, none⟩) (valsR l).len cap) E1 E2 (l.set e (⟨u, hu⟩, li))).ok (w.setRow b (spl cur.toList e [u]).toArray) := by
    refine ⟨?_, fun q hq => ?_⟩
    · unfold OwnP
      have e1 : (valsR (l.set e (⟨u, hu⟩, li))).cells = spl (valsR l).cells e [u] := by
        show (l.set e (⟨u, hu⟩, li)).map (·.1.1) = spl (l.map (·.1.1)) e [u]
        exact map_set_splA (fun p : V1 × List Int => p.1.1) hi
      have e2 : (valsR (l.set e (⟨u, hu⟩, li))).len = (valsR l).len := by rw [valsR_len, valsR_len]; simp
      rw [e1, e2]
      exact how
    · rw [h2] at hq
      have hkeep : ∀ q : V1 × List Int, q ∈ A ++ p :: B → (q ∈ A ∨ q ∈ B) → OwnP q.1.1 E2 (.ints .i64 q.2) (w.setRow b (spl cur.toList e [u]).toArray) := fun q hq hAB => by
        refine (hok.2 q (by rw [h1]; exact hq)).stays fun kk hkk hl => hne kk hl ?_
        rintro rfl
        apply hb1
        rcases hAB with h | h
        · exact List.mem_append_left _ (List.mem_flatMap.2 ⟨q, h, hkk⟩)
        · exact List.mem_append_right _ (List.mem_append_right _ (List.mem_flatMap.2 ⟨q, h, hkk⟩))
      rcases List.mem_append.1 hq with hq | hq
      · exact hkeep q (by simp [hq]) (.inl hq)
      · rcases List.mem_cons.1 hq with rfl | hq
        · exact hin3.stays fun kk hkk hl => hne kk hl (by rintro rfl; exact hub hkk)
        · exact hkeep q (by simp [hq]) (.inr hq)
  refine ⟨w.setRow b (spl cur.toList e [u]).toArray, ?_, _, h, ho.turn (A := [_, _]) (B := [_]) hd.perm hI.perm (fun en hen => by rw [List.mem_singleton.1 hen]; exact hnew) ?_ rfl (fun q _ hq => setRow_other w b q _ ?_) (fun q hq => .inl ?_) rfl rfl rfl (by simp)⟩
  · have e1 : (execOp a.eval ⟨none, .store T x y, ty, ps, af, none⟩) = (do Instr.storeAt T (a.eval x) (a.eval y); pure .skip) := rfl
    rw [e1, ho.ev hx, ho.ev hy]
    simp only [D.val, ptrAt, Sem.run_bind, Nat.zero_add, hrun, Result.andThen_ok, Sem.run_pure]
  · show (ossK _ _ ++ []).Nodup
    rw [List.append_nil, hKl2, List.nodup_cons, List.nodup_append, List.nodup_append]
    have hul : ∀ q ∈ sblk u, q ∉ ossK (.slice (some ⟨b, 0, none⟩) (valsR l).len cap) l := fun q hq hq' => hnd.2.2 q hq' q (List.mem_append_left _ hq) rfl
    rw [hKl] at hul
    refine ⟨fun hc => ?_, hA1, ⟨sblk_nodup _, hB1, fun x hx y hy => ?_⟩, fun x hx y hy => ?_⟩
    · rcases List.mem_append.1 hc with hc | hc
      · exact hb1 (List.mem_append_left _ hc)
      · rcases List.mem_append.1 hc with hc | hc
        · exact hub hc
        · exact hb1 (List.mem_append_right _ (List.mem_append_right _ hc))
    · rintro rfl
      exact hul x hx (List.mem_cons_of_mem _ (List.mem_append_right _ (List.mem_append_right _ hy)))
    · rcases List.mem_append.1 hy with hy | hy
      · rintro rfl
        exact hul x hy (List.mem_cons_of_mem _ (List.mem_append_left _ hx))
      · exact hApB x hx y (List.mem_append_right _ hy)
  · rintro rfl
    refine hq ?_
    show q ∈ ossK _ l ++ (sblk u ++ [])
    rw [hKl]; simp
  · have hq' : q ∈ ossK (.slice (some ⟨b, 0, none⟩) (valsR l).len cap) (l.set e (⟨u, hu⟩, li)) ++ [] := hq
    rw [List.append_nil, hKl2] at hq'
    show q ∈ ossK _ l ++ (sblk u ++ [])
    rw [hKl, List.append_nil]
    rcases List.mem_cons.1 hq' with rfl | hq'
    · simp
    · rcases List.mem_append.1 hq' with hq' | hq'
      · exact List.mem_append_left _ (List.mem_cons_of_mem _ (List.mem_append_left _ hq'))
      · rcases List.mem_append.1 hq' with hq' | hq'
        · exact List.mem_append_right _ hq'
        · exact List.mem_append_left _ (List.mem_cons_of_mem _ (List.mem_append_right _ (List.mem_append_right _ hq')))
/-- A row laid into a slice of rows. -/
theorem x_setRa {T b e cap EE i m : Nat} {x y : Operand} {ti : TI} {l : List (Nat → Fin 256)} {f : Nat → Fin 256} {hp' : List Ent} (ht : E.tt T = some ti) (hx : ev s x = some (.ptr b 0 (some e))) (hy : ev s y = some (.arr8 m f)) (hs : m = ti.size) (he : e = i * m) (hi : i < l.length)
    (hr : HpRep (.row b cap EE (.arrs m l)) (.row b cap EE (.arrs m (l.set i f))) s.hp hp') (h : K ⟨s.tm, hp'⟩) : Xt E ⟨none, .store T x y, ty, ps, af, none⟩ s K := by
  subst he
  have hle : i * m + m ≤ l.length * m := by rw [← Nat.succ_mul]; exact Nat.mul_le_mul_right _ hi
  refine x_storeRow ht hx hy rfl hs hr (by simp only [D.size, Rw.len, Rw.size]; omega) ?_ (by simp [Rw.len]) rfl h
  obtain ⟨A, B, e1, e2, e3⟩ : ∃ A B, l = A ++ l.getD i z8' :: B ∧ l.set i f = A ++ f :: B ∧ A.length = i := by
    refine ⟨l.take i, l.drop (i + 1), ?_, ?_, by simp; omega⟩
    · rw [List.getD, List.getElem?_eq_getElem hi, Option.getD_some]
      conv => lhs; rw [← List.take_append_drop i l]
      rw [List.drop_eq_getElem_cons hi]
    · rw [List.set_eq_take_append_cons_drop, if_pos hi]
  have hA : (A.flatMap (rowC' m)).length = i * m := by rw [← e3]; exact flat_len m A
  show (l.set i f).flatMap (rowC' m) = spl (l.flatMap (rowC' m)) (i * m) (rowC' m f)
  rw [e2]
  conv => rhs; rw [e1]
  simp only [List.flatMap_append, List.flatMap_cons, spl]
  rw [List.take_append_of_le_length (by rw [hA]; exact Nat.le_refl _), List.take_of_length_le (by rw [hA]; exact Nat.le_refl _), List.drop_append, hA, List.drop_eq_nil_of_le (as := A.flatMap (rowC' m)) (by rw [hA]; omega)]
  have hd : i * m + (rowC' m f).length - i * m = (rowC' m (l.getD i z8')).length := by simp [rowC']
  rw [hd, List.drop_left]
  simp
end
theorem repl_vals {n : Nat} {hh : ∀ a ∈ List.replicate n (Value.slice none 0 0), a.oneCell' = true} {b E1 E2 : Nat} : ∀ w, (Ent.row b n E1 (.vals (List.replicate n (.slice none 0 0)) hh)).ok w → (oss (slv b n n).1 E1 E2 (List.replicate n sd)).ok w := fun w h => by
  refine ⟨?_, fun p hp => ?_⟩
  · have h2 : w.ownsRow 0 E1 1 (.slice (some ⟨b, 0, none⟩) (List.replicate n (Value.slice none 0 0)).length n) (List.replicate n (Value.slice none 0 0)).length (List.replicate n (Value.slice none 0 0)) := h
    rw [List.length_replicate] at h2
    unfold OwnP
    rw [valsR_len, List.length_replicate]
    have : (valsR (List.replicate n sd)).cells = List.replicate n (.slice none 0 0) := by simp [valsR, Rw.cells, sd]
    rw [this]
    exact h2
  · rw [(List.mem_replicate.1 hp).2]
    exact World.ownsRow_nil _ _ _ _
theorem repl_key {n b E1 E2 : Nat} {hh : ∀ a ∈ List.replicate n (Value.slice none 0 0), a.oneCell' = true} : (oss (slv b n n).1 E1 E2 (List.replicate n sd)).wkey = (Ent.row b n E1 (.vals (List.replicate n (.slice none 0 0)) hh)).wkey := by
  show [b] ++ (List.replicate n sd).flatMap (fun p => sblk p.1.1) = [b]
  have : (List.replicate n sd).flatMap (fun p => sblk p.1.1) = [] := by
    rw [List.flatMap_eq_nil_iff]
    intro p hp
    rw [(List.mem_replicate.1 hp).2]; rfl
  rw [this]
  rfl
end Gx
end Go.Proofs.Ytjihhcjpbcmjaaa
namespace Go.Proofs.Ytjihhcjpbcmjaaa
open Go
namespace Gx
open Go.RowKit (Below)
set_option linter.unusedVariables false
section
variable {E : Env} {s : St} {ty : TypeId} {ps : String} {af : Array Edge} {gd : Option (Nat × Bool)} {k : Nat} {K : St → Prop}
theorem x_append_rd {T el b cap n m : Nat} {x y : Operand} {ei : TI} {sz by_ : Nat} {z : D} {r r2 q : Rw} {v : Value} {hv : v.oneCell' = true} {tys : Array TypeId} {hp' : Nat → Nat → List Ent} (htys : tys = #[T, T]) (ht : E.tt T = some ⟨.slice el, sz, by_, z⟩) (h3 : E.tt el = some ei) (hz : Nat.beq ei.size 0 = false)
    (hx : ev s x = some (.sl b 0 n cap)) (hy : ev s y = some (.raw v hv)) (hr : ∀ b' cap', HpRep (.row b cap el r) (.row b' cap' el q) s.hp (hp' b' cap')) (hr2 : Rds s v r2) (hq : r.app r2 = some q)
    (hn : n = r.len) (hm : m = r2.len) (hm0 : 0 < m) (hrs : r.size = ei.size) (hb : (n + m) * ei.bytes ≤ 140737488355328) (hb2 : n + m ≤ 140737488355328) (hk : k < E.n)
    (h : ∀ b' cap', K ⟨(k, .sl b' 0 (n + m) cap') :: s.tm, hp' b' cap'⟩) :
    Xt E ⟨some k, .call { callee := .builtin .append, args := #[x, y], argTypes := tys }, ty, ps, af, gd⟩ s K := xt_value fun a w ho => by
  subst htys; subst hm; subst hn
  obtain ⟨d, hd, hm⟩ := tt_underlying ht
  simp only [TD.met] at hm
  subst hm
  obtain ⟨q1, q2, q3, q4⟩ := Rw.app_ok hq
  have hown : w.ownsRow 0 el r.size (.slice (some ⟨b, 0, none⟩) r.len cap) r.len r.cells := ho.hp.all _ (hr 0 0).mem
  rw [hrs] at hown q3 q4
  rcases hr2 w ho.hp with ⟨_, h0⟩ | ⟨ad, c2, rfl, hsp, hcell⟩
  · omega
  have hz2 : Nat.beq r2.size 0 = false := by rw [q4]; exact hz
  have hspn := hsp (cells_ne hm0 hz2)
  obtain ⟨ab, ao, asp⟩ := ad
  simp only at hspn
  subst hspn
  have hsrc : ∀ j u, r2.cells[j]? = some u → w.cell? ((⟨ab, ao, none⟩ : Addr).add j) = some u := fun j u hu => by
    rw [Addr.add_at]
    exact hcell j u hu
  obtain ⟨g, cap', w', r1, r2', r3, r4⟩ := run_append_rows E.P w T el ty hd (E.tok el ei h3) hz _ _ _ hown ⟨ab, ao, none⟩ r2.len c2 r2.cells (by rw [Rw.length_cells, q4]) hsrc (Rw.oneCell r2) hm0 hb hb2
  have hown' : w'.ownsRow 0 el q.size (.slice (some ⟨g, 0, none⟩) q.len cap') q.len q.cells := by
    rw [q1, q2, q3]; exact r2'
  refine ⟨_, w', ?_, _, h g cap', ((ho.rep (b := b) (b' := g) (hr g cap') rfl rfl rfl rfl hown' (fun j hj hne => r3.block j hj (by simpa [Value.ownBlock] using hne)) ?_ r3.os r3.tape r3.output r3.size).put (d := .sl g 0 (r.len + r2.len) cap') hk)⟩
  · simp only [execOp, resolve, invoke, builtin, Sem.run_bind, Sem.run_pure, Result.andThen_ok, List.map_toArray, List.map_cons, List.map_nil, ho.ev hx, ho.ev hy, D.val, r1]
  · rcases r4 with r4 | r4
    · left; simpa [Value.ownBlock] using r4.symm
    · right; omega
end
end Gx
end Go.Proofs.Ytjihhcjpbcmjaaa
namespace Go.Proofs.Ytjihhcjpbcmjaaa
open Go
namespace Gx
open Go.RowKit (Below)
set_option linter.unusedVariables false
section
variable {E : Env} {s : St} {dst : Option Nat} {ty : TypeId} {ps : String} {af : Array Edge} {gd : Option (Nat × Bool)} {k : Nat} {K : St → Prop}
theorem p_max {x y : Operand} {kk : IntKind} {a b : Int} {aty : Array TypeId} (hx : evI s x = some (kk, a)) (hy : evI s y = some (kk, b)) : Pt E ⟨dst, .call { callee := .builtin .max, args := #[x, y], argTypes := aty }, ty, ps, af, gd⟩ s (.int kk (max a b)) := fun c ho w => by
  have e : (if b > a then b else a) = max a b := by split <;> omega
  simp [execOp, resolve, invoke, builtin, ho.evI hx, ho.evI hy, D.val, Builtin.max_, Builtin.max2, e]
theorem p_min {x y : Operand} {kk : IntKind} {a b : Int} {aty : Array TypeId} (hx : evI s x = some (kk, a)) (hy : evI s y = some (kk, b)) : Pt E ⟨dst, .call { callee := .builtin .min, args := #[x, y], argTypes := aty }, ty, ps, af, gd⟩ s (.int kk (min a b)) := fun c ho w => by
  have e : (if b < a then b else a) = min a b := by split <;> omega
  simp [execOp, resolve, invoke, builtin, ho.evI hx, ho.evI hy, D.val, Builtin.min_, Builtin.min2, e]
theorem arrs_zero {n m : Nat} : madeCells (D.arr8 m fun _ => 0).cells.toArray (n * m) = (Rw.arrs m (List.replicate n z8')).cells.toArray := by
  have e1 : (Rw.arrs m (List.replicate n z8')).cells = List.replicate (n * m) (Value.int .u8 0) := by
    show (List.replicate n z8').flatMap (rowC' m) = _
    induction n with
    | zero => simp
    | succ n ih =>
      rw [List.replicate_succ, List.flatMap_cons, ih, Nat.succ_mul, Nat.add_comm, ← List.replicate_append_replicate]
      congr 1
      apply List.ext_getElem
      · simp [rowC']
      · intro i h1 h2
        simp [rowC', z8']
  rw [e1]
  apply Array.ext
  · simp [madeCells]
  · intro j h1 h2
    have hj : j < n * m := by simpa [madeCells] using h1
    have hm : 0 < m := by
      rcases Nat.eq_zero_or_pos m with e | e
      · subst e; simp at hj
      · exact e
    have hlt : j % m < m := Nat.mod_lt _ hm
    simp [madeCells, D.cells, hlt]
theorem x_makeSliceA {T el n m : Nat} {x y : Operand} {ei : TI} {sz by_ : Nat} {z : D} {kl kc : IntKind} {l c : Int} (ht : E.tt T = some ⟨.slice el, sz, by_, z⟩) (h3 : E.tt el = some ei) (hx : evI s x = some (kl, l)) (hy : evI s y = some (kc, c)) (hl : l = (n : Int)) (hc : c = (n : Int))
    (h1 : ei.size = m) (h0 : ei.zero = .arr8 m fun _ => 0) (hb : (ei.bytes : Int) * (n : Int) ≤ 281474976710656) (hn : n ≤ 140737488355328) (hk : k < E.n)
    (h : ∀ b, K ⟨(k, .sl b 0 n n) :: s.tm, .row b n el (.arrs m (List.replicate n z8')) :: s.hp⟩) : Xt E ⟨some k, .makeSlice T x y, ty, ps, af, gd⟩ s K := xt_value fun a w ho => by
  obtain ⟨d, hd, hm⟩ := tt_underlying ht
  simp only [TD.met] at hm
  subst hm
  obtain ⟨xi, hxi, e1, e2, e3⟩ := tt_info h3
  subst hl; subst hc
  have hrun := run_make (P := E.P) w T el xi ei.zero.val hd hxi e3 kl kc (n : Int) (n : Int) (by omega) (Int.le_refl _) (by rw [e2]; exact hb) (by omega)
  have hf := (E.tok el ei h3).2.2.1
  rw [e1, h1, Int.toNat_natCast, D.val_cells _ hf, h0, arrs_zero] at hrun
  have hlen : (Rw.arrs m (List.replicate n z8')).len = n := by simp [Rw.len]
  have hrow : (w.alloc (.cells (Rw.arrs m (List.replicate n z8')).cells.toArray el)).ownsRow 0 el (Rw.arrs m (List.replicate n z8')).size (.slice (some ⟨w.heap.size, 0, none⟩) (Rw.arrs m (List.replicate n z8')).len n) (Rw.arrs m (List.replicate n z8')).len (Rw.arrs m (List.replicate n z8')).cells := by
    have h0 := World.ownsRow_lit (base := 0) (e := el) (size := (Rw.arrs m (List.replicate n z8')).size) w (Rw.arrs m (List.replicate n z8')).cells.toArray n (Nat.zero_le _) (by unfold maxLen; omega) (by simp only [List.size_toArray, Rw.length_cells, hlen])
    rw [hlen]
    exact h0
  refine ⟨_, _, ?_, _, h w.heap.size, ((ho.more (new := [.row w.heap.size n el (.arrs m (List.replicate n z8'))]) ((Below.refl _ _).alloc (Nat.le_refl _) (.cells (Rw.arrs m (List.replicate n z8')).cells.toArray el))
    ⟨fun e he => by simp only [List.mem_singleton] at he; subst he; exact hrow, by simp [wkeys, Ent.wkey], by simp [rkeys, Ent.rkey]⟩ rfl (by simp [wkeys, Ent.wkey])).put (d := .sl w.heap.size 0 n n) hk)⟩
  simp only [execOp, ho.t.evI hx, ho.t.evI hy, Sem.run_bind, hrun, Result.andThen_ok, Sem.run_pure, D.val]
end
end Gx
end Go.Proofs.Ytjihhcjpbcmjaaa
