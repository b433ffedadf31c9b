/- Slices that came in, opened into lists; slices of slices of whole numbers. No conditions but those in the statements. -/
import Derived.Test.YtebcapplclgaeadGx12
import Derived.Test.YtebcapplclgaeadGx7
import Derived.ChangeSlices
namespace Go.Proofs.Ytebcapplclgaead
open Go
namespace Gx
open Go.RowKit (Below)
open Go.ChangeShapes
set_option linter.unusedVariables false

/-! ### Opening -/
theorem exL {α : Type} {Q : Nat → α → Prop} : ∀ n, (∀ i, i < n → ∃ x, Q i x) → ∃ l : List α, l.length = n ∧ ∀ i x, l[i]? = some x → Q i x
  | 0, _ => ⟨[], rfl, fun i x h => by simp at h⟩
  | n + 1, h => by
    obtain ⟨l, hl, hq⟩ := exL n fun i hi => h i (by omega)
    obtain ⟨x, hx⟩ := h n (by omega)
    refine ⟨l ++ [x], by simp [hl], fun i y hy => ?_⟩
    by_cases hi : i < l.length
    · rw [List.getElem?_append_left hi] at hy; exact hq i y hy
    · rw [List.getElem?_append_right (by omega)] at hy
      have : i - l.length = 0 := by
        cases hc : i - l.length with
        | zero => rfl
        | succ q => rw [hc] at hy; simp at hy
      rw [this] at hy
      simp at hy
      subst hy
      have : i = n := by omega
      subst this
      exact hx
theorem spot_of {w : World} {a : Addr} {u : Value} (h : w.cell? a = some u) : a.spot = none := by
  unfold World.cell? at h
  split at h
  · cases hs : a.spot with
    | none => rfl
    | some x => simp [hs] at h
  · cases h
theorem add_add (a : Addr) (n m : Nat) : (a.add n).add m = a.add (n + m) := by
  unfold Addr.add
  split <;> split <;> (try split) <;> simp_all <;> omega
theorem cell_at {w : World} {a : Addr} {n : Nat} (hs : a.spot = none) : w.cell? (a.add n) = w.cell? ⟨a.block, a.off + n, none⟩ := by
  obtain ⟨b, o, sp⟩ := a
  simp only at hs
  subst hs
  rw [Addr.add_at]
section
variable {H : Type} {enc : TypeId × Value → H} {P : Program} {w : World} {base : Nat} {spare : Nat → Bool} {held : Bool}
theorem op_slice {t e : TypeId} {fuel : Nat} {cs : List Value} {x : DataW H × List MemPlace} (ht : P.underlying t = some (.slice e)) (h : DataW.trod enc P w base spare held fuel t cs = some x) :
    ∃ v, cs = [v] ∧ v.oneCell' = true ∧ (v = .slice none 0 0 ∨ ∃ a len cap, v = .slice (some a) len cap ∧ len ≤ maxLen ∧ ∀ i, i < len → ∃ ys n y, (∀ j u, ys[j]? = some u → w.cell? (a.add (i * P.cellsOf e + j)) = some u) ∧ DataW.trod enc P w base spare held n e ys = some y) := by
  rcases DataW.trod_slice ht h with ⟨rfl, _⟩ | ⟨a, len, cap, elems, rest, n, _, rfl, _, hb, hl, hm, hlen, hel, _⟩
  · exact ⟨_, rfl, rfl, .inl rfl⟩
  refine ⟨_, rfl, rfl, .inr ⟨a, len, cap, rfl, by omega, fun i hi => ?_⟩⟩
  have h1 := hel i hi
  have h2 : i < elems.length := by omega
  rw [List.getElem?_eq_getElem h2, Option.bind_eq_some_iff] at h1
  obtain ⟨ys, h3, h4⟩ := h1
  refine ⟨ys, n, _, fun j u hj => ?_, h4⟩
  have h5 := World.cells?_some h3
  have hj' : j < P.cellsOf e := by
    have := (List.getElem?_eq_some_iff.1 hj).1
    have e1 : ys.length = P.cellsOf e := h5.2.1
    omega
  have := h5.2.2 j hj'
  rw [add_add] at this
  rw [this, hj]

/-- A slice whose elements are one cell each. -/
theorem op_cells {α : Type} {t e : TypeId} {fuel : Nat} {cs : List Value} {x : DataW H × List MemPlace} {Q : α → Prop} {val : α → Value} (mk : List α → Rw) (hmk : ∀ l, (mk l).cells = l.map val ∧ (mk l).len = l.length) (ht : P.underlying t = some (.slice e)) (hc : P.cellsOf e = 1)
    (hel : ∀ ys n y, DataW.trod enc P w base spare held n e ys = some y → ∃ a, ys = [val a] ∧ Q a) (h : DataW.trod enc P w base spare held fuel t cs = some x) :
    ∃ v, cs = [v] ∧ v.oneCell' = true ∧ ∃ l : List α, RdP v (mk l) w ∧ l.length ≤ maxLen ∧ ∀ a ∈ l, Q a := by
  obtain ⟨v, rfl, hv, h⟩ := op_slice ht h
  refine ⟨v, rfl, hv, ?_⟩
  rcases h with rfl | ⟨a, len, cap, rfl, hl, hh⟩
  · exact ⟨[], .inl ⟨rfl, (hmk []).2⟩, by simp, by simp⟩
  have hh' : ∀ i, i < len → ∃ y : α, w.cell? (a.add i) = some (val y) ∧ Q y := fun i hi => by
    obtain ⟨ys, n, y, h1, h2⟩ := hh i hi
    obtain ⟨z, rfl, h3⟩ := hel ys n y h2
    exact ⟨z, by simpa [hc] using h1 0 _ rfl, h3⟩
  obtain ⟨l, h1, h2⟩ := exL len hh'
  refine ⟨l, .inr ⟨a, cap, by rw [(hmk l).2, h1], fun hne => ?_, fun j u hu => ?_⟩, by omega, fun y hy => ?_⟩
  · rw [(hmk l).1] at hne
    cases l with
    | nil => exact absurd rfl hne
    | cons y r => have := spot_of (h2 0 y rfl).1; simpa [Addr.add] using this
  · rw [(hmk l).1, List.getElem?_map] at hu
    cases hy : l[j]? with
    | none => rw [hy] at hu; cases hu
    | some y =>
      rw [hy] at hu
      simp only [Option.map_some, Option.some.injEq] at hu
      subst hu
      have h3 := (h2 j y hy).1
      have hs : a.spot = none := by
        cases l with
        | nil => simp at hy
        | cons y r => have := spot_of (h2 0 y rfl).1; simpa [Addr.add] using this
      rwa [cell_at hs] at h3
  · obtain ⟨i, hi⟩ := List.getElem?_of_mem hy
    exact (h2 i y hi).2

theorem wf_in {k : IntKind} {n : Int} (h : (Lit.int k n).wf = true) : inR k n := by
  simp [Lit.wf, IntKind.has] at h
  cases k <;> simp [IntKind.min, IntKind.max, IntKind.signed, IntKind.bits] at h <;> simp only [inR] <;> omega

theorem el_u8 {e : TypeId} (he : P.underlying e = some (.int .u8)) : ∀ ys n y, DataW.trod enc P w base spare held n e ys = some y → ∃ a : Fin 256, ys = [Value.int .u8 (a.val : Int)] ∧ True := by
  intro ys n y h
  obtain ⟨m, rfl, _, h2⟩ := DataW.trod_int he h
  obtain ⟨h3, h4⟩ := wf_in h2
  exact ⟨⟨m.toNat, by omega⟩, by simp only [List.cons.injEq, Value.int.injEq, true_and, and_true]; omega, trivial⟩
theorem el_int {k : IntKind} {e : TypeId} (he : P.underlying e = some (.int k)) : ∀ ys n y, DataW.trod enc P w base spare held n e ys = some y → ∃ a : Int, ys = [Value.int k a] ∧ inR k a := by
  intro ys n y h
  obtain ⟨m, rfl, _, h2⟩ := DataW.trod_int he h
  exact ⟨m, rfl, wf_in h2⟩

theorem op_u8s {t e : TypeId} {v : Value} {d : DataW H} {ps : List MemPlace} (ht : P.underlying t = some (.slice e)) (he : P.underlying e = some (.int .u8)) (hc : P.cellsOf e = 1) (h : DataW.Trod enc P w base spare held t v d ps) (hone : ∀ u, v.cells.toList = [u] → v = u) :
    ∃ l : List (Fin 256), RdP v (.u8s l) w ∧ v.oneCell' = true ∧ l.length ≤ maxLen := by
  obtain ⟨fuel, h⟩ := h
  obtain ⟨u, hu, h1, l, h2, h3, _⟩ := op_cells (α := Fin 256) (Q := fun _ => True) (val := fun a => Value.int .u8 (a.val : Int)) Rw.u8s (fun l => ⟨rfl, rfl⟩) ht hc (el_u8 he) h
  rw [hone u hu]
  exact ⟨l, h2, h1, h3⟩
theorem op_i64s {k : IntKind} {t e : TypeId} {v : Value} {d : DataW H} {ps : List MemPlace} (ht : P.underlying t = some (.slice e)) (he : P.underlying e = some (.int k)) (hc : P.cellsOf e = 1) (h : DataW.Trod enc P w base spare held t v d ps) (hone : ∀ u, v.cells.toList = [u] → v = u) :
    ∃ l : List Int, RdP v (.ints k l) w ∧ v.oneCell' = true ∧ l.length ≤ maxLen ∧ ∀ n ∈ l, inR k n := by
  obtain ⟨fuel, h⟩ := h
  obtain ⟨u, hu, h1, l, h2, h3, h4⟩ := op_cells (α := Int) (Q := inR k) (val := fun a => Value.int k a) (Rw.ints k) (fun l => ⟨rfl, rfl⟩) ht hc (el_int he) h
  rw [hone u hu]
  exact ⟨l, h2, h1, h3, h4⟩

/-! ### Slices of slices of whole numbers -/
abbrev SL := List (V1 × List Int)
def sd : V1 × List Int := (⟨.slice none 0 0, rfl⟩, [])
def valsR (l : SL) : Rw := .vals (l.map (·.1.1)) (by intro v hv; obtain ⟨p, _, rfl⟩ := List.mem_map.1 hv; exact p.1.2)
def rss (v : Value) (l : SL) : Ent := .any [] (rdK v (valsR l) ++ l.flatMap fun p => rdK p.1.1 (.ints .i64 p.2)) (fun w => RdP v (valsR l) w ∧ ∀ p ∈ l, RdP p.1.1 (.ints .i64 p.2) w)
  (fun w w' h hb => ⟨h.1.stays fun k hk hl => hb k (.inr (List.mem_append_left _ (hk.resolve_left (by simp)))) hl, fun p hp => (h.2 p hp).stays fun k hk hl => hb k (.inr (List.mem_append_right _ (List.mem_flatMap.2 ⟨p, hp, hk.resolve_left (by simp)⟩))) hl⟩)
  (fun w h k hk => by
    rcases List.mem_append.1 (hk.resolve_left (by simp)) with h1 | h1
    · exact rdK_lt h.1 k h1
    · obtain ⟨p, hp, hk⟩ := List.mem_flatMap.1 h1
      exact rdK_lt (h.2 p hp) k hk)
def oss (v : Value) (E1 E2 : Nat) (l : SL) : Ent := .any (sblk v ++ l.flatMap fun p => sblk p.1.1) [] (fun w => OwnP v E1 (valsR l) w ∧ ∀ p ∈ l, OwnP p.1.1 E2 (.ints .i64 p.2) w)
  (fun w w' h hb => ⟨h.1.stays fun k hk hl => hb k (.inl (List.mem_append_left _ hk)) hl, fun p hp => (h.2 p hp).stays fun k hk hl => hb k (.inl (List.mem_append_right _ (List.mem_flatMap.2 ⟨p, hp, hk⟩))) hl⟩)
  (fun w h k hk => by
    rcases List.mem_append.1 (hk.resolve_right (by simp)) with h1 | h1
    · exact h.1.lt k h1
    · obtain ⟨p, hp, hk⟩ := List.mem_flatMap.1 h1
      exact (h.2 p hp).lt k hk)
theorem oss_rss {v : Value} {E1 E2 : Nat} {l : SL} {w : World} (h : (oss v E1 E2 l).ok w) : (rss v l).ok w := ⟨OwnP.rd h.1, fun p hp => OwnP.rd (h.2 p hp)⟩
theorem Vw.rss {R : List Ent} {v : Value} {l : SL} (m : Gx.rss v l ∈ R) : Vw R [Gx.rss v l] := Vw.one m rfl (fun k hk => .inr hk) fun w h => h
theorem Vw.rssO {R : List Ent} {v : Value} {E1 E2 : Nat} {l : SL} (m : oss v E1 E2 l ∈ R) : Vw R [Gx.rss v l] := Vw.one m rfl (fun k hk => .inl (by
  rcases List.mem_append.1 (show k ∈ rdK v (valsR l) ++ l.flatMap (fun p => rdK p.1.1 (.ints .i64 p.2)) from hk) with h | h
  · exact List.mem_append_left _ (rdK_sub k h)
  · obtain ⟨p, hp, hk⟩ := List.mem_flatMap.1 h
    exact List.mem_append_right _ (List.mem_flatMap.2 ⟨p, hp, rdK_sub k hk⟩))) fun w h => oss_rss h
theorem getD_mem {l : SL} {j : Nat} (h : j < l.length) : l.getD j sd ∈ l := by
  simp only [List.getD, List.getElem?_eq_getElem h, Option.getD_some]
  exact List.getElem_mem h
theorem Rds.rssO {s : St} {v : Value} {l : SL} (m : Gx.rss v l ∈ s.hp) : Rds s v (valsR l) := fun w h => (show RdP v (valsR l) w ∧ _ from h.all _ m).1
theorem Rds.rssI {s : St} {v : Value} {l : SL} {j : Nat} (m : Gx.rss v l ∈ s.hp) (hj : j < l.length) : Rds s (l.getD j sd).1.1 (.ints .i64 (l.getD j sd).2) := fun w h => (show RdP v (valsR l) w ∧ ∀ p ∈ l, RdP p.1.1 (.ints .i64 p.2) w from h.all _ m).2 _ (getD_mem hj)
theorem Rds.ossO {s : St} {v : Value} {E1 E2 : Nat} {l : SL} (m : oss v E1 E2 l ∈ s.hp) : Rds s v (valsR l) := fun w h => OwnP.rd (show OwnP v E1 (valsR l) w ∧ _ from h.all _ m).1
theorem Rds.ossI {s : St} {v : Value} {E1 E2 : Nat} {l : SL} {j : Nat} (m : oss v E1 E2 l ∈ s.hp) (hj : j < l.length) : Rds s (l.getD j sd).1.1 (.ints .i64 (l.getD j sd).2) := fun w h => OwnP.rd ((show OwnP v E1 (valsR l) w ∧ ∀ p ∈ l, OwnP p.1.1 E2 (.ints .i64 p.2) w from h.all _ m).2 _ (getD_mem hj))
theorem valsR_len (l : SL) : (valsR l).len = l.length := by simp [valsR, Rw.len]
theorem q_lenO {E : Env} {s : St} {dst : Option Nat} {ty : TypeId} {ps : String} {af : Array Edge} {gd : Option (Nat × Bool)} {x : Operand} {v : Value} {hv : v.oneCell' = true} {l : SL} {T el : Nat} {sz by_ : Nat} {z : D} {aty : Array TypeId} (haty : aty = #[T]) (ht : E.tt T = some ⟨.slice el, sz, by_, z⟩) (hx : ev s x = some (.raw v hv)) (hr : Rds s v (valsR l)) :
    Qt E ⟨dst, .call { callee := .builtin .len, args := #[x], argTypes := aty }, ty, ps, af, gd⟩ s (.int .i64 ((l.length : Nat) : Int)) := (q_lenR haty ht hx hr).eq (by rw [valsR_len])
theorem q_loadI {E : Env} {s : St} {dst : Option Nat} {ty : TypeId} {ps : String} {af : Array Edge} {gd : Option (Nat × Bool)} {x : Operand} {v : Value} {e T j : Nat} {hv : (ptrAt v e).oneCell' = true} {i : TI} {l : SL} (ht : E.tt T = some i) (hx : ev s x = some (.raw (ptrAt v e) hv)) (hr : Rds s v (valsR l)) (he : e = mulS j i.size) (hj : j < l.length)
    (h2 : 1 = i.size) (h3 : false = i.td.ag) : Qt E ⟨dst, .load T x, ty, ps, af, gd⟩ s (.raw (l.getD j sd).1.1 (l.getD j sd).1.2) :=
  (q_loadR (r := valsR l) (j := j) ht hx hr he rfl (by simpa [valsR] using hj) h2 h3 rfl).eq (by
    simp only [D.val, List.getD, List.getElem?_map, List.getElem?_eq_getElem hj, Option.map_some, Option.getD_some])

theorem op_i64ss {t e2 e : TypeId} {v : Value} {d : DataW H} {ps : List MemPlace} (ht : P.underlying t = some (.slice e2)) (h2 : P.underlying e2 = some (.slice e)) (he : P.underlying e = some (.int .i64)) (hc2 : P.cellsOf e2 = 1) (hc : P.cellsOf e = 1) (h : DataW.Trod enc P w base spare held t v d ps) (hone : ∀ u, v.cells.toList = [u] → v = u) :
    ∃ l : SL, (rss v l).ok w ∧ v.oneCell' = true ∧ l.length ≤ maxLen ∧ ∀ p ∈ l, p.2.length ≤ maxLen ∧ ∀ n ∈ p.2, inR .i64 n := by
  obtain ⟨fuel, h⟩ := h
  obtain ⟨u, hu, h1, l, h3, h4, h5⟩ := op_cells (α := V1 × List Int) (Q := fun p => RdP p.1.1 (.ints .i64 p.2) w ∧ p.2.length ≤ maxLen ∧ ∀ n ∈ p.2, inR .i64 n) (val := fun p => p.1.1) valsR (fun l => ⟨rfl, valsR_len l⟩) ht hc2 (fun ys n y hy => by
    obtain ⟨u, rfl, q1, l, q2, q3, q4⟩ := op_cells (α := Int) (Q := inR .i64) (val := fun a => Value.int .i64 a) (Rw.ints .i64) (fun l => ⟨rfl, rfl⟩) h2 hc (el_int he) hy
    exact ⟨(⟨u, q1⟩, l), rfl, q2, q3, q4⟩) h
  rw [hone u hu]
  exact ⟨l, ⟨h3, fun p hp => (h5 p hp).1⟩, h1, h4, fun p hp => (h5 p hp).2⟩

/-- A slice of rows of m bytes. -/
theorem op_arrs {t e2 e : TypeId} {m : Nat} {v : Value} {d : DataW H} {ps : List MemPlace} (ht : P.underlying t = some (.slice e2)) (h2 : P.underlying e2 = some (.array m e)) (he : P.underlying e = some (.int .u8)) (hc2 : P.cellsOf e2 = m) (hc : P.cellsOf e = 1) (hm : 0 < m) (h : DataW.Trod enc P w base spare held t v d ps) (hone : ∀ u, v.cells.toList = [u] → v = u) :
    ∃ l : List (Nat → Fin 256), RdP v (.arrs m l) w ∧ v.oneCell' = true ∧ l.length ≤ maxLen := by
  obtain ⟨fuel, h⟩ := h
  obtain ⟨u, hu, h1, h3⟩ := op_slice ht h
  rw [hone u hu]
  rcases h3 with rfl | ⟨a, len, cap, rfl, hl, hh⟩
  · exact ⟨[], .inl ⟨rfl, rfl⟩, rfl, by simp⟩
  have hh' : ∀ i, i < len → ∃ f : Nat → Fin 256, ∀ j, j < m → w.cell? (a.add (i * m + j)) = some (.int .u8 ((f j).val : Int)) := fun i hi => by
    obtain ⟨ys, n, y, q1, q2⟩ := hh i hi
    obtain ⟨xs, n2, _, _, q3, q4, q5⟩ := DataW.trod_array h2 q2
    have hcell : ∀ j, j < m → ∃ b : Fin 256, ys[j]? = some (.int .u8 (b.val : Int)) := fun j hj => by
      have q6 := q5 j hj
      rw [List.getElem?_eq_getElem (by omega), hc, Nat.mul_one] at q6
      obtain ⟨b, q7, _⟩ := el_u8 he _ _ _ q6
      have hlt : j < ys.length := by omega
      refine ⟨b, ?_⟩
      have q8 := congrArg List.head? q7
      simpa [List.head?_take, List.head?_drop] using q8
    refine ⟨fun j => if hj : j < m then (hcell j hj).choose else 0, fun j hj => ?_⟩
    have q9 := (hcell j hj).choose_spec
    have := q1 j _ q9
    rw [hc2] at this
    simpa [hj] using this
  obtain ⟨l, e1, e2'⟩ := exL len hh'
  have hs : l ≠ [] → a.spot = none := fun hne => by
    cases l with
    | nil => exact absurd rfl hne
    | cons y r => have := spot_of (e2' 0 y rfl 0 hm); simpa [Addr.add] using this
  refine ⟨l, .inr ⟨a, cap, by simp [Rw.len, e1], fun hne => hs fun h0 => hne (by simp [Rw.cells, h0]), fun j u hu => ?_⟩, rfl, by omega⟩
  have hlt := (List.getElem?_eq_some_iff.1 hu).1
  have hcl := Rw.length_cells (.arrs m l)
  simp only [Rw.len, Rw.size] at hcl
  rw [hcl] at hlt
  have hjm : j / m < l.length := (Nat.div_lt_iff_lt_mul hm).2 hlt
  have hmod : j % m < m := Nat.mod_lt _ hm
  have ej : j = j / m * m + j % m := by rw [Nat.mul_comm]; exact (Nat.div_add_mod j m).symm
  have hf := flatMap_getElem? m (fun f : Nat → Fin 256 => (List.range m).map fun i => Value.int .u8 ((f i).val : Int)) (fun _ => by simp) l (j / m) (j % m) hmod l[j / m] (List.getElem?_eq_getElem hjm)
  rw [← ej] at hf
  have hu' : (l.flatMap fun f : Nat → Fin 256 => (List.range m).map fun i => Value.int .u8 ((f i).val : Int))[j]? = some u := hu
  rw [hf] at hu'
  simp only [List.getElem?_map, List.getElem?_range hmod, Option.map_some, Option.some.injEq] at hu'
  subst hu'
  have := e2' (j / m) _ (List.getElem?_eq_getElem hjm) (j % m) hmod
  rw [← ej] at this
  rwa [cell_at (hs (by intro h0; simp [h0] at hjm))] at this

theorem op_str {t : TypeId} {v : Value} {d : DataW H} {ps : List MemPlace} (ht : P.underlying t = some .string) (h : DataW.Trod enc P w base spare held t v d ps) (hone : ∀ u, v.cells.toList = [u] → v = u) : ∃ x : ByteArray, v = .string x ∧ x.size ≤ maxLen := by
  obtain ⟨fuel, h⟩ := h
  obtain ⟨x, hx, _, h2⟩ := DataW.trod_string ht h
  exact ⟨x, hone _ hx, h2⟩
end
section
variable {P : Program} {w : World} {r : Reach} {b : Nat}
theorem ok_slice {t e : TypeId} {v : Value} (hu : P.underlying t = some (.slice e)) (h : Value.okWide P w r b t v) : ∀ u, v.cells.toList = [u] → v = u := by
  unfold Value.okWide at h
  rw [hu] at h
  have h2 : Cell.okWide P w r b t v := h
  unfold Cell.okWide at h2
  rw [hu] at h2
  have h3 : Cell.ok P w r b t v := h2
  unfold Cell.ok at h3
  rw [hu] at h3
  intro u hc
  cases v <;> first | (exact h3.elim; done) | (simpa [Value.cells] using hc; done)
theorem ok_str {t : TypeId} {v : Value} (hu : P.underlying t = some .string) (h : Value.okWide P w r b t v) : ∀ u, v.cells.toList = [u] → v = u := by
  unfold Value.okWide at h
  rw [hu] at h
  have h2 : Cell.okWide P w r b t v := h
  unfold Cell.okWide at h2
  rw [hu] at h2
  have h3 : Cell.ok P w r b t v := h2
  unfold Cell.ok at h3
  rw [hu] at h3
  intro u hc
  cases v <;> first | (exact h3.elim; done) | (simpa [Value.cells] using hc; done)
end
theorem HpOk.ros {l : List Ent} {w : World} (h : ∀ e ∈ l, e.wkey = [] ∧ e.ok w) : HpOk l w := by
  have hk : wkeys l = [] := by
    rw [wkeys_flat, List.flatMap_eq_nil_iff]
    exact fun e he => (h e he).1
  exact ⟨fun e he => (h e he).2, by rw [hk]; exact List.nodup_nil, fun b _ => by rw [hk]; simp⟩
theorem HpOk.one {e : Ent} {w : World} (hw : e.wkey = []) (h : e.ok w) : HpOk [e] w :=
  ⟨fun x hx => by rw [List.mem_singleton.1 hx]; exact h, by show (e.wkey ++ []).Nodup; rw [hw]; exact List.nodup_nil, fun b _ => by show b ∉ e.wkey ++ []; rw [hw]; simp⟩
end Gx
end Go.Proofs.Ytebcapplclgaead
