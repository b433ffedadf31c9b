/- The frame of this seat's proofs, part 2: what the walk knows of a frame and of memory, and the rules of a code's shapes; no conditions. -/
import Derived.Test.YtebcapplclgaeadGx1
namespace Go.Proofs.Ytebcapplclgaead
open Go
namespace Gx
open Go.RowKit (Below)

/-! ### The types' table -/
inductive TD where
  | int (k : IntKind)
  | bool
  | str
  | arr (len elem : Nat)
  | struct (offs : List Nat) (types : List Nat)
  | slice (elem : Nat)
  | ptr (elem : Nat)
  | other
structure TI where
  td : TD
  size : Nat
  bytes : Nat
  zero : D

def TD.ag : TD → Bool
  | .arr _ _ => true
  | .struct _ _ => true
  | _ => false

def TD.met : TD → TypeDesc → Prop
  | .int k, d => d = .int k
  | .bool, d => d = .bool
  | .str, d => d = .string
  | .arr n e, d => d = .array n e
  | .struct os ts, d => ∃ fs, d = .struct fs ∧ fs.toList.map (·.offset) = os ∧ fs.toList.map (·.type) = ts
  | .slice e, d => d = .slice e
  | .ptr e, d => d = .pointer e
  | .other, d => d.isRow = false

theorem TD.met_row {td : TD} {d : TypeDesc} (h : td.met d) : d.isRow = td.ag := by
  cases td <;> simp only [TD.met] at h
  case struct => obtain ⟨fs, rfl, _⟩ := h; rfl
  case other => simpa [TD.ag] using h
  all_goals (subst h; rfl)

def TI.met (P : Program) (t : TypeId) (i : TI) : Prop :=
  (∃ d, P.underlying t = some d ∧ i.td.met d) ∧ (P.info? t).map (fun x => (x.size, x.bytes, x.zero)) = some (i.size, i.bytes, some i.zero.val) ∧ i.zero.flat = true ∧ i.zero.size = i.size ∧ i.zero.isAgg = i.td.ag

/-- The walk's surroundings: the program, its types, the frame's slots, the world at the call, the blocks that the call may write. -/
structure Env where
  P : Program
  tt : Nat → Option TI
  tok : ∀ t i, tt t = some i → i.met P t
  n : Nat
  w0 : World
  B0 : List Nat

/-! ### Memory -/
inductive Rw where
  | ints (k : IntKind) (l : List Int)
  | u8s (l : List (Fin 256))
  | arrs (m : Nat) (l : List (Nat → Fin 256))
  | vals (l : List Value) (h : ∀ v ∈ l, v.oneCell' = true)

def Rw.cells : Rw → List Value
  | .ints k l => l.map (.int k)
  | .u8s l => l.map fun x => .int .u8 (x.val : Int)
  | .arrs m l => l.flatMap fun f => (List.range m).map fun i => Value.int .u8 ((f i).val : Int)
  | .vals l _ => l
def Rw.size : Rw → Nat
  | .arrs m _ => m
  | _ => 1
def Rw.len : Rw → Nat
  | .ints _ l => l.length
  | .u8s l => l.length
  | .arrs _ l => l.length
  | .vals l _ => l.length

theorem Rw.length_cells (r : Rw) : r.cells.length = r.len * r.size := by
  cases r with
  | ints k l => simp [Rw.cells, Rw.len, Rw.size]
  | u8s l => simp [Rw.cells, Rw.len, Rw.size]
  | arrs m l =>
    simp only [Rw.cells, Rw.len, Rw.size]
    induction l with
    | nil => simp
    | cons f r ih => simp [List.flatMap_cons, ih, Nat.add_mul, Nat.add_comm]
  | vals l h => simp [Rw.cells, Rw.len, Rw.size]

theorem Rw.oneCell (r : Rw) : ∀ v ∈ r.cells, v.oneCell' = true := by
  cases r with
  | ints k l => simp [Rw.cells]; intro a _; rfl
  | u8s l => simp [Rw.cells]; intro a _; rfl
  | arrs m l => simp [Rw.cells]; intro a f _ i _ h; subst h; rfl
  | vals l h => simpa [Rw.cells] using h

/-- What is known of memory: 'var': a block that holds one variable, which may be written; 'rvar': the same, not written; 'row': a slice's array that grew out of this call; 'ro': cells of memory that came in. -/
inductive Ent where
  | var (b : Nat) (d : D)
  | rvar (b : Nat) (d : D)
  | row (b cap E : Nat) (r : Rw)
  | ro (b off : Nat) (r : Rw)
  | any (wk rk : List Nat) (Q : World → Prop) (hs : ∀ w w', Q w → (∀ k, (k ∈ wk ∨ k ∈ rk) → k < w.heap.size → w'.heap[k]? = w.heap[k]?) → Q w') (hl : ∀ w, Q w → ∀ k, (k ∈ wk ∨ k ∈ rk) → k < w.heap.size)

def Ent.wkey : Ent → List Nat
  | .var b _ => [b]
  | .row b _ _ _ => [b]
  | .any wk _ _ _ _ => wk
  | _ => []
def Ent.rkey : Ent → List Nat
  | .rvar b _ => [b]
  | .ro b _ _ => [b]
  | .any _ rk _ _ _ => rk
  | _ => []
def Ent.ok (w : World) : Ent → Prop
  | .var b d => d.flat = true ∧ ∃ ty, w.heap[b]? = some (.cells d.cells.toArray ty (0, 0))
  | .rvar b d => d.flat = true ∧ ∃ ty, w.heap[b]? = some (.cells d.cells.toArray ty (0, 0))
  | .row b cap E r => w.ownsRow 0 E r.size (.slice (some ⟨b, 0, none⟩) r.len cap) r.len r.cells
  | .ro b off r => b < w.heap.size ∧ ∀ j v, r.cells[j]? = some v → w.cell? ⟨b, off + j, none⟩ = some v
  | .any _ _ Q _ _ => Q w

def wkeys : List Ent → List Nat
  | [] => []
  | e :: r => e.wkey ++ wkeys r
def rkeys : List Ent → List Nat
  | [] => []
  | e :: r => e.rkey ++ rkeys r

theorem wkeys_append : ∀ a b : List Ent, wkeys (a ++ b) = wkeys a ++ wkeys b
  | [], _ => rfl
  | e :: r, b => by simp [wkeys, wkeys_append r b]
theorem rkeys_append : ∀ a b : List Ent, rkeys (a ++ b) = rkeys a ++ rkeys b
  | [], _ => rfl
  | e :: r, b => by simp [rkeys, rkeys_append r b]
theorem mem_wkeys {b : Nat} : ∀ {l : List Ent}, b ∈ wkeys l ↔ ∃ e ∈ l, b ∈ e.wkey
  | [] => by simp [wkeys]
  | e :: r => by simp [wkeys, mem_wkeys]
theorem mem_rkeys {b : Nat} : ∀ {l : List Ent}, b ∈ rkeys l ↔ ∃ e ∈ l, b ∈ e.rkey
  | [] => by simp [rkeys]
  | e :: r => by simp [rkeys, mem_rkeys]

structure HpOk (hp : List Ent) (w : World) : Prop where
  all : ∀ e ∈ hp, e.ok w
  nodup : (wkeys hp).Nodup
  apart : ∀ b, b ∈ rkeys hp → b ∉ wkeys hp

/-- Since the call began nothing but its own blocks and those of 'B0' has turned. -/
structure Fr (w0 : World) (B0 : List Nat) (hp : List Ent) (w : World) : Prop where
  os : w.os = w0.os
  tape : w.tape = w0.tape
  output : w.output = w0.output
  size : w0.heap.size ≤ w.heap.size
  block : ∀ k, k < w0.heap.size → k ∉ B0 → w.heap[k]? = w0.heap[k]?
  own : ∀ b, b ∈ wkeys hp → b ∈ B0 ∨ w0.heap.size ≤ b

/-! ### The frame -/
def get : List (Nat × D) → Nat → Option D
  | [], _ => none
  | (k, d) :: r, j => match Nat.beq k j with
    | true => some d
    | false => get r j

structure St where
  tm : List (Nat × D)
  hp : List Ent

def St.put (s : St) (k : Nat) (d : D) : St := ⟨(k, d) :: s.tm, s.hp⟩

def constD : Value → Option D
  | .int .u8 (.ofNat m) => if h : m < 256 then some (.u8 ⟨m, h⟩) else some (.int .u8 (.ofNat m))
  | .int k n => some (.int k n)
  | .bool b => some (.bool b)
  | .string x => some (.raw (.string x) rfl)
  | .pointer p => some (.raw (.pointer p) rfl)
  | .slice a l c => some (.raw (.slice a l c) rfl)
  | .nilFunc => some (.raw .nilFunc rfl)
  | .nilIface => some (.raw .nilIface rfl)
  | .func f a c => some (.raw (.func f a c) rfl)
  | _ => none

def ev (s : St) : Operand → Option D
  | .tmp t => get s.tm t
  | .const v => constD v
  | .func f => some (.raw (.func (.func f) #[] #[]) rfl)
  | .global g => some (.ptr g 0 none)

structure okT (E : Env) (s : St) (a : Act) : Prop where
  size : a.tmps.size = E.n
  defers : a.defers = []
  tm : ∀ k d, get s.tm k = some d → k < E.n ∧ a.tmps[k]? = some d.val
structure ok (E : Env) (s : St) (a : Act) (w : World) : Prop where
  size : a.tmps.size = E.n
  defers : a.defers = []
  tm : ∀ k d, get s.tm k = some d → k < E.n ∧ a.tmps[k]? = some d.val
  hp : HpOk s.hp w
  fr : Fr E.w0 E.B0 s.hp w
theorem ok.t {E : Env} {s : St} {a : Act} {w : World} (h : ok E s a w) : okT E s a := ⟨h.size, h.defers, h.tm⟩

theorem okT.ev {E : Env} {s : St} {a : Act} (h : okT E s a) {x : Operand} {d : D} (hx : ev s x = some d) : a.eval x = d.val := by
  cases x with
  | tmp t =>
    have := (h.tm t d hx).2
    show a.tmps.getD t undef = d.val
    simp [this]
  | const v =>
    simp only [Gx.ev] at hx
    unfold constD at hx
    split at hx
    · split at hx <;> (simp only [Option.some.injEq] at hx; subst hx; rfl)
    all_goals first | (simp only [Option.some.injEq] at hx; subst hx; rfl) | (cases hx; done)
  | global g => simp only [Gx.ev, Option.some.injEq] at hx; subst hx; rfl
  | func f => simp only [Gx.ev, Option.some.injEq] at hx; subst hx; rfl

theorem ok.ev {E : Env} {s : St} {a : Act} {w : World} (h : ok E s a w) {x : Operand} {d : D} (hx : ev s x = some d) : a.eval x = d.val := h.t.ev hx

theorem get_cons (k : Nat) (d : D) (r : List (Nat × D)) (j : Nat) : get ((k, d) :: r) j = if k = j then some d else get r j := by
  show (match Nat.beq k j with | true => some d | false => get r j) = _
  by_cases h : k = j
  · subst h; simp
  · have : Nat.beq k j = false := by
      rw [Bool.eq_false_iff]; intro e; exact h (Nat.eq_of_beq_eq_true e)
    simp [this, h]

theorem okT.put {E : Env} {s : St} {a : Act} (h : okT E s a) {k : Nat} {d : D} (hk : k < E.n) : okT E (s.put k d) (a.put (some k) d.val) where
  size := by simp [Act.put, h.size]
  defers := h.defers
  tm := fun j d' hj => by
    simp only [St.put, get_cons] at hj
    split at hj
    · rename_i e; subst e
      simp only [Option.some.injEq] at hj; subst hj
      refine ⟨hk, ?_⟩
      simp [Act.put, h.size, hk]
    · rename_i e
      obtain ⟨h1, h2⟩ := h.tm j d' hj
      refine ⟨h1, ?_⟩
      simp only [Act.put]
      rw [Array.getElem?_setIfInBounds_ne e]
      exact h2

theorem ok.put {E : Env} {s : St} {a : Act} {w : World} (h : ok E s a w) {k : Nat} {d : D} (hk : k < E.n) : ok E (s.put k d) (a.put (some k) d.val) w :=
  ⟨(h.t.put hk).size, (h.t.put hk).defers, (h.t.put (d := d) hk).tm, h.hp, h.fr⟩

/-- The same value, said in other words. -/
theorem okT.same {E : Env} {s : St} {a : Act} (h : okT E s a) {k : Nat} {d d' : D} (hk : get s.tm k = some d) (e : d.val = d'.val) : okT E (s.put k d') a where
  size := h.size
  defers := h.defers
  tm := fun j x hj => by
    simp only [St.put, get_cons] at hj
    split at hj
    · rename_i e'; subst e'
      simp only [Option.some.injEq] at hj; subst hj
      obtain ⟨h1, h2⟩ := h.tm k d hk
      exact ⟨h1, by rw [h2, e]⟩
    · exact h.tm j x hj
theorem ok.same {E : Env} {s : St} {a : Act} {w : World} (h : ok E s a w) {k : Nat} {d d' : D} (hk : get s.tm k = some d) (e : d.val = d'.val) : ok E (s.put k d') a w :=
  ⟨(h.t.same hk e).size, (h.t.same hk e).defers, (h.t.same hk e).tm, h.hp, h.fr⟩

theorem ok.putNone {E : Env} {s : St} {a : Act} {w : World} (h : ok E s a w) (v : Value) : ok E s (a.put none v) w := h

/-! ### Memory stays known -/
theorem Ent.ok_of_blocks {w w' : World} {e : Ent} (h : e.ok w) (hb : ∀ k, (k ∈ e.wkey ∨ k ∈ e.rkey) → k < w.heap.size → w'.heap[k]? = w.heap[k]?) : e.ok w' := by
  cases e with
  | var b d =>
    obtain ⟨hf, ty, ht⟩ := h
    exact ⟨hf, ty, by rw [hb b (.inl (by simp [Ent.wkey])) (Array.getElem?_eq_some_iff.1 ht).1]; exact ht⟩
  | rvar b d =>
    obtain ⟨hf, ty, ht⟩ := h
    exact ⟨hf, ty, by rw [hb b (.inr (by simp [Ent.rkey])) (Array.getElem?_eq_some_iff.1 ht).1]; exact ht⟩
  | row b cap E r =>
    have hl := World.ownsRow.lt h b rfl
    have := hb b (.inl (by simp [Ent.wkey])) hl.2
    refine ⟨h.1, ?_⟩
    rcases h.2 with ⟨h1, _⟩ | ⟨g, c, cur, hv, h0, hg, rest⟩
    · cases h1
    · simp only [Value.slice.injEq, Option.some.injEq, Addr.mk.injEq, and_true, true_and] at hv
      obtain ⟨rfl, rfl⟩ := hv
      exact .inr ⟨b, cap, cur, rfl, h0, by rw [this]; exact hg, rest⟩
  | ro b off r =>
    have h2 := hb b (.inr (by simp [Ent.rkey])) h.1
    refine ⟨?_, fun j v hv => ?_⟩
    · rw [Array.getElem?_eq_getElem h.1] at h2
      exact (Array.getElem?_eq_some_iff.1 h2).1
    · rw [← h.2 j v hv]
      exact World.cell?_of_block (w := w) h2
  | any wk rk Q hs hl => exact hs w w' h hb

theorem Ent.key_lt {w : World} {e : Ent} (h : e.ok w) : ∀ k ∈ e.wkey, k < w.heap.size := by
  cases e with
  | var b d => obtain ⟨_, ty, ht⟩ := h; simp [Ent.wkey]; exact (Array.getElem?_eq_some_iff.1 ht).1
  | rvar b d => simp [Ent.wkey]
  | row b cap E r => simp [Ent.wkey]; exact (World.ownsRow.lt h b rfl).2
  | ro b off r => simp [Ent.wkey]
  | any wk rk Q hs hl => exact fun k hk => hl w h k (.inl hk)

theorem HpOk.key_lt {hp : List Ent} {w : World} (h : HpOk hp w) {b : Nat} (hb : b ∈ wkeys hp) : b < w.heap.size := by
  obtain ⟨e, he, hk⟩ := mem_wkeys.1 hb
  exact Ent.key_lt (h.all e he) b hk

/-- Nothing that was there has turned: what is known stays known. -/
theorem HpOk.below {hp : List Ent} {w w' : World} (h : HpOk hp w) (hb : Below w.heap.size w w') : HpOk hp w' :=
  ⟨fun e he => Ent.ok_of_blocks (h.all e he) fun k _ hk => hb.block k hk, h.nodup, h.apart⟩

theorem ok.below {E : Env} {s : St} {a : Act} {w w' : World} (h : ok E s a w) (hb : Below w.heap.size w w') : ok E s a w' where
  size := h.size
  defers := h.defers
  tm := h.tm
  hp := h.hp.below hb
  fr := ⟨hb.os.trans h.fr.os, hb.tape.trans h.fr.tape, hb.output.trans h.fr.output, Nat.le_trans h.fr.size hb.size,
    fun k hk hn => (hb.block k (Nat.lt_of_lt_of_le hk h.fr.size)).trans (h.fr.block k hk hn), h.fr.own⟩

theorem ok.drew {E : Env} {s : St} {a : Act} {w : World} (h : ok E s a w) : ok E s a { w with drawn := w.drawn + 1 } :=
  h.below ⟨rfl, rfl, rfl, Nat.le_refl _, fun _ _ => rfl⟩

/-! ### Knowing less -/
def Wk (E : Env) (s s' : St) : Prop := ∀ a w, ok E s a w → ok E s' a w

inductive TmSub (tm : List (Nat × D)) : List (Nat × D) → Prop
  | nil : TmSub tm []
  | cons {k : Nat} {d d0 : D} {r : List (Nat × D)} (h : get tm k = some d0) (e : d0.val = d.val) (hr : TmSub tm r) : TmSub tm ((k, d) :: r)

inductive HpSub : List Ent → List Ent → Prop
  | nil {hp} : HpSub [] hp
  | all {hp} : HpSub hp hp
  | keep {e e' : Ent} {hp hp'} (h1 : e'.wkey = e.wkey) (h2 : e'.rkey = e.rkey) (h : ∀ w, e.ok w → e'.ok w) (hr : HpSub hp' hp) : HpSub (e' :: hp') (e :: hp)
  | drop {e : Ent} {hp hp'} (hr : HpSub hp' hp) : HpSub hp' (e :: hp)

theorem HpSub.keys {hp' hp : List Ent} (h : HpSub hp' hp) : (wkeys hp').Sublist (wkeys hp) ∧ (rkeys hp').Sublist (rkeys hp) := by
  induction h with
  | nil => exact ⟨List.nil_sublist _, List.nil_sublist _⟩
  | all => exact ⟨List.Sublist.refl _, List.Sublist.refl _⟩
  | keep h1 h2 _ _ ih => exact ⟨by simp only [wkeys, h1]; exact (List.Sublist.refl _).append ih.1, by simp only [rkeys, h2]; exact (List.Sublist.refl _).append ih.2⟩
  | drop _ ih => exact ⟨by simp only [wkeys]; exact ih.1.trans (List.sublist_append_right _ _), by simp only [rkeys]; exact ih.2.trans (List.sublist_append_right _ _)⟩

theorem HpSub.ok {hp' hp : List Ent} (h : HpSub hp' hp) {w : World} (ha : ∀ e ∈ hp, e.ok w) : ∀ e ∈ hp', e.ok w := by
  induction h with
  | nil => simp
  | all => exact ha
  | keep _ _ hk _ ih =>
    intro e he
    rcases List.mem_cons.1 he with rfl | he
    · exact hk w (ha _ (by simp))
    · exact ih (fun e he => ha e (by simp [he])) e he
  | drop _ ih => exact ih (fun e he => ha e (by simp [he]))

theorem Wk.intro {E : Env} {s s' : St} (ht : TmSub s.tm s'.tm) (hh : HpSub s'.hp s.hp) : Wk E s s' := fun a w h => by
  refine ⟨h.size, h.defers, ?_, ⟨hh.ok h.hp.all, h.hp.nodup.sublist hh.keys.1, fun b hb hb' => h.hp.apart b (hh.keys.2.subset hb) (hh.keys.1.subset hb')⟩,
    ⟨h.fr.os, h.fr.tape, h.fr.output, h.fr.size, h.fr.block, fun b hb => h.fr.own b (hh.keys.1.subset hb)⟩⟩
  intro k d hk
  generalize s'.tm = tm' at ht hk
  induction ht with
  | nil => simp [get] at hk
  | cons hg he _ ih =>
    rw [get_cons] at hk
    split at hk
    · rename_i e; subst e
      simp only [Option.some.injEq] at hk; subst hk
      obtain ⟨h1, h2⟩ := h.tm _ _ hg
      exact ⟨h1, by rw [h2, he]⟩
    · exact ih hk

theorem Wk.refl (E : Env) (s : St) : Wk E s s := fun _ _ h => h
theorem Wk.trans {E : Env} {s s' s'' : St} (h : Wk E s s') (h' : Wk E s' s'') : Wk E s s'' := fun a w k => h' a w (h a w k)

/-! ### The rules of a code's shapes -/
def liftQ (E : Env) (Q : Exit → St → Prop) : Exit → Act → World → Prop := fun e a w => ∃ s, Q e s ∧ ok E s a w
structure W (E : Env) (c : Code) (Q : Exit → St → Prop) (s : St) : Prop where
  out : ∀ a w, ok E s a w → c.wp E.P (liftQ E Q) a w

def thenQ (K : St → Prop) (Q : Exit → St → Prop) : Exit → St → Prop
  | .normal, s => K s
  | e, s => Q e s
def inQ (id : Nat) (Q : Exit → St → Prop) : Exit → St → Prop
  | .exit j, s => match Nat.beq j id with
    | true => Q .normal s
    | false => Q (.exit j) s
  | e, s => Q e s

theorem W_mono {E : Env} {c : Code} {Q Q' : Exit → St → Prop} {s : St} (h : W E c Q s) (hq : ∀ e s, Q e s → Q' e s) : W E c Q' s :=
  ⟨fun a w ho => wp_mono (h.out a w ho) fun e _ _ ⟨s, q, o⟩ => ⟨s, hq e s q, o⟩⟩
theorem W_wk {E : Env} {c : Code} {Q : Exit → St → Prop} {s s' : St} (hw : Wk E s s') (h : W E c Q s') : W E c Q s := ⟨fun a w ho => h.out a w (hw a w ho)⟩

theorem W_seq {E : Env} {x y : Code} {Q : Exit → St → Prop} {s : St} (h : W E x (thenQ (W E y Q) Q) s) : W E (.seq x y) Q s := ⟨fun a w ho => by
  refine wp_seq (wp_mono (h.out a w ho) ?_)
  rintro e a' w' ⟨s', q, o⟩
  cases e with
  | normal => exact W.out q a' w' o
  | exit id => exact ⟨s', q, o⟩
  | goto l => exact ⟨s', q, o⟩
  | ret => exact ⟨s', q, o⟩
  | panic ch => exact ⟨s', q, o⟩
  | outgrown => exact ⟨s', q, o⟩⟩

/-- Where ways meet again: what holds there is named. -/
theorem W_cut {E : Env} {x y : Code} {Q : Exit → St → Prop} {s : St} (J : St → Prop) (h : W E x (thenQ J Q) s) (hr : ∀ s', J s' → W E y Q s') : W E (.seq x y) Q s := W_seq (W_mono h fun e s' q => by
  cases e with
  | normal => exact hr s' q
  | exit id => exact q
  | goto l => exact q
  | ret => exact q
  | panic ch => exact q
  | outgrown => exact q)

theorem W_skip {E : Env} {Q : Exit → St → Prop} {s : St} (h : Q .normal s) : W E .skip Q s := ⟨fun _ _ ho => wp_skip ⟨s, h, ho⟩⟩
theorem W_exit {E : Env} {id : Nat} {Q : Exit → St → Prop} {s : St} (h : Q (.exit id) s) : W E (.exit id) Q s := ⟨fun _ _ ho => wp_exit ⟨s, h, ho⟩⟩
theorem W_ret {E : Env} {Q : Exit → St → Prop} {s : St} (h : Q .ret s) : W E .ret Q s := ⟨fun _ _ ho => wp_ret ⟨s, h, ho⟩⟩

theorem W_cond {E : Env} {c : Operand} {x y : Code} {Q : Exit → St → Prop} {s : St} {b : Bool} (hc : ev s c = some (.bool b)) (h1 : b = true → W E x Q s) (h2 : b = false → W E y Q s) :
    W E (.cond c x y) Q s := ⟨fun a w ho =>
  wp_cond_split (ho.ev hc) (fun e => (h1 e).out a w ho) (fun e => (h2 e).out a w ho)⟩
theorem W_if {E : Env} {c : Operand} {x y : Code} {Q : Exit → St → Prop} {s : St} {p : Prop} [Decidable p] (hc : ev s c = some (.bool (decide p))) (h1 : p → W E x Q s) (h2 : ¬ p → W E y Q s) :
    W E (.cond c x y) Q s := W_cond hc (fun e => h1 (of_decide_eq_true e)) (fun e => h2 (of_decide_eq_false e))
theorem W_true {E : Env} {c : Operand} {x y : Code} {Q : Exit → St → Prop} {s : St} (hc : ev s c = some (.bool true)) (h1 : W E x Q s) : W E (.cond c x y) Q s :=
  W_cond hc (fun _ => h1) (fun e => by cases e)
theorem W_false {E : Env} {c : Operand} {x y : Code} {Q : Exit → St → Prop} {s : St} (hc : ev s c = some (.bool false)) (h1 : W E y Q s) : W E (.cond c x y) Q s :=
  W_cond hc (fun e => by cases e) (fun _ => h1)

theorem W_block {E : Env} {id : Nat} {c : Code} {Q : Exit → St → Prop} {s : St} (h : W E c (inQ id Q) s) : W E (.block id c) Q s := ⟨fun a w ho => by
  refine wp_block (wp_mono (h.out a w ho) ?_)
  rintro e a' w' ⟨s', q, o⟩
  cases e with
  | exit j =>
    simp only [inQ] at q
    simp only [Exit.inBlock]
    by_cases hj : j = id
    · subst hj
      simp only [Nat.beq_refl, if_true] at q ⊢
      exact ⟨s', q, o⟩
    · have hb : Nat.beq j id = false := by rw [Bool.eq_false_iff]; intro e; exact hj (Nat.eq_of_beq_eq_true e)
      rw [hb] at q
      rw [if_neg hj]
      exact ⟨s', q, o⟩
  | normal => exact ⟨s', q, o⟩
  | goto l => exact ⟨s', q, o⟩
  | ret => exact ⟨s', q, o⟩
  | panic ch => exact ⟨s', q, o⟩
  | outgrown => exact ⟨s', q, o⟩⟩

/-- A loop: 'inv x' is the state at the head of a round, 'R x' what holds of it, 'm x' the measure. -/
theorem W_loop {E : Env} {c : Code} {Q : Exit → St → Prop} {s : St} {α : Type} (inv : α → St) (R : α → Prop) (m : α → Nat) (x0 : α) (h0 : R x0) (hs : Wk E s (inv x0))
    (round : ∀ x, R x → W E c (thenQ (fun s' => ∃ x', R x' ∧ m x' < m x ∧ Wk E s' (inv x')) Q) (inv x)) : W E (.loop c) Q s := ⟨fun a w ho => by
  refine wp_loop_ghost (fun n a w => ∃ x, R x ∧ m x = n ∧ ok E (inv x) a w) (m x0) ⟨x0, h0, rfl, hs a w ho⟩ ?_
  rintro n a w ⟨x, hx, rfl, ho⟩
  refine wp_mono ((round x hx).out a w ho) ?_
  rintro e a' w' ⟨s', q, o⟩
  cases e with
  | normal =>
    obtain ⟨x', h1, h2, h3⟩ := q
    exact ⟨m x', h2, x', h1, rfl, h3 a' w' o⟩
  | exit id => exact ⟨s', q, o⟩
  | goto l => exact ⟨s', q, o⟩
  | ret => exact ⟨s', q, o⟩
  | panic ch => exact ⟨s', q, o⟩
  | outgrown => exact ⟨s', q, o⟩⟩

/-! ### A region's operations -/
structure Ops (E : Env) (ops : Array Oper) (l : List Oper) (K : St → Prop) (s : St) : Prop where
  out : ∀ a w, ok E s a w → ∀ Q : Exit → Act → World → Prop, (∀ s' a' w', K s' → ok E s' a' w' → Q .normal a' w') → wpList E.P ops Q l a w

theorem W_region {E : Env} {id : Nat} {l : List Oper} {Q : Exit → St → Prop} {s : St} (h : Ops E l.toArray l (Q .normal) s) : W E (.region id l.toArray false) Q s := ⟨fun a w ho =>
  wp_region_lit (h.out a w ho _ fun s' _ _ k o => ⟨s', k, o⟩)⟩

theorem Ops_nil {E : Env} {ops : Array Oper} {K : St → Prop} {s : St} (h : K s) : Ops E ops [] K s := ⟨fun _ _ ho _ hQ => wpList_nil (hQ s _ _ h ho)⟩
theorem Ops_wk {E : Env} {ops : Array Oper} {l : List Oper} {K : St → Prop} {s s' : St} (hw : Wk E s s') (h : Ops E ops l K s') : Ops E ops l K s := ⟨fun a w ho => h.out a w (hw a w ho)⟩

/-- An operation that yields a value and turns nothing that is known; a call that only reads among them. -/
def Qt (E : Env) (o : Oper) (s : St) (d : D) : Prop := ∀ a w, ok E s a w → (execOp a.eval o).run E.P w = .ok (.value d.val) w ∨
  ∃ f args, (execOp a.eval o).run E.P w = .ok (.enter f args) w ∧ Calls E.P f args w (fun e w' => e = .returned d.val ∧ Below w.heap.size w w')

/-- An operation that yields a value in whatever memory. -/
def Pt (E : Env) (o : Oper) (s : St) (d : D) : Prop := ∀ a, okT E s a → ∀ w, (execOp a.eval o).run E.P w = .ok (.value d.val) w
theorem Pt.q {E : Env} {o : Oper} {s : St} {d : D} (h : Pt E o s d) : Qt E o s d := fun a w ho => .inl (h a ho.t w)

/-- An operation, whatever it does. -/
def Xt (E : Env) (o : Oper) (s : St) (K : St → Prop) : Prop := ∀ a w, ok E s a w → ∀ (Kw : Act → World → Prop) (Q : Exit → Act → World → Prop), (∀ s' a' w', K s' → ok E s' a' w' → Kw a' w') → o.wp E.P a w Kw Q

theorem Xt_of_Qt {E : Env} {o : Oper} {s : St} {d : D} {k : Nat} (hd : o.dst = some k) (hk : k < E.n) (h : Qt E o s d) {K : St → Prop} (hK : K (s.put k d)) : Xt E o s K := fun a w ho Kw Q hKw => by
  unfold Oper.wp
  rcases h a w ho with h | ⟨f, args, h, hc⟩
  · rw [h]
    simp only [Oper.upon_value, hd]
    exact hKw _ _ _ hK (ho.put hk)
  · rw [h]
    simp only [Oper.upon_enter]
    refine hc.mono fun e w' ⟨he, hb⟩ => ?_
    subst he
    simp only [hd]
    exact hKw _ _ _ hK ((ho.below hb).put hk)

theorem Ops_x {E : Env} {ops : Array Oper} {r : List Oper} {K : St → Prop} {s : St} {o : Oper} (hg : o.guard = none) (h : Xt E o s (Ops E ops r K)) : Ops E ops (o :: r) K s := ⟨fun a w ho Q hQ =>
  wpList_plain hg fun Kw hKw => h a w ho Kw Q fun _ a' w' hs' ho' => hKw a' w' (hs'.out a' w' ho' Q hQ)⟩

theorem Ops_q {E : Env} {ops : Array Oper} {r : List Oper} {K : St → Prop} {s : St} {k : Nat} {op : Op} {ty : TypeId} {ps : String} {af : Array Edge} {d : D}
    (h : Qt E ⟨some k, op, ty, ps, af, none⟩ s d) (hk : k < E.n) (hr : Ops E ops r K (s.put k d)) : Ops E ops (⟨some k, op, ty, ps, af, none⟩ :: r) K s :=
  Ops_x rfl (Xt_of_Qt rfl hk h hr)

theorem Ops_p {E : Env} {ops : Array Oper} {r : List Oper} {K : St → Prop} {s : St} {k : Nat} {op : Op} {ty : TypeId} {ps : String} {af : Array Edge} {d : D}
    (h : Pt E ⟨some k, op, ty, ps, af, none⟩ s d) (hk : k < E.n) (hr : Ops E ops r K (s.put k d)) : Ops E ops (⟨some k, op, ty, ps, af, none⟩ :: r) K s := Ops_q h.q hk hr

/-- What a guarded operation looks at. -/
theorem wanted_of {E : Env} {s : St} {a : Act} (ho : okT E s a) {ops : Array Oper} {o : Oper} {g t : Nat} {want b : Bool} (hg : o.guard = some (g, want)) (ht : (ops[g]?).bind (·.dst) = some t)
    (hb : get s.tm t = some (.bool b)) : Region.wanted o (yielded ops a.tmps) = (b == want) := by
  have := (ho.tm t _ hb).2
  unfold Region.wanted
  simp only [hg, yielded, ht, Option.bind_some, this, D.val]
  cases b <;> cases want <;> rfl

theorem Ops_guard {E : Env} {ops : Array Oper} {r : List Oper} {K : St → Prop} {s : St} {k g t : Nat} {want b : Bool} {op : Op} {ty : TypeId} {ps : String} {af : Array Edge}
    (ht : (ops[g]?).bind (·.dst) = some t) (hb : get s.tm t = some (.bool b)) (hk : k < E.n)
    (h1 : b = want → Ops E ops (⟨some k, op, ty, ps, af, none⟩ :: r) K (s.put t (.bool want))) (h2 : b = !want → Ops E ops r K ((s.put t (.bool (!want))).put k (.tup []))) :
    Ops E ops (⟨some k, op, ty, ps, af, some (g, want)⟩ :: r) K s := ⟨fun a w ho Q hQ => by
  have hw := wanted_of ho.t (o := ⟨some k, op, ty, ps, af, some (g, want)⟩) rfl ht hb
  unfold wpList
  rw [hw]
  by_cases e : b = want
  · have h := (h1 e).out a w (ho.same hb (by rw [e])) Q hQ
    unfold wpList at h
    rw [if_pos (by simp [Region.wanted])] at h
    rw [if_pos (by simp [e])]
    exact h
  · rw [if_neg (by simpa using e)]
    have e' : b = !want := by cases b <;> cases want <;> simp_all
    exact (h2 e').out _ w ((ho.same (d' := .bool (!want)) hb (by rw [e'])).put (d := .tup []) hk) Q hQ⟩

/-- An operation behind a guard that is known. -/
theorem Ops_guard_t {E : Env} {ops : Array Oper} {r : List Oper} {K : St → Prop} {s : St} {k g t : Nat} {want : Bool} {op : Op} {ty : TypeId} {ps : String} {af : Array Edge}
    (ht : (ops[g]?).bind (·.dst) = some t) (hb : get s.tm t = some (.bool want)) (hk : k < E.n) (h1 : Ops E ops (⟨some k, op, ty, ps, af, none⟩ :: r) K s) : Ops E ops (⟨some k, op, ty, ps, af, some (g, want)⟩ :: r) K s :=
  Ops_guard ht hb hk (fun _ => Ops_wk (fun _ _ ho => (⟨ho.size, ho.defers, fun j d hj => by
    refine ho.tm j d ?_
    show get (s.put t (.bool want)).tm j = some d
    simp only [St.put, get_cons]
    split
    · rename_i e; subst e; rw [hb] at hj; exact hj
    · exact hj, ho.hp, ho.fr⟩ : ok E s _ _)) h1) (fun e => by cases want <;> cases e)
/-- An operation behind a guard that is known not to hold. -/
theorem Ops_guard_f {E : Env} {ops : Array Oper} {r : List Oper} {K : St → Prop} {s : St} {k g t : Nat} {want b : Bool} {op : Op} {ty : TypeId} {ps : String} {af : Array Edge}
    (ht : (ops[g]?).bind (·.dst) = some t) (hb : get s.tm t = some (.bool b)) (hne : b = !want) (hk : k < E.n) (h1 : Ops E ops r K (s.put k (.tup []))) : Ops E ops (⟨some k, op, ty, ps, af, some (g, want)⟩ :: r) K s :=
  Ops_guard ht hb hk (fun e => by subst e; cases b <;> cases hne) (fun e => Ops_wk (fun _ _ ho => (⟨ho.size, ho.defers, fun j d hj => by
    refine ho.tm j d ?_
    show get ((s.put t (.bool (!want))).put k (.tup [])).tm j = some d
    simp only [St.put, get_cons] at hj ⊢
    split
    · rename_i e2; rw [if_pos e2] at hj; exact hj
    · rename_i e2
      rw [if_neg e2] at hj
      split
      · rename_i e3; subst e3; rw [hb] at hj; rw [← e]; exact hj
      · exact hj, ho.hp, ho.fr⟩ : ok E (s.put k (.tup [])) _ _)) h1)

theorem lt_dec {a b : Nat} (h : Nat.blt a b = true) : a < b := by simpa using h

/-! ### A function -/
def Ret (w : World) (d : D) : Ending → World → Prop := fun e w' => e = .returned d.val ∧ Below w.heap.size w w'

end Gx
end Go.Proofs.Ytebcapplclgaead
