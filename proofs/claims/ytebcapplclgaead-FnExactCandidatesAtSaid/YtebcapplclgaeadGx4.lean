/- The frame of this seat's proofs, part 4: the operations that make or write memory, literals, a function's beginning and end; no conditions. -/
import Derived.Test.YtebcapplclgaeadGx3
import Derived.Deep.AppendLies
namespace Go.Proofs.Ytebcapplclgaead
open Go
namespace Gx
open Go.RowKit (Below)

/-! ### One entry turned -/
inductive HpRep (e e' : Ent) : List Ent → List Ent → Prop
  | head {r : List Ent} : HpRep e e' (e :: r) (e' :: r)
  | tail {x : Ent} {r r' : List Ent} (h : HpRep e e' r r') : HpRep e e' (x :: r) (x :: r')

theorem HpRep.mem {e e' : Ent} {hp hp' : List Ent} (h : HpRep e e' hp hp') : e ∈ hp := by
  induction h with
  | head => simp
  | tail _ ih => simp [ih]
theorem HpRep.mem' {e e' x : Ent} {hp hp' : List Ent} (h : HpRep e e' hp hp') (hx : x ∈ hp') : x = e' ∨ x ∈ hp := by
  induction h with
  | head => rcases List.mem_cons.1 hx with h | h <;> simp [h]
  | tail _ ih =>
    rcases List.mem_cons.1 hx with h | h
    · simp [h]
    · rcases ih h with h | h <;> simp [h]

/-- What stands beside the turned entry. -/
theorem HpRep.split {e e' : Ent} {hp hp' : List Ent} (h : HpRep e e' hp hp') : ∃ l r, hp = l ++ e :: r ∧ hp' = l ++ e' :: r := by
  induction h with
  | @head r => exact ⟨[], r, rfl, rfl⟩
  | @tail x r r' _ ih =>
    obtain ⟨l, q, h1, h2⟩ := ih
    exact ⟨x :: l, q, by simp [h1], by simp [h2]⟩

theorem HpOk.rep {hp hp' : List Ent} {w w' : World} {e e' : Ent} {b b' : Nat} (h : HpOk hp w) (hr : HpRep e e' hp hp') (hk : e.wkey = [b]) (hk' : e'.wkey = [b']) (hr' : e'.rkey = []) (hr0 : e.rkey = [])
    (hlt : ∀ x ∈ hp, ∀ k ∈ x.rkey, k < w.heap.size) (he : e'.ok w') (hw : ∀ k, k < w.heap.size → k ≠ b → w'.heap[k]? = w.heap[k]?) (hb : b' = b ∨ w.heap.size ≤ b') : HpOk hp' w' := by
  obtain ⟨l, r, rfl, rfl⟩ := hr.split
  have hnd := h.nodup
  have hap := h.apart
  rw [wkeys_append, wkeys, hk] at hnd
  have hnb : b ∉ wkeys l ∧ b ∉ wkeys r := by
    rw [List.nodup_append] at hnd
    obtain ⟨_, h2, h3⟩ := hnd
    rw [List.cons_append, List.nil_append, List.nodup_cons] at h2
    exact ⟨fun hm => h3 b hm b (by simp) rfl, h2.1⟩
  have hrb : b ∉ rkeys l ∧ b ∉ rkeys r := by
    constructor <;> intro hm
    · exact hap b (by rw [rkeys_append]; simp [hm]) (by rw [wkeys_append, wkeys, hk]; simp)
    · exact hap b (by rw [rkeys_append, rkeys]; simp [hm]) (by rw [wkeys_append, wkeys, hk]; simp)
  have hold : ∀ x, (x ∈ l ∨ x ∈ r) → x.ok w' := fun x hx => by
    refine Ent.ok_of_blocks (h.all x (by rcases hx with hx | hx <;> simp [hx])) fun k hkk hlt => hw k hlt ?_
    rintro rfl
    rcases hkk with hkk | hkk <;> rcases hx with hx | hx
    · exact hnb.1 (mem_wkeys.2 ⟨x, hx, hkk⟩)
    · exact hnb.2 (mem_wkeys.2 ⟨x, hx, hkk⟩)
    · exact hrb.1 (mem_rkeys.2 ⟨x, hx, hkk⟩)
    · exact hrb.2 (mem_rkeys.2 ⟨x, hx, hkk⟩)
  have hfresh : b' ∉ wkeys l ∧ b' ∉ wkeys r := by
    rcases hb with rfl | hb
    · exact hnb
    · constructor <;> intro hm
      · have := h.key_lt (b := b') (by rw [wkeys_append]; simp [hm]); omega
      · have := h.key_lt (b := b') (by rw [wkeys_append, wkeys]; simp [hm]); omega
  refine ⟨fun x hx => ?_, ?_, ?_⟩
  · rcases List.mem_append.1 hx with hx | hx
    · exact hold x (.inl hx)
    · rcases List.mem_cons.1 hx with rfl | hx
      · exact he
      · exact hold x (.inr hx)
  · rw [wkeys_append, wkeys, hk']
    rw [List.nodup_append] at hnd ⊢
    obtain ⟨h1, h2, h3⟩ := hnd
    rw [List.cons_append, List.nil_append, List.nodup_cons] at h2 ⊢
    refine ⟨h1, ⟨hfresh.2, h2.2⟩, fun x hx y hy => ?_⟩
    rcases List.mem_cons.1 hy with rfl | hy
    · rintro rfl; exact hfresh.1 hx
    · exact h3 x hx y (by simp [hy])
  · intro k hk1 hk2
    rw [rkeys_append, rkeys, hr', List.nil_append, List.mem_append] at hk1
    rw [wkeys_append, wkeys, hk', List.mem_append, List.cons_append, List.nil_append, List.mem_cons] at hk2
    have hk3 : k ∈ rkeys (l ++ e :: r) := by rw [rkeys_append, rkeys, hr0, List.nil_append, List.mem_append]; exact hk1
    rcases hk2 with hk2 | rfl | hk2
    · exact hap k hk3 (by rw [wkeys_append]; simp [hk2])
    · rcases hb with rfl | hb
      · exact hap _ hk3 (by rw [wkeys_append, wkeys, hk]; simp)
      · obtain ⟨x, hx, hkx⟩ := mem_rkeys.1 hk3
        have := hlt x hx _ hkx
        omega
    · exact hap k hk3 (by rw [wkeys_append, wkeys]; simp [hk2])

theorem Ent.rkey_lt {w : World} {e : Ent} (h : e.ok w) : ∀ k ∈ e.rkey, k < w.heap.size := by
  cases e with
  | var b d => simp [Ent.rkey]
  | rvar b d => obtain ⟨_, ty, ht⟩ := h; simp [Ent.rkey]; exact (Array.getElem?_eq_some_iff.1 ht).1
  | row b cap E r => simp [Ent.rkey]
  | ro b off r => simp only [Ent.rkey, List.mem_singleton]; rintro k rfl; exact h.1
  | any wk rk Q hs hl => exact fun k hk => hl w h k (.inr hk)

theorem ok.rep {E : Env} {s : St} {a : Act} {w w' : World} (h : ok E s a w) {e e' : Ent} {b b' : Nat} {hp' : List Ent} (hr : HpRep e e' s.hp hp') (hk : e.wkey = [b]) (hk' : e'.wkey = [b']) (hr' : e'.rkey = []) (hr0 : e.rkey = [])
    (he : e'.ok w') (hw : ∀ k, k < w.heap.size → k ≠ b → w'.heap[k]? = w.heap[k]?) (hb : b' = b ∨ w.heap.size ≤ b') (hos : w'.os = w.os) (htape : w'.tape = w.tape) (hout : w'.output = w.output) (hsz : w.heap.size ≤ w'.heap.size) :
    ok E ⟨s.tm, hp'⟩ a w' := by
  have hbw : b ∈ wkeys s.hp := mem_wkeys.2 ⟨e, hr.mem, by simp [hk]⟩
  refine ⟨h.size, h.defers, h.tm, h.hp.rep hr hk hk' hr' hr0 (fun x hx => Ent.rkey_lt (h.hp.all x hx)) he hw hb,
    ⟨hos.trans h.fr.os, htape.trans h.fr.tape, hout.trans h.fr.output, Nat.le_trans h.fr.size hsz, fun k hk1 hk2 => ?_, fun x hx => ?_⟩⟩
  · rw [hw k (Nat.lt_of_lt_of_le hk1 h.fr.size) ?_]
    · exact h.fr.block k hk1 hk2
    · rintro rfl
      rcases h.fr.own _ hbw with h1 | h1
      · exact hk2 h1
      · omega
  · obtain ⟨y, hy, hxy⟩ := mem_wkeys.1 hx
    rcases hr.mem' hy with rfl | hy
    · rw [hk'] at hxy
      simp only [List.mem_singleton] at hxy
      subst hxy
      rcases hb with rfl | hb
      · exact h.fr.own _ hbw
      · right; exact Nat.le_trans h.fr.size hb
    · exact h.fr.own x (mem_wkeys.2 ⟨y, hy, hxy⟩)

/-- New entries in new blocks. -/
theorem ok.more {E : Env} {s : St} {a : Act} {w w' : World} (h : ok E s a w) (hb : Below w.heap.size w w') {new : List Ent} (hn : HpOk new w') (hr : rkeys new = []) (hf : ∀ b ∈ wkeys new, w.heap.size ≤ b) :
    ok E ⟨s.tm, new ++ s.hp⟩ a w' := by
  have h' := h.below hb
  refine ⟨h.size, h.defers, h.tm, ⟨fun e he => ?_, ?_, ?_⟩, ⟨h'.fr.os, h'.fr.tape, h'.fr.output, h'.fr.size, h'.fr.block, fun b hbb => ?_⟩⟩
  · rcases List.mem_append.1 he with he | he
    · exact hn.all e he
    · exact h'.hp.all e he
  · rw [wkeys_append, List.nodup_append]
    refine ⟨hn.nodup, h'.hp.nodup, fun x hx y hy => ?_⟩
    rintro rfl
    have h1 := hf x hx
    have h2 := h.hp.key_lt hy
    omega
  · intro b h1 h2
    rw [rkeys_append, hr, List.nil_append] at h1
    rw [wkeys_append, List.mem_append] at h2
    rcases h2 with h2 | h2
    · obtain ⟨x, hx, hkx⟩ := mem_rkeys.1 h1
      have := Ent.rkey_lt (h.hp.all x hx) b hkx
      have := hf b h2
      omega
    · exact h'.hp.apart b h1 h2
  · rw [wkeys_append, List.mem_append] at hbb
    rcases hbb with hbb | hbb
    · right; exact Nat.le_trans h.fr.size (hf b hbb)
    · exact h'.fr.own b hbb

theorem ok.alloc {E : Env} {s : St} {a : Act} {w : World} (h : ok E s a w) {d : D} (hd : d.flat = true) (ty : TypeId) : ok E ⟨s.tm, .var w.heap.size d :: s.hp⟩ a (w.alloc (.cells d.cells.toArray ty)) :=
  h.more (new := [.var w.heap.size d]) ((Below.refl _ _).alloc (Nat.le_refl _) _)
    ⟨fun e he => by
      simp only [List.mem_singleton] at he; subst he
      exact ⟨hd, ty, heap_alloc_new w _⟩, by simp [wkeys, Ent.wkey], by simp [rkeys, Ent.rkey]⟩ rfl (by simp [wkeys, Ent.wkey])

section
variable {E : Env} {s : St} {ty : TypeId} {ps : String} {af : Array Edge} {gd : Option (Nat × Bool)} {K : St → Prop} {k : Nat}

theorem xt_value {o : Oper} (h : ∀ a w, ok E s a w → ∃ d w', (execOp a.eval o).run E.P w = .ok (.value d) w' ∧ ∃ s', K s' ∧ ok E s' (a.put o.dst d) w') : Xt E o s K := fun a w ho Kw Q hK => by
  obtain ⟨d, w', h1, s', h2, h3⟩ := h a w ho
  unfold Oper.wp
  rw [h1]
  exact hK _ _ _ h2 h3
theorem xt_skip {op : Op} (h : ∀ a w, ok E s a w → ∃ w', (execOp a.eval ⟨none, op, ty, ps, af, gd⟩).run E.P w = .ok .skip w' ∧ ∃ s', K s' ∧ ok E s' a w') : Xt E ⟨none, op, ty, ps, af, gd⟩ s K := fun a w ho Kw Q hK => by
  obtain ⟨w', h1, s', h2, h3⟩ := h a w ho
  unfold Oper.wp
  rw [h1]
  exact hK _ _ _ h2 h3

theorem run_newVar (P : Program) (w : World) (T : TypeId) (d : D) (hd : d.flat = true) : (newVar T d.val).run P w = .ok ⟨w.heap.size, 0, none⟩ (w.alloc (.cells d.cells.toArray T)) := by
  simp [newVar, newRow, D.val_cells d hd]

theorem x_alloc {T : TypeId} {i : TI} (ht : E.tt T = some i) (hk : k < E.n) (h : ∀ b, K ⟨(k, .ptr b 0 none) :: s.tm, .var b i.zero :: s.hp⟩) : Xt E ⟨some k, .alloc T, ty, ps, af, gd⟩ s K := xt_value fun a w ho => by
  obtain ⟨x, hx, h1, h2, h3⟩ := tt_info ht
  have hf := (E.tok T i ht).2.2.1
  refine ⟨_, _, ?_, _, h w.heap.size, (ho.alloc hf T).put (d := .ptr w.heap.size 0 none) hk⟩
  simp [execOp, Instr.alloc, zeroValue, typeInfo, hx, h3, run_newVar _ _ _ _ hf, D.val]

theorem x_box {T : TypeId} {x : Operand} {d : D} (hx : ev s x = some d) (hd : d.flat = true) (hk : k < E.n) (h : ∀ b, K ⟨(k, .ptr b 0 none) :: s.tm, .var b d :: s.hp⟩) : Xt E ⟨some k, .box T x, ty, ps, af, gd⟩ s K := xt_value fun a w ho => by
  refine ⟨_, _, ?_, _, h w.heap.size, (ho.alloc hd T).put (d := .ptr w.heap.size 0 none) hk⟩
  simp [execOp, Instr.box, ho.ev hx, run_newVar _ _ _ _ hd, D.val]

theorem run_storeAt (P : Program) (w : World) (T : TypeId) (b at_ : Nat) (d0 nw : D) (ty : TypeId) (cs' : List Value) {i : TI} (hT : i.met P T) (hw : w.heap[b]? = some (.cells d0.cells.toArray ty (0, 0))) (hf : nw.flat = true) (hs : nw.size = i.size)
    (h : Writes d0.cells at_ nw cs') : (Instr.storeAt T (.pointer (some ⟨b, at_, none⟩)) nw.val).run P w = .ok () (w.setRow b cs'.toArray) := by
  obtain ⟨h1, h2⟩ := h
  have hi := hT.2.1
  cases hx : P.info? T with
  | none => simp [hx] at hi
  | some x =>
    simp [hx] at hi
    have hl : nw.cells.length = x.size := by rw [D.length_cells, hs, hi.1]
    have := run_storeCells_at (P := P) b at_ ty nw.cells 0 d0.cells.toArray w hw (by simp only [List.size_toArray, Nat.add_zero, D.length_cells nw]; exact h2) (D.oneCell nw)
    simp only [Nat.add_zero] at this
    have e : cs' = d0.cells.take at_ ++ nw.cells ++ d0.cells.drop (at_ + nw.cells.length) := h1
    simp [Instr.storeAt, Instr.sureAddr, storeVar, sizeOf, typeInfo, hx, D.val_cells nw hf, hl, this, e]

theorem setRow_frame (w : World) (b : Nat) (cs : Array Value) : (w.setRow b cs).heap.size = w.heap.size := by simp

theorem x_store {T b o : Nat} {e : Option Nat} {x y : Operand} {i : TI} {d0 d1 nw : D} {C : Prop} {hp' : List Ent} (ht : E.tt T = some i) (hx : ev s x = some (.ptr b o e)) (hy : ev s y = some nw) (hf : nw.flat = true) (hs : nw.size = i.size)
    (hr : HpRep (.var b d0) (.var b d1) s.hp hp') (hu : d0.upd o e nw = some (C, d1)) (hC : C) (h : K ⟨s.tm, hp'⟩) : Xt E ⟨none, .store T x y, ty, ps, af, gd⟩ s K := xt_skip fun a w ho => by
  obtain ⟨hf0, ty', hw⟩ := ho.hp.all _ hr.mem
  obtain ⟨hwr, h1, h2, _⟩ := D.upd_writes d0 o e nw C d1 hu hC hf hf0
  have hrun := run_storeAt E.P w T b (o + e.getD 0) d0 nw ty' d1.cells (E.tok T i ht) hw hf hs hwr
  refine ⟨w.setRow b d1.cells.toArray, ?_, _, h, ho.rep (b := b) (b' := b) hr rfl rfl rfl rfl ⟨h2, ty', setRow_heap w b _ _ _ _ hw⟩ (fun q _ hq => setRow_other w b q _ hq) (.inl rfl) rfl rfl rfl (by simp)⟩
  have e1 : (execOp a.eval ⟨none, .store T x y, ty, ps, af, gd⟩) = (do Instr.storeAt T (a.eval x) (a.eval y); pure .skip) := rfl
  rw [e1, ho.ev hx, ho.ev hy]
  simp only [D.val, Sem.run_bind, hrun, Result.andThen_ok, Sem.run_pure]

/-! ### Literals -/
theorem foldl_set (new : List Value) : ∀ (q : Nat) (off : Nat) (cs : Array Value), off + q + new.length ≤ cs.size →
    (new.zipIdx q).foldl (fun (cs : Array Value) (p : Value × Nat) => cs.setIfInBounds (off + p.2) p.1) cs = (spl cs.toList (off + q) new).toArray := by
  induction new with
  | nil => intro q off cs _; simp [spl]
  | cons v r ih =>
    intro q off cs h
    simp only [List.length_cons] at h
    simp only [List.zipIdx_cons, List.foldl_cons]
    rw [ih (q + 1) off _ (by simp; omega)]
    congr 1
    apply List.ext_getElem?
    intro j
    rw [spl_getElem? _ _ _ (by simp; omega), spl_getElem? _ _ _ (by simp; omega)]
    simp only [Array.toList_setIfInBounds, List.length_cons, List.getElem?_set, Array.length_toList]
    by_cases h1 : off + (q + 1) ≤ j ∧ j < off + (q + 1) + r.length
    · rw [if_pos h1, if_pos ⟨by omega, by omega⟩, show j - (off + q) = (j - (off + (q + 1))) + 1 by omega, List.getElem?_cons_succ]
    · rw [if_neg h1]
      by_cases h2 : off + q = j
      · subst h2
        rw [if_pos rfl, if_pos (by omega), if_pos ⟨by omega, by omega⟩]
        simp
      · rw [if_neg h2, if_neg (by omega)]

def fillD (place : Nat → Option (Nat × Option Nat × Nat)) : D → List (Nat × D) → Option (Prop × D)
  | z, [] => some (True, z)
  | z, (i, d) :: r => match place i with
    | none => none
    | some (o, e, size) => if (Nat.beq d.size size && d.flat) = true then (match z.upd o e d with
        | none => none
        | some (C, z') => (fillD place z' r).map fun p => (C ∧ p.1, p.2)) else none

theorem fill_ok (place : Nat → Option (Nat × Option Nat × Nat)) (pl : Nat → Option (Nat × Nat)) (hpl : ∀ i, pl i = (place i).map fun p => (p.1 + p.2.1.getD 0, p.2.2)) : ∀ (parts : List (Nat × D)) (z d : D) (C : Prop), fillD place z parts = some (C, d) → C → z.flat = true →
    Instr.fill pl z.cells.toArray (parts.map fun p => (p.1, p.2.val)) = some d.cells.toArray ∧ d.flat = true ∧ d.size = z.size ∧ d.isAgg = z.isAgg
  | [], z, d, C, h, _, hz => by
    simp only [fillD, Option.some.injEq, Prod.mk.injEq] at h
    obtain ⟨_, rfl⟩ := h
    simp [Instr.fill, hz]
  | (i, x) :: r, z, d, C, h, hC, hz => by
    unfold fillD at h
    cases hp : place i with
    | none => simp [hp] at h
    | some q =>
      obtain ⟨o, e, size⟩ := q
      simp only [hp] at h
      split at h
      · rename_i hb
        simp only [Bool.and_eq_true, Nat.beq_eq] at hb
        obtain ⟨hsz, hfx⟩ := hb
        cases hu : z.upd o e x with
        | none => simp [hu] at h
        | some p =>
          obtain ⟨C1, z'⟩ := p
          simp only [hu] at h
          cases hr : fillD place z' r with
          | none => simp [hr] at h
          | some p2 =>
            obtain ⟨C2, d2⟩ := p2
            simp only [hr, Option.map_some, Option.some.injEq, Prod.mk.injEq] at h
            obtain ⟨rfl, rfl⟩ := h
            obtain ⟨⟨h1, h2⟩, h3, h4, h5⟩ := D.upd_writes z o e x C1 z' hu hC.1 hfx hz
            obtain ⟨i1, i2, i3, i4⟩ := fill_ok place pl hpl r z' d2 C2 hr hC.2 h4
            refine ⟨?_, i2, i3.trans h3, i4.trans h5⟩
            have hpi : pl i = some (o + e.getD 0, size) := by rw [hpl, hp]; rfl
            have hxs : x.cells.length = x.size := D.length_cells x
            have hzl : z.cells.length = z.size := D.length_cells z
            simp only [List.map_cons, Instr.fill, hpi, D.val_cells x hfx, List.size_toArray, hxs, hsz]
            rw [if_neg (by simp; omega)]
            have := foldl_set x.cells 0 (o + e.getD 0) z.cells.toArray (by simp only [List.size_toArray, Nat.add_zero, hxs]; omega)
            simp only [Nat.add_zero] at this
            have e1 : (x.cells.toArray.zipIdx.foldl (fun cs (c, j) => cs.setIfInBounds (o + e.getD 0 + j) c) z.cells.toArray) = z'.cells.toArray := by
              rw [h1, ← Array.foldl_toList]
              simpa using this
            rw [e1]
            exact i1
      · cases h

def evp (s : St) : List (Nat × Operand) → Option (List (Nat × D))
  | [] => some []
  | (i, x) :: r => match ev s x, evp s r with
    | some d, some ds => some ((i, d) :: ds)
    | _, _ => none
theorem okT.evp {a : Act} (ho : okT E s a) : ∀ {xs : List (Nat × Operand)} {ds : List (Nat × D)}, evp s xs = some ds → xs.map (fun p => (p.1, a.eval p.2)) = ds.map fun p => (p.1, p.2.val)
  | [], ds, h => by simp [Gx.evp] at h; subst h; rfl
  | (i, x) :: r, ds, h => by
    simp only [Gx.evp] at h
    split at h
    · rename_i d ds' h1 h2
      simp only [Option.some.injEq] at h
      subst h
      simp only [List.map_cons, ho.ev h1, ho.evp h2]
    · cases h

theorem ok.evp {a : Act} {w : World} (ho : ok E s a w) {xs : List (Nat × Operand)} {ds : List (Nat × D)} (h : evp s xs = some ds) : xs.map (fun p => (p.1, a.eval p.2)) = ds.map fun p => (p.1, p.2.val) := ho.t.evp h

def sPlace (os : List Nat) (szs : List Nat) (i : Nat) : Option (Nat × Option Nat × Nat) := match os[i]?, szs[i]? with
  | some o, some z => some (o, none, z)
  | _, _ => none

/-- The sizes of a struct's fields. -/
def sizes (E : Env) : List Nat → Option (List Nat)
  | [] => some []
  | t :: r => match E.tt t, sizes E r with
    | some i, some l => some (i.size :: l)
    | _, _ => none

theorem mapM_places (P : Program) (w : World) : ∀ (fs : List Field) (szs : List Nat), (∀ (j : Nat) (f : Field), fs[j]? = some f → ∃ x, P.info? f.type = some x ∧ szs[j]? = some x.size) →
    (fs.mapM (fun (f : Field) => (do pure (f.offset, ← sizeOf f.type) : Sem (Nat × Nat)))).run P w = .ok ((fs.zip szs).map fun p => (p.1.offset, p.2)) w
  | [], szs, _ => by simp
  | f :: r, szs, h => by
    obtain ⟨x, hx, hs⟩ := h 0 f rfl
    cases szs with
    | nil => simp at hs
    | cons z szs =>
      simp only [List.getElem?_cons_zero, Option.some.injEq] at hs
      subst hs
      have ih := mapM_places P w r szs (fun j g hg => h (j + 1) g (by simpa using hg))
      have hsz : (sizeOf f.type).run P w = .ok x.size w := by simp [sizeOf, typeInfo, hx]
      simp only [List.mapM_cons, Sem.run_bind, hsz, Result.andThen_ok, Sem.run_pure, ih, List.zip_cons_cons, List.map_cons]

theorem sizes_get {E : Env} : ∀ {ts : List Nat} {szs : List Nat}, sizes E ts = some szs → ∀ (j t : Nat), ts[j]? = some t → ∃ i, E.tt t = some i ∧ szs[j]? = some i.size
  | [], szs, h, j, t, ht => by simp at ht
  | t0 :: r, szs, h, j, t, ht => by
    simp only [sizes] at h
    split at h
    · rename_i i l h1 h2
      simp only [Option.some.injEq] at h
      subst h
      cases j with
      | zero => simp at ht; subst ht; exact ⟨i, h1, rfl⟩
      | succ j => simpa using sizes_get h2 j t (by simpa using ht)
    · cases h

variable {dst : Option Tmp}
theorem p_build {T : Nat} {os ts szs : List Nat} {sz by_ : Nat} {z d : D} {parts : List (Nat × Operand)} {ds : List (Nat × D)} {C : Prop} (ht : E.tt T = some ⟨.struct os ts, sz, by_, z⟩) (hs : sizes E ts = some szs) (hp : evp s parts = some ds)
    (hf : fillD (sPlace os szs) z ds = some (C, d)) (hC : C) : Pt E ⟨dst, .build T parts.toArray, ty, ps, af, gd⟩ s d := fun a ho w => by
  obtain ⟨td, hd, fs, rfl, e1, e2⟩ := tt_underlying ht
  obtain ⟨x, hx, _, _, hz⟩ := tt_info ht
  obtain ⟨_, _, hzf, _, hza⟩ := E.tok T _ ht
  have hplaces := mapM_places E.P w fs.toList szs (fun j f hj => by
    obtain ⟨i, h1, h2⟩ := sizes_get hs j f.type (by rw [← e2]; simp [hj])
    obtain ⟨y, hy, hys, _⟩ := tt_info h1
    exact ⟨y, hy, by rw [h2, hys]⟩)
  have hlen : os.length = fs.toList.length := by rw [← e1]; simp
  obtain ⟨i1, i2, i3, i4⟩ := fill_ok (sPlace os szs) (fun i => (((fs.toList.zip szs).map fun p => (p.1.offset, p.2)).toArray)[i]?) (fun i => by
    simp only [sPlace, List.getElem?_toArray, List.getElem?_map]
    rw [← e1, List.getElem?_map]
    cases hf' : fs.toList[i]? with
    | none => simp [hf', List.zip, List.getElem?_zipWith]
    | some f =>
      cases hz' : szs[i]? with
      | none => simp [hf', hz', List.zip, List.getElem?_zipWith]
      | some zz => simp [hf', hz', List.zip, List.getElem?_zipWith]) ds z d C hf hC hzf
  have hagd : d.isAgg = true := by rw [i4]; exact hza
  have hm : (fs.mapM (fun (f : Field) => (do pure (f.offset, ← sizeOf f.type) : Sem (Nat × Nat)))).run E.P w = .ok ((fs.toList.zip szs).map fun p => (p.1.offset, p.2)).toArray w := by
    rw [Array.mapM_eq_mapM_toList, Sem.run_map, hplaces]
    rfl
  have hev := ho.evp hp
  simp only [execOp, Instr.build, zeroValue, typeInfo, Sem.run_bind]
  have hprog : (program : Sem Program).run E.P w = .ok E.P w := rfl
  simp only [hprog, Result.andThen_ok, hx, Sem.run_pure, hz, run_underlying hd]
  simp only [List.map_toArray, hev, D.val_cells z hzf]
  simp only [Sem.run_bind, hm, Result.andThen_ok, i1, Sem.run_pure, D.val_agg d hagd]

theorem p_build_arr {T len el : Nat} {ei : TI} {sz by_ : Nat} {z d : D} {parts : List (Nat × Operand)} {ds : List (Nat × D)} {C : Prop} (ht : E.tt T = some ⟨.arr len el, sz, by_, z⟩) (h3 : E.tt el = some ei) (hp : evp s parts = some ds)
    (hf : fillD (fun i => some (0, some (mulS i ei.size), ei.size)) z ds = some (C, d)) (hC : C) : Pt E ⟨dst, .build T parts.toArray, ty, ps, af, gd⟩ s d := fun a ho w => by
  obtain ⟨td, hd, hm⟩ := tt_underlying ht
  simp only [TD.met] at hm
  subst hm
  obtain ⟨x, hx, _, _, hz⟩ := tt_info ht
  obtain ⟨xe, hxe, hxs, _, _⟩ := tt_info h3
  obtain ⟨_, _, hzf, _, hza⟩ := E.tok T _ ht
  obtain ⟨i1, i2, i3, i4⟩ := fill_ok (fun i => some (0, some (mulS i ei.size), ei.size)) (fun i => some (i * ei.size, ei.size)) (fun i => by simp [mulS_eq]) ds z d C hf hC hzf
  have hagd : d.isAgg = true := by rw [i4]; exact hza
  have hev := ho.evp hp
  have hprog : (program : Sem Program).run E.P w = .ok E.P w := rfl
  simp only [execOp, Instr.build, zeroValue, typeInfo, Sem.run_bind]
  simp only [hprog, Result.andThen_ok, hx, Sem.run_pure, hz, run_underlying hd, sizeOf, typeInfo, Sem.run_bind, hxe, hxs]
  simp only [List.map_toArray, hev, D.val_cells z hzf, i1, Sem.run_pure, Result.andThen_ok, D.val_agg d hagd]

end
end Gx
end Go.Proofs.Ytebcapplclgaead
