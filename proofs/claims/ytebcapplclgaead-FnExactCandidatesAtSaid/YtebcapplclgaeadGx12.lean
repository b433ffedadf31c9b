/- Slices as values: slices that are read (nil or not), slices that the call owns; turning several entries at once; calls that hand back or turn such slices. No conditions but those in the statements. -/
import Derived.Test.YtebcapplclgaeadGx10
import Derived.Test.YtebcapplclgaeadGx11
namespace Go.Proofs.Ytebcapplclgaead
open Go
namespace Gx
open Go.RowKit (Below)
set_option linter.unusedVariables false

/-! ### Entries turned -/
theorem wkeys_flat : ∀ l : List Ent, wkeys l = l.flatMap Ent.wkey
  | [] => rfl
  | e :: r => by simp [wkeys, wkeys_flat r]
theorem rkeys_flat : ∀ l : List Ent, rkeys l = l.flatMap Ent.rkey
  | [] => rfl
  | e :: r => by simp [rkeys, rkeys_flat r]
theorem wkeys_perm {a b : List Ent} (h : a.Perm b) : (wkeys a).Perm (wkeys b) := by
  rw [wkeys_flat, wkeys_flat]; exact h.flatMap_right _
theorem rkeys_perm {a b : List Ent} (h : a.Perm b) : (rkeys a).Perm (rkeys b) := by
  rw [rkeys_flat, rkeys_flat]; exact h.flatMap_right _
theorem HpOk.perm {a b : List Ent} {w : World} (h : HpOk a w) (p : a.Perm b) : HpOk b w :=
  ⟨fun e he => h.all e (p.symm.subset he), (wkeys_perm p).nodup_iff.1 h.nodup, fun k hk hk' => h.apart k ((rkeys_perm p).symm.subset hk) ((wkeys_perm p).symm.subset hk')⟩
theorem HpRep.perm {e e' : Ent} {hp hp' : List Ent} (h : HpRep e e' hp hp') : ∃ R, hp.Perm (e :: R) ∧ hp'.Perm (e' :: R) := by
  obtain ⟨l, r, rfl, rfl⟩ := h.split
  exact ⟨l ++ r, List.perm_middle, List.perm_middle⟩
inductive HpDel (e : Ent) : List Ent → List Ent → Prop
  | head {r : List Ent} : HpDel e (e :: r) r
  | tail {x : Ent} {r r' : List Ent} (h : HpDel e r r') : HpDel e (x :: r) (x :: r')
theorem HpDel.perm {e : Ent} {hp hp' : List Ent} (h : HpDel e hp hp') : hp.Perm (e :: hp') := by
  induction h with
  | head => exact .refl _
  | tail _ ih => exact (List.Perm.cons _ ih).trans (.swap _ _ _)

theorem HpOk.turn {A B R : List Ent} {w w' : World} (h : HpOk (A ++ R) w) (hB : ∀ e ∈ B, e.ok w') (hnd : (wkeys B).Nodup) (hrB : rkeys B = []) (hw : ∀ k, k < w.heap.size → k ∉ wkeys A → w'.heap[k]? = w.heap[k]?)
    (hb : ∀ k ∈ wkeys B, k ∈ wkeys A ∨ w.heap.size ≤ k) : HpOk (B ++ R) w' := by
  have hnd0 := h.nodup
  have hap := h.apart
  rw [wkeys_append, List.nodup_append] at hnd0
  have hRall : ∀ e ∈ R, e.ok w' := fun e he => by
    refine Ent.ok_of_blocks (h.all e (by simp [he])) fun k hk hlt => hw k hlt fun hkA => ?_
    rcases hk with hk | hk
    · exact hnd0.2.2 k hkA k (mem_wkeys.2 ⟨e, he, hk⟩) rfl
    · exact hap k (by rw [rkeys_append]; exact List.mem_append_right _ (mem_rkeys.2 ⟨e, he, hk⟩)) (by rw [wkeys_append]; exact List.mem_append_left _ hkA)
  refine ⟨fun e he => ?_, ?_, fun k hk hk' => ?_⟩
  · rcases List.mem_append.1 he with he | he
    · exact hB e he
    · exact hRall e he
  · rw [wkeys_append, List.nodup_append]
    refine ⟨hnd, hnd0.2.1, fun x hx y hy => ?_⟩
    rintro rfl
    rcases hb x hx with h1 | h1
    · exact hnd0.2.2 x h1 x hy rfl
    · have := h.key_lt (b := x) (by rw [wkeys_append]; exact List.mem_append_right _ hy)
      omega
  · rw [rkeys_append, hrB, List.nil_append] at hk
    have hkr : k ∈ rkeys (A ++ R) := by rw [rkeys_append]; exact List.mem_append_right _ hk
    rw [wkeys_append, List.mem_append] at hk'
    rcases hk' with hk' | hk'
    · rcases hb k hk' with h1 | h1
      · exact hap k hkr (by rw [wkeys_append]; exact List.mem_append_left _ h1)
      · obtain ⟨e, he, hek⟩ := mem_rkeys.1 hkr
        have := Ent.rkey_lt (h.all e he) k hek
        omega
    · exact hap k hkr (by rw [wkeys_append]; exact List.mem_append_right _ hk')

theorem ok.turn {E : Env} {s : St} {a : Act} {w w' : World} (h : ok E s a w) {A B R hp' : List Ent} (p : s.hp.Perm (A ++ R)) (p' : hp'.Perm (B ++ R)) (hB : ∀ e ∈ B, e.ok w') (hnd : (wkeys B).Nodup) (hrB : rkeys B = [])
    (hw : ∀ k, k < w.heap.size → k ∉ wkeys A → w'.heap[k]? = w.heap[k]?) (hb : ∀ k ∈ wkeys B, k ∈ wkeys A ∨ w.heap.size ≤ k) (hos : w'.os = w.os) (htape : w'.tape = w.tape) (hout : w'.output = w.output) (hsz : w.heap.size ≤ w'.heap.size) :
    ok E ⟨s.tm, hp'⟩ a w' := by
  have hown : ∀ k, k ∈ wkeys A → k ∈ E.B0 ∨ E.w0.heap.size ≤ k := fun k hk => h.fr.own k ((wkeys_perm p).symm.subset (by rw [wkeys_append]; exact List.mem_append_left _ hk))
  refine ⟨h.size, h.defers, h.tm, ((h.hp.perm p).turn hB hnd hrB hw hb).perm p'.symm, ⟨hos.trans h.fr.os, htape.trans h.fr.tape, hout.trans h.fr.output, Nat.le_trans h.fr.size hsz, fun k hk1 hk2 => ?_, fun x hx => ?_⟩⟩
  · rw [hw k (Nat.lt_of_lt_of_le hk1 h.fr.size) ?_]
    · exact h.fr.block k hk1 hk2
    · intro hkA
      rcases hown k hkA with h1 | h1
      · exact hk2 h1
      · omega
  · have hx' := (wkeys_perm p').subset hx
    rw [wkeys_append, List.mem_append] at hx'
    rcases hx' with hx' | hx'
    · rcases hb x hx' with h1 | h1
      · exact hown x h1
      · exact .inr (Nat.le_trans h.fr.size h1)
    · exact h.fr.own x ((wkeys_perm p).symm.subset (by rw [wkeys_append]; exact List.mem_append_right _ hx'))

/-! ### Slices as values -/
def sblk : Value → List Nat
  | .slice (some a) _ _ => [a.block]
  | _ => []
def ptrAt (v : Value) (n : Nat) : Value := match v with
  | .slice (some a) _ _ => .pointer (some ⟨a.block, a.off + n, none⟩)
  | _ => .pointer none
theorem ptrAt_one (v : Value) (n : Nat) : (ptrAt v n).oneCell' = true := by unfold ptrAt; split <;> rfl
theorem sblk_nodup (v : Value) : (sblk v).Nodup := by unfold sblk; split <;> simp
theorem sblk_own (v : Value) (k : Nat) : k ∈ sblk v ↔ v.ownBlock = some k := by
  unfold sblk Value.ownBlock
  split <;> simp [eq_comm]

/-- v is a slice that reads r. -/
def RdP (v : Value) (r : Rw) (w : World) : Prop :=
  (v = .slice none 0 0 ∧ r.len = 0) ∨ ∃ a cap, v = .slice (some a) r.len cap ∧ (r.cells ≠ [] → a.spot = none) ∧ ∀ j u, r.cells[j]? = some u → w.cell? ⟨a.block, a.off + j, none⟩ = some u
def rdK (v : Value) (r : Rw) : List Nat := match r.cells with
  | [] => []
  | _ => sblk v
theorem cell_lt {w : World} {a : Addr} {u : Value} (h : w.cell? a = some u) : a.block < w.heap.size := by
  unfold World.cell? at h
  split at h
  · rename_i hc; exact (Array.getElem?_eq_some_iff.1 hc).1
  · cases h
theorem rdK_lt {v : Value} {r : Rw} {w : World} (h : RdP v r w) : ∀ k ∈ rdK v r, k < w.heap.size := by
  intro k hk
  unfold rdK at hk
  cases hc : r.cells with
  | nil => rw [hc] at hk; cases hk
  | cons x l =>
    rw [hc] at hk
    rcases h with ⟨rfl, _⟩ | ⟨a, cap, rfl, _, h2⟩
    · cases hk
    · simp only [sblk, List.mem_singleton] at hk
      subst hk
      have h3 := cell_lt (h2 0 x (by rw [hc]; rfl))
      exact h3
theorem RdP.stays {v : Value} {r : Rw} {w w' : World} (h : RdP v r w) (hb : ∀ k, (k ∈ ([] : List Nat) ∨ k ∈ rdK v r) → k < w.heap.size → w'.heap[k]? = w.heap[k]?) : RdP v r w' := by
  rcases h with h | ⟨a, cap, rfl, h1, h2⟩
  · exact .inl h
  · refine .inr ⟨a, cap, rfl, h1, fun j u hu => ?_⟩
    have hc := h2 j u hu
    have hlt := cell_lt hc
    have hk : a.block ∈ rdK (.slice (some a) r.len cap) r := by
      unfold rdK
      cases hr : r.cells with
      | nil => rw [hr] at hu; simp at hu
      | cons x l => simp [sblk]
    rw [World.cell?_of_block (a := ⟨a.block, a.off + j, none⟩) (hb a.block (.inr hk) hlt)]
    exact hc
def rd (v : Value) (r : Rw) : Ent := .any [] (rdK v r) (RdP v r) (fun _ _ h hb => h.stays hb) (fun _ h k hk => rdK_lt h k (hk.resolve_left (by simp)))

def OwnP (v : Value) (EE : Nat) (r : Rw) (w : World) : Prop := w.ownsRow 0 EE r.size v r.len r.cells
theorem OwnP.stays {v : Value} {EE : Nat} {r : Rw} {w w' : World} (h : OwnP v EE r w) (hb : ∀ k ∈ sblk v, k < w.heap.size → w'.heap[k]? = w.heap[k]?) : OwnP v EE r w' := by
  refine ⟨h.1, ?_⟩
  rcases h.2 with h1 | ⟨g, c, cur, rfl, h0, hg, rest⟩
  · exact .inl h1
  · exact .inr ⟨g, c, cur, rfl, h0, by rw [hb g (by simp [sblk]) (Array.getElem?_eq_some_iff.1 hg).1]; exact hg, rest⟩
theorem OwnP.lt {v : Value} {EE : Nat} {r : Rw} {w : World} (h : OwnP v EE r w) : ∀ k ∈ sblk v, k < w.heap.size := fun k hk => (World.ownsRow.lt h k ((sblk_own v k).1 hk)).2
def own (v : Value) (EE : Nat) (r : Rw) : Ent := .any (sblk v) [] (OwnP v EE r) (fun _ _ h hb => h.stays fun k hk => hb k (.inl hk)) (fun _ h k hk => h.lt k (hk.resolve_right (by simp)))
theorem OwnP.rd {v : Value} {EE : Nat} {r : Rw} {w : World} (h : OwnP v EE r w) : RdP v r w := by
  rcases h.2 with ⟨h1, h2⟩ | ⟨g, c, cur, rfl, h0, hg, rest⟩
  · exact .inl ⟨h1, h2⟩
  · refine .inr ⟨_, _, rfl, fun _ => rfl, fun j u hu => ?_⟩
    have := World.ownsRow.cells (g := g) h rfl j u hu
    rwa [Addr.add_at] at this

/-- What is known of a slice that is read. -/
def Rds (s : St) (v : Value) (r : Rw) : Prop := ∀ w, HpOk s.hp w → RdP v r w
theorem Rds.rd {s : St} {v : Value} {r : Rw} (m : Gx.rd v r ∈ s.hp) : Rds s v r := fun w h => h.all _ m
theorem Rds.own {s : St} {v : Value} {EE : Nat} {r : Rw} (m : Gx.own v EE r ∈ s.hp) : Rds s v r := fun w h => OwnP.rd (h.all _ m)

section
variable {E : Env} {s : St} {dst : Option Nat} {ty : TypeId} {ps : String} {af : Array Edge} {gd : Option (Nat × Bool)} {k : Nat} {K : St → Prop}
theorem q_lenR {x : Operand} {v : Value} {hv : v.oneCell' = true} {r : Rw} {T el : Nat} {sz by_ : Nat} {z : D} {aty : Array TypeId} (haty : aty = #[T]) (ht : E.tt T = some ⟨.slice el, sz, by_, z⟩) (hx : ev s x = some (.raw v hv)) (hr : Rds s v r) :
    Qt E ⟨dst, .call { callee := .builtin .len, args := #[x], argTypes := aty }, ty, ps, af, gd⟩ s (.int .i64 (r.len : Int)) := qt_of fun c w ho => by
  subst haty
  obtain ⟨d, hd, hm⟩ := tt_underlying ht
  simp only [TD.met] at hm
  subst hm
  rcases hr w ho.hp with ⟨rfl, h0⟩ | ⟨a, cap, rfl, _, _⟩
  · simp [execOp, resolve, invoke, builtin, ho.ev hx, D.val, Builtin.len_, run_underlying hd, goInt, h0]
  · simp [execOp, resolve, invoke, builtin, ho.ev hx, D.val, Builtin.len_, run_underlying hd, goInt]

theorem cells_ne {r : Rw} {j : Nat} (hj : j < r.len) (hs : Nat.beq r.size 0 = false) : r.cells ≠ [] := by
  intro h
  have := r.length_cells
  rw [h, List.length_nil] at this
  have h2 : 0 < r.len * r.size := Nat.mul_pos (by omega) (Nat.pos_of_ne_zero fun e => by rw [e] at hs; cases hs)
  omega

theorem q_ixR {x y : Operand} {v : Value} {hv : v.oneCell' = true} {r : Rw} {T el : Nat} {kk : IntKind} {i : Int} {sz by_ : Nat} {z : D} {ei : TI} (j : Nat) (ht : E.tt T = some ⟨.slice el, sz, by_, z⟩) (h3 : E.tt el = some ei) (hx : ev s x = some (.raw v hv)) (hr : Rds s v r)
    (hy : evI s y = some (kk, i)) (hj : i = (j : Int)) (hi : j < r.len) (hsz : Nat.beq r.size 0 = false) : Qt E ⟨dst, .indexAddr T x y, ty, ps, af, gd⟩ s (.raw (ptrAt v (mulS j ei.size)) (ptrAt_one _ _)) := qt_of fun c w ho => by
  subst hj
  obtain ⟨d, hd, hm⟩ := tt_underlying ht
  simp only [TD.met] at hm
  subst hm
  obtain ⟨x', hx', hs', _⟩ := tt_info h3
  have h1 : (0 : Int) ≤ (j : Int) := Int.natCast_nonneg j
  rcases hr w ho.hp with ⟨rfl, h0⟩ | ⟨a, cap, rfl, hs, _⟩
  · omega
  · have h2 : (j : Int) < (r.len : Int) := by omega
    have hsp := hs (cells_ne hi hsz)
    obtain ⟨b, o, sp⟩ := a
    simp only at hsp
    subst hsp
    simp [execOp, ho.ev hx, ho.t.evI hy, D.val, Instr.indexAt, asIntOf, run_underlying hd, hi, sizeOf, typeInfo, hx', hs', Addr.add_at, mulS_eq, ptrAt]

theorem q_loadR {x : Operand} {v : Value} {e T j : Nat} {hv : (ptrAt v e).oneCell' = true} {i : TI} {r : Rw} {d : D} {C : Prop} (ht : E.tt T = some i) (hx : ev s x = some (.raw (ptrAt v e) hv)) (hr : Rds s v r) (he : e = mulS j i.size) (hs : r.at j = some (C, d)) (hC : C)
    (h2 : r.size = i.size) (h3 : r.agB = i.td.ag) (hz : Nat.beq r.size 0 = false) : Qt E ⟨dst, .load T x, ty, ps, af, gd⟩ s d := qt_of fun c w ho => by
  rw [mulS_eq] at he
  obtain ⟨⟨l1, l2, l3, l4⟩, hj⟩ := Rw.at_lies hs hC
  rcases hr w ho.hp with ⟨rfl, h0⟩ | ⟨a, cap, rfl, hsp, hrow⟩
  · omega
  · have := run_loadAt_cells E.P w T a.block (a.off + e) d (E.tok T i ht) (fun q hq => by
      rw [← h2] at hq
      have h5 := l1 q hq
      have hlt : q < d.cells.length := by rw [D.length_cells, l2]; exact hq
      rw [List.getElem?_eq_getElem hlt] at h5 ⊢
      have h6 := hrow _ _ h5
      rw [show (a.off + e + q) = a.off + (j * r.size + q) by rw [he, h2]; omega]
      exact h6) (by rw [l2, h2]) (by rw [l3, h3]) l4
    simp [execOp, ho.ev hx, D.val, ptrAt, this]

theorem RdP_of_row {b cap EE : Nat} {r : Rw} {w : World} (h : (Ent.row b cap EE r).ok w) : RdP (.slice (some ⟨b, 0, none⟩) r.len cap) r w := OwnP.rd (v := .slice (some ⟨b, 0, none⟩) r.len cap) (EE := EE) h

theorem Rds.row {s : St} {b cap EE n : Nat} {r : Rw} (m : Ent.row b cap EE r ∈ s.hp) (hn : n = r.len) : Rds s (.slice (some ⟨b, 0, none⟩) n cap) r := fun w h => by subst hn; exact RdP_of_row (h.all _ m)

/-- A store into a slice of the call's own. -/
theorem x_storeO {T e EE : Nat} {v : Value} {hv : (ptrAt v e).oneCell' = true} {x y : Operand} {i : TI} {r r' : Rw} {nw : D} {hp' : List Ent} (ht : E.tt T = some i) (hx : ev s x = some (.raw (ptrAt v e) hv)) (hy : ev s y = some nw) (hf : nw.flat = true) (hs : nw.size = i.size)
    (hr : HpRep (own v EE r) (own v EE r') s.hp hp') (hin : e + nw.size ≤ r.len * r.size) (hpos : 0 < nw.size) (hset : r'.cells = spl r.cells e nw.cells) (hlen : r'.len = r.len) (hsz : r'.size = r.size) (h : K ⟨s.tm, hp'⟩) : Xt E ⟨none, .store T x y, ty, ps, af, none⟩ s K := xt_skip fun a w ho => by
  have hrow : OwnP v EE r w := ho.hp.all _ hr.mem
  rcases hrow.2 with ⟨_, h0⟩ | ⟨b, cap, cur0, rfl, _, _, _⟩
  · rw [h0, Nat.zero_mul] at hin; omega
  obtain ⟨cur, hg, hc, how⟩ := ownsRow_store (new := nw.cells) (at_ := e) hrow (by rw [D.length_cells]; exact hin)
  have hT := E.tok T i ht
  have hi := hT.2.1
  have hrun : (Instr.storeAt T (.pointer (some ⟨b, e, none⟩)) nw.val).run E.P w = .ok () (w.setRow b (spl cur.toList e nw.cells).toArray) := by
    cases hx : E.P.info? T with
    | none => simp [hx] at hi
    | some x =>
      simp [hx] at hi
      have hl : nw.cells.length = x.size := by rw [D.length_cells, hs, hi.1]
      have := run_storeCells_at (P := E.P) b e EE nw.cells 0 cur w hg (by simpa using hc) (D.oneCell nw)
      simp only [Nat.add_zero] at this
      simp [Instr.storeAt, Instr.sureAddr, storeVar, sizeOf, typeInfo, hx, D.val_cells nw hf, hl, this, spl]
  obtain ⟨R, p1, p2⟩ := hr.perm
  refine ⟨w.setRow b (spl cur.toList e nw.cells).toArray, ?_, _, h, ho.turn (A := [_]) (B := [_]) p1 p2 ?_ ?_ rfl (fun q _ hq => setRow_other w b q _ (by simpa [wkeys, own, Ent.wkey, sblk] using hq)) (fun q hq => .inl hq) rfl rfl rfl (by simp)⟩
  · have e1 : (execOp a.eval ⟨none, .store T x y, ty, ps, af, none⟩) = (do Instr.storeAt T (a.eval x) (a.eval y); pure .skip) := rfl
    rw [e1, ho.ev hx, ho.ev hy]
    simp only [D.val, ptrAt, Sem.run_bind, Nat.zero_add, hrun, Result.andThen_ok, Sem.run_pure]
  · intro en hen
    rw [List.mem_singleton.1 hen]
    show OwnP _ _ _ _
    unfold OwnP
    rw [hset, hlen, hsz]
    exact how
  · simp [wkeys, own, Ent.wkey, sblk]

end

/-! ### Calls that turn memory -/
inductive HpDels : List Ent → List Ent → List Ent → Prop
  | nil {hp : List Ent} : HpDels [] hp hp
  | cons {a : Ent} {A hp h1 R : List Ent} (h : HpDel a hp h1) (hr : HpDels A h1 R) : HpDels (a :: A) hp R
theorem HpDels.perm {A hp R : List Ent} (h : HpDels A hp R) : hp.Perm (A ++ R) := by
  induction h with
  | nil => exact .refl _
  | cons h _ ih => exact h.perm.trans (.cons _ ih)
/-- What is read beside: known out of R, of R's blocks. -/
structure Vw (R need : List Ent) : Prop where
  v : View R need
  k : ∀ b ∈ rkeys need, b ∈ wkeys R ∨ b ∈ rkeys R
  w : wkeys need = []
theorem Vw.none (R : List Ent) : Vw R [] := ⟨View.none _, by simp [rkeys], rfl⟩
theorem Vw.refl {R : List Ent} (h : wkeys R = []) : Vw R R := ⟨View.refl _, fun _ h => .inr h, h⟩
theorem Vw.tail {R need : List Ent} {e : Ent} (h : Vw R need) : Vw (e :: R) need := ⟨View.tail h.v, fun b hb => (h.k b hb).imp (fun h => List.mem_append_right _ h) (fun h => List.mem_append_right _ h), h.w⟩
theorem Vw.one {R : List Ent} {e x : Ent} (m : x ∈ R) (hw : e.wkey = []) (hk : ∀ b ∈ e.rkey, b ∈ x.wkey ∨ b ∈ x.rkey) (h : ∀ w, x.ok w → e.ok w) : Vw R [e] :=
  ⟨View.one (by show e.wkey ++ [] = []; rw [hw]; rfl) fun w hh => h w (hh.all _ m), fun b hb => by
    have hb' : b ∈ e.rkey := by simpa [rkeys] using hb
    exact (hk b hb').imp (fun h => mem_wkeys.2 ⟨x, m, h⟩) (fun h => mem_rkeys.2 ⟨x, m, h⟩), by show e.wkey ++ [] = []; rw [hw]; rfl⟩
theorem Vw.cons {R need : List Ent} {e : Ent} (h1 : Vw R [e]) (h2 : Vw R need) : Vw R (e :: need) := by
  refine ⟨View.cons h1.v h2.v h1.w h2.w, fun b hb => ?_, ?_⟩
  · rcases List.mem_append.1 (show b ∈ e.rkey ++ rkeys need from hb) with hb | hb
    · exact h1.k b (List.mem_append_left _ hb)
    · exact h2.k b hb
  · have e1 : e.wkey ++ [] = [] := h1.w
    show e.wkey ++ wkeys need = []
    rw [h2.w]; exact e1
theorem Vw.var {R : List Ent} {b : Nat} {d : D} (m : Ent.var b d ∈ R) : Vw R [.rvar b d] := Vw.one m rfl (fun k hk => .inl hk) fun w h => h
theorem Vw.rvar {R : List Ent} {b : Nat} {d : D} (m : Ent.rvar b d ∈ R) : Vw R [.rvar b d] := Vw.one m rfl (fun k hk => .inr hk) fun w h => h
theorem Vw.ro {R : List Ent} {b off : Nat} {r : Rw} (m : Ent.ro b off r ∈ R) : Vw R [.ro b off r] := Vw.one m rfl (fun k hk => .inr hk) fun w h => h
theorem Vw.row {R : List Ent} {b cap EE : Nat} {r : Rw} (m : Ent.row b cap EE r ∈ R) : Vw R [.ro b 0 r] := Vw.one m rfl (fun k hk => .inl hk) fun w hrow => by
  have hrow : w.ownsRow 0 EE r.size (.slice (some ⟨b, 0, Option.none⟩) r.len cap) r.len r.cells := hrow
  refine ⟨(World.ownsRow.lt hrow b rfl).2, fun j v hj => ?_⟩
  have hl : j < r.cells.length := (List.getElem?_eq_some_iff.1 hj).1
  have := World.ownsRow.cellAt hrow j (by rw [← Rw.length_cells]; exact hl)
  rw [hj] at this
  simpa using this
theorem rdK_sub {v : Value} {r : Rw} : ∀ b ∈ rdK v r, b ∈ sblk v := by
  intro b hb
  unfold rdK at hb
  split at hb
  · cases hb
  · exact hb
theorem Vw.rd {R : List Ent} {v : Value} {r : Rw} (m : Gx.rd v r ∈ R) : Vw R [Gx.rd v r] := Vw.one m rfl (fun k hk => .inr hk) fun w h => h
theorem Vw.rdO {R : List Ent} {v : Value} {EE : Nat} {r : Rw} (m : own v EE r ∈ R) : Vw R [Gx.rd v r] := Vw.one m rfl (fun k hk => .inl (rdK_sub k hk)) fun w h => OwnP.rd (v := v) (EE := EE) h
theorem Vw.rdW {R : List Ent} {b cap EE n : Nat} {r : Rw} (m : Ent.row b cap EE r ∈ R) (hn : n = r.len) : Vw R [Gx.rd (.slice (some ⟨b, 0, Option.none⟩) n cap) r] := by
  subst hn
  exact Vw.one m rfl (fun k hk => .inl (rdK_sub k hk)) fun w h => RdP_of_row h

/-- From A (that may be turned) and what else is needed: for some x, dd x is handed back and BB x stands for A; nothing else that was has turned. -/
def CT {X : Type} (P : Program) (f : FuncId) (args : Array Value) (A need : List Ent) (okX : X → Prop) (dd : X → D) (BB : X → List Ent) : Prop := ∀ w, HpOk (A ++ need) w →
  Calls P f args w (fun e w' => ∃ x, okX x ∧ e = .returned (dd x).val ∧ HpOk (BB x) w' ∧ rkeys (BB x) = [] ∧ w'.os = w.os ∧ w'.tape = w.tape ∧ w'.output = w.output ∧ w.heap.size ≤ w'.heap.size ∧
    (∀ q, q < w.heap.size → q ∉ wkeys A → w'.heap[q]? = w.heap[q]?) ∧ ∀ q ∈ wkeys (BB x), q ∈ wkeys A ∨ w.heap.size ≤ q)

section
variable {E : Env} {s : St} {dst : Option Nat} {ty : TypeId} {ps : String} {af : Array Edge} {gd : Option (Nat × Bool)} {k : Nat} {K : St → Prop} {X : Type}
theorem HpOk.need {A R need : List Ent} {w : World} (h : HpOk (A ++ R) w) (hv : Vw R need) : HpOk (A ++ need) w := by
  have hnd := h.nodup
  rw [wkeys_append, List.nodup_append] at hnd
  have hR : HpOk R w := ⟨fun e he => h.all e (by simp [he]), hnd.2.1, fun b hb hb' => h.apart b (by rw [rkeys_append]; exact List.mem_append_right _ hb) (by rw [wkeys_append]; exact List.mem_append_right _ hb')⟩
  have hn := hv.v w hR
  refine ⟨fun e he => ?_, ?_, fun b hb hb' => ?_⟩
  · rcases List.mem_append.1 he with he | he
    · exact h.all e (by simp [he])
    · exact hn.all e he
  · rw [wkeys_append, hv.w, List.append_nil]; exact hnd.1
  · rw [wkeys_append, hv.w, List.append_nil] at hb'
    rw [rkeys_append, List.mem_append] at hb
    rcases hb with hb | hb
    · exact h.apart b (by rw [rkeys_append]; exact List.mem_append_left _ hb) (by rw [wkeys_append]; exact List.mem_append_left _ hb')
    · rcases hv.k b hb with h1 | h1
      · exact hnd.2.2 b hb' b h1 rfl
      · exact h.apart b (by rw [rkeys_append]; exact List.mem_append_right _ h1) (by rw [wkeys_append]; exact List.mem_append_left _ hb')

theorem CT.at {f : FuncId} {args : Array Value} {A need R : List Ent} {okX : X → Prop} {dd : X → D} {BB : X → List Ent} {hp' : X → List Ent} (hc : CT E.P f args A need okX dd BB)
    (hd : HpDels A s.hp R) (hv : Vw R need) (hi : ∀ x, HpDels (BB x) (hp' x) R) {a : Act} {w : World} (ho : ok E s a w) :
    Calls E.P f args w (fun e w' => ∃ x, okX x ∧ e = .returned (dd x).val ∧ ok E ⟨s.tm, hp' x⟩ a w') := by
  refine (hc w ((ho.hp.perm hd.perm).need hv)).mono ?_
  rintro e w' ⟨x, h0, h1, h2, h3, h4, h5, h6, h7, h8, h9⟩
  exact ⟨x, h0, h1, ho.turn hd.perm (hi x).perm h2.all h2.nodup h3 h8 h9 h4 h5 h6 h7⟩

theorem x_callT {f : FuncId} {xs : List Operand} {tys : Array TypeId} {ds : List D} {A need R : List Ent} {okX : X → Prop} {dd : X → D} {BB : X → List Ent} {hp' : X → List Ent} (hen : Enters E.P f) (hx : evs s xs = some ds) (hc : CT E.P f (vals ds) A need okX dd BB)
    (hd : HpDels A s.hp R) (hv : Vw R need) (hi : ∀ x, HpDels (BB x) (hp' x) R) (hk : k < E.n) (h : ∀ x, okX x → K ⟨(k, dd x) :: s.tm, hp' x⟩) : Xt E ⟨some k, .call { callee := .value (.func f), args := xs.toArray, argTypes := tys }, ty, ps, af, gd⟩ s K := fun a w ho Kw Q hKw => by
  have ef : a.eval (.func f) = .func (.func f) #[] #[] := rfl
  have hrun : (execOp a.eval ⟨some k, .call { callee := .value (.func f), args := xs.toArray, argTypes := tys }, ty, ps, af, gd⟩).run E.P w = .ok (.enter f (vals ds)) w := by
    simp [execOp, resolve, ef, Deferred.ofValue, invoke, ho.evs hx, vals]
    exact hen _ w
  unfold Oper.wp
  rw [hrun]
  simp only [Oper.upon_enter]
  refine (hc.at hd hv hi ho).mono ?_
  rintro en w' ⟨x, h0, rfl, h2⟩
  exact hKw _ _ _ (h x h0) (h2.put (d := dd x) hk)

theorem x_callvT {f : FuncId} {y : Operand} {first cap : Array Value} {hh : (Value.func (.func f) first cap).oneCell' = true} {xs : List Operand} {tys : Array TypeId} {ds : List D} {A need R : List Ent} {okX : X → Prop} {dd : X → D} {BB : X → List Ent} {hp' : X → List Ent} (hen : Enters E.P f)
    (hf : ev s y = some (.raw (.func (.func f) first cap) hh)) (hx : evs s xs = some ds) (hc : CT E.P f (first ++ vals ds ++ cap) A need okX dd BB)
    (hd : HpDels A s.hp R) (hv : Vw R need) (hi : ∀ x, HpDels (BB x) (hp' x) R) (hk : k < E.n) (h : ∀ x, okX x → K ⟨(k, dd x) :: s.tm, hp' x⟩) : Xt E ⟨some k, .call { callee := .value y, args := xs.toArray, argTypes := tys }, ty, ps, af, gd⟩ s K := fun a w ho Kw Q hKw => by
  have hrun : (execOp a.eval ⟨some k, .call { callee := .value y, args := xs.toArray, argTypes := tys }, ty, ps, af, gd⟩).run E.P w = .ok (.enter f (first ++ vals ds ++ cap)) w := by
    simp [execOp, resolve, ho.ev hf, D.val, Deferred.ofValue, invoke, ho.evs hx, vals]
    exact hen _ w
  unfold Oper.wp
  rw [hrun]
  simp only [Oper.upon_enter]
  refine (hc.at hd hv hi ho).mono ?_
  rintro en w' ⟨x, h0, rfl, h2⟩
  exact hKw _ _ _ (h x h0) (h2.put (d := dd x) hk)
end

/-- What the entries B can be taken for, out of those at hand. -/
inductive TakeL : List Ent → List Ent → Prop
  | nil {hp : List Ent} : TakeL [] hp
  | cons {b x : Ent} {B hp h1 : List Ent} (h : HpDel x hp h1) (hw : b.wkey = x.wkey) (hok : ∀ w, x.ok w → b.ok w) (hr : TakeL B h1) : TakeL (b :: B) hp
  | free {b : Ent} {B hp : List Ent} (hw : b.wkey = []) (hok : ∀ w, b.ok w) (hr : TakeL B hp) : TakeL (b :: B) hp
theorem TakeL.keys {B hp : List Ent} (h : TakeL B hp) : ∃ R, (wkeys hp).Perm (wkeys B ++ R) := by
  induction h with
  | nil => exact ⟨_, .refl _⟩
  | @cons b x B hp h1 h hw hok _ ih =>
    obtain ⟨R, p⟩ := ih
    refine ⟨R, (wkeys_perm h.perm).trans ?_⟩
    simp only [wkeys, ← hw, List.append_assoc]
    exact .append_left _ p
  | @free b B hp hw hok _ ih =>
    obtain ⟨R, p⟩ := ih
    exact ⟨R, by simpa only [wkeys, hw, List.nil_append] using p⟩
theorem TakeL.ok {B hp : List Ent} (h : TakeL B hp) {w : World} : (∀ e ∈ hp, e.ok w) → ∀ e ∈ B, e.ok w := by
  induction h with
  | nil => intro _ e he; cases he
  | @cons b x B hp h1 h hw hok _ ih =>
    intro ha e he
    rcases List.mem_cons.1 he with rfl | he
    · exact hok w (ha x (h.perm.symm.subset (by simp)))
    · exact ih (fun y hy => ha y (h.perm.symm.subset (by simp [hy]))) e he
  | @free b B hp hw hok _ ih =>
    intro ha e he
    rcases List.mem_cons.1 he with rfl | he
    · exact hok w
    · exact ih ha e he

theorem CT_intro {X : Type} {P : Program} (tt : Nat → Option TI) (tok : ∀ t i, tt t = some i → i.met P t) {f : FuncId} {fn : Func} {c : Code} {rs : List ResultVar} {ds : List D} {A need : List Ent} {okX : X → Prop} {dd : X → D} {BB : X → List Ent} (hf : P.funcs[f]? = some fn) (hb : fn.body = some c)
    (hr : fn.results = rs.toArray) (hn : Nat.ble ds.length fn.ntmps = true) (hw : wkeys need = [])
    (h : ∀ w, W ⟨P, tt, tok, fn.ntmps, w, wkeys A⟩ c (retQ fun s => ∃ ds', ResL ⟨P, tt, tok, fn.ntmps, w, wkeys A⟩ s rs ds' ∧ ∃ x, okX x ∧ (resD ds').val = (dd x).val ∧ TakeL (BB x) s.hp ∧ rkeys (BB x) = []) ⟨tmOf 0 ds, A ++ need⟩) : CT P f (vals ds) A need okX dd BB := fun w hh => by
  have hkeys : wkeys (A ++ need) = wkeys A := by rw [wkeys_append, hw, List.append_nil]
  refine calls_of_wp hf hb (wp_mono ((h w).out _ w (ok_enter (by simpa using hn) hh (wkeys A) (by rw [hkeys]; exact fun _ h => h))) ?_)
  rintro ex a w' ⟨s', q, o⟩
  have fin : (∃ ds', ResL ⟨P, tt, tok, fn.ntmps, w, wkeys A⟩ s' rs ds' ∧ ∃ x, okX x ∧ (resD ds').val = (dd x).val ∧ TakeL (BB x) s'.hp ∧ rkeys (BB x) = []) → bodyPost P fn (fun e w' => ∃ x, okX x ∧ e = .returned (dd x).val ∧ HpOk (BB x) w' ∧ rkeys (BB x) = [] ∧ w'.os = w.os ∧ w'.tape = w.tape ∧ w'.output = w.output ∧ w.heap.size ≤ w'.heap.size ∧
    (∀ q, q < w.heap.size → q ∉ wkeys A → w'.heap[q]? = w.heap[q]?) ∧ ∀ q ∈ wkeys (BB x), q ∈ wkeys A ∨ w.heap.size ≤ q) .normal a w' := by
    rintro ⟨ds', h1, x, h0, h2, h3, h4⟩
    obtain ⟨R, hp⟩ := h3.keys
    refine ⟨o.defers, _, results_run o hr h1, x, h0, by rw [h2], ⟨h3.ok o.hp.all, ?_, fun b hb => by rw [h4] at hb; cases hb⟩, h4, o.fr.os, o.fr.tape, o.fr.output, o.fr.size, fun j hj hne => o.fr.block j hj hne, fun q hq => o.fr.own q (hp.symm.subset (List.mem_append_left _ hq))⟩
    exact (List.nodup_append.1 (hp.nodup_iff.1 o.hp.nodup)).1
  cases ex with
  | normal => exact fin q
  | ret => exact fin q
  | exit id => exact q.elim
  | goto l => exact q.elim
  | panic ch => exact q.elim
  | outgrown => exact q.elim

/-- A slice as a value. -/
abbrev V1 := { v : Value // v.oneCell' = true }
def rawv (v : V1) : D := .raw v.1 v.2
theorem own_of_row {b cap EE n : Nat} {r r' : Rw} (hn : n = r.len) (h : r = r') : ∀ w, (Ent.row b cap EE r).ok w → (own (.slice (some ⟨b, 0, none⟩) n cap) EE r').ok w := by
  subst h; subst hn; exact fun w h => h
theorem own_eq {v : Value} {EE : Nat} {r r' : Rw} (h : r = r') : ∀ w, (own v EE r).ok w → (own v EE r').ok w := by
  subst h; exact fun w h => h
theorem own_nil {EE : Nat} {r : Rw} (h1 : r.len = 0) (h2 : r.cells = []) : ∀ w, (own (.slice none 0 0) EE r).ok w := fun w => by
  show OwnP _ _ _ _
  unfold OwnP
  rw [h1, h2]
  exact World.ownsRow_nil _ _ _ _
theorem var_eq {b : Nat} {d d' : D} (h : d.cells = d'.cells) (hf : d'.flat = true) : ∀ w, (Ent.var b d).ok w → (Ent.var b d').ok w := imp_var h hf
/-- A call that only reads hands memory on as it is. -/
theorem CT_of_CR {P : Program} {f : FuncId} {args : Array Value} {A need : List Ent} {d : D} (h : CR P f args need d) (hA : rkeys A = []) (hw : wkeys need = []) : CT P f args A need (fun _ : Unit => True) (fun _ => d) (fun _ => A) := fun w hh => by
  have hn : HpOk need w := ⟨fun e he => hh.all e (by simp [he]), by rw [hw]; exact List.nodup_nil, fun b _ => by rw [hw]; simp⟩
  refine (h w hn).mono ?_
  rintro e w' ⟨rfl, hb⟩
  have h1 := hh.below hb
  have hkeys : wkeys (A ++ need) = wkeys A := by rw [wkeys_append, hw, List.append_nil]
  exact ⟨(), trivial, rfl, ⟨fun e he => h1.all e (by simp [he]), by rw [← hkeys]; exact h1.nodup, fun b hb => by rw [hA] at hb; cases hb⟩, hA, hb.os, hb.tape, hb.output, hb.size, fun q hq _ => hb.block q hq, fun q hq => .inl hq⟩
end Gx
end Go.Proofs.Ytebcapplclgaead
