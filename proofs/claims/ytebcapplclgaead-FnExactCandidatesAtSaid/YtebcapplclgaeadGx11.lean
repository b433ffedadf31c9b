/- Stores into rows that the call owns; no conditions but those in the statements. -/
import Derived.Test.YtebcapplclgaeadGx6
import Derived.Laws.MakeOwn
namespace Go.Proofs.Ytebcapplclgaead
open Go
namespace Gx
open Go.RowKit (Below)
set_option linter.unusedVariables false
theorem spl_take (cs : List Value) (a k : Nat) (new : List Value) (h : a + new.length ≤ k) (hk : k ≤ cs.length) : (spl cs a new).take k = spl (cs.take k) a new := by
  apply List.ext_getElem?
  intro j
  rw [List.getElem?_take, spl_getElem? _ _ _ (by omega), spl_getElem? _ _ _ (by simp; omega)]
  split
  · split
    · rfl
    · rw [List.getElem?_take, if_pos (by assumption)]
  · rw [if_neg (by omega), List.getElem?_take, if_neg (by assumption)]
theorem ownsRow_store {w : World} {EE sz b n cap at_ : Nat} {xs new : List Value} (h : w.ownsRow 0 EE sz (.slice (some ⟨b, 0, none⟩) n cap) n xs) (hin : at_ + new.length ≤ n * sz) :
    ∃ cur : Array Value, w.heap[b]? = some (.cells cur EE (0, 0)) ∧ at_ + new.length ≤ cur.size ∧ (w.setRow b (spl cur.toList at_ new).toArray).ownsRow 0 EE sz (.slice (some ⟨b, 0, none⟩) n cap) n (spl xs at_ new) := by
  rcases h.2 with ⟨h', _⟩ | ⟨g', cap', cur, h', hb, hg, hnc, hcm, hcs, htake⟩
  · simp at h'
  · simp only [Value.slice.injEq, Option.some.injEq, Addr.mk.injEq, and_true, true_and] at h'
    obtain ⟨rfl, rfl⟩ := h'
    have hle : n * sz ≤ cap * sz := Nat.mul_le_mul_right _ hnc
    have hx : xs.length = n * sz := h.1
    have hsl : ∀ (cs : List Value), at_ + new.length ≤ cs.length → (spl cs at_ new).length = cs.length := by
      intro cs hc; simp [spl]; omega
    refine ⟨cur, hg, by omega, ⟨by rw [hsl xs (by omega)]; exact hx, .inr ⟨b, cap, (spl cur.toList at_ new).toArray, rfl, hb, setRow_heap w b _ _ _ _ hg, hnc, hcm, by simp [hsl cur.toList (by simp; omega), hcs], ?_⟩⟩⟩
    rw [← htake]
    simpa using spl_take cur.toList at_ (n * sz) new hin (by simp; omega)
section
variable {E : Env} {s : St} {ty : TypeId} {ps : String} {af : Array Edge} {gd : Option (Nat × Bool)} {K : St → Prop}
theorem x_storeRow {T b e cap EE : Nat} {x y : Operand} {i : TI} {r r' : Rw} {nw : D} {hp' : List Ent} (ht : E.tt T = some i) (hx : ev s x = some (.ptr b 0 (some e))) (hy : ev s y = some nw) (hf : nw.flat = true) (hs : nw.size = i.size)
    (hr : HpRep (.row b cap EE r) (.row b cap EE r') s.hp hp') (hin : e + nw.size ≤ r.len * r.size) (hset : r'.cells = spl r.cells e nw.cells) (hlen : r'.len = r.len) (hsz : r'.size = r.size) (h : K ⟨s.tm, hp'⟩) : Xt E ⟨none, .store T x y, ty, ps, af, none⟩ s K := xt_skip fun a w ho => by
  have hrow : w.ownsRow 0 EE r.size (.slice (some ⟨b, 0, none⟩) r.len cap) r.len r.cells := ho.hp.all _ hr.mem
  obtain ⟨cur, hg, hc, how⟩ := ownsRow_store (new := nw.cells) (at_ := e) hrow (by rw [D.length_cells]; exact hin)
  have hT := E.tok T i ht
  have hi := hT.2.1
  have hrun : (Instr.storeAt T (.pointer (some ⟨b, e, none⟩)) nw.val).run E.P w = .ok () (w.setRow b (spl cur.toList e nw.cells).toArray) := by
    cases hx : E.P.info? T with
    | none => simp [hx] at hi
    | some x =>
      simp [hx] at hi
      have hl : nw.cells.length = x.size := by rw [D.length_cells, hs, hi.1]
      have := run_storeCells_at (P := E.P) b e EE nw.cells 0 cur w hg (by simpa using hc) (D.oneCell nw)
      simp only [Nat.add_zero] at this
      simp [Instr.storeAt, Instr.sureAddr, storeVar, sizeOf, typeInfo, hx, D.val_cells nw hf, hl, this, spl]
  refine ⟨w.setRow b (spl cur.toList e nw.cells).toArray, ?_, _, h, ho.rep (b := b) (b' := b) hr rfl rfl rfl rfl ?_ (fun q _ hq => setRow_other w b q _ hq) (.inl rfl) rfl rfl rfl (by simp)⟩
  · have e1 : (execOp a.eval ⟨none, .store T x y, ty, ps, af, none⟩) = (do Instr.storeAt T (a.eval x) (a.eval y); pure .skip) := rfl
    rw [e1, ho.ev hx, ho.ev hy]
    simp only [D.val, Sem.run_bind, Option.getD, Nat.zero_add, hrun, Result.andThen_ok, Sem.run_pure]
  · show (w.setRow b (spl cur.toList e nw.cells).toArray).ownsRow 0 EE r'.size (.slice (some ⟨b, 0, none⟩) r'.len cap) r'.len r'.cells
    rw [hset, hlen, hsz]
    exact how
end
/-- n elements of zero value. -/
def zeroRw : D → Nat → Option Rw
  | .int k _, n => some (.ints k (List.replicate n 0))
  | .u8 _, n => some (.u8s (List.replicate n 0))
  | .raw v h, n => some (.vals (List.replicate n v) (by intro u hu; rw [(List.mem_replicate.1 hu).2]; exact h))
  | _, _ => none
theorem madeCells_one (v : Value) (n : Nat) : madeCells #[v] n = (List.replicate n v).toArray := by
  apply Array.ext
  · simp [madeCells]
  · intro j h1 h2
    have : j % 1 = 0 := Nat.mod_one j
    simp [madeCells, this]
theorem zeroRw_cells {z : D} {n : Nat} {r : Rw} (hz : zeroRw z n = some r) (h0 : z = .int .i64 0 ∨ z = .u8 0 ∨ ∃ v h, z = .raw v h) : madeCells z.cells.toArray (n * 1) = r.cells.toArray ∧ r.len = n ∧ r.size = 1 := by
  rw [Nat.mul_one]
  rcases h0 with rfl | rfl | ⟨v, h, rfl⟩ <;> simp only [zeroRw, Option.some.injEq] at hz <;> subst hz <;> refine ⟨?_, by simp [Rw.len], rfl⟩
  · rw [show (D.int .i64 0).cells = [Value.int .i64 0] from rfl, madeCells_one]; simp [Rw.cells]
  · rw [show (D.u8 0).cells = [Value.int .u8 0] from rfl, madeCells_one]; simp [Rw.cells]
  · rw [show (D.raw v h).cells = [v] from rfl, madeCells_one]; simp [Rw.cells]
section
variable {E : Env} {s : St} {ty : TypeId} {ps : String} {af : Array Edge} {gd : Option (Nat × Bool)} {k : Nat} {K : St → Prop}
theorem x_makeSlice {T el n : Nat} {x y : Operand} {ei : TI} {sz by_ : Nat} {z : D} {r : Rw} {kl kc : IntKind} {l c : Int} (ht : E.tt T = some ⟨.slice el, sz, by_, z⟩) (h3 : E.tt el = some ei) (hx : evI s x = some (kl, l)) (hy : evI s y = some (kc, c)) (hl : l = (n : Int)) (hc : c = (n : Int))
    (h1 : ei.size = 1) (hzr : zeroRw ei.zero n = some r) (h0 : ei.zero = .int .i64 0 ∨ ei.zero = .u8 0 ∨ ∃ v h, ei.zero = .raw v h) (hb : (ei.bytes : Int) * (n : Int) ≤ 281474976710656) (hn : n ≤ 140737488355328) (hk : k < E.n)
    (h : ∀ b, K ⟨(k, .sl b 0 n n) :: s.tm, .row b n el r :: s.hp⟩) : Xt E ⟨some k, .makeSlice T x y, ty, ps, af, gd⟩ s K := xt_value fun a w ho => by
  obtain ⟨d, hd, hm⟩ := tt_underlying ht
  simp only [TD.met] at hm
  subst hm
  obtain ⟨xi, hxi, e1, e2, e3⟩ := tt_info h3
  obtain ⟨m1, m2, m3⟩ := zeroRw_cells hzr h0
  subst hl; subst hc
  have hrun := run_make (P := E.P) w T el xi ei.zero.val hd hxi e3 kl kc (n : Int) (n : Int) (by omega) (Int.le_refl _) (by rw [e2]; exact hb) (by omega)
  have hf := (E.tok el ei h3).2.2.1
  rw [e1, h1, Int.toNat_natCast, D.val_cells _ hf, m1] at hrun
  have hrow : (w.alloc (.cells r.cells.toArray el)).ownsRow 0 el r.size (.slice (some ⟨w.heap.size, 0, none⟩) r.len n) r.len r.cells := by
    have h0 := World.ownsRow_lit (base := 0) (e := el) (size := r.size) w r.cells.toArray n (Nat.zero_le _) (by unfold maxLen; omega) (by simp only [List.size_toArray, Rw.length_cells, m2])
    rw [m2]
    exact h0
  refine ⟨_, _, ?_, _, h w.heap.size, ((ho.more (new := [.row w.heap.size n el r]) ((Below.refl _ _).alloc (Nat.le_refl _) (.cells r.cells.toArray el))
    ⟨fun e he => by simp only [List.mem_singleton] at he; subst he; exact hrow, by simp [wkeys, Ent.wkey], by simp [rkeys, Ent.rkey]⟩ rfl (by simp [wkeys, Ent.wkey])).put (d := .sl w.heap.size 0 n n) hk)⟩
  simp only [execOp, ho.t.evI hx, ho.t.evI hy, Sem.run_bind, hrun, Result.andThen_ok, Sem.run_pure, D.val]
end
end Gx
end Go.Proofs.Ytebcapplclgaead
