/- Slices of slices that the call owns: one inner slice turned, stores, appends. No conditions but those in the statements. -/
import Derived.Test.YtebcapplclgaeadGx13
namespace Go.Proofs.Ytebcapplclgaead
open Go
namespace Gx
open Go.RowKit (Below)
set_option linter.unusedVariables false
/-- A slice of a block's own, from its beginning. -/
def slv (b n c : Nat) : V1 := ⟨.slice (some ⟨b, 0, none⟩) n c, rfl⟩
theorem split_at {l : SL} {i : Nat} (hi : i < l.length) : ∃ A B, l = A ++ l.getD i sd :: B ∧ ∀ q, l.set i q = A ++ q :: B := by
  refine ⟨l.take i, l.drop (i + 1), ?_, fun q => ?_⟩
  · rw [List.getD, List.getElem?_eq_getElem hi, Option.getD_some]
    conv => lhs; rw [← List.take_append_drop i l]
    rw [List.drop_eq_getElem_cons hi]
  · rw [List.set_eq_take_append_cons_drop, if_pos hi]
theorem valsR_same {l l' : SL} (h : l.map (·.1.1) = l'.map (·.1.1)) : (valsR l).cells = (valsR l').cells ∧ (valsR l).len = (valsR l').len ∧ (valsR l).size = (valsR l').size := ⟨h, by simpa [valsR, Rw.len] using congrArg List.length h, rfl⟩
theorem OwnP.cast {v : Value} {EE : Nat} {r r' : Rw} {w : World} (h : OwnP v EE r w) (e : r.cells = r'.cells ∧ r.len = r'.len ∧ r.size = r'.size) : OwnP v EE r' w := by
  unfold OwnP at *
  rw [← e.1, ← e.2.1, ← e.2.2]; exact h
def ossK (v : Value) (l : SL) : List Nat := sblk v ++ l.flatMap fun p => sblk p.1.1
theorem ossK_set {v : Value} {l : SL} {i : Nat} (hi : i < l.length) (l2 : List Int) : ossK v (l.set i ((l.getD i sd).1, l2)) = ossK v l := by
  obtain ⟨A, B, h1, h2⟩ := split_at hi
  unfold ossK
  rw [h2]
  conv => rhs; rw [h1]
  simp
/-- One inner slice turned, the others as they were. -/
theorem oss_turn {v : Value} {E1 E2 : Nat} {l : SL} {i : Nat} {l2 : List Int} {w w' : World} (hi : i < l.length) (h : (oss v E1 E2 l).ok w) (hnd : (ossK v l).Nodup) (hb : ∀ q, q < w.heap.size → q ∉ sblk (l.getD i sd).1.1 → w'.heap[q]? = w.heap[q]?)
    (hn : OwnP (l.getD i sd).1.1 E2 (.ints .i64 l2) w') : (oss v E1 E2 (l.set i ((l.getD i sd).1, l2))).ok w' := by
  obtain ⟨A, B, h1, h2⟩ := split_at hi
  generalize hp : l.getD i sd = p at *
  obtain ⟨h3, h4⟩ : OwnP v E1 (valsR l) w ∧ ∀ p ∈ l, OwnP p.1.1 E2 (.ints .i64 p.2) w := h
  have hnd' : (sblk v ++ (A.flatMap (fun p => sblk p.1.1) ++ (sblk p.1.1 ++ B.flatMap (fun p => sblk p.1.1)))).Nodup := by
    have := hnd
    unfold ossK at this
    rw [h1] at this
    simpa [List.flatMap_append] using this
  have d1 : ∀ k ∈ sblk v, k ∉ sblk p.1.1 := fun k hk hk' => (List.nodup_append.1 hnd').2.2 k hk k (by simp [hk']) rfl
  have hnd2 := (List.nodup_append.1 hnd').2.1
  have d2 : ∀ k ∈ A.flatMap (fun p => sblk p.1.1), k ∉ sblk p.1.1 := fun k hk hk' => (List.nodup_append.1 hnd2).2.2 k hk k (by simp [hk']) rfl
  have d3 : ∀ k ∈ B.flatMap (fun p => sblk p.1.1), k ∉ sblk p.1.1 := fun k hk hk' => (List.nodup_append.1 (List.nodup_append.1 hnd2).2.1).2.2 k hk' k hk rfl
  refine ⟨(h3.stays fun k hk hl => hb k hl (d1 k hk)).cast (valsR_same ?_), fun q hq => ?_⟩
  · rw [h2]
    conv => lhs; rw [h1]
    simp
  · rw [h2] at hq
    rcases List.mem_append.1 hq with hq | hq
    · exact (h4 q (by rw [h1]; simp [hq])).stays fun k hk hl => hb k hl (d2 k (List.mem_flatMap.2 ⟨q, hq, hk⟩))
    · rcases List.mem_cons.1 hq with rfl | hq
      · exact hn
      · exact (h4 q (by rw [h1]; simp [hq])).stays fun k hk hl => hb k hl (d3 k (List.mem_flatMap.2 ⟨q, hq, hk⟩))
theorem CT.oss {P : Program} {f : FuncId} {args : Array Value} {v : Value} {E1 E2 : Nat} {l : SL} {i : Nat} {d : D} {l2 : List Int} (hi : i < l.length)
    (h : CT P f args [own (l.getD i sd).1.1 E2 (.ints .i64 (l.getD i sd).2)] [] (fun _ : Unit => True) (fun _ => d) (fun _ => [own (l.getD i sd).1.1 E2 (.ints .i64 l2)])) :
    CT P f args [Gx.oss v E1 E2 l] [] (fun _ : Unit => True) (fun _ => d) (fun _ => [Gx.oss v E1 E2 (l.set i ((l.getD i sd).1, l2))]) := fun w hh => by
  have hk : ∀ l : SL, wkeys ([Gx.oss v E1 E2 l] : List Ent) = ossK v l := fun l => by simp [wkeys, Gx.oss, Ent.wkey, ossK]
  have hnd : (ossK v l).Nodup := by rw [← hk]; simpa using hh.nodup
  have hok : (Gx.oss v E1 E2 l).ok w := hh.all _ (by simp)
  have hin : OwnP (l.getD i sd).1.1 E2 (.ints .i64 (l.getD i sd).2) w := hok.2 _ (getD_mem hi)
  have hsub : ∀ k ∈ sblk (l.getD i sd).1.1, k ∈ ossK v l := fun k hk => List.mem_append_right _ (List.mem_flatMap.2 ⟨_, getD_mem hi, hk⟩)
  have hk1 : wkeys ([own (l.getD i sd).1.1 E2 (.ints .i64 (l.getD i sd).2)] : List Ent) = sblk (l.getD i sd).1.1 := by simp [wkeys, own, Ent.wkey]
  refine (h w ⟨fun e he => ?_, ?_, fun b hb => ?_⟩).mono ?_
  · simp only [List.append_nil, List.mem_singleton] at he; subst he; exact hin
  · rw [List.append_nil, hk1]; exact sblk_nodup _
  · simp [rkeys, own, Ent.rkey] at hb
  · rintro e w' ⟨_, _, h1, h2, _, h4, h5, h6, h7, h8, _⟩
    rw [hk1] at h8
    have h9 : OwnP (l.getD i sd).1.1 E2 (.ints .i64 l2) w' := h2.all (own (l.getD i sd).1.1 E2 (.ints .i64 l2)) (List.mem_singleton.2 rfl)
    have hn := oss_turn hi hok hnd h8 h9
    refine ⟨(), trivial, h1, ⟨fun e he => by rw [List.mem_singleton.1 he]; exact hn, by rw [hk, ossK_set hi]; exact hnd, fun b hb => by simp [rkeys, Gx.oss, Ent.rkey] at hb⟩, by simp [rkeys, Gx.oss, Ent.rkey], h4, h5, h6, h7, fun q hq hne => h8 q hq fun hc => hne ?_, fun q hq => .inl ?_⟩
    · rw [hk]; exact hsub q hc
    · rw [hk, ossK_set hi] at hq; rw [hk]; exact hq

section
variable {E : Env} {s : St} {ty : TypeId} {ps : String} {af : Array Edge} {gd : Option (Nat × Bool)} {k : Nat} {K : St → Prop}
/-- A store into an inner slice. -/
theorem x_storeSS {T e E1 E2 i j : Nat} {v : Value} {l : SL} {hv : (ptrAt (l.getD i sd).1.1 e).oneCell' = true} {x y : Operand} {ti : TI} {m : Int} {hp' : List Ent} (ht : E.tt T = some ti) (hx : ev s x = some (.raw (ptrAt (l.getD i sd).1.1 e) hv)) (hy : ev s y = some (.int .i64 m)) (hs : 1 = ti.size)
    (hr : HpRep (oss v E1 E2 l) (oss v E1 E2 (l.set i ((l.getD i sd).1, (l.getD i sd).2.set j m))) s.hp hp') (hi : i < l.length) (he : e = mulS j ti.size) (hj : j < (l.getD i sd).2.length) (h : K ⟨s.tm, hp'⟩) : Xt E ⟨none, .store T x y, ty, ps, af, none⟩ s K := xt_skip fun a w ho => by
  have hok : (oss v E1 E2 l).ok w := ho.hp.all _ hr.mem
  obtain ⟨R, p1, p2⟩ := hr.perm
  have hnd : (ossK v l).Nodup := by
    have := (wkeys_perm p1).nodup_iff.1 ho.hp.nodup
    exact (List.nodup_append.1 (show (ossK v l ++ wkeys R).Nodup from this)).1
  have hrow : OwnP (l.getD i sd).1.1 E2 (.ints .i64 (l.getD i sd).2) w := hok.2 _ (getD_mem hi)
  generalize hp : l.getD i sd = p at *
  rw [mulS_eq, ← hs, Nat.mul_one] at he
  subst he
  rcases hrow.2 with ⟨_, h0⟩ | ⟨b, cap, cur0, hpv, _, _, _⟩
  · simp [Rw.len] at h0; rw [h0] at hj; simp at hj
  unfold OwnP at hrow
  have hxa : a.eval x = .pointer (some ⟨b, 0 + e, none⟩) := by
    rw [ho.ev hx]
    simp only [D.val, hpv, ptrAt]
  rw [hpv] at hrow
  obtain ⟨cur, hg, hc, how⟩ := ownsRow_store (new := [Value.int .i64 m]) (at_ := e) hrow (by simp only [Rw.len, Rw.size, List.length_cons, List.length_nil]; omega)
  have hT := E.tok T ti ht
  have hti := hT.2.1
  have hrun : (Instr.storeAt T (.pointer (some ⟨b, e, none⟩)) (D.int .i64 m).val).run E.P w = .ok () (w.setRow b (spl cur.toList e [Value.int .i64 m]).toArray) := by
    cases hx : E.P.info? T with
    | none => simp [hx] at hti
    | some x =>
      simp [hx] at hti
      have hl : (D.int .i64 m).cells.length = x.size := by rw [D.length_cells, hti.1, ← hs]; rfl
      have := run_storeCells_at (P := E.P) b e E2 (D.int .i64 m).cells 0 cur w hg (by simpa [D.cells] using hc) (D.oneCell _)
      simp only [Nat.add_zero] at this
      have hx1 : x.size = 1 := by rw [hti.1, ← hs]
      simp [Instr.storeAt, Instr.sureAddr, storeVar, sizeOf, typeInfo, hx, D.val_cells (.int .i64 m) rfl, hl, this, spl]
      rw [hx1]; rfl
  have hn : OwnP p.1.1 E2 (.ints .i64 (p.2.set e m)) (w.setRow b (spl cur.toList e [Value.int .i64 m]).toArray) := by
    unfold OwnP
    rw [hpv]
    have e1 : (Rw.ints .i64 (p.2.set e m)).cells = spl (Rw.ints .i64 p.2).cells e [Value.int .i64 m] := by
      apply List.ext_getElem?
      intro q
      rw [spl_getElem? _ _ _ (by simp [Rw.cells]; omega)]
      simp only [Rw.cells, List.getElem?_map, List.getElem?_set, List.length_cons, List.length_nil]
      by_cases hq : e = q
      · subst hq; simp [hj]
      · rw [if_neg hq, if_neg (by omega)]
    have e2 : (Rw.ints .i64 (p.2.set e m)).len = (Rw.ints .i64 p.2).len := by simp [Rw.len]
    rw [e1, e2]
    exact how
  have hblk : sblk p.1.1 = [b] := by rw [hpv]; rfl
  have hnew := oss_turn (l2 := p.2.set e m) hi hok hnd (w' := w.setRow b (spl cur.toList e [Value.int .i64 m]).toArray) (fun q _ hq => setRow_other w b q _ (by rw [hp, hblk] at hq; simpa using hq)) (by rw [hp]; exact hn)
  rw [hp] at hnew
  have hks := ossK_set (v := v) hi (p.2.set e m)
  rw [hp] at hks
  refine ⟨w.setRow b (spl cur.toList e [Value.int .i64 m]).toArray, ?_, _, h, ho.turn (A := [_]) (B := [_]) p1 p2 (fun en hen => by rw [List.mem_singleton.1 hen]; exact hnew) ?_ rfl (fun q _ hq => setRow_other w b q _ ?_) (fun q hq => .inl ?_) rfl rfl rfl (by simp)⟩
  · have e1 : (execOp a.eval ⟨none, .store T x y, ty, ps, af, none⟩) = (do Instr.storeAt T (a.eval x) (a.eval y); pure .skip) := rfl
    rw [e1, hxa, ho.ev hy]
    simp only [D.val, Sem.run_bind, Nat.zero_add]
    have hrun' : (Instr.storeAt T (.pointer (some ⟨b, e, none⟩)) (.int .i64 m)).run E.P w = .ok () (w.setRow b (spl cur.toList e [Value.int .i64 m]).toArray) := hrun
    rw [hrun']
    simp only [Result.andThen_ok, Sem.run_pure]
  · show (ossK v _ ++ []).Nodup
    rw [hks, List.append_nil]; exact hnd
  · rintro rfl
    refine hq ?_
    show q ∈ ossK v l ++ []
    rw [List.append_nil]
    refine List.mem_append_right _ (List.mem_flatMap.2 ⟨p, by rw [← hp]; exact getD_mem hi, by rw [hblk]; simp⟩)
  · have : q ∈ ossK v _ ++ [] := hq
    rw [hks] at this
    exact this

/-- One more inner slice. -/
theorem x_appendSS {T E1 E2 b2 c2 EE : Nat} {x y : Operand} {ei : TI} {sz by_ : Nat} {z : D} {v : Value} {hv : v.oneCell' = true} {l : SL} {u : V1} {li : List Int} {e3 : Ent} {hu : ∀ a ∈ [u.1], a.oneCell' = true} {R : List Ent} {hp' : V1 → List Ent} {tys : Array TypeId} (htys : tys = #[T, T]) (ht : E.tt T = some ⟨.slice E1, sz, by_, z⟩) (h3 : E.tt E1 = some ei) (hz : 1 = ei.size)
    (hx : ev s x = some (.raw v hv)) (hy : ev s y = some (.sl b2 0 1 c2)) (m2 : Ent.row b2 c2 EE (.vals [u.1] hu) ∈ s.hp) (hd : HpDels [oss v E1 E2 l, e3] s.hp R) (hk3 : e3.wkey = sblk u.1) (hr3 : e3.rkey = []) (ho3 : ∀ w, e3.ok w → OwnP u.1 E2 (.ints .i64 li) w)
    (hi : ∀ v' : V1, HpDels [oss v'.1 E1 E2 (l ++ [(u, li)])] (hp' v') R) (hb : (l.length + 1) * ei.bytes ≤ 140737488355328) (hb2 : l.length + 1 ≤ 140737488355328) (hk : k < E.n)
    (h : ∀ v' : V1, K ⟨(k, .raw v'.1 v'.2) :: s.tm, hp' v'⟩) : Xt E ⟨some k, .call { callee := .builtin .append, args := #[x, y], argTypes := tys }, ty, ps, af, gd⟩ s K := xt_value fun a w ho => by
  subst htys
  obtain ⟨d, hd0, hm⟩ := tt_underlying ht
  simp only [TD.met] at hm
  subst hm
  have hH := ho.hp.perm hd.perm
  have hok : (oss v E1 E2 l).ok w := hH.all _ (by simp)
  have hown : OwnP v E1 (valsR l) w := hok.1
  have hin3 : OwnP u.1 E2 (.ints .i64 li) w := ho3 w (hH.all _ (by simp))
  have h2 : w.ownsRow 0 EE (Rw.vals [u.1] hu).size (.slice (some ⟨b2, 0, none⟩) (Rw.vals [u.1] hu).len c2) (Rw.vals [u.1] hu).len (Rw.vals [u.1] hu).cells := ho.hp.all _ m2
  have hsrc : ∀ j q, [u.1][j]? = some q → w.cell? ((⟨b2, 0, none⟩ : Addr).add j) = some q := h2.cells (g := b2) rfl
  have hsz1 : ei.size = 1 := hz.symm
  have hown' : w.ownsRow 0 E1 ei.size v l.length (valsR l).cells := by
    have := hown
    unfold OwnP at this
    rw [valsR_len] at this
    rw [hsz1]; exact this
  obtain ⟨g, cap', w', r1, r2, r3, r4⟩ := run_append_rows E.P w T E1 ty hd0 (E.tok E1 ei h3) (by rw [hsz1]; rfl) v l.length (valsR l).cells hown' ⟨b2, 0, none⟩ 1 c2 [u.1] (by rw [hsz1]; rfl) hsrc (by simpa using u.2) (by omega) hb hb2
  have hknd := hH.nodup
  have hkA : wkeys ([oss v E1 E2 l, e3] ++ R) = ossK v l ++ (sblk u.1 ++ wkeys R) := by
    show (ossK v l) ++ (e3.wkey ++ wkeys R) = _
    rw [hk3]
  have hnd := hknd
  rw [hkA, List.nodup_append] at hnd
  have hne : ∀ q, q < w.heap.size → v.ownBlock ≠ some q → w'.heap[q]? = w.heap[q]? := fun q hq hne => r3.block q hq (fun h => hne h.symm)
  have hgk : ∀ q ∈ sblk v, q ∉ l.flatMap (fun p => sblk p.1.1) := fun q hq hq' => (List.nodup_append.1 hnd.1).2.2 q hq q hq' rfl
  have houter : OwnP (.slice (some ⟨g, 0, none⟩) (l.length + 1) cap') E1 (valsR (l ++ [(u, li)])) w' := by
    unfold OwnP
    rw [hsz1] at r2
    have e1 : (valsR (l ++ [(u, li)])).cells = (valsR l).cells ++ [u.1] := by simp [valsR, Rw.cells]
    have e2 : (valsR (l ++ [(u, li)])).len = l.length + 1 := by rw [valsR_len]; simp
    rw [e1, e2]
    exact r2
  have hinner : ∀ p ∈ l ++ [(u, li)], OwnP p.1.1 E2 (.ints .i64 p.2) w' := fun p hp => by
    rcases List.mem_append.1 hp with hp | hp
    · refine (hok.2 p hp).stays fun q hq hl => hne q hl fun hc => hgk q ((sblk_own v q).2 hc) (List.mem_flatMap.2 ⟨p, hp, hq⟩)
    · rw [List.mem_singleton.1 hp]
      refine hin3.stays fun q hq hl => hne q hl fun hc => ?_
      exact hnd.2.2 q (List.mem_append_left _ ((sblk_own v q).2 hc)) q (List.mem_append_left _ hq) rfl
  have hgnew : ∀ q ∈ ossK (.slice (some ⟨g, 0, none⟩) (l.length + 1) cap') (l ++ [(u, li)]), q ∈ ossK v l ++ sblk u.1 ∨ w.heap.size ≤ q := fun q hq => by
    simp only [ossK, sblk, List.flatMap_append, List.flatMap_cons, List.flatMap_nil, List.append_nil, List.mem_append, List.mem_singleton] at hq
    rcases hq with rfl | hq | hq
    · rcases r4 with r4 | r4
      · exact .inl (List.mem_append_left _ (List.mem_append_left _ ((sblk_own v q).2 r4)))
      · exact .inr (by omega)
    · exact .inl (List.mem_append_left _ (List.mem_append_right _ hq))
    · exact .inl (List.mem_append_right _ hq)
  have hndnew : (ossK (.slice (some ⟨g, 0, none⟩) (l.length + 1) cap') (l ++ [(u, li)])).Nodup := by
    have e1 : ossK (.slice (some ⟨g, 0, none⟩) (l.length + 1) cap') (l ++ [(u, li)]) = g :: (l.flatMap (fun p => sblk p.1.1) ++ sblk u.1) := by simp [ossK, sblk]
    rw [e1, List.nodup_cons]
    have hfl : (l.flatMap (fun p => sblk p.1.1) ++ sblk u.1).Nodup := by
      rw [List.nodup_append]
      exact ⟨(List.nodup_append.1 hnd.1).2.1, sblk_nodup _, fun x hx y hy => hnd.2.2 x (List.mem_append_right _ hx) y (List.mem_append_left _ hy)⟩
    refine ⟨fun hg => ?_, hfl⟩
    rcases r4 with r4 | r4
    · have hgv := (sblk_own v g).2 r4
      rcases List.mem_append.1 hg with hg | hg
      · exact hgk g hgv hg
      · exact hnd.2.2 g (List.mem_append_left _ hgv) g (List.mem_append_left _ hg) rfl
    · have : g < w.heap.size := by
        rcases List.mem_append.1 hg with hg | hg
        · obtain ⟨p, hp, hq⟩ := List.mem_flatMap.1 hg
          exact (hok.2 p hp).lt g hq
        · exact hin3.lt g hg
      omega
  refine ⟨_, w', ?_, _, h ⟨.slice (some ⟨g, 0, none⟩) (l.length + 1) cap', rfl⟩, ((ho.turn (A := [_, _]) (B := [_]) hd.perm (hi ⟨.slice (some ⟨g, 0, none⟩) (l.length + 1) cap', rfl⟩).perm (fun en hen => by rw [List.mem_singleton.1 hen]; exact ⟨houter, hinner⟩) ?_ rfl (fun q hq hn => hne q hq fun hc => hn ?_) (fun q hq => ?_) r3.os r3.tape r3.output r3.size).put (d := .raw (.slice (some ⟨g, 0, none⟩) (l.length + 1) cap') rfl) hk)⟩
  · simp only [execOp, resolve, invoke, builtin, Sem.run_bind, Sem.run_pure, Result.andThen_ok, List.map_toArray, List.map_cons, List.map_nil, ho.ev hx, ho.ev hy, D.val, r1]
  · show (ossK _ _ ++ []).Nodup
    rw [List.append_nil]; exact hndnew
  · show q ∈ ossK v l ++ (e3.wkey ++ [])
    exact List.mem_append_left _ (List.mem_append_left _ ((sblk_own v q).2 hc))
  · have hq' : q ∈ ossK (.slice (some ⟨g, 0, none⟩) (l.length + 1) cap') (l ++ [(u, li)]) ++ [] := hq
    rw [List.append_nil] at hq'
    rcases hgnew q hq' with h1 | h1
    · left
      show q ∈ ossK v l ++ (e3.wkey ++ [])
      rw [hk3, List.append_nil]; exact h1
    · exact .inr h1
end
theorem oss_of_row {b cap E1 E2 : Nat} {hh : ∀ a ∈ ([] : List Value), a.oneCell' = true} : ∀ w, (Ent.row b cap E1 (.vals [] hh)).ok w → (oss (.slice (some ⟨b, 0, none⟩) 0 cap) E1 E2 []).ok w := fun w h => ⟨h, fun p hp => by cases hp⟩
theorem oss_eq {v : Value} {E1 E2 : Nat} {l l' : SL} (h : l = l') : ∀ w, (oss v E1 E2 l).ok w → (oss v E1 E2 l').ok w := by subst h; exact fun w h => h
end Gx
end Go.Proofs.Ytebcapplclgaead
