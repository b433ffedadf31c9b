/- An inner slice laid into a slice of slices; a row laid into a slice of rows. No conditions but those in the statements. -/
import Derived.Test.YtebcapplclgaeadGx19
namespace Go.Proofs.Ytebcapplclgaead
open Go
namespace Gx
open Go.RowKit (Below)
set_option linter.unusedVariables false
theorem map_set_splA {α : Type} (mk : α → Value) {l : List α} {i : Nat} {a : α} (h : i < l.length) : (l.set i a).map mk = spl (l.map mk) i [mk a] := map_set_spl mk h
abbrev z8' : Nat → Fin 256 := fun _ => 0
def rowC' (m : Nat) : (Nat → Fin 256) → List Value := fun f => (List.range m).map fun i => Value.int .u8 ((f i).val : Int)
theorem flat_len (m : Nat) (l : List (Nat → Fin 256)) : (l.flatMap (rowC' m)).length = l.length * m := Rw.length_cells (.arrs m l)
theorem split_set {l : SL} {i : Nat} (hi : i < l.length) (q : V1 × List Int) : ∃ A B p, l = A ++ p :: B ∧ l.set i q = A ++ q :: B ∧ A.length = i := by
  obtain ⟨A, B, h1, h2⟩ := split_at hi
  refine ⟨l.take i, l.drop (i + 1), l[i], ?_, ?_, by simp; omega⟩
  · conv => lhs; rw [← List.take_append_drop i l]
    rw [List.drop_eq_getElem_cons hi]
  · rw [List.set_eq_take_append_cons_drop, if_pos hi]
section
variable {E : Env} {s : St} {ty : TypeId} {ps : String} {af : Array Edge} {gd : Option (Nat × Bool)} {k : Nat} {K : St → Prop}
theorem x_setSS {T e E1 E2 i : Nat} {x y : Operand} {ti : TI} {v : Value} {hv : (ptrAt v e).oneCell' = true} {l : SL} {u : Value} {hu : u.oneCell' = true} {li : List Int} {R hp' : List Ent} (ht : E.tt T = some ti) (hx : ev s x = some (.raw (ptrAt v e) hv)) (hy : ev s y = some (.raw u hu)) (hs : 1 = ti.size) (he : e = mulS i ti.size) (hi : i < l.length)
    (hd : HpDels [oss v E1 E2 l, own u E2 (.ints .i64 li)] s.hp R) (hI : HpDels [oss v E1 E2 (l.set i (⟨u, hu⟩, li))] hp' R) (h : K ⟨s.tm, hp'⟩) : Xt E ⟨none, .store T x y, ty, ps, af, none⟩ s K := xt_skip fun a w ho => by
  rw [mulS_eq, ← hs, Nat.mul_one] at he
  subst he
  have hH := ho.hp.perm hd.perm
  have hok : (oss v E1 E2 l).ok w := hH.all _ (by simp)
  have hin3 : OwnP u E2 (.ints .i64 li) w := hH.all (own u E2 (.ints .i64 li)) (by simp)
  have hrow : OwnP v E1 (valsR l) w := hok.1
  rcases hrow.2 with ⟨_, h0⟩ | ⟨b, cap, cur0, rfl, _, _, _⟩
  · rw [valsR_len] at h0; omega
  obtain ⟨cur, hg, hc, how⟩ := ownsRow_store (new := [u]) (at_ := e) hrow (by rw [valsR_len]; show e + 1 ≤ l.length * 1; omega)
  have hT := E.tok T ti ht
  have hti := hT.2.1
  have hone : ∀ q ∈ [u], q.oneCell' = true := by simpa using hu
  have hrun : (Instr.storeAt T (.pointer (some ⟨b, e, none⟩)) u).run E.P w = .ok () (w.setRow b (spl cur.toList e [u]).toArray) := by
    cases hx : E.P.info? T with
    | none => simp [hx] at hti
    | some x =>
      simp [hx] at hti
      have hx1 : x.size = 1 := by rw [hti.1, ← hs]
      have := run_storeCells_at (P := E.P) b e E1 [u] 0 cur w hg (by simpa using hc) hone
      simp only [Nat.add_zero] at this
      have hcu : u.cells = #[u] := by cases u <;> first | rfl | (cases hu; done)
      simp [Instr.storeAt, Instr.sureAddr, storeVar, sizeOf, typeInfo, hx, hcu, hx1, this, spl]
  obtain ⟨A, B, p, h1, h2, h3⟩ := split_set hi (⟨u, hu⟩, li)
  have hkA : wkeys ([oss (.slice (some ⟨b, 0, none⟩) (valsR l).len cap) E1 E2 l, own u E2 (.ints .i64 li)] ++ R) = ossK (.slice (some ⟨b, 0, none⟩) (valsR l).len cap) l ++ (sblk u ++ wkeys R) := rfl
  have hnd := hH.nodup
  rw [hkA, List.nodup_append] at hnd
  have hKl : ossK (.slice (some ⟨b, 0, none⟩) (valsR l).len cap) l = b :: (A.flatMap (fun p => sblk p.1.1) ++ (sblk p.1.1 ++ B.flatMap (fun p => sblk p.1.1))) := by
    unfold ossK; conv => lhs; rw [h1]
    simp [sblk]
  have hKl2 : ossK (.slice (some ⟨b, 0, none⟩) (valsR l).len cap) (l.set e (⟨u, hu⟩, li)) = b :: (A.flatMap (fun p => sblk p.1.1) ++ (sblk u ++ B.flatMap (fun p => sblk p.1.1))) := by
    unfold ossK; rw [h2]
    simp [sblk]
  have hndl := hnd.1
  rw [hKl, List.nodup_cons, List.nodup_append, List.nodup_append] at hndl
  obtain ⟨hb1, hA1, ⟨hp1, hB1, hpB⟩, hApB⟩ := hndl
  have hub : b ∉ sblk u := fun hc => hnd.2.2 b (by rw [hKl]; simp) b (List.mem_append_left _ hc) rfl
  have hne : ∀ q, q < w.heap.size → q ≠ b → (w.setRow b (spl cur.toList e [u]).toArray).heap[q]? = w.heap[q]? := fun q _ hq => setRow_other w b q _ hq
  have hnew : (oss (.slice (some ⟨b, 0, none⟩) (valsR l).len cap) E1 E2 (l.set e (⟨u, hu⟩, li))).ok (w.setRow b (spl cur.toList e [u]).toArray) := by
    refine ⟨?_, fun q hq => ?_⟩
    · unfold OwnP
      have e1 : (valsR (l.set e (⟨u, hu⟩, li))).cells = spl (valsR l).cells e [u] := by
        show (l.set e (⟨u, hu⟩, li)).map (·.1.1) = spl (l.map (·.1.1)) e [u]
        exact map_set_splA (fun p : V1 × List Int => p.1.1) hi
      have e2 : (valsR (l.set e (⟨u, hu⟩, li))).len = (valsR l).len := by rw [valsR_len, valsR_len]; simp
      rw [e1, e2]
      exact how
    · rw [h2] at hq
      have hkeep : ∀ q : V1 × List Int, q ∈ A ++ p :: B → (q ∈ A ∨ q ∈ B) → OwnP q.1.1 E2 (.ints .i64 q.2) (w.setRow b (spl cur.toList e [u]).toArray) := fun q hq hAB => by
        refine (hok.2 q (by rw [h1]; exact hq)).stays fun kk hkk hl => hne kk hl ?_
        rintro rfl
        apply hb1
        rcases hAB with h | h
        · exact List.mem_append_left _ (List.mem_flatMap.2 ⟨q, h, hkk⟩)
        · exact List.mem_append_right _ (List.mem_append_right _ (List.mem_flatMap.2 ⟨q, h, hkk⟩))
      rcases List.mem_append.1 hq with hq | hq
      · exact hkeep q (by simp [hq]) (.inl hq)
      · rcases List.mem_cons.1 hq with rfl | hq
        · exact hin3.stays fun kk hkk hl => hne kk hl (by rintro rfl; exact hub hkk)
        · exact hkeep q (by simp [hq]) (.inr hq)
  refine ⟨w.setRow b (spl cur.toList e [u]).toArray, ?_, _, h, ho.turn (A := [_, _]) (B := [_]) hd.perm hI.perm (fun en hen => by rw [List.mem_singleton.1 hen]; exact hnew) ?_ rfl (fun q _ hq => setRow_other w b q _ ?_) (fun q hq => .inl ?_) rfl rfl rfl (by simp)⟩
  · have e1 : (execOp a.eval ⟨none, .store T x y, ty, ps, af, none⟩) = (do Instr.storeAt T (a.eval x) (a.eval y); pure .skip) := rfl
    rw [e1, ho.ev hx, ho.ev hy]
    simp only [D.val, ptrAt, Sem.run_bind, Nat.zero_add, hrun, Result.andThen_ok, Sem.run_pure]
  · show (ossK _ _ ++ []).Nodup
    rw [List.append_nil, hKl2, List.nodup_cons, List.nodup_append, List.nodup_append]
    have hul : ∀ q ∈ sblk u, q ∉ ossK (.slice (some ⟨b, 0, none⟩) (valsR l).len cap) l := fun q hq hq' => hnd.2.2 q hq' q (List.mem_append_left _ hq) rfl
    rw [hKl] at hul
    refine ⟨fun hc => ?_, hA1, ⟨sblk_nodup _, hB1, fun x hx y hy => ?_⟩, fun x hx y hy => ?_⟩
    · rcases List.mem_append.1 hc with hc | hc
      · exact hb1 (List.mem_append_left _ hc)
      · rcases List.mem_append.1 hc with hc | hc
        · exact hub hc
        · exact hb1 (List.mem_append_right _ (List.mem_append_right _ hc))
    · rintro rfl
      exact hul x hx (List.mem_cons_of_mem _ (List.mem_append_right _ (List.mem_append_right _ hy)))
    · rcases List.mem_append.1 hy with hy | hy
      · rintro rfl
        exact hul x hy (List.mem_cons_of_mem _ (List.mem_append_left _ hx))
      · exact hApB x hx y (List.mem_append_right _ hy)
  · rintro rfl
    refine hq ?_
    show q ∈ ossK _ l ++ (sblk u ++ [])
    rw [hKl]; simp
  · have hq' : q ∈ ossK (.slice (some ⟨b, 0, none⟩) (valsR l).len cap) (l.set e (⟨u, hu⟩, li)) ++ [] := hq
    rw [List.append_nil, hKl2] at hq'
    show q ∈ ossK _ l ++ (sblk u ++ [])
    rw [hKl, List.append_nil]
    rcases List.mem_cons.1 hq' with rfl | hq'
    · simp
    · rcases List.mem_append.1 hq' with hq' | hq'
      · exact List.mem_append_left _ (List.mem_cons_of_mem _ (List.mem_append_left _ hq'))
      · rcases List.mem_append.1 hq' with hq' | hq'
        · exact List.mem_append_right _ hq'
        · exact List.mem_append_left _ (List.mem_cons_of_mem _ (List.mem_append_right _ (List.mem_append_right _ hq')))
/-- A row laid into a slice of rows. -/
theorem x_setRa {T b e cap EE i m : Nat} {x y : Operand} {ti : TI} {l : List (Nat → Fin 256)} {f : Nat → Fin 256} {hp' : List Ent} (ht : E.tt T = some ti) (hx : ev s x = some (.ptr b 0 (some e))) (hy : ev s y = some (.arr8 m f)) (hs : m = ti.size) (he : e = i * m) (hi : i < l.length)
    (hr : HpRep (.row b cap EE (.arrs m l)) (.row b cap EE (.arrs m (l.set i f))) s.hp hp') (h : K ⟨s.tm, hp'⟩) : Xt E ⟨none, .store T x y, ty, ps, af, none⟩ s K := by
  subst he
  have hle : i * m + m ≤ l.length * m := by rw [← Nat.succ_mul]; exact Nat.mul_le_mul_right _ hi
  refine x_storeRow ht hx hy rfl hs hr (by simp only [D.size, Rw.len, Rw.size]; omega) ?_ (by simp [Rw.len]) rfl h
  obtain ⟨A, B, e1, e2, e3⟩ : ∃ A B, l = A ++ l.getD i z8' :: B ∧ l.set i f = A ++ f :: B ∧ A.length = i := by
    refine ⟨l.take i, l.drop (i + 1), ?_, ?_, by simp; omega⟩
    · rw [List.getD, List.getElem?_eq_getElem hi, Option.getD_some]
      conv => lhs; rw [← List.take_append_drop i l]
      rw [List.drop_eq_getElem_cons hi]
    · rw [List.set_eq_take_append_cons_drop, if_pos hi]
  have hA : (A.flatMap (rowC' m)).length = i * m := by rw [← e3]; exact flat_len m A
  show (l.set i f).flatMap (rowC' m) = spl (l.flatMap (rowC' m)) (i * m) (rowC' m f)
  rw [e2]
  conv => rhs; rw [e1]
  simp only [List.flatMap_append, List.flatMap_cons, spl]
  rw [List.take_append_of_le_length (by rw [hA]; exact Nat.le_refl _), List.take_of_length_le (by rw [hA]; exact Nat.le_refl _), List.drop_append, hA, List.drop_eq_nil_of_le (as := A.flatMap (rowC' m)) (by rw [hA]; omega)]
  have hd : i * m + (rowC' m f).length - i * m = (rowC' m (l.getD i z8')).length := by simp [rowC']
  rw [hd, List.drop_left]
  simp
end
theorem repl_vals {n : Nat} {hh : ∀ a ∈ List.replicate n (Value.slice none 0 0), a.oneCell' = true} {b E1 E2 : Nat} : ∀ w, (Ent.row b n E1 (.vals (List.replicate n (.slice none 0 0)) hh)).ok w → (oss (slv b n n).1 E1 E2 (List.replicate n sd)).ok w := fun w h => by
  refine ⟨?_, fun p hp => ?_⟩
  · have h2 : w.ownsRow 0 E1 1 (.slice (some ⟨b, 0, none⟩) (List.replicate n (Value.slice none 0 0)).length n) (List.replicate n (Value.slice none 0 0)).length (List.replicate n (Value.slice none 0 0)) := h
    rw [List.length_replicate] at h2
    unfold OwnP
    rw [valsR_len, List.length_replicate]
    have : (valsR (List.replicate n sd)).cells = List.replicate n (.slice none 0 0) := by simp [valsR, Rw.cells, sd]
    rw [this]
    exact h2
  · rw [(List.mem_replicate.1 hp).2]
    exact World.ownsRow_nil _ _ _ _
theorem repl_key {n b E1 E2 : Nat} {hh : ∀ a ∈ List.replicate n (Value.slice none 0 0), a.oneCell' = true} : (oss (slv b n n).1 E1 E2 (List.replicate n sd)).wkey = (Ent.row b n E1 (.vals (List.replicate n (.slice none 0 0)) hh)).wkey := by
  show [b] ++ (List.replicate n sd).flatMap (fun p => sblk p.1.1) = [b]
  have : (List.replicate n sd).flatMap (fun p => sblk p.1.1) = [] := by
    rw [List.flatMap_eq_nil_iff]
    intro p hp
    rw [(List.mem_replicate.1 hp).2]; rfl
  rw [this]
  rfl
end Gx
end Go.Proofs.Ytebcapplclgaead
