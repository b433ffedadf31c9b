/- Slices of bytes that are marked; a stack of slices of bytes. No conditions but those in the statements. -/
import Derived.Test.YtjihhcjpbcmjaaaGx20
import Derived.Test.YtjihhcjpbcmjaaaGx27
import Derived.Test.YtjihhcjpbcmjaaaGx28
namespace Go.Proofs.Ytjihhcjpbcmjaaa
open Go
namespace Gx
set_option linter.unusedVariables false
/-- The bytes k, k + 1, .. : n of them. -/
def marksB (k : Nat) : Nat → List (Fin 256)
  | 0 => []
  | n + 1 => marksB k n ++ [Fin.ofNat 256 (k + n)]
theorem marksB_len (k : Nat) : ∀ n, (marksB k n).length = n
  | 0 => rfl
  | n + 1 => by simp [marksB, marksB_len k n]
theorem marksB_getD (k : Nat) : ∀ {n i : Nat}, i < n → (marksB k n).getD i 0 = Fin.ofNat 256 (k + i)
  | n + 1, i, h => by
    by_cases hi : i < n
    · have := marksB_getD k hi
      simp only [marksB, List.getD] at this ⊢
      rw [List.getElem?_append_left (by rw [marksB_len]; exact hi)]
      exact this
    · obtain rfl : i = n := by omega
      simp only [marksB, List.getD]
      rw [List.getElem?_append_right (by rw [marksB_len]; exact Nat.le_refl _)]
      simp [marksB_len]
theorem marksB_set {k : Nat} {l : List (Fin 256)} {i : Nat} (h : i < l.length) : (marksB k i ++ l.drop i).set i (Fin.ofNat 256 (k + i)) = marksB k (i + 1) ++ l.drop (i + 1) := by
  rw [List.set_append_right _ _ (by rw [marksB_len]; exact Nat.le_refl _), marksB_len, Nat.sub_self, List.drop_eq_getElem_cons h, List.set_cons_zero]
  simp only [marksB, List.append_assoc, List.cons_append, List.nil_append]
theorem marksB_lt {k : Nat} {l : List (Fin 256)} {i : Nat} (h : i < l.length) : i < (marksB k i ++ l.drop i).length := by
  simp [marksB_len]; omega
theorem marksB_drop {k : Nat} {l : List (Fin 256)} {i : Nat} (h : i ≤ l.length) : (marksB k i ++ l.drop i).length = l.length := by
  simp [marksB_len]; omega
/-! ### A stack of slices of bytes: the table is a row, the slices lie in a pool -/
abbrev SB := List (V1 × List (Fin 256))
def bd : V1 × List (Fin 256) := (⟨.slice none 0 0, rfl⟩, [])
def valsB (l : SB) : Rw := .vals (l.map (·.1.1)) (by intro v hv; obtain ⟨p, _, rfl⟩ := List.mem_map.1 hv; exact p.1.2)
theorem valsB_len (l : SB) : (valsB l).len = l.length := by simp [valsB, Rw.len]
theorem valsB_take (l : SB) (n : Nat) : (valsB l).takeR n = valsB (l.take n) := by simp [valsB, Rw.takeR, List.map_take]
theorem valsB_app (l l' : SB) : (valsB l).app (valsB l') = some (valsB (l ++ l')) := by simp [valsB, Rw.app]
def pool (E2 : Nat) (l : SB) : Ent := .any (l.flatMap fun p => sblk p.1.1) [] (fun w => ∀ p ∈ l, OwnP p.1.1 E2 (.u8s p.2) w)
  (fun w w' h hb => fun p hp => (h p hp).stays fun k hk hl => hb k (.inl (List.mem_flatMap.2 ⟨p, hp, hk⟩)) hl)
  (fun w h k hk => by
    obtain ⟨p, hp, hk⟩ := List.mem_flatMap.1 (hk.resolve_right (by simp))
    exact (h p hp).lt k hk)
theorem bd_mem {l : SB} {j : Nat} (h : j < l.length) : l.getD j bd ∈ l := by
  simp only [List.getD, List.getElem?_eq_getElem h, Option.getD_some]
  exact List.getElem_mem h
theorem Rds.poolI {s : St} {E2 : Nat} {l : SB} {j : Nat} (m : Gx.pool E2 l ∈ s.hp) (hj : j < l.length) : Rds s (l.getD j bd).1.1 (.u8s (l.getD j bd).2) := fun w h => OwnP.rd ((show ∀ p ∈ l, OwnP p.1.1 E2 (.u8s p.2) w from h.all _ m) _ (bd_mem hj))
theorem Vw.poolI {R : List Ent} {E2 : Nat} {l : SB} {j : Nat} {r : Rw} (m : Gx.pool E2 l ∈ R) (hj : j < l.length) (hr : r = .u8s (l.getD j bd).2) : Vw R [Gx.rd (l.getD j bd).1.1 r] := by
  subst hr
  exact Vw.one m rfl (fun k hk => .inl (List.mem_flatMap.2 ⟨_, bd_mem hj, rdK_sub k hk⟩)) fun w h => OwnP.rd ((show ∀ p ∈ l, OwnP p.1.1 E2 (.u8s p.2) w from h) _ (bd_mem hj))
theorem pool_nil {E2 : Nat} : ∀ w, (pool E2 []).ok w := fun w p hp => by cases hp
theorem pool_eq {E2 : Nat} {l l' : SB} (h : l = l') : ∀ w, (pool E2 l).ok w → (pool E2 l').ok w := by subst h; exact fun w h => h
theorem sub_fm {α β : Type} {f : α → List β} {A B : List α} (h : A.Sublist B) : (A.flatMap f).Sublist (B.flatMap f) := by
  induction h with
  | slnil => exact List.Sublist.refl _
  | cons a h ih => rw [List.flatMap_cons]; exact ih.trans (List.sublist_append_right _ _)
  | cons_cons a h ih => rw [List.flatMap_cons, List.flatMap_cons]; exact (List.Sublist.refl _).append ih
section
variable {E : Env} {s : St} {dst : Option Nat} {ty : TypeId} {ps : String} {af : Array Edge} {gd : Option (Nat × Bool)}
theorem q_load_bs {x : Operand} {b e cap EE T j : Nat} {i : TI} {S : SB} (ht : E.tt T = some i) (hx : ev s x = some (.ptr b 0 (some e))) (hm : Ent.row b cap EE (valsB S) ∈ s.hp) (he : e = mulS j i.size) (hj : j < S.length) (h2 : 1 = i.size) (h3 : false = i.td.ag) :
    Qt E ⟨dst, .load T x, ty, ps, af, gd⟩ s (.raw (S.getD j bd).1.1 (S.getD j bd).1.2) := by
  refine (q_load_row ht hx hm he rfl (by simpa [valsB] using hj) h2 h3).eq ?_
  simp only [D.val, List.getD, List.getElem?_map, List.getElem?_eq_getElem hj, Option.map_some, Option.getD_some]
/-- One more slice in the pool, and only some of those that were there. -/
theorem W_pool {E2 : Nat} {S S' : SB} (u : V1) (li : List (Fin 256)) {e3 : Ent} {c : Code} {Q : Exit → St → Prop} {R : List Ent} (hd : HpDels [e3, pool E2 S] s.hp R) (hk3 : e3.wkey = sblk u.1) (hr3 : e3.rkey = []) (ho3 : ∀ w, e3.ok w → OwnP u.1 E2 (.u8s li) w) (hs : S'.Sublist (S ++ [(u, li)]))
    (h : W E c Q ⟨s.tm, pool E2 S' :: R⟩) : W E c Q s := W_wk (s' := ⟨s.tm, pool E2 S' :: R⟩) (fun a w ho => by
  have hp : s.hp.Perm (e3 :: pool E2 S :: R) := hd.perm
  have hH := ho.hp.perm hp
  have kw : (wkeys s.hp).Perm (sblk u.1 ++ ((S.flatMap fun p => sblk p.1.1) ++ wkeys R)) := by
    have := wkeys_perm hp
    rwa [show wkeys (e3 :: pool E2 S :: R) = sblk u.1 ++ ((S.flatMap fun p => sblk p.1.1) ++ wkeys R) by rw [← hk3]; rfl] at this
  have kr : (rkeys s.hp).Perm (rkeys R) := by
    have := rkeys_perm hp
    rwa [show rkeys (e3 :: pool E2 S :: R) = rkeys R by show e3.rkey ++ ([] ++ rkeys R) = _; rw [hr3]; rfl] at this
  have hsub : ((S'.flatMap fun p => sblk p.1.1) ++ wkeys R).Sublist (((S ++ [(u, li)]).flatMap fun p => sblk p.1.1) ++ wkeys R) := List.Sublist.append (sub_fm hs) (List.Sublist.refl _)
  have kp : (sblk u.1 ++ ((S.flatMap fun p => sblk p.1.1) ++ wkeys R)).Perm (((S ++ [(u, li)]).flatMap fun p => sblk p.1.1) ++ wkeys R) := by
    rw [List.flatMap_append]
    simp only [List.flatMap_cons, List.flatMap_nil, List.append_nil]
    rw [← List.append_assoc]
    exact List.perm_append_comm.append_right _
  have nd := (kp.nodup_iff.1 (kw.nodup_iff.1 ho.hp.nodup)).sublist hsub
  have iw : ∀ b, b ∈ (S'.flatMap fun p => sblk p.1.1) ++ wkeys R → b ∈ wkeys s.hp := fun b hb => kw.symm.subset (kp.symm.subset (hsub.subset hb))
  refine ⟨ho.size, ho.defers, ho.tm, ⟨fun x hx => ?_, nd, fun b hb hb' => ?_⟩, ⟨ho.fr.os, ho.fr.tape, ho.fr.output, ho.fr.size, ho.fr.block, fun b hb => ho.fr.own b (iw b hb)⟩⟩
  · rcases List.mem_cons.1 hx with rfl | hx
    · intro p hp'
      rcases List.mem_append.1 (hs.subset hp') with hp' | hp'
      · exact (show ∀ p ∈ S, OwnP p.1.1 E2 (.u8s p.2) w from hH.all (pool E2 S) (by simp)) p hp'
      · rw [List.mem_singleton.1 hp']; exact ho3 w (hH.all e3 (by simp))
    · exact hH.all x (by simp [hx])
  · have hb1 : b ∈ rkeys R := hb
    exact ho.hp.apart b (kr.symm.subset hb1) (iw b hb')) h
/-- One slice taken out of the pool, the others given up. -/
theorem W_pick {E2 : Nat} {S : SB} {j : Nat} {c : Code} {Q : Exit → St → Prop} {R : List Ent} (hj : j < S.length) (hd : HpDels [pool E2 S] s.hp R) (h : W E c Q ⟨s.tm, own (S.getD j bd).1.1 E2 (.u8s (S.getD j bd).2) :: R⟩) : W E c Q s := W_wk (s' := ⟨s.tm, own (S.getD j bd).1.1 E2 (.u8s (S.getD j bd).2) :: R⟩) (fun a w ho => by
  have hp : s.hp.Perm (pool E2 S :: R) := hd.perm
  have hH := ho.hp.perm hp
  have kw : (wkeys s.hp).Perm ((S.flatMap fun p => sblk p.1.1) ++ wkeys R) := wkeys_perm hp
  have kr : (rkeys s.hp).Perm (rkeys R) := (show (rkeys s.hp).Perm (rkeys (pool E2 S :: R)) from rkeys_perm hp)
  have hsub : (sblk (S.getD j bd).1.1 ++ wkeys R).Sublist ((S.flatMap fun p => sblk p.1.1) ++ wkeys R) := by
    refine List.Sublist.append ?_ (List.Sublist.refl _)
    have h1 : [S.getD j bd].Sublist S := List.singleton_sublist.2 (bd_mem hj)
    have h2 := sub_fm (f := fun p : V1 × List (Fin 256) => sblk p.1.1) h1
    simpa using h2
  have nd := (kw.nodup_iff.1 ho.hp.nodup).sublist hsub
  have iw : ∀ b, b ∈ sblk (S.getD j bd).1.1 ++ wkeys R → b ∈ wkeys s.hp := fun b hb => kw.symm.subset (hsub.subset hb)
  refine ⟨ho.size, ho.defers, ho.tm, ⟨fun x hx => ?_, nd, fun b hb hb' => ?_⟩, ⟨ho.fr.os, ho.fr.tape, ho.fr.output, ho.fr.size, ho.fr.block, fun b hb => ho.fr.own b (iw b hb)⟩⟩
  · rcases List.mem_cons.1 hx with rfl | hx
    · exact (show ∀ p ∈ S, OwnP p.1.1 E2 (.u8s p.2) w from hH.all (pool E2 S) (by simp)) _ (bd_mem hj)
    · exact hH.all x (by simp [hx])
  · have hb1 : b ∈ rkeys R := hb
    exact ho.hp.apart b (kr.symm.subset hb1) (iw b hb')) h
end
end Gx
end Go.Proofs.Ytjihhcjpbcmjaaa
