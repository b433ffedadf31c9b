/- Slices that lie in an array of a struct: a pool of owned slices of rows; an element of a slice of levels. No conditions but those in the statements. -/
import Derived.Test.YtjihhcjpbcmjaaaFGGx20
import Derived.Test.YtjihhcjpbcmjaaaFGGx28
import Derived.Test.YtjihhcjpbcmjaaaFGGx37
import Derived.Test.YtjihhcjpbcmjaaaFGGx34
namespace Go.Proofs.Ytjihhcjpbcmjaaa
open Go
namespace Gx
set_option linter.unusedVariables false
/-- Some entries stand for others of the same blocks. -/
theorem Wk_swap {E : Env} {s : St} {A B R : List Ent} (hd : HpDels A s.hp R) (kw : (wkeys A).Perm (wkeys B)) (rB : rkeys B = []) (hok : ∀ w, (∀ e ∈ A, e.ok w) → ∀ e ∈ B, e.ok w) : Wk E s ⟨s.tm, B ++ R⟩ := fun a w ho => by
  have hp : s.hp.Perm (A ++ R) := hd.perm
  have hH := ho.hp.perm hp
  have kw' : (wkeys s.hp).Perm (wkeys (B ++ R)) := by
    refine (wkeys_perm hp).trans ?_
    rw [wkeys_append, wkeys_append]
    exact kw.append_right _
  have kr : ∀ b, b ∈ rkeys (B ++ R) → b ∈ rkeys s.hp := fun b hb => by
    rw [rkeys_append, rB, List.nil_append] at hb
    exact (rkeys_perm hp).symm.subset (by rw [rkeys_append]; exact List.mem_append_right _ hb)
  refine ⟨ho.size, ho.defers, ho.tm, ⟨fun x hx => ?_, kw'.nodup_iff.1 ho.hp.nodup, fun b hb hb' => ho.hp.apart b (kr b hb) (kw'.symm.subset hb')⟩, ⟨ho.fr.os, ho.fr.tape, ho.fr.output, ho.fr.size, ho.fr.block, fun b hb => ho.fr.own b (kw'.symm.subset hb)⟩⟩
  rcases List.mem_append.1 hx with hx | hx
  · exact hok w (fun e he => hH.all e (List.mem_append_left _ he)) x hx
  · exact hH.all x (List.mem_append_right _ hx)
theorem W_swap {E : Env} {c : Code} {Q : Exit → St → Prop} {s : St} {A B R : List Ent} (hd : HpDels A s.hp R) (kw : (wkeys A).Perm (wkeys B)) (rB : rkeys B = []) (hok : ∀ w, (∀ e ∈ A, e.ok w) → ∀ e ∈ B, e.ok w)
    (h : W E c Q ⟨s.tm, B ++ R⟩) : W E c Q s := W_wk (Wk_swap hd kw rB hok) h
abbrev Rws := Nat → List (Nat → Fin 256)
def gvF (y : Nat → V1) : Nat → Value := fun j => (y j).1
theorem gvH (y : Nat → V1) : ∀ i, (gvF y i).oneCell' = true := fun i => (y i).2
def poolL (ks : List Nat) (EE : Nat) (y : Nat → V1) (md : Rws) : Ent := .any (ks.flatMap fun k => sblk (y k).1) [] (fun w => ∀ k ∈ ks, OwnP (y k).1 EE (.arrs 10 (md k)) w)
  (fun w w' h hb => fun k hk => (h k hk).stays fun b hb' hl => hb b (.inl (List.mem_flatMap.2 ⟨k, hk, hb'⟩)) hl)
  (fun w h b hb => by
    obtain ⟨k, hk, hb⟩ := List.mem_flatMap.1 (hb.resolve_right (by simp))
    exact (h k hk).lt b hb)
abbrev ks10 : List Nat := List.range 10
def poolG (EE : Nat) (y : Nat → V1) (md : Rws) : Ent := poolL ks10 EE y md
theorem Rds.poolG {s : St} {EE k : Nat} {y : Nat → V1} {md : Rws} (m : Gx.poolG EE y md ∈ s.hp) (hk : k < 10) : Rds s (gvF y k) (.arrs 10 (md k)) := fun w h => OwnP.rd ((show ∀ k ∈ ks10, OwnP (y k).1 EE (.arrs 10 (md k)) w from h.all _ m) k (List.mem_range.2 hk))
theorem W_poolOut {E : Env} {c : Code} {Q : Exit → St → Prop} {s : St} {R : List Ent} {EE k : Nat} {y : Nat → V1} {md : Rws} (hk : k < 10) (hd : HpDels [Gx.poolG EE y md] s.hp R)
    (h : W E c Q ⟨s.tm, own (gvF y k) EE (.arrs 10 (md k)) :: poolL (ks10.erase k) EE y md :: R⟩) : W E c Q s := by
  have hp : ks10.Perm (k :: ks10.erase k) := List.perm_cons_erase (List.mem_range.2 hk)
  refine W_swap (B := [own (gvF y k) EE (.arrs 10 (md k)), poolL (ks10.erase k) EE y md]) hd ?_ rfl (fun w hA e he => ?_) h
  · show ((ks10.flatMap fun k => sblk (y k).1) ++ []).Perm (sblk (y k).1 ++ (((ks10.erase k).flatMap fun k => sblk (y k).1) ++ []))
    rw [List.append_nil, List.append_nil]
    exact (hp.flatMap_right _).trans (by rw [List.flatMap_cons])
  · have h0 : ∀ k ∈ ks10, OwnP (y k).1 EE (.arrs 10 (md k)) w := hA (Gx.poolG EE y md) (by simp)
    simp only [List.mem_cons, List.not_mem_nil, or_false] at he
    rcases he with rfl | rfl
    · exact h0 k (List.mem_range.2 hk)
    · exact fun j hj => h0 j (List.mem_of_mem_erase hj)
theorem W_poolIn {E : Env} {c : Code} {Q : Exit → St → Prop} {s : St} {R : List Ent} {EE k : Nat} {y : Nat → V1} {md : Rws} (v : V1) (l : List (Nat → Fin 256)) (hk : k < 10) (hd : HpDels [own v.1 EE (.arrs 10 l), poolL (ks10.erase k) EE y md] s.hp R)
    (h : W E c Q ⟨s.tm, Gx.poolG EE (fun j => if j = k then v else y j) (fun j => if j = k then l else md j) :: R⟩) : W E c Q s := by
  have hp : ks10.Perm (k :: ks10.erase k) := List.perm_cons_erase (List.mem_range.2 hk)
  have hne : ∀ j, j ∈ ks10.erase k → j ≠ k := fun j hj e => by subst e; exact (List.nodup_range (n := 10)).not_mem_erase hj
  refine W_swap (B := [Gx.poolG EE (fun j => if j = k then v else y j) (fun j => if j = k then l else md j)]) hd ?_ rfl (fun w hA e he => ?_) h
  · show (sblk v.1 ++ (((ks10.erase k).flatMap fun k => sblk (y k).1) ++ [])).Perm ((ks10.flatMap fun j => sblk (if j = k then v else y j).1) ++ [])
    rw [List.append_nil, List.append_nil]
    refine List.Perm.trans ?_ (hp.flatMap_right _).symm
    rw [List.flatMap_cons, if_pos rfl]
    refine List.Perm.append_left _ (List.Perm.of_eq ?_)
    generalize ks10.erase k = js at hne
    induction js with
    | nil => rfl
    | cons a r ih => rw [List.flatMap_cons, List.flatMap_cons, if_neg (hne a (by simp)), ih fun j hj => hne j (by simp [hj])]
  · have h1 : OwnP v.1 EE (.arrs 10 l) w := hA (own v.1 EE (.arrs 10 l)) (by simp)
    have h2 : ∀ k' ∈ ks10.erase k, OwnP (y k').1 EE (.arrs 10 (md k')) w := hA (poolL (ks10.erase k) EE y md) (by simp)
    rw [List.mem_singleton.1 he]
    intro j hj
    show OwnP (if j = k then v else y j).1 EE (.arrs 10 (if j = k then l else md j)) w
    by_cases e : j = k
    · rw [if_pos e, if_pos e]; exact h1
    · rw [if_neg e, if_neg e]; exact h2 j ((List.mem_erase_of_ne e).2 hj)
theorem ceq_varr {y : Nat → V1} {k : Nat} {v : V1} {f : Nat → Value} (hf : ∀ i, (f i).oneCell' = true) (h : ∀ j, j < 10 → f j = if j = k then v.1 else gvF y j) : (D.varr 10 f hf).cells = (D.varr 10 (gvF fun j => if j = k then v else y j) (gvH _)).cells := by
  simp only [D.cells]
  refine List.map_congr_left fun j hj => ?_
  rw [h j (List.mem_range.1 hj)]
  by_cases e : j = k
  · rw [if_pos e]; show _ = (if j = k then v else y j).1; rw [if_pos e]
  · rw [if_neg e]; show _ = (if j = k then v else y j).1; rw [if_neg e]; rfl
theorem ceq_gs {a c d : D} {y : Nat → V1} {k : Nat} {v : V1} {f : Nat → Value} {hf : ∀ i, (f i).oneCell' = true} (h : ∀ j, j < 10 → f j = if j = k then v.1 else gvF y j) : (D.agg [a, .varr 10 f hf, c, d]).cells = (D.agg [a, .varr 10 (gvF fun j => if j = k then v else y j) (gvH _), c, d]).cells := by
  simp only [D.cells, D.cellsL]
  have := ceq_varr (y := y) (k := k) (v := v) hf h
  simp only [D.cells] at this
  rw [this]
section
variable {E : Env} {s : St} {dst : Option Nat} {ty : TypeId} {ps : String} {af : Array Edge} {gd : Option (Nat × Bool)}
theorem q_ixLev {x y : Operand} {v : Value} {hv : v.oneCell' = true} {l : List Lv} {T el : Nat} {kk : IntKind} {i : Int} {sz by_ : Nat} {z : D} {ei : TI} (j : Nat) (ht : E.tt T = some ⟨.slice el, sz, by_, z⟩) (h3 : E.tt el = some ei) (h4 : ei.size = 111) (hx : ev s x = some (.raw v hv)) (hr : Rds s v (.levs l))
    (hy : evI s y = some (kk, i)) (hj : i = (j : Int)) (hi : j < l.length) : Qt E ⟨dst, .indexAddr T x y, ty, ps, af, gd⟩ s (.raw (ptrAt v (111 * j)) (ptrAt_one _ _)) := by
  have h := q_ixR (dst := dst) (ty := ty) (ps := ps) (af := af) (gd := gd) j ht h3 hx hr hy hj hi rfl
  refine h.eq ?_
  show ptrAt v (mulS j ei.size) = ptrAt v (111 * j)
  rw [mulS_eq, h4, Nat.mul_comm]
/-- A whole level. -/
theorem q_lev {x : Operand} {v : Value} {e T k : Nat} {hv : (ptrAt v e).oneCell' = true} {i : TI} {l : List Lv} (ht : E.tt T = some i) (hx : ev s x = some (.raw (ptrAt v e) hv)) (hr : Rds s v (.levs l)) (he : e = 111 * k) (hk : k < l.length) (h2 : 111 = i.size) (h3 : true = i.td.ag) :
    Qt E ⟨dst, .load T x, ty, ps, af, gd⟩ s (.agg [.int .i64 (l.getD k lv0).1, .barr 10 (l.getD k lv0).2.1, .arr8 100 (l.getD k lv0).2.2]) := q_loadC ht hx hr (by show 0 < l.length; omega) rfl (fun q hq => by
  subst he
  exact levs_cell hk (by omega)) h2 h3 rfl
/-- Appending what may be empty to a slice of the call's own. -/
theorem x_appendZr {K : St → Prop} {k t b n cap : Nat} {T el : Nat} {y : Operand} {ei : TI} {sz by_ : Nat} {z dy : D} {r r2 q : Rw} {R : List Ent} {hp' : V1 → List Ent} {tys : Array TypeId} (htys : tys = #[T, T]) (ht : E.tt T = some ⟨.slice el, sz, by_, z⟩) (h3 : E.tt el = some ei) (hz : Nat.beq ei.size 0 = false)
    (hx : get s.tm t = some (.sl b 0 n cap)) (hn : n = r.len) (hy : ev ⟨(t, .raw (slv b n cap).1 (slv b n cap).2) :: s.tm, s.hp⟩ y = some dy) (hr2 : Rds ⟨s.tm, own (slv b n cap).1 el r :: R⟩ dy.val r2) (hq : r.app r2 = some q) (hrs : r.size = ei.size) (hd : HpDels [.row b cap el r] s.hp R) (hi : ∀ v' : V1, HpDels [own v'.1 el q] (hp' v') R)
    (hb : (r.len + r2.len) * ei.bytes ≤ 140737488355328) (hb2 : r.len + r2.len ≤ 140737488355328) (hk : k < E.n) (h : ∀ v' : V1, K ⟨(k, .raw v'.1 v'.2) :: (t, .raw (slv b n cap).1 (slv b n cap).2) :: s.tm, hp' v'⟩) :
    Xt E ⟨some k, .call { callee := .builtin .append, args := #[.tmp t, y], argTypes := tys }, ty, ps, af, gd⟩ s K := fun a w ho Kw Q hKw => by
  have h1 : ok E ⟨s.tm, own (slv b n cap).1 el r :: R⟩ a w := Wk_swap (B := [own (slv b n cap).1 el r]) hd (by show ([b] ++ []).Perm (sblk (slv b n cap).1 ++ []); exact .refl _) rfl (fun w hA e he => by
    rw [List.mem_singleton.1 he]
    exact own_of_row hn rfl w (hA _ (by simp))) a w ho
  have h2 : ok E ⟨(t, .raw (slv b n cap).1 (slv b n cap).2) :: s.tm, own (slv b n cap).1 el r :: R⟩ a w := h1.same (d' := .raw (slv b n cap).1 (slv b n cap).2) hx rfl
  have h4 : ev ⟨(t, .raw (slv b n cap).1 (slv b n cap).2) :: s.tm, own (slv b n cap).1 el r :: R⟩ (.tmp t) = some (.raw (slv b n cap).1 (slv b n cap).2) := by
    show get _ t = _
    rw [get_cons, if_pos rfl]
  have hy' : ev ⟨(t, .raw (slv b n cap).1 (slv b n cap).2) :: s.tm, own (slv b n cap).1 el r :: R⟩ y = some dy := by
    cases y <;> exact hy
  exact x_appendZ (hp' := hp') htys ht h3 hz h4 hy' hr2 hq hrs (.cons .head .nil) hi hb hb2 hk h a w h2 Kw Q hKw
end
end Gx
end Go.Proofs.Ytjihhcjpbcmjaaa
