/- Parts of rows that are appended to; appending to a slice of the call's own. No conditions but those in the statements. -/
import Derived.Test.YtjihhcjpbcmjaaaFGGx20
import Derived.Test.YtjihhcjpbcmjaaaFGGx14
namespace Go.Proofs.Ytjihhcjpbcmjaaa
open Go
namespace Gx
open Go.RowKit (Below)
set_option linter.unusedVariables false
section
variable {E : Env} {s : St} {dst : Option Nat} {ty : TypeId} {ps : String} {af : Array Edge} {gd : Option (Nat × Bool)} {k : Nat} {K : St → Prop}
/-- append(xs[:n], ..) at a row of the call's own that may be longer. -/
theorem x_append_t {T el b cap n m : Nat} {x y : Operand} {ei : TI} {sz by_ : Nat} {z dy : D} {r r2 q : Rw} {tys : Array TypeId} {hp' : Nat → Nat → List Ent} (htys : tys = #[T, T]) (ht : E.tt T = some ⟨.slice el, sz, by_, z⟩) (h3 : E.tt el = some ei) (hz : Nat.beq ei.size 0 = false)
    (hx : ev s x = some (.sl b 0 n cap)) (hy : ev s y = some dy) (hr : ∀ b' cap', HpRep (.row b cap el r) (.row b' cap' el q) s.hp (hp' b' cap')) (hr2 : Rds s dy.val r2) (hn : n ≤ r.len) (hq : (r.takeR n).app r2 = some q)
    (hm : m = r2.len) (hm0 : 0 < m) (hrs : r.size = ei.size) (hb : (n + m) * ei.bytes ≤ 140737488355328) (hb2 : n + m ≤ 140737488355328) (hk : k < E.n)
    (h : ∀ b' cap', K ⟨(k, .sl b' 0 (n + m) cap') :: s.tm, hp' b' cap'⟩) :
    Xt E ⟨some k, .call { callee := .builtin .append, args := #[x, y], argTypes := tys }, ty, ps, af, gd⟩ s K := xt_value fun a w ho => by
  subst htys; subst hm
  obtain ⟨d, hd, hm⟩ := tt_underlying ht
  simp only [TD.met] at hm
  subst hm
  obtain ⟨q1, q2, q3, q4⟩ := Rw.app_ok hq
  obtain ⟨t1, t2, t3⟩ := r.takeR_ok hn
  have hown0 : w.ownsRow 0 el r.size (.slice (some ⟨b, 0, none⟩) r.len cap) r.len r.cells := ho.hp.all _ (hr 0 0).mem
  have hown := ownsRow_take hown0 hn
  rw [t3, hrs] at hown q3 q4
  rw [t2] at q2
  rcases hr2 w ho.hp with ⟨_, h0⟩ | ⟨ad, c2, hve, hsp, hcell⟩
  · omega
  have hz2 : Nat.beq r2.size 0 = false := by rw [q4]; exact hz
  have hspn := hsp (cells_ne hm0 hz2)
  obtain ⟨ab, ao, asp⟩ := ad
  simp only at hspn
  subst hspn
  have hsrc : ∀ j u, r2.cells[j]? = some u → w.cell? ((⟨ab, ao, none⟩ : Addr).add j) = some u := fun j u hu => by
    rw [Addr.add_at]
    exact hcell j u hu
  obtain ⟨g, cap', w', r1, r2', r3, r4⟩ := run_append_rows E.P w T el ty hd (E.tok el ei h3) hz _ _ _ hown ⟨ab, ao, none⟩ r2.len c2 r2.cells (by rw [Rw.length_cells, q4]) hsrc (Rw.oneCell r2) hm0 hb hb2
  have hown' : w'.ownsRow 0 el q.size (.slice (some ⟨g, 0, none⟩) q.len cap') q.len q.cells := by
    rw [q1, q2, q3]; exact r2'
  refine ⟨_, w', ?_, _, h g cap', ((ho.rep (b := b) (b' := g) (hr g cap') rfl rfl rfl rfl hown' (fun j hj hne => r3.block j hj (by simpa [Value.ownBlock] using hne)) ?_ r3.os r3.tape r3.output r3.size).put (d := .sl g 0 (n + r2.len) cap') hk)⟩
  · simp only [execOp, resolve, invoke, builtin, Sem.run_bind, Sem.run_pure, Result.andThen_ok, List.map_toArray, List.map_cons, List.map_nil, ho.ev hx, ho.ev hy, hve]
    simp only [D.val, r1, Result.andThen_ok]
  · rcases r4 with r4 | r4
    · left; simpa [Value.ownBlock] using r4.symm
    · right; omega
/-- append at a slice of the call's own, whatever its block. -/
theorem x_appendO {T el : Nat} {x y : Operand} {ei : TI} {sz by_ : Nat} {z dy : D} {r r2 q : Rw} {v : Value} {hv : v.oneCell' = true} {R : List Ent} {hp' : V1 → List Ent} {tys : Array TypeId} (htys : tys = #[T, T]) (ht : E.tt T = some ⟨.slice el, sz, by_, z⟩) (h3 : E.tt el = some ei) (hz : Nat.beq ei.size 0 = false)
    (hx : ev s x = some (.raw v hv)) (hy : ev s y = some dy) (hr2 : Rds s dy.val r2) (hq : r.app r2 = some q) (hm0 : 0 < r2.len) (hrs : r.size = ei.size) (hd : HpDels [own v el r] s.hp R) (hi : ∀ v' : V1, HpDels [own v'.1 el q] (hp' v') R)
    (hb : (r.len + r2.len) * ei.bytes ≤ 140737488355328) (hb2 : r.len + r2.len ≤ 140737488355328) (hk : k < E.n) (h : ∀ v' : V1, K ⟨(k, .raw v'.1 v'.2) :: s.tm, hp' v'⟩) :
    Xt E ⟨some k, .call { callee := .builtin .append, args := #[x, y], argTypes := tys }, ty, ps, af, gd⟩ s K := xt_value fun a w ho => by
  subst htys
  obtain ⟨d, hd0, hm⟩ := tt_underlying ht
  simp only [TD.met] at hm
  subst hm
  obtain ⟨q1, q2, q3, q4⟩ := Rw.app_ok hq
  have hH := ho.hp.perm hd.perm
  have hown : OwnP v el r w := hH.all (own v el r) (by simp)
  unfold OwnP at hown
  rw [hrs] at hown q3 q4
  rcases hr2 w ho.hp with ⟨_, h0⟩ | ⟨ad, c2, hve, hsp, hcell⟩
  · omega
  have hz2 : Nat.beq r2.size 0 = false := by rw [q4]; exact hz
  have hspn := hsp (cells_ne hm0 hz2)
  obtain ⟨ab, ao, asp⟩ := ad
  simp only at hspn
  subst hspn
  have hsrc : ∀ j u, r2.cells[j]? = some u → w.cell? ((⟨ab, ao, none⟩ : Addr).add j) = some u := fun j u hu => by
    rw [Addr.add_at]
    exact hcell j u hu
  obtain ⟨g, cap', w', r1, r2', r3, r4⟩ := run_append_rows E.P w T el ty hd0 (E.tok el ei h3) hz _ _ _ hown ⟨ab, ao, none⟩ r2.len c2 r2.cells (by rw [Rw.length_cells, q4]) hsrc (Rw.oneCell r2) hm0 hb hb2
  have hown' : OwnP (.slice (some ⟨g, 0, none⟩) (r.len + r2.len) cap') el q w' := by
    unfold OwnP
    rw [q1, q2, q3]; exact r2'
  refine ⟨_, w', ?_, _, h ⟨.slice (some ⟨g, 0, none⟩) (r.len + r2.len) cap', rfl⟩, ((ho.turn (A := [_]) (B := [_]) hd.perm (hi ⟨.slice (some ⟨g, 0, none⟩) (r.len + r2.len) cap', rfl⟩).perm (fun en hen => by rw [List.mem_singleton.1 hen]; exact hown') ?_ rfl (fun q hq hn => r3.block q hq fun hc => hn ?_) (fun q hq => ?_) r3.os r3.tape r3.output r3.size).put (d := .raw (.slice (some ⟨g, 0, none⟩) (r.len + r2.len) cap') rfl) hk)⟩
  · simp only [execOp, resolve, invoke, builtin, Sem.run_bind, Sem.run_pure, Result.andThen_ok, List.map_toArray, List.map_cons, List.map_nil, ho.ev hx, ho.ev hy, hve]
    simp only [D.val, r1, Result.andThen_ok]
  · simp [wkeys, own, Ent.wkey, sblk]
  · have := (sblk_own v q).2 hc.symm
    simpa [wkeys, own, Ent.wkey] using this
  · have hqg : q = g := by simpa [wkeys, own, Ent.wkey, sblk] using hq
    subst hqg
    rcases r4 with r4 | r4
    · left; simpa [wkeys, own, Ent.wkey] using (sblk_own v q).2 r4
    · right; omega
end
section
variable {E : Env} {s : St} {dst : Option Nat} {ty : TypeId} {ps : String} {af : Array Edge} {gd : Option (Nat × Bool)} {k : Nat}
end
/-! ### Slices of strings -/
def strV (t : List (Fin 256)) : Value := .string (strB t)
def strsR (S : List (List (Fin 256))) : Rw := .vals (S.map strV) (by intro v hv; obtain ⟨t, _, rfl⟩ := List.mem_map.1 hv; rfl)
theorem strsR_len (S : List (List (Fin 256))) : (strsR S).len = S.length := by simp [strsR, Rw.len]
theorem strsR_take (S : List (List (Fin 256))) (n : Nat) : (strsR S).takeR n = strsR (S.take n) := by simp [strsR, Rw.takeR, List.map_take]
theorem strsR_app (S S' : List (List (Fin 256))) : (strsR S).app (strsR S') = some (strsR (S ++ S')) := by simp [strsR, Rw.app]
section
variable {E : Env} {s : St} {dst : Option Nat} {ty : TypeId} {ps : String} {af : Array Edge} {gd : Option (Nat × Bool)}
theorem q_load_str {x : Operand} {b e cap EE T j : Nat} {i : TI} {S : List (List (Fin 256))} (ht : E.tt T = some i) (hx : ev s x = some (.ptr b 0 (some e))) (hm : Ent.row b cap EE (strsR S) ∈ s.hp) (he : e = mulS j i.size) (hj : j < S.length) (h2 : 1 = i.size) (h3 : false = i.td.ag) :
    Qt E ⟨dst, .load T x, ty, ps, af, gd⟩ s (.raw (.string (strB (S.getD j []))) rfl) := by
  refine (q_load_row ht hx hm he rfl (by simpa using hj) h2 h3).eq ?_
  show (S.map strV).getD j .nilFunc = strV (S.getD j [])
  simp [List.getD, List.getElem?_map, List.getElem?_eq_getElem hj]
end
end Gx
end Go.Proofs.Ytjihhcjpbcmjaaa
