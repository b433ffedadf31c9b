/- Slices that may be empty: compared with nil, appended. No conditions but those in the statements. -/
import Derived.Deep.Upon
import Derived.Test.YtjihhcjpbcmjaaaFGGx33
namespace Go.Proofs.Ytjihhcjpbcmjaaa
open Go
namespace Gx
set_option linter.unusedVariables false
section
variable {E : Env} {s : St} {dst : Option Nat} {ty : TypeId} {ps : String} {af : Array Edge} {gd : Option (Nat × Bool)} {k : Nat} {K : St → Prop}
/-- append at a slice of the call's own, of what may be nothing. -/
theorem x_appendZ {T el : Nat} {x y : Operand} {ei : TI} {sz by_ : Nat} {z dy : D} {r r2 q : Rw} {v : Value} {hv : v.oneCell' = true} {R : List Ent} {hp' : V1 → List Ent} {tys : Array TypeId} (htys : tys = #[T, T]) (ht : E.tt T = some ⟨.slice el, sz, by_, z⟩) (h3 : E.tt el = some ei) (hz : Nat.beq ei.size 0 = false)
    (hx : ev s x = some (.raw v hv)) (hy : ev s y = some dy) (hr2 : Rds s dy.val r2) (hq : r.app r2 = some q) (hrs : r.size = ei.size) (hd : HpDels [own v el r] s.hp R) (hi : ∀ v' : V1, HpDels [own v'.1 el q] (hp' v') R)
    (hb : (r.len + r2.len) * ei.bytes ≤ 140737488355328) (hb2 : r.len + r2.len ≤ 140737488355328) (hk : k < E.n) (h : ∀ v' : V1, K ⟨(k, .raw v'.1 v'.2) :: s.tm, hp' v'⟩) :
    Xt E ⟨some k, .call { callee := .builtin .append, args := #[x, y], argTypes := tys }, ty, ps, af, gd⟩ s K := by
  by_cases hm0 : 0 < r2.len
  · exact x_appendO htys ht h3 hz hx hy hr2 hq hm0 hrs hd hi hb hb2 hk h
  · refine xt_value fun a w ho => ?_
    subst htys
    obtain ⟨d, hd0, hm⟩ := tt_underlying ht
    simp only [TD.met] at hm
    subst hm
    obtain ⟨xi, hxi, e1, e2, e3⟩ := tt_info h3
    obtain ⟨q1, q2, q3, q4⟩ := Rw.app_ok hq
    have hH := ho.hp.perm hd.perm
    have hown : OwnP v el r w := hH.all (own v el r) (by simp)
    have hl0 : r2.len = 0 := by omega
    have hc0 : r2.cells = [] := List.eq_nil_of_length_eq_zero (by rw [Rw.length_cells, hl0, Nat.zero_mul])
    have hown' : OwnP v el q w := by
      unfold OwnP at hown ⊢
      rw [q1, q2, q3, hl0, hc0, List.append_nil, Nat.add_zero]; exact hown
    have hrun : (Builtin.append_ #[T, T] ty #[v, dy.val]).run E.P w = .ok v w := by
      have hsrc : Src E.P xi.size T dy.val 0 [] w := by
        rcases hr2 w ho.hp with ⟨h1, _⟩ | ⟨ad, c2, h1, _, _⟩
        · rw [h1]
          exact ⟨.inl ⟨_, hd0⟩, fun w' => rfl, rfl, rfl, by simp, by simp⟩
        · rw [h1, hl0]
          exact ⟨.inl ⟨_, hd0⟩, fun w' => rfl, run_firstCells_some _ xi.size 0 ad 0 c2 [] (by simp) (fun j v h => by simp at h), run_firstCells_some _ xi.size 0 ad 0 c2 [] (by simp) (fun j v h => by simp at h), by simp, by simp⟩
      rcases hown.2 with ⟨h1, h2⟩ | ⟨g, cap, cur, h1, _, _, h4, _⟩
      · rw [h1]; exact run_append_nothing w T T ty el xi hd0 hxi none 0 0 (Nat.le_refl _) _ hsrc
      · rw [h1]; exact run_append_nothing w T T ty el xi hd0 hxi _ _ _ h4 _ hsrc
    refine ⟨_, w, ?_, _, h ⟨v, hv⟩, ((ho.turn (A := [_]) (B := [_]) hd.perm (hi ⟨v, hv⟩).perm (fun en hen => by rw [List.mem_singleton.1 hen]; exact hown') ?_ rfl (fun q hq hn => rfl) (fun q hq => .inl hq) rfl rfl rfl (Nat.le_refl _)).put (d := .raw v hv) hk)⟩
    · simp only [execOp, resolve, invoke, builtin, Sem.run_bind, Sem.run_pure, Result.andThen_ok, List.map_toArray, List.map_cons, List.map_nil, ho.ev hx, ho.ev hy]
      simp only [D.val, hrun, Result.andThen_ok]
    · simp only [wkeys, own, Ent.wkey, List.append_nil]
      exact sblk_nodup _
end
end Gx
end Go.Proofs.Ytjihhcjpbcmjaaa
