/-
  From a walk's contract to a law's statement: the arguments opened into data, and the row's end for a law that hands back true and leaves its arguments as they were. No conditions but those in the statements.
-/
import Derived.Test.YtebcapplclgaeadGx6
import Derived.WalkKit
import Derived.ProofKit
import Derived.OpenShut
import Derived.Carry
namespace Go.Proofs.Ytebcapplclgaead.Gx
open Go Go.ChangeShapes Go.WideShapes Go.ChangeAt Go.RowKit
set_option linter.unusedVariables false

section
variable {H : Type} {enc : TypeId × Value → H} {P : Program}
/-- The arguments read behind the call as they did before. -/
theorem trodAll_carry (hl : laidOutB P = true) {W W' : World} (hb : Below W.heap.size W W') {sp : Nat → Bool} : ∀ {ts : List TypeId} {vs : List Value} {ds : List (DataW H)} {ps : List MemPlace},
    (∀ t ∈ ts, P.readableRec t = true ∧ t < P.types.size) → DataW.TrodAll enc P W 0 (fun _ => true) true ts vs ds ps → (∀ p ∈ ps, p.block < W.heap.size ∧ sp p.block = true) →
    DataW.TrodAll enc P W' 0 sp true ts vs ds ps
  | [], _, _, _, _, h, _ => by
    obtain ⟨rfl, rfl, rfl⟩ := trodAll_nil h
    exact trodAll_mk0
  | t :: ts, _, _, _, hr, h, hp => by
    obtain ⟨v, vs', d, ds', p, q, rfl, rfl, rfl, h1, h2⟩ := trodAll_cons h
    have a := hr t (by simp)
    exact trodAll_cons_mk (WideElems.Trod_stays hl a.1 a.2 h1 (fun x hx => hb.same (hp x (by simp [hx])).1) (fun x hx => (hp x (by simp [hx])).2))
      (trodAll_carry hl hb (fun t ht => hr t (by simp [ht])) h2 fun x hx => hp x (by simp [hx]))

/-- The end of a law's row: true, and the arguments as they were. -/
theorem law_post {f : Func} {s : ChangeSpec} {apart fresh handsOn again : Bool} {W W' : World} {args : Array Value} {ds gs : List (DataW H)} {before : List MemPlace} {tb : TypeId}
    (hl : laidOutB P = true) (hr : ∀ t ∈ f.params.toList, P.readableRec t = true ∧ t < P.types.size) (hvs : s.vars = []) (hrt : f.resultTypes = #[tb]) (htb : P.underlying tb = some .bool)
    (hW : DataW.Whole enc P f.params.toList s.vars apart W args.toList ds gs before)
    (hfn : s.fn H (ds ++ gs) = { results := [.lit (.bool true)], args := ds }) (hb : Below W.heap.size W W') :
    s.post enc P f apart fresh handsOn again W args (.bool true) W' := by
  have hlt := hW.lt
  have hW0 := hW
  obtain ⟨p, q, hA, hV, rfl, hz, hn⟩ := hW
  rw [hvs] at hV
  obtain ⟨rfl, rfl⟩ := trodVars_none hV
  rw [List.append_nil] at hlt hz hn
  have hres : ∀ (b : Nat) (sp : Nat → Bool) (hd : Bool), DataW.TrodAll enc P W' b sp hd f.resultTypes.toList ((Value.bool true).resultList f.resultTypes.size) (s.fn H (ds ++ [])).results [] := by
    intro b sp hd
    rw [hrt, hfn]
    exact trodAll_cons_mk (p := []) (p' := []) (shut_bool htb true) trodAll_mk0
  have hargs : ∀ sp : Nat → Bool, (∀ x ∈ p, sp x.block = true) → DataW.TrodAll enc P W' 0 sp true f.params.toList args.toList (s.fn H (ds ++ [])).args p := by
    intro sp hsp
    rw [hfn]
    exact trodAll_carry hl hb hr hA fun x hx => ⟨hlt x hx, hsp x hx⟩
  have hvars : ∀ sp : Nat → Bool, DataW.TrodVars enc P W' sp s.vars (s.fn H (ds ++ [])).vars [] := by
    intro sp
    rw [hvs, hfn]
    rfl
  rw [List.append_nil] at hW0
  refine ⟨ds, [], p, [], p, [], hW0, hres _ _ _, hargs _ (fun x hx => by simpa using hlt x hx), hvars _, hb.frame _, fun _ => ?_⟩
  refine ⟨ok_one hrt rfl (okWide_bool_mk htb true), _, _, ([] ++ p) ++ [], ⟨[] ++ p, [], trodAll_append (hargs _ (fun _ _ => rfl)) (hres _ _ _), hvars _, rfl, ?_, ?_⟩, ?_⟩
  · intro b off hp
    have hp' : MemPlace.cell b off ∈ p := by simpa using hp
    rw [hb.frozen (p := ⟨b, off, none⟩) (hlt _ hp')]
    exact hz b off hp'
  · intro ha
    have := hn ha
    simpa using this
  · intro x hx _
    simpa using hx
end

theorem HpOk.none {w : World} : HpOk [] w := ⟨by simp, by simp [wkeys], by simp [wkeys]⟩

/-! ### The arguments opened -/
section
variable {P : Program} {w : World} {r : Reach} {b : Nat}
inductive Cs (P : Program) (w : World) (r : Reach) (b : Nat) : List TypeId → List Value → Prop
  | nil : Cs P w r b [] []
  | cons {u v us vs} : Cell.okWide P w r b u v → Cs P w r b us vs → Cs P w r b (u :: us) (v :: vs)

theorem Cs.app : ∀ {x y : List TypeId} {cs : List Value}, Cs P w r b (x ++ y) cs → ∃ a c, cs = a ++ c ∧ Cs P w r b x a ∧ Cs P w r b y c
  | [], _, _, h => ⟨[], _, rfl, .nil, h⟩
  | _ :: _, _, _, .cons h1 h2 => by
    obtain ⟨a, c, rfl, h3, h4⟩ := Cs.app h2
    exact ⟨_ :: a, c, rfl, .cons h1 h3, h4⟩

theorem Cs.of : ∀ (ts : List TypeId) (cs : List Value), cs.length = ts.length → (∀ (i : Nat) v, cs[i]? = some v → ∃ u, ts[i]? = some u ∧ Cell.okWide P w r b u v) → Cs P w r b ts cs
  | [], [], _, _ => .nil
  | [], _ :: _, h, _ => by simp at h
  | _ :: _, [], h, _ => by simp at h
  | t :: ts, c :: cs, h, hh => by
    obtain ⟨u, hu, ho⟩ := hh 0 c rfl
    simp at hu
    subst hu
    exact .cons ho (Cs.of ts cs (by simpa using h) fun i v hv => by simpa using hh (i + 1) v (by simpa using hv))

theorem op_agg {t : TypeId} {ts : List TypeId} {v : Value} (ha : (∃ fs, P.underlying t = some (.struct fs)) ∨ ∃ n e, P.underlying t = some (.array n e)) (hc : P.cellTypes P.depth t = some ts)
    (hn : P.cellsOf t = ts.length) (hv : Value.okWide P w r b t v) : ∃ cs : List Value, v = .agg cs.toArray ∧ Cs P w r b ts cs := by
  have : ∃ cs : Array Value, v = .agg cs ∧ cs.size = P.cellsOf t ∧ Row.okWide P w r b t cs := by
    unfold Value.okWide at hv
    rcases ha with ⟨fs, h⟩ | ⟨n, e, h⟩ <;> rw [h] at hv <;> exact hv
  obtain ⟨cs, rfl, hs, ts', h1, _, h3⟩ := this
  rw [hc] at h1
  obtain rfl : ts = ts' := by simpa using h1
  refine ⟨cs.toList, by simp, Cs.of _ _ (by simpa using hs.trans hn) fun i v hi => ?_⟩
  have hlt : i < ts.length := by
    obtain ⟨h, _⟩ := List.getElem?_eq_some_iff.1 hi
    rw [← hn, ← hs]; simpa using h
  obtain ⟨u, hu, ho⟩ := h3 i v (by simpa using hi)
  rw [Nat.mod_eq_of_lt hlt] at hu
  exact ⟨u, hu, ho⟩

theorem cell_int {u : TypeId} {k : IntKind} {v : Value} (hu : P.underlying u = some (.int k)) (h : Cell.okWide P w r b u v) : ∃ n, v = .int k n ∧ inR k n := by
  unfold Cell.okWide at h
  rw [hu] at h
  unfold Cell.ok at h
  rw [hu] at h
  cases v <;> simp at h
  rename_i k' n
  obtain ⟨rfl, h⟩ := h
  refine ⟨n, rfl, ?_⟩
  unfold IntKind.has at h
  cases k' <;> simp [IntKind.min, IntKind.max, IntKind.signed, IntKind.bits] at h <;> simp only [inR] <;> omega

theorem cell_u8 {u : TypeId} {v : Value} (hu : P.underlying u = some (.int .u8)) (h : Cell.okWide P w r b u v) : ∃ x : Fin 256, v = .int .u8 (x.val : Int) := by
  obtain ⟨n, rfl, h1, h2⟩ := cell_int hu h
  exact ⟨⟨n.toNat, by omega⟩, by simp only [Value.int.injEq, true_and]; omega⟩

theorem Cs.u8s {u : TypeId} (hu : P.underlying u = some (.int .u8)) : ∀ {n : Nat} {cs : List Value}, Cs P w r b (List.replicate n u) cs → ∃ f : Nat → Fin 256, cs = (D.arr8 n f).cells
  | 0, _, .nil => ⟨fun _ => 0, rfl⟩
  | n + 1, _, .cons h1 h2 => by
    obtain ⟨x, rfl⟩ := cell_u8 hu h1
    obtain ⟨f, rfl⟩ := Cs.u8s hu h2
    refine ⟨fun i => if i = 0 then x else f (i - 1), ?_⟩
    simp [D.cells, List.range_succ_eq_map, Function.comp_def]

theorem Cs.one {u : TypeId} {cs : List Value} (h : Cs P w r b [u] cs) : ∃ v, cs = [v] ∧ Cell.okWide P w r b u v := by
  cases h with
  | cons h1 h2 => cases h2; exact ⟨_, rfl, h1⟩

theorem Cs.int {u : TypeId} {k : IntKind} {cs : List Value} (hu : P.underlying u = some (.int k)) (h : Cs P w r b [u] cs) : ∃ n, cs = (D.int k n).cells ∧ inR k n := by
  obtain ⟨v, rfl, h'⟩ := h.one
  obtain ⟨n, rfl, h''⟩ := cell_int hu h'
  exact ⟨n, rfl, h''⟩

theorem op_int {u : TypeId} {k : IntKind} {v : Value} (hu : P.underlying u = some (.int k)) (h : Value.okWide P w r b u v) : ∃ n, v = (D.int k n).val ∧ inR k n := by
  unfold Value.okWide at h
  rw [hu] at h
  obtain ⟨n, rfl, h'⟩ := cell_int hu h
  exact ⟨n, rfl, h'⟩

theorem op_u8 {u : TypeId} {v : Value} (hu : P.underlying u = some (.int .u8)) (h : Value.okWide P w r b u v) : ∃ x : Fin 256, v = (D.u8 x).val := by
  unfold Value.okWide at h
  rw [hu] at h
  obtain ⟨n, rfl⟩ := cell_u8 hu h
  exact ⟨n, rfl⟩

theorem op_arr8 {t u : TypeId} {n m : Nat} {e : TypeId} {v : Value} (ha : P.underlying t = some (.array m e)) (hc : P.cellTypes P.depth t = some (List.replicate n u)) (hn : P.cellsOf t = n)
    (hu : P.underlying u = some (.int .u8)) (hv : Value.okWide P w r b t v) : ∃ f : Nat → Fin 256, v = (D.arr8 n f).val := by
  obtain ⟨cs, rfl, h⟩ := op_agg (.inr ⟨_, _, ha⟩) hc (by simpa using hn) hv
  obtain ⟨f, rfl⟩ := h.u8s hu
  exact ⟨f, rfl⟩

/-- A struct of a number and n bytes. -/
theorem op_int_arr8 {t u u8 : TypeId} {k : IntKind} {n : Nat} {fs : Array Field} {v : Value} (ha : P.underlying t = some (.struct fs)) (hc : P.cellTypes P.depth t = some (u :: List.replicate n u8)) (hn : P.cellsOf t = n + 1)
    (hu : P.underlying u = some (.int k)) (hu8 : P.underlying u8 = some (.int .u8)) (hv : Value.okWide P w r b t v) : ∃ (x : Int) (f : Nat → Fin 256), v = (D.agg [.int k x, .arr8 n f]).val ∧ inR k x := by
  obtain ⟨cs, rfl, h⟩ := op_agg (.inl ⟨_, ha⟩) hc (by simpa using hn) hv
  obtain ⟨a, c, rfl, h1, h2⟩ := Cs.app (x := [u]) h
  obtain ⟨x, rfl, hx⟩ := h1.int hu
  obtain ⟨f, rfl⟩ := h2.u8s hu8
  exact ⟨x, f, by simp [D.val, D.cellsL], hx⟩

/-- A struct of three rows of bytes. -/
theorem op_arr8_3 {t u8 : TypeId} {n m k : Nat} {fs : Array Field} {v : Value} (ha : P.underlying t = some (.struct fs)) (hc : P.cellTypes P.depth t = some (List.replicate n u8 ++ (List.replicate m u8 ++ List.replicate k u8))) (hn : P.cellsOf t = n + (m + k))
    (hu8 : P.underlying u8 = some (.int .u8)) (hv : Value.okWide P w r b t v) : ∃ f g h : Nat → Fin 256, v = (D.agg [.arr8 n f, .arr8 m g, .arr8 k h]).val := by
  obtain ⟨cs, rfl, h⟩ := op_agg (.inl ⟨_, ha⟩) hc (by simpa using hn) hv
  obtain ⟨a, c, rfl, h1, h2⟩ := h.app
  obtain ⟨a2, c2, rfl, h2, h3⟩ := h2.app
  obtain ⟨f, rfl⟩ := h1.u8s hu8
  obtain ⟨g, rfl⟩ := h2.u8s hu8
  obtain ⟨q, rfl⟩ := h3.u8s hu8
  exact ⟨f, g, q, by simp [D.val, D.cellsL]⟩
end
end Go.Proofs.Ytebcapplclgaead.Gx
