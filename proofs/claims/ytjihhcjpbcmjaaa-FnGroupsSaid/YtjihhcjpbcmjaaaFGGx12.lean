/- From a walk's contract to a law's statement: the arguments opened into data, and the row's end for a law that hands back true and leaves its arguments as they were. No conditions but those in the statements. Regions that draw their order, in which one new variable may be laid at any time beside operations that only read. No conditions but those in the statements. Arrays of bytes compared; no conditions but those in the statements. Calls that turn one variable of the caller's, and hand back a value; no conditions but those in the statements. Stores into rows that the call owns; no conditions but those in the statements. Slices as values: slices that are read (nil or not), slices that the call owns; turning several entries at once; calls that hand back or turn such slices. No conditions but those in the statements. Regions whose order Go leaves open and that only look: one test of all pairs, cheap enough for long regions. No conditions but those in the statements. -/
import Derived.Test.YtjihhcjpbcmjaaaFGGx6
import Derived.WalkKit
import Derived.ProofKit
import Derived.OpenShut
import Derived.Carry
import Derived.DeepKeys
import Derived.ChangeSlices
import Derived.Laws.MakeOwn
namespace Go.Proofs.Ytjihhcjpbcmjaaa.Gx
open Go Go.ChangeShapes Go.WideShapes Go.ChangeAt Go.RowKit
set_option linter.unusedVariables false

section
variable {H : Type} {enc : TypeId × Value → H} {P : Program}
/-- The arguments read behind the call as they did before. -/
theorem trodAll_carry (hl : laidOutB P = true) {W W' : World} (hb : Below W.heap.size W W') {sp : Nat → Bool} : ∀ {ts : List TypeId} {vs : List Value} {ds : List (DataW H)} {ps : List MemPlace},
    (∀ t ∈ ts, P.readableRec t = true ∧ t < P.types.size) → DataW.TrodAll enc P W 0 (fun _ => true) true ts vs ds ps → (∀ p ∈ ps, p.block < W.heap.size ∧ sp p.block = true) →
    DataW.TrodAll enc P W' 0 sp true ts vs ds ps
  | [], _, _, _, _, h, _ => by
    obtain ⟨rfl, rfl, rfl⟩ := trodAll_nil h
    exact trodAll_mk0
  | t :: ts, _, _, _, hr, h, hp => by
    obtain ⟨v, vs', d, ds', p, q, rfl, rfl, rfl, h1, h2⟩ := trodAll_cons h
    have a := hr t (by simp)
    exact trodAll_cons_mk (WideElems.Trod_stays hl a.1 a.2 h1 (fun x hx => hb.same (hp x (by simp [hx])).1) (fun x hx => (hp x (by simp [hx])).2))
      (trodAll_carry hl hb (fun t ht => hr t (by simp [ht])) h2 fun x hx => hp x (by simp [hx]))

/-- The end of a law's row: true, and the arguments as they were. -/
theorem law_post {f : Func} {s : ChangeSpec} {apart fresh handsOn again : Bool} {W W' : World} {args : Array Value} {ds gs : List (DataW H)} {before : List MemPlace} {tb : TypeId}
    (hl : laidOutB P = true) (hr : ∀ t ∈ f.params.toList, P.readableRec t = true ∧ t < P.types.size) (hvs : s.vars = []) (hrt : f.resultTypes = #[tb]) (htb : P.underlying tb = some .bool)
    (hW : DataW.Whole enc P f.params.toList s.vars apart W args.toList ds gs before)
    (hfn : s.fn H (ds ++ gs) = { results := [.lit (.bool true)], args := ds }) (hb : Below W.heap.size W W') :
    s.post enc P f apart fresh handsOn again W args (.bool true) W' := by
  have hlt := hW.lt
  have hW0 := hW
  obtain ⟨p, q, hA, hV, rfl, hz, hn⟩ := hW
  rw [hvs] at hV
  obtain ⟨rfl, rfl⟩ := trodVars_none hV
  rw [List.append_nil] at hlt hz hn
  have hres : ∀ (b : Nat) (sp : Nat → Bool) (hd : Bool), DataW.TrodAll enc P W' b sp hd f.resultTypes.toList ((Value.bool true).resultList f.resultTypes.size) (s.fn H (ds ++ [])).results [] := by
    intro b sp hd
    rw [hrt, hfn]
    exact trodAll_cons_mk (p := []) (p' := []) (shut_bool htb true) trodAll_mk0
  have hargs : ∀ sp : Nat → Bool, (∀ x ∈ p, sp x.block = true) → DataW.TrodAll enc P W' 0 sp true f.params.toList args.toList (s.fn H (ds ++ [])).args p := by
    intro sp hsp
    rw [hfn]
    exact trodAll_carry hl hb hr hA fun x hx => ⟨hlt x hx, hsp x hx⟩
  have hvars : ∀ sp : Nat → Bool, DataW.TrodVars enc P W' sp s.vars (s.fn H (ds ++ [])).vars [] := by
    intro sp
    rw [hvs, hfn]
    rfl
  rw [List.append_nil] at hW0
  refine ⟨ds, [], p, [], p, [], hW0, hres _ _ _, hargs _ (fun x hx => by simpa using hlt x hx), hvars _, hb.frame _, fun _ => ?_⟩
  refine ⟨ok_one hrt rfl (okWide_bool_mk htb true), _, _, ([] ++ p) ++ [], ⟨[] ++ p, [], trodAll_append (hargs _ (fun _ _ => rfl)) (hres _ _ _), hvars _, rfl, ?_, ?_⟩, ?_⟩
  · intro b off hp
    have hp' : MemPlace.cell b off ∈ p := by simpa using hp
    rw [hb.frozen (p := ⟨b, off, none⟩) (hlt _ hp')]
    exact hz b off hp'
  · intro ha
    have := hn ha
    simpa using this
  · intro x hx _
    simpa using hx
end

theorem HpOk.none {w : World} : HpOk [] w := ⟨by simp, by simp [wkeys], by simp [wkeys]⟩

/-! ### The arguments opened -/
section
variable {P : Program} {w : World} {r : Reach} {b : Nat}
inductive Cs (P : Program) (w : World) (r : Reach) (b : Nat) : List TypeId → List Value → Prop
  | nil : Cs P w r b [] []
  | cons {u v us vs} : Cell.okWide P w r b u v → Cs P w r b us vs → Cs P w r b (u :: us) (v :: vs)

theorem Cs.app : ∀ {x y : List TypeId} {cs : List Value}, Cs P w r b (x ++ y) cs → ∃ a c, cs = a ++ c ∧ Cs P w r b x a ∧ Cs P w r b y c
  | [], _, _, h => ⟨[], _, rfl, .nil, h⟩
  | _ :: _, _, _, .cons h1 h2 => by
    obtain ⟨a, c, rfl, h3, h4⟩ := Cs.app h2
    exact ⟨_ :: a, c, rfl, .cons h1 h3, h4⟩

theorem Cs.of : ∀ (ts : List TypeId) (cs : List Value), cs.length = ts.length → (∀ (i : Nat) v, cs[i]? = some v → ∃ u, ts[i]? = some u ∧ Cell.okWide P w r b u v) → Cs P w r b ts cs
  | [], [], _, _ => .nil
  | [], _ :: _, h, _ => by simp at h
  | _ :: _, [], h, _ => by simp at h
  | t :: ts, c :: cs, h, hh => by
    obtain ⟨u, hu, ho⟩ := hh 0 c rfl
    simp at hu
    subst hu
    exact .cons ho (Cs.of ts cs (by simpa using h) fun i v hv => by simpa using hh (i + 1) v (by simpa using hv))

theorem cell_int {u : TypeId} {k : IntKind} {v : Value} (hu : P.underlying u = some (.int k)) (h : Cell.okWide P w r b u v) : ∃ n, v = .int k n ∧ inR k n := by
  unfold Cell.okWide at h
  rw [hu] at h
  unfold Cell.ok at h
  rw [hu] at h
  cases v <;> simp at h
  rename_i k' n
  obtain ⟨rfl, h⟩ := h
  refine ⟨n, rfl, ?_⟩
  unfold IntKind.has at h
  cases k' <;> simp [IntKind.min, IntKind.max, IntKind.signed, IntKind.bits] at h <;> simp only [inR] <;> omega

theorem cell_u8 {u : TypeId} {v : Value} (hu : P.underlying u = some (.int .u8)) (h : Cell.okWide P w r b u v) : ∃ x : Fin 256, v = .int .u8 (x.val : Int) := by
  obtain ⟨n, rfl, h1, h2⟩ := cell_int hu h
  exact ⟨⟨n.toNat, by omega⟩, by simp only [Value.int.injEq, true_and]; omega⟩

theorem Cs.u8s {u : TypeId} (hu : P.underlying u = some (.int .u8)) : ∀ {n : Nat} {cs : List Value}, Cs P w r b (List.replicate n u) cs → ∃ f : Nat → Fin 256, cs = (D.arr8 n f).cells
  | 0, _, .nil => ⟨fun _ => 0, rfl⟩
  | n + 1, _, .cons h1 h2 => by
    obtain ⟨x, rfl⟩ := cell_u8 hu h1
    obtain ⟨f, rfl⟩ := Cs.u8s hu h2
    refine ⟨fun i => if i = 0 then x else f (i - 1), ?_⟩
    simp [D.cells, List.range_succ_eq_map, Function.comp_def]

theorem Cs.one {u : TypeId} {cs : List Value} (h : Cs P w r b [u] cs) : ∃ v, cs = [v] ∧ Cell.okWide P w r b u v := by
  cases h with
  | cons h1 h2 => cases h2; exact ⟨_, rfl, h1⟩

theorem Cs.int {u : TypeId} {k : IntKind} {cs : List Value} (hu : P.underlying u = some (.int k)) (h : Cs P w r b [u] cs) : ∃ n, cs = (D.int k n).cells ∧ inR k n := by
  obtain ⟨v, rfl, h'⟩ := h.one
  obtain ⟨n, rfl, h''⟩ := cell_int hu h'
  exact ⟨n, rfl, h''⟩

end
end Go.Proofs.Ytjihhcjpbcmjaaa.Gx
namespace Go.Proofs.Ytjihhcjpbcmjaaa
open Go
namespace Gx
open Go.RowKit (Below)
set_option linter.unusedVariables false

section
variable {P : Program} {md : Region.Mode} {ops : Array Oper} {C : World → Prop}

/-- One value in every world of the class; a call leaves a world of the class in which nothing that was has turned. -/
def YS (P : Program) (ops : Array Oper) (C : World → Prop) (o : Oper) (v : Value) (a : Act) : Prop :=
  (Region.wanted o (yielded ops a.tmps) = true ∧ ∀ w, C w → o.quietAt P a (fun w' => C w' ∧ Below w.heap.size w w') w v) ∨
  (Region.wanted o (yielded ops a.tmps) = false ∧ v = undef)

theorem YS.of_same {o : Oper} {v : Value} {a a' : Act} (hy : YS P ops C o v a) (he : execOp a'.eval o = execOp a.eval o)
    (hw : Region.wanted o (yielded ops a'.tmps) = Region.wanted o (yielded ops a.tmps)) : YS P ops C o v a' := by
  unfold YS Oper.quietAt at *
  rw [he, hw]
  exact hy

def sOp (P : Program) (ops : Array Oper) (C : World → Prop) (i : Nat) (K : Act → Prop) (a : Act) : Prop :=
  ∃ o v, ops[i]? = some o ∧ YS P ops C o v a ∧ K (a.put o.dst v)

theorem sOp_mono {i : Nat} {a : Act} {K K' : Act → Prop} (h : ∀ a, K a → K' a) (hh : sOp P ops C i K a) : sOp P ops C i K' a :=
  let ⟨o, v, h1, h2, h3⟩ := hh
  ⟨o, v, h1, h2, h _ h3⟩

theorem sOp_put {j : Nat} {oi oj : Oper} {v : Value} (hj : ops[j]? = some oj) (hap : oi.apart ops oj = true)
    (hsi : ∀ cs b, oi.op ≠ .select cs b) (hsj : ∀ cs b, oj.op ≠ .select cs b) {K : Act → Prop} {a : Act}
    (hy : YS P ops C oi v a) (h : sOp P ops C j K (a.put oi.dst v)) :
    sOp P ops C j (fun a' => YS P ops C oi v a' ∧ K (a'.put oi.dst v)) a := by
  obtain ⟨h1, h2, h3⟩ := Oper.apart_spec hap
  obtain ⟨o, u, ho, hu, hK⟩ := h
  obtain rfl : oj = o := by rw [hj] at ho; simpa using ho
  refine ⟨oj, u, hj, hu.of_same ?_ ?_, hy.of_same (execOp_put oi hsi a oj.dst u h3) (wanted_put oi a oj.dst u h3), by rw [← Act.put_comm a v u h2]; exact hK⟩
  · exact (execOp_put oj hsj a oi.dst v h1).symm
  · exact (wanted_put oj a oi.dst v h1).symm

def wpAnyS (P : Program) (md : Region.Mode) (ops : Array Oper) (C : World → Prop) (hs : List Nat) (L : Array Bool → Act → Prop) : Nat → Array Bool → Act → Prop
  | 0, listed, a => L listed a
  | f + 1, listed, a => Region.ready md ops listed ≠ [] ∧ ∀ i ∈ Region.ready md ops listed, i ∈ hs ∧ sOp P ops C i (wpAnyS P md ops C hs L f (listed.setIfInBounds i true)) a

theorem wpAnyS_first {hs : List Nat} {base : Array Bool} {Lq : Act → Prop} {i : Nat} {oi : Oper} {v : Value} (hi : ops[i]? = some oi) (hsel : ∀ (j : Nat) (o : Oper) cs b, ops[j]? = some o → o.op ≠ .select cs b)
    (hB : lastB md ops hs base = true) (hin : i ∈ hs) :
    ∀ (f : Nat) (listed : Array Bool) (a : Act), Inv md ops hs base listed →
      (∀ j oj, ops[j]? = some oj → j ≠ i → listed.getD j true = false → (∀ e ∈ oj.after, Region.binds md e = true → e.on ≠ i) → oi.apart ops oj = true) →
      i ∈ Region.ready md ops listed → YS P ops C oi v a →
      wpAnyS P md ops C hs (fun listed' a' => listed' = setAll base hs ∧ Lq a') f (listed.setIfInBounds i true) (a.put oi.dst v) → wpAnyS P md ops C hs (fun listed' a' => listed' = setAll base hs ∧ Lq a') (f + 1) listed a := by
  intro f
  induction f with
  | zero =>
    intro listed a inv _ hr hy H
    have hun := getD_both (mem_ready.1 hr).1
    refine ⟨fun h => (by rw [h] at hr; cases hr), fun j hj => ?_⟩
    by_cases hji : j = i
    · subst hji; exact ⟨hin, oi, v, hi, hy, H⟩
    · exfalso
      have hjs := ready_in inv hB hin hun hj hji
      have hjl := (mem_ready.1 hj).1
      have hjlt := ready_lt hj
      have h1 : (listed.setIfInBounds i true).getD j true = false := by rw [getD_set_ne true (Ne.symm hji)]; exact hjl
      rw [H.1, setAll_getD _ _ _ _ (by rw [inv.bsize]; exact hjlt)] at h1
      simp [hjs] at h1
  | succ f ih =>
    intro listed a inv hfree hr hy H
    have hun := getD_both (mem_ready.1 hr).1
    refine ⟨fun h => (by rw [h] at hr; cases hr), fun j hj => ?_⟩
    by_cases hji : j = i
    · subst hji; exact ⟨hin, oi, v, hi, hy, H⟩
    · have hjs := ready_in inv hB hin hun hj hji
      refine ⟨hjs, ?_⟩
      have h1 := (H.2 j (ready_mono hj hji)).2
      obtain ⟨hjun, oj, hoj, hall⟩ := mem_ready.1 hj
      have hnot : ∀ e ∈ oj.after, Region.binds md e = true → e.on ≠ i := fun e he hb heq => by
        have h1 := hall e he hb
        rw [heq, hun] at h1
        cases h1
      have h2 := sOp_put hoj (hfree j oj hoj hji hjun hnot) (fun cs b => hsel i oi cs b hi) (fun cs b => hsel j oj cs b hoj) hy h1
      have hfree' : ∀ k ok, ops[k]? = some ok → k ≠ i → (listed.setIfInBounds j true).getD k true = false →
          (∀ e ∈ ok.after, Region.binds md e = true → e.on ≠ i) → oi.apart ops ok = true := fun k ok hk hki hun hno => by
        refine hfree k ok hk hki ?_ hno
        by_cases hjk : j = k
        · subst hjk; exact hjun
        · rw [getD_set_ne true hjk] at hun; exact hun
      refine sOp_mono (fun a' h3 => ih (listed.setIfInBounds j true) a' (inv.set hB hj) hfree' (ready_mono hr (Ne.symm hji)) h3.1 ?_) h2
      rw [Array.setIfInBounds_comm _ _ hji]
      exact h3.2

def wpS (P : Program) (ops : Array Oper) (C : World → Prop) (Lq : Act → Prop) : List Nat → Act → Prop
  | [], a => Lq a
  | i :: r, a => sOp P ops C i (wpS P ops C Lq r) a

theorem wpAnyS_lex {hs : List Nat} {base : Array Bool} {Lq : Act → Prop} (hsel : Region.noSelect ops = true) (hB : lastB md ops hs base = true) :
    ∀ (l : List Nat) (listed : Array Bool) (a : Act), (∀ i ∈ l, i ∈ hs) → setAll listed l = setAll base hs → Inv md ops hs base listed → lexOrd md ops l listed = true → wpS P ops C Lq l a →
    wpAnyS P md ops C hs (fun listed' a' => listed' = setAll base hs ∧ Lq a') l.length listed a
  | [], listed, a, _, hset, _, _, h => ⟨hset, h⟩
  | k :: l, listed, a, hin, hset, inv, hlex, h => by
    simp only [lexOrd, Bool.and_eq_true] at hlex
    obtain ⟨⟨hr, hf⟩, hlex'⟩ := hlex
    have hr' : k ∈ Region.ready md ops listed := by simpa using hr
    obtain ⟨o, v, ho, hy, hK⟩ := h
    exact wpAnyS_first ho (Region.noSelect_spec hsel) hB (hin k (by simp)) l.length listed a inv (Region.free_spec ho hf) hr' hy
      (wpAnyS_lex hsel hB l _ _ (fun i hi => hin i (by simp [hi])) hset (inv.set hB hr') hlex' hK)

/-- What a strong yield says of one operation in one world of a smaller class that calls keep. -/
theorem wpOp_of_YS {i : Nat} {o : Oper} {v : Value} {a : Act} {w : World} {C1 : World → Prop} {K' : Act → World → Prop} {Q' : Exit → Act → World → Prop} (hi : ops[i]? = some o) (hy : YS P ops C o v a) (hw : C w) (h1 : C1 w)
    (hC1 : ∀ w w', C1 w → C w → C w' → Below w.heap.size w w' → C1 w') (h : ∀ w', C w' → C1 w' → K' (a.put o.dst v) w') : wpOp P ops Q' i K' a w := by
  unfold wpOp
  simp only [hi]
  rcases hy with ⟨hwa, hq⟩ | ⟨hwa, rfl⟩
  · rw [if_pos hwa]
    left
    have h3 := hq w hw
    unfold Oper.quietAt at h3
    unfold Oper.wp
    generalize (execOp a.eval o).run P w = r at *
    cases r with
    | ok n w' =>
      cases n <;> simp only [Oper.quietUpon] at h3 <;> simp only [Oper.upon]
      case value u =>
        obtain ⟨e1, e2⟩ := h3
        rw [e1, e2]
        exact h _ hw h1
      case skip =>
        obtain ⟨e1, e2⟩ := h3
        rw [e1, ← e2]
        exact h _ hw h1
      case enter f args =>
        obtain ⟨e1, hc⟩ := h3
        rw [e1]
        exact hc.mono fun e w'' ⟨he, hw'', hb⟩ => by subst he; exact h _ hw'' (hC1 w w'' h1 hw hw'' hb)
    | halt x w' => simp only [Oper.quietUpon] at h3
  · rw [if_neg (by rw [hwa]; exact Bool.false_ne_true)]
    exact h _ hw h1

/-- All that is left are quiet ones, from a world of the smaller class. -/
theorem wpAny_of_S {hs : List Nat} {g : Nat} {L : Array Bool → Act → Prop} {C1 : World → Prop} {Q' : Exit → Act → World → Prop} (hC1 : ∀ w w', C1 w → C w → C w' → Below w.heap.size w w' → C1 w') (p : Act → Act)
    (hp : ∀ i ∈ hs, ∀ o v a, ops[i]? = some o → YS P ops C o v a → YS P ops C o v (p a) ∧ (p a).put o.dst v = p (a.put o.dst v))
    (hL : ∀ listed a, L listed a → ∀ w, C w → C1 w → wpAny P md ops Q' g listed (p a) w) :
    ∀ (f : Nat) (listed : Array Bool) (a : Act), wpAnyS P md ops C hs L f listed a → ∀ w, C w → C1 w → wpAny P md ops Q' (f + g) listed (p a) w
  | 0, listed, a, h, w, hw, h1 => by rw [Nat.zero_add]; exact hL _ _ h w hw h1
  | f + 1, listed, a, h, w, hw, h1 => by
    rw [show f + 1 + g = (f + g) + 1 by omega]
    refine ⟨fun h0 => absurd h0 h.1, fun i hi => ?_⟩
    obtain ⟨hin, o, v, ho, hy, hK⟩ := h.2 i hi
    have h2 := hp i hin o v a ho hy
    refine wpOp_of_YS ho h2.1 hw h1 hC1 fun w' hw' h1' => ?_
    rw [h2.2]
    exact wpAny_of_S hC1 p hp hL f _ _ hK w' hw' h1'

theorem set_back {listed : Array Bool} {i : Nat} (h : listed.getD i true = false) : (listed.setIfInBounds i true).setIfInBounds i false = listed := by
  have hlt : i < listed.size := by
    rcases Nat.lt_or_ge i listed.size with h1 | h1
    · exact h1
    · simp [Array.getD, Nat.not_lt.2 h1] at h
  apply Array.ext_getElem?
  intro j
  by_cases e : i = j
  · subst e
    have : listed[i] = false := by simpa [Array.getD, hlt] using h
    simp [this, hlt]
  · rw [Array.getElem?_setIfInBounds_ne e, Array.getElem?_setIfInBounds_ne e]

/-- Quiet operations, and one that lays a new variable whenever it likes. -/
theorem wpAny_quietA {hs : List Nat} {base : Array Bool} {g ia k : Nat} {oa : Oper} {a : Act} {C1 : Value → World → Prop} {Q' : Exit → Act → World → Prop} (hsel : Region.noSelect ops = true) (hoa : ops[ia]? = some oa) (hd : oa.dst = some k)
    (hga : oa.guard = none) (hia : ia ∈ Region.ready md ops base) (hsz : base.size = ops.size)
    (hB : lastB md ops hs (base.setIfInBounds ia true) = true) (hlex : lexOrd md ops hs (base.setIfInBounds ia true) = true)
    (hap : ∀ i ∈ hs, ∀ o, ops[i]? = some o → oa.apart ops o = true) (hni : ia ∉ hs)
    (halloc : ∀ (a : Act) w, C w → ∃ v w', (execOp a.eval oa).run P w = .ok (.value v) w' ∧ C w' ∧ C1 v w')
    (hC1 : ∀ v w w', C1 v w → C w → C w' → Below w.heap.size w w' → C1 v w')
    (h : wpS P ops C (fun a' => (∀ v w, C w → C1 v w → wpAny P md ops Q' g (setAll (base.setIfInBounds ia true) hs) (a'.put (some k) v) w) ∧ ∀ w, C w → wpAny P md ops Q' (g + 1) ((setAll (base.setIfInBounds ia true) hs).setIfInBounds ia false) a' w) hs a) : ∀ w, C w → wpAny P md ops Q' (hs.length + 1 + g) base a w := by
  have H := wpAnyS_lex hsel hB hs _ a (fun _ h => h) rfl (.start (by simpa using hsz)) hlex h
  have hsel' := Region.noSelect_spec hsel
  -- behind the new variable
  have post : ∀ v f listed a, wpAnyS P md ops C hs (fun listed' a' => listed' = setAll (base.setIfInBounds ia true) hs ∧ (∀ v w, C w → C1 v w → wpAny P md ops Q' g (setAll (base.setIfInBounds ia true) hs) (a'.put (some k) v) w) ∧ ∀ w, C w → wpAny P md ops Q' (g + 1) ((setAll (base.setIfInBounds ia true) hs).setIfInBounds ia false) a' w) f listed a →
      ∀ w, C w → C1 v w → wpAny P md ops Q' (f + g) listed (a.put (some k) v) w := fun v => wpAny_of_S (hC1 v) (fun a => a.put (some k) v)
    (fun i hin o u a ho hy => by
      obtain ⟨h1, h2, h3⟩ := Oper.apart_spec (hap i hin o ho)
      rw [hd] at h1 h2
      exact ⟨hy.of_same (execOp_put o (fun cs b => hsel' i o cs b ho) a (some k) v h1) (wanted_put o a (some k) v h1), Act.put_comm a v u h2⟩)
    (fun listed a ⟨e, hK⟩ w hw h1 => by rw [e]; exact hK.1 v w hw h1)
  have key : ∀ (f : Nat) (listed : Array Bool) (a : Act), ia ∈ Region.ready md ops listed →
      wpAnyS P md ops C hs (fun listed' a' => listed' = setAll (base.setIfInBounds ia true) hs ∧ (∀ v w, C w → C1 v w → wpAny P md ops Q' g (setAll (base.setIfInBounds ia true) hs) (a'.put (some k) v) w) ∧ ∀ w, C w → wpAny P md ops Q' (g + 1) ((setAll (base.setIfInBounds ia true) hs).setIfInBounds ia false) a' w) f (listed.setIfInBounds ia true) a →
      ∀ w, C w → wpAny P md ops Q' (f + g + 1) listed a w := by
    intro f
    induction f with
    | zero =>
      intro listed a hr hK w hw
      have hun := (mem_ready.1 hr).1
      have e := set_back hun
      rw [hK.1] at e
      have := hK.2.2 w hw
      rw [e] at this
      rw [Nat.zero_add]
      exact this
    | succ f ih =>
      intro listed a hr hK w hw
      refine ⟨fun h0 => (by rw [h0] at hr; cases hr), fun j hj => ?_⟩
      by_cases hji : j = ia
      · subst hji
        unfold wpOp
        simp only [hoa]
        rw [if_pos (by simp [Region.wanted, hga])]
        left
        obtain ⟨v, w', hrun, hw', h1⟩ := halloc a w hw
        unfold Oper.wp
        rw [hrun]
        simp only [Oper.upon]
        rw [hd]
        exact post v (f + 1) _ a hK w' hw' h1
      · obtain ⟨hin, o, v, ho, hy, hK'⟩ := hK.2 j (ready_mono hj hji)
        refine wpOp_of_YS (C1 := fun _ => True) ho hy hw trivial (fun _ _ _ _ _ _ => trivial) fun w' hw' _ => ?_
        rw [show f + 1 + g = f + g + 1 by omega]
        refine ih _ _ (ready_mono hr (Ne.symm hji)) ?_ w' hw'
        rw [Array.setIfInBounds_comm _ _ hji]
        exact hK'
  intro w hw
  rw [show hs.length + 1 + g = hs.length + g + 1 by omega]
  exact key hs.length base a hia H w hw
end

/-! ### In the frame -/
section
variable {E : Env} {ops : Array Oper} {K : St → Prop} {s : St}
/-- The quiet ones, strongly. -/
structure SQ (E : Env) (ops : Array Oper) (hs : List Nat) (K : St → Prop) (s : St) : Prop where
  out : ∀ a, okT E s a → ∀ Lq : Act → Prop, (∀ s' a', K s' → s'.hp = s.hp → okT E s' a' → Lq a') → wpS E.P ops (fun w => HpOk s.hp w ∧ Fr E.w0 E.B0 s.hp w) Lq hs a

theorem SQ_nil (h : K s) : SQ E ops [] K s := ⟨fun a ho _ hL => hL s a h rfl ho⟩
theorem qt_strong {o : Oper} {d : D} {a : Act} {w : World} (h : Qt E o s d) (hok : ok E s a w) : o.quietAt E.P a (fun w' => (HpOk s.hp w' ∧ Fr E.w0 E.B0 s.hp w') ∧ Below w.heap.size w w') w d.val := by
  unfold Oper.quietAt
  rcases h a w hok with h | ⟨f, args, h, hc⟩
  · rw [h]; exact ⟨rfl, rfl⟩
  · rw [h]
    refine ⟨rfl, hc.mono fun e w' ⟨he, hb⟩ => ⟨he, ?_⟩⟩
    have := hok.below hb
    exact ⟨⟨this.hp, this.fr⟩, hb⟩
theorem SQ_cons {i k : Nat} {r : List Nat} {o : Oper} {d : D} (ho : ops[i]? = some o) (hg : o.guard = none) (hd : o.dst = some k) (h : Qt E o s d) (hk : k < E.n) (hr : SQ E ops r K (s.put k d)) : SQ E ops (i :: r) K s := ⟨fun a ht Lq hL => by
  refine ⟨o, d.val, ho, .inl ⟨by simp [Region.wanted, hg], fun w ⟨h1, h2⟩ => qt_strong h ⟨ht.size, ht.defers, ht.tm, h1, h2⟩⟩, ?_⟩
  rw [hd]
  exact hr.out _ (ht.put hk) Lq fun s' a' hK hh => hL s' a' hK (by rw [hh]; rfl)⟩
/-- Quiet ones, and a variable of zero value laid at any time. -/
theorem RA_quietA {hs : List Nat} {g ia k : Nat} {listed : Array Bool} {T : TypeId} {i : TI} {ty : TypeId} {ps : String} {af : Array Edge} (hoa : ops[ia]? = some ⟨some k, .alloc T, ty, ps, af, none⟩) (ht : E.tt T = some i) (hk : k < E.n)
    (hchk : (Region.noSelect ops && (Region.ready .any ops listed).contains ia && Nat.beq listed.size ops.size && lastB .any ops hs (listed.setIfInBounds ia true) && lexOrd .any ops hs (listed.setIfInBounds ia true) &&
      hs.all (fun j => match ops[j]? with | some o => (Oper.mk (some k) (.alloc T) ty ps af none).apart ops o | none => true) && !hs.contains ia) = true)
    (h : SQ E ops hs (fun s' => (∀ b, RA E ops g (setAll (listed.setIfInBounds ia true) hs) K ⟨(k, .ptr b 0 none) :: s'.tm, .var b i.zero :: s'.hp⟩) ∧ RA E ops (g + 1) ((setAll (listed.setIfInBounds ia true) hs).setIfInBounds ia false) K s') s) : RA E ops (hs.length + 1 + g) listed K s := ⟨fun a w hok Q hQ hp => by
  simp only [Bool.and_eq_true, List.contains_iff_mem, Nat.beq_eq, decide_eq_true_eq, Bool.not_eq_true', List.all_eq_true] at hchk
  obtain ⟨⟨⟨⟨⟨⟨c1, c2⟩, c3⟩, c4⟩, c5⟩, c7⟩, c8⟩ := hchk
  refine wpAny_quietA (C := fun w => HpOk s.hp w ∧ Fr E.w0 E.B0 s.hp w) (C1 := fun v w => ∃ b, v = (D.ptr b 0 none).val ∧ HpOk (.var b i.zero :: s.hp) w ∧ Fr E.w0 E.B0 (.var b i.zero :: s.hp) w) c1 hoa rfl rfl c2 c3 c4 c5 (fun j hj o ho => ?_) (by simpa using c8) (fun a' w' ⟨h1, h2⟩ => ?_) (fun v w1 w2 ⟨b, hv, h1, h2⟩ _ _ hb => ?_)
    (h.out a hok.t _ fun s' a' hK hh ht' => ⟨fun v w1 _ ⟨b, hv, h1, h2⟩ => ?_, fun w1 ⟨h1, h2⟩ => hK.2.out _ w1 ⟨ht'.size, ht'.defers, ht'.tm, by rw [hh]; exact h1, by rw [hh]; exact h2⟩ Q hQ hp⟩) w ⟨hok.hp, hok.fr⟩
  · have := c7 j hj
    simpa [ho] using this
  · obtain ⟨x, hx, e1, e2, e3⟩ := tt_info ht
    have hf := (E.tok T i ht).2.2.1
    have hok' : ok E ⟨[], s.hp⟩ ⟨Array.replicate E.n undef, []⟩ w' := ⟨by simp, rfl, fun k d hkd => (by cases hkd), h1, h2⟩
    have hn := ok.alloc hok' hf T
    have hb : ok E ⟨[], s.hp⟩ ⟨Array.replicate E.n undef, []⟩ (w'.alloc (.cells i.zero.cells.toArray T)) := ok.below hok' ((Below.refl _ _).alloc (Nat.le_refl _) _)
    refine ⟨(D.ptr w'.heap.size 0 none).val, _, ?_, ⟨hb.hp, hb.fr⟩, _, rfl, hn.hp, hn.fr⟩
    simp [execOp, Instr.alloc, zeroValue, typeInfo, hx, e3, run_newVar _ _ _ _ hf, D.val]
  · have hok1 : ok E ⟨[], .var b i.zero :: s.hp⟩ ⟨Array.replicate E.n undef, []⟩ w1 := ⟨by simp, rfl, fun k d hkd => (by cases hkd), h1, h2⟩
    have hb1 := hok1.below hb
    exact ⟨b, hv, hb1.hp, hb1.fr⟩
  · subst hv
    refine (hK.1 b).out _ w1 ?_ Q hQ hp
    have e1 : okT E (s'.put k (.ptr b 0 none)) (a'.put (some k) (D.ptr b 0 none).val) := ht'.put hk
    exact ⟨e1.size, e1.defers, e1.tm, by rw [hh]; exact h1, by rw [hh]; exact h2⟩⟩
end
end Gx
end Go.Proofs.Ytjihhcjpbcmjaaa
namespace Go.Proofs.Ytjihhcjpbcmjaaa
open Go
namespace Gx
set_option linter.unusedVariables false
section
variable {P : Program}
theorem kl8 {T e n d : Nat} {f : Nat → Fin 256} (hT : P.underlying T = some (.array n e)) (he : P.underlying e = some (.int .u8)) (cT : P.cellsOf T = n) (ce : P.cellsOf e = 1) :
    P.keyLits (d + 2) T (D.arr8 n f).cells = some ((List.range n).map fun i => Lit.int .u8 ((f i).val : Int)) := by
  have h1 : ∀ i, i < n → P.keyLits (d + 1) e (((D.arr8 n f).cells.drop (i * P.cellsOf e)).take (P.cellsOf e)) = some [Lit.int .u8 ((f i).val : Int)] := by
    intro i hi
    have : (((D.arr8 n f).cells.drop (i * P.cellsOf e)).take (P.cellsOf e)) = [Value.int .u8 ((f i).val : Int)] := by
      rw [ce, Nat.mul_one]
      have hl : i < (D.arr8 n f).cells.length := by simp [D.cells]; exact hi
      rw [List.drop_eq_getElem_cons hl]
      simp [D.cells]
    rw [this]
    unfold Program.keyLits
    rw [he]
    have hw : (Lit.int .u8 ((f i).val : Int)).wf = true := by
      have := (f i).isLt
      simp [Lit.wf, IntKind.min, IntKind.max, IntKind.signed, IntKind.bits]
      omega
    simp [hw]
  unfold Program.keyLits
  rw [hT]
  have hl : (D.arr8 n f).cells.length = P.cellsOf T := by rw [cT]; simp [D.cells]
  have h2 := _root_.Go.ChangeShapes.mapM_range_of (f := fun i => P.keyLits (d + 1) e (((D.arr8 n f).cells.drop (i * P.cellsOf e)).take (P.cellsOf e))) (g := fun i => [Lit.int .u8 ((f i).val : Int)]) n h1
  have h3 : ((List.range n).map fun i => [Lit.int .u8 ((f i).val : Int)]).flatten = (List.range n).map fun i => Lit.int .u8 ((f i).val : Int) := by
    generalize List.range n = l
    induction l with
    | nil => rfl
    | cons a l ih => simp [ih]
  show (if (D.arr8 n f).cells.length = P.cellsOf T then ((List.range n).mapM fun i => P.keyLits (d + 1) e (((D.arr8 n f).cells.drop (i * P.cellsOf e)).take (P.cellsOf e))).map List.flatten else none) = _
  rw [if_pos hl, h2]
  simp only [Option.map_some, h3]

theorem run_equal8 {T e n : Nat} {f g : Nat → Fin 256} (hT : P.underlying T = some (.array n e)) (he : P.underlying e = some (.int .u8)) (cT : P.cellsOf T = n) (ce : P.cellsOf e = 1) (w : World) :
    (Op.equal T (D.arr8 n f).val (D.arr8 n g).val).run P w = .ok (@decide (∀ i, i < n → f i = g i) (Classical.propDecidable _)) w := by
  have hk : P.keyTypeAt 2 T = true := by simp [Program.keyTypeAt, hT, he]
  have h := run_equalIn_deep (P := P) 9998 2 T hk w 2 2 (D.arr8 n f).val (D.arr8 n g).val _ _ (by simp [D.val, Value.formed, hT, cT]) (by simp [D.val, Value.formed, hT, cT])
    (by have := kl8 (P := P) (d := 0) (f := f) hT he cT ce; simpa [D.val, Value.cells, D.cells] using this) (by have := kl8 (P := P) (d := 0) (f := g) hT he cT ce; simpa [D.val, Value.cells, D.cells] using this)
  obtain ⟨r, hr, hiff⟩ := h
  have e1 : r = @decide (∀ i, i < n → f i = g i) (Classical.propDecidable _) := by
    rw [Bool.eq_iff_iff, hiff, @decide_eq_true_iff _ (Classical.propDecidable _)]
    constructor
    · intro h i hi
      have := congrArg (fun l => l[i]?) h
      simp [hi] at this
      exact Fin.ext (by omega)
    · intro h
      exact List.map_congr_left fun i hi => by rw [h i (List.mem_range.1 hi)]
  rw [← e1]
  exact hr
end
section
variable {E : Env} {s : St} {dst : Option Nat} {ty : TypeId} {ps : String} {af : Array Edge} {gd : Option (Nat × Bool)}
theorem run_eqGuard8 {T : Nat} (op : BinOp) (x y : Operand) {n : Nat} {f g : Nat → Fin 256} {P : Program} (hg : P.eqGuardType P.depth T = false) (w : World) : (eqGuard op T x y (D.arr8 n f).val (D.arr8 n g).val).run P w = .ok () w := by
  cases op <;> simp [eqGuard, D.val, hg]
/-- Rows of bytes compared. -/
theorem p_neq8 {x y : Operand} {T T' e n sz by_ sz' by_' : Nat} {z z' : D} {f g : Nat → Fin 256} (ht : E.tt T = some ⟨.arr n e, sz, by_, z⟩) (h3 : E.tt e = some ⟨.int .u8, sz', by_', z'⟩) (hx : ev s x = some (.arr8 n f)) (hy : ev s y = some (.arr8 n g))
    (cT : E.P.cellsOf T = n) (ce : E.P.cellsOf e = 1) (hg : E.P.eqGuardType E.P.depth T = false) : Pt E ⟨dst, .binOp .neq T x y T', ty, ps, af, gd⟩ s (.bool (!@decide (∀ i, i < n → f i = g i) (Classical.propDecidable _))) := fun c ho w => by
  obtain ⟨d, hd, hm⟩ := tt_underlying ht
  obtain ⟨d', hd', hm'⟩ := tt_underlying h3
  simp only [TD.met] at hm hm'
  subst hm; subst hm'
  have h1 : binOp .neq T (D.arr8 n f).val (D.arr8 n g).val = (do pure (.bool (!(← Op.equal T (D.arr8 n f).val (D.arr8 n g).val)))) := rfl
  simp only [execOp, ho.ev hx, ho.ev hy, Sem.run_bind, run_eqGuard8 _ _ _ hg, Result.andThen_ok, h1, run_equal8 hd hd' cT ce, Sem.run_pure]
  rfl
theorem p_eql8 {x y : Operand} {T T' e n sz by_ sz' by_' : Nat} {z z' : D} {f g : Nat → Fin 256} (ht : E.tt T = some ⟨.arr n e, sz, by_, z⟩) (h3 : E.tt e = some ⟨.int .u8, sz', by_', z'⟩) (hx : ev s x = some (.arr8 n f)) (hy : ev s y = some (.arr8 n g))
    (cT : E.P.cellsOf T = n) (ce : E.P.cellsOf e = 1) (hg : E.P.eqGuardType E.P.depth T = false) : Pt E ⟨dst, .binOp .eql T x y T', ty, ps, af, gd⟩ s (.bool (@decide (∀ i, i < n → f i = g i) (Classical.propDecidable _))) := fun c ho w => by
  obtain ⟨d, hd, hm⟩ := tt_underlying ht
  obtain ⟨d', hd', hm'⟩ := tt_underlying h3
  simp only [TD.met] at hm hm'
  subst hm; subst hm'
  have h1 : binOp .eql T (D.arr8 n f).val (D.arr8 n g).val = (do pure (.bool (← Op.equal T (D.arr8 n f).val (D.arr8 n g).val))) := rfl
  simp only [execOp, ho.ev hx, ho.ev hy, Sem.run_bind, run_eqGuard8 _ _ _ hg, Result.andThen_ok, h1, run_equal8 hd hd' cT ce, Sem.run_pure]
  rfl
end
end Gx
end Go.Proofs.Ytjihhcjpbcmjaaa
namespace Go.Proofs.Ytjihhcjpbcmjaaa
open Go
namespace Gx
open Go.RowKit (Below)
set_option linter.unusedVariables false
/-- From the variable b that holds d0 (and what else is needed) the call hands back d, and b holds d1; nothing else that was has turned. -/
def CV (P : Program) (f : FuncId) (args : Array Value) (b : Nat) (d0 : D) (need : List Ent) (d d1 : D) : Prop := ∀ w, HpOk (.var b d0 :: need) w →
  Calls P f args w (fun e w' => e = .returned d.val ∧ (Ent.var b d1).ok w' ∧ w'.os = w.os ∧ w'.tape = w.tape ∧ w'.output = w.output ∧ w.heap.size ≤ w'.heap.size ∧ ∀ q, q < w.heap.size → q ≠ b → w'.heap[q]? = w.heap[q]?)
theorem CV.val {P : Program} {f : FuncId} {args : Array Value} {b : Nat} {d0 d1 d d' : D} {need : List Ent} (h : CV P f args b d0 need d d1) (e : d.val = d'.val) : CV P f args b d0 need d' d1 := fun w hh => by rw [← e]; exact h w hh

section
variable {E : Env} {s : St} {dst : Option Tmp} {ty : TypeId} {ps : String} {af : Array Edge} {gd : Option (Nat × Bool)} {k : Nat} {K : St → Prop}
end

/-- The variable that is turned, and what else is read: of other sizes, so of other blocks. -/
theorem View.w {hp need : List Ent} {b : Nat} {d0 : D} (m : Ent.var b d0 ∈ hp) (v : View hp need) (hw : wkeys need = []) (hs : ∀ e ∈ need, ∃ b2 d2, e = .rvar b2 d2 ∧ d2.size ≠ d0.size) : View hp (.var b d0 :: need) := fun w hh => by
  have hn := v w hh
  have hkeys : wkeys (Ent.var b d0 :: need) = [b] := by
    show [b] ++ wkeys need = [b]
    rw [hw]; rfl
  refine ⟨fun x hx => ?_, by rw [hkeys]; simp, fun k hk => ?_⟩
  · rcases List.mem_cons.1 hx with rfl | hx
    · exact hh.all _ m
    · exact hn.all _ hx
  · rw [hkeys, List.mem_singleton]
    rintro rfl
    have hk' : k ∈ rkeys need := by
      have e1 : rkeys (Ent.var k d0 :: need) = [] ++ rkeys need := rfl
      rw [e1] at hk
      simpa using hk
    obtain ⟨e, he, hek⟩ : ∃ e ∈ need, k ∈ e.rkey := by
      clear hn hkeys hk v hs hw
      induction need with
      | nil => cases hk'
      | cons a r ih =>
        rcases List.mem_append.1 (show k ∈ a.rkey ++ rkeys r from hk') with h1 | h1
        · exact ⟨a, by simp, h1⟩
        · obtain ⟨e, h2, h3⟩ := ih h1
          exact ⟨e, by simp [h2], h3⟩
    obtain ⟨b2, d2, rfl, hne⟩ := hs e he
    obtain rfl : k = b2 := by simpa [Ent.rkey] using hek
    obtain ⟨_, t1, h1⟩ := hh.all _ m
    obtain ⟨_, t2, h2⟩ := hn.all _ he
    rw [h1] at h2
    simp only [Option.some.injEq, Obj.cells.injEq] at h2
    have h3 : d0.cells = d2.cells := by simpa using h2.1
    have h4 := congrArg List.length h3
    rw [D.length_cells, D.length_cells] at h4
    exact hne h4.symm
end Gx
end Go.Proofs.Ytjihhcjpbcmjaaa
namespace Go.Proofs.Ytjihhcjpbcmjaaa
open Go
namespace Gx
open Go.RowKit (Below)
set_option linter.unusedVariables false
theorem spl_take (cs : List Value) (a k : Nat) (new : List Value) (h : a + new.length ≤ k) (hk : k ≤ cs.length) : (spl cs a new).take k = spl (cs.take k) a new := by
  apply List.ext_getElem?
  intro j
  rw [List.getElem?_take, spl_getElem? _ _ _ (by omega), spl_getElem? _ _ _ (by simp; omega)]
  split
  · split
    · rfl
    · rw [List.getElem?_take, if_pos (by assumption)]
  · rw [if_neg (by omega), List.getElem?_take, if_neg (by assumption)]
theorem ownsRow_store {w : World} {EE sz b n cap at_ : Nat} {xs new : List Value} (h : w.ownsRow 0 EE sz (.slice (some ⟨b, 0, none⟩) n cap) n xs) (hin : at_ + new.length ≤ n * sz) :
    ∃ cur : Array Value, w.heap[b]? = some (.cells cur EE (0, 0)) ∧ at_ + new.length ≤ cur.size ∧ (w.setRow b (spl cur.toList at_ new).toArray).ownsRow 0 EE sz (.slice (some ⟨b, 0, none⟩) n cap) n (spl xs at_ new) := by
  rcases h.2 with ⟨h', _⟩ | ⟨g', cap', cur, h', hb, hg, hnc, hcm, hcs, htake⟩
  · simp at h'
  · simp only [Value.slice.injEq, Option.some.injEq, Addr.mk.injEq, and_true, true_and] at h'
    obtain ⟨rfl, rfl⟩ := h'
    have hle : n * sz ≤ cap * sz := Nat.mul_le_mul_right _ hnc
    have hx : xs.length = n * sz := h.1
    have hsl : ∀ (cs : List Value), at_ + new.length ≤ cs.length → (spl cs at_ new).length = cs.length := by
      intro cs hc; simp [spl]; omega
    refine ⟨cur, hg, by omega, ⟨by rw [hsl xs (by omega)]; exact hx, .inr ⟨b, cap, (spl cur.toList at_ new).toArray, rfl, hb, setRow_heap w b _ _ _ _ hg, hnc, hcm, by simp [hsl cur.toList (by simp; omega), hcs], ?_⟩⟩⟩
    rw [← htake]
    simpa using spl_take cur.toList at_ (n * sz) new hin (by simp; omega)
section
variable {E : Env} {s : St} {ty : TypeId} {ps : String} {af : Array Edge} {gd : Option (Nat × Bool)} {K : St → Prop}
end
section
variable {E : Env} {s : St} {ty : TypeId} {ps : String} {af : Array Edge} {gd : Option (Nat × Bool)} {k : Nat} {K : St → Prop}
end
end Gx
end Go.Proofs.Ytjihhcjpbcmjaaa
namespace Go.Proofs.Ytjihhcjpbcmjaaa
open Go
namespace Gx
open Go.RowKit (Below)
set_option linter.unusedVariables false

/-! ### Entries turned -/
theorem wkeys_flat : ∀ l : List Ent, wkeys l = l.flatMap Ent.wkey
  | [] => rfl
  | e :: r => by simp [wkeys, wkeys_flat r]
theorem rkeys_flat : ∀ l : List Ent, rkeys l = l.flatMap Ent.rkey
  | [] => rfl
  | e :: r => by simp [rkeys, rkeys_flat r]
theorem wkeys_perm {a b : List Ent} (h : a.Perm b) : (wkeys a).Perm (wkeys b) := by
  rw [wkeys_flat, wkeys_flat]; exact h.flatMap_right _
theorem rkeys_perm {a b : List Ent} (h : a.Perm b) : (rkeys a).Perm (rkeys b) := by
  rw [rkeys_flat, rkeys_flat]; exact h.flatMap_right _
theorem HpOk.perm {a b : List Ent} {w : World} (h : HpOk a w) (p : a.Perm b) : HpOk b w :=
  ⟨fun e he => h.all e (p.symm.subset he), (wkeys_perm p).nodup_iff.1 h.nodup, fun k hk hk' => h.apart k ((rkeys_perm p).symm.subset hk) ((wkeys_perm p).symm.subset hk')⟩
theorem HpRep.perm {e e' : Ent} {hp hp' : List Ent} (h : HpRep e e' hp hp') : ∃ R, hp.Perm (e :: R) ∧ hp'.Perm (e' :: R) := by
  obtain ⟨l, r, rfl, rfl⟩ := h.split
  exact ⟨l ++ r, List.perm_middle, List.perm_middle⟩
inductive HpDel (e : Ent) : List Ent → List Ent → Prop
  | head {r : List Ent} : HpDel e (e :: r) r
  | tail {x : Ent} {r r' : List Ent} (h : HpDel e r r') : HpDel e (x :: r) (x :: r')
theorem HpDel.perm {e : Ent} {hp hp' : List Ent} (h : HpDel e hp hp') : hp.Perm (e :: hp') := by
  induction h with
  | head => exact .refl _
  | tail _ ih => exact (List.Perm.cons _ ih).trans (.swap _ _ _)

theorem HpOk.turn {A B R : List Ent} {w w' : World} (h : HpOk (A ++ R) w) (hB : ∀ e ∈ B, e.ok w') (hnd : (wkeys B).Nodup) (hrB : rkeys B = []) (hw : ∀ k, k < w.heap.size → k ∉ wkeys A → w'.heap[k]? = w.heap[k]?)
    (hb : ∀ k ∈ wkeys B, k ∈ wkeys A ∨ w.heap.size ≤ k) : HpOk (B ++ R) w' := by
  have hnd0 := h.nodup
  have hap := h.apart
  rw [wkeys_append, List.nodup_append] at hnd0
  have hRall : ∀ e ∈ R, e.ok w' := fun e he => by
    refine Ent.ok_of_blocks (h.all e (by simp [he])) fun k hk hlt => hw k hlt fun hkA => ?_
    rcases hk with hk | hk
    · exact hnd0.2.2 k hkA k (mem_wkeys.2 ⟨e, he, hk⟩) rfl
    · exact hap k (by rw [rkeys_append]; exact List.mem_append_right _ (mem_rkeys.2 ⟨e, he, hk⟩)) (by rw [wkeys_append]; exact List.mem_append_left _ hkA)
  refine ⟨fun e he => ?_, ?_, fun k hk hk' => ?_⟩
  · rcases List.mem_append.1 he with he | he
    · exact hB e he
    · exact hRall e he
  · rw [wkeys_append, List.nodup_append]
    refine ⟨hnd, hnd0.2.1, fun x hx y hy => ?_⟩
    rintro rfl
    rcases hb x hx with h1 | h1
    · exact hnd0.2.2 x h1 x hy rfl
    · have := h.key_lt (b := x) (by rw [wkeys_append]; exact List.mem_append_right _ hy)
      omega
  · rw [rkeys_append, hrB, List.nil_append] at hk
    have hkr : k ∈ rkeys (A ++ R) := by rw [rkeys_append]; exact List.mem_append_right _ hk
    rw [wkeys_append, List.mem_append] at hk'
    rcases hk' with hk' | hk'
    · rcases hb k hk' with h1 | h1
      · exact hap k hkr (by rw [wkeys_append]; exact List.mem_append_left _ h1)
      · obtain ⟨e, he, hek⟩ := mem_rkeys.1 hkr
        have := Ent.rkey_lt (h.all e he) k hek
        omega
    · exact hap k hkr (by rw [wkeys_append]; exact List.mem_append_right _ hk')

theorem ok.turn {E : Env} {s : St} {a : Act} {w w' : World} (h : ok E s a w) {A B R hp' : List Ent} (p : s.hp.Perm (A ++ R)) (p' : hp'.Perm (B ++ R)) (hB : ∀ e ∈ B, e.ok w') (hnd : (wkeys B).Nodup) (hrB : rkeys B = [])
    (hw : ∀ k, k < w.heap.size → k ∉ wkeys A → w'.heap[k]? = w.heap[k]?) (hb : ∀ k ∈ wkeys B, k ∈ wkeys A ∨ w.heap.size ≤ k) (hos : w'.os = w.os) (htape : w'.tape = w.tape) (hout : w'.output = w.output) (hsz : w.heap.size ≤ w'.heap.size) :
    ok E ⟨s.tm, hp'⟩ a w' := by
  have hown : ∀ k, k ∈ wkeys A → k ∈ E.B0 ∨ E.w0.heap.size ≤ k := fun k hk => h.fr.own k ((wkeys_perm p).symm.subset (by rw [wkeys_append]; exact List.mem_append_left _ hk))
  refine ⟨h.size, h.defers, h.tm, ((h.hp.perm p).turn hB hnd hrB hw hb).perm p'.symm, ⟨hos.trans h.fr.os, htape.trans h.fr.tape, hout.trans h.fr.output, Nat.le_trans h.fr.size hsz, fun k hk1 hk2 => ?_, fun x hx => ?_⟩⟩
  · rw [hw k (Nat.lt_of_lt_of_le hk1 h.fr.size) ?_]
    · exact h.fr.block k hk1 hk2
    · intro hkA
      rcases hown k hkA with h1 | h1
      · exact hk2 h1
      · omega
  · have hx' := (wkeys_perm p').subset hx
    rw [wkeys_append, List.mem_append] at hx'
    rcases hx' with hx' | hx'
    · rcases hb x hx' with h1 | h1
      · exact hown x h1
      · exact .inr (Nat.le_trans h.fr.size h1)
    · exact h.fr.own x ((wkeys_perm p).symm.subset (by rw [wkeys_append]; exact List.mem_append_right _ hx'))

/-! ### Slices as values -/
def sblk : Value → List Nat
  | .slice (some a) _ _ => [a.block]
  | _ => []
def ptrAt (v : Value) (n : Nat) : Value := match v with
  | .slice (some a) _ _ => .pointer (some ⟨a.block, a.off + n, none⟩)
  | _ => .pointer none
theorem ptrAt_one (v : Value) (n : Nat) : (ptrAt v n).oneCell' = true := by unfold ptrAt; split <;> rfl
theorem sblk_nodup (v : Value) : (sblk v).Nodup := by unfold sblk; split <;> simp
theorem sblk_own (v : Value) (k : Nat) : k ∈ sblk v ↔ v.ownBlock = some k := by
  unfold sblk Value.ownBlock
  split <;> simp [eq_comm]

/-- v is a slice that reads r. -/
def RdP (v : Value) (r : Rw) (w : World) : Prop :=
  (v = .slice none 0 0 ∧ r.len = 0) ∨ ∃ a cap, v = .slice (some a) r.len cap ∧ (r.cells ≠ [] → a.spot = none) ∧ ∀ j u, r.cells[j]? = some u → w.cell? ⟨a.block, a.off + j, none⟩ = some u
def rdK (v : Value) (r : Rw) : List Nat := match r.cells with
  | [] => []
  | _ => sblk v
theorem cell_lt {w : World} {a : Addr} {u : Value} (h : w.cell? a = some u) : a.block < w.heap.size := by
  unfold World.cell? at h
  split at h
  · rename_i hc; exact (Array.getElem?_eq_some_iff.1 hc).1
  · cases h
theorem rdK_lt {v : Value} {r : Rw} {w : World} (h : RdP v r w) : ∀ k ∈ rdK v r, k < w.heap.size := by
  intro k hk
  unfold rdK at hk
  cases hc : r.cells with
  | nil => rw [hc] at hk; cases hk
  | cons x l =>
    rw [hc] at hk
    rcases h with ⟨rfl, _⟩ | ⟨a, cap, rfl, _, h2⟩
    · cases hk
    · simp only [sblk, List.mem_singleton] at hk
      subst hk
      have h3 := cell_lt (h2 0 x (by rw [hc]; rfl))
      exact h3
theorem RdP.stays {v : Value} {r : Rw} {w w' : World} (h : RdP v r w) (hb : ∀ k, (k ∈ ([] : List Nat) ∨ k ∈ rdK v r) → k < w.heap.size → w'.heap[k]? = w.heap[k]?) : RdP v r w' := by
  rcases h with h | ⟨a, cap, rfl, h1, h2⟩
  · exact .inl h
  · refine .inr ⟨a, cap, rfl, h1, fun j u hu => ?_⟩
    have hc := h2 j u hu
    have hlt := cell_lt hc
    have hk : a.block ∈ rdK (.slice (some a) r.len cap) r := by
      unfold rdK
      cases hr : r.cells with
      | nil => rw [hr] at hu; simp at hu
      | cons x l => simp [sblk]
    rw [World.cell?_of_block (a := ⟨a.block, a.off + j, none⟩) (hb a.block (.inr hk) hlt)]
    exact hc
def rd (v : Value) (r : Rw) : Ent := .any [] (rdK v r) (RdP v r) (fun _ _ h hb => h.stays hb) (fun _ h k hk => rdK_lt h k (hk.resolve_left (by simp)))

def OwnP (v : Value) (EE : Nat) (r : Rw) (w : World) : Prop := w.ownsRow 0 EE r.size v r.len r.cells
theorem OwnP.stays {v : Value} {EE : Nat} {r : Rw} {w w' : World} (h : OwnP v EE r w) (hb : ∀ k ∈ sblk v, k < w.heap.size → w'.heap[k]? = w.heap[k]?) : OwnP v EE r w' := by
  refine ⟨h.1, ?_⟩
  rcases h.2 with h1 | ⟨g, c, cur, rfl, h0, hg, rest⟩
  · exact .inl h1
  · exact .inr ⟨g, c, cur, rfl, h0, by rw [hb g (by simp [sblk]) (Array.getElem?_eq_some_iff.1 hg).1]; exact hg, rest⟩
theorem OwnP.lt {v : Value} {EE : Nat} {r : Rw} {w : World} (h : OwnP v EE r w) : ∀ k ∈ sblk v, k < w.heap.size := fun k hk => (World.ownsRow.lt h k ((sblk_own v k).1 hk)).2
def own (v : Value) (EE : Nat) (r : Rw) : Ent := .any (sblk v) [] (OwnP v EE r) (fun _ _ h hb => h.stays fun k hk => hb k (.inl hk)) (fun _ h k hk => h.lt k (hk.resolve_right (by simp)))
theorem OwnP.rd {v : Value} {EE : Nat} {r : Rw} {w : World} (h : OwnP v EE r w) : RdP v r w := by
  rcases h.2 with ⟨h1, h2⟩ | ⟨g, c, cur, rfl, h0, hg, rest⟩
  · exact .inl ⟨h1, h2⟩
  · refine .inr ⟨_, _, rfl, fun _ => rfl, fun j u hu => ?_⟩
    have := World.ownsRow.cells (g := g) h rfl j u hu
    rwa [Addr.add_at] at this

/-- What is known of a slice that is read. -/
def Rds (s : St) (v : Value) (r : Rw) : Prop := ∀ w, HpOk s.hp w → RdP v r w
theorem Rds.rd {s : St} {v : Value} {r : Rw} (m : Gx.rd v r ∈ s.hp) : Rds s v r := fun w h => h.all _ m
theorem Rds.own {s : St} {v : Value} {EE : Nat} {r : Rw} (m : Gx.own v EE r ∈ s.hp) : Rds s v r := fun w h => OwnP.rd (h.all _ m)

section
variable {E : Env} {s : St} {dst : Option Nat} {ty : TypeId} {ps : String} {af : Array Edge} {gd : Option (Nat × Bool)} {k : Nat} {K : St → Prop}
theorem q_lenR {x : Operand} {v : Value} {hv : v.oneCell' = true} {r : Rw} {T el : Nat} {sz by_ : Nat} {z : D} {aty : Array TypeId} (haty : aty = #[T]) (ht : E.tt T = some ⟨.slice el, sz, by_, z⟩) (hx : ev s x = some (.raw v hv)) (hr : Rds s v r) :
    Qt E ⟨dst, .call { callee := .builtin .len, args := #[x], argTypes := aty }, ty, ps, af, gd⟩ s (.int .i64 (r.len : Int)) := qt_of fun c w ho => by
  subst haty
  obtain ⟨d, hd, hm⟩ := tt_underlying ht
  simp only [TD.met] at hm
  subst hm
  rcases hr w ho.hp with ⟨rfl, h0⟩ | ⟨a, cap, rfl, _, _⟩
  · simp [execOp, resolve, invoke, builtin, ho.ev hx, D.val, Builtin.len_, run_underlying hd, goInt, h0]
  · simp [execOp, resolve, invoke, builtin, ho.ev hx, D.val, Builtin.len_, run_underlying hd, goInt]

theorem cells_ne {r : Rw} {j : Nat} (hj : j < r.len) (hs : Nat.beq r.size 0 = false) : r.cells ≠ [] := by
  intro h
  have := r.length_cells
  rw [h, List.length_nil] at this
  have h2 : 0 < r.len * r.size := Nat.mul_pos (by omega) (Nat.pos_of_ne_zero fun e => by rw [e] at hs; cases hs)
  omega

theorem q_ixR {x y : Operand} {v : Value} {hv : v.oneCell' = true} {r : Rw} {T el : Nat} {kk : IntKind} {i : Int} {sz by_ : Nat} {z : D} {ei : TI} (j : Nat) (ht : E.tt T = some ⟨.slice el, sz, by_, z⟩) (h3 : E.tt el = some ei) (hx : ev s x = some (.raw v hv)) (hr : Rds s v r)
    (hy : evI s y = some (kk, i)) (hj : i = (j : Int)) (hi : j < r.len) (hsz : Nat.beq r.size 0 = false) : Qt E ⟨dst, .indexAddr T x y, ty, ps, af, gd⟩ s (.raw (ptrAt v (mulS j ei.size)) (ptrAt_one _ _)) := qt_of fun c w ho => by
  subst hj
  obtain ⟨d, hd, hm⟩ := tt_underlying ht
  simp only [TD.met] at hm
  subst hm
  obtain ⟨x', hx', hs', _⟩ := tt_info h3
  have h1 : (0 : Int) ≤ (j : Int) := Int.natCast_nonneg j
  rcases hr w ho.hp with ⟨rfl, h0⟩ | ⟨a, cap, rfl, hs, _⟩
  · omega
  · have h2 : (j : Int) < (r.len : Int) := by omega
    have hsp := hs (cells_ne hi hsz)
    obtain ⟨b, o, sp⟩ := a
    simp only at hsp
    subst hsp
    simp [execOp, ho.ev hx, ho.t.evI hy, D.val, Instr.indexAt, asIntOf, run_underlying hd, hi, sizeOf, typeInfo, hx', hs', Addr.add_at, mulS_eq, ptrAt]

theorem q_loadR {x : Operand} {v : Value} {e T j : Nat} {hv : (ptrAt v e).oneCell' = true} {i : TI} {r : Rw} {d : D} {C : Prop} (ht : E.tt T = some i) (hx : ev s x = some (.raw (ptrAt v e) hv)) (hr : Rds s v r) (he : e = mulS j i.size) (hs : r.at j = some (C, d)) (hC : C)
    (h2 : r.size = i.size) (h3 : r.agB = i.td.ag) (hz : Nat.beq r.size 0 = false) : Qt E ⟨dst, .load T x, ty, ps, af, gd⟩ s d := qt_of fun c w ho => by
  rw [mulS_eq] at he
  obtain ⟨⟨l1, l2, l3, l4⟩, hj⟩ := Rw.at_lies hs hC
  rcases hr w ho.hp with ⟨rfl, h0⟩ | ⟨a, cap, rfl, hsp, hrow⟩
  · omega
  · have := run_loadAt_cells E.P w T a.block (a.off + e) d (E.tok T i ht) (fun q hq => by
      rw [← h2] at hq
      have h5 := l1 q hq
      have hlt : q < d.cells.length := by rw [D.length_cells, l2]; exact hq
      rw [List.getElem?_eq_getElem hlt] at h5 ⊢
      have h6 := hrow _ _ h5
      rw [show (a.off + e + q) = a.off + (j * r.size + q) by rw [he, h2]; omega]
      exact h6) (by rw [l2, h2]) (by rw [l3, h3]) l4
    simp [execOp, ho.ev hx, D.val, ptrAt, this]

theorem RdP_of_row {b cap EE : Nat} {r : Rw} {w : World} (h : (Ent.row b cap EE r).ok w) : RdP (.slice (some ⟨b, 0, none⟩) r.len cap) r w := OwnP.rd (v := .slice (some ⟨b, 0, none⟩) r.len cap) (EE := EE) h

theorem Rds.row {s : St} {b cap EE n : Nat} {r : Rw} (m : Ent.row b cap EE r ∈ s.hp) (hn : n = r.len) : Rds s (.slice (some ⟨b, 0, none⟩) n cap) r := fun w h => by subst hn; exact RdP_of_row (h.all _ m)

/-- A store into a slice of the call's own. -/
theorem x_storeO {T e EE : Nat} {v : Value} {hv : (ptrAt v e).oneCell' = true} {x y : Operand} {i : TI} {r r' : Rw} {nw : D} {hp' : List Ent} (ht : E.tt T = some i) (hx : ev s x = some (.raw (ptrAt v e) hv)) (hy : ev s y = some nw) (hf : nw.flat = true) (hs : nw.size = i.size)
    (hr : HpRep (own v EE r) (own v EE r') s.hp hp') (hin : e + nw.size ≤ r.len * r.size) (hpos : 0 < nw.size) (hset : r'.cells = spl r.cells e nw.cells) (hlen : r'.len = r.len) (hsz : r'.size = r.size) (h : K ⟨s.tm, hp'⟩) : Xt E ⟨none, .store T x y, ty, ps, af, none⟩ s K := xt_skip fun a w ho => by
  have hrow : OwnP v EE r w := ho.hp.all _ hr.mem
  rcases hrow.2 with ⟨_, h0⟩ | ⟨b, cap, cur0, rfl, _, _, _⟩
  · rw [h0, Nat.zero_mul] at hin; omega
  obtain ⟨cur, hg, hc, how⟩ := ownsRow_store (new := nw.cells) (at_ := e) hrow (by rw [D.length_cells]; exact hin)
  have hT := E.tok T i ht
  have hi := hT.2.1
  have hrun : (Instr.storeAt T (.pointer (some ⟨b, e, none⟩)) nw.val).run E.P w = .ok () (w.setRow b (spl cur.toList e nw.cells).toArray) := by
    cases hx : E.P.info? T with
    | none => simp [hx] at hi
    | some x =>
      simp [hx] at hi
      have hl : nw.cells.length = x.size := by rw [D.length_cells, hs, hi.1]
      have := run_storeCells_at (P := E.P) b e EE nw.cells 0 cur w hg (by simpa using hc) (D.oneCell nw)
      simp only [Nat.add_zero] at this
      simp [Instr.storeAt, Instr.sureAddr, storeVar, sizeOf, typeInfo, hx, D.val_cells nw hf, hl, this, spl]
  obtain ⟨R, p1, p2⟩ := hr.perm
  refine ⟨w.setRow b (spl cur.toList e nw.cells).toArray, ?_, _, h, ho.turn (A := [_]) (B := [_]) p1 p2 ?_ ?_ rfl (fun q _ hq => setRow_other w b q _ (by simpa [wkeys, own, Ent.wkey, sblk] using hq)) (fun q hq => .inl hq) rfl rfl rfl (by simp)⟩
  · have e1 : (execOp a.eval ⟨none, .store T x y, ty, ps, af, none⟩) = (do Instr.storeAt T (a.eval x) (a.eval y); pure .skip) := rfl
    rw [e1, ho.ev hx, ho.ev hy]
    simp only [D.val, ptrAt, Sem.run_bind, Nat.zero_add, hrun, Result.andThen_ok, Sem.run_pure]
  · intro en hen
    rw [List.mem_singleton.1 hen]
    show OwnP _ _ _ _
    unfold OwnP
    rw [hset, hlen, hsz]
    exact how
  · simp [wkeys, own, Ent.wkey, sblk]

end

/-! ### Calls that turn memory -/
inductive HpDels : List Ent → List Ent → List Ent → Prop
  | nil {hp : List Ent} : HpDels [] hp hp
  | cons {a : Ent} {A hp h1 R : List Ent} (h : HpDel a hp h1) (hr : HpDels A h1 R) : HpDels (a :: A) hp R
theorem HpDels.perm {A hp R : List Ent} (h : HpDels A hp R) : hp.Perm (A ++ R) := by
  induction h with
  | nil => exact .refl _
  | cons h _ ih => exact h.perm.trans (.cons _ ih)
/-- What is read beside: known out of R, of R's blocks. -/
structure Vw (R need : List Ent) : Prop where
  v : View R need
  k : ∀ b ∈ rkeys need, b ∈ wkeys R ∨ b ∈ rkeys R
  w : wkeys need = []
theorem Vw.none (R : List Ent) : Vw R [] := ⟨View.none _, by simp [rkeys], rfl⟩
theorem Vw.refl {R : List Ent} (h : wkeys R = []) : Vw R R := ⟨View.refl _, fun _ h => .inr h, h⟩
theorem Vw.tail {R need : List Ent} {e : Ent} (h : Vw R need) : Vw (e :: R) need := ⟨View.tail h.v, fun b hb => (h.k b hb).imp (fun h => List.mem_append_right _ h) (fun h => List.mem_append_right _ h), h.w⟩
theorem Vw.one {R : List Ent} {e x : Ent} (m : x ∈ R) (hw : e.wkey = []) (hk : ∀ b ∈ e.rkey, b ∈ x.wkey ∨ b ∈ x.rkey) (h : ∀ w, x.ok w → e.ok w) : Vw R [e] :=
  ⟨View.one (by show e.wkey ++ [] = []; rw [hw]; rfl) fun w hh => h w (hh.all _ m), fun b hb => by
    have hb' : b ∈ e.rkey := by simpa [rkeys] using hb
    exact (hk b hb').imp (fun h => mem_wkeys.2 ⟨x, m, h⟩) (fun h => mem_rkeys.2 ⟨x, m, h⟩), by show e.wkey ++ [] = []; rw [hw]; rfl⟩
theorem Vw.cons {R need : List Ent} {e : Ent} (h1 : Vw R [e]) (h2 : Vw R need) : Vw R (e :: need) := by
  refine ⟨View.cons h1.v h2.v h1.w h2.w, fun b hb => ?_, ?_⟩
  · rcases List.mem_append.1 (show b ∈ e.rkey ++ rkeys need from hb) with hb | hb
    · exact h1.k b (List.mem_append_left _ hb)
    · exact h2.k b hb
  · have e1 : e.wkey ++ [] = [] := h1.w
    show e.wkey ++ wkeys need = []
    rw [h2.w]; exact e1
theorem Vw.var {R : List Ent} {b : Nat} {d : D} (m : Ent.var b d ∈ R) : Vw R [.rvar b d] := Vw.one m rfl (fun k hk => .inl hk) fun w h => h
theorem Vw.rvar {R : List Ent} {b : Nat} {d : D} (m : Ent.rvar b d ∈ R) : Vw R [.rvar b d] := Vw.one m rfl (fun k hk => .inr hk) fun w h => h
theorem Vw.ro {R : List Ent} {b off : Nat} {r : Rw} (m : Ent.ro b off r ∈ R) : Vw R [.ro b off r] := Vw.one m rfl (fun k hk => .inr hk) fun w h => h
theorem Vw.row {R : List Ent} {b cap EE : Nat} {r : Rw} (m : Ent.row b cap EE r ∈ R) : Vw R [.ro b 0 r] := Vw.one m rfl (fun k hk => .inl hk) fun w hrow => by
  have hrow : w.ownsRow 0 EE r.size (.slice (some ⟨b, 0, Option.none⟩) r.len cap) r.len r.cells := hrow
  refine ⟨(World.ownsRow.lt hrow b rfl).2, fun j v hj => ?_⟩
  have hl : j < r.cells.length := (List.getElem?_eq_some_iff.1 hj).1
  have := World.ownsRow.cellAt hrow j (by rw [← Rw.length_cells]; exact hl)
  rw [hj] at this
  simpa using this
theorem rdK_sub {v : Value} {r : Rw} : ∀ b ∈ rdK v r, b ∈ sblk v := by
  intro b hb
  unfold rdK at hb
  split at hb
  · cases hb
  · exact hb
theorem Vw.rd {R : List Ent} {v : Value} {r : Rw} (m : Gx.rd v r ∈ R) : Vw R [Gx.rd v r] := Vw.one m rfl (fun k hk => .inr hk) fun w h => h
theorem Vw.rdO {R : List Ent} {v : Value} {EE : Nat} {r : Rw} (m : own v EE r ∈ R) : Vw R [Gx.rd v r] := Vw.one m rfl (fun k hk => .inl (rdK_sub k hk)) fun w h => OwnP.rd (v := v) (EE := EE) h
theorem Vw.rdW {R : List Ent} {b cap EE n : Nat} {r : Rw} (m : Ent.row b cap EE r ∈ R) (hn : n = r.len) : Vw R [Gx.rd (.slice (some ⟨b, 0, Option.none⟩) n cap) r] := by
  subst hn
  exact Vw.one m rfl (fun k hk => .inl (rdK_sub k hk)) fun w h => RdP_of_row h

/-- From A (that may be turned) and what else is needed: for some x, dd x is handed back and BB x stands for A; nothing else that was has turned. -/
def CT {X : Type} (P : Program) (f : FuncId) (args : Array Value) (A need : List Ent) (okX : X → Prop) (dd : X → D) (BB : X → List Ent) : Prop := ∀ w, HpOk (A ++ need) w →
  Calls P f args w (fun e w' => ∃ x, okX x ∧ e = .returned (dd x).val ∧ HpOk (BB x) w' ∧ rkeys (BB x) = [] ∧ w'.os = w.os ∧ w'.tape = w.tape ∧ w'.output = w.output ∧ w.heap.size ≤ w'.heap.size ∧
    (∀ q, q < w.heap.size → q ∉ wkeys A → w'.heap[q]? = w.heap[q]?) ∧ ∀ q ∈ wkeys (BB x), q ∈ wkeys A ∨ w.heap.size ≤ q)

section
variable {E : Env} {s : St} {dst : Option Nat} {ty : TypeId} {ps : String} {af : Array Edge} {gd : Option (Nat × Bool)} {k : Nat} {K : St → Prop} {X : Type}
theorem HpOk.need {A R need : List Ent} {w : World} (h : HpOk (A ++ R) w) (hv : Vw R need) : HpOk (A ++ need) w := by
  have hnd := h.nodup
  rw [wkeys_append, List.nodup_append] at hnd
  have hR : HpOk R w := ⟨fun e he => h.all e (by simp [he]), hnd.2.1, fun b hb hb' => h.apart b (by rw [rkeys_append]; exact List.mem_append_right _ hb) (by rw [wkeys_append]; exact List.mem_append_right _ hb')⟩
  have hn := hv.v w hR
  refine ⟨fun e he => ?_, ?_, fun b hb hb' => ?_⟩
  · rcases List.mem_append.1 he with he | he
    · exact h.all e (by simp [he])
    · exact hn.all e he
  · rw [wkeys_append, hv.w, List.append_nil]; exact hnd.1
  · rw [wkeys_append, hv.w, List.append_nil] at hb'
    rw [rkeys_append, List.mem_append] at hb
    rcases hb with hb | hb
    · exact h.apart b (by rw [rkeys_append]; exact List.mem_append_left _ hb) (by rw [wkeys_append]; exact List.mem_append_left _ hb')
    · rcases hv.k b hb with h1 | h1
      · exact hnd.2.2 b hb' b h1 rfl
      · exact h.apart b (by rw [rkeys_append]; exact List.mem_append_right _ h1) (by rw [wkeys_append]; exact List.mem_append_left _ hb')

theorem CT.at {f : FuncId} {args : Array Value} {A need R : List Ent} {okX : X → Prop} {dd : X → D} {BB : X → List Ent} {hp' : X → List Ent} (hc : CT E.P f args A need okX dd BB)
    (hd : HpDels A s.hp R) (hv : Vw R need) (hi : ∀ x, HpDels (BB x) (hp' x) R) {a : Act} {w : World} (ho : ok E s a w) :
    Calls E.P f args w (fun e w' => ∃ x, okX x ∧ e = .returned (dd x).val ∧ ok E ⟨s.tm, hp' x⟩ a w') := by
  refine (hc w ((ho.hp.perm hd.perm).need hv)).mono ?_
  rintro e w' ⟨x, h0, h1, h2, h3, h4, h5, h6, h7, h8, h9⟩
  exact ⟨x, h0, h1, ho.turn hd.perm (hi x).perm h2.all h2.nodup h3 h8 h9 h4 h5 h6 h7⟩

theorem x_callT {f : FuncId} {xs : List Operand} {tys : Array TypeId} {ds : List D} {A need R : List Ent} {okX : X → Prop} {dd : X → D} {BB : X → List Ent} {hp' : X → List Ent} (hen : Enters E.P f) (hx : evs s xs = some ds) (hc : CT E.P f (vals ds) A need okX dd BB)
    (hd : HpDels A s.hp R) (hv : Vw R need) (hi : ∀ x, HpDels (BB x) (hp' x) R) (hk : k < E.n) (h : ∀ x, okX x → K ⟨(k, dd x) :: s.tm, hp' x⟩) : Xt E ⟨some k, .call { callee := .value (.func f), args := xs.toArray, argTypes := tys }, ty, ps, af, gd⟩ s K := fun a w ho Kw Q hKw => by
  have ef : a.eval (.func f) = .func (.func f) #[] #[] := rfl
  have hrun : (execOp a.eval ⟨some k, .call { callee := .value (.func f), args := xs.toArray, argTypes := tys }, ty, ps, af, gd⟩).run E.P w = .ok (.enter f (vals ds)) w := by
    simp [execOp, resolve, ef, Deferred.ofValue, invoke, ho.evs hx, vals]
    exact hen _ w
  unfold Oper.wp
  rw [hrun]
  simp only [Oper.upon_enter]
  refine (hc.at hd hv hi ho).mono ?_
  rintro en w' ⟨x, h0, rfl, h2⟩
  exact hKw _ _ _ (h x h0) (h2.put (d := dd x) hk)

end

/-- What the entries B can be taken for, out of those at hand. -/
inductive TakeL : List Ent → List Ent → Prop
  | nil {hp : List Ent} : TakeL [] hp
  | cons {b x : Ent} {B hp h1 : List Ent} (h : HpDel x hp h1) (hw : b.wkey = x.wkey) (hok : ∀ w, x.ok w → b.ok w) (hr : TakeL B h1) : TakeL (b :: B) hp
  | part {b x : Ent} {B hp h1 : List Ent} (h : HpDel x hp h1) (hw : ∃ R, x.wkey.Perm (b.wkey ++ R)) (hok : ∀ w, x.ok w → b.ok w) (hr : TakeL B h1) : TakeL (b :: B) hp
  | free {b : Ent} {B hp : List Ent} (hw : b.wkey = []) (hok : ∀ w, b.ok w) (hr : TakeL B hp) : TakeL (b :: B) hp
theorem TakeL.keys {B hp : List Ent} (h : TakeL B hp) : ∃ R, (wkeys hp).Perm (wkeys B ++ R) := by
  induction h with
  | nil => exact ⟨_, .refl _⟩
  | @cons b x B hp h1 h hw hok _ ih =>
    obtain ⟨R, p⟩ := ih
    refine ⟨R, (wkeys_perm h.perm).trans ?_⟩
    simp only [wkeys, ← hw, List.append_assoc]
    exact .append_left _ p
  | @part b x B hp h1 h hw hok _ ih =>
    obtain ⟨R, p⟩ := ih
    obtain ⟨R2, p2⟩ := hw
    refine ⟨R2 ++ R, (wkeys_perm h.perm).trans ?_⟩
    show (x.wkey ++ wkeys h1).Perm ((b.wkey ++ wkeys B) ++ (R2 ++ R))
    refine (p2.append p).trans ?_
    rw [List.append_assoc, List.append_assoc]
    refine .append_left _ ?_
    rw [← List.append_assoc, ← List.append_assoc]
    exact .append_right _ List.perm_append_comm
  | @free b B hp hw hok _ ih =>
    obtain ⟨R, p⟩ := ih
    exact ⟨R, by simpa only [wkeys, hw, List.nil_append] using p⟩
theorem TakeL.ok {B hp : List Ent} (h : TakeL B hp) {w : World} : (∀ e ∈ hp, e.ok w) → ∀ e ∈ B, e.ok w := by
  induction h with
  | nil => intro _ e he; cases he
  | @cons b x B hp h1 h hw hok _ ih =>
    intro ha e he
    rcases List.mem_cons.1 he with rfl | he
    · exact hok w (ha x (h.perm.symm.subset (by simp)))
    · exact ih (fun y hy => ha y (h.perm.symm.subset (by simp [hy]))) e he
  | @part b x B hp h1 h hw hok _ ih =>
    intro ha e he
    rcases List.mem_cons.1 he with rfl | he
    · exact hok w (ha x (h.perm.symm.subset (by simp)))
    · exact ih (fun y hy => ha y (h.perm.symm.subset (by simp [hy]))) e he
  | @free b B hp hw hok _ ih =>
    intro ha e he
    rcases List.mem_cons.1 he with rfl | he
    · exact hok w
    · exact ih ha e he

theorem CT_intro {X : Type} {P : Program} (tt : Nat → Option TI) (tok : ∀ t i, tt t = some i → i.met P t) {f : FuncId} {fn : Func} {c : Code} {rs : List ResultVar} {ds : List D} {A need : List Ent} {okX : X → Prop} {dd : X → D} {BB : X → List Ent} (hf : P.funcs[f]? = some fn) (hb : fn.body = some c)
    (hr : fn.results = rs.toArray) (hn : Nat.ble ds.length fn.ntmps = true) (hw : wkeys need = [])
    (h : ∀ w, W ⟨P, tt, tok, fn.ntmps, w, wkeys A⟩ c (retQ fun s => ∃ ds', ResL ⟨P, tt, tok, fn.ntmps, w, wkeys A⟩ s rs ds' ∧ ∃ x, okX x ∧ (resD ds').val = (dd x).val ∧ TakeL (BB x) s.hp ∧ rkeys (BB x) = []) ⟨tmOf 0 ds, A ++ need⟩) : CT P f (vals ds) A need okX dd BB := fun w hh => by
  have hkeys : wkeys (A ++ need) = wkeys A := by rw [wkeys_append, hw, List.append_nil]
  refine calls_of_wp hf hb (wp_mono ((h w).out _ w (ok_enter (by simpa using hn) hh (wkeys A) (by rw [hkeys]; exact fun _ h => h))) ?_)
  rintro ex a w' ⟨s', q, o⟩
  have fin : (∃ ds', ResL ⟨P, tt, tok, fn.ntmps, w, wkeys A⟩ s' rs ds' ∧ ∃ x, okX x ∧ (resD ds').val = (dd x).val ∧ TakeL (BB x) s'.hp ∧ rkeys (BB x) = []) → bodyPost P fn (fun e w' => ∃ x, okX x ∧ e = .returned (dd x).val ∧ HpOk (BB x) w' ∧ rkeys (BB x) = [] ∧ w'.os = w.os ∧ w'.tape = w.tape ∧ w'.output = w.output ∧ w.heap.size ≤ w'.heap.size ∧
    (∀ q, q < w.heap.size → q ∉ wkeys A → w'.heap[q]? = w.heap[q]?) ∧ ∀ q ∈ wkeys (BB x), q ∈ wkeys A ∨ w.heap.size ≤ q) .normal a w' := by
    rintro ⟨ds', h1, x, h0, h2, h3, h4⟩
    obtain ⟨R, hp⟩ := h3.keys
    refine ⟨o.defers, _, results_run o hr h1, x, h0, by rw [h2], ⟨h3.ok o.hp.all, ?_, fun b hb => by rw [h4] at hb; cases hb⟩, h4, o.fr.os, o.fr.tape, o.fr.output, o.fr.size, fun j hj hne => o.fr.block j hj hne, fun q hq => o.fr.own q (hp.symm.subset (List.mem_append_left _ hq))⟩
    exact (List.nodup_append.1 (hp.nodup_iff.1 o.hp.nodup)).1
  cases ex with
  | normal => exact fin q
  | ret => exact fin q
  | exit id => exact q.elim
  | goto l => exact q.elim
  | panic ch => exact q.elim
  | outgrown => exact q.elim

/-- A slice as a value. -/
abbrev V1 := { v : Value // v.oneCell' = true }
theorem own_of_row {b cap EE n : Nat} {r r' : Rw} (hn : n = r.len) (h : r = r') : ∀ w, (Ent.row b cap EE r).ok w → (own (.slice (some ⟨b, 0, none⟩) n cap) EE r').ok w := by
  subst h; subst hn; exact fun w h => h
theorem own_eq {v : Value} {EE : Nat} {r r' : Rw} (h : r = r') : ∀ w, (own v EE r).ok w → (own v EE r').ok w := by
  subst h; exact fun w h => h
theorem own_nil {EE : Nat} {r : Rw} (h1 : r.len = 0) (h2 : r.cells = []) : ∀ w, (own (.slice none 0 0) EE r).ok w := fun w => by
  show OwnP _ _ _ _
  unfold OwnP
  rw [h1, h2]
  exact World.ownsRow_nil _ _ _ _
end Gx
end Go.Proofs.Ytjihhcjpbcmjaaa
namespace Go.Proofs.Ytjihhcjpbcmjaaa
open Go
namespace Gx
set_option linter.unusedVariables false
/-- oi against those behind it. -/
def chk2 (md : Region.Mode) (ops : Array Oper) (oi : Oper) (i : Nat) : List Oper → Bool
  | [] => true
  | oj :: r => ((oj.after.toList.any fun e => Nat.beq e.on i && Region.binds md e) || oi.apart ops oj) && chk2 md ops oi i r
/-- Every edge leads back; whatever stands behind and does not wait is apart. -/
def chk1 (md : Region.Mode) (ops : Array Oper) : Nat → List Oper → Bool
  | _, [] => true
  | i, oi :: r => (oi.after.toList.all fun e => !Region.binds md e || Nat.blt e.on i) && chk2 md ops oi i r && chk1 md ops (i + 1) r
section
variable {md : Region.Mode} {ops : Array Oper}
theorem chk2_spec {oi : Oper} {i : Nat} : ∀ {l : List Oper}, chk2 md ops oi i l = true → ∀ oj ∈ l, (∀ e ∈ oj.after, Region.binds md e = true → e.on ≠ i) → oi.apart ops oj = true
  | [], _, oj, h, _ => by cases h
  | o :: r, hc, oj, h, hn => by
    simp only [chk2, Bool.and_eq_true, Bool.or_eq_true, List.any_eq_true] at hc
    rcases List.mem_cons.1 h with rfl | h
    · rcases hc.1 with ⟨e, he, h1⟩ | h1
      · exact absurd (Nat.eq_of_beq_eq_true h1.1) (hn e (by simpa using he) h1.2)
      · exact h1
    · exact chk2_spec hc.2 oj h hn
theorem chk1_spec : ∀ {l : List Oper} {i : Nat}, chk1 md ops i l = true → (∀ k, ops[i + k]? = l[k]?) →
    ∀ j oj, i ≤ j → ops[j]? = some oj → (∀ e ∈ oj.after, Region.binds md e = true → e.on < j) ∧ ∀ q oq, j < q → ops[q]? = some oq → (∀ e ∈ oq.after, Region.binds md e = true → e.on ≠ j) → oj.apart ops oq = true
  | [], i, _, hk, j, oj, hij, hj => by
    have := hk (j - i)
    rw [show i + (j - i) = j by omega, hj] at this
    cases this
  | o :: r, i, hc, hk, j, oj, hij, hj => by
    simp only [chk1, Bool.and_eq_true] at hc
    by_cases e : j = i
    · subst e
      have h0 := hk 0
      rw [Nat.add_zero, hj] at h0
      obtain rfl : oj = o := by simpa using h0
      refine ⟨fun e he hb => ?_, fun q oq hq hoq hn => ?_⟩
      · have h1 := List.all_eq_true.1 hc.1.1 e (by simpa using he)
        simp only [hb, Bool.not_true, Bool.false_or] at h1
        exact Nat.le_of_ble_eq_true h1
      · have h1 := hk (q - j)
        rw [show j + (q - j) = q by omega, hoq, show q - j = (q - j - 1) + 1 by omega, List.getElem?_cons_succ] at h1
        exact chk2_spec hc.1.2 oq (List.mem_of_getElem? h1.symm) hn
    · refine chk1_spec hc.2 (fun k => ?_) j oj (by omega) hj
      have := hk (k + 1)
      rw [List.getElem?_cons_succ] at this
      rw [← this]
      congr 1
      omega
/-- What the test says. -/
structure Chk (md : Region.Mode) (ops : Array Oper) : Prop where
  back : ∀ j oj, ops[j]? = some oj → ∀ e ∈ oj.after, Region.binds md e = true → e.on < j
  apart : ∀ j oj q oq, ops[j]? = some oj → j < q → ops[q]? = some oq → (∀ e ∈ oq.after, Region.binds md e = true → e.on ≠ j) → oj.apart ops oq = true
theorem Chk.of (h : chk1 md ops 0 ops.toList = true) : Chk md ops :=
  have h1 := chk1_spec (i := 0) h (fun k => by simp)
  ⟨fun j oj hj => (h1 j oj (Nat.zero_le _) hj).1, fun j oj q oq hj hq hoq hn => (h1 j oj (Nat.zero_le _) hj).2 q oq hq hoq hn⟩
theorem getD_lt {l : Array Bool} {q : Nat} (hq : q < l.size) (d d' : Bool) : l.getD q d = l.getD q d' := by simp [hq]
theorem getD_self {l : Array Bool} {q : Nat} (hq : q < l.size) (d : Bool) : (l.setIfInBounds q true).getD q d = true := by simp [hq]
theorem Chk.lex (h : Chk md ops) : ∀ (m s : Nat) (l : Array Bool), s + m = ops.size → l.size = ops.size → (∀ q, q < s → l.getD q false = true) → (∀ q, s ≤ q → q < ops.size → l.getD q false = false) → lexOrd md ops (List.range' s m) l = true
  | 0, _, _, _, _, _, _ => rfl
  | m + 1, s, l, hs, hl, h1, h2 => by
    have hlt : s < ops.size := by omega
    have ho : ops[s]? = some ops[s] := Array.getElem?_eq_getElem hlt
    simp only [List.range'_succ, lexOrd, Bool.and_eq_true]
    refine ⟨⟨?_, ?_⟩, h.lex m (s + 1) _ (by omega) (by simpa using hl) (fun q hq => ?_) (fun q hq hq2 => ?_)⟩
    · rw [List.contains_iff_mem]
      refine mem_ready.2 ⟨by rw [getD_lt (by omega) true false]; exact h2 s (Nat.le_refl _) hlt, _, ho, fun e he hb => h1 _ (h.back s _ ho e he hb)⟩
    · unfold Region.free
      simp only [ho, List.all_eq_true, List.mem_range, Bool.or_eq_true, beq_iff_eq]
      intro j hj
      rcases Nat.lt_trichotomy j s with hjs | hjs | hjs
      · exact .inl (.inr (by rw [getD_lt (by omega) true false]; exact h1 j hjs))
      · exact .inl (.inl hjs)
      · right
        have hoj : ops[j]? = some ops[j] := Array.getElem?_eq_getElem hj
        simp only [hoj, Bool.or_eq_true, Array.any_eq_true', Bool.and_eq_true, beq_iff_eq]
        by_cases hn : ∃ e ∈ (ops[j]).after, Region.binds md e = true ∧ e.on = s
        · left
          obtain ⟨e, he, h3⟩ := hn
          exact ⟨e, he, h3⟩
        · exact .inr (h.apart s _ j _ ho hjs hoj fun e he hb heq => hn ⟨e, he, hb, heq⟩)
    · by_cases e : s = q
      · subst e; exact getD_self (by omega) _
      · rw [getD_set_ne false e]; exact h1 q (by omega)
    · rw [getD_set_ne false (by omega)]; exact h2 q (by omega) hq2
/-- All but i, and what waits for i. -/
theorem Chk.grow (h : Chk md ops) {i : Nat} (hi : i < ops.size) : ∀ (m s : Nat) (l : Array Bool), s + m = ops.size → l.size = ops.size → (∀ q, q < s → q < i → l.getD q false = true) → (∀ q, s ≤ q → q < ops.size → l.getD q false = false) → l.getD i false = false →
    (∀ q, q < i → (grow md ops i (List.range' s m) l).getD q false = true) ∧ (grow md ops i (List.range' s m) l).getD i false = false ∧ (∀ q, q < s → (grow md ops i (List.range' s m) l).getD q false = l.getD q false) ∧
    ∀ j oj, s ≤ j → ops[j]? = some oj → j ≠ i → (grow md ops i (List.range' s m) l).getD j false = false → ∃ e ∈ oj.after, Region.binds md e = true ∧ (grow md ops i (List.range' s m) l).getD e.on false = false
  | 0, s, l, hs, hl, h1, h2, h3 => ⟨fun q hq => h1 q (by omega) hq, h3, fun q hq => rfl, fun j oj hj hoj => by
      have := (Array.getElem?_eq_some_iff.1 hoj).1
      omega⟩
  | m + 1, s, l, hs, hl, h1, h2, h3 => by
    have hlt : s < ops.size := by omega
    have ho : ops[s]? = some ops[s] := Array.getElem?_eq_getElem hlt
    have hr : s ∈ Region.ready md ops l ↔ ∀ e ∈ (ops[s]).after, Region.binds md e = true → l.getD e.on false = true := by
      rw [mem_ready]
      constructor
      · rintro ⟨_, o, ho2, hh⟩
        rw [ho] at ho2
        obtain rfl : ops[s] = o := by simpa using ho2
        exact hh
      · exact fun hh => ⟨by rw [getD_lt (by omega) true false]; exact h2 s (Nat.le_refl _) hlt, _, ho, hh⟩
    simp only [List.range'_succ, Go.Proofs.Ytjihhcjpbcmjaaa.Gx.grow]
    by_cases hc : (!Nat.beq s i && (Region.ready md ops l).contains s) = true
    · rw [if_pos hc]
      simp only [Bool.and_eq_true, Bool.not_eq_true', List.contains_iff_mem] at hc
      have hsi : s ≠ i := fun e => by rw [e, Nat.beq_refl] at hc; cases hc.1
      obtain ⟨g1, g2, g3, g4⟩ := h.grow hi m (s + 1) (l.setIfInBounds s true) (by omega) (by simpa using hl) (fun q hq hqi => by
        by_cases e : s = q
        · subst e; exact getD_self (by omega) _
        · rw [getD_set_ne false e]; exact h1 q (by omega) hqi) (fun q hq hq2 => by rw [getD_set_ne false (by omega)]; exact h2 q (by omega) hq2) (by rw [getD_set_ne false hsi]; exact h3)
      refine ⟨g1, g2, fun q hq => ?_, fun j oj hj hoj hji hg => ?_⟩
      · rw [g3 q (by omega), getD_set_ne false (by omega)]
      · by_cases e : s = j
        · subst e
          rw [g3 s (by omega), getD_self (by omega)] at hg
          cases hg
        · exact g4 j oj (by omega) hoj hji hg
    · rw [if_neg hc]
      have hsi : ¬ s < i := fun hsi => hc (by
        simp only [Bool.and_eq_true, Bool.not_eq_true', List.contains_iff_mem]
        refine ⟨?_, hr.2 fun e he hb => ?_⟩
        · rw [Bool.eq_false_iff]; intro hb; have := Nat.eq_of_beq_eq_true hb; omega
        · have := h.back s _ ho e he hb
          exact h1 _ this (by omega))
      obtain ⟨g1, g2, g3, g4⟩ := h.grow hi m (s + 1) l (by omega) hl (fun q hq hqi => h1 q (by omega) hqi) (fun q hq hq2 => h2 q (by omega) hq2) h3
      refine ⟨g1, g2, fun q hq => g3 q (by omega), fun j oj hj hoj hji hg => ?_⟩
      by_cases e : s = j
      · subst e
        have hnr : ¬ s ∈ Region.ready md ops l := fun hh => hc (by
          simp only [Bool.and_eq_true, Bool.not_eq_true', List.contains_iff_mem]
          refine ⟨?_, hh⟩
          rw [Bool.eq_false_iff]; intro hb; exact hji (Nat.eq_of_beq_eq_true hb))
        rw [hr] at hnr
        obtain rfl : ops[s] = oj := by rw [ho] at hoj; simpa using hoj
        apply Classical.byContradiction
        intro hno
        refine hnr fun e he hb => ?_
        have hlt2 := h.back s _ ho e he hb
        cases hv : l.getD e.on false with
        | true => rfl
        | false => exact absurd ⟨e, he, hb, (g3 e.on (by omega)).trans hv⟩ hno
      · exact g4 j oj (by omega) hoj hji hg
theorem filter_one {n i : Nat} (hi : i < n) {p : Nat → Bool} (h : ∀ j, j < n → (p j = true ↔ j = i)) : (List.range n).filter p = [i] := by
  have e1 : (List.range n).filter p = (List.range n).filter fun j => decide (j = i) := by
    apply List.filter_congr
    intro j hj
    rw [Bool.eq_iff_iff, decide_eq_true_eq]
    exact h j (List.mem_range.1 hj)
  rw [e1]
  clear e1 h
  induction n with
  | zero => omega
  | succ n ih =>
    rw [List.range_succ, List.filter_append]
    by_cases e : i = n
    · subst e
      have : (List.range i).filter (fun j => decide (j = i)) = [] := by
        rw [List.filter_eq_nil_iff]
        intro j hj
        have := List.mem_range.1 hj
        simp; omega
      rw [this]; simp
    · rw [ih (by omega)]
      simp; omega
theorem Chk.last (h : Chk md ops) : lastB md ops (List.range ops.size) (Array.replicate ops.size false) = true := by
  unfold lastB
  rw [List.all_eq_true]
  intro i hi
  have hi := List.mem_range.1 hi
  obtain ⟨g1, g2, g3, g4⟩ := h.grow hi ops.size 0 (Array.replicate ops.size false) (by omega) (by simp) (fun q hq => by omega) (fun q _ hq => by simp [hq]) (by simp [hi])
  rw [← List.range_eq_range'] at g1 g2 g3 g4
  have hsz : (Gx.grow md ops i (List.range ops.size) (Array.replicate ops.size false)).size = ops.size := by rw [grow_size]; simp
  rw [decide_eq_true_eq]
  refine filter_one hi fun j hj => ?_
  have hoj : ops[j]? = some ops[j] := Array.getElem?_eq_getElem hj
  have hm : (!(Gx.grow md ops i (List.range ops.size) (Array.replicate ops.size false)).getD j true && ((ops[j]?).map (·.after.all fun e => !Region.binds md e || (Gx.grow md ops i (List.range ops.size) (Array.replicate ops.size false)).getD e.on false)).getD false) = true ↔ j ∈ Region.ready md ops (Gx.grow md ops i (List.range ops.size) (Array.replicate ops.size false)) := by
    unfold Region.ready
    rw [List.mem_filter, List.mem_range]
    exact ⟨fun h => ⟨hj, h⟩, fun h => h.2⟩
  rw [hm, mem_ready]
  constructor
  · rintro ⟨h1, o, ho, h2⟩
    rw [hoj] at ho
    obtain rfl : ops[j] = o := by simpa using ho
    apply Classical.byContradiction
    intro hji
    obtain ⟨e, he, hb, h3⟩ := g4 j _ (Nat.zero_le _) hoj hji (by rw [getD_lt (by omega) false true]; exact h1)
    rw [h2 e he hb] at h3
    cases h3
  · rintro rfl
    exact ⟨by rw [getD_lt (by omega) true false]; exact g2, _, hoj, fun e he hb => g1 _ (h.back j _ hoj e he hb)⟩
theorem ready_done : Region.ready md ops (setAll (Array.replicate ops.size false) (List.range ops.size)) = [] := by
  rw [List.eq_nil_iff_forall_not_mem]
  intro j hj
  obtain ⟨h1, o, ho, _⟩ := mem_ready.1 hj
  have hlt := (Array.getElem?_eq_some_iff.1 ho).1
  rw [setAll_getD _ _ _ _ (by simpa using hlt)] at h1
  simp [hlt] at h1
end
/-- A whole region that only looks. -/
theorem RA_quietF {E : Env} {ops : Array Oper} {K : St → Prop} {s : St} {n : Nat} {base : Array Bool} (hs : List Nat) (hb : base = Array.replicate ops.size false) (hh : hs = List.range ops.size) (hn : n = hs.length) (hsel : Region.noSelect ops = true) (hc : chk1 .any ops 0 ops.toList = true) (h : WQ E ops hs K s) : RA E ops n base K s := by
  subst hb; subst hh; subst hn
  have hC := Chk.of hc
  have hx := hC.lex ops.size 0 (Array.replicate ops.size false) (by omega) (by simp) (fun q hq => by omega) (fun q _ hq => by simp [hq])
  rw [← List.range_eq_range'] at hx
  have := RA_quiet (g := 0) (List.range ops.size) hsel (by simp) hC.last hx (K := K) (E := E) (s := s) ⟨fun a ho Lq hL => h.out a ho Lq fun s' a' hK hp hat => ?_⟩
  · rw [Nat.add_zero] at this; exact this
  · exact hL s' a' (RA_done ready_done hK) hp hat
end Gx
end Go.Proofs.Ytjihhcjpbcmjaaa
