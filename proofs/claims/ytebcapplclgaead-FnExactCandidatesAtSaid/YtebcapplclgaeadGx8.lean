/-
  Regions that draw their order, in which one new variable may be laid at any time beside operations that only read. No conditions but those in the statements.
-/
import Derived.Test.YtebcapplclgaeadGx6
namespace Go.Proofs.Ytebcapplclgaead
open Go
namespace Gx
open Go.RowKit (Below)
set_option linter.unusedVariables false

section
variable {P : Program} {md : Region.Mode} {ops : Array Oper} {C : World → Prop}

/-- One value in every world of the class; a call leaves a world of the class in which nothing that was has turned. -/
def YS (P : Program) (ops : Array Oper) (C : World → Prop) (o : Oper) (v : Value) (a : Act) : Prop :=
  (Region.wanted o (yielded ops a.tmps) = true ∧ ∀ w, C w → o.quietAt P a (fun w' => C w' ∧ Below w.heap.size w w') w v) ∨
  (Region.wanted o (yielded ops a.tmps) = false ∧ v = undef)

theorem YS.of_same {o : Oper} {v : Value} {a a' : Act} (hy : YS P ops C o v a) (he : execOp a'.eval o = execOp a.eval o)
    (hw : Region.wanted o (yielded ops a'.tmps) = Region.wanted o (yielded ops a.tmps)) : YS P ops C o v a' := by
  unfold YS Oper.quietAt at *
  rw [he, hw]
  exact hy

def sOp (P : Program) (ops : Array Oper) (C : World → Prop) (i : Nat) (K : Act → Prop) (a : Act) : Prop :=
  ∃ o v, ops[i]? = some o ∧ YS P ops C o v a ∧ K (a.put o.dst v)

theorem sOp_mono {i : Nat} {a : Act} {K K' : Act → Prop} (h : ∀ a, K a → K' a) (hh : sOp P ops C i K a) : sOp P ops C i K' a :=
  let ⟨o, v, h1, h2, h3⟩ := hh
  ⟨o, v, h1, h2, h _ h3⟩

theorem sOp_put {j : Nat} {oi oj : Oper} {v : Value} (hj : ops[j]? = some oj) (hap : oi.apart ops oj = true)
    (hsi : ∀ cs b, oi.op ≠ .select cs b) (hsj : ∀ cs b, oj.op ≠ .select cs b) {K : Act → Prop} {a : Act}
    (hy : YS P ops C oi v a) (h : sOp P ops C j K (a.put oi.dst v)) :
    sOp P ops C j (fun a' => YS P ops C oi v a' ∧ K (a'.put oi.dst v)) a := by
  obtain ⟨h1, h2, h3⟩ := Oper.apart_spec hap
  obtain ⟨o, u, ho, hu, hK⟩ := h
  obtain rfl : oj = o := by rw [hj] at ho; simpa using ho
  refine ⟨oj, u, hj, hu.of_same ?_ ?_, hy.of_same (execOp_put oi hsi a oj.dst u h3) (wanted_put oi a oj.dst u h3), by rw [← Act.put_comm a v u h2]; exact hK⟩
  · exact (execOp_put oj hsj a oi.dst v h1).symm
  · exact (wanted_put oj a oi.dst v h1).symm

def wpAnyS (P : Program) (md : Region.Mode) (ops : Array Oper) (C : World → Prop) (hs : List Nat) (L : Array Bool → Act → Prop) : Nat → Array Bool → Act → Prop
  | 0, listed, a => L listed a
  | f + 1, listed, a => Region.ready md ops listed ≠ [] ∧ ∀ i ∈ Region.ready md ops listed, i ∈ hs ∧ sOp P ops C i (wpAnyS P md ops C hs L f (listed.setIfInBounds i true)) a

theorem wpAnyS_first {hs : List Nat} {base : Array Bool} {Lq : Act → Prop} {i : Nat} {oi : Oper} {v : Value} (hi : ops[i]? = some oi) (hsel : ∀ (j : Nat) (o : Oper) cs b, ops[j]? = some o → o.op ≠ .select cs b)
    (hB : lastB md ops hs base = true) (hin : i ∈ hs) :
    ∀ (f : Nat) (listed : Array Bool) (a : Act), Inv md ops hs base listed →
      (∀ j oj, ops[j]? = some oj → j ≠ i → listed.getD j true = false → (∀ e ∈ oj.after, Region.binds md e = true → e.on ≠ i) → oi.apart ops oj = true) →
      i ∈ Region.ready md ops listed → YS P ops C oi v a →
      wpAnyS P md ops C hs (fun listed' a' => listed' = setAll base hs ∧ Lq a') f (listed.setIfInBounds i true) (a.put oi.dst v) → wpAnyS P md ops C hs (fun listed' a' => listed' = setAll base hs ∧ Lq a') (f + 1) listed a := by
  intro f
  induction f with
  | zero =>
    intro listed a inv _ hr hy H
    have hun := getD_both (mem_ready.1 hr).1
    refine ⟨fun h => (by rw [h] at hr; cases hr), fun j hj => ?_⟩
    by_cases hji : j = i
    · subst hji; exact ⟨hin, oi, v, hi, hy, H⟩
    · exfalso
      have hjs := ready_in inv hB hin hun hj hji
      have hjl := (mem_ready.1 hj).1
      have hjlt := ready_lt hj
      have h1 : (listed.setIfInBounds i true).getD j true = false := by rw [getD_set_ne true (Ne.symm hji)]; exact hjl
      rw [H.1, setAll_getD _ _ _ _ (by rw [inv.bsize]; exact hjlt)] at h1
      simp [hjs] at h1
  | succ f ih =>
    intro listed a inv hfree hr hy H
    have hun := getD_both (mem_ready.1 hr).1
    refine ⟨fun h => (by rw [h] at hr; cases hr), fun j hj => ?_⟩
    by_cases hji : j = i
    · subst hji; exact ⟨hin, oi, v, hi, hy, H⟩
    · have hjs := ready_in inv hB hin hun hj hji
      refine ⟨hjs, ?_⟩
      have h1 := (H.2 j (ready_mono hj hji)).2
      obtain ⟨hjun, oj, hoj, hall⟩ := mem_ready.1 hj
      have hnot : ∀ e ∈ oj.after, Region.binds md e = true → e.on ≠ i := fun e he hb heq => by
        have h1 := hall e he hb
        rw [heq, hun] at h1
        cases h1
      have h2 := sOp_put hoj (hfree j oj hoj hji hjun hnot) (fun cs b => hsel i oi cs b hi) (fun cs b => hsel j oj cs b hoj) hy h1
      have hfree' : ∀ k ok, ops[k]? = some ok → k ≠ i → (listed.setIfInBounds j true).getD k true = false →
          (∀ e ∈ ok.after, Region.binds md e = true → e.on ≠ i) → oi.apart ops ok = true := fun k ok hk hki hun hno => by
        refine hfree k ok hk hki ?_ hno
        by_cases hjk : j = k
        · subst hjk; exact hjun
        · rw [getD_set_ne true hjk] at hun; exact hun
      refine sOp_mono (fun a' h3 => ih (listed.setIfInBounds j true) a' (inv.set hB hj) hfree' (ready_mono hr (Ne.symm hji)) h3.1 ?_) h2
      rw [Array.setIfInBounds_comm _ _ hji]
      exact h3.2

def wpS (P : Program) (ops : Array Oper) (C : World → Prop) (Lq : Act → Prop) : List Nat → Act → Prop
  | [], a => Lq a
  | i :: r, a => sOp P ops C i (wpS P ops C Lq r) a

theorem wpAnyS_lex {hs : List Nat} {base : Array Bool} {Lq : Act → Prop} (hsel : Region.noSelect ops = true) (hB : lastB md ops hs base = true) :
    ∀ (l : List Nat) (listed : Array Bool) (a : Act), (∀ i ∈ l, i ∈ hs) → setAll listed l = setAll base hs → Inv md ops hs base listed → lexOrd md ops l listed = true → wpS P ops C Lq l a →
    wpAnyS P md ops C hs (fun listed' a' => listed' = setAll base hs ∧ Lq a') l.length listed a
  | [], listed, a, _, hset, _, _, h => ⟨hset, h⟩
  | k :: l, listed, a, hin, hset, inv, hlex, h => by
    simp only [lexOrd, Bool.and_eq_true] at hlex
    obtain ⟨⟨hr, hf⟩, hlex'⟩ := hlex
    have hr' : k ∈ Region.ready md ops listed := by simpa using hr
    obtain ⟨o, v, ho, hy, hK⟩ := h
    exact wpAnyS_first ho (Region.noSelect_spec hsel) hB (hin k (by simp)) l.length listed a inv (Region.free_spec ho hf) hr' hy
      (wpAnyS_lex hsel hB l _ _ (fun i hi => hin i (by simp [hi])) hset (inv.set hB hr') hlex' hK)

/-- What a strong yield says of one operation in one world of a smaller class that calls keep. -/
theorem wpOp_of_YS {i : Nat} {o : Oper} {v : Value} {a : Act} {w : World} {C1 : World → Prop} {K' : Act → World → Prop} {Q' : Exit → Act → World → Prop} (hi : ops[i]? = some o) (hy : YS P ops C o v a) (hw : C w) (h1 : C1 w)
    (hC1 : ∀ w w', C1 w → C w → C w' → Below w.heap.size w w' → C1 w') (h : ∀ w', C w' → C1 w' → K' (a.put o.dst v) w') : wpOp P ops Q' i K' a w := by
  unfold wpOp
  simp only [hi]
  rcases hy with ⟨hwa, hq⟩ | ⟨hwa, rfl⟩
  · rw [if_pos hwa]
    left
    have h3 := hq w hw
    unfold Oper.quietAt at h3
    unfold Oper.wp
    generalize (execOp a.eval o).run P w = r at *
    cases r with
    | ok n w' =>
      cases n <;> simp only [Oper.quietUpon] at h3 <;> simp only [Oper.upon]
      case value u =>
        obtain ⟨e1, e2⟩ := h3
        rw [e1, e2]
        exact h _ hw h1
      case skip =>
        obtain ⟨e1, e2⟩ := h3
        rw [e1, ← e2]
        exact h _ hw h1
      case enter f args =>
        obtain ⟨e1, hc⟩ := h3
        rw [e1]
        exact hc.mono fun e w'' ⟨he, hw'', hb⟩ => by subst he; exact h _ hw'' (hC1 w w'' h1 hw hw'' hb)
    | halt x w' => simp only [Oper.quietUpon] at h3
  · rw [if_neg (by rw [hwa]; exact Bool.false_ne_true)]
    exact h _ hw h1

/-- All that is left are quiet ones, from a world of the smaller class. -/
theorem wpAny_of_S {hs : List Nat} {g : Nat} {L : Array Bool → Act → Prop} {C1 : World → Prop} {Q' : Exit → Act → World → Prop} (hC1 : ∀ w w', C1 w → C w → C w' → Below w.heap.size w w' → C1 w') (p : Act → Act)
    (hp : ∀ i ∈ hs, ∀ o v a, ops[i]? = some o → YS P ops C o v a → YS P ops C o v (p a) ∧ (p a).put o.dst v = p (a.put o.dst v))
    (hL : ∀ listed a, L listed a → ∀ w, C w → C1 w → wpAny P md ops Q' g listed (p a) w) :
    ∀ (f : Nat) (listed : Array Bool) (a : Act), wpAnyS P md ops C hs L f listed a → ∀ w, C w → C1 w → wpAny P md ops Q' (f + g) listed (p a) w
  | 0, listed, a, h, w, hw, h1 => by rw [Nat.zero_add]; exact hL _ _ h w hw h1
  | f + 1, listed, a, h, w, hw, h1 => by
    rw [show f + 1 + g = (f + g) + 1 by omega]
    refine ⟨fun h0 => absurd h0 h.1, fun i hi => ?_⟩
    obtain ⟨hin, o, v, ho, hy, hK⟩ := h.2 i hi
    have h2 := hp i hin o v a ho hy
    refine wpOp_of_YS ho h2.1 hw h1 hC1 fun w' hw' h1' => ?_
    rw [h2.2]
    exact wpAny_of_S hC1 p hp hL f _ _ hK w' hw' h1'

theorem set_back {listed : Array Bool} {i : Nat} (h : listed.getD i true = false) : (listed.setIfInBounds i true).setIfInBounds i false = listed := by
  have hlt : i < listed.size := by
    rcases Nat.lt_or_ge i listed.size with h1 | h1
    · exact h1
    · simp [Array.getD, Nat.not_lt.2 h1] at h
  apply Array.ext_getElem?
  intro j
  by_cases e : i = j
  · subst e
    have : listed[i] = false := by simpa [Array.getD, hlt] using h
    simp [this, hlt]
  · rw [Array.getElem?_setIfInBounds_ne e, Array.getElem?_setIfInBounds_ne e]

/-- Quiet operations, and one that lays a new variable whenever it likes. -/
theorem wpAny_quietA {hs : List Nat} {base : Array Bool} {g ia k : Nat} {oa : Oper} {a : Act} {C1 : Value → World → Prop} {Q' : Exit → Act → World → Prop} (hsel : Region.noSelect ops = true) (hoa : ops[ia]? = some oa) (hd : oa.dst = some k)
    (hga : oa.guard = none) (hia : ia ∈ Region.ready md ops base) (hsz : base.size = ops.size)
    (hB : lastB md ops hs (base.setIfInBounds ia true) = true) (hlex : lexOrd md ops hs (base.setIfInBounds ia true) = true)
    (hap : ∀ i ∈ hs, ∀ o, ops[i]? = some o → oa.apart ops o = true) (hni : ia ∉ hs)
    (halloc : ∀ (a : Act) w, C w → ∃ v w', (execOp a.eval oa).run P w = .ok (.value v) w' ∧ C w' ∧ C1 v w')
    (hC1 : ∀ v w w', C1 v w → C w → C w' → Below w.heap.size w w' → C1 v w')
    (h : wpS P ops C (fun a' => (∀ v w, C w → C1 v w → wpAny P md ops Q' g (setAll (base.setIfInBounds ia true) hs) (a'.put (some k) v) w) ∧ ∀ w, C w → wpAny P md ops Q' (g + 1) ((setAll (base.setIfInBounds ia true) hs).setIfInBounds ia false) a' w) hs a) : ∀ w, C w → wpAny P md ops Q' (hs.length + 1 + g) base a w := by
  have H := wpAnyS_lex hsel hB hs _ a (fun _ h => h) rfl (.start (by simpa using hsz)) hlex h
  have hsel' := Region.noSelect_spec hsel
  -- behind the new variable
  have post : ∀ v f listed a, wpAnyS P md ops C hs (fun listed' a' => listed' = setAll (base.setIfInBounds ia true) hs ∧ (∀ v w, C w → C1 v w → wpAny P md ops Q' g (setAll (base.setIfInBounds ia true) hs) (a'.put (some k) v) w) ∧ ∀ w, C w → wpAny P md ops Q' (g + 1) ((setAll (base.setIfInBounds ia true) hs).setIfInBounds ia false) a' w) f listed a →
      ∀ w, C w → C1 v w → wpAny P md ops Q' (f + g) listed (a.put (some k) v) w := fun v => wpAny_of_S (hC1 v) (fun a => a.put (some k) v)
    (fun i hin o u a ho hy => by
      obtain ⟨h1, h2, h3⟩ := Oper.apart_spec (hap i hin o ho)
      rw [hd] at h1 h2
      exact ⟨hy.of_same (execOp_put o (fun cs b => hsel' i o cs b ho) a (some k) v h1) (wanted_put o a (some k) v h1), Act.put_comm a v u h2⟩)
    (fun listed a ⟨e, hK⟩ w hw h1 => by rw [e]; exact hK.1 v w hw h1)
  have key : ∀ (f : Nat) (listed : Array Bool) (a : Act), ia ∈ Region.ready md ops listed →
      wpAnyS P md ops C hs (fun listed' a' => listed' = setAll (base.setIfInBounds ia true) hs ∧ (∀ v w, C w → C1 v w → wpAny P md ops Q' g (setAll (base.setIfInBounds ia true) hs) (a'.put (some k) v) w) ∧ ∀ w, C w → wpAny P md ops Q' (g + 1) ((setAll (base.setIfInBounds ia true) hs).setIfInBounds ia false) a' w) f (listed.setIfInBounds ia true) a →
      ∀ w, C w → wpAny P md ops Q' (f + g + 1) listed a w := by
    intro f
    induction f with
    | zero =>
      intro listed a hr hK w hw
      have hun := (mem_ready.1 hr).1
      have e := set_back hun
      rw [hK.1] at e
      have := hK.2.2 w hw
      rw [e] at this
      rw [Nat.zero_add]
      exact this
    | succ f ih =>
      intro listed a hr hK w hw
      refine ⟨fun h0 => (by rw [h0] at hr; cases hr), fun j hj => ?_⟩
      by_cases hji : j = ia
      · subst hji
        unfold wpOp
        simp only [hoa]
        rw [if_pos (by simp [Region.wanted, hga])]
        left
        obtain ⟨v, w', hrun, hw', h1⟩ := halloc a w hw
        unfold Oper.wp
        rw [hrun]
        simp only [Oper.upon]
        rw [hd]
        exact post v (f + 1) _ a hK w' hw' h1
      · obtain ⟨hin, o, v, ho, hy, hK'⟩ := hK.2 j (ready_mono hj hji)
        refine wpOp_of_YS (C1 := fun _ => True) ho hy hw trivial (fun _ _ _ _ _ _ => trivial) fun w' hw' _ => ?_
        rw [show f + 1 + g = f + g + 1 by omega]
        refine ih _ _ (ready_mono hr (Ne.symm hji)) ?_ w' hw'
        rw [Array.setIfInBounds_comm _ _ hji]
        exact hK'
  intro w hw
  rw [show hs.length + 1 + g = hs.length + g + 1 by omega]
  exact key hs.length base a hia H w hw
end

/-! ### In the frame -/
section
variable {E : Env} {ops : Array Oper} {K : St → Prop} {s : St}
/-- The quiet ones, strongly. -/
structure SQ (E : Env) (ops : Array Oper) (hs : List Nat) (K : St → Prop) (s : St) : Prop where
  out : ∀ a, okT E s a → ∀ Lq : Act → Prop, (∀ s' a', K s' → s'.hp = s.hp → okT E s' a' → Lq a') → wpS E.P ops (fun w => HpOk s.hp w ∧ Fr E.w0 E.B0 s.hp w) Lq hs a

theorem SQ_nil (h : K s) : SQ E ops [] K s := ⟨fun a ho _ hL => hL s a h rfl ho⟩
theorem qt_strong {o : Oper} {d : D} {a : Act} {w : World} (h : Qt E o s d) (hok : ok E s a w) : o.quietAt E.P a (fun w' => (HpOk s.hp w' ∧ Fr E.w0 E.B0 s.hp w') ∧ Below w.heap.size w w') w d.val := by
  unfold Oper.quietAt
  rcases h a w hok with h | ⟨f, args, h, hc⟩
  · rw [h]; exact ⟨rfl, rfl⟩
  · rw [h]
    refine ⟨rfl, hc.mono fun e w' ⟨he, hb⟩ => ⟨he, ?_⟩⟩
    have := hok.below hb
    exact ⟨⟨this.hp, this.fr⟩, hb⟩
theorem SQ_cons {i k : Nat} {r : List Nat} {o : Oper} {d : D} (ho : ops[i]? = some o) (hg : o.guard = none) (hd : o.dst = some k) (h : Qt E o s d) (hk : k < E.n) (hr : SQ E ops r K (s.put k d)) : SQ E ops (i :: r) K s := ⟨fun a ht Lq hL => by
  refine ⟨o, d.val, ho, .inl ⟨by simp [Region.wanted, hg], fun w ⟨h1, h2⟩ => qt_strong h ⟨ht.size, ht.defers, ht.tm, h1, h2⟩⟩, ?_⟩
  rw [hd]
  exact hr.out _ (ht.put hk) Lq fun s' a' hK hh => hL s' a' hK (by rw [hh]; rfl)⟩
theorem SQ_guard {i k g t : Nat} {want b : Bool} {r : List Nat} {op : Op} {ty : TypeId} {ps : String} {af : Array Edge} (ho : ops[i]? = some ⟨some k, op, ty, ps, af, some (g, want)⟩) (ht : (ops[g]?).bind (·.dst) = some t) (hb : get s.tm t = some (.bool b)) (hk : k < E.n)
    (h1 : b = want → ∃ d, Qt E ⟨some k, op, ty, ps, af, some (g, want)⟩ (s.put t (.bool want)) d ∧ SQ E ops r K ((s.put t (.bool want)).put k d)) (h2 : b = !want → SQ E ops r K ((s.put t (.bool (!want))).put k (.tup []))) : SQ E ops (i :: r) K s := ⟨fun a hat Lq hL => by
  have hw := wanted_of hat (o := ⟨some k, op, ty, ps, af, some (g, want)⟩) rfl ht hb
  by_cases e : b = want
  · obtain ⟨d, hq, hr⟩ := h1 e
    have hat' : okT E (s.put t (.bool want)) a := hat.same hb (by rw [e])
    refine ⟨_, d.val, ho, .inl ⟨by rw [hw]; simp [e], fun w ⟨h3, h4⟩ => qt_strong (s := s.put t (.bool want)) hq ⟨hat'.size, hat'.defers, hat'.tm, h3, h4⟩⟩, ?_⟩
    exact hr.out _ (hat'.put hk) Lq fun s' a' hK hh => hL s' a' hK (by rw [hh]; rfl)
  · have e' : b = !want := by cases b <;> cases want <;> simp_all
    refine ⟨_, undef, ho, .inr ⟨by rw [hw]; simpa using e, rfl⟩, ?_⟩
    exact (h2 e').out _ ((hat.same (d' := .bool (!want)) hb (by rw [e'])).put (d := .tup []) hk) Lq fun s' a' hK hh => hL s' a' hK (by rw [hh]; rfl)⟩

/-- Quiet ones, and a variable of zero value laid at any time. -/
theorem RA_quietA {hs : List Nat} {g ia k : Nat} {listed : Array Bool} {T : TypeId} {i : TI} {ty : TypeId} {ps : String} {af : Array Edge} (hoa : ops[ia]? = some ⟨some k, .alloc T, ty, ps, af, none⟩) (ht : E.tt T = some i) (hk : k < E.n)
    (hchk : (Region.noSelect ops && (Region.ready .any ops listed).contains ia && Nat.beq listed.size ops.size && lastB .any ops hs (listed.setIfInBounds ia true) && lexOrd .any ops hs (listed.setIfInBounds ia true) &&
      hs.all (fun j => match ops[j]? with | some o => (Oper.mk (some k) (.alloc T) ty ps af none).apart ops o | none => true) && !hs.contains ia) = true)
    (h : SQ E ops hs (fun s' => (∀ b, RA E ops g (setAll (listed.setIfInBounds ia true) hs) K ⟨(k, .ptr b 0 none) :: s'.tm, .var b i.zero :: s'.hp⟩) ∧ RA E ops (g + 1) ((setAll (listed.setIfInBounds ia true) hs).setIfInBounds ia false) K s') s) : RA E ops (hs.length + 1 + g) listed K s := ⟨fun a w hok Q hQ hp => by
  simp only [Bool.and_eq_true, List.contains_iff_mem, Nat.beq_eq, decide_eq_true_eq, Bool.not_eq_true', List.all_eq_true] at hchk
  obtain ⟨⟨⟨⟨⟨⟨c1, c2⟩, c3⟩, c4⟩, c5⟩, c7⟩, c8⟩ := hchk
  refine wpAny_quietA (C := fun w => HpOk s.hp w ∧ Fr E.w0 E.B0 s.hp w) (C1 := fun v w => ∃ b, v = (D.ptr b 0 none).val ∧ HpOk (.var b i.zero :: s.hp) w ∧ Fr E.w0 E.B0 (.var b i.zero :: s.hp) w) c1 hoa rfl rfl c2 c3 c4 c5 (fun j hj o ho => ?_) (by simpa using c8) (fun a' w' ⟨h1, h2⟩ => ?_) (fun v w1 w2 ⟨b, hv, h1, h2⟩ _ _ hb => ?_)
    (h.out a hok.t _ fun s' a' hK hh ht' => ⟨fun v w1 _ ⟨b, hv, h1, h2⟩ => ?_, fun w1 ⟨h1, h2⟩ => hK.2.out _ w1 ⟨ht'.size, ht'.defers, ht'.tm, by rw [hh]; exact h1, by rw [hh]; exact h2⟩ Q hQ hp⟩) w ⟨hok.hp, hok.fr⟩
  · have := c7 j hj
    simpa [ho] using this
  · obtain ⟨x, hx, e1, e2, e3⟩ := tt_info ht
    have hf := (E.tok T i ht).2.2.1
    have hok' : ok E ⟨[], s.hp⟩ ⟨Array.replicate E.n undef, []⟩ w' := ⟨by simp, rfl, fun k d hkd => (by cases hkd), h1, h2⟩
    have hn := ok.alloc hok' hf T
    have hb : ok E ⟨[], s.hp⟩ ⟨Array.replicate E.n undef, []⟩ (w'.alloc (.cells i.zero.cells.toArray T)) := ok.below hok' ((Below.refl _ _).alloc (Nat.le_refl _) _)
    refine ⟨(D.ptr w'.heap.size 0 none).val, _, ?_, ⟨hb.hp, hb.fr⟩, _, rfl, hn.hp, hn.fr⟩
    simp [execOp, Instr.alloc, zeroValue, typeInfo, hx, e3, run_newVar _ _ _ _ hf, D.val]
  · have hok1 : ok E ⟨[], .var b i.zero :: s.hp⟩ ⟨Array.replicate E.n undef, []⟩ w1 := ⟨by simp, rfl, fun k d hkd => (by cases hkd), h1, h2⟩
    have hb1 := hok1.below hb
    exact ⟨b, hv, hb1.hp, hb1.fr⟩
  · subst hv
    refine (hK.1 b).out _ w1 ?_ Q hQ hp
    have e1 : okT E (s'.put k (.ptr b 0 none)) (a'.put (some k) (D.ptr b 0 none).val) := ht'.put hk
    exact ⟨e1.size, e1.defers, e1.tm, by rw [hh]; exact h1, by rw [hh]; exact h2⟩⟩
end
end Gx
end Go.Proofs.Ytebcapplclgaead
