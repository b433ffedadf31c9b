/- The frame of this seat's proofs, part 6: regions whose order Go leaves open; no conditions. -/
import Derived.Test.YtnfppiogmcoifaaGx5
namespace Go.Proofs.Ytnfppiogmcoifaa
open Go
namespace Gx
open Go.RowKit (Below)

section
variable {P : Program} {md : Region.Mode} {ops : Array Oper} {C : World → Prop}

theorem getD_both {listed : Array Bool} {i : Nat} (h : listed.getD i true = false) : listed.getD i false = false := by
  rcases Nat.lt_or_ge i listed.size with h' | h'
  · simp [h'] at h ⊢; exact h
  · simp [Array.getElem?_eq_none h'] at h

def setAll : Array Bool → List Nat → Array Bool
  | l, [] => l
  | l, i :: r => setAll (l.setIfInBounds i true) r

theorem setAll_size : ∀ (l : Array Bool) (r : List Nat), (setAll l r).size = l.size
  | _, [] => rfl
  | l, i :: r => by simp [setAll, setAll_size _ r]
theorem setAll_getD : ∀ (l : Array Bool) (r : List Nat) (j : Nat) (d : Bool), j < l.size → (setAll l r).getD j d = (l.getD j d || decide (j ∈ r))
  | l, [], j, d, _ => by simp [setAll]
  | l, i :: r, j, d, hj => by
    rw [setAll, setAll_getD _ r j d (by simpa using hj)]
    by_cases h : i = j
    · subst h
      simp [hj]
    · rw [getD_set_ne d h]
      have : decide (j ∈ i :: r) = decide (j ∈ r) := by simp [Ne.symm h]
      rw [this]

/-- The walk of the quiet operations, in the order given; then 'L'. -/
def wpAnyLQ (P : Program) (md : Region.Mode) (ops : Array Oper) (C : World → Prop) (hs : List Nat) (L : Array Bool → Act → Prop) : Nat → Array Bool → Act → Prop
  | 0, listed, a => L listed a
  | f + 1, listed, a => Region.ready md ops listed ≠ [] ∧ ∀ i ∈ Region.ready md ops listed, i ∈ hs ∧ qOp P ops C i (wpAnyLQ P md ops C hs L f (listed.setIfInBounds i true)) a

theorem wpAny_of_headQ {hs : List Nat} {g : Nat} {L : Array Bool → Act → Prop} {Q' : Exit → Act → World → Prop} (hL : ∀ listed a, L listed a → ∀ w, C w → wpAny P md ops Q' g listed a w) :
    ∀ (f : Nat) (listed : Array Bool) (a : Act), wpAnyLQ P md ops C hs L f listed a → ∀ w, C w → wpAny P md ops Q' (f + g) listed a w
  | 0, listed, a, h, w, hw => by rw [Nat.zero_add]; exact hL _ _ h w hw
  | f + 1, listed, a, h, w, hw => by
    rw [show f + 1 + g = (f + g) + 1 by omega]
    exact ⟨fun h0 => absurd h0 h.1, fun i hi => wpOp_of_qOp hw (fun a' w' hw' h' => wpAny_of_headQ hL f _ a' h' w' hw') (h.2 i hi).2⟩

/-- One behind the other. -/
def lexOrd (md : Region.Mode) (ops : Array Oper) : List Nat → Array Bool → Bool
  | [], _ => true
  | k :: r, listed => (Region.ready md ops listed).contains k && Region.free md ops listed k && lexOrd md ops r (listed.setIfInBounds k true)
/-- Whichever of them comes last: nothing else may come up beside it. -/
def lastB (md : Region.Mode) (ops : Array Oper) (hs : List Nat) (base : Array Bool) : Bool :=
  hs.all fun i => decide (Region.ready md ops (setAll base (hs.filter (fun j => !Nat.beq j i))) = [i])

structure Inv (ops : Array Oper) (hs : List Nat) (base listed : Array Bool) : Prop where
  size : listed.size = base.size
  bsize : base.size = ops.size
  up : ∀ j, j < base.size → base.getD j false = true → listed.getD j false = true
  down : ∀ j, j < base.size → listed.getD j false = true → base.getD j false = true ∨ j ∈ hs

theorem Inv.set {hs : List Nat} {base listed : Array Bool} (h : Inv ops hs base listed) {i : Nat} (hi : i ∈ hs) : Inv ops hs base (listed.setIfInBounds i true) where
  size := by simp [h.size]
  bsize := h.bsize
  up := fun j hj hb => by
    by_cases e : i = j
    · subst e; simp [h.size, hj]
    · rw [getD_set_ne false e]; exact h.up j hj hb
  down := fun j hj hl => by
    by_cases e : i = j
    · subst e; exact .inr hi
    · rw [getD_set_ne false e] at hl; exact h.down j hj hl

theorem getD_any {listed : Array Bool} {i : Nat} (hi : i < listed.size) (d d' : Bool) : listed.getD i d = listed.getD i d' := by simp [hi]

theorem ready_lt {listed : Array Bool} {j : Nat} (hj : j ∈ Region.ready md ops listed) : j < ops.size := by
  obtain ⟨_, o, ho, _⟩ := mem_ready.1 hj
  exact (Array.getElem?_eq_some_iff.1 ho).1

/-- While one of the quiet operations is open, nothing but they may come up. -/
theorem ready_in {hs : List Nat} {base listed : Array Bool} (inv : Inv ops hs base listed) (hB : lastB md ops hs base = true) {i : Nat} (hi : i ∈ hs) (hun : listed.getD i false = false) {j : Nat} (hj : j ∈ Region.ready md ops listed) (hji : j ≠ i) :
    j ∈ hs := by
  by_cases hjs : j ∈ hs
  · exact hjs
  · exfalso
    have h1 := List.all_eq_true.1 hB i hi
    simp only [decide_eq_true_eq] at h1
    obtain ⟨hjl, o, ho, hall⟩ := mem_ready.1 hj
    have hjlt := ready_lt hj
    have hbs : base.size = ops.size := inv.bsize
    have : j ∈ Region.ready md ops (setAll base (hs.filter (fun j => !Nat.beq j i))) := by
      refine mem_ready.2 ⟨?_, o, ho, fun e he hb => ?_⟩
      · rw [setAll_getD _ _ _ _ (by omega)]
        have h2 : base.getD j true = false := by
          rw [getD_any (by omega) true false]
          cases hbj : base.getD j false with
          | false => rfl
          | true =>
            have := inv.up j (by omega) hbj
            rw [getD_any (by rw [inv.size]; omega) false true] at this
            rw [this] at hjl; cases hjl
        rw [h2]
        simp [hjs]
      · have h3 := hall e he hb
        have hlt : e.on < base.size := by
          rcases Nat.lt_or_ge e.on base.size with h | h
          · exact h
          · rw [← inv.size] at h
            simp [Array.getElem?_eq_none h] at h3
        rw [setAll_getD _ _ _ _ hlt]
        rcases inv.down e.on hlt h3 with h4 | h4
        · rw [h4]; rfl
        · have : e.on ≠ i := by
            intro e1
            rw [e1, hun] at h3
            cases h3
          have hne : Nat.beq e.on i = false := by rw [Bool.eq_false_iff]; intro h; exact this (Nat.eq_of_beq_eq_true h)
          simp [h4, hne]
    rw [h1] at this
    simp only [List.mem_singleton] at this
    exact hji this

theorem wpAnyLQ_first {hs : List Nat} {base : Array Bool} {Lq : Act → Prop} {i : Nat} {oi : Oper} {v : Value} (hi : ops[i]? = some oi) (hsel : ∀ (j : Nat) (o : Oper) cs b, ops[j]? = some o → o.op ≠ .select cs b)
    (hB : lastB md ops hs base = true) (hin : i ∈ hs) :
    ∀ (f : Nat) (listed : Array Bool) (a : Act), Inv ops hs base listed →
      (∀ j oj, ops[j]? = some oj → j ≠ i → listed.getD j true = false → (∀ e ∈ oj.after, Region.binds md e = true → e.on ≠ i) → oi.apart ops oj = true) →
      i ∈ Region.ready md ops listed → YieldsIn P ops C oi v a →
      wpAnyLQ P md ops C hs (fun listed' a' => listed' = setAll base hs ∧ Lq a') f (listed.setIfInBounds i true) (a.put oi.dst v) → wpAnyLQ P md ops C hs (fun listed' a' => listed' = setAll base hs ∧ Lq a') (f + 1) listed a := by
  intro f
  induction f with
  | zero =>
    intro listed a inv _ hr hy H
    have hun := getD_both (mem_ready.1 hr).1
    refine ⟨fun h => (by rw [h] at hr; cases hr), fun j hj => ?_⟩
    by_cases hji : j = i
    · subst hji; exact ⟨hin, hy.qOp hi H⟩
    · exfalso
      have hjs := ready_in inv hB hin hun hj hji
      have hjl := (mem_ready.1 hj).1
      have hjlt := ready_lt hj
      have h1 : (listed.setIfInBounds i true).getD j true = false := by rw [getD_set_ne true (Ne.symm hji)]; exact hjl
      rw [H.1, setAll_getD _ _ _ _ (by rw [inv.bsize]; exact hjlt)] at h1
      simp [hjs] at h1
  | succ f ih =>
    intro listed a inv hfree hr hy H
    have hun := getD_both (mem_ready.1 hr).1
    refine ⟨fun h => (by rw [h] at hr; cases hr), fun j hj => ?_⟩
    by_cases hji : j = i
    · subst hji; exact ⟨hin, hy.qOp hi H⟩
    · have hjs := ready_in inv hB hin hun hj hji
      refine ⟨hjs, ?_⟩
      have h1 := (H.2 j (ready_mono hj hji)).2
      obtain ⟨hjun, oj, hoj, hall⟩ := mem_ready.1 hj
      have hnot : ∀ e ∈ oj.after, Region.binds md e = true → e.on ≠ i := fun e he hb heq => by
        have h1 := hall e he hb
        rw [heq, hun] at h1
        cases h1
      have h2 := qOp_put hoj (hfree j oj hoj hji hjun hnot) (fun cs b => hsel i oi cs b hi) (fun cs b => hsel j oj cs b hoj) hy h1
      have hfree' : ∀ k ok, ops[k]? = some ok → k ≠ i → (listed.setIfInBounds j true).getD k true = false →
          (∀ e ∈ ok.after, Region.binds md e = true → e.on ≠ i) → oi.apart ops ok = true := fun k ok hk hki hun hno => by
        refine hfree k ok hk hki ?_ hno
        by_cases hjk : j = k
        · subst hjk; exact hjun
        · rw [getD_set_ne true hjk] at hun; exact hun
      refine qOp_mono (fun a' h3 => ih (listed.setIfInBounds j true) a' (inv.set hjs) hfree' (ready_mono hr (Ne.symm hji)) h3.1 ?_) h2
      rw [Array.setIfInBounds_comm _ _ hji]
      exact h3.2

def wpQ (P : Program) (ops : Array Oper) (C : World → Prop) (Lq : Act → Prop) : List Nat → Act → Prop
  | [], a => Lq a
  | i :: r, a => (∃ o, ops[i]? = some o) ∧ qOp P ops C i (wpQ P ops C Lq r) a

theorem wpAnyLQ_lex {hs : List Nat} {base : Array Bool} {Lq : Act → Prop} (hsel : Region.noSelect ops = true) (hB : lastB md ops hs base = true) :
    ∀ (l : List Nat) (listed : Array Bool) (a : Act), (∀ i ∈ l, i ∈ hs) → setAll listed l = setAll base hs → Inv ops hs base listed → lexOrd md ops l listed = true → wpQ P ops C Lq l a →
    wpAnyLQ P md ops C hs (fun listed' a' => listed' = setAll base hs ∧ Lq a') l.length listed a
  | [], listed, a, _, hset, _, _, h => ⟨hset, h⟩
  | k :: l, listed, a, hin, hset, inv, hlex, h => by
    simp only [lexOrd, Bool.and_eq_true] at hlex
    obtain ⟨⟨hr, hf⟩, hlex'⟩ := hlex
    have hr' : k ∈ Region.ready md ops listed := by simpa using hr
    obtain ⟨⟨o, ho⟩, hq⟩ := h
    obtain ⟨v, hy, hK⟩ := yieldsIn_of_qOp ho hq
    exact wpAnyLQ_first ho (Region.noSelect_spec hsel) hB (hin k (by simp)) l.length listed a inv (Region.free_spec ho hf) hr' hy
      (wpAnyLQ_lex hsel hB l _ _ (fun i hi => hin i (by simp [hi])) hset (inv.set (hin k (by simp))) hlex' hK)

theorem wpAny_quiet {hs : List Nat} {base : Array Bool} {g : Nat} {a : Act} {Q' : Exit → Act → World → Prop} (hsel : Region.noSelect ops = true) (hsz : base.size = ops.size) (hB : lastB md ops hs base = true)
    (hlex : lexOrd md ops hs base = true) (h : wpQ P ops C (fun a' => ∀ w, C w → wpAny P md ops Q' g (setAll base hs) a' w) hs a) : ∀ w, C w → wpAny P md ops Q' (hs.length + g) base a w := by
  have H := wpAnyLQ_lex hsel hB hs base a (fun _ h => h) rfl ⟨rfl, hsz, fun _ _ h => h, fun _ _ h => .inl h⟩ hlex h
  exact wpAny_of_headQ (fun listed' a' ⟨h1, h2⟩ w hw => by rw [h1]; exact h2 w hw) _ _ _ H
end

/-! ### In the frame -/
section
variable {E : Env} {ops : Array Oper} {K : St → Prop} {s : St}

/-- From here on, whatever order. -/
structure RA (E : Env) (ops : Array Oper) (fuel : Nat) (listed : Array Bool) (K : St → Prop) (s : St) : Prop where
  out : ∀ a w, ok E s a w → ∀ Q : Exit → Act → World → Prop, (∀ s' a' w', K s' → ok E s' a' w' → Q .normal a' w') → (∀ c a a' w, Q (.panic c) a w → Q (.panic c) a' w) → wpAny E.P .any ops Q fuel listed a w

theorem W_draw {id : Nat} {l : List Oper} {Q : Exit → St → Prop} (hm : E.P.follows .mixedOrders = true) (h : RA E l.toArray l.length (Array.replicate l.length false) (Q .normal) s) : W E (.region id l.toArray true) Q s := ⟨fun a w ho => by
  -- a way out by panic is not taken
  have h0 : (Code.region id l.toArray true).wp E.P (fun e a w => match e with | .normal => liftQ E Q .normal a w | _ => False) a w := by
    refine wp_region_any hm ?_
    have := h.out a _ ho.drew (fun e a w => match e with | .normal => liftQ E Q .normal a w | _ => False) (fun s' a' w' k o => ⟨s', k, o⟩) (fun _ _ _ _ h => h)
    simpa using this
  refine wp_mono h0 fun e a w q => ?_
  cases e with
  | normal => exact q
  | exit id => exact q.elim
  | goto l => exact q.elim
  | ret => exact q.elim
  | panic ch => exact q.elim
  | outgrown => exact q.elim⟩

theorem RA_done {fuel : Nat} {listed : Array Bool} (hr : Region.ready .any ops listed = []) (h : K s) : RA E ops fuel listed K s := ⟨fun a w ho _ hQ _ => wpAny_done hr (hQ s a w h ho) fuel⟩

theorem RA_one {fuel : Nat} {listed : Array Bool} (i : Nat) {o : Oper} (ho : ops[i]? = some o) (hg : o.guard = none) (hr : Region.ready .any ops listed = [i]) (h : Xt E o s (RA E ops fuel (listed.setIfInBounds i true) K)) : RA E ops (fuel + 1) listed K s :=
  ⟨fun a w hok Q hQ hp => wpAny_all hr (by simp) fun j hj => by
    simp only [List.mem_singleton] at hj
    subst hj
    unfold wpOp
    simp only [ho]
    rw [if_pos (by simp [Region.wanted, hg])]
    exact .inl (h a w hok _ Q fun s' a' w' hs' ho' => hs'.out a' w' ho' Q hQ hp)⟩

/-- An operation of numbers and addresses alone may be taken first. -/
theorem RA_take {fuel : Nat} {listed : Array Bool} (i : Nat) {o : Oper} {k : Nat} {d : D} (ho : ops[i]? = some o) (hg : o.guard = none) (hd : o.dst = some k) (hs : Region.noSelect ops = true) (hf : Region.free .any ops listed i = true) (hr : (Region.ready .any ops listed).contains i = true)
    (hp : Pt E o s d) (hk : k < E.n) (h : RA E ops fuel (listed.setIfInBounds i true) K (s.put k d)) : RA E ops (fuel + 1) listed K s := ⟨fun a w hok Q hQ hpn =>
  wpAny_take ho hs hf hr (fun c a w q => hpn c _ _ w q) (v := d.val) (.inl ⟨by simp [Region.wanted, hg], hp a hok.t⟩) (by rw [hd]; exact h.out _ w (hok.put hk) Q hQ hpn)⟩

/-- The quiet ones, in the order given. -/
structure WQ (E : Env) (ops : Array Oper) (hs : List Nat) (K : St → Prop) (s : St) : Prop where
  out : ∀ a, okT E s a → ∀ Lq : Act → Prop, (∀ s' a', K s' → s'.hp = s.hp → okT E s' a' → Lq a') → wpQ E.P ops (fun w => HpOk s.hp w ∧ Fr E.w0 E.B0 s.hp w) Lq hs a

theorem WQ_nil (h : K s) : WQ E ops [] K s := ⟨fun a ho _ hL => hL s a h rfl ho⟩
theorem WQ_cons {i k : Nat} {r : List Nat} {o : Oper} {d : D} (ho : ops[i]? = some o) (hg : o.guard = none) (hd : o.dst = some k) (h : Qt E o s d) (hk : k < E.n) (hr : WQ E ops r K (s.put k d)) : WQ E ops (i :: r) K s := ⟨fun a ht Lq hL => by
  refine ⟨⟨o, ho⟩, ?_⟩
  unfold qOp
  simp only [ho]
  rw [if_pos (by simp [Region.wanted, hg])]
  refine ⟨d.val, fun w ⟨h1, h2⟩ => ?_, ?_⟩
  · have hok : ok E s a w := ⟨ht.size, ht.defers, ht.tm, h1, h2⟩
    unfold Oper.quietAt
    rcases h a w hok with h | ⟨f, args, h, hc⟩
    · rw [h]; exact ⟨rfl, rfl⟩
    · rw [h]
      refine ⟨rfl, hc.mono fun e w' ⟨he, hb⟩ => ⟨he, ?_⟩⟩
      have := hok.below hb
      exact ⟨this.hp, this.fr⟩
  · rw [hd]
    exact hr.out _ (ht.put hk) Lq fun s' a' hK hh => hL s' a' hK (by rw [hh]; rfl)⟩
theorem WQ_guard {i k g t : Nat} {want b : Bool} {r : List Nat} {op : Op} {ty : TypeId} {ps : String} {af : Array Edge} (ho : ops[i]? = some ⟨some k, op, ty, ps, af, some (g, want)⟩) (ht : (ops[g]?).bind (·.dst) = some t) (hb : get s.tm t = some (.bool b)) (hk : k < E.n)
    (h1 : b = want → ∃ d, Qt E ⟨some k, op, ty, ps, af, some (g, want)⟩ (s.put t (.bool want)) d ∧ WQ E ops r K ((s.put t (.bool want)).put k d)) (h2 : b = !want → WQ E ops r K ((s.put t (.bool (!want))).put k (.tup []))) : WQ E ops (i :: r) K s := ⟨fun a hat Lq hL => by
  refine ⟨⟨_, ho⟩, ?_⟩
  have hw := wanted_of hat (o := ⟨some k, op, ty, ps, af, some (g, want)⟩) rfl ht hb
  unfold qOp
  simp only [ho]
  rw [hw]
  by_cases e : b = want
  · rw [if_pos (by simp [e])]
    obtain ⟨d, hq, hr⟩ := h1 e
    have hat' : okT E (s.put t (.bool want)) a := hat.same hb (by rw [e])
    refine ⟨d.val, fun w ⟨h3, h4⟩ => ?_, ?_⟩
    · have hok : ok E (s.put t (.bool want)) a w := ⟨hat'.size, hat'.defers, hat'.tm, h3, h4⟩
      unfold Oper.quietAt
      rcases hq a w hok with h | ⟨f, args, h, hc⟩
      · rw [h]; exact ⟨rfl, rfl⟩
      · rw [h]
        refine ⟨rfl, hc.mono fun e w' ⟨he, hb⟩ => ⟨he, ?_⟩⟩
        have := hok.below hb
        exact ⟨this.hp, this.fr⟩
    · exact hr.out _ (hat'.put hk) Lq fun s' a' hK hh => hL s' a' hK (by rw [hh]; rfl)
  · rw [if_neg (by simpa using e)]
    have e' : b = !want := by cases b <;> cases want <;> simp_all
    exact (h2 e').out _ ((hat.same (d' := .bool (!want)) hb (by rw [e'])).put (d := .tup []) hk) Lq fun s' a' hK hh => hL s' a' hK (by rw [hh]; rfl)⟩

theorem RA_quiet {g : Nat} {base : Array Bool} (hs : List Nat) (hsel : Region.noSelect ops = true) (hsz : base.size = ops.size) (hB : lastB .any ops hs base = true)
    (hlex : lexOrd .any ops hs base = true) (h : WQ E ops hs (RA E ops g (setAll base hs) K) s) : RA E ops (hs.length + g) base K s := ⟨fun a w ho Q hQ hp =>
  wpAny_quiet hsel hsz hB hlex (h.out a ho.t _ fun s' a' hs' hh hat w' ⟨h1, h2⟩ => hs'.out a' w' ⟨hat.size, hat.defers, hat.tm, by rw [hh]; exact h1, by rw [hh]; exact h2⟩ Q hQ hp) w ⟨ho.hp, ho.fr⟩⟩
end
end Gx
end Go.Proofs.Ytnfppiogmcoifaa
