/- The frame of this seat's proofs, part 6: regions whose order Go leaves open; no conditions. -/
import Derived.Test.YtebcapplclgaeadGx5
namespace Go.Proofs.Ytebcapplclgaead
open Go
namespace Gx
open Go.RowKit (Below)
set_option linter.unusedVariables false

section
variable {P : Program} {md : Region.Mode} {ops : Array Oper} {C : World → Prop}

theorem getD_both {listed : Array Bool} {i : Nat} (h : listed.getD i true = false) : listed.getD i false = false := by
  rcases Nat.lt_or_ge i listed.size with h' | h'
  · simp [h'] at h ⊢; exact h
  · simp [Array.getElem?_eq_none h'] at h

def setAll : Array Bool → List Nat → Array Bool
  | l, [] => l
  | l, i :: r => setAll (l.setIfInBounds i true) r

theorem setAll_size : ∀ (l : Array Bool) (r : List Nat), (setAll l r).size = l.size
  | _, [] => rfl
  | l, i :: r => by simp [setAll, setAll_size _ r]
theorem setAll_getD : ∀ (l : Array Bool) (r : List Nat) (j : Nat) (d : Bool), j < l.size → (setAll l r).getD j d = (l.getD j d || decide (j ∈ r))
  | l, [], j, d, _ => by simp [setAll]
  | l, i :: r, j, d, hj => by
    rw [setAll, setAll_getD _ r j d (by simpa using hj)]
    by_cases h : i = j
    · subst h
      simp [hj]
    · rw [getD_set_ne d h]
      have : decide (j ∈ i :: r) = decide (j ∈ r) := by simp [Ne.symm h]
      rw [this]

/-- The walk of the quiet operations, in the order given; then 'L'. -/
def wpAnyLQ (P : Program) (md : Region.Mode) (ops : Array Oper) (C : World → Prop) (hs : List Nat) (L : Array Bool → Act → Prop) : Nat → Array Bool → Act → Prop
  | 0, listed, a => L listed a
  | f + 1, listed, a => Region.ready md ops listed ≠ [] ∧ ∀ i ∈ Region.ready md ops listed, i ∈ hs ∧ qOp P ops C i (wpAnyLQ P md ops C hs L f (listed.setIfInBounds i true)) a

theorem wpAny_of_headQ {hs : List Nat} {g : Nat} {L : Array Bool → Act → Prop} {Q' : Exit → Act → World → Prop} (hL : ∀ listed a, L listed a → ∀ w, C w → wpAny P md ops Q' g listed a w) :
    ∀ (f : Nat) (listed : Array Bool) (a : Act), wpAnyLQ P md ops C hs L f listed a → ∀ w, C w → wpAny P md ops Q' (f + g) listed a w
  | 0, listed, a, h, w, hw => by rw [Nat.zero_add]; exact hL _ _ h w hw
  | f + 1, listed, a, h, w, hw => by
    rw [show f + 1 + g = (f + g) + 1 by omega]
    exact ⟨fun h0 => absurd h0 h.1, fun i hi => wpOp_of_qOp hw (fun a' w' hw' h' => wpAny_of_headQ hL f _ a' h' w' hw') (h.2 i hi).2⟩

/-- One behind the other. -/
def lexOrd (md : Region.Mode) (ops : Array Oper) : List Nat → Array Bool → Bool
  | [], _ => true
  | k :: r, listed => (Region.ready md ops listed).contains k && Region.free md ops listed k && lexOrd md ops r (listed.setIfInBounds k true)
/-- All of them but 'i', and what waits for 'i'. -/
def grow (md : Region.Mode) (ops : Array Oper) (i : Nat) : List Nat → Array Bool → Array Bool
  | [], l => l
  | j :: r, l => grow md ops i r (if (!Nat.beq j i && (Region.ready md ops l).contains j) = true then l.setIfInBounds j true else l)
/-- Whichever of them comes last: nothing else may come up beside it. -/
def lastB (md : Region.Mode) (ops : Array Oper) (hs : List Nat) (base : Array Bool) : Bool :=
  hs.all fun i => decide (Region.ready md ops (grow md ops i hs base) = [i])

theorem grow_size {i : Nat} : ∀ (r : List Nat) (l : Array Bool), (grow md ops i r l).size = l.size
  | [], _ => rfl
  | j :: r, l => by
    unfold grow
    rw [grow_size r]
    split <;> simp
theorem grow_up {i : Nat} : ∀ (r : List Nat) (l : Array Bool) (q : Nat), q < l.size → l.getD q false = true → (grow md ops i r l).getD q false = true
  | [], _, _, _, h => h
  | j :: r, l, q, hq, h => by
    unfold grow
    generalize hc : (!Nat.beq j i && (Region.ready md ops l).contains j) = c
    cases c with
    | false => exact grow_up r l q hq h
    | true =>
      refine grow_up r _ q (by simpa using hq) ?_
      show (l.setIfInBounds j true).getD q false = true
      by_cases e : j = q
      · subst e; simp [hq]
      · rw [getD_set_ne false e]; exact h
theorem grow_down {i : Nat} : ∀ (r : List Nat) (l : Array Bool) (q : Nat), (grow md ops i r l).getD q false = true → l.getD q false = true ∨ q ∈ r
  | [], _, _, h => .inl h
  | j :: r, l, q, h => by
    unfold grow at h
    generalize hc : (!Nat.beq j i && (Region.ready md ops l).contains j) = c at h
    cases c with
    | false =>
      rcases grow_down r l q h with h1 | h1
      · exact .inl h1
      · exact .inr (by simp [h1])
    | true =>
      have h' : (grow md ops i r (l.setIfInBounds j true)).getD q false = true := h
      rcases grow_down r _ q h' with h1 | h1
      · by_cases e : j = q
        · subst e; exact .inr (by simp)
        · rw [getD_set_ne false e] at h1; exact .inl h1
      · exact .inr (by simp [h1])

structure Inv (md : Region.Mode) (ops : Array Oper) (hs : List Nat) (base listed : Array Bool) : Prop where
  size : listed.size = base.size
  bsize : base.size = ops.size
  up : ∀ j, j < base.size → base.getD j false = true → listed.getD j false = true
  low : ∀ i ∈ hs, listed.getD i false = false → ∀ j, j < base.size → listed.getD j false = true → (grow md ops i hs base).getD j false = true

theorem Inv.start {hs : List Nat} {base : Array Bool} (h : base.size = ops.size) : Inv md ops hs base base :=
  ⟨rfl, h, fun _ _ h => h, fun i _ _ j hj hb => grow_up hs base j hj hb⟩

theorem getD_any {listed : Array Bool} {i : Nat} (hi : i < listed.size) (d d' : Bool) : listed.getD i d = listed.getD i d' := by simp [hi]

theorem ready_lt {listed : Array Bool} {j : Nat} (hj : j ∈ Region.ready md ops listed) : j < ops.size := by
  obtain ⟨_, o, ho, _⟩ := mem_ready.1 hj
  exact (Array.getElem?_eq_some_iff.1 ho).1

/-- While one of the quiet operations is open, whatever may come up does not wait for it. -/
theorem ready_grow {hs : List Nat} {base listed : Array Bool} (inv : Inv md ops hs base listed) (hB : lastB md ops hs base = true) {i : Nat} (hi : i ∈ hs) (hun : listed.getD i false = false) {j : Nat} (hj : j ∈ Region.ready md ops listed) (hji : j ≠ i) :
    (grow md ops i hs base).getD j false = true := by
  cases hg : (grow md ops i hs base).getD j false with
  | true => rfl
  | false =>
    exfalso
    have h1 := List.all_eq_true.1 hB i hi
    simp only [decide_eq_true_eq] at h1
    obtain ⟨hjl, o, ho, hall⟩ := mem_ready.1 hj
    have hjlt := ready_lt hj
    have hbs : base.size = ops.size := inv.bsize
    have hgs : (grow md ops i hs base).size = base.size := grow_size hs base
    have : j ∈ Region.ready md ops (grow md ops i hs base) := by
      refine mem_ready.2 ⟨by rw [getD_any (by omega) true false]; exact hg, o, ho, fun e he hb => ?_⟩
      have h3 := hall e he hb
      have hlt : e.on < base.size := by
        rcases Nat.lt_or_ge e.on base.size with h | h
        · exact h
        · rw [← inv.size] at h
          simp [Array.getElem?_eq_none h] at h3
      exact inv.low i hi hun e.on hlt h3
    rw [h1, List.mem_singleton] at this
    exact hji this

/-- While one of the quiet operations is open, nothing but they may come up. -/
theorem ready_in {hs : List Nat} {base listed : Array Bool} (inv : Inv md ops hs base listed) (hB : lastB md ops hs base = true) {i : Nat} (hi : i ∈ hs) (hun : listed.getD i false = false) {j : Nat} (hj : j ∈ Region.ready md ops listed) (hji : j ≠ i) :
    j ∈ hs := by
  rcases grow_down hs base j (ready_grow inv hB hi hun hj hji) with h | h
  · exfalso
    have hjl := (mem_ready.1 hj).1
    have hjlt := ready_lt hj
    have := inv.up j (by rw [inv.bsize]; exact hjlt) h
    rw [getD_any (by rw [inv.size, inv.bsize]; exact hjlt) false true, hjl] at this
    cases this
  · exact h

theorem Inv.set {hs : List Nat} {base listed : Array Bool} (h : Inv md ops hs base listed) (hB : lastB md ops hs base = true) {k : Nat} (hk : k ∈ Region.ready md ops listed) : Inv md ops hs base (listed.setIfInBounds k true) where
  size := by simp [h.size]
  bsize := h.bsize
  up := fun j hj hb => by
    by_cases e : k = j
    · subst e; simp [h.size, hj]
    · rw [getD_set_ne false e]; exact h.up j hj hb
  low := fun i hi hun j hj hl => by
    have hks : k < listed.size := by rw [h.size, h.bsize]; exact ready_lt hk
    have hik : k ≠ i := by
      rintro rfl
      simp [hks] at hun
    rw [getD_set_ne false hik] at hun
    by_cases e : k = j
    · subst e; exact ready_grow h hB hi hun hk hik
    · rw [getD_set_ne false e] at hl; exact h.low i hi hun j hj hl

theorem wpAnyLQ_first {hs : List Nat} {base : Array Bool} {Lq : Act → Prop} {i : Nat} {oi : Oper} {v : Value} (hi : ops[i]? = some oi) (hsel : ∀ (j : Nat) (o : Oper) cs b, ops[j]? = some o → o.op ≠ .select cs b)
    (hB : lastB md ops hs base = true) (hin : i ∈ hs) :
    ∀ (f : Nat) (listed : Array Bool) (a : Act), Inv md ops hs base listed →
      (∀ j oj, ops[j]? = some oj → j ≠ i → listed.getD j true = false → (∀ e ∈ oj.after, Region.binds md e = true → e.on ≠ i) → oi.apart ops oj = true) →
      i ∈ Region.ready md ops listed → YieldsIn P ops C oi v a →
      wpAnyLQ P md ops C hs (fun listed' a' => listed' = setAll base hs ∧ Lq a') f (listed.setIfInBounds i true) (a.put oi.dst v) → wpAnyLQ P md ops C hs (fun listed' a' => listed' = setAll base hs ∧ Lq a') (f + 1) listed a := by
  intro f
  induction f with
  | zero =>
    intro listed a inv _ hr hy H
    have hun := getD_both (mem_ready.1 hr).1
    refine ⟨fun h => (by rw [h] at hr; cases hr), fun j hj => ?_⟩
    by_cases hji : j = i
    · subst hji; exact ⟨hin, hy.qOp hi H⟩
    · exfalso
      have hjs := ready_in inv hB hin hun hj hji
      have hjl := (mem_ready.1 hj).1
      have hjlt := ready_lt hj
      have h1 : (listed.setIfInBounds i true).getD j true = false := by rw [getD_set_ne true (Ne.symm hji)]; exact hjl
      rw [H.1, setAll_getD _ _ _ _ (by rw [inv.bsize]; exact hjlt)] at h1
      simp [hjs] at h1
  | succ f ih =>
    intro listed a inv hfree hr hy H
    have hun := getD_both (mem_ready.1 hr).1
    refine ⟨fun h => (by rw [h] at hr; cases hr), fun j hj => ?_⟩
    by_cases hji : j = i
    · subst hji; exact ⟨hin, hy.qOp hi H⟩
    · have hjs := ready_in inv hB hin hun hj hji
      refine ⟨hjs, ?_⟩
      have h1 := (H.2 j (ready_mono hj hji)).2
      obtain ⟨hjun, oj, hoj, hall⟩ := mem_ready.1 hj
      have hnot : ∀ e ∈ oj.after, Region.binds md e = true → e.on ≠ i := fun e he hb heq => by
        have h1 := hall e he hb
        rw [heq, hun] at h1
        cases h1
      have h2 := qOp_put hoj (hfree j oj hoj hji hjun hnot) (fun cs b => hsel i oi cs b hi) (fun cs b => hsel j oj cs b hoj) hy h1
      have hfree' : ∀ k ok, ops[k]? = some ok → k ≠ i → (listed.setIfInBounds j true).getD k true = false →
          (∀ e ∈ ok.after, Region.binds md e = true → e.on ≠ i) → oi.apart ops ok = true := fun k ok hk hki hun hno => by
        refine hfree k ok hk hki ?_ hno
        by_cases hjk : j = k
        · subst hjk; exact hjun
        · rw [getD_set_ne true hjk] at hun; exact hun
      refine qOp_mono (fun a' h3 => ih (listed.setIfInBounds j true) a' (inv.set hB hj) hfree' (ready_mono hr (Ne.symm hji)) h3.1 ?_) h2
      rw [Array.setIfInBounds_comm _ _ hji]
      exact h3.2

def wpQ (P : Program) (ops : Array Oper) (C : World → Prop) (Lq : Act → Prop) : List Nat → Act → Prop
  | [], a => Lq a
  | i :: r, a => (∃ o, ops[i]? = some o) ∧ qOp P ops C i (wpQ P ops C Lq r) a

theorem wpAnyLQ_lex {hs : List Nat} {base : Array Bool} {Lq : Act → Prop} (hsel : Region.noSelect ops = true) (hB : lastB md ops hs base = true) :
    ∀ (l : List Nat) (listed : Array Bool) (a : Act), (∀ i ∈ l, i ∈ hs) → setAll listed l = setAll base hs → Inv md ops hs base listed → lexOrd md ops l listed = true → wpQ P ops C Lq l a →
    wpAnyLQ P md ops C hs (fun listed' a' => listed' = setAll base hs ∧ Lq a') l.length listed a
  | [], listed, a, _, hset, _, _, h => ⟨hset, h⟩
  | k :: l, listed, a, hin, hset, inv, hlex, h => by
    simp only [lexOrd, Bool.and_eq_true] at hlex
    obtain ⟨⟨hr, hf⟩, hlex'⟩ := hlex
    have hr' : k ∈ Region.ready md ops listed := by simpa using hr
    obtain ⟨⟨o, ho⟩, hq⟩ := h
    obtain ⟨v, hy, hK⟩ := yieldsIn_of_qOp ho hq
    exact wpAnyLQ_first ho (Region.noSelect_spec hsel) hB (hin k (by simp)) l.length listed a inv (Region.free_spec ho hf) hr' hy
      (wpAnyLQ_lex hsel hB l _ _ (fun i hi => hin i (by simp [hi])) hset (inv.set hB hr') hlex' hK)

theorem wpAny_quiet {hs : List Nat} {base : Array Bool} {g : Nat} {a : Act} {Q' : Exit → Act → World → Prop} (hsel : Region.noSelect ops = true) (hsz : base.size = ops.size) (hB : lastB md ops hs base = true)
    (hlex : lexOrd md ops hs base = true) (h : wpQ P ops C (fun a' => ∀ w, C w → wpAny P md ops Q' g (setAll base hs) a' w) hs a) : ∀ w, C w → wpAny P md ops Q' (hs.length + g) base a w := by
  have H := wpAnyLQ_lex hsel hB hs base a (fun _ h => h) rfl (.start hsz) hlex h
  exact wpAny_of_headQ (fun listed' a' ⟨h1, h2⟩ w hw => by rw [h1]; exact h2 w hw) _ _ _ H
end

/-! ### In the frame -/
section
variable {E : Env} {ops : Array Oper} {K : St → Prop} {s : St}

/-- From here on, whatever order. -/
structure RA (E : Env) (ops : Array Oper) (fuel : Nat) (listed : Array Bool) (K : St → Prop) (s : St) : Prop where
  out : ∀ a w, ok E s a w → ∀ Q : Exit → Act → World → Prop, (∀ s' a' w', K s' → ok E s' a' w' → Q .normal a' w') → (∀ c a a' w, Q (.panic c) a w → Q (.panic c) a' w) → wpAny E.P .any ops Q fuel listed a w

theorem W_draw {id : Nat} {l : List Oper} {Q : Exit → St → Prop} (hm : E.P.follows .mixedOrders = true) (h : RA E l.toArray l.length (Array.replicate l.length false) (Q .normal) s) : W E (.region id l.toArray true) Q s := ⟨fun a w ho => by
  -- a way out by panic is not taken
  have h0 : (Code.region id l.toArray true).wp E.P (fun e a w => match e with | .normal => liftQ E Q .normal a w | _ => False) a w := by
    refine wp_region_any hm ?_
    have := h.out a _ ho.drew (fun e a w => match e with | .normal => liftQ E Q .normal a w | _ => False) (fun s' a' w' k o => ⟨s', k, o⟩) (fun _ _ _ _ h => h)
    simpa using this
  refine wp_mono h0 fun e a w q => ?_
  cases e with
  | normal => exact q
  | exit id => exact q.elim
  | goto l => exact q.elim
  | ret => exact q.elim
  | panic ch => exact q.elim
  | outgrown => exact q.elim⟩

theorem RA_done {fuel : Nat} {listed : Array Bool} (hr : Region.ready .any ops listed = []) (h : K s) : RA E ops fuel listed K s := ⟨fun a w ho _ hQ _ => wpAny_done hr (hQ s a w h ho) fuel⟩

theorem RA_one {fuel : Nat} {listed : Array Bool} (i : Nat) {o : Oper} (ho : ops[i]? = some o) (hg : o.guard = none) (hr : Region.ready .any ops listed = [i]) (h : Xt E o s (RA E ops fuel (listed.setIfInBounds i true) K)) : RA E ops (fuel + 1) listed K s :=
  ⟨fun a w hok Q hQ hp => wpAny_all hr (by simp) fun j hj => by
    simp only [List.mem_singleton] at hj
    subst hj
    unfold wpOp
    simp only [ho]
    rw [if_pos (by simp [Region.wanted, hg])]
    exact .inl (h a w hok _ Q fun s' a' w' hs' ho' => hs'.out a' w' ho' Q hQ hp)⟩

/-- An operation of numbers and addresses alone may be taken first. -/
theorem RA_take {fuel : Nat} {listed : Array Bool} (i : Nat) {o : Oper} {k : Nat} {d : D} (ho : ops[i]? = some o) (hg : o.guard = none) (hd : o.dst = some k) (hs : Region.noSelect ops = true) (hf : Region.free .any ops listed i = true) (hr : (Region.ready .any ops listed).contains i = true)
    (hp : Pt E o s d) (hk : k < E.n) (h : RA E ops fuel (listed.setIfInBounds i true) K (s.put k d)) : RA E ops (fuel + 1) listed K s := ⟨fun a w hok Q hQ hpn =>
  wpAny_take ho hs hf hr (fun c a w q => hpn c _ _ w q) (v := d.val) (.inl ⟨by simp [Region.wanted, hg], hp a hok.t⟩) (by rw [hd]; exact h.out _ w (hok.put hk) Q hQ hpn)⟩

/-- The quiet ones, in the order given. -/
structure WQ (E : Env) (ops : Array Oper) (hs : List Nat) (K : St → Prop) (s : St) : Prop where
  out : ∀ a, okT E s a → ∀ Lq : Act → Prop, (∀ s' a', K s' → s'.hp = s.hp → okT E s' a' → Lq a') → wpQ E.P ops (fun w => HpOk s.hp w ∧ Fr E.w0 E.B0 s.hp w) Lq hs a

theorem WQ_nil (h : K s) : WQ E ops [] K s := ⟨fun a ho _ hL => hL s a h rfl ho⟩
theorem WQ_cons {i k : Nat} {r : List Nat} {o : Oper} {d : D} (ho : ops[i]? = some o) (hg : o.guard = none) (hd : o.dst = some k) (h : Qt E o s d) (hk : k < E.n) (hr : WQ E ops r K (s.put k d)) : WQ E ops (i :: r) K s := ⟨fun a ht Lq hL => by
  refine ⟨⟨o, ho⟩, ?_⟩
  unfold qOp
  simp only [ho]
  rw [if_pos (by simp [Region.wanted, hg])]
  refine ⟨d.val, fun w ⟨h1, h2⟩ => ?_, ?_⟩
  · have hok : ok E s a w := ⟨ht.size, ht.defers, ht.tm, h1, h2⟩
    unfold Oper.quietAt
    rcases h a w hok with h | ⟨f, args, h, hc⟩
    · rw [h]; exact ⟨rfl, rfl⟩
    · rw [h]
      refine ⟨rfl, hc.mono fun e w' ⟨he, hb⟩ => ⟨he, ?_⟩⟩
      have := hok.below hb
      exact ⟨this.hp, this.fr⟩
  · rw [hd]
    exact hr.out _ (ht.put hk) Lq fun s' a' hK hh => hL s' a' hK (by rw [hh]; rfl)⟩
theorem WQ_guard {i k g t : Nat} {want b : Bool} {r : List Nat} {op : Op} {ty : TypeId} {ps : String} {af : Array Edge} (ho : ops[i]? = some ⟨some k, op, ty, ps, af, some (g, want)⟩) (ht : (ops[g]?).bind (·.dst) = some t) (hb : get s.tm t = some (.bool b)) (hk : k < E.n)
    (h1 : b = want → ∃ d, Qt E ⟨some k, op, ty, ps, af, some (g, want)⟩ (s.put t (.bool want)) d ∧ WQ E ops r K ((s.put t (.bool want)).put k d)) (h2 : b = !want → WQ E ops r K ((s.put t (.bool (!want))).put k (.tup []))) : WQ E ops (i :: r) K s := ⟨fun a hat Lq hL => by
  refine ⟨⟨_, ho⟩, ?_⟩
  have hw := wanted_of hat (o := ⟨some k, op, ty, ps, af, some (g, want)⟩) rfl ht hb
  unfold qOp
  simp only [ho]
  rw [hw]
  by_cases e : b = want
  · rw [if_pos (by simp [e])]
    obtain ⟨d, hq, hr⟩ := h1 e
    have hat' : okT E (s.put t (.bool want)) a := hat.same hb (by rw [e])
    refine ⟨d.val, fun w ⟨h3, h4⟩ => ?_, ?_⟩
    · have hok : ok E (s.put t (.bool want)) a w := ⟨hat'.size, hat'.defers, hat'.tm, h3, h4⟩
      unfold Oper.quietAt
      rcases hq a w hok with h | ⟨f, args, h, hc⟩
      · rw [h]; exact ⟨rfl, rfl⟩
      · rw [h]
        refine ⟨rfl, hc.mono fun e w' ⟨he, hb⟩ => ⟨he, ?_⟩⟩
        have := hok.below hb
        exact ⟨this.hp, this.fr⟩
    · exact hr.out _ (hat'.put hk) Lq fun s' a' hK hh => hL s' a' hK (by rw [hh]; rfl)
  · rw [if_neg (by simpa using e)]
    have e' : b = !want := by cases b <;> cases want <;> simp_all
    exact (h2 e').out _ ((hat.same (d' := .bool (!want)) hb (by rw [e'])).put (d := .tup []) hk) Lq fun s' a' hK hh => hL s' a' hK (by rw [hh]; rfl)⟩

theorem RA_quiet {g : Nat} {base : Array Bool} (hs : List Nat) (hsel : Region.noSelect ops = true) (hsz : base.size = ops.size) (hB : lastB .any ops hs base = true)
    (hlex : lexOrd .any ops hs base = true) (h : WQ E ops hs (RA E ops g (setAll base hs) K) s) : RA E ops (hs.length + g) base K s := ⟨fun a w ho Q hQ hp =>
  wpAny_quiet hsel hsz hB hlex (h.out a ho.t _ fun s' a' hs' hh hat w' ⟨h1, h2⟩ => hs'.out a' w' ⟨hat.size, hat.defers, hat.tm, by rw [hh]; exact h1, by rw [hh]; exact h2⟩ Q hQ hp) w ⟨ho.hp, ho.fr⟩⟩
end
end Gx
/-- Tests as propositions. -/
theorem bs : (∀ (p : Prop) [Decidable p], (decide p = true) = p) ∧ (∀ (p : Prop) [Decidable p], (decide p = false) = ¬p) ∧ (∀ b : Bool, ((!b) = true) = (b = false)) ∧ (∀ b : Bool, ((!b) = false) = (b = true)) ∧
    (∀ a b : Bool, ((a && b) = true) = (a = true ∧ b = true)) ∧ (∀ a b : Bool, ((a || b) = true) = (a = true ∨ b = true)) ∧ (∀ a b : Bool, ((a && b) = false) = (a = false ∨ b = false)) ∧ (∀ a b : Bool, ((a || b) = false) = (a = false ∧ b = false)) ∧
    (∀ a b : Int, (¬ a < b) = (b ≤ a)) ∧ (∀ a b : Int, (¬ a ≤ b) = (b < a)) ∧ (∀ p : Prop, (¬¬p) = p) ∧ ((!true) = false) ∧ ((!false) = true) := by
  refine ⟨?_, ?_, ?_, ?_, ?_, ?_, ?_, ?_, ?_, ?_, ?_, ?_, ?_⟩
  case refine_7 => intro a b; cases a <;> cases b <;> simp
  all_goals first | rfl | (intros; simp)
namespace Gx
open Go
/-- A byte read as a number of a wider kind. -/
theorem p_conv8 {E : Env} {s : St} {dst : Option Nat} {ty : TypeId} {ps : String} {af : Array Edge} {gd : Option (Nat × Bool)} {x : Operand} {k' : IntKind} {v : Fin 256} {S T : TypeId} {i : TI} {sz by_ : Nat} {z : D} (hs : E.tt S = some i) (ht : E.tt T = some ⟨.int k', sz, by_, z⟩) (hx : ev s x = some (.u8 v)) (hk : k' ≠ .i8) :
    Pt E ⟨dst, .convert S T x, ty, ps, af, gd⟩ s (.int k' (v.val : Int)) := by
  refine p_conv hs ht (k := .u8) (by unfold evI; rw [hx]; rfl) ?_
  have := v.isLt
  cases k' <;> first | exact absurd rfl hk | (simp only [inR]; omega)
/-- The cells of structs, field by field. -/
theorem ceq_cons {d d' : D} {r r' : List D} (h : d.cells = d'.cells) (hr : (D.agg r).cells = (D.agg r').cells) : (D.agg (d :: r)).cells = (D.agg (d' :: r')).cells := by
  simp only [D.cells, D.cellsL] at hr ⊢
  rw [h, hr]
theorem ceq_int {k : IntKind} {a b : Int} (h : a = b) : (D.int k a).cells = (D.int k b).cells := by rw [h]
theorem ceq_u8 {a b : Fin 256} (h : a = b) : (D.u8 a).cells = (D.u8 b).cells := by rw [h]
theorem ceq_bool {a b : Bool} (h : a = b) : (D.bool a).cells = (D.bool b).cells := by rw [h]
theorem ceq_arr {k : IntKind} {n : Nat} {f g : Nat → Int} (h : ∀ i, i < n → f i = g i) : (D.arr k n f).cells = (D.arr k n g).cells :=
  List.map_congr_left fun i hi => by rw [h i (List.mem_range.1 hi)]
theorem veq_agg {r r' : List D} (h : (D.agg r).cells = (D.agg r').cells) : (D.agg r).val = (D.agg r').val := by
  simp only [D.cells] at h
  simp only [D.val, h]
theorem veq_arr {k : IntKind} {n : Nat} {f g : Nat → Int} (h : ∀ i, i < n → f i = g i) : (D.arr k n f).val = (D.arr k n g).val := by
  have e : (List.range n).map (fun i => Value.int k (f i)) = (List.range n).map (fun i => Value.int k (g i)) := List.map_congr_left fun i hi => by rw [h i (List.mem_range.1 hi)]
  simp only [D.val, e]
theorem veq_barr {n : Nat} {f g : Nat → Bool} (h : ∀ i, i < n → f i = g i) : (D.barr n f).val = (D.barr n g).val := by
  have e : (List.range n).map (fun i => Value.bool (f i)) = (List.range n).map (fun i => Value.bool (g i)) := List.map_congr_left fun i hi => by rw [h i (List.mem_range.1 hi)]
  simp only [D.val, e]
/-- The address of an element: of one cell | of several; in a row | in a part of a row. -/
theorem p_ix1 {E : Env} {s : St} {dst : Option Nat} {ty : TypeId} {ps : String} {af : Array Edge} {gd : Option (Nat × Bool)} {x y : Operand} {b o T len el : Nat} {k : IntKind} {i : Int} {sz by_ : Nat} {z : D} {ei : TI} (j : Nat) (ht : E.tt T = some ⟨.arr len el, sz, by_, z⟩) (h3 : E.tt el = some ei) (h1 : ei.size = 1)
    (hx : ev s x = some (.ptr b o none)) (hy : evI s y = some (k, i)) (hj : i = (j : Int)) (hi : j < len) : Pt E ⟨dst, .indexAddr T x y, ty, ps, af, gd⟩ s (.ptr b o (some j)) := by
  have h := p_indexAddr (E := E) (s := s) (dst := dst) (ty := ty) (ps := ps) (af := af) (gd := gd) j ht h3 hx hy hj hi
  rw [offS_eq, mulS_eq, h1] at h
  simpa using h
theorem p_ix1s {E : Env} {s : St} {dst : Option Nat} {ty : TypeId} {ps : String} {af : Array Edge} {gd : Option (Nat × Bool)} {x y : Operand} {b o T len el : Nat} {k : IntKind} {i : Int} {sz by_ : Nat} {z : D} {ei : TI} {e : Nat} (j : Nat) (ht : E.tt T = some ⟨.arr len el, sz, by_, z⟩) (h3 : E.tt el = some ei) (h1 : ei.size = 1)
    (hx : ev s x = some (.ptr b o (some e))) (hy : evI s y = some (k, i)) (hj : i = (j : Int)) (hi : j < len) : Pt E ⟨dst, .indexAddr T x y, ty, ps, af, gd⟩ s (.ptr b o (some (e + j))) := by
  have h := p_indexAddr (E := E) (s := s) (dst := dst) (ty := ty) (ps := ps) (af := af) (gd := gd) j ht h3 hx hy hj hi
  rw [offS_eq, mulS_eq, h1] at h
  simpa using h
theorem p_ixN {E : Env} {s : St} {dst : Option Nat} {ty : TypeId} {ps : String} {af : Array Edge} {gd : Option (Nat × Bool)} {x y : Operand} {b o T len el : Nat} {k : IntKind} {i : Int} {sz by_ : Nat} {z : D} {ei : TI} (n j : Nat) (ht : E.tt T = some ⟨.arr len el, sz, by_, z⟩) (h3 : E.tt el = some ei) (h1 : ei.size = n)
    (hx : ev s x = some (.ptr b o none)) (hy : evI s y = some (k, i)) (hj : i = (j : Int)) (hi : j < len) : Pt E ⟨dst, .indexAddr T x y, ty, ps, af, gd⟩ s (.ptr b o (some (n * j))) := by
  have h := p_indexAddr (E := E) (s := s) (dst := dst) (ty := ty) (ps := ps) (af := af) (gd := gd) j ht h3 hx hy hj hi
  rw [offS_eq, mulS_eq, h1, Nat.mul_comm] at h
  simpa using h
theorem p_ixl1 {E : Env} {s : St} {dst : Option Nat} {ty : TypeId} {ps : String} {af : Array Edge} {gd : Option (Nat × Bool)} {x y : Operand} {b o T el : Nat} {k : IntKind} {i : Int} {sz by_ : Nat} {z : D} {ei : TI} {l cap : Nat} (j : Nat) (ht : E.tt T = some ⟨.slice el, sz, by_, z⟩) (h3 : E.tt el = some ei) (h1 : ei.size = 1)
    (hx : ev s x = some (.sl b o l cap)) (hy : evI s y = some (k, i)) (hj : i = (j : Int)) (hi : j < l) : Pt E ⟨dst, .indexAddr T x y, ty, ps, af, gd⟩ s (.ptr b o (some j)) := by
  have h := p_indexAddr_sl (E := E) (s := s) (dst := dst) (ty := ty) (ps := ps) (af := af) (gd := gd) j ht h3 hx hy hj hi
  rw [mulS_eq, h1] at h
  simpa using h
theorem p_ixlN {E : Env} {s : St} {dst : Option Nat} {ty : TypeId} {ps : String} {af : Array Edge} {gd : Option (Nat × Bool)} {x y : Operand} {b o T el : Nat} {k : IntKind} {i : Int} {sz by_ : Nat} {z : D} {ei : TI} {l cap : Nat} (n j : Nat) (ht : E.tt T = some ⟨.slice el, sz, by_, z⟩) (h3 : E.tt el = some ei) (h1 : ei.size = n)
    (hx : ev s x = some (.sl b o l cap)) (hy : evI s y = some (k, i)) (hj : i = (j : Int)) (hi : j < l) : Pt E ⟨dst, .indexAddr T x y, ty, ps, af, gd⟩ s (.ptr b o (some (j * n))) := by
  have h := p_indexAddr_sl (E := E) (s := s) (dst := dst) (ty := ty) (ps := ps) (af := af) (gd := gd) j ht h3 hx hy hj hi
  rw [mulS_eq, h1] at h
  simpa using h
theorem veq_tup2 {a a' b b' : D} (h1 : a.val = a'.val) (h2 : b.val = b'.val) : (D.tup [a, b]).val = (D.tup [a', b']).val := by
  simp only [D.val, D.valL, h1, h2]
theorem View.cons {hp rest : List Ent} {e : Ent} (h1 : View hp [e]) (h2 : View hp rest) (hw : wkeys [e] = []) (hw2 : wkeys rest = []) : View hp (e :: rest) := fun w h => by
  have a := h1 w h
  have b := h2 w h
  have hw' : wkeys (e :: rest) = [] := by
    have e1 : wkeys [e] = e.wkey ++ [] := rfl
    show e.wkey ++ wkeys rest = []
    rw [hw2]; rw [hw] at e1; exact e1.symm
  refine ⟨fun x hx => ?_, by rw [hw']; exact List.nodup_nil, fun x _ => by rw [hw']; simp⟩
  rcases List.mem_cons.1 hx with rfl | hx
  · exact a.all _ (by simp)
  · exact b.all _ hx
theorem View.one {hp : List Ent} {e : Ent} (hw : wkeys [e] = []) (h : ∀ w, HpOk hp w → e.ok w) : View hp [e] := fun w hh =>
  ⟨fun x hx => by rw [List.mem_singleton.1 hx]; exact h w hh, by rw [hw]; exact List.nodup_nil, fun x _ => by rw [hw]; simp⟩
theorem View.var {hp : List Ent} {b : Nat} {d : D} (m : Ent.var b d ∈ hp) : View hp [.rvar b d] := View.one rfl fun w h => by
  have a := h.all _ m
  exact a
theorem View.rvar {hp : List Ent} {b : Nat} {d : D} (m : Ent.rvar b d ∈ hp) : View hp [.rvar b d] := View.one rfl fun w h => h.all _ m
theorem View.ro {hp : List Ent} {b off : Nat} {r : Rw} (m : Ent.ro b off r ∈ hp) : View hp [.ro b off r] := View.one rfl fun w h => h.all _ m
theorem View.row {hp : List Ent} {b cap EE : Nat} {r : Rw} (m : Ent.row b cap EE r ∈ hp) : View hp [.ro b 0 r] := View.one rfl fun w h => by
  have hrow : w.ownsRow 0 EE r.size (.slice (some ⟨b, 0, Option.none⟩) r.len cap) r.len r.cells := h.all _ m
  refine ⟨(World.ownsRow.lt hrow b rfl).2, fun j v hj => ?_⟩
  have hl : j < r.cells.length := (List.getElem?_eq_some_iff.1 hj).1
  have := World.ownsRow.cellAt hrow j (by rw [← Rw.length_cells]; exact hl)
  rw [hj] at this
  simpa using this
theorem View.tail {hp need : List Ent} {e : Ent} (h : View hp need) : View (e :: hp) need := fun w hh => h w ⟨fun x hx => hh.all x (by simp [hx]), (List.nodup_append.1 (show (e.wkey ++ wkeys hp).Nodup from hh.nodup)).2.1, fun b hb hb' => hh.apart b (List.mem_append_right _ hb) (List.mem_append_right _ hb')⟩
theorem Pt.eq {E : Env} {o : Oper} {s : St} {d d' : D} (h : Pt E o s d) (e : d.val = d'.val) : Pt E o s d' := fun a ho w => by rw [← e]; exact h a ho w
theorem Qt.eq {E : Env} {o : Oper} {s : St} {d d' : D} (h : Qt E o s d) (e : d.val = d'.val) : Qt E o s d' := fun a w ho => by rw [← e]; exact h a w ho
theorem ofNat_val {n : Nat} (h : n < 256) : (Fin.ofNat 256 n).val = n := by simp [Fin.ofNat, Nat.mod_eq_of_lt h]
theorem veq_byte {n : Nat} (h : n < 256) : (D.int .u8 (n : Int)).val = (D.u8 (Fin.ofNat 256 n)).val := by
  simp only [D.val, ofNat_val h]
theorem veq_byteI {v : Int} (h0 : 0 ≤ v) (h : v < 256) : (D.int .u8 v).val = (D.u8 (Fin.ofNat 256 v.toNat)).val := by
  have e : ((v.toNat : Nat) : Int) = v := Int.toNat_of_nonneg h0
  simp only [D.val, ofNat_val (show v.toNat < 256 by omega), e]
/-- A number that is a byte, moved as a byte. -/
theorem p_move8 {E : Env} {s : St} {dst : Option Nat} {ty : TypeId} {ps : String} {af : Array Edge} {gd : Option (Nat × Bool)} {x : Operand} {n : Nat} (hx : ev s x = some (.int .u8 (n : Int))) (h : n < 256) : Pt E ⟨dst, .move x, ty, ps, af, gd⟩ s (.u8 (Fin.ofNat 256 n)) :=
  (p_move hx).eq (veq_byte h)
/-- The bytes 0 .. m - 1. -/
def elems (m : Nat) : List (Fin 256) := (List.range m).map (Fin.ofNat 256)
theorem elems_len {m : Nat} : (Rw.u8s (elems m)).len = m := by simp [Rw.len, elems]
theorem elems_get {m i : Nat} (h : i < m) : (elems m).getD i 0 = Fin.ofNat 256 i := by simp [elems, List.getD, h]
theorem elems_succ {m : Nat} : elems (m + 1) = elems m ++ [Fin.ofNat 256 m] := by simp [elems, List.range_succ]
/-- The i-th of the bytes 0 .. m - 1 read. -/
theorem q_elem {E : Env} {s : St} {dst : Option Nat} {ty : TypeId} {ps : String} {af : Array Edge} {gd : Option (Nat × Bool)} {x : Operand} {b cap EE T j m : Nat} {i : TI} (ht : E.tt T = some i) (hx : ev s x = some (.ptr b 0 (some j))) (hm : Ent.row b cap EE (.u8s (elems m)) ∈ s.hp) (hj : j < m) (hm2 : m ≤ 256) (h1 : i.size = 1) (h3 : i.td.ag = false) :
    Qt E ⟨dst, .load T x, ty, ps, af, gd⟩ s (.int .u8 (j : Int)) :=
  (q_load_row (r := .u8s (elems m)) (j := j) ht hx hm (by rw [h1, mulS_eq, Nat.mul_one]) rfl (by simp [elems]; exact hj) (by rw [h1]; rfl) (by rw [h3]; rfl)).eq (by
    rw [elems_get hj]; exact (veq_byte (by omega)).symm)
theorem FR_post' {E : Env} {s : St} {rs : List ResultVar} {b n cap EE : Nat} {r r' : Rw} (h : ResL E s rs [.sl b 0 n cap]) (hm : Ent.row b cap EE r' ∈ s.hp) (hn : n = r.len) (hr : r' = r) :
    ∃ ds' new, ResL E s rs ds' ∧ (∃ b cap, resD ds' = .sl b 0 r.len cap ∧ new = [.row b cap EE r]) ∧ HpSub new s.hp ∧ rkeys new = [] := by
  subst hr
  exact FR_post h hm hn
theorem wanted_undef {E : Env} {s : St} {a : Act} (ho : okT E s a) {ops : Array Oper} {o : Oper} {g t : Nat} {want : Bool} (hg : o.guard = some (g, want)) (ht : (ops[g]?).bind (·.dst) = some t)
    (hb : get s.tm t = some (.tup [])) : Region.wanted o (yielded ops a.tmps) = false := by
  have := (ho.tm t _ hb).2
  unfold Region.wanted
  simp only [hg, yielded, ht, Option.bind_some, this, D.val, D.valL]
  cases want <;> rfl
/-- A guard whose own operation was not carried out. -/
theorem Ops_guard_u {E : Env} {ops : Array Oper} {r : List Oper} {K : St → Prop} {s : St} {k g t : Nat} {want : Bool} {op : Op} {ty : TypeId} {ps : String} {af : Array Edge}
    (ht : (ops[g]?).bind (·.dst) = some t) (hb : get s.tm t = some (.tup [])) (hk : k < E.n) (h1 : Ops E ops r K (s.put k (.tup []))) : Ops E ops (⟨some k, op, ty, ps, af, some (g, want)⟩ :: r) K s := ⟨fun a w ho Q hQ => by
  have hw := wanted_undef ho.t (o := ⟨some k, op, ty, ps, af, some (g, want)⟩) rfl ht hb
  unfold wpList
  rw [hw, if_neg (by simp)]
  exact h1.out _ w (ho.put (d := .tup []) hk) Q hQ⟩
theorem WQ_guard_u {E : Env} {ops : Array Oper} {K : St → Prop} {s : St} {i k g t : Nat} {want : Bool} {r : List Nat} {op : Op} {ty : TypeId} {ps : String} {af : Array Edge} (ho : ops[i]? = some ⟨some k, op, ty, ps, af, some (g, want)⟩) (ht : (ops[g]?).bind (·.dst) = some t)
    (hb : get s.tm t = some (.tup [])) (hk : k < E.n) (h1 : WQ E ops r K (s.put k (.tup []))) : WQ E ops (i :: r) K s := ⟨fun a hat Lq hL => by
  refine ⟨⟨_, ho⟩, ?_⟩
  have hw := wanted_undef hat (o := ⟨some k, op, ty, ps, af, some (g, want)⟩) rfl ht hb
  unfold qOp
  simp only [ho]
  rw [hw, if_neg (by simp)]
  exact h1.out _ (hat.put (d := .tup []) hk) Lq fun s' a' hK hh => hL s' a' hK (by rw [hh]; rfl)⟩
end Gx
end Go.Proofs.Ytebcapplclgaead
