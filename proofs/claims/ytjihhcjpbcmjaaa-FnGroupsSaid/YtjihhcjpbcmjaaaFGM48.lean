/- Counting a group's elements: orders divide, orbits divide, blocks divide. No conditions but those in the statements. -/
import Derived.Test.YtjihhcjpbcmjaaaFGM47
import Derived.Test.YtjihhcjpbcmjaaaFGM32
namespace Go.Proofs.Ytjihhcjpbcmjaaa
open Gx
set_option linter.unusedVariables false
/-! ### Lists without repetition -/
theorem nodup_len {α : Type} : ∀ {A B : List α}, A.Nodup → B.Nodup → (∀ x, x ∈ A ↔ x ∈ B) → A.length = B.length
  | A, B, hA, hB, h => ((List.perm_ext_iff_of_nodup hA hB).2 h).length_eq
/-- A list that falls into classes of one size. -/
theorem part_dvd {α : Type} (E : α → α → Prop) (hs : ∀ x y, E x y → E y x) (ht : ∀ x y z, E x y → E y z → E x z) (m : Nat) : ∀ (k : Nat) (X : List α), X.length ≤ k → X.Nodup → (∀ x ∈ X, ∃ C : List α, C.Nodup ∧ C.length = m ∧ (∀ y, y ∈ C ↔ E x y) ∧ x ∈ C ∧ ∀ y ∈ C, y ∈ X) → m ∣ X.length
  | 0, X, hk, _, _ => by
    rw [show X.length = 0 by omega]; exact Nat.dvd_zero m
  | k + 1, [], _, _, _ => Nat.dvd_zero m
  | k + 1, a :: r, hk, hX, hC => by
    obtain ⟨C, c1, c2, c3, c4, c5⟩ := hC a (by simp)
    classical
    generalize hR : (a :: r).filter (fun y => ! decide (y ∈ C)) = R
    have hRm : ∀ y, y ∈ R ↔ y ∈ a :: r ∧ y ∉ C := fun y => by rw [← hR, List.mem_filter]; simp
    have hRn : R.Nodup := by rw [← hR]; exact hX.filter _
    have hlen : (a :: r).length = C.length + R.length := by
      rw [← List.length_append]
      refine nodup_len hX (List.nodup_append.2 ⟨c1, hRn, fun x hx y hy e => ((hRm y).1 hy).2 (e ▸ hx)⟩) fun y => ?_
      rw [List.mem_append, hRm]
      constructor
      · intro hy
        by_cases hc : y ∈ C
        · exact .inl hc
        · exact .inr ⟨hy, hc⟩
      · rintro (hy | hy)
        · exact c5 y hy
        · exact hy.1
    have hpos : 0 < C.length := List.length_pos_of_mem c4
    have ih := part_dvd E hs ht m k R (by omega) hRn (fun x hx => by
      obtain ⟨hx1, hx2⟩ := (hRm x).1 hx
      obtain ⟨D, d1, d2, d3, d4, d5⟩ := hC x hx1
      refine ⟨D, d1, d2, d3, d4, fun y hy => (hRm y).2 ⟨d5 y hy, fun hyC => hx2 ?_⟩⟩
      exact (c3 x).2 (ht _ _ _ ((c3 y).1 hyC) (hs _ _ ((d3 y).1 hy))))
    rw [hlen, c2]
    exact Nat.dvd_add (Nat.dvd_refl m) ih
/-! ### Groups as lists -/
structure Gp (n : Nat) (P : Fm → Prop) : Prop where
  one : P id
  mul : ∀ a b, P a → P b → P (th a b)
  inv : ∀ a, P a → P (iv a)
  pn : ∀ a, P a → Pn n a
theorem gp_gen {n : Nat} (hn : n ≤ 10) {S : Fm → Prop} (h : ∀ a, S a → Pn n a) : Gp n (Gen S) := ⟨.one, fun _ _ => Gen.th, fun a ha => ha.inv hn (Gen.pn h ha), fun a ha => Gen.pn h ha⟩
theorem gp_stab {n : Nat} {P : Fm → Prop} (h : Gp n P) (F : Nat → Prop) : Gp n (fun a => P a ∧ ∀ i, F i → a i = i) where
  one := ⟨h.one, fun _ _ => rfl⟩
  mul := fun a b ha hb => ⟨h.mul a b ha.1 hb.1, fun i hi => by show b (a i) = i; rw [ha.2 i hi, hb.2 i hi]⟩
  inv := fun a ha => ⟨h.inv a ha.1, fun i hi => by
    have := iv_l (h.pn a ha.1) i
    rw [ha.2 i hi] at this; exact this⟩
  pn := fun a ha => h.pn a ha.1
theorem th_cancel {n : Nat} {a b t : Fm} (ht : Pn n t) (h : th a t = th b t) : a = b := funext fun i => ht.inj _ _ (congrFun h i)
/-- The elements, by where they lead a point. -/
theorem fiber {n : Nat} {P : Fm → Prop} (hP : Gp n P) (x : Nat) {S : List Fm} (hS : S.Nodup) (hSm : ∀ a, a ∈ S ↔ P a ∧ a x = x) : ∀ (O : List Nat), O.Nodup → (∀ y ∈ O, ∃ t, P t ∧ t x = y) → ∃ L : List Fm, L.Nodup ∧ (∀ a, a ∈ L ↔ P a ∧ a x ∈ O) ∧ L.length = O.length * S.length
  | [], _, _ => ⟨[], by simp, fun a => by simp, by simp⟩
  | y :: r, hO, ht => by
    obtain ⟨t, t1, t2⟩ := ht y (by simp)
    have tp := hP.pn t t1
    obtain ⟨L, l1, l2, l3⟩ := fiber hP x hS hSm r (List.nodup_cons.1 hO).2 (fun z hz => ht z (by simp [hz]))
    have key : ∀ a, a ∈ S.map (fun s => th s t) ↔ P a ∧ a x = y := fun a => by
      rw [List.mem_map]
      constructor
      · rintro ⟨s, hs, rfl⟩
        obtain ⟨s1, s2⟩ := (hSm s).1 hs
        exact ⟨hP.mul _ _ s1 t1, by show t (s x) = y; rw [s2, t2]⟩
      · rintro ⟨a1, a2⟩
        refine ⟨th a (iv t), (hSm _).2 ⟨hP.mul _ _ a1 (hP.inv t t1), ?_⟩, ?_⟩
        · show iv t (a x) = x
          rw [a2, ← t2]; exact iv_l tp x
        · rw [th_assoc, iv_th tp, th_id]
    refine ⟨S.map (fun s => th s t) ++ L, List.nodup_append.2 ⟨?_, l1, fun a ha b hb e => ?_⟩, fun a => ?_, ?_⟩
    · exact List.pairwise_map.2 (hS.imp fun hne e => hne (th_cancel tp e))
    · subst e
      have h1 := ((key a).1 ha).2
      have h2 := ((l2 a).1 hb).2
      rw [h1] at h2
      exact (List.nodup_cons.1 hO).1 h2
    · rw [List.mem_append, key, l2, List.mem_cons]
      constructor
      · rintro (h | h)
        · exact ⟨h.1, .inl h.2⟩
        · exact ⟨h.1, .inr h.2⟩
      · rintro ⟨h1, h2 | h2⟩
        · exact .inl ⟨h1, h2⟩
        · exact .inr ⟨h1, h2⟩
    · rw [List.length_append, List.length_map, l3, List.length_cons, Nat.add_mul, Nat.one_mul, Nat.add_comm]
def ptsB (R : Nat → Bool) (m : Nat) : List Nat := (List.range m).filter R
theorem ptsB_mem {R : Nat → Bool} {m y : Nat} : y ∈ ptsB R m ↔ y < m ∧ R y = true := by unfold ptsB; rw [List.mem_filter, List.mem_range]
theorem ptsB_nodup {R : Nat → Bool} {m : Nat} : (ptsB R m).Nodup := List.nodup_range.filter _
theorem cn_pts {h : Nat → Bool} {k : Nat} : ∀ m, cnR h k m = (ptsB (fun x => h (10 * k + x)) m).length
  | 0 => rfl
  | m + 1 => by
    unfold cnR
    rw [cn_pts m]
    unfold ptsB
    rw [List.range_succ, List.filter_append, List.length_append]
    by_cases e : h (10 * k + m) = true
    · rw [if_pos e, List.filter_cons, if_pos e]; rfl
    · rw [if_neg e, List.filter_cons, if_neg e]; rfl
/-- A group's elements, as many as its order. -/
theorem grp_list {l : List Pl} {n : Nat} (hl : PsOk l (n : Int)) : ∃ L : List Fm, L.Nodup ∧ (∀ a, a ∈ L ↔ Gen (Sp l n) a) ∧ L.length = ordG l n := by
  have hn : n ≤ 10 := by have := hl.1; omega
  have hG := gp_gen hn (Sp_pn (n := (n : Int)) hl)
  have key : ∀ d k, n - k = d → k ≤ n → ∃ L : List Fm, L.Nodup ∧ (∀ a, a ∈ L ↔ Gen (Sp l n) a ∧ ∀ i, i < k → a i = i) ∧ ordP (fun i => rB l n (i / 10) (i % 10)) k * L.length = ordG l n := by
    intro d
    induction d with
    | zero =>
      intro k h1 h2
      obtain rfl : k = n := by omega
      refine ⟨[id], by simp, fun a => ?_, by rw [List.length_singleton, Nat.mul_one]; rfl⟩
      rw [List.mem_singleton]
      exact ⟨fun e => by subst e; exact ⟨.one, fun _ _ => rfl⟩, fun h => low_id (hG.pn a h.1) h.2⟩
    | succ d ih =>
      intro k h1 h2
      obtain ⟨S, s1, s2, s3⟩ := ih (k + 1) (by omega) (by omega)
      have hP := gp_stab hG (fun i => i < k)
      obtain ⟨L, l1, l2, l3⟩ := fiber hP k s1 (fun a => by
        rw [s2]
        exact ⟨fun h => ⟨⟨h.1, fun i hi => h.2 i (by omega)⟩, h.2 k (by omega)⟩, fun h => ⟨h.1.1, fun i hi => if e : i = k then e ▸ h.2 else h.1.2 i (by omega)⟩⟩) (ptsB (fun x => rB l n k x) 10) ptsB_nodup (fun y hy => by
        obtain ⟨p, p1, p2, p3⟩ := rB_iff.1 (ptsB_mem.1 hy).2
        exact ⟨p, ⟨p1, p2⟩, p3⟩)
      refine ⟨L, l1, fun a => (l2 a).trans ⟨fun h => h.1, fun h => ⟨h, ?_⟩⟩, ?_⟩
      · refine ptsB_mem.2 ⟨?_, rB_iff.2 ⟨a, h.1, h.2, rfl⟩⟩
        have := (hG.pn a h.1).lt k (by omega)
        omega
      · rw [l3, ← s3]
        show _ = ordP _ k * cnR _ k 10 * S.length
        rw [cn_pts, Nat.mul_assoc]
        congr 2
        have e1 : ∀ m, m ≤ 10 → ptsB (fun x => rB l n k x) m = ptsB (fun x => rB l n ((10 * k + x) / 10) ((10 * k + x) % 10)) m := fun m hm => by
          unfold ptsB
          refine List.filter_congr fun x hx => ?_
          have := List.mem_range.1 hx
          rw [show (10 * k + x) / 10 = k by omega, show (10 * k + x) % 10 = x by omega]
        rw [e1 10 (Nat.le_refl _)]
  obtain ⟨L, l1, l2, l3⟩ := key n 0 rfl (Nat.zero_le _)
  refine ⟨L, l1, fun a => (l2 a).trans ⟨fun h => h.1, fun h => ⟨h, fun i hi => by omega⟩⟩, ?_⟩
  rw [← l3]; show _ = 1 * _; rw [Nat.one_mul]
theorem ordG_pos {l : List Pl} {n : Nat} (hl : PsOk l (n : Int)) : 1 ≤ ordG l n := by
  obtain ⟨L, _, l2, l3⟩ := grp_list hl
  rw [← l3]
  exact List.length_pos_of_mem ((l2 id).2 .one)
/-- Lagrange. -/
theorem ord_dvd {l l2 : List Pl} {n : Nat} (hl : PsOk l (n : Int)) (hl2 : PsOk l2 (n : Int)) (h : ∀ a, Gen (Sp l n) a → Gen (Sp l2 n) a) : ordG l n ∣ ordG l2 n := by
  have hn : n ≤ 10 := by have := hl.1; omega
  have hG := gp_gen hn (Sp_pn (n := (n : Int)) hl)
  have hG2 := gp_gen hn (Sp_pn (n := (n : Int)) hl2)
  obtain ⟨H, h1, h2, h3⟩ := grp_list hl
  obtain ⟨L, l1, l2, l3⟩ := grp_list hl2
  rw [← h3, ← l3]
  refine part_dvd (fun a b => ∃ c, Gen (Sp l n) c ∧ b = th c a ∧ Pn n a) ?_ ?_ H.length L.length L (Nat.le_refl _) l1 fun x hx => ?_
  · rintro a b ⟨c, c1, rfl, c3⟩
    have cp := hG.pn c c1
    exact ⟨iv c, hG.inv c c1, by rw [← th_assoc, iv_th cp, id_th], cp.th c3⟩
  · rintro a b d ⟨c, c1, rfl, c3⟩ ⟨e, e1, rfl, e3⟩
    exact ⟨th e c, hG.mul _ _ e1 c1, rfl, c3⟩
  · have xG := (l2 x).1 hx
    have xp := hG2.pn x xG
    refine ⟨H.map (fun c => th c x), List.pairwise_map.2 (h1.imp fun hne e => hne (th_cancel xp e)), List.length_map _, fun y => ?_, List.mem_map.2 ⟨id, (h2 id).2 .one, id_th x⟩, fun y hy => ?_⟩
    · rw [List.mem_map]
      exact ⟨fun ⟨c, c1, c2⟩ => ⟨c, (h2 c).1 c1, c2.symm, xp⟩, fun ⟨c, c1, c2, _⟩ => ⟨c, (h2 c).2 c1, c2.symm⟩⟩
    · obtain ⟨c, c1, rfl⟩ := List.mem_map.1 hy
      exact (l2 _).2 (hG2.mul _ _ (h c ((h2 c).1 c1)) xG)
theorem ord_eq {l l2 : List Pl} {n : Nat} (hl : PsOk l (n : Int)) (hl2 : PsOk l2 (n : Int)) (h : ∀ a, Gen (Sp l n) a → Gen (Sp l2 n) a) (e : ordG l2 n = ordG l n) : ∀ a, Gen (Sp l2 n) a → Gen (Sp l n) a := by
  obtain ⟨H, h1, h2, h3⟩ := grp_list hl
  obtain ⟨L, l1, l2, l3⟩ := grp_list hl2
  intro a ha
  apply Classical.byContradiction
  intro hna
  classical
  have h4 : (a :: H).Nodup := List.nodup_cons.2 ⟨fun hm => hna ((h2 a).1 hm), h1⟩
  have h5 : (a :: H).length = (L.filter (fun y => decide (y ∈ a :: H))).length := nodup_len h4 (l1.filter _) fun y => by
    rw [List.mem_filter, decide_eq_true_eq]
    refine ⟨fun hy => ⟨?_, hy⟩, fun hy => hy.2⟩
    rcases List.mem_cons.1 hy with rfl | hy
    · exact (l2 y).2 ha
    · exact (l2 y).2 (h y ((h2 y).1 hy))
  have h6 := List.length_filter_le (fun y => decide (y ∈ a :: H)) L
  rw [List.length_cons] at h5
  omega
/-- With one permutation more: the order is kept just if it belongs. -/
theorem ord_more {l : List Pl} {n : Nat} {p : Pl} (hl : PsOk l (n : Int)) (hp : IsPerm p (n : Int)) : PsOk (l ++ [p]) (n : Int) ∧ ordG l n ∣ ordG (l ++ [p]) n ∧ decide (ordG (l ++ [p]) n = ordG l n) = inG l n p := by
  have hl2 : PsOk (l ++ [p]) (n : Int) := ⟨hl.1, fun q hq => by
    rcases List.mem_append.1 hq with hq | hq
    · exact hl.2 q hq
    · rw [List.mem_singleton.1 hq]; exact hp⟩
  have hle : ∀ a, Gen (Sp l n) a → Gen (Sp (l ++ [p]) n) a := fun a => Gen.le fun b ⟨q, h1, h2⟩ => .of ⟨q, List.mem_append_left _ h1, h2⟩
  refine ⟨hl2, ord_dvd hl hl2 hle, ?_⟩
  rw [Bool.eq_iff_iff, decide_eq_true_eq, inG_iff]
  constructor
  · exact fun e => ord_eq hl hl2 hle e _ (.of ⟨p, by simp, rfl⟩)
  · intro hi
    have hge : ∀ a, Gen (Sp (l ++ [p]) n) a → Gen (Sp l n) a := fun a => Gen.le fun b ⟨q, h1, h2⟩ => by
      rcases List.mem_append.1 h1 with h1 | h1
      · exact .of ⟨q, h1, h2⟩
      · rw [List.mem_singleton.1 h1] at h2; rw [h2]; exact hi
    exact Nat.dvd_antisymm (ord_dvd hl2 hl hge) (ord_dvd hl hl2 hle)
/-! ### Orbits -/
theorem filt_pts {P : Nat → Bool} : ∀ m, filt P m = (ptsB P m).map fun v : Nat => (v : Int)
  | 0 => rfl
  | m + 1 => by
    have ih := filt_pts (P := P) m
    unfold ptsB at *
    rw [List.range_succ, List.filter_append, List.map_append, ← ih]
    by_cases e : P m = true
    · rw [← filt_t e, List.filter_cons, if_pos e]; rfl
    · rw [← filt_f (by simpa using e), List.filter_cons, if_neg e]; simp
theorem filt_pl {P : Nat → Bool} {m : Nat} : (filt P m).length = (ptsB P m).length := by rw [filt_pts, List.length_map]
theorem orb_dvd {l : List Pl} {n : Nat} (hl : PsOk l (n : Int)) {x : Nat} (hx : x < n) : (filt (orbB l n x) n).length ∣ ordG l n := by
  have hn : n ≤ 10 := by have := hl.1; omega
  have hG := gp_gen hn (Sp_pn (n := (n : Int)) hl)
  obtain ⟨L, l1, l2, l3⟩ := grp_list hl
  obtain ⟨S, s1, s2⟩ : ∃ S : List Fm, S.Nodup ∧ ∀ a, a ∈ S ↔ Gen (Sp l n) a ∧ a x = x := by
    refine ⟨L.filter (fun a => decide (a x = x)), l1.filter _, fun a => ?_⟩
    rw [List.mem_filter, l2, decide_eq_true_eq]
  obtain ⟨L', m1, m2, m3⟩ := fiber hG x s1 s2 (ptsB (orbB l n x) n) ptsB_nodup (fun y hy => orbB_iff.1 (ptsB_mem.1 hy).2)
  have e : L.length = L'.length := nodup_len l1 m1 fun a => by
    rw [l2, m2]
    exact ⟨fun h => ⟨h, ptsB_mem.2 ⟨(hG.pn a h).lt x hx, orbB_iff.2 ⟨a, h, rfl⟩⟩⟩, fun h => h.1⟩
  rw [← l3, e, m3, filt_pl]
  exact Nat.dvd_mul_right _ _
theorem oL_mem {R : Nat → Nat → Bool} {n : Nat} : ∀ {k : Nat} {c : List Int}, c ∈ oL R n k → ∃ x, x < k ∧ c = filt (R x) n
  | k + 1, c, h => by
    simp only [oL, List.mem_append] at h
    rcases h with h | h
    · obtain ⟨x, h1, h2⟩ := oL_mem h
      exact ⟨x, by omega, h2⟩
    · split at h
      · cases h
      · exact ⟨k, by omega, List.mem_singleton.1 h⟩
/-- The orbits' sizes, added up. -/
def sumO (L : List (List Int)) : Nat → Nat
  | 0 => 0
  | i + 1 => sumO L i + (L.getD i []).length
theorem sumO_app {L : List (List Int)} {c : List Int} : sumO (L ++ [c]) (L ++ [c]).length = sumO L L.length + c.length := by
  have h1 : ∀ i, i ≤ L.length → sumO (L ++ [c]) i = sumO L i := by
    intro i
    induction i with
    | zero => exact fun _ => rfl
    | succ i ih =>
      intro hi
      unfold sumO
      rw [ih (by omega)]
      congr 2
      simp only [List.getD]
      rw [List.getElem?_append_left (by omega)]
  rw [List.length_append, List.length_singleton]
  show sumO (L ++ [c]) L.length + ((L ++ [c]).getD L.length []).length = _
  rw [h1 _ (Nat.le_refl _)]
  congr 2
  simp [List.getD]
theorem pts_split {P Q : Nat → Bool} {S : Nat → Bool} (h : ∀ y, S y = (P y || Q y)) (hd : ∀ y, P y = true → Q y = false) : ∀ m, (ptsB S m).length = (ptsB P m).length + (ptsB Q m).length
  | 0 => rfl
  | m + 1 => by
    have ih := pts_split h hd m
    unfold ptsB at *
    rw [List.range_succ, List.filter_append, List.filter_append, List.filter_append, List.length_append, List.length_append, List.length_append, ih]
    have e := h m
    have e2 := hd m
    cases hp : P m <;> cases hq : Q m <;> simp [hp, hq] at e e2 ⊢ <;> simp [e] <;> omega
theorem sumO_seen {R : Nat → Nat → Bool} {n : Nat} (hs : ∀ x y, R x y = true → R y x = true) (ht : ∀ x y z, R x y = true → R y z = true → R x z = true) : ∀ k, k ≤ n → sumO (oL R n k) (oL R n k).length = (ptsB (seenR R k) n).length
  | 0, _ => by
    show 0 = _
    have : ptsB (seenR R 0) n = [] := by
      unfold ptsB
      exact List.filter_eq_nil_iff.2 fun y _ => by rw [← seenR_zero y]; decide
    rw [this]; rfl
  | k + 1, hk => by
    have hk' : k ≤ n := Nat.le_of_succ_le hk
    have ih := sumO_seen hs ht k hk'
    by_cases h : seenR R k k = true
    · rw [← oL_t h, ih]
      congr 2
      exact funext fun y => seenR_same ht h y
    · rw [← oL_f (by simpa using h), sumO_app, ih, filt_pl]
      refine (pts_split (P := seenR R k) (Q := R k) (fun y => ?_) (fun y hy => ?_) n).symm
      · rw [Bool.eq_iff_iff, Bool.or_eq_true, seenR_iff, seenR_iff]
        constructor
        · rintro ⟨z, h1, h2⟩
          by_cases e : z = k
          · subst e; exact .inr h2
          · exact .inl ⟨z, by omega, h2⟩
        · rintro (⟨z, h1, h2⟩ | h2)
          · exact ⟨z, Nat.lt_succ_of_lt h1, h2⟩
          · exact ⟨k, Nat.lt_succ_self k, h2⟩
      · obtain ⟨z, h1, h2⟩ := seenR_iff.1 hy
        rw [Bool.eq_false_iff]
        intro hc
        exact h (seenR_iff.2 ⟨z, h1, ht _ _ _ h2 (hs _ _ hc)⟩)
theorem sumO_orb {l : List Pl} {n : Nat} (hl : PsOk l (n : Int)) : sumO (oL (orbB l n) n n) (oL (orbB l n) n n).length = n := by
  have hn : n ≤ 10 := by have := hl.1; omega
  rw [sumO_seen (R := orbB l n) (n := n) (fun x y h => orbB_iff.2 (Orb.symm hn (Sp_pn (n := (n : Int)) hl) (orbB_iff.1 h))) orbB_trans n (Nat.le_refl _)]
  have : ptsB (seenR (orbB l n) n) n = List.range n := by
    unfold ptsB
    exact List.filter_eq_self.2 fun y hy => seenR_iff.2 ⟨y, List.mem_range.1 hy, orbB_iff.2 (Orb.refl y)⟩
  rw [this, List.length_range]
theorem pts_all {P : Nat → Bool} {m : Nat} (h : (ptsB P m).length = m) : ∀ y, y < m → P y = true := fun y hy => by
  have h1 : (ptsB P m).length = (List.range m).length := by rw [h, List.length_range]
  have h2 : ptsB P m = List.range m := (List.filter_sublist (p := P) (l := List.range m)).eq_of_length h1
  have h3 : y ∈ ptsB P m := by rw [h2]; exact List.mem_range.2 hy
  exact (ptsB_mem.1 h3).2
/-- One orbit only: everything is reached from everywhere. -/
theorem one_orb {l : List Pl} {n : Nat} (hl : PsOk l (n : Int)) (h : (oL (orbB l n) n n).length ≤ 1) {x u : Nat} (hx : x < n) (hu : u < n) : Orb (Sp l n) x u := by
  have hn : n ≤ 10 := by have := hl.1; omega
  have h1 := sumO_orb hl
  rcases hL : oL (orbB l n) n n with _ | ⟨c, _ | ⟨d, r⟩⟩
  · rw [hL] at h1
    have : n = 0 := h1.symm
    omega
  · rw [hL] at h1
    have h2 : 0 + c.length = n := h1
    obtain ⟨z, hz, rfl⟩ := oL_mem (R := orbB l n) (n := n) (k := n) (c := c) (by rw [hL]; simp)
    have h3 := pts_all (P := orbB l n z) (m := n) (by rw [← filt_pl]; omega)
    exact (Orb.symm hn (Sp_pn (n := (n : Int)) hl) (orbB_iff.1 (h3 x hx))).trans (orbB_iff.1 (h3 u hu))
  · rw [hL] at h
    simp only [List.length_cons] at h
    omega
theorem bk_gen {l : List Pl} {n : Nat} (hl : PsOk l (n : Int)) {x y : Nat} {a : Fm} (ha : Gen (Sp l n) a) : ∀ u v, u < n → v < n → Bk l n x y u v → Bk l n x y (a u) (a v) := by
  have hpn : ∀ a, Gen (Sp l n) a → Pn n a := fun a h => Gen.pn (Sp_pn (n := (n : Int)) hl) h
  induction ha with
  | one => exact fun u v _ _ h => h
  | mul h1 h2 ih =>
    intro u v hu hv h
    obtain ⟨p, hp, rfl⟩ := h2
    have hu' := (hpn _ h1).lt u hu
    have hv' := (hpn _ h1).lt v hv
    show Bk l n x y (nfp n p _) (nfp n p _)
    rw [nfp_lt hu', nfp_lt hv']
    exact Bk.step hp hu' hv' (ih u v hu hv h)
theorem bk_dvd {l : List Pl} {n x y : Nat} (hl : PsOk l (n : Int)) (h1 : (oL (orbB l n) n n).length ≤ 1) (hx : x < n) : (bkL l n x y).length ∣ n ∧ 0 < (bkL l n x y).length := by
  have hn : n ≤ 10 := by have := hl.1; omega
  have hE : Eqv (Bk l n x y) := Bk.eqv
  have hpn : ∀ a, Gen (Sp l n) a → Pn n a := fun a h => Gen.pn (Sp_pn (n := (n : Int)) hl) h
  have hm : ∀ u z, z ∈ ptsB (bkB l n x y u) n ↔ z < n ∧ Bk l n x y u z := fun u z => by rw [ptsB_mem, bkB_iff]
  unfold bkL
  rw [filt_pl]
  constructor
  · have h2 := part_dvd (fun u v => Bk l n x y u v ∧ u < n ∧ v < n) (fun u v h => ⟨hE.symm _ _ h.1, h.2.2, h.2.1⟩) (fun u v w h h' => ⟨hE.trans _ _ _ h.1 h'.1, h.2.1, h'.2.2⟩) (ptsB (bkB l n x y x) n).length n (List.range n) (by rw [List.length_range]; exact Nat.le_refl _) List.nodup_range (fun u hu => by
      have hu' := List.mem_range.1 hu
      refine ⟨ptsB (bkB l n x y u) n, ptsB_nodup, ?_, fun z => ?_, (hm u u).2 ⟨hu', hE.refl u⟩, fun z hz => List.mem_range.2 ((hm u z).1 hz).1⟩
      · obtain ⟨a, ha, hax⟩ := one_orb hl h1 hx hu'
        have ap := hpn a ha
        have hb := ha.inv hn ap
        have e : (ptsB (bkB l n x y u) n).length = ((ptsB (bkB l n x y x) n).map a).length := nodup_len ptsB_nodup (List.pairwise_map.2 (ptsB_nodup.imp fun hne e => hne (ap.inj _ _ e))) fun z => by
          rw [hm, List.mem_map]
          constructor
          · rintro ⟨z1, z2⟩
            have hi := bk_gen hl hb u z hu' z1 z2
            rw [← hax, iv_l ap] at hi
            exact ⟨iv a z, (hm x _).2 ⟨(hpn _ hb).lt z z1, hi⟩, iv_r ap z⟩
          · rintro ⟨w, w1, rfl⟩
            obtain ⟨w2, w3⟩ := (hm x w).1 w1
            have hi := bk_gen hl ha x w hx w2 w3
            rw [hax] at hi
            exact ⟨ap.lt w w2, hi⟩
        rw [e, List.length_map]
      · rw [hm]
        exact ⟨fun h => ⟨h.2, hu', h.1⟩, fun h => ⟨h.2.2, h.1⟩⟩)
    rwa [List.length_range] at h2
  · exact List.length_pos_of_mem ((hm x x).2 ⟨hx, hE.refl x⟩)
/-! ### As the law asks -/
theorem lb_dvd {l : List Pl} {n x y : Int} (h : lbC l n x y = 0) : 0 < ((lbL l n x y).length : Int) ∧ n % ((lbL l n x y).length : Int) = 0 := by
  have h0 : psC l n = 0 := Classical.byContradiction fun h1 => by rw [lb_c h1] at h; exact h1 h
  have h2 : inN n x y := Classical.byContradiction fun h1 => by rw [lb_2 h0 h1] at h; omega
  have h3 : (orbS l n).length ≤ 1 := Classical.byContradiction fun h1 => by rw [lb_5 h0 h2 h1] at h; omega
  obtain ⟨m, rfl⟩ := psn h0
  have hl := (psC_ok h0).1
  rw [orbS_0 h0] at h3
  rw [lbL_0 h]
  have hx : x.toNat < m := by unfold inN at h2; omega
  obtain ⟨a, b⟩ := bk_dvd (y := y.toNat) hl h3 hx
  refine ⟨by show (0 : Int) < ((bkL l m x.toNat y.toNat).length : Int); omega, ?_⟩
  show (m : Int) % ((bkL l m x.toNat y.toNat).length : Int) = 0
  exact Int.emod_eq_zero_of_dvd (Int.natCast_dvd_natCast.2 a)
theorem go_more {l : List Pl} {n : Int} {p : Pl} (h : inK l n p = 0) (hl : l.length < 40) : psC l n = 0 ∧ psC (l ++ [p]) n = 0 ∧ 1 ≤ goV l n ∧ goV (l ++ [p]) n % goV l n = 0 ∧ decide (goV (l ++ [p]) n = goV l n) = inV l n p := by
  obtain ⟨h0, hp⟩ := inK_ok h
  obtain ⟨m, rfl⟩ := psn h0
  obtain ⟨a, b, c⟩ := ord_more (psC_ok h0).1 hp
  have h1 : psC (l ++ [p]) (m : Int) = 0 := by
    have hb : psB (l ++ [p]) (m : Int) = true := @decide_eq_true _ (Classical.propDecidable _) a.2
    unfold psC
    rw [if_pos a.1, if_pos hb, if_pos (by simp only [List.length_append, List.length_cons, List.length_nil]; omega)]
  have hpos := ordG_pos (psC_ok h0).1
  rw [goV_0 h0, goV_0 h1, inV_0 h, ← c]
  refine ⟨h0, h1, by omega, Int.emod_eq_zero_of_dvd (Int.natCast_dvd_natCast.2 b), ?_⟩
  rw [Bool.eq_iff_iff, decide_eq_true_eq, decide_eq_true_eq]; omega
theorem go_pos {l : List Pl} {n : Int} (h : psC l n = 0) : 1 ≤ goV l n := by
  obtain ⟨m, rfl⟩ := psn h
  rw [goV_0 h]
  have := ordG_pos (psC_ok h).1
  omega
/-- Orbits' sizes divide the order. -/
theorem orbS_dvd {l : List Pl} {n : Int} (h : psC l n = 0) {i : Nat} (hi : i < (orbS l n).length) : 0 < (((orbS l n).getD i []).length : Int) ∧ goV l n % (((orbS l n).getD i []).length : Int) = 0 := by
  obtain ⟨m, rfl⟩ := psn h
  have hl := (psC_ok h).1
  rw [orbS_0 h] at hi ⊢
  rw [goV_0 h]
  have hm : (oL (orbB l m) m m).getD i [] ∈ oL (orbB l m) m m := by
    have hi' : i < (oL (orbB l m) m m).length := hi
    rw [List.getD, List.getElem?_eq_getElem hi']; exact List.getElem_mem hi'
  obtain ⟨x, hx, e⟩ := oL_mem hm
  show 0 < (((oL (orbB l m) m m).getD i []).length : Int) ∧ ((ordG l m : Nat) : Int) % (((oL (orbB l m) m m).getD i []).length : Int) = 0
  rw [e]
  have h1 := orb_dvd hl hx
  have h2 : 0 < (filt (orbB l m x) m).length := by
    rw [filt_pl]; exact List.length_pos_of_mem (ptsB_mem.2 ⟨hx, orbB_iff.2 (Orb.refl x)⟩)
  exact ⟨by omega, Int.emod_eq_zero_of_dvd (Int.natCast_dvd_natCast.2 h1)⟩
theorem orbS_sum {l : List Pl} {n : Int} (h : psC l n = 0) : ((sumO (orbS l n) (orbS l n).length : Nat) : Int) = n := by
  obtain ⟨m, rfl⟩ := psn h
  rw [orbS_0 h]
  have := sumO_orb (psC_ok h).1
  show ((sumO (oL (orbB l m) m m) (oL (orbB l m) m m).length : Nat) : Int) = (m : Int)
  rw [this]
theorem sumO_le (L : List (List Int)) (h : ∀ c ∈ L, c.length ≤ 10) : ∀ i, i ≤ L.length → sumO L i ≤ 10 * i
  | 0, _ => Nat.le_refl _
  | i + 1, hi => by
    have := sumO_le L h i (by omega)
    have h2 := h (L.getD i []) (by rw [List.getD, List.getElem?_eq_getElem (show i < L.length by omega)]; exact List.getElem_mem _)
    unfold sumO; omega
theorem orb_get {L : SL} {S : List (List Int)} (h : L.map (·.2) = S) (i : Nat) : S.getD i [] = (L.getD i sd).2 := by
  subst h
  simp only [List.getD, List.getElem?_map]
  cases L[i]? with
  | none => rfl
  | some p => rfl
theorem orb_cnt {l : List Pl} {n : Int} {L : SL} (h : L.map (·.2) = orbS l n) {i : Nat} (hi : i < L.length) : sumO (orbS l n) (i + 1) = sumO (orbS l n) i + (L.getD i sd).2.length ∧ sumO (orbS l n) (i + 1) ≤ 1000000 := by
  have h1 : sumO (orbS l n) (i + 1) = sumO (orbS l n) i + (L.getD i sd).2.length := by
    rw [← orb_get h i]; rfl
  have h2 := orbS_b l n
  have h3 := snd_cnt h
  have h4 := sumO_le (orbS l n) h2.2 (i + 1) (by omega)
  exact ⟨h1, by omega⟩
theorem orb_div {l : List Pl} {n : Int} {L : SL} (h : L.map (·.2) = orbS l n) (h0 : psC l n = 0) {i : Nat} (hi : i < L.length) : 0 < (((L.getD i sd).2.length : Nat) : Int) ∧ goV l n % (((L.getD i sd).2.length : Nat) : Int) = 0 := by
  have h3 := snd_cnt h
  have := orbS_dvd h0 (i := i) (by omega)
  rw [orb_get h i] at this
  exact this
theorem orb_end {l : List Pl} {n : Int} {L : SL} (h : L.map (·.2) = orbS l n) (h0 : psC l n = 0) : ((sumO (orbS l n) L.length : Nat) : Int) = n := by
  rw [snd_cnt h]; exact orbS_sum h0
theorem goV_le {l : List Pl} {n : Int} : 0 ≤ goV l n := by
  unfold goV; split <;> omega
end Go.Proofs.Ytjihhcjpbcmjaaa
