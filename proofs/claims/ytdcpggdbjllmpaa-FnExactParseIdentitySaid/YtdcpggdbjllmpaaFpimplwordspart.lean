/- What the Go function (*impl.words).part does, shown of its loaded text; its conditions stand in the statement. -/
import Derived.Test.YtdcpggdbjllmpaaTy
import Derived.Test.YtdcpggdbjllmpaaFpimplwordsnext
import Derived.Test.YtdcpggdbjllmpaaFpimplwordsterm
import Derived.Test.YtdcpggdbjllmpaaGx12
import Derived.Test.YtdcpggdbjllmpaaGx14
import Derived.Test.YtdcpggdbjllmpaaGx24
import Derived.Test.YtdcpggdbjllmpaaGx27
import Derived.Test.YtdcpggdbjllmpaaGx34
import Derived.Test.YtdcpggdbjllmpaaM41
namespace Go.Proofs.Ytdcpggdbjllmpaa
open Go Gx
set_option linter.unusedVariables false
theorem en_pimpl_words_part : Enters Try.prog 98 := enters_of Try.func98 (by kernel_rfl) (by kernel_rfl)
set_option maxRecDepth 100000 in
set_option maxHeartbeats 1000000 in
theorem w_pimpl_words_part_all {s : List (Fin 256)} {bw : Nat} (hs : s.length ≤ 1000) : ∀ (mm : Nat) (k p : Nat), (p ≤ s.length) → (s.length < p + k) → k < mm → CT (X := V1) Try.prog 98 (vals [.ptr bw 0 none]) [.var bw (.agg [.raw (.string (strB s)) rfl, .int .i64 ((p : Nat) : Int)])] [] (fun x => (ptW s k p).1 = [] → x.1 = .slice none 0 0) (fun x => .raw x.1 x.2) (fun x => [.var bw (.agg [.raw (.string (strB s)) rfl, .int .i64 (((ptW s k p).2 : Nat) : Int)]), own x.1 5 (.u8s (ptW s k p).1)]) := by
  intro mm
  induction mm with
  | zero => intro k p hp hk hmm; exact absurd hmm (Nat.not_lt_zero _)
  | succ mm ih =>
  intro k p hp hk hmm
  refine CT_intro (rs := [.tmp 2]) tt tok Try.func98 rfl rfl rfl (by first | rfl | assumption) fun w => ?_
  show W _ _ _ ⟨tmOf 0 [.ptr bw 0 none], [.var bw (.agg [.raw (.string (strB s)) rfl, .int .i64 ((p : Nat) : Int)])]⟩
  obtain ⟨k', rfl⟩ : ∃ q, k = q + 1 := ⟨k - 1, by omega⟩
  obtain ⟨n1, n2⟩ := nxW_le hp
  refine W_seq ?_
  refine W_region ?_
  refine Ops_p (p_assign rfl) (lt_dec rfl) ?_
  refine Ops_nil ?_
  refine W_seq ?_
  refine W_region ?_
  refine Ops_p (p_move rfl) (lt_dec rfl) ?_
  refine Ops_x rfl (x_callT en_pimpl_words_next rfl (w_pimpl_words_next (s := s) (bw := bw) (p := p) hs hp) (HpDels.cons HpDel.head HpDels.nil) (Vw.none _) (fun _ => (HpDels.cons HpDel.head HpDels.nil)) (lt_dec rfl) fun _ _ => ?_)
  refine Ops_p (p_assign rfl) (lt_dec rfl) ?_
  refine Ops_nil ?_
  refine W_seq ?_
  refine W_seq ?_
  refine W_region ?_
  refine Ops_p (p_move rfl) (lt_dec rfl) ?_
  first | refine Ops_p (p_neq_8 rfl rfl) (lt_dec rfl) ?_ | refine Ops_p (p_neq rfl rfl) (lt_dec rfl) ?_
  refine Ops_nil ?_
  refine W_cond rfl (fun h1 => ?_) (fun h1 => ?_)
  · try simp only [bs] at h1
    have hpw : ptW s (k' + 1) p = ([(Prod.fst (nxW s p))], (Prod.snd (nxW s p))) := (by rw [ptW, if_pos (show (Prod.fst (nxW s p)) ≠ 40 from fun e => h1 e)])
    refine W_seq ?_
    refine W_region ?_
    refine Ops_p (p_move rfl) (lt_dec rfl) ?_
    refine Ops_x rfl (x_buildSlice rfl rfl rfl rfl rfl rfl rfl rfl (Nat.le_of_ble_eq_true rfl) (lt_dec rfl) fun b10_1 => ?_)
    refine Ops_p (p_assign rfl) (lt_dec rfl) ?_
    refine Ops_nil ?_
    refine W_ret ?_
    refine Exists.intro _ (And.intro (.cons (.tmp rfl) .nil) (Exists.intro ⟨.slice (some ⟨b10_1, 0, none⟩) 1 1, rfl⟩ (And.intro ?_ (And.intro ?_ (And.intro (.cons (HpDel.head).tail rfl (imp_var (by first | (rw [hpw]; done) | (rw [hpw]; rfl)) rfl) (.cons HpDel.head rfl (own_of_row rfl (by rw [hpw])) .nil)) rfl)))))
    · exact fun hh => by rw [hpw] at hh; cases hh
    · rfl
  · try simp only [bs] at h1
    have h40 : (Prod.fst (nxW s p)) = 40 := h1
    refine W_skip ?_
    refine W_seq ?_
    have hpp : p < s.length := Nat.lt_of_not_le (fun hle => by have e := nx_end (s := s) (p := p) (by omega); rw [e] at h40; cases h40)
    have hnn := nx_in (s := s) (p := p) (by omega)
    have hkk : s.length < (Prod.snd (nxW s p)) + k' := (by rw [hnn]; show s.length < p + 1 + k'; omega)
    obtain ⟨t1, t2, t3⟩ := tmW_fact (s := s) (pt := ptW s k') (fun q hq => ptW_fact k' q hq) (p := (Prod.snd (nxW s p))) n2
    refine W_region ?_
    refine Ops_p (p_move rfl) (lt_dec rfl) ?_
    refine Ops_x rfl (x_callT en_pimpl_words_term rfl (w_pimpl_words_term (s := s) (bw := bw) (k := k') (p := (Prod.snd (nxW s p))) hs n2 (by omega) en_pimpl_words_part (fun q hq hkq => ih k' q hq hkq (by omega))) (HpDels.cons HpDel.head HpDels.nil) (Vw.none _) (fun _ => (HpDels.cons (HpDel.head).tail (HpDels.cons HpDel.head HpDels.nil))) (lt_dec rfl) fun x12_1 hx1 => ?_)
    refine Ops_p (p_assign rfl) (lt_dec rfl) ?_
    refine Ops_nil ?_
    refine W_seq ?_
    refine W_seq ?_
    refine W_region ?_
    refine Ops_p (p_move rfl) (lt_dec rfl) ?_
    refine Ops_x rfl (x_callT en_pimpl_words_next rfl (w_pimpl_words_next (s := s) (bw := bw) (p := (Prod.snd (tmW s (ptW s k') (Prod.snd (nxW s p))))) hs t2) (HpDels.cons (HpDel.head).tail HpDels.nil) (Vw.none _) (fun _ => (HpDels.cons (HpDel.head).tail HpDels.nil)) (lt_dec rfl) fun _ _ => ?_)
    first | refine Ops_p (p_neq_8 rfl rfl) (lt_dec rfl) ?_ | refine Ops_p (p_neq rfl rfl) (lt_dec rfl) ?_
    refine Ops_nil ?_
    refine W_cond rfl (fun h2 => ?_) (fun h2 => ?_)
    · try simp only [bs] at h2
      have hpw : ptW s (k' + 1) p = ([], (nxW s (Prod.snd (tmW s (ptW s k') (Prod.snd (nxW s p))))).2) := (by rw [ptW, if_neg (fun e => e h40), if_pos (show (nxW s (Prod.snd (tmW s (ptW s k') (Prod.snd (nxW s p))))).1 ≠ 41 from fun e => h2 e)])
      refine W_seq ?_
      refine W_region ?_
      refine Ops_p (p_assign rfl) (lt_dec rfl) ?_
      refine Ops_nil ?_
      refine W_ret ?_
      refine Exists.intro _ (And.intro (.cons (.tmp rfl) .nil) (Exists.intro ⟨.slice none 0 0, rfl⟩ (And.intro ?_ (And.intro ?_ (And.intro (.cons (HpDel.head).tail rfl (imp_var (by first | (rw [hpw]; done) | (rw [hpw]; rfl)) rfl) (.free rfl (own_nil (by rw [hpw]; rfl) (by rw [hpw]; rfl)) .nil)) rfl)))))
      · exact fun _ => rfl
      · rfl
    · try simp only [bs] at h2
      have h41 : (nxW s (Prod.snd (tmW s (ptW s k') (Prod.snd (nxW s p))))).1 = 41 := h2; have hpw : ptW s (k' + 1) p = ((Prod.fst (tmW s (ptW s k') (Prod.snd (nxW s p)))), (nxW s (Prod.snd (tmW s (ptW s k') (Prod.snd (nxW s p))))).2) := (by rw [ptW, if_neg (fun e => e h40), if_neg (fun e => e h41)])
      refine W_skip ?_
      refine W_seq ?_
      refine W_region ?_
      refine Ops_p (p_move rfl) (lt_dec rfl) ?_
      refine Ops_p (p_assign rfl) (lt_dec rfl) ?_
      refine Ops_nil ?_
      refine W_ret ?_
      refine Exists.intro _ (And.intro (.cons (.tmp rfl) .nil) (Exists.intro x12_1 (And.intro ?_ (And.intro ?_ (And.intro (.cons (HpDel.head).tail rfl (imp_var (by first | (rw [hpw]; done) | (rw [hpw]; rfl)) rfl) (.cons HpDel.head rfl (own_eq (by rw [hpw])) .nil)) rfl)))))
      · rw [hpw]; exact hx1
      · rfl
theorem w_pimpl_words_part {s : List (Fin 256)} {bw : Nat} (hs : s.length ≤ 1000) {k p : Nat} (hp : p ≤ s.length) (hk : s.length < p + k) : CT (X := V1) Try.prog 98 (vals [.ptr bw 0 none]) [.var bw (.agg [.raw (.string (strB s)) rfl, .int .i64 ((p : Nat) : Int)])] [] (fun x => (ptW s k p).1 = [] → x.1 = .slice none 0 0) (fun x => .raw x.1 x.2) (fun x => [.var bw (.agg [.raw (.string (strB s)) rfl, .int .i64 (((ptW s k p).2 : Nat) : Int)]), own x.1 5 (.u8s (ptW s k p).1)]) := w_pimpl_words_part_all (s := s) (bw := bw) (hs := hs) _ k p hp hk (Nat.lt_succ_self _)
end Go.Proofs.Ytdcpggdbjllmpaa
