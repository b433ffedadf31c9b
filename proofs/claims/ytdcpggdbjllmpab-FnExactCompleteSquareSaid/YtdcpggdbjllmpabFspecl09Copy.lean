/- What the Go function spec.l09Copy does, shown of its loaded text; its conditions stand in the statement. -/
import Derived.Test.YtdcpggdbjllmpabTy
import Derived.Test.YtdcpggdbjllmpabFspecl01Own
import Derived.Test.YtdcpggdbjllmpabGx12
import Derived.Test.YtdcpggdbjllmpabGx20
import Derived.Test.YtdcpggdbjllmpabM24
namespace Go.Proofs.Ytdcpggdbjllmpab
open Go Gx
set_option linter.unusedVariables false
theorem en_spec_l09Copy : Enters Try.prog 55 := enters_of Try.func55 (by kernel_rfl) (by kernel_rfl)
set_option maxRecDepth 100000 in
theorem w_spec_l09Copy {a : Value} {ha : a.oneCell' = true} {L : SL} (hP : ParL L) : CT (X := V1 × SL) Try.prog 55 (vals [.raw a ha]) [] [rss a L] (fun x => x.2.map (·.2) = L.map (·.2)) (fun x => .raw x.1.1 x.1.2) (fun x => [oss x.1.1 24 2 x.2]) := by
  refine CT_intro (rs := [.tmp 2]) tt tok Try.func55 rfl rfl rfl (by first | rfl | assumption) fun w => ?_
  show W _ _ _ ⟨tmOf 0 [.raw a ha], [rss a L]⟩
  have hn := hP.1
  have hln : ∀ i, i < L.length → (L.getD i sd).2.length = L.length := hP.2.1
  refine W_seq ?_
  refine W_region ?_
  refine Ops_p (p_assign rfl) (lt_dec rfl) ?_
  refine Ops_nil ?_
  refine W_seq ?_
  refine W_region ?_
  refine Ops_x rfl (x_buildSlice rfl rfl rfl rfl rfl rfl rfl rfl (Nat.le_of_ble_eq_true rfl) (lt_dec rfl) fun b5_1 => ?_)
  refine Ops_p (p_assign rfl) (lt_dec rfl) ?_
  refine Ops_nil ?_
  refine W_seq ?_
  refine W_seq ?_
  refine W_region ?_
  refine Ops_p (p_assign rfl) (lt_dec rfl) ?_
  refine Ops_nil ?_
  refine W_block ?_
  refine W_loop (α := Nat × V1 × SL) (fun zz0 => ⟨[(0, .raw a ha), (3, .raw (zz0.2.1).1 (zz0.2.1).2), (4, .int .i64 ((zz0.1) : Int))], [oss (zz0.2.1).1 24 2 (zz0.2.2), rss a L]⟩) (fun zz0 => (zz0.1) ≤ L.length ∧ (zz0.2.2).length = (zz0.1) ∧ (zz0.2.2).map (·.2) = (L.map (·.2)).take (zz0.1)) (fun zz0 => L.length - (zz0.1)) (0, slv b5_1 0 0, []) ?_ ?_ ?_
  · exact ⟨Nat.zero_le _, rfl, rfl⟩
  · exact Wk.intro (.cons rfl (by first | rfl | exact veq_int (by first | omega | (dsimp only; omega))) (.cons rfl (by first | rfl | exact veq_int (by first | omega | (dsimp only; omega))) (.cons rfl (by first | rfl | exact veq_int (by first | omega | (dsimp only; omega))) .nil))) (.keep rfl rfl (oss_of_row) (.keep rfl rfl (fun _ h => h) .nil))
  · rintro ⟨i, vv, D⟩ ⟨hi, hDl, hD⟩
    try dsimp only at *
    refine W_seq ?_
    refine W_seq ?_
    refine W_region ?_
    refine Ops_p (p_move rfl) (lt_dec rfl) ?_
    refine Ops_p (p_move rfl) (lt_dec rfl) ?_
    refine Ops_q (q_lenO rfl rfl rfl (Rds.rssO m1)) (lt_dec rfl) ?_
    refine Ops_p (p_lss rfl rfl) (lt_dec rfl) ?_
    refine Ops_nil ?_
    refine W_cond rfl (fun h1 => ?_) (fun h1 => ?_)
    · try simp only [bs] at h1
      refine W_skip ?_
      refine W_seq ?_
      refine W_block ?_
      have hli := hln i (by omega)
      refine W_region ?_
      refine Ops_p (p_move rfl) (lt_dec rfl) ?_
      refine Ops_p (p_move rfl) (lt_dec rfl) ?_
      refine Ops_p (p_move rfl) (lt_dec rfl) ?_
      refine Ops_q (q_ixR (i) rfl rfl rfl (Rds.rssO m1) rfl rfl (by rw [valsR_len]; first | omega | (dsimp only; omega)) rfl) (lt_dec rfl) ?_
      refine Ops_q (q_loadI (j := i) rfl rfl (Rds.rssO m1) rfl (by first | omega | assumption) rfl rfl) (lt_dec rfl) ?_
      refine Ops_x rfl (x_callT en_spec_l01Own rfl (w_spec_l01Own (by omega) (by omega)) HpDels.nil (Vw.rdI (j := i) m1 (by omega) rfl) (fun _ => (HpDels.cons HpDel.head HpDels.nil)) (lt_dec rfl) fun x17_1 _ => ?_)
      refine Ops_x rfl (x_buildSlice rfl rfl rfl rfl rfl rfl rfl rfl (Nat.le_of_ble_eq_true rfl) (lt_dec rfl) fun b18_1 => ?_)
      refine Ops_x rfl (x_appendSS (u := x17_1) (li := (Prod.snd (List.getD L i sd))) rfl rfl rfl rfl rfl rfl m0 (HpDels.cons ((HpDel.head).tail).tail (HpDels.cons (HpDel.head).tail HpDels.nil)) rfl rfl (fun _ h => h) (fun _ => (HpDels.cons (HpDel.head).tail HpDels.nil)) (by have := snd_take hD; dsimp only; omega) (by first | omega | (dsimp only; omega)) (lt_dec rfl) fun v19 => ?_)
      refine Ops_p (p_assign rfl) (lt_dec rfl) ?_
      refine Ops_nil ?_
      refine W_region ?_
      refine Ops_p (p_move rfl) (lt_dec rfl) ?_
      refine Ops_p (p_add rfl rfl (by exact ⟨(by first | omega | (dsimp only; omega)), (by first | omega | (dsimp only; omega))⟩)) (lt_dec rfl) ?_
      refine Ops_p (p_assign rfl) (lt_dec rfl) ?_
      refine Ops_nil ?_
      refine Exists.intro (i + 1, v19, (D ++ [(x17_1, (Prod.snd (List.getD L i sd)))])) (And.intro ?_ (And.intro ?_ ?_))
      · exact ⟨by show _ ≤ _; omega, by simp [hDl], cp_next hD (by omega) _⟩
      · show _ < _; omega
      · exact Wk.intro (.cons rfl (by first | rfl | exact veq_int (by first | omega | (dsimp only; omega))) (.cons rfl (by first | rfl | exact veq_int (by first | omega | (dsimp only; omega))) (.cons rfl (by first | rfl | exact veq_int (by first | omega | (dsimp only; omega))) .nil))) (.drop (.keep rfl rfl (oss_eq rfl) (.keep rfl rfl (fun _ h => h) .nil)))
    · try simp only [bs] at h1
      obtain rfl : i = L.length := (by omega)
      refine W_exit ?_
      refine W_seq ?_
      refine W_region ?_
      refine Ops_p (p_move rfl) (lt_dec rfl) ?_
      refine Ops_p (p_assign rfl) (lt_dec rfl) ?_
      refine Ops_nil ?_
      refine W_ret ?_
      refine Exists.intro _ (And.intro (.cons (.tmp rfl) .nil) (Exists.intro (vv, D) (And.intro ?_ (And.intro ?_ (And.intro (.cons HpDel.head rfl (oss_eq rfl) .nil) rfl)))))
      · exact cp_end hD rfl
      · rfl
end Go.Proofs.Ytdcpggdbjllmpab
