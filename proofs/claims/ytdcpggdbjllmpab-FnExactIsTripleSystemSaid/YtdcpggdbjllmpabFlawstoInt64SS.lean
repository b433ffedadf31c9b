/- What the Go function laws.toInt64SS does, shown of its loaded text; its conditions stand in the statement. -/
import Derived.Test.YtdcpggdbjllmpabTy
import Derived.Test.YtdcpggdbjllmpabFlawstoInt64S
import Derived.Test.YtdcpggdbjllmpabGx12
import Derived.Test.YtdcpggdbjllmpabGx20
import Derived.Test.YtdcpggdbjllmpabM24
namespace Go.Proofs.Ytdcpggdbjllmpab
open Go Gx
set_option linter.unusedVariables false
theorem en_laws_toInt64SS : Enters Try.prog 21 := enters_of Try.func21 (by kernel_rfl) (by kernel_rfl)
set_option maxRecDepth 100000 in
theorem w_laws_toInt64SS {a : Value} {ha : a.oneCell' = true} {L : SL} (hl : L.length ≤ 1048576) (hB : ∀ i, (L.getD i sd).2.length ≤ 1048576) : CT (X := V1 × SL) Try.prog 21 (vals [.raw a ha]) [] [rss a L] (fun x => x.2.map (·.2) = L.map (·.2)) (fun x => .raw x.1.1 x.1.2) (fun x => [oss x.1.1 24 2 x.2]) := by
  refine CT_intro (rs := [.tmp 2]) tt tok Try.func21 rfl rfl rfl (by first | rfl | assumption) fun w => ?_
  show W _ _ _ ⟨tmOf 0 [.raw a ha], [rss a L]⟩
  refine W_seq ?_
  refine W_region ?_
  refine Ops_p (p_assign rfl) (lt_dec rfl) ?_
  refine Ops_nil ?_
  refine W_seq ?_
  refine W_region ?_
  refine Ops_p (p_move rfl) (lt_dec rfl) ?_
  refine Ops_q (q_lenO rfl rfl rfl (Rds.rssO m0)) (lt_dec rfl) ?_
  refine Ops_x rfl (x_makeSlice (n := L.length) rfl rfl rfl rfl rfl rfl rfl rfl (.inr (.inr ⟨_, _, rfl⟩)) (by dsimp only; omega) (by omega) (lt_dec rfl) fun b7_1 => ?_)
  refine Ops_p (p_assign rfl) (lt_dec rfl) ?_
  refine Ops_nil ?_
  refine W_seq ?_
  refine W_seq ?_
  refine W_region ?_
  refine Ops_p (p_assign rfl) (lt_dec rfl) ?_
  refine Ops_nil ?_
  refine W_block ?_
  refine W_loop (α := Nat × SL) (fun zz0 => ⟨[(0, .raw a ha), (3, .raw (slv b7_1 L.length L.length).1 (slv b7_1 L.length L.length).2), (4, .int .i64 ((zz0.1) : Int)), (5, .raw a ha), (6, .int .i64 ((L.length : Nat) : Int)), (7, .sl b7_1 0 (L.length) (L.length))], [oss (slv b7_1 L.length L.length).1 24 2 ((zz0.2) ++ List.replicate (L.length - (zz0.1)) sd), rss a L]⟩) (fun zz0 => (zz0.1) ≤ L.length ∧ (zz0.2).length = (zz0.1) ∧ (zz0.2).map (·.2) = (L.map (·.2)).take (zz0.1)) (fun zz0 => L.length - (zz0.1)) (0, []) ?_ ?_ ?_
  · exact ⟨Nat.zero_le _, rfl, rfl⟩
  · exact Wk.intro (.cons rfl (by first | rfl | exact veq_int (by first | omega | (dsimp only; omega))) (.cons rfl (by first | rfl | exact veq_int (by first | omega | (dsimp only; omega))) (.cons rfl (by first | rfl | exact veq_int (by first | omega | (dsimp only; omega))) (.cons rfl (by first | rfl | exact veq_int (by first | omega | (dsimp only; omega))) (.cons rfl (by first | rfl | exact veq_int (by first | omega | (dsimp only; omega))) (.cons rfl (by first | rfl | exact veq_int (by first | omega | (dsimp only; omega))) .nil)))))) (.keep repl_key rfl repl_vals (.keep rfl rfl (fun _ h => h) .nil))
  · rintro ⟨i, D⟩ ⟨hi, hD, hM⟩
    try dsimp only at *
    refine W_seq ?_
    refine W_seq ?_
    refine W_region ?_
    refine Ops_p (p_move rfl) (lt_dec rfl) ?_
    refine Ops_p (p_move rfl) (lt_dec rfl) ?_
    refine Ops_q (q_lenO rfl rfl rfl (Rds.rssO m1)) (lt_dec rfl) ?_
    refine Ops_p (p_lss rfl rfl) (lt_dec rfl) ?_
    refine Ops_nil ?_
    refine W_cond rfl (fun h1 => ?_) (fun h1 => ?_)
    · try simp only [bs] at h1
      refine W_skip ?_
      refine W_seq ?_
      refine W_block ?_
      refine W_region ?_
      refine Ops_p (p_move rfl) (lt_dec rfl) ?_
      refine Ops_p (p_move rfl) (lt_dec rfl) ?_
      refine Ops_p (p_move rfl) (lt_dec rfl) ?_
      refine Ops_p (p_move rfl) (lt_dec rfl) ?_
      refine Ops_q (q_ixR (i) rfl rfl rfl (Rds.rssO m1) rfl rfl (by rw [valsR_len]; first | omega | (dsimp only; omega)) rfl) (lt_dec rfl) ?_
      refine Ops_q (q_loadI (j := i) rfl rfl (Rds.rssO m1) rfl (by first | omega | assumption) rfl rfl) (lt_dec rfl) ?_
      refine Ops_x rfl (x_callT en_laws_toInt64S rfl (w_laws_toInt64S (hB i)) HpDels.nil (Vw.rdI (j := i) m1 (by omega) rfl) (fun _ => (HpDels.cons HpDel.head HpDels.nil)) (lt_dec rfl) fun x20_1 _ => ?_)
      refine Ops_q (q_ixR (i) rfl rfl rfl (Rds.ossO m1) rfl rfl (by rw [valsR_len]; simp [hD]; omega) rfl) (lt_dec rfl) ?_
      refine Ops_x rfl (x_setSS (i := i) rfl rfl rfl rfl rfl (by simp; omega) (HpDels.cons (HpDel.head).tail (HpDels.cons HpDel.head HpDels.nil)) (HpDels.cons HpDel.head HpDels.nil) ?_)
      refine Ops_nil ?_
      refine W_region ?_
      refine Ops_p (p_move rfl) (lt_dec rfl) ?_
      refine Ops_p (p_add rfl rfl (by exact ⟨(by first | omega | (dsimp only; omega)), (by first | omega | (dsimp only; omega))⟩)) (lt_dec rfl) ?_
      refine Ops_p (p_assign rfl) (lt_dec rfl) ?_
      refine Ops_nil ?_
      refine Exists.intro (i + 1, D ++ [(x20_1, (L.getD i sd).2)]) (And.intro ?_ (And.intro ?_ ?_))
      · exact ⟨by show _ ≤ _; omega, by simp [hD], cp_next hM (by omega) _⟩
      · show _ < _; omega
      · exact Wk.intro (.cons rfl (by first | rfl | exact veq_int (by first | omega | (dsimp only; omega))) (.cons rfl (by first | rfl | exact veq_int (by first | omega | (dsimp only; omega))) (.cons rfl (by first | rfl | exact veq_int (by first | omega | (dsimp only; omega))) (.cons rfl (by first | rfl | exact veq_int (by first | omega | (dsimp only; omega))) (.cons rfl (by first | rfl | exact veq_int (by first | omega | (dsimp only; omega))) (.cons rfl (by first | rfl | exact veq_int (by first | omega | (dsimp only; omega))) .nil)))))) (.keep (by rw [set_repl hD (by omega)]) rfl (oss_eq (by rw [set_repl hD (by omega)])) (.keep rfl rfl (fun _ h => h) .nil))
    · try simp only [bs] at h1
      obtain rfl : i = L.length := (by omega)
      refine W_exit ?_
      refine W_seq ?_
      refine W_region ?_
      refine Ops_p (p_move rfl) (lt_dec rfl) ?_
      refine Ops_p (p_assign rfl) (lt_dec rfl) ?_
      refine Ops_nil ?_
      refine W_ret ?_
      refine Exists.intro _ (And.intro (.cons (.tmp rfl) .nil) (Exists.intro (slv b7_1 L.length L.length, D) (And.intro ?_ (And.intro ?_ (And.intro (.cons HpDel.head (by rw [Nat.sub_self]; simp) (oss_eq (by rw [Nat.sub_self]; simp)) .nil) rfl)))))
      · exact cp_end hM rfl
      · rfl
end Go.Proofs.Ytdcpggdbjllmpab
