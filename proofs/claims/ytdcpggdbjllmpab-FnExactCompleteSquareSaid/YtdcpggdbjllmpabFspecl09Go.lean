/- What the Go function spec.l09Go does, shown of its loaded text; its conditions stand in the statement. -/
import Derived.Test.YtdcpggdbjllmpabTy
import Derived.Test.YtdcpggdbjllmpabFspecSquareOfLists
import Derived.Test.YtdcpggdbjllmpabFspecl09Candidate
import Derived.Test.YtdcpggdbjllmpabGx12
import Derived.Test.YtdcpggdbjllmpabGx20
import Derived.Test.YtdcpggdbjllmpabGx28
import Derived.Test.YtdcpggdbjllmpabM24
import Derived.Test.YtdcpggdbjllmpabM34
namespace Go.Proofs.Ytdcpggdbjllmpab
open Go Gx
set_option linter.unusedVariables false
theorem en_spec_l09Go : Enters Try.prog 56 := enters_of Try.func56 (by kernel_rfl) (by kernel_rfl)
set_option maxRecDepth 100000 in
set_option maxHeartbeats 4000000 in
theorem w_spec_l09Go_all {one : Bool} {bw : Nat} {v : Value} {hv : v.oneCell' = true} : ∀ (mm : Nat) (p : Nat) (M : SL) (t f : Nat) (sn : Int) (sq : Nat → Fin 256), (ParL M) → (p ≤ M.length * M.length) → (FillP M p) → (f ≤ t) → (t ≤ 20001) → M.length * M.length - p < mm → CT (X := Unit) Try.prog 56 (vals [.ptr bw 0 none, .int .i64 (p : Int), .bool one]) [.var bw (.agg [.raw v hv, .int .i64 (t : Int), .int .i64 (f : Int), .agg [.int .i64 sn, .arr8 100 sq]]), oss v 24 2 M] [] (fun x => True) (fun x => .tup []) (fun x => [.var bw (.agg [.raw v hv, .int .i64 ((goP one p M (t, f, sn, sq)).1 : Int), .int .i64 ((goP one p M (t, f, sn, sq)).2.1 : Int), .agg [.int .i64 (goP one p M (t, f, sn, sq)).2.2.1, .arr8 100 (goP one p M (t, f, sn, sq)).2.2.2]]), oss v 24 2 M]) := by
  intro mm
  induction mm with
  | zero => intro p M t f sn sq hP hp hFi hf ht hmm; exact absurd hmm (Nat.not_lt_zero _)
  | succ mm ih =>
  intro p M t f sn sq hP hp hFi hf ht hmm
  refine CT_intro (rs := []) tt tok Try.func56 rfl rfl rfl (by first | rfl | assumption) fun w => ?_
  show W _ _ _ ⟨tmOf 0 [.ptr bw 0 none, .int .i64 (p : Int), .bool one], [.var bw (.agg [.raw v hv, .int .i64 (t : Int), .int .i64 (f : Int), .agg [.int .i64 sn, .arr8 100 sq]]), oss v 24 2 M]⟩
  have hn := hP.1
  have hnn := nn_b hn.2
  have hln : ∀ i, i < M.length → (M.getD i sd).2.length = M.length := hP.2.1
  have hdm : ∀ q, q < M.length * M.length → q / M.length < M.length ∧ q % M.length < M.length := fun q h => div_mod_lt h
  have hlq : ∀ q, q < M.length * M.length → q % M.length < (M.getD (q / M.length) sd).2.length := fun q h => by rw [hln _ (hdm q h).1]; exact (hdm q h).2
  refine W_seq ?_
  refine W_region ?_
  refine Ops_p (p_move rfl) (lt_dec rfl) ?_
  refine Ops_p (p_nilCheck rfl) (lt_dec rfl) ?_
  refine Ops_p (p_fieldAddr rfl rfl rfl rfl rfl rfl) (lt_dec rfl) ?_
  refine Ops_q (q_load rfl rfl m0 rfl (by first | trivial | (first | omega | (dsimp only; omega)) | exact Fin.isLt _ | (dsimp only; omega))) (lt_dec rfl) ?_
  refine Ops_q (q_lenO rfl rfl rfl (Rds.ossO m1)) (lt_dec rfl) ?_
  refine Ops_p (p_assign rfl) (lt_dec rfl) ?_
  refine Ops_nil ?_
  refine W_cutE (fun E s' => ∃ q : Nat, ((p ≤ q ∧ q ≤ M.length * M.length) ∧ FillP M q ∧ (goP one p M (t, f, sn, sq)) = goP one q M (t, f, sn, sq) ∧ (q < M.length * M.length → at2 M (q / M.length) (q % M.length) < 0)) ∧ Wk E s' ⟨[(0, .ptr bw 0 none), (1, .int .i64 (q : Int)), (2, .bool one), (6, .int .i64 ((M.length : Nat) : Int))], [.var bw (.agg [.raw v hv, .int .i64 (t : Int), .int .i64 (f : Int), .agg [.int .i64 sn, .arr8 100 sq]]), oss v 24 2 M]⟩) ?_ ?_
  · refine W_block ?_
    refine W_loop (α := Nat) (fun q => ⟨[(0, .ptr bw 0 none), (1, .int .i64 (q : Int)), (2, .bool one), (6, .int .i64 ((M.length : Nat) : Int)), (11, .ptr bw 0 none), (12, .ptr bw 0 none), (14, .raw v hv), (15, .int .i64 ((M.length : Nat) : Int))], [.var bw (.agg [.raw v hv, .int .i64 (t : Int), .int .i64 (f : Int), .agg [.int .i64 sn, .arr8 100 sq]]), oss v 24 2 M]⟩) (fun q => (p ≤ q ∧ q ≤ M.length * M.length) ∧ FillP M q ∧ (goP one p M (t, f, sn, sq)) = goP one q M (t, f, sn, sq)) (fun q => M.length * M.length - q) p ?_ ?_ ?_
    · exact ⟨⟨Nat.le_refl _, hp⟩, hFi, rfl⟩
    · exact Wk.intro (.cons rfl (by first | rfl | exact veq_int (by first | omega | (dsimp only; omega))) (.cons rfl (by first | rfl | exact veq_int (by first | omega | (dsimp only; omega))) (.cons rfl (by first | rfl | exact veq_int (by first | omega | (dsimp only; omega))) (.cons rfl (by first | rfl | exact veq_int (by first | omega | (dsimp only; omega))) (.cons rfl (by first | rfl | exact veq_int (by first | omega | (dsimp only; omega))) (.cons rfl (by first | rfl | exact veq_int (by first | omega | (dsimp only; omega))) (.cons rfl (by first | rfl | exact veq_int (by first | omega | (dsimp only; omega))) (.cons rfl (by first | rfl | exact veq_int (by first | omega | (dsimp only; omega))) .nil)))))))) (.keep rfl rfl (fun _ h => h) (.keep rfl rfl (fun _ h => h) .nil))
    · rintro q ⟨⟨hq1, hq2⟩, hFq, hE⟩
      refine W_seq ?_
      refine W_seq ?_
      refine W_draw (by kernel_rfl) ?_
      show RA _ _ 22 _ _ _
      refine RA_quietF [0, 1, 2, 3, 4, 5, 6, 7, 8, 9, 10, 11, 12, 13, 14, 15, 16, 17, 18, 19, 20, 21] rfl rfl rfl (by kernel_rfl) (by kernel_rfl) ?_
      refine WQ_cons rfl rfl rfl ((p_move rfl).q) (lt_dec rfl) ?_
      refine WQ_cons rfl rfl rfl ((p_move rfl).q) (lt_dec rfl) ?_
      refine WQ_cons rfl rfl rfl ((p_move rfl).q) (lt_dec rfl) ?_
      refine WQ_cons rfl rfl rfl (((p_mul rfl rfl (nn_in hn.2)).eq veq_nn).q) (lt_dec rfl) ?_
      refine WQ_cons rfl rfl rfl ((p_lss rfl rfl).q) (lt_dec rfl) ?_
      refine WQ_cons rfl rfl rfl ((p_move rfl).q) (lt_dec rfl) ?_
      first | refine WQ_guard rfl rfl rfl (lt_dec rfl) (fun hg1 => ⟨_, (p_move rfl).q, ?_⟩) (fun hg1 => ?_)
      · try simp only [bs] at hg1
        first | refine WQ_guard rfl rfl rfl (lt_dec rfl) (fun _ => ⟨_, (p_nilCheck rfl).q, ?_⟩) (fun h => by cases h)
        first | refine WQ_guard rfl rfl rfl (lt_dec rfl) (fun _ => ⟨_, (p_fieldAddr rfl rfl rfl rfl rfl rfl).q, ?_⟩) (fun h => by cases h)
        first | refine WQ_guard rfl rfl rfl (lt_dec rfl) (fun _ => ⟨_, (q_load rfl rfl m0 rfl (by first | trivial | (first | omega | (dsimp only; omega)) | exact Fin.isLt _ | (dsimp only; omega))), ?_⟩) (fun h => by cases h)
        first | refine WQ_guard rfl rfl rfl (lt_dec rfl) (fun _ => ⟨_, (p_move rfl).q, ?_⟩) (fun h => by cases h)
        first | refine WQ_guard rfl rfl rfl (lt_dec rfl) (fun _ => ⟨_, (p_move rfl).q, ?_⟩) (fun h => by cases h)
        first | refine WQ_guard rfl rfl rfl (lt_dec rfl) (fun _ => ⟨_, ((p_quo rfl rfl (by omega) (by omega) (quo_in (by omega))).eq veq_quo).q, ?_⟩) (fun h => by cases h)
        first | refine WQ_guard rfl rfl rfl (lt_dec rfl) (fun _ => ⟨_, (q_ixR ((q / M.length)) rfl rfl rfl (Rds.ossO m1) rfl rfl (by rw [valsR_len]; exact (hdm q (by omega)).1) rfl), ?_⟩) (fun h => by cases h)
        first | refine WQ_guard rfl rfl rfl (lt_dec rfl) (fun _ => ⟨_, (q_loadI (j := (q / M.length)) rfl rfl (Rds.ossO m1) rfl (hdm q (by omega)).1 rfl rfl), ?_⟩) (fun h => by cases h)
        first | refine WQ_guard rfl rfl rfl (lt_dec rfl) (fun _ => ⟨_, (p_move rfl).q, ?_⟩) (fun h => by cases h)
        first | refine WQ_guard rfl rfl rfl (lt_dec rfl) (fun _ => ⟨_, (p_move rfl).q, ?_⟩) (fun h => by cases h)
        first | refine WQ_guard rfl rfl rfl (lt_dec rfl) (fun _ => ⟨_, ((p_rem rfl rfl (by omega) (by omega)).eq veq_rem).q, ?_⟩) (fun h => by cases h)
        first | refine WQ_guard rfl rfl rfl (lt_dec rfl) (fun _ => ⟨_, (q_ixR ((q % M.length)) rfl rfl rfl (Rds.ossI (j := (q / M.length)) m1 (hdm q (by omega)).1) rfl rfl (by show _ < List.length _; exact hlq q (by omega)) rfl), ?_⟩) (fun h => by cases h)
        first | refine WQ_guard rfl rfl rfl (lt_dec rfl) (fun _ => ⟨_, (q_loadR rfl rfl (Rds.ossI (j := (q / M.length)) m1 (hdm q (by omega)).1) rfl rfl (by exact hlq q (by omega)) rfl rfl rfl), ?_⟩) (fun h => by cases h)
        first | refine WQ_guard rfl rfl rfl (lt_dec rfl) (fun _ => ⟨_, (p_geq rfl rfl).q, ?_⟩) (fun h => by cases h)
        refine WQ_cons rfl rfl rfl ((p_pick_t rfl rfl).q) (lt_dec rfl) ?_
        refine WQ_nil ?_
        refine W_cond rfl (fun h1 => ?_) (fun h1 => ?_)
        · try simp only [bs] at h1
          refine W_skip ?_
          refine W_block ?_
          refine W_region ?_
          refine Ops_p (p_move rfl) (lt_dec rfl) ?_
          refine Ops_p (p_add rfl rfl (by exact ⟨(by first | omega | (dsimp only; omega)), (by first | omega | (dsimp only; omega))⟩)) (lt_dec rfl) ?_
          refine Ops_p (p_assign rfl) (lt_dec rfl) ?_
          refine Ops_nil ?_
          refine Exists.intro (q + 1) (And.intro ?_ (And.intro ?_ ?_))
          · exact ⟨⟨by omega, by omega⟩, hFq.step (by unfold at2; omega), hE.trans (goP_fill (by omega) (by unfold at2; omega))⟩
          · show _ < _; omega
          · exact Wk.intro (.cons rfl (by first | rfl | exact veq_int (by first | omega | (dsimp only; omega))) (.cons rfl (by first | rfl | exact veq_int (by first | omega | (dsimp only; omega))) (.cons rfl (by first | rfl | exact veq_int (by first | omega | (dsimp only; omega))) (.cons rfl (by first | rfl | exact veq_int (by first | omega | (dsimp only; omega))) (.cons rfl (by first | rfl | exact veq_int (by first | omega | (dsimp only; omega))) (.cons rfl (by first | rfl | exact veq_int (by first | omega | (dsimp only; omega))) (.cons rfl (by first | rfl | exact veq_int (by first | omega | (dsimp only; omega))) (.cons rfl (by first | rfl | exact veq_int (by first | omega | (dsimp only; omega))) .nil)))))))) (.keep rfl rfl (fun _ h => h) (.keep rfl rfl (fun _ h => h) .nil))
        · try simp only [bs] at h1
          refine W_exit ?_
          refine ⟨q, ?_, ?_⟩
          · first | exact ⟨⟨by omega, by omega⟩, hFq, hE, fun _ => by unfold at2; omega⟩ | exact ⟨⟨by omega, by omega⟩, hFq, hE, fun h => by omega⟩
          · exact Wk.intro (.cons rfl (by first | rfl | exact veq_int (by first | omega | (dsimp only; omega))) (.cons rfl (by first | rfl | exact veq_int (by first | omega | (dsimp only; omega))) (.cons rfl (by first | rfl | exact veq_int (by first | omega | (dsimp only; omega))) (.cons rfl (by first | rfl | exact veq_int (by first | omega | (dsimp only; omega))) .nil)))) (.keep rfl rfl (fun _ h => h) (.keep rfl rfl (fun _ h => h) .nil))
      · try simp only [bs] at hg1
        refine WQ_guard rfl rfl rfl (lt_dec rfl) (fun h => by cases h) (fun _ => ?_)
        refine WQ_guard rfl rfl rfl (lt_dec rfl) (fun h => by cases h) (fun _ => ?_)
        refine WQ_guard rfl rfl rfl (lt_dec rfl) (fun h => by cases h) (fun _ => ?_)
        refine WQ_guard rfl rfl rfl (lt_dec rfl) (fun h => by cases h) (fun _ => ?_)
        refine WQ_guard rfl rfl rfl (lt_dec rfl) (fun h => by cases h) (fun _ => ?_)
        refine WQ_guard rfl rfl rfl (lt_dec rfl) (fun h => by cases h) (fun _ => ?_)
        refine WQ_guard rfl rfl rfl (lt_dec rfl) (fun h => by cases h) (fun _ => ?_)
        refine WQ_guard rfl rfl rfl (lt_dec rfl) (fun h => by cases h) (fun _ => ?_)
        refine WQ_guard rfl rfl rfl (lt_dec rfl) (fun h => by cases h) (fun _ => ?_)
        refine WQ_guard rfl rfl rfl (lt_dec rfl) (fun h => by cases h) (fun _ => ?_)
        refine WQ_guard rfl rfl rfl (lt_dec rfl) (fun h => by cases h) (fun _ => ?_)
        refine WQ_guard rfl rfl rfl (lt_dec rfl) (fun h => by cases h) (fun _ => ?_)
        refine WQ_guard rfl rfl rfl (lt_dec rfl) (fun h => by cases h) (fun _ => ?_)
        refine WQ_guard rfl rfl rfl (lt_dec rfl) (fun h => by cases h) (fun _ => ?_)
        refine WQ_cons rfl rfl rfl ((p_pick_f rfl rfl).q) (lt_dec rfl) ?_
        refine WQ_nil ?_
        refine W_false rfl ?_
        refine W_exit ?_
        refine ⟨q, ?_, ?_⟩
        · first | exact ⟨⟨by omega, by omega⟩, hFq, hE, fun _ => by unfold at2; omega⟩ | exact ⟨⟨by omega, by omega⟩, hFq, hE, fun h => by omega⟩
        · exact Wk.intro (.cons rfl (by first | rfl | exact veq_int (by first | omega | (dsimp only; omega))) (.cons rfl (by first | rfl | exact veq_int (by first | omega | (dsimp only; omega))) (.cons rfl (by first | rfl | exact veq_int (by first | omega | (dsimp only; omega))) (.cons rfl (by first | rfl | exact veq_int (by first | omega | (dsimp only; omega))) .nil)))) (.keep rfl rfl (fun _ h => h) (.keep rfl rfl (fun _ h => h) .nil))
  · rintro s' ⟨q, ⟨⟨hq1, hq2⟩, hFq, hE, hemp⟩, hw⟩
    refine W_wk hw ?_
    clear hw s'
    refine W_seq ?_
    refine W_seq ?_
    refine W_region ?_
    refine Ops_p (p_move rfl) (lt_dec rfl) ?_
    refine Ops_p (p_move rfl) (lt_dec rfl) ?_
    refine Ops_p (p_move rfl) (lt_dec rfl) ?_
    refine Ops_p ((p_mul rfl rfl (nn_in hn.2)).eq veq_nn) (lt_dec rfl) ?_
    refine Ops_p (p_eql rfl rfl) (lt_dec rfl) ?_
    refine Ops_nil ?_
    refine W_cond rfl (fun h2 => ?_) (fun h2 => ?_)
    · try simp only [bs] at h2
      refine W_seq ?_
      obtain rfl : q = M.length * M.length := (by omega)
      have hG : (goP one p M (t, f, sn, sq)) = (t, f + 1, if f = 0 then (((M.length : Nat) : Int), cT M) else (sn, sq)) := hE.trans (goP_leaf (Nat.le_refl _))
      refine W_region ?_
      refine Ops_p (p_move rfl) (lt_dec rfl) ?_
      refine Ops_p (p_nilCheck rfl) (lt_dec rfl) ?_
      refine Ops_p (p_fieldAddr rfl rfl rfl rfl rfl rfl) (lt_dec rfl) ?_
      refine Ops_q (q_load rfl rfl m0 rfl (by first | trivial | (first | omega | (dsimp only; omega)) | exact Fin.isLt _ | (dsimp only; omega))) (lt_dec rfl) ?_
      refine Ops_p (p_add rfl rfl (by exact ⟨(by first | omega | (dsimp only; omega)), (by first | omega | (dsimp only; omega))⟩)) (lt_dec rfl) ?_
      refine Ops_p (p_nilCheck rfl) (lt_dec rfl) ?_
      refine Ops_p (p_fieldAddr rfl rfl rfl rfl rfl rfl) (lt_dec rfl) ?_
      refine Ops_x rfl (x_store rfl rfl rfl rfl rfl HpRep.head rfl (by first | trivial | (first | (first | omega | (dsimp only; omega)) | exact Fin.isLt _)) ?_)
      refine Ops_nil ?_
      refine W_seq ?_
      refine W_seq ?_
      refine W_region ?_
      refine Ops_p (p_move rfl) (lt_dec rfl) ?_
      refine Ops_p (p_nilCheck rfl) (lt_dec rfl) ?_
      refine Ops_p (p_fieldAddr rfl rfl rfl rfl rfl rfl) (lt_dec rfl) ?_
      refine Ops_q (q_load rfl rfl m0 rfl (by first | trivial | (first | omega | (dsimp only; omega)) | exact Fin.isLt _ | (dsimp only; omega))) (lt_dec rfl) ?_
      refine Ops_p (p_eql rfl rfl) (lt_dec rfl) ?_
      refine Ops_nil ?_
      refine W_cond rfl (fun h3 => ?_) (fun h3 => ?_)
      · try simp only [bs] at h3
        have hf0 : f = 0 := (by omega)
        refine W_seq ?_
        refine W_region ?_
        refine Ops_p (p_move rfl) (lt_dec rfl) ?_
        refine Ops_p (p_nilCheck rfl) (lt_dec rfl) ?_
        refine Ops_p (p_fieldAddr rfl rfl rfl rfl rfl rfl) (lt_dec rfl) ?_
        refine Ops_q (q_load rfl rfl m0 rfl (by first | trivial | (first | omega | (dsimp only; omega)) | exact Fin.isLt _ | (dsimp only; omega))) (lt_dec rfl) ?_
        refine Ops_q (q_call en_spec_SquareOfLists rfl (w_spec_SquareOfLists hP hFq.full) (Vw.rssO m1).v) (lt_dec rfl) ?_
        refine Ops_p (p_move rfl) (lt_dec rfl) ?_
        refine Ops_p (p_extract rfl rfl) (lt_dec rfl) ?_
        refine Ops_p (p_extract rfl rfl) (lt_dec rfl) ?_
        refine Ops_x rfl (x_alloc rfl (lt_dec rfl) fun b7_1 => ?_)
        refine Ops_x rfl (x_store rfl rfl rfl rfl rfl HpRep.head rfl (by first | trivial | (first | (first | omega | (dsimp only; omega)) | exact Fin.isLt _)) ?_)
        refine Ops_p (p_assign rfl) (lt_dec rfl) ?_
        refine Ops_nil ?_
        refine W_region ?_
        refine Ops_p (p_move rfl) (lt_dec rfl) ?_
        refine Ops_q (q_load rfl rfl m0 rfl (by first | trivial | (first | omega | (dsimp only; omega)) | exact Fin.isLt _ | (dsimp only; omega))) (lt_dec rfl) ?_
        refine Ops_p (p_nilCheck rfl) (lt_dec rfl) ?_
        refine Ops_p (p_fieldAddr rfl rfl rfl rfl rfl rfl) (lt_dec rfl) ?_
        refine Ops_x rfl (x_store rfl rfl rfl rfl rfl ((HpRep.head).tail) rfl (by first | trivial | (first | (first | omega | (dsimp only; omega)) | exact Fin.isLt _)) ?_)
        refine Ops_nil ?_
        refine W_ret ?_
        refine Exists.intro _ (And.intro (.nil) (Exists.intro () (And.intro ?_ (And.intro ?_ (And.intro (.cons (HpDel.head).tail rfl (imp_var (by rw [hG, if_pos hf0]; rfl) rfl) (.cons (HpDel.head).tail rfl (fun _ h => h) .nil)) rfl)))))
        · trivial
        · rfl
      · try simp only [bs] at h3
        have hf0 : ¬ f = 0 := (by omega)
        refine W_skip ?_
        refine W_ret ?_
        refine Exists.intro _ (And.intro (.nil) (Exists.intro () (And.intro ?_ (And.intro ?_ (And.intro (.cons HpDel.head rfl (imp_var (by rw [hG, if_neg hf0]; rfl) rfl) (.cons HpDel.head rfl (fun _ h => h) .nil)) rfl)))))
        · trivial
        · rfl
    · try simp only [bs] at h2
      refine W_skip ?_
      refine W_seq ?_
      have hql : q < M.length * M.length := (by omega)
      have hem := hemp hql
      have hd1 := (hdm q hql).1
      have hd2 := (hdm q hql).2
      have hlq1 := hlq q hql
      refine W_draw (by kernel_rfl) ?_
      show RA _ _ 10 _ _ _
      refine RA_quietF [0, 1, 2, 3, 4, 5, 6, 7, 8, 9] rfl rfl rfl (by kernel_rfl) (by kernel_rfl) ?_
      refine WQ_cons rfl rfl rfl ((p_move rfl).q) (lt_dec rfl) ?_
      refine WQ_cons rfl rfl rfl ((p_nilCheck rfl).q) (lt_dec rfl) ?_
      refine WQ_cons rfl rfl rfl ((p_fieldAddr rfl rfl rfl rfl rfl rfl).q) (lt_dec rfl) ?_
      refine WQ_cons rfl rfl rfl ((q_load rfl rfl m0 rfl (by first | trivial | (first | omega | (dsimp only; omega)) | exact Fin.isLt _ | (dsimp only; omega)))) (lt_dec rfl) ?_
      refine WQ_cons rfl rfl rfl ((p_move rfl).q) (lt_dec rfl) ?_
      refine WQ_cons rfl rfl rfl ((p_move rfl).q) (lt_dec rfl) ?_
      refine WQ_cons rfl rfl rfl (((p_quo rfl rfl (by omega) (by omega) (quo_in (by omega))).eq veq_quo).q) (lt_dec rfl) ?_
      refine WQ_cons rfl rfl rfl ((q_ixR ((q / M.length)) rfl rfl rfl (Rds.ossO m1) rfl rfl (by rw [valsR_len]; exact (hdm q (by omega)).1) rfl)) (lt_dec rfl) ?_
      refine WQ_cons rfl rfl rfl ((q_loadI (j := (q / M.length)) rfl rfl (Rds.ossO m1) rfl (by first | omega | assumption) rfl rfl)) (lt_dec rfl) ?_
      refine WQ_cons rfl rfl rfl ((p_assign rfl).q) (lt_dec rfl) ?_
      refine WQ_nil ?_
      refine W_seq ?_
      refine W_region ?_
      refine Ops_p (p_assign rfl) (lt_dec rfl) ?_
      refine Ops_nil ?_
      refine W_block ?_
      refine W_loop (α := Nat × Nat × Nat × Int × (Nat → Fin 256)) (fun zz1 => ⟨[(0, .ptr bw 0 none), (1, .int .i64 (q : Int)), (2, .bool one), (6, .int .i64 ((M.length : Nat) : Int)), (9, .raw (M.getD (q / M.length) sd).1.1 (M.getD (q / M.length) sd).1.2), (10, .int .i64 ((zz1.1) : Int))], [.var bw (.agg [.raw v hv, .int .i64 ((zz1.2.1) : Int), .int .i64 ((zz1.2.2.1) : Int), .agg [.int .i64 (zz1.2.2.2.1), .arr8 100 (zz1.2.2.2.2)]]), oss v 24 2 M]⟩) (fun zz1 => (zz1.1) ≤ M.length ∧ goF one q M (t, f, sn, sq) (zz1.1) = ((zz1.2.1), (zz1.2.2.1), (zz1.2.2.2.1), (zz1.2.2.2.2)) ∧ (zz1.2.2.1) ≤ (zz1.2.1) ∧ (zz1.2.1) ≤ 20001) (fun zz1 => M.length - (zz1.1)) (0, t, f, sn, sq) ?_ ?_ ?_
      · exact ⟨Nat.zero_le _, rfl, hf, ht⟩
      · exact Wk.intro (.cons rfl (by first | rfl | exact veq_int (by first | omega | (dsimp only; omega))) (.cons rfl (by first | rfl | exact veq_int (by first | omega | (dsimp only; omega))) (.cons rfl (by first | rfl | exact veq_int (by first | omega | (dsimp only; omega))) (.cons rfl (by first | rfl | exact veq_int (by first | omega | (dsimp only; omega))) (.cons rfl (by first | rfl | exact veq_int (by first | omega | (dsimp only; omega))) (.cons rfl (by first | rfl | exact veq_int (by first | omega | (dsimp only; omega))) .nil)))))) (.keep rfl rfl (imp_var rfl rfl) (.keep rfl rfl (fun _ h => h) .nil))
      · rintro ⟨u, t2, f2, sn2, sq2⟩ ⟨hu, hGF, hf2, ht2⟩
        try dsimp only at *
        refine W_seq ?_
        refine W_seq ?_
        refine W_region ?_
        refine Ops_p (p_move rfl) (lt_dec rfl) ?_
        refine Ops_p (p_move rfl) (lt_dec rfl) ?_
        refine Ops_p (p_lss rfl rfl) (lt_dec rfl) ?_
        refine Ops_nil ?_
        refine W_cond rfl (fun h4 => ?_) (fun h4 => ?_)
        · try simp only [bs] at h4
          refine W_skip ?_
          refine W_seq ?_
          refine W_block ?_
          refine W_cutE (fun E s' => (stopB one (t2, f2, sn2, sq2) = false) ∧ Wk E s' ⟨[(0, .ptr bw 0 none), (1, .int .i64 (q : Int)), (2, .bool one), (6, .int .i64 ((M.length : Nat) : Int)), (9, .raw (M.getD (q / M.length) sd).1.1 (M.getD (q / M.length) sd).1.2), (10, .int .i64 (u : Int))], [.var bw (.agg [.raw v hv, .int .i64 (t2 : Int), .int .i64 (f2 : Int), .agg [.int .i64 sn2, .arr8 100 sq2]]), oss v 24 2 M]⟩) ?_ ?_
          · refine W_seq ?_
            refine W_region ?_
            refine Ops_p (p_move rfl) (lt_dec rfl) ?_
            refine Ops_p (p_nilCheck rfl) (lt_dec rfl) ?_
            refine Ops_p (p_fieldAddr rfl rfl rfl rfl rfl rfl) (lt_dec rfl) ?_
            refine Ops_q (q_load rfl rfl m0 rfl (by first | trivial | (first | omega | (dsimp only; omega)) | exact Fin.isLt _ | (dsimp only; omega))) (lt_dec rfl) ?_
            refine Ops_p (p_gtr rfl rfl) (lt_dec rfl) ?_
            refine Ops_p (p_move rfl) (lt_dec rfl) ?_
            refine Ops_guard rfl rfl (lt_dec rfl) (fun hg30 => ?_) (fun hg30 => ?_)
            · try simp only [bs] at hg30
              refine Ops_p (p_move rfl) (lt_dec rfl) ?_
              refine Ops_guard_t rfl rfl (lt_dec rfl) ?_
              refine Ops_p (p_move rfl) (lt_dec rfl) ?_
              refine Ops_guard rfl rfl (lt_dec rfl) (fun hg31 => ?_) (fun hg31 => ?_)
              · try simp only [bs] at hg31
                refine Ops_p (p_move rfl) (lt_dec rfl) ?_
                refine Ops_guard_t rfl rfl (lt_dec rfl) ?_
                refine Ops_p (p_nilCheck rfl) (lt_dec rfl) ?_
                refine Ops_guard_t rfl rfl (lt_dec rfl) ?_
                refine Ops_p (p_fieldAddr rfl rfl rfl rfl rfl rfl) (lt_dec rfl) ?_
                refine Ops_guard_t rfl rfl (lt_dec rfl) ?_
                refine Ops_q (q_load rfl rfl m0 rfl (by first | trivial | (first | omega | (dsimp only; omega)) | exact Fin.isLt _ | (dsimp only; omega))) (lt_dec rfl) ?_
                refine Ops_guard_t rfl rfl (lt_dec rfl) ?_
                refine Ops_p (p_gtr rfl rfl) (lt_dec rfl) ?_
                refine Ops_guard_t rfl rfl (lt_dec rfl) ?_
                refine Ops_p (p_move rfl) (lt_dec rfl) ?_
                refine Ops_guard rfl rfl (lt_dec rfl) (fun hg32 => ?_) (fun hg32 => ?_)
                · try simp only [bs] at hg32
                  refine Ops_p (p_move rfl) (lt_dec rfl) ?_
                  refine Ops_guard_t rfl rfl (lt_dec rfl) ?_
                  refine Ops_p (p_nilCheck rfl) (lt_dec rfl) ?_
                  refine Ops_guard_t rfl rfl (lt_dec rfl) ?_
                  refine Ops_p (p_fieldAddr rfl rfl rfl rfl rfl rfl) (lt_dec rfl) ?_
                  refine Ops_guard_t rfl rfl (lt_dec rfl) ?_
                  refine Ops_q (q_load rfl rfl m0 rfl (by first | trivial | (first | omega | (dsimp only; omega)) | exact Fin.isLt _ | (dsimp only; omega))) (lt_dec rfl) ?_
                  refine Ops_guard_t rfl rfl (lt_dec rfl) ?_
                  refine Ops_p (p_eql rfl rfl) (lt_dec rfl) ?_
                  refine Ops_guard_t rfl rfl (lt_dec rfl) ?_
                  refine Ops_p (p_pick_f rfl rfl) (lt_dec rfl) ?_
                  refine Ops_guard_t rfl rfl (lt_dec rfl) ?_
                  refine Ops_p (p_pick_t rfl rfl) (lt_dec rfl) ?_
                  refine Ops_p (p_pick_f rfl rfl) (lt_dec rfl) ?_
                  refine Ops_nil ?_
                  refine W_cond rfl (fun h5 => ?_) (fun h5 => ?_)
                  · try simp only [bs] at h5
                    refine W_ret ?_
                    refine Exists.intro _ (And.intro (.nil) (Exists.intro () (And.intro ?_ (And.intro ?_ (And.intro (.cons HpDel.head rfl (imp_var (by first | rw [hE, goP_emp hql hem, hGF] | rw [hE, goP_emp hql hem, goF_end hu (by rw [hGF]; exact stopB_t (by first | exact .inl (by omega) | exact .inr ⟨by assumption, .inl (by omega)⟩ | exact .inr ⟨by assumption, .inr (by omega)⟩)), hGF]) rfl) (.cons HpDel.head rfl (fun _ h => h) .nil)) rfl)))))
                    · trivial
                    · rfl
                  · try simp only [bs] at h5
                    refine W_skip ?_
                    refine ⟨?_, ?_⟩
                    · exact stopB_f (by omega) (by first | (intro h9; exact ⟨by omega, by omega⟩) | (intro h9; simp_all))
                    · exact Wk.intro (.cons rfl (by first | rfl | exact veq_int (by first | omega | (dsimp only; omega))) (.cons rfl (by first | rfl | exact veq_int (by first | omega | (dsimp only; omega))) (.cons rfl (by first | rfl | exact veq_int (by first | omega | (dsimp only; omega))) (.cons rfl (by first | rfl | exact veq_int (by first | omega | (dsimp only; omega))) (.cons rfl (by first | rfl | exact veq_int (by first | omega | (dsimp only; omega))) (.cons rfl (by first | rfl | exact veq_int (by first | omega | (dsimp only; omega))) .nil)))))) (.keep rfl rfl (fun _ h => h) (.keep rfl rfl (fun _ h => h) .nil))
                · try simp only [bs] at hg32
                  refine Ops_guard_f rfl rfl rfl (lt_dec rfl) ?_
                  refine Ops_guard_f rfl rfl rfl (lt_dec rfl) ?_
                  refine Ops_guard_f rfl rfl rfl (lt_dec rfl) ?_
                  refine Ops_guard_f rfl rfl rfl (lt_dec rfl) ?_
                  refine Ops_guard_t rfl rfl (lt_dec rfl) ?_
                  refine Ops_p (p_pick_t rfl rfl) (lt_dec rfl) ?_
                  refine Ops_guard_t rfl rfl (lt_dec rfl) ?_
                  refine Ops_p (p_pick_t rfl rfl) (lt_dec rfl) ?_
                  refine Ops_p (p_pick_f rfl rfl) (lt_dec rfl) ?_
                  refine Ops_nil ?_
                  refine W_true rfl ?_
                  refine W_ret ?_
                  refine Exists.intro _ (And.intro (.nil) (Exists.intro () (And.intro ?_ (And.intro ?_ (And.intro (.cons HpDel.head rfl (imp_var (by first | rw [hE, goP_emp hql hem, hGF] | rw [hE, goP_emp hql hem, goF_end hu (by rw [hGF]; exact stopB_t (by first | exact .inl (by omega) | exact .inr ⟨by assumption, .inl (by omega)⟩ | exact .inr ⟨by assumption, .inr (by omega)⟩)), hGF]) rfl) (.cons HpDel.head rfl (fun _ h => h) .nil)) rfl)))))
                  · trivial
                  · rfl
              · try simp only [bs] at hg31
                refine Ops_guard_f rfl rfl rfl (lt_dec rfl) ?_
                refine Ops_guard_f rfl rfl rfl (lt_dec rfl) ?_
                refine Ops_guard_f rfl rfl rfl (lt_dec rfl) ?_
                refine Ops_guard_f rfl rfl rfl (lt_dec rfl) ?_
                refine Ops_guard_f rfl rfl rfl (lt_dec rfl) ?_
                refine Ops_guard_u rfl rfl (lt_dec rfl) ?_
                refine Ops_guard_u rfl rfl (lt_dec rfl) ?_
                refine Ops_guard_u rfl rfl (lt_dec rfl) ?_
                refine Ops_guard_u rfl rfl (lt_dec rfl) ?_
                refine Ops_guard_u rfl rfl (lt_dec rfl) ?_
                refine Ops_guard_f rfl rfl rfl (lt_dec rfl) ?_
                refine Ops_guard_t rfl rfl (lt_dec rfl) ?_
                refine Ops_p (p_pick_f rfl rfl) (lt_dec rfl) ?_
                refine Ops_p (p_pick_f rfl rfl) (lt_dec rfl) ?_
                refine Ops_nil ?_
                refine W_false rfl ?_
                refine W_skip ?_
                refine ⟨?_, ?_⟩
                · exact stopB_f (by omega) (by first | (intro h9; exact ⟨by omega, by omega⟩) | (intro h9; simp_all))
                · exact Wk.intro (.cons rfl (by first | rfl | exact veq_int (by first | omega | (dsimp only; omega))) (.cons rfl (by first | rfl | exact veq_int (by first | omega | (dsimp only; omega))) (.cons rfl (by first | rfl | exact veq_int (by first | omega | (dsimp only; omega))) (.cons rfl (by first | rfl | exact veq_int (by first | omega | (dsimp only; omega))) (.cons rfl (by first | rfl | exact veq_int (by first | omega | (dsimp only; omega))) (.cons rfl (by first | rfl | exact veq_int (by first | omega | (dsimp only; omega))) .nil)))))) (.keep rfl rfl (fun _ h => h) (.keep rfl rfl (fun _ h => h) .nil))
            · try simp only [bs] at hg30
              refine Ops_guard_f rfl rfl rfl (lt_dec rfl) ?_
              refine Ops_guard_u rfl rfl (lt_dec rfl) ?_
              refine Ops_guard_u rfl rfl (lt_dec rfl) ?_
              refine Ops_guard_u rfl rfl (lt_dec rfl) ?_
              refine Ops_guard_u rfl rfl (lt_dec rfl) ?_
              refine Ops_guard_u rfl rfl (lt_dec rfl) ?_
              refine Ops_guard_u rfl rfl (lt_dec rfl) ?_
              refine Ops_guard_u rfl rfl (lt_dec rfl) ?_
              refine Ops_guard_u rfl rfl (lt_dec rfl) ?_
              refine Ops_guard_u rfl rfl (lt_dec rfl) ?_
              refine Ops_guard_u rfl rfl (lt_dec rfl) ?_
              refine Ops_guard_u rfl rfl (lt_dec rfl) ?_
              refine Ops_guard_u rfl rfl (lt_dec rfl) ?_
              refine Ops_guard_f rfl rfl rfl (lt_dec rfl) ?_
              refine Ops_p (p_pick_t rfl rfl) (lt_dec rfl) ?_
              refine Ops_nil ?_
              refine W_true rfl ?_
              refine W_ret ?_
              refine Exists.intro _ (And.intro (.nil) (Exists.intro () (And.intro ?_ (And.intro ?_ (And.intro (.cons HpDel.head rfl (imp_var (by first | rw [hE, goP_emp hql hem, hGF] | rw [hE, goP_emp hql hem, goF_end hu (by rw [hGF]; exact stopB_t (by first | exact .inl (by omega) | exact .inr ⟨by assumption, .inl (by omega)⟩ | exact .inr ⟨by assumption, .inr (by omega)⟩)), hGF]) rfl) (.cons HpDel.head rfl (fun _ h => h) .nil)) rfl)))))
              · trivial
              · rfl
          · rintro s' ⟨hst, hw⟩
            refine W_wk hw ?_
            clear hw s'
            refine W_seq ?_
            refine W_seq ?_
            refine W_draw (by kernel_rfl) ?_
            show RA _ _ 13 _ _ _
            refine RA_quietF [0, 1, 2, 3, 4, 5, 6, 7, 8, 9, 10, 11, 12] rfl rfl rfl (by kernel_rfl) (by kernel_rfl) ?_
            refine WQ_cons rfl rfl rfl ((p_move rfl).q) (lt_dec rfl) ?_
            refine WQ_cons rfl rfl rfl ((p_nilCheck rfl).q) (lt_dec rfl) ?_
            refine WQ_cons rfl rfl rfl ((p_fieldAddr rfl rfl rfl rfl rfl rfl).q) (lt_dec rfl) ?_
            refine WQ_cons rfl rfl rfl ((q_load rfl rfl m0 rfl (by first | trivial | (first | omega | (dsimp only; omega)) | exact Fin.isLt _ | (dsimp only; omega)))) (lt_dec rfl) ?_
            refine WQ_cons rfl rfl rfl ((p_move rfl).q) (lt_dec rfl) ?_
            refine WQ_cons rfl rfl rfl ((p_move rfl).q) (lt_dec rfl) ?_
            refine WQ_cons rfl rfl rfl (((p_quo rfl rfl (by omega) (by omega) (quo_in (by omega))).eq veq_quo).q) (lt_dec rfl) ?_
            refine WQ_cons rfl rfl rfl ((p_move rfl).q) (lt_dec rfl) ?_
            refine WQ_cons rfl rfl rfl ((p_move rfl).q) (lt_dec rfl) ?_
            refine WQ_cons rfl rfl rfl (((p_rem rfl rfl (by omega) (by omega)).eq veq_rem).q) (lt_dec rfl) ?_
            refine WQ_cons rfl rfl rfl ((p_move rfl).q) (lt_dec rfl) ?_
            refine WQ_cons rfl rfl rfl ((q_call en_spec_l09Candidate rfl (w_spec_l09Candidate (a := v) (ha := hv) (L := M) (i := q / M.length) (j := q % M.length) (v := u) hn.2 hd1 hd2 hln) (Vw.rssO m1).v)) (lt_dec rfl) ?_
            refine WQ_cons rfl rfl rfl ((p_not rfl).q) (lt_dec rfl) ?_
            refine WQ_nil ?_
            refine W_cond rfl (fun h6 => ?_) (fun h6 => ?_)
            · try simp only [bs] at h6
              have hcd := h6
              refine W_exit ?_
              refine W_region ?_
              refine Ops_p (p_move rfl) (lt_dec rfl) ?_
              refine Ops_p (p_add rfl rfl (by exact ⟨(by first | omega | (dsimp only; omega)), (by first | omega | (dsimp only; omega))⟩)) (lt_dec rfl) ?_
              refine Ops_p (p_assign rfl) (lt_dec rfl) ?_
              refine Ops_nil ?_
              refine Exists.intro (u + 1, t2, f2, sn2, sq2) (And.intro ?_ (And.intro ?_ ?_))
              · first | exact ⟨by show _ ≤ _; omega, (goF_no (by rw [hGF]; exact hst) hcd).trans hGF, hf2, ht2⟩ | exact ⟨by show _ ≤ _; omega, (goF_yes (by rw [hGF]; exact hst) hcd).trans (by rw [hGF]), goP_ft (by show f2 + 1 ≤ t2 + 1; omega), goP_le (by show t2 + 1 ≤ 20001; simp [stopB] at hst; omega)⟩
              · show _ < _; omega
              · exact Wk.intro (.cons rfl (by first | rfl | exact veq_int (by first | omega | (dsimp only; omega))) (.cons rfl (by first | rfl | exact veq_int (by first | omega | (dsimp only; omega))) (.cons rfl (by first | rfl | exact veq_int (by first | omega | (dsimp only; omega))) (.cons rfl (by first | rfl | exact veq_int (by first | omega | (dsimp only; omega))) (.cons rfl (by first | rfl | exact veq_int (by first | omega | (dsimp only; omega))) (.cons rfl (by first | rfl | exact veq_int (by first | omega | (dsimp only; omega))) .nil)))))) (.keep rfl rfl (imp_var rfl rfl) (.keep rfl rfl (fun _ h => h) .nil))
            · try simp only [bs] at h6
              have hcd := h6
              refine W_skip ?_
              refine W_seq ?_
              refine W_region ?_
              refine Ops_p (p_move rfl) (lt_dec rfl) ?_
              refine Ops_p (p_nilCheck rfl) (lt_dec rfl) ?_
              refine Ops_p (p_fieldAddr rfl rfl rfl rfl rfl rfl) (lt_dec rfl) ?_
              refine Ops_q (q_load rfl rfl m0 rfl (by first | trivial | (first | omega | (dsimp only; omega)) | exact Fin.isLt _ | (dsimp only; omega))) (lt_dec rfl) ?_
              refine Ops_p (p_add rfl rfl (by exact ⟨(by first | omega | (dsimp only; omega)), (by first | omega | (dsimp only; omega))⟩)) (lt_dec rfl) ?_
              refine Ops_p (p_nilCheck rfl) (lt_dec rfl) ?_
              refine Ops_p (p_fieldAddr rfl rfl rfl rfl rfl rfl) (lt_dec rfl) ?_
              refine Ops_x rfl (x_store rfl rfl rfl rfl rfl HpRep.head rfl (by first | trivial | (first | (first | omega | (dsimp only; omega)) | exact Fin.isLt _)) ?_)
              refine Ops_nil ?_
              refine W_seq ?_
              have hcp := candB_p hcd
              have hul : u < M.length := (by omega)
              have hP2 := set_par hP hd1 hd2 hem hul hcp
              have hF2 := FillP.set (v := u) hP hql hFq
              have hsl : (setS M (q / M.length) (q % M.length) (u : Int)).length = M.length := setS_len
              refine W_region ?_
              refine Ops_p (p_move rfl) (lt_dec rfl) ?_
              refine Ops_p (p_move rfl) (lt_dec rfl) ?_
              refine Ops_p (p_move rfl) (lt_dec rfl) ?_
              refine Ops_p ((p_rem rfl rfl (by omega) (by omega)).eq veq_rem) (lt_dec rfl) ?_
              refine Ops_p (p_move rfl) (lt_dec rfl) ?_
              refine Ops_q (q_ixR ((q % M.length)) rfl rfl rfl (Rds.ossI (j := (q / M.length)) m1 hd1) rfl rfl (by show _ < List.length _; exact hlq1) rfl) (lt_dec rfl) ?_
              refine Ops_x rfl (x_storeSS (l := M) (i := (q / M.length)) (j := (q % M.length)) rfl rfl rfl rfl ((HpRep.head).tail) hd1 rfl hlq1 ?_)
              refine Ops_nil ?_
              refine W_seq ?_
              refine W_region ?_
              refine Ops_p (p_move rfl) (lt_dec rfl) ?_
              refine Ops_p (p_move rfl) (lt_dec rfl) ?_
              refine Ops_p (p_add rfl rfl (by exact ⟨(by first | omega | (dsimp only; omega)), (by first | omega | (dsimp only; omega))⟩)) (lt_dec rfl) ?_
              refine Ops_p (p_move rfl) (lt_dec rfl) ?_
              refine Ops_x rfl (x_callT en_spec_l09Go rfl ((ih (q + 1) (setS M (q / M.length) (q % M.length) (u : Int)) (t2 + 1) f2 sn2 sq2 hP2 (by rw [hsl]; omega) hF2 (by omega) (by simp [stopB] at hst; omega) (by rw [hsl]; omega))) (HpDels.cons HpDel.head (HpDels.cons HpDel.head HpDels.nil)) (Vw.none _) (fun _ => (HpDels.cons HpDel.head (HpDels.cons HpDel.head HpDels.nil))) (lt_dec rfl) fun _ _ => ?_)
              refine Ops_nil ?_
              have hres := setS_back (v := (u : Int)) hd1 hlq1 (at2_neg hP hd1 hd2 hem)
              refine W_region ?_
              refine Ops_p (p_move rfl) (lt_dec rfl) ?_
              refine Ops_p (p_move rfl) (lt_dec rfl) ?_
              refine Ops_p (p_move rfl) (lt_dec rfl) ?_
              refine Ops_p ((p_rem rfl rfl (by omega) (by omega)).eq veq_rem) (lt_dec rfl) ?_
              refine Ops_q ((q_ixR (q % M.length) rfl rfl rfl (rds_back m1 hd1) rfl rfl (by show _ < ln2 _ _; rw [setS_ln hd1]; exact hlq1) rfl).eq (d' := .raw (ptrAt ((setS M (q / M.length) (q % M.length) (u : Int)).getD (q / M.length) sd).1.1 (mulS (q % M.length) 1)) (ptrAt_one _ _)) (congrArg (fun x : V1 => ptrAt x.1 (mulS (q % M.length) 1)) (setS_v hd1).symm)) (lt_dec rfl) ?_
              refine Ops_x rfl (x_storeSS (l := (setS M (q / M.length) (q % M.length) (u : Int))) (i := (q / M.length)) (j := (q % M.length)) rfl rfl rfl rfl ((HpRep.head).tail) (by rw [hsl]; exact hd1) rfl (by show _ < ln2 _ _; rw [setS_ln hd1]; exact hlq1) ?_)
              refine Ops_nil ?_
              refine W_region ?_
              refine Ops_p (p_move rfl) (lt_dec rfl) ?_
              refine Ops_p (p_add rfl rfl (by exact ⟨(by first | omega | (dsimp only; omega)), (by first | omega | (dsimp only; omega))⟩)) (lt_dec rfl) ?_
              refine Ops_p (p_assign rfl) (lt_dec rfl) ?_
              refine Ops_nil ?_
              refine Exists.intro (u + 1, (goP one (q + 1) (setS M (q / M.length) (q % M.length) (u : Int)) (t2 + 1, f2, sn2, sq2)).1, (goP one (q + 1) (setS M (q / M.length) (q % M.length) (u : Int)) (t2 + 1, f2, sn2, sq2)).2.1, (goP one (q + 1) (setS M (q / M.length) (q % M.length) (u : Int)) (t2 + 1, f2, sn2, sq2)).2.2.1, (goP one (q + 1) (setS M (q / M.length) (q % M.length) (u : Int)) (t2 + 1, f2, sn2, sq2)).2.2.2) (And.intro ?_ (And.intro ?_ ?_))
              · first | exact ⟨by show _ ≤ _; omega, (goF_no (by rw [hGF]; exact hst) hcd).trans hGF, hf2, ht2⟩ | exact ⟨by show _ ≤ _; omega, (goF_yes (by rw [hGF]; exact hst) hcd).trans (by rw [hGF]), goP_ft (by show f2 + 1 ≤ t2 + 1; omega), goP_le (by show t2 + 1 ≤ 20001; simp [stopB] at hst; omega)⟩
              · show _ < _; omega
              · exact Wk.intro (.cons rfl (by first | rfl | exact veq_int (by first | omega | (dsimp only; omega))) (.cons rfl (by first | rfl | exact veq_int (by first | omega | (dsimp only; omega))) (.cons rfl (by first | rfl | exact veq_int (by first | omega | (dsimp only; omega))) (.cons rfl (by first | rfl | exact veq_int (by first | omega | (dsimp only; omega))) (.cons rfl (by first | rfl | exact veq_int (by first | omega | (dsimp only; omega))) (.cons rfl (by first | rfl | exact veq_int (by first | omega | (dsimp only; omega))) .nil)))))) (.keep rfl rfl (imp_var rfl rfl) (.keep (congrArg (fun L => (oss v 24 2 L).wkey) hres.symm) rfl (oss_eq hres) .nil))
        · try simp only [bs] at h4
          obtain rfl : u = M.length := (by omega)
          refine W_exit ?_
          refine Exists.intro _ (And.intro (.nil) (Exists.intro () (And.intro ?_ (And.intro ?_ (And.intro (.cons HpDel.head rfl (imp_var (by first | rw [hE, goP_emp hql hem, hGF] | rw [hE, goP_emp hql hem, goF_end hu (by rw [hGF]; exact stopB_t (by first | exact .inl (by omega) | exact .inr ⟨by assumption, .inl (by omega)⟩ | exact .inr ⟨by assumption, .inr (by omega)⟩)), hGF]) rfl) (.cons HpDel.head rfl (fun _ h => h) .nil)) rfl)))))
          · trivial
          · rfl
theorem w_spec_l09Go {one : Bool} {bw : Nat} {v : Value} {hv : v.oneCell' = true} {p : Nat} {M : SL} {t f : Nat} {sn : Int} {sq : Nat → Fin 256} (hP : ParL M) (hp : p ≤ M.length * M.length) (hFi : FillP M p) (hf : f ≤ t) (ht : t ≤ 20001) : CT (X := Unit) Try.prog 56 (vals [.ptr bw 0 none, .int .i64 (p : Int), .bool one]) [.var bw (.agg [.raw v hv, .int .i64 (t : Int), .int .i64 (f : Int), .agg [.int .i64 sn, .arr8 100 sq]]), oss v 24 2 M] [] (fun x => True) (fun x => .tup []) (fun x => [.var bw (.agg [.raw v hv, .int .i64 ((goP one p M (t, f, sn, sq)).1 : Int), .int .i64 ((goP one p M (t, f, sn, sq)).2.1 : Int), .agg [.int .i64 (goP one p M (t, f, sn, sq)).2.2.1, .arr8 100 (goP one p M (t, f, sn, sq)).2.2.2]]), oss v 24 2 M]) := w_spec_l09Go_all (one := one) (bw := bw) (v := v) (hv := hv) _ p M t f sn sq hP hp hFi hf ht (Nat.lt_succ_self _)
end Go.Proofs.Ytdcpggdbjllmpab
