/- What the Go function laws.FnExactMirrorOf does, shown of its loaded text; its conditions stand in the statement. -/
import Derived.Test.YtdcpggdbjllmpaaTy
import Derived.Test.YtdcpggdbjllmpaaFimplMirrorOf
import Derived.Test.YtdcpggdbjllmpaaFlawseqIdentity
import Derived.Test.YtdcpggdbjllmpaaFlawsheldIdentity
import Derived.Test.YtdcpggdbjllmpaaFlawsmarkIdentity
import Derived.Test.YtdcpggdbjllmpaaFlawsszIdentity
import Derived.Test.YtdcpggdbjllmpaaFlawstoIdentity
import Derived.Test.YtdcpggdbjllmpaaFspecMirrorOf
import Derived.Test.YtdcpggdbjllmpaaGx12
import Derived.Test.YtdcpggdbjllmpaaGx20
import Derived.Test.YtdcpggdbjllmpaaGx24
import Derived.Test.YtdcpggdbjllmpaaGx27
import Derived.Test.YtdcpggdbjllmpaaGx28
import Derived.Test.YtdcpggdbjllmpaaGx33
import Derived.Test.YtdcpggdbjllmpaaM24
import Derived.Test.YtdcpggdbjllmpaaM40
namespace Go.Proofs.Ytdcpggdbjllmpaa
open Go Gx
set_option linter.unusedVariables false
theorem en_laws_FnExactMirrorOf : Enters Try.prog 5 := enters_of Try.func5 (by kernel_rfl) (by kernel_rfl)
set_option maxRecDepth 100000 in
set_option maxHeartbeats 1000000 in
theorem w_laws_FnExactMirrorOf {a c : Value} {ha : a.oneCell' = true} {hc : c.oneCell' = true} {l m : List (Fin 256)} (hl0 : l.length ≤ maxLen) (hm0 : m.length ≤ maxLen) : CR Try.prog 5 (vals [.agg [.raw a ha, .raw c hc]]) [rd a (.u8s l), rd c (.u8s m)] (.bool true) := by
  refine CR_intro (rs := [.tmp 2]) tt tok Try.func5 rfl rfl rfl (by first | rfl | assumption) fun w => ?_
  have hol := mmT_len l m
  refine W_seq ?_
  refine W_region ?_
  refine Ops_x rfl (x_box rfl rfl (lt_dec rfl) fun b1_1 => ?_)
  refine Ops_p (p_assign rfl) (lt_dec rfl) ?_
  refine Ops_nil ?_
  refine W_seq ?_
  refine W_region ?_
  refine Ops_p (p_assign rfl) (lt_dec rfl) ?_
  refine Ops_nil ?_
  refine W_seq ?_
  refine W_region ?_
  refine Ops_q (q_load rfl rfl m0 rfl (by first | exact True.intro | trivial | (first | omega | (dsimp only; omega)) | exact Fin.isLt _ | (dsimp only; omega))) (lt_dec rfl) ?_
  refine Ops_p (p_move rfl) (lt_dec rfl) ?_
  refine Ops_q (q_call en_laws_szIdentity rfl (w_laws_szIdentity hl0 hm0 (by omega)) (View.cons (Vw.rd m1).v (Vw.rd m2).v rfl rfl)) (lt_dec rfl) ?_
  refine Ops_p (p_assign rfl) (lt_dec rfl) ?_
  refine Ops_nil ?_
  refine W_seq ?_
  refine W_seq ?_
  refine W_region ?_
  refine Ops_p (p_move rfl) (lt_dec rfl) ?_
  refine Ops_p (p_lss rfl rfl) (lt_dec rfl) ?_
  refine Ops_nil ?_
  refine W_cond rfl (fun h1 => ?_) (fun h1 => ?_)
  · try simp only [bs] at h1
    refine W_seq ?_
    refine W_region ?_
    refine Ops_p (p_assign rfl) (lt_dec rfl) ?_
    refine Ops_nil ?_
    refine W_ret ?_
    refine Exists.intro _ (And.intro (.cons (.tmp rfl) .nil) ?_)
    first | rfl | (refine veq_bool ?_; simp_all; done) | (refine veq_bool ?_; simp; omega) | (refine veq_bool ?_; rw [eq_comm, decide_eq_false_iff_not]; omega) | (refine veq_bool ?_; rw [eq_comm, decide_eq_true_iff]; omega) | (refine veq_int ?_; omega) | (refine veq_arr8 fun j hj => ?_; (try dsimp only); first | (simp; done) | (simp; omega) | ((repeat' split) <;> first | rfl | (exfalso; omega) | (congr 1; omega) | (simp_all; done)))
  · try simp only [bs] at h1
    have hz := szR_pos (show 0 ≤ szR _ by omega); have hl : l.length ≤ 1048576 := (by omega); have hm : m.length ≤ 1048576 := (by omega)
    refine W_skip ?_
    refine W_seq ?_
    refine W_region ?_
    refine Ops_q (q_load rfl rfl m0 rfl (by first | exact True.intro | trivial | (first | omega | (dsimp only; omega)) | exact Fin.isLt _ | (dsimp only; omega))) (lt_dec rfl) ?_
    refine Ops_x rfl (x_callT en_laws_toIdentity rfl (w_laws_toIdentity (by first | assumption | (first | omega | (dsimp only; omega)) | (simp; done) | decide) (by first | assumption | (first | omega | (dsimp only; omega)) | (simp; done) | decide)) HpDels.nil (Vw.cons (Vw.rd m1) (Vw.rd m2)) (fun _ => (HpDels.cons HpDel.head (HpDels.cons HpDel.head HpDels.nil))) (lt_dec rfl) fun x21_1 _ => ?_)
    refine Ops_x rfl (x_callT en_spec_MirrorOf rfl (w_spec_MirrorOf (by first | assumption | (first | omega | (dsimp only; omega)) | (simp; done) | decide) (by first | assumption | (first | omega | (dsimp only; omega)) | (simp; done) | decide)) HpDels.nil (Vw.cons (Vw.rdO m0) (Vw.rdO m1)) (fun _ => (HpDels.cons HpDel.head (HpDels.cons HpDel.head HpDels.nil))) (lt_dec rfl) fun x22_1 _ => ?_)
    refine Ops_p (p_move rfl) (lt_dec rfl) ?_
    refine Ops_p (p_extract rfl rfl) (lt_dec rfl) ?_
    refine Ops_p (p_extract rfl rfl) (lt_dec rfl) ?_
    refine Ops_x rfl (x_alloc rfl (lt_dec rfl) fun b4_1 => ?_)
    refine Ops_x rfl (x_store rfl rfl rfl rfl rfl HpRep.head rfl (by first | trivial | (first | (first | omega | (dsimp only; omega)) | exact Fin.isLt _)) ?_)
    refine Ops_p (p_assign rfl) (lt_dec rfl) ?_
    refine Ops_nil ?_
    refine W_seq ?_
    refine W_region ?_
    refine Ops_q (q_load rfl rfl m5 rfl (by first | exact True.intro | trivial | (first | omega | (dsimp only; omega)) | exact Fin.isLt _ | (dsimp only; omega))) (lt_dec rfl) ?_
    refine Ops_x rfl (x_callT en_laws_toIdentity rfl (w_laws_toIdentity (by first | assumption | (first | omega | (dsimp only; omega)) | (simp; done) | decide) (by first | assumption | (first | omega | (dsimp only; omega)) | (simp; done) | decide)) HpDels.nil (Vw.cons (Vw.rd m6) (Vw.rd m7)) (fun _ => (HpDels.cons HpDel.head (HpDels.cons HpDel.head HpDels.nil))) (lt_dec rfl) fun x26_1 _ => ?_)
    refine Ops_x rfl (x_alloc rfl (lt_dec rfl) fun b6_1 => ?_)
    refine Ops_x rfl (x_store rfl rfl rfl rfl rfl HpRep.head rfl (by first | trivial | (first | (first | omega | (dsimp only; omega)) | exact Fin.isLt _)) ?_)
    refine Ops_nil ?_
    refine W_seq ?_
    refine W_region ?_
    refine Ops_q (q_load rfl rfl m0 rfl (by first | exact True.intro | trivial | (first | omega | (dsimp only; omega)) | exact Fin.isLt _ | (dsimp only; omega))) (lt_dec rfl) ?_
    refine Ops_x rfl (x_callT en_impl_MirrorOf rfl (w_impl_MirrorOf (by first | assumption | (first | omega | (dsimp only; omega)) | (simp; done) | decide) (by first | assumption | (first | omega | (dsimp only; omega)) | (simp; done) | decide)) HpDels.nil (Vw.cons (Vw.rdO m1) (Vw.rdO m2)) (fun _ => (HpDels.cons HpDel.head (HpDels.cons HpDel.head HpDels.nil))) (lt_dec rfl) fun x29_1 _ => ?_)
    refine Ops_p (p_move rfl) (lt_dec rfl) ?_
    refine Ops_p (p_extract rfl rfl) (lt_dec rfl) ?_
    refine Ops_p (p_extract rfl rfl) (lt_dec rfl) ?_
    refine Ops_x rfl (x_alloc rfl (lt_dec rfl) fun b7_1 => ?_)
    refine Ops_x rfl (x_store rfl rfl rfl rfl rfl HpRep.head rfl (by first | trivial | (first | (first | omega | (dsimp only; omega)) | exact Fin.isLt _)) ?_)
    refine Ops_p (p_assign rfl) (lt_dec rfl) ?_
    refine Ops_nil ?_
    refine W_seq ?_
    refine W_seq ?_
    refine W_region ?_
    refine Ops_q (q_load rfl rfl m0 rfl (by first | exact True.intro | trivial | (first | omega | (dsimp only; omega)) | exact Fin.isLt _ | (dsimp only; omega))) (lt_dec rfl) ?_
    refine Ops_q (q_load rfl rfl m6 rfl (by first | exact True.intro | trivial | (first | omega | (dsimp only; omega)) | exact Fin.isLt _ | (dsimp only; omega))) (lt_dec rfl) ?_
    refine Ops_q (q_call en_laws_eqIdentity rfl (w_laws_eqIdentity (by first | assumption | (first | omega | (dsimp only; omega)) | (simp; done) | decide) (by first | assumption | (first | omega | (dsimp only; omega)) | (simp; done) | decide)) (View.cons (Vw.rdO m1).v (View.cons (Vw.rdO m2).v (View.cons (Vw.rdO m7).v (Vw.rdO m8).v rfl rfl) rfl rfl) rfl rfl)) (lt_dec rfl) ?_
    refine Ops_p (p_not rfl) (lt_dec rfl) ?_
    refine Ops_p (p_move rfl) (lt_dec rfl) ?_
    refine Ops_guard_t rfl rfl (lt_dec rfl) ?_
    refine Ops_p (p_move rfl) (lt_dec rfl) ?_
    refine Ops_guard_t rfl rfl (lt_dec rfl) ?_
    refine Ops_p (p_move rfl) (lt_dec rfl) ?_
    refine Ops_guard_t rfl rfl (lt_dec rfl) ?_
    refine Ops_p (p_neq rfl rfl) (lt_dec rfl) ?_
    refine Ops_p (p_pick_f rfl rfl) (lt_dec rfl) ?_
    refine Ops_nil ?_
    refine W_cond rfl (fun h2 => ?_) (fun h2 => ?_)
    · try simp only [bs] at h2
      exfalso; exact h2 (by first | rfl | trivial)
    · try simp only [bs] at h2
      refine W_skip ?_
      refine W_seq ?_
      refine W_seq ?_
      refine W_draw (by kernel_rfl) ?_
      show RA _ _ 5 _ _ _
      refine RA_two 0 1 rfl rfl rfl rfl (by kernel_rfl) ?_ ?_
      · refine Xt_of_Qt rfl (lt_dec rfl) ((q_load rfl rfl m3 rfl (by first | exact True.intro | trivial | (first | omega | (dsimp only; omega)) | exact Fin.isLt _ | (dsimp only; omega)))) ?_
        refine RA_quiet (g := 3) [1] (by kernel_rfl) (by kernel_rfl) (by kernel_rfl) (by kernel_rfl) ?_
        refine WQ_cons rfl rfl rfl ((q_load rfl rfl m11 rfl (by first | exact True.intro | trivial | (first | omega | (dsimp only; omega)) | exact Fin.isLt _ | (dsimp only; omega)))) (lt_dec rfl) ?_
        refine WQ_nil ?_
        refine RA_one 2 rfl rfl (by kernel_rfl) (x_callT en_laws_toIdentity rfl (w_laws_toIdentity (by first | assumption | (first | omega | (dsimp only; omega)) | (simp; done) | decide) (by first | assumption | (first | omega | (dsimp only; omega)) | (simp; done) | decide)) HpDels.nil (Vw.cons (Vw.rd m12) (Vw.rd m13)) (fun _ => (HpDels.cons HpDel.head (HpDels.cons HpDel.head HpDels.nil))) (lt_dec rfl) fun x43_1 _ => ?_)
        refine RA_quiet (g := 0) [3, 4] (by kernel_rfl) (by kernel_rfl) (by kernel_rfl) (by kernel_rfl) ?_
        refine WQ_cons rfl rfl rfl ((q_call en_laws_eqIdentity rfl (w_laws_eqIdentity (by first | assumption | (first | omega | (dsimp only; omega)) | (simp; done) | decide) (by first | assumption | (first | omega | (dsimp only; omega)) | (simp; done) | decide)) (View.cons (Vw.rdO m6).v (View.cons (Vw.rdO m7).v (View.cons (Vw.rdO m0).v (Vw.rdO m1).v rfl rfl) rfl rfl) rfl rfl))) (lt_dec rfl) ?_
        refine WQ_cons rfl rfl rfl ((p_not rfl).q) (lt_dec rfl) ?_
        refine WQ_nil ?_
        refine RA_done (by kernel_rfl) ?_
        refine W_false rfl ?_
        refine W_skip ?_
        refine W_seq ?_
        refine W_region ?_
        refine Ops_p (p_assign rfl) (lt_dec rfl) ?_
        refine Ops_nil ?_
        refine W_seq ?_
        refine W_region ?_
        refine Ops_q (q_load rfl rfl m5 rfl (by first | exact True.intro | trivial | (first | omega | (dsimp only; omega)) | exact Fin.isLt _ | (dsimp only; omega))) (lt_dec rfl) ?_
        refine Ops_p (p_move rfl) (lt_dec rfl) ?_
        refine Ops_x rfl (x_callT en_laws_markIdentity rfl (w_laws_markIdentity (k := 1) (by omega) (by omega) (by omega)) (HpDels.cons ((((((HpDel.head).tail).tail).tail).tail).tail).tail (HpDels.cons ((((((HpDel.head).tail).tail).tail).tail).tail).tail HpDels.nil)) (Vw.none _) (fun _ => (HpDels.cons ((((((HpDel.head).tail).tail).tail).tail).tail).tail (HpDels.cons ((((((HpDel.head).tail).tail).tail).tail).tail).tail HpDels.nil))) (lt_dec rfl) fun _ _ => ?_)
        refine Ops_p (p_assign rfl) (lt_dec rfl) ?_
        refine Ops_nil ?_
        refine W_seq ?_
        refine W_seq ?_
        refine W_region ?_
        refine Ops_p (p_move rfl) (lt_dec rfl) ?_
        refine Ops_p (p_lss rfl rfl) (lt_dec rfl) ?_
        refine Ops_p (p_move rfl) (lt_dec rfl) ?_
        refine Ops_guard rfl rfl (lt_dec rfl) (fun hg1 => ?_) (fun hg1 => ?_)
        · try simp only [bs] at hg1
          refine Ops_q (q_load rfl rfl m2 rfl (by first | exact True.intro | trivial | (first | omega | (dsimp only; omega)) | exact Fin.isLt _ | (dsimp only; omega))) (lt_dec rfl) ?_
          refine Ops_guard_t rfl rfl (lt_dec rfl) ?_
          refine Ops_q (q_load rfl rfl m8 rfl (by first | exact True.intro | trivial | (first | omega | (dsimp only; omega)) | exact Fin.isLt _ | (dsimp only; omega))) (lt_dec rfl) ?_
          refine Ops_guard_t rfl rfl (lt_dec rfl) ?_
          refine Ops_q (q_call en_laws_eqIdentity rfl (w_laws_eqIdentity (by first | assumption | (first | omega | (dsimp only; omega)) | (simp; done) | decide) (by first | assumption | (first | omega | (dsimp only; omega)) | (simp; done) | decide)) (View.cons (Vw.rdO m3).v (View.cons (Vw.rdO m4).v (View.cons (Vw.rdO m9).v (Vw.rdO m10).v rfl rfl) rfl rfl) rfl rfl)) (lt_dec rfl) ?_
          refine Ops_guard_t rfl rfl (lt_dec rfl) ?_
          refine Ops_p (p_not rfl) (lt_dec rfl) ?_
          refine Ops_p (p_pick_f rfl rfl) (lt_dec rfl) ?_
          refine Ops_p (p_move rfl) (lt_dec rfl) ?_
          refine Ops_guard_t rfl rfl (lt_dec rfl) ?_
          refine Ops_p (p_move rfl) (lt_dec rfl) ?_
          refine Ops_guard_t rfl rfl (lt_dec rfl) ?_
          refine Ops_p (p_move rfl) (lt_dec rfl) ?_
          refine Ops_guard_t rfl rfl (lt_dec rfl) ?_
          refine Ops_p (p_neq rfl rfl) (lt_dec rfl) ?_
          refine Ops_p (p_pick_f rfl rfl) (lt_dec rfl) ?_
          refine Ops_nil ?_
          refine W_cond rfl (fun h3 => ?_) (fun h3 => ?_)
          · try simp only [bs] at h3
            exfalso; exact h3 (by first | rfl | trivial)
          · try simp only [bs] at h3
            refine W_skip ?_
            refine W_seq ?_
            refine W_region ?_
            refine Ops_p (p_assign rfl) (lt_dec rfl) ?_
            refine Ops_nil ?_
            refine W_seq ?_
            refine W_region ?_
            refine Ops_q (q_load rfl rfl m2 rfl (by first | exact True.intro | trivial | (first | omega | (dsimp only; omega)) | exact Fin.isLt _ | (dsimp only; omega))) (lt_dec rfl) ?_
            refine Ops_p (p_move rfl) (lt_dec rfl) ?_
            refine Ops_x rfl (x_callT en_laws_markIdentity rfl (w_laws_markIdentity (k := 1) (by omega) (by omega) (by omega)) (HpDels.cons (((HpDel.head).tail).tail).tail (HpDels.cons (((HpDel.head).tail).tail).tail HpDels.nil)) (Vw.none _) (fun _ => (HpDels.cons (((HpDel.head).tail).tail).tail (HpDels.cons (((HpDel.head).tail).tail).tail HpDels.nil))) (lt_dec rfl) fun _ _ => ?_)
            refine Ops_p (p_assign rfl) (lt_dec rfl) ?_
            refine Ops_nil ?_
            refine W_seq ?_
            refine W_region ?_
            refine Ops_p (p_assign rfl) (lt_dec rfl) ?_
            refine Ops_nil ?_
            refine W_seq ?_
            refine W_region ?_
            refine Ops_q (q_load rfl rfl m2 rfl (by first | exact True.intro | trivial | (first | omega | (dsimp only; omega)) | exact Fin.isLt _ | (dsimp only; omega))) (lt_dec rfl) ?_
            refine Ops_p (p_move rfl) (lt_dec rfl) ?_
            refine Ops_q (q_call en_laws_heldIdentity rfl (w_laws_heldIdentity (k := 1) (n := List.length (mmT l m l)) (n2 := List.length (mmT l m m)) (by omega) (by omega) (by omega)) (View.cons (Vw.rdO m3).v (Vw.rdO m4).v rfl rfl)) (lt_dec rfl) ?_
            refine Ops_p (p_assign rfl) (lt_dec rfl) ?_
            refine Ops_nil ?_
            refine W_seq ?_
            refine W_seq ?_
            refine W_region ?_
            refine Ops_p (p_move rfl) (lt_dec rfl) ?_
            refine Ops_p (p_lss rfl rfl) (lt_dec rfl) ?_
            refine Ops_nil ?_
            refine W_cond rfl (fun h4 => ?_) (fun h4 => ?_)
            · try simp only [bs] at h4
              refine W_seq ?_
              refine W_region ?_
              refine Ops_p (p_assign rfl) (lt_dec rfl) ?_
              refine Ops_nil ?_
              refine W_ret ?_
              refine Exists.intro _ (And.intro (.cons (.tmp rfl) .nil) ?_)
              first | rfl | (refine veq_bool ?_; simp_all; done) | (refine veq_bool ?_; simp; omega) | (refine veq_bool ?_; rw [eq_comm, decide_eq_false_iff_not]; omega) | (refine veq_bool ?_; rw [eq_comm, decide_eq_true_iff]; omega) | (refine veq_int ?_; omega) | (refine veq_arr8 fun j hj => ?_; (try dsimp only); first | (simp; done) | (simp; omega) | ((repeat' split) <;> first | rfl | (exfalso; omega) | (congr 1; omega) | (simp_all; done)))
            · try simp only [bs] at h4
              refine W_skip ?_
              refine W_seq ?_
              refine W_seq ?_
              refine W_region ?_
              refine Ops_p (p_move rfl) (lt_dec rfl) ?_
              refine Ops_p (p_move rfl) (lt_dec rfl) ?_
              refine Ops_p (p_neq rfl rfl) (lt_dec rfl) ?_
              refine Ops_nil ?_
              refine W_cond rfl (fun h5 => ?_) (fun h5 => ?_)
              · try simp only [bs] at h5
                refine W_seq ?_
                refine W_region ?_
                refine Ops_p (p_assign rfl) (lt_dec rfl) ?_
                refine Ops_nil ?_
                refine W_ret ?_
                refine Exists.intro _ (And.intro (.cons (.tmp rfl) .nil) ?_)
                first | rfl | (refine veq_bool ?_; simp_all; done) | (refine veq_bool ?_; simp; omega) | (refine veq_bool ?_; rw [eq_comm, decide_eq_false_iff_not]; omega) | (refine veq_bool ?_; rw [eq_comm, decide_eq_true_iff]; omega) | (refine veq_int ?_; omega) | (refine veq_arr8 fun j hj => ?_; (try dsimp only); first | (simp; done) | (simp; omega) | ((repeat' split) <;> first | rfl | (exfalso; omega) | (congr 1; omega) | (simp_all; done)))
              · try simp only [bs] at h5
                refine W_skip ?_
                refine W_seq ?_
                refine W_region ?_
                refine Ops_q (q_load rfl rfl m13 rfl (by first | exact True.intro | trivial | (first | omega | (dsimp only; omega)) | exact Fin.isLt _ | (dsimp only; omega))) (lt_dec rfl) ?_
                refine Ops_x rfl (x_callT en_laws_toIdentity rfl (w_laws_toIdentity (by first | assumption | (first | omega | (dsimp only; omega)) | (simp; done) | decide) (by first | assumption | (first | omega | (dsimp only; omega)) | (simp; done) | decide)) HpDels.nil (Vw.cons (Vw.rd m14) (Vw.rd m15)) (fun _ => (HpDels.cons HpDel.head (HpDels.cons HpDel.head HpDels.nil))) (lt_dec rfl) fun x75_1 _ => ?_)
                refine Ops_x rfl (x_callT en_impl_MirrorOf rfl (w_impl_MirrorOf (by first | assumption | (first | omega | (dsimp only; omega)) | (simp; done) | decide) (by first | assumption | (first | omega | (dsimp only; omega)) | (simp; done) | decide)) HpDels.nil (Vw.cons (Vw.rdO m0) (Vw.rdO m1)) (fun _ => (HpDels.cons HpDel.head (HpDels.cons HpDel.head HpDels.nil))) (lt_dec rfl) fun x76_1 _ => ?_)
                refine Ops_p (p_move rfl) (lt_dec rfl) ?_
                refine Ops_p (p_extract rfl rfl) (lt_dec rfl) ?_
                refine Ops_p (p_extract rfl rfl) (lt_dec rfl) ?_
                refine Ops_x rfl (x_alloc rfl (lt_dec rfl) fun b12_1 => ?_)
                refine Ops_x rfl (x_store rfl rfl rfl rfl rfl HpRep.head rfl (by first | trivial | (first | (first | omega | (dsimp only; omega)) | exact Fin.isLt _)) ?_)
                refine Ops_p (p_assign rfl) (lt_dec rfl) ?_
                refine Ops_nil ?_
                refine W_seq ?_
                refine W_seq ?_
                refine W_region ?_
                refine Ops_q (q_load rfl rfl m0 rfl (by first | exact True.intro | trivial | (first | omega | (dsimp only; omega)) | exact Fin.isLt _ | (dsimp only; omega))) (lt_dec rfl) ?_
                refine Ops_q (q_load rfl rfl m13 rfl (by first | exact True.intro | trivial | (first | omega | (dsimp only; omega)) | exact Fin.isLt _ | (dsimp only; omega))) (lt_dec rfl) ?_
                refine Ops_q (q_call en_laws_eqIdentity rfl (w_laws_eqIdentity (by first | assumption | (first | omega | (dsimp only; omega)) | (simp; done) | decide) (by first | assumption | (first | omega | (dsimp only; omega)) | (simp; done) | decide)) (View.cons (Vw.rdO m1).v (View.cons (Vw.rdO m2).v (View.cons (Vw.rdO m14).v (Vw.rdO m15).v rfl rfl) rfl rfl) rfl rfl)) (lt_dec rfl) ?_
                refine Ops_p (p_not rfl) (lt_dec rfl) ?_
                refine Ops_p (p_move rfl) (lt_dec rfl) ?_
                refine Ops_guard_t rfl rfl (lt_dec rfl) ?_
                refine Ops_p (p_move rfl) (lt_dec rfl) ?_
                refine Ops_guard_t rfl rfl (lt_dec rfl) ?_
                refine Ops_p (p_move rfl) (lt_dec rfl) ?_
                refine Ops_guard_t rfl rfl (lt_dec rfl) ?_
                refine Ops_p (p_neq rfl rfl) (lt_dec rfl) ?_
                refine Ops_p (p_pick_f rfl rfl) (lt_dec rfl) ?_
                refine Ops_nil ?_
                refine W_cond rfl (fun h6 => ?_) (fun h6 => ?_)
                · try simp only [bs] at h6
                  exfalso; exact h6 (by first | rfl | trivial)
                · try simp only [bs] at h6
                  refine W_skip ?_
                  refine W_seq ?_
                  refine W_region ?_
                  refine Ops_p (p_assign rfl) (lt_dec rfl) ?_
                  refine Ops_nil ?_
                  refine W_seq ?_
                  refine W_region ?_
                  refine Ops_q (q_load rfl rfl m7 rfl (by first | exact True.intro | trivial | (first | omega | (dsimp only; omega)) | exact Fin.isLt _ | (dsimp only; omega))) (lt_dec rfl) ?_
                  refine Ops_p (p_move rfl) (lt_dec rfl) ?_
                  refine Ops_q (q_call en_laws_heldIdentity rfl (w_laws_heldIdentity (k := 1) (n := List.length (mmT l m l)) (n2 := List.length (mmT l m m)) (by omega) (by omega) (by omega)) (View.cons (Vw.rdO m8).v (Vw.rdO m9).v rfl rfl)) (lt_dec rfl) ?_
                  refine Ops_p (p_assign rfl) (lt_dec rfl) ?_
                  refine Ops_nil ?_
                  refine W_seq ?_
                  refine W_seq ?_
                  refine W_region ?_
                  refine Ops_p (p_move rfl) (lt_dec rfl) ?_
                  refine Ops_p (p_lss rfl rfl) (lt_dec rfl) ?_
                  refine Ops_nil ?_
                  refine W_cond rfl (fun h7 => ?_) (fun h7 => ?_)
                  · try simp only [bs] at h7
                    refine W_seq ?_
                    refine W_region ?_
                    refine Ops_p (p_assign rfl) (lt_dec rfl) ?_
                    refine Ops_nil ?_
                    refine W_ret ?_
                    refine Exists.intro _ (And.intro (.cons (.tmp rfl) .nil) ?_)
                    first | rfl | (refine veq_bool ?_; simp_all; done) | (refine veq_bool ?_; simp; omega) | (refine veq_bool ?_; rw [eq_comm, decide_eq_false_iff_not]; omega) | (refine veq_bool ?_; rw [eq_comm, decide_eq_true_iff]; omega) | (refine veq_int ?_; omega) | (refine veq_arr8 fun j hj => ?_; (try dsimp only); first | (simp; done) | (simp; omega) | ((repeat' split) <;> first | rfl | (exfalso; omega) | (congr 1; omega) | (simp_all; done)))
                  · try simp only [bs] at h7
                    refine W_skip ?_
                    refine W_seq ?_
                    refine W_seq ?_
                    refine W_region ?_
                    refine Ops_p (p_move rfl) (lt_dec rfl) ?_
                    refine Ops_p (p_move rfl) (lt_dec rfl) ?_
                    refine Ops_p (p_neq rfl rfl) (lt_dec rfl) ?_
                    refine Ops_nil ?_
                    refine W_cond rfl (fun h8 => ?_) (fun h8 => ?_)
                    · try simp only [bs] at h8
                      refine W_seq ?_
                      refine W_region ?_
                      refine Ops_p (p_assign rfl) (lt_dec rfl) ?_
                      refine Ops_nil ?_
                      refine W_ret ?_
                      refine Exists.intro _ (And.intro (.cons (.tmp rfl) .nil) ?_)
                      first | rfl | (refine veq_bool ?_; simp_all; done) | (refine veq_bool ?_; simp; omega) | (refine veq_bool ?_; rw [eq_comm, decide_eq_false_iff_not]; omega) | (refine veq_bool ?_; rw [eq_comm, decide_eq_true_iff]; omega) | (refine veq_int ?_; omega) | (refine veq_arr8 fun j hj => ?_; (try dsimp only); first | (simp; done) | (simp; omega) | ((repeat' split) <;> first | rfl | (exfalso; omega) | (congr 1; omega) | (simp_all; done)))
                    · try simp only [bs] at h8
                      refine W_skip ?_
                      refine W_seq ?_
                      refine W_region ?_
                      refine Ops_p (p_assign rfl) (lt_dec rfl) ?_
                      refine Ops_nil ?_
                      refine W_ret ?_
                      refine Exists.intro _ (And.intro (.cons (.tmp rfl) .nil) ?_)
                      first | rfl | (refine veq_bool ?_; simp_all; done) | (refine veq_bool ?_; simp; omega) | (refine veq_bool ?_; rw [eq_comm, decide_eq_false_iff_not]; omega) | (refine veq_bool ?_; rw [eq_comm, decide_eq_true_iff]; omega) | (refine veq_int ?_; omega) | (refine veq_arr8 fun j hj => ?_; (try dsimp only); first | (simp; done) | (simp; omega) | ((repeat' split) <;> first | rfl | (exfalso; omega) | (congr 1; omega) | (simp_all; done)))
        · try simp only [bs] at hg1
          refine Ops_guard_f rfl rfl rfl (lt_dec rfl) ?_
          refine Ops_guard_f rfl rfl rfl (lt_dec rfl) ?_
          refine Ops_guard_f rfl rfl rfl (lt_dec rfl) ?_
          refine Ops_p (p_pick_t rfl rfl) (lt_dec rfl) ?_
          refine Ops_p (p_move rfl) (lt_dec rfl) ?_
          refine Ops_guard_f rfl rfl rfl (lt_dec rfl) ?_
          refine Ops_guard_f rfl rfl rfl (lt_dec rfl) ?_
          refine Ops_guard_f rfl rfl rfl (lt_dec rfl) ?_
          refine Ops_p (p_pick_t rfl rfl) (lt_dec rfl) ?_
          refine Ops_nil ?_
          refine W_true rfl ?_
          refine W_seq ?_
          refine W_region ?_
          refine Ops_p (p_assign rfl) (lt_dec rfl) ?_
          refine Ops_nil ?_
          refine W_ret ?_
          refine Exists.intro _ (And.intro (.cons (.tmp rfl) .nil) ?_)
          first | rfl | (refine veq_bool ?_; simp_all; done) | (refine veq_bool ?_; simp; omega) | (refine veq_bool ?_; rw [eq_comm, decide_eq_false_iff_not]; omega) | (refine veq_bool ?_; rw [eq_comm, decide_eq_true_iff]; omega) | (refine veq_int ?_; omega) | (refine veq_arr8 fun j hj => ?_; (try dsimp only); first | (simp; done) | (simp; omega) | ((repeat' split) <;> first | rfl | (exfalso; omega) | (congr 1; omega) | (simp_all; done)))
      · refine Xt_of_Qt rfl (lt_dec rfl) ((q_load rfl rfl m11 rfl (by first | exact True.intro | trivial | (first | omega | (dsimp only; omega)) | exact Fin.isLt _ | (dsimp only; omega)))) ?_
        refine RA_two 0 2 rfl rfl rfl rfl (by kernel_rfl) ?_ ?_
        · refine Xt_of_Qt rfl (lt_dec rfl) ((q_load rfl rfl m3 rfl (by first | exact True.intro | trivial | (first | omega | (dsimp only; omega)) | exact Fin.isLt _ | (dsimp only; omega)))) ?_
          refine RA_one 2 rfl rfl (by kernel_rfl) (x_callT en_laws_toIdentity rfl (w_laws_toIdentity (by first | assumption | (first | omega | (dsimp only; omega)) | (simp; done) | decide) (by first | assumption | (first | omega | (dsimp only; omega)) | (simp; done) | decide)) HpDels.nil (Vw.cons (Vw.rd m12) (Vw.rd m13)) (fun _ => (HpDels.cons HpDel.head (HpDels.cons HpDel.head HpDels.nil))) (lt_dec rfl) fun x43_2 _ => ?_)
          refine RA_quiet (g := 0) [3, 4] (by kernel_rfl) (by kernel_rfl) (by kernel_rfl) (by kernel_rfl) ?_
          refine WQ_cons rfl rfl rfl ((q_call en_laws_eqIdentity rfl (w_laws_eqIdentity (by first | assumption | (first | omega | (dsimp only; omega)) | (simp; done) | decide) (by first | assumption | (first | omega | (dsimp only; omega)) | (simp; done) | decide)) (View.cons (Vw.rdO m6).v (View.cons (Vw.rdO m7).v (View.cons (Vw.rdO m0).v (Vw.rdO m1).v rfl rfl) rfl rfl) rfl rfl))) (lt_dec rfl) ?_
          refine WQ_cons rfl rfl rfl ((p_not rfl).q) (lt_dec rfl) ?_
          refine WQ_nil ?_
          refine RA_done (by kernel_rfl) ?_
          refine W_false rfl ?_
          refine W_skip ?_
          refine W_seq ?_
          refine W_region ?_
          refine Ops_p (p_assign rfl) (lt_dec rfl) ?_
          refine Ops_nil ?_
          refine W_seq ?_
          refine W_region ?_
          refine Ops_q (q_load rfl rfl m5 rfl (by first | exact True.intro | trivial | (first | omega | (dsimp only; omega)) | exact Fin.isLt _ | (dsimp only; omega))) (lt_dec rfl) ?_
          refine Ops_p (p_move rfl) (lt_dec rfl) ?_
          refine Ops_x rfl (x_callT en_laws_markIdentity rfl (w_laws_markIdentity (k := 1) (by omega) (by omega) (by omega)) (HpDels.cons ((((((HpDel.head).tail).tail).tail).tail).tail).tail (HpDels.cons ((((((HpDel.head).tail).tail).tail).tail).tail).tail HpDels.nil)) (Vw.none _) (fun _ => (HpDels.cons ((((((HpDel.head).tail).tail).tail).tail).tail).tail (HpDels.cons ((((((HpDel.head).tail).tail).tail).tail).tail).tail HpDels.nil))) (lt_dec rfl) fun _ _ => ?_)
          refine Ops_p (p_assign rfl) (lt_dec rfl) ?_
          refine Ops_nil ?_
          refine W_seq ?_
          refine W_seq ?_
          refine W_region ?_
          refine Ops_p (p_move rfl) (lt_dec rfl) ?_
          refine Ops_p (p_lss rfl rfl) (lt_dec rfl) ?_
          refine Ops_p (p_move rfl) (lt_dec rfl) ?_
          refine Ops_guard rfl rfl (lt_dec rfl) (fun hg2 => ?_) (fun hg2 => ?_)
          · try simp only [bs] at hg2
            refine Ops_q (q_load rfl rfl m2 rfl (by first | exact True.intro | trivial | (first | omega | (dsimp only; omega)) | exact Fin.isLt _ | (dsimp only; omega))) (lt_dec rfl) ?_
            refine Ops_guard_t rfl rfl (lt_dec rfl) ?_
            refine Ops_q (q_load rfl rfl m8 rfl (by first | exact True.intro | trivial | (first | omega | (dsimp only; omega)) | exact Fin.isLt _ | (dsimp only; omega))) (lt_dec rfl) ?_
            refine Ops_guard_t rfl rfl (lt_dec rfl) ?_
            refine Ops_q (q_call en_laws_eqIdentity rfl (w_laws_eqIdentity (by first | assumption | (first | omega | (dsimp only; omega)) | (simp; done) | decide) (by first | assumption | (first | omega | (dsimp only; omega)) | (simp; done) | decide)) (View.cons (Vw.rdO m3).v (View.cons (Vw.rdO m4).v (View.cons (Vw.rdO m9).v (Vw.rdO m10).v rfl rfl) rfl rfl) rfl rfl)) (lt_dec rfl) ?_
            refine Ops_guard_t rfl rfl (lt_dec rfl) ?_
            refine Ops_p (p_not rfl) (lt_dec rfl) ?_
            refine Ops_p (p_pick_f rfl rfl) (lt_dec rfl) ?_
            refine Ops_p (p_move rfl) (lt_dec rfl) ?_
            refine Ops_guard_t rfl rfl (lt_dec rfl) ?_
            refine Ops_p (p_move rfl) (lt_dec rfl) ?_
            refine Ops_guard_t rfl rfl (lt_dec rfl) ?_
            refine Ops_p (p_move rfl) (lt_dec rfl) ?_
            refine Ops_guard_t rfl rfl (lt_dec rfl) ?_
            refine Ops_p (p_neq rfl rfl) (lt_dec rfl) ?_
            refine Ops_p (p_pick_f rfl rfl) (lt_dec rfl) ?_
            refine Ops_nil ?_
            refine W_cond rfl (fun h9 => ?_) (fun h9 => ?_)
            · try simp only [bs] at h9
              exfalso; exact h9 (by first | rfl | trivial)
            · try simp only [bs] at h9
              refine W_skip ?_
              refine W_seq ?_
              refine W_region ?_
              refine Ops_p (p_assign rfl) (lt_dec rfl) ?_
              refine Ops_nil ?_
              refine W_seq ?_
              refine W_region ?_
              refine Ops_q (q_load rfl rfl m2 rfl (by first | exact True.intro | trivial | (first | omega | (dsimp only; omega)) | exact Fin.isLt _ | (dsimp only; omega))) (lt_dec rfl) ?_
              refine Ops_p (p_move rfl) (lt_dec rfl) ?_
              refine Ops_x rfl (x_callT en_laws_markIdentity rfl (w_laws_markIdentity (k := 1) (by omega) (by omega) (by omega)) (HpDels.cons (((HpDel.head).tail).tail).tail (HpDels.cons (((HpDel.head).tail).tail).tail HpDels.nil)) (Vw.none _) (fun _ => (HpDels.cons (((HpDel.head).tail).tail).tail (HpDels.cons (((HpDel.head).tail).tail).tail HpDels.nil))) (lt_dec rfl) fun _ _ => ?_)
              refine Ops_p (p_assign rfl) (lt_dec rfl) ?_
              refine Ops_nil ?_
              refine W_seq ?_
              refine W_region ?_
              refine Ops_p (p_assign rfl) (lt_dec rfl) ?_
              refine Ops_nil ?_
              refine W_seq ?_
              refine W_region ?_
              refine Ops_q (q_load rfl rfl m2 rfl (by first | exact True.intro | trivial | (first | omega | (dsimp only; omega)) | exact Fin.isLt _ | (dsimp only; omega))) (lt_dec rfl) ?_
              refine Ops_p (p_move rfl) (lt_dec rfl) ?_
              refine Ops_q (q_call en_laws_heldIdentity rfl (w_laws_heldIdentity (k := 1) (n := List.length (mmT l m l)) (n2 := List.length (mmT l m m)) (by omega) (by omega) (by omega)) (View.cons (Vw.rdO m3).v (Vw.rdO m4).v rfl rfl)) (lt_dec rfl) ?_
              refine Ops_p (p_assign rfl) (lt_dec rfl) ?_
              refine Ops_nil ?_
              refine W_seq ?_
              refine W_seq ?_
              refine W_region ?_
              refine Ops_p (p_move rfl) (lt_dec rfl) ?_
              refine Ops_p (p_lss rfl rfl) (lt_dec rfl) ?_
              refine Ops_nil ?_
              refine W_cond rfl (fun h10 => ?_) (fun h10 => ?_)
              · try simp only [bs] at h10
                refine W_seq ?_
                refine W_region ?_
                refine Ops_p (p_assign rfl) (lt_dec rfl) ?_
                refine Ops_nil ?_
                refine W_ret ?_
                refine Exists.intro _ (And.intro (.cons (.tmp rfl) .nil) ?_)
                first | rfl | (refine veq_bool ?_; simp_all; done) | (refine veq_bool ?_; simp; omega) | (refine veq_bool ?_; rw [eq_comm, decide_eq_false_iff_not]; omega) | (refine veq_bool ?_; rw [eq_comm, decide_eq_true_iff]; omega) | (refine veq_int ?_; omega) | (refine veq_arr8 fun j hj => ?_; (try dsimp only); first | (simp; done) | (simp; omega) | ((repeat' split) <;> first | rfl | (exfalso; omega) | (congr 1; omega) | (simp_all; done)))
              · try simp only [bs] at h10
                refine W_skip ?_
                refine W_seq ?_
                refine W_seq ?_
                refine W_region ?_
                refine Ops_p (p_move rfl) (lt_dec rfl) ?_
                refine Ops_p (p_move rfl) (lt_dec rfl) ?_
                refine Ops_p (p_neq rfl rfl) (lt_dec rfl) ?_
                refine Ops_nil ?_
                refine W_cond rfl (fun h11 => ?_) (fun h11 => ?_)
                · try simp only [bs] at h11
                  refine W_seq ?_
                  refine W_region ?_
                  refine Ops_p (p_assign rfl) (lt_dec rfl) ?_
                  refine Ops_nil ?_
                  refine W_ret ?_
                  refine Exists.intro _ (And.intro (.cons (.tmp rfl) .nil) ?_)
                  first | rfl | (refine veq_bool ?_; simp_all; done) | (refine veq_bool ?_; simp; omega) | (refine veq_bool ?_; rw [eq_comm, decide_eq_false_iff_not]; omega) | (refine veq_bool ?_; rw [eq_comm, decide_eq_true_iff]; omega) | (refine veq_int ?_; omega) | (refine veq_arr8 fun j hj => ?_; (try dsimp only); first | (simp; done) | (simp; omega) | ((repeat' split) <;> first | rfl | (exfalso; omega) | (congr 1; omega) | (simp_all; done)))
                · try simp only [bs] at h11
                  refine W_skip ?_
                  refine W_seq ?_
                  refine W_region ?_
                  refine Ops_q (q_load rfl rfl m13 rfl (by first | exact True.intro | trivial | (first | omega | (dsimp only; omega)) | exact Fin.isLt _ | (dsimp only; omega))) (lt_dec rfl) ?_
                  refine Ops_x rfl (x_callT en_laws_toIdentity rfl (w_laws_toIdentity (by first | assumption | (first | omega | (dsimp only; omega)) | (simp; done) | decide) (by first | assumption | (first | omega | (dsimp only; omega)) | (simp; done) | decide)) HpDels.nil (Vw.cons (Vw.rd m14) (Vw.rd m15)) (fun _ => (HpDels.cons HpDel.head (HpDels.cons HpDel.head HpDels.nil))) (lt_dec rfl) fun x75_2 _ => ?_)
                  refine Ops_x rfl (x_callT en_impl_MirrorOf rfl (w_impl_MirrorOf (by first | assumption | (first | omega | (dsimp only; omega)) | (simp; done) | decide) (by first | assumption | (first | omega | (dsimp only; omega)) | (simp; done) | decide)) HpDels.nil (Vw.cons (Vw.rdO m0) (Vw.rdO m1)) (fun _ => (HpDels.cons HpDel.head (HpDels.cons HpDel.head HpDels.nil))) (lt_dec rfl) fun x76_2 _ => ?_)
                  refine Ops_p (p_move rfl) (lt_dec rfl) ?_
                  refine Ops_p (p_extract rfl rfl) (lt_dec rfl) ?_
                  refine Ops_p (p_extract rfl rfl) (lt_dec rfl) ?_
                  refine Ops_x rfl (x_alloc rfl (lt_dec rfl) fun b12_2 => ?_)
                  refine Ops_x rfl (x_store rfl rfl rfl rfl rfl HpRep.head rfl (by first | trivial | (first | (first | omega | (dsimp only; omega)) | exact Fin.isLt _)) ?_)
                  refine Ops_p (p_assign rfl) (lt_dec rfl) ?_
                  refine Ops_nil ?_
                  refine W_seq ?_
                  refine W_seq ?_
                  refine W_region ?_
                  refine Ops_q (q_load rfl rfl m0 rfl (by first | exact True.intro | trivial | (first | omega | (dsimp only; omega)) | exact Fin.isLt _ | (dsimp only; omega))) (lt_dec rfl) ?_
                  refine Ops_q (q_load rfl rfl m13 rfl (by first | exact True.intro | trivial | (first | omega | (dsimp only; omega)) | exact Fin.isLt _ | (dsimp only; omega))) (lt_dec rfl) ?_
                  refine Ops_q (q_call en_laws_eqIdentity rfl (w_laws_eqIdentity (by first | assumption | (first | omega | (dsimp only; omega)) | (simp; done) | decide) (by first | assumption | (first | omega | (dsimp only; omega)) | (simp; done) | decide)) (View.cons (Vw.rdO m1).v (View.cons (Vw.rdO m2).v (View.cons (Vw.rdO m14).v (Vw.rdO m15).v rfl rfl) rfl rfl) rfl rfl)) (lt_dec rfl) ?_
                  refine Ops_p (p_not rfl) (lt_dec rfl) ?_
                  refine Ops_p (p_move rfl) (lt_dec rfl) ?_
                  refine Ops_guard_t rfl rfl (lt_dec rfl) ?_
                  refine Ops_p (p_move rfl) (lt_dec rfl) ?_
                  refine Ops_guard_t rfl rfl (lt_dec rfl) ?_
                  refine Ops_p (p_move rfl) (lt_dec rfl) ?_
                  refine Ops_guard_t rfl rfl (lt_dec rfl) ?_
                  refine Ops_p (p_neq rfl rfl) (lt_dec rfl) ?_
                  refine Ops_p (p_pick_f rfl rfl) (lt_dec rfl) ?_
                  refine Ops_nil ?_
                  refine W_cond rfl (fun h12 => ?_) (fun h12 => ?_)
                  · try simp only [bs] at h12
                    exfalso; exact h12 (by first | rfl | trivial)
                  · try simp only [bs] at h12
                    refine W_skip ?_
                    refine W_seq ?_
                    refine W_region ?_
                    refine Ops_p (p_assign rfl) (lt_dec rfl) ?_
                    refine Ops_nil ?_
                    refine W_seq ?_
                    refine W_region ?_
                    refine Ops_q (q_load rfl rfl m7 rfl (by first | exact True.intro | trivial | (first | omega | (dsimp only; omega)) | exact Fin.isLt _ | (dsimp only; omega))) (lt_dec rfl) ?_
                    refine Ops_p (p_move rfl) (lt_dec rfl) ?_
                    refine Ops_q (q_call en_laws_heldIdentity rfl (w_laws_heldIdentity (k := 1) (n := List.length (mmT l m l)) (n2 := List.length (mmT l m m)) (by omega) (by omega) (by omega)) (View.cons (Vw.rdO m8).v (Vw.rdO m9).v rfl rfl)) (lt_dec rfl) ?_
                    refine Ops_p (p_assign rfl) (lt_dec rfl) ?_
                    refine Ops_nil ?_
                    refine W_seq ?_
                    refine W_seq ?_
                    refine W_region ?_
                    refine Ops_p (p_move rfl) (lt_dec rfl) ?_
                    refine Ops_p (p_lss rfl rfl) (lt_dec rfl) ?_
                    refine Ops_nil ?_
                    refine W_cond rfl (fun h13 => ?_) (fun h13 => ?_)
                    · try simp only [bs] at h13
                      refine W_seq ?_
                      refine W_region ?_
                      refine Ops_p (p_assign rfl) (lt_dec rfl) ?_
                      refine Ops_nil ?_
                      refine W_ret ?_
                      refine Exists.intro _ (And.intro (.cons (.tmp rfl) .nil) ?_)
                      first | rfl | (refine veq_bool ?_; simp_all; done) | (refine veq_bool ?_; simp; omega) | (refine veq_bool ?_; rw [eq_comm, decide_eq_false_iff_not]; omega) | (refine veq_bool ?_; rw [eq_comm, decide_eq_true_iff]; omega) | (refine veq_int ?_; omega) | (refine veq_arr8 fun j hj => ?_; (try dsimp only); first | (simp; done) | (simp; omega) | ((repeat' split) <;> first | rfl | (exfalso; omega) | (congr 1; omega) | (simp_all; done)))
                    · try simp only [bs] at h13
                      refine W_skip ?_
                      refine W_seq ?_
                      refine W_seq ?_
                      refine W_region ?_
                      refine Ops_p (p_move rfl) (lt_dec rfl) ?_
                      refine Ops_p (p_move rfl) (lt_dec rfl) ?_
                      refine Ops_p (p_neq rfl rfl) (lt_dec rfl) ?_
                      refine Ops_nil ?_
                      refine W_cond rfl (fun h14 => ?_) (fun h14 => ?_)
                      · try simp only [bs] at h14
                        refine W_seq ?_
                        refine W_region ?_
                        refine Ops_p (p_assign rfl) (lt_dec rfl) ?_
                        refine Ops_nil ?_
                        refine W_ret ?_
                        refine Exists.intro _ (And.intro (.cons (.tmp rfl) .nil) ?_)
                        first | rfl | (refine veq_bool ?_; simp_all; done) | (refine veq_bool ?_; simp; omega) | (refine veq_bool ?_; rw [eq_comm, decide_eq_false_iff_not]; omega) | (refine veq_bool ?_; rw [eq_comm, decide_eq_true_iff]; omega) | (refine veq_int ?_; omega) | (refine veq_arr8 fun j hj => ?_; (try dsimp only); first | (simp; done) | (simp; omega) | ((repeat' split) <;> first | rfl | (exfalso; omega) | (congr 1; omega) | (simp_all; done)))
                      · try simp only [bs] at h14
                        refine W_skip ?_
                        refine W_seq ?_
                        refine W_region ?_
                        refine Ops_p (p_assign rfl) (lt_dec rfl) ?_
                        refine Ops_nil ?_
                        refine W_ret ?_
                        refine Exists.intro _ (And.intro (.cons (.tmp rfl) .nil) ?_)
                        first | rfl | (refine veq_bool ?_; simp_all; done) | (refine veq_bool ?_; simp; omega) | (refine veq_bool ?_; rw [eq_comm, decide_eq_false_iff_not]; omega) | (refine veq_bool ?_; rw [eq_comm, decide_eq_true_iff]; omega) | (refine veq_int ?_; omega) | (refine veq_arr8 fun j hj => ?_; (try dsimp only); first | (simp; done) | (simp; omega) | ((repeat' split) <;> first | rfl | (exfalso; omega) | (congr 1; omega) | (simp_all; done)))
          · try simp only [bs] at hg2
            refine Ops_guard_f rfl rfl rfl (lt_dec rfl) ?_
            refine Ops_guard_f rfl rfl rfl (lt_dec rfl) ?_
            refine Ops_guard_f rfl rfl rfl (lt_dec rfl) ?_
            refine Ops_p (p_pick_t rfl rfl) (lt_dec rfl) ?_
            refine Ops_p (p_move rfl) (lt_dec rfl) ?_
            refine Ops_guard_f rfl rfl rfl (lt_dec rfl) ?_
            refine Ops_guard_f rfl rfl rfl (lt_dec rfl) ?_
            refine Ops_guard_f rfl rfl rfl (lt_dec rfl) ?_
            refine Ops_p (p_pick_t rfl rfl) (lt_dec rfl) ?_
            refine Ops_nil ?_
            refine W_true rfl ?_
            refine W_seq ?_
            refine W_region ?_
            refine Ops_p (p_assign rfl) (lt_dec rfl) ?_
            refine Ops_nil ?_
            refine W_ret ?_
            refine Exists.intro _ (And.intro (.cons (.tmp rfl) .nil) ?_)
            first | rfl | (refine veq_bool ?_; simp_all; done) | (refine veq_bool ?_; simp; omega) | (refine veq_bool ?_; rw [eq_comm, decide_eq_false_iff_not]; omega) | (refine veq_bool ?_; rw [eq_comm, decide_eq_true_iff]; omega) | (refine veq_int ?_; omega) | (refine veq_arr8 fun j hj => ?_; (try dsimp only); first | (simp; done) | (simp; omega) | ((repeat' split) <;> first | rfl | (exfalso; omega) | (congr 1; omega) | (simp_all; done)))
        · refine x_callT en_laws_toIdentity rfl (w_laws_toIdentity (by first | assumption | (first | omega | (dsimp only; omega)) | (simp; done) | decide) (by first | assumption | (first | omega | (dsimp only; omega)) | (simp; done) | decide)) HpDels.nil (Vw.cons (Vw.rd m12) (Vw.rd m13)) (fun _ => (HpDels.cons HpDel.head (HpDels.cons HpDel.head HpDels.nil))) (lt_dec rfl) fun x43_3 _ => ?_
          refine RA_quiet (g := 0) [0, 3, 4] (by kernel_rfl) (by kernel_rfl) (by kernel_rfl) (by kernel_rfl) ?_
          refine WQ_cons rfl rfl rfl ((q_load rfl rfl m5 rfl (by first | exact True.intro | trivial | (first | omega | (dsimp only; omega)) | exact Fin.isLt _ | (dsimp only; omega)))) (lt_dec rfl) ?_
          refine WQ_cons rfl rfl rfl ((q_call en_laws_eqIdentity rfl (w_laws_eqIdentity (by first | assumption | (first | omega | (dsimp only; omega)) | (simp; done) | decide) (by first | assumption | (first | omega | (dsimp only; omega)) | (simp; done) | decide)) (View.cons (Vw.rdO m6).v (View.cons (Vw.rdO m7).v (View.cons (Vw.rdO m0).v (Vw.rdO m1).v rfl rfl) rfl rfl) rfl rfl))) (lt_dec rfl) ?_
          refine WQ_cons rfl rfl rfl ((p_not rfl).q) (lt_dec rfl) ?_
          refine WQ_nil ?_
          refine RA_done (by kernel_rfl) ?_
          refine W_false rfl ?_
          refine W_skip ?_
          refine W_seq ?_
          refine W_region ?_
          refine Ops_p (p_assign rfl) (lt_dec rfl) ?_
          refine Ops_nil ?_
          refine W_seq ?_
          refine W_region ?_
          refine Ops_q (q_load rfl rfl m5 rfl (by first | exact True.intro | trivial | (first | omega | (dsimp only; omega)) | exact Fin.isLt _ | (dsimp only; omega))) (lt_dec rfl) ?_
          refine Ops_p (p_move rfl) (lt_dec rfl) ?_
          refine Ops_x rfl (x_callT en_laws_markIdentity rfl (w_laws_markIdentity (k := 1) (by omega) (by omega) (by omega)) (HpDels.cons ((((((HpDel.head).tail).tail).tail).tail).tail).tail (HpDels.cons ((((((HpDel.head).tail).tail).tail).tail).tail).tail HpDels.nil)) (Vw.none _) (fun _ => (HpDels.cons ((((((HpDel.head).tail).tail).tail).tail).tail).tail (HpDels.cons ((((((HpDel.head).tail).tail).tail).tail).tail).tail HpDels.nil))) (lt_dec rfl) fun _ _ => ?_)
          refine Ops_p (p_assign rfl) (lt_dec rfl) ?_
          refine Ops_nil ?_
          refine W_seq ?_
          refine W_seq ?_
          refine W_region ?_
          refine Ops_p (p_move rfl) (lt_dec rfl) ?_
          refine Ops_p (p_lss rfl rfl) (lt_dec rfl) ?_
          refine Ops_p (p_move rfl) (lt_dec rfl) ?_
          refine Ops_guard rfl rfl (lt_dec rfl) (fun hg3 => ?_) (fun hg3 => ?_)
          · try simp only [bs] at hg3
            refine Ops_q (q_load rfl rfl m2 rfl (by first | exact True.intro | trivial | (first | omega | (dsimp only; omega)) | exact Fin.isLt _ | (dsimp only; omega))) (lt_dec rfl) ?_
            refine Ops_guard_t rfl rfl (lt_dec rfl) ?_
            refine Ops_q (q_load rfl rfl m8 rfl (by first | exact True.intro | trivial | (first | omega | (dsimp only; omega)) | exact Fin.isLt _ | (dsimp only; omega))) (lt_dec rfl) ?_
            refine Ops_guard_t rfl rfl (lt_dec rfl) ?_
            refine Ops_q (q_call en_laws_eqIdentity rfl (w_laws_eqIdentity (by first | assumption | (first | omega | (dsimp only; omega)) | (simp; done) | decide) (by first | assumption | (first | omega | (dsimp only; omega)) | (simp; done) | decide)) (View.cons (Vw.rdO m3).v (View.cons (Vw.rdO m4).v (View.cons (Vw.rdO m9).v (Vw.rdO m10).v rfl rfl) rfl rfl) rfl rfl)) (lt_dec rfl) ?_
            refine Ops_guard_t rfl rfl (lt_dec rfl) ?_
            refine Ops_p (p_not rfl) (lt_dec rfl) ?_
            refine Ops_p (p_pick_f rfl rfl) (lt_dec rfl) ?_
            refine Ops_p (p_move rfl) (lt_dec rfl) ?_
            refine Ops_guard_t rfl rfl (lt_dec rfl) ?_
            refine Ops_p (p_move rfl) (lt_dec rfl) ?_
            refine Ops_guard_t rfl rfl (lt_dec rfl) ?_
            refine Ops_p (p_move rfl) (lt_dec rfl) ?_
            refine Ops_guard_t rfl rfl (lt_dec rfl) ?_
            refine Ops_p (p_neq rfl rfl) (lt_dec rfl) ?_
            refine Ops_p (p_pick_f rfl rfl) (lt_dec rfl) ?_
            refine Ops_nil ?_
            refine W_cond rfl (fun h15 => ?_) (fun h15 => ?_)
            · try simp only [bs] at h15
              exfalso; exact h15 (by first | rfl | trivial)
            · try simp only [bs] at h15
              refine W_skip ?_
              refine W_seq ?_
              refine W_region ?_
              refine Ops_p (p_assign rfl) (lt_dec rfl) ?_
              refine Ops_nil ?_
              refine W_seq ?_
              refine W_region ?_
              refine Ops_q (q_load rfl rfl m2 rfl (by first | exact True.intro | trivial | (first | omega | (dsimp only; omega)) | exact Fin.isLt _ | (dsimp only; omega))) (lt_dec rfl) ?_
              refine Ops_p (p_move rfl) (lt_dec rfl) ?_
              refine Ops_x rfl (x_callT en_laws_markIdentity rfl (w_laws_markIdentity (k := 1) (by omega) (by omega) (by omega)) (HpDels.cons (((HpDel.head).tail).tail).tail (HpDels.cons (((HpDel.head).tail).tail).tail HpDels.nil)) (Vw.none _) (fun _ => (HpDels.cons (((HpDel.head).tail).tail).tail (HpDels.cons (((HpDel.head).tail).tail).tail HpDels.nil))) (lt_dec rfl) fun _ _ => ?_)
              refine Ops_p (p_assign rfl) (lt_dec rfl) ?_
              refine Ops_nil ?_
              refine W_seq ?_
              refine W_region ?_
              refine Ops_p (p_assign rfl) (lt_dec rfl) ?_
              refine Ops_nil ?_
              refine W_seq ?_
              refine W_region ?_
              refine Ops_q (q_load rfl rfl m2 rfl (by first | exact True.intro | trivial | (first | omega | (dsimp only; omega)) | exact Fin.isLt _ | (dsimp only; omega))) (lt_dec rfl) ?_
              refine Ops_p (p_move rfl) (lt_dec rfl) ?_
              refine Ops_q (q_call en_laws_heldIdentity rfl (w_laws_heldIdentity (k := 1) (n := List.length (mmT l m l)) (n2 := List.length (mmT l m m)) (by omega) (by omega) (by omega)) (View.cons (Vw.rdO m3).v (Vw.rdO m4).v rfl rfl)) (lt_dec rfl) ?_
              refine Ops_p (p_assign rfl) (lt_dec rfl) ?_
              refine Ops_nil ?_
              refine W_seq ?_
              refine W_seq ?_
              refine W_region ?_
              refine Ops_p (p_move rfl) (lt_dec rfl) ?_
              refine Ops_p (p_lss rfl rfl) (lt_dec rfl) ?_
              refine Ops_nil ?_
              refine W_cond rfl (fun h16 => ?_) (fun h16 => ?_)
              · try simp only [bs] at h16
                refine W_seq ?_
                refine W_region ?_
                refine Ops_p (p_assign rfl) (lt_dec rfl) ?_
                refine Ops_nil ?_
                refine W_ret ?_
                refine Exists.intro _ (And.intro (.cons (.tmp rfl) .nil) ?_)
                first | rfl | (refine veq_bool ?_; simp_all; done) | (refine veq_bool ?_; simp; omega) | (refine veq_bool ?_; rw [eq_comm, decide_eq_false_iff_not]; omega) | (refine veq_bool ?_; rw [eq_comm, decide_eq_true_iff]; omega) | (refine veq_int ?_; omega) | (refine veq_arr8 fun j hj => ?_; (try dsimp only); first | (simp; done) | (simp; omega) | ((repeat' split) <;> first | rfl | (exfalso; omega) | (congr 1; omega) | (simp_all; done)))
              · try simp only [bs] at h16
                refine W_skip ?_
                refine W_seq ?_
                refine W_seq ?_
                refine W_region ?_
                refine Ops_p (p_move rfl) (lt_dec rfl) ?_
                refine Ops_p (p_move rfl) (lt_dec rfl) ?_
                refine Ops_p (p_neq rfl rfl) (lt_dec rfl) ?_
                refine Ops_nil ?_
                refine W_cond rfl (fun h17 => ?_) (fun h17 => ?_)
                · try simp only [bs] at h17
                  refine W_seq ?_
                  refine W_region ?_
                  refine Ops_p (p_assign rfl) (lt_dec rfl) ?_
                  refine Ops_nil ?_
                  refine W_ret ?_
                  refine Exists.intro _ (And.intro (.cons (.tmp rfl) .nil) ?_)
                  first | rfl | (refine veq_bool ?_; simp_all; done) | (refine veq_bool ?_; simp; omega) | (refine veq_bool ?_; rw [eq_comm, decide_eq_false_iff_not]; omega) | (refine veq_bool ?_; rw [eq_comm, decide_eq_true_iff]; omega) | (refine veq_int ?_; omega) | (refine veq_arr8 fun j hj => ?_; (try dsimp only); first | (simp; done) | (simp; omega) | ((repeat' split) <;> first | rfl | (exfalso; omega) | (congr 1; omega) | (simp_all; done)))
                · try simp only [bs] at h17
                  refine W_skip ?_
                  refine W_seq ?_
                  refine W_region ?_
                  refine Ops_q (q_load rfl rfl m13 rfl (by first | exact True.intro | trivial | (first | omega | (dsimp only; omega)) | exact Fin.isLt _ | (dsimp only; omega))) (lt_dec rfl) ?_
                  refine Ops_x rfl (x_callT en_laws_toIdentity rfl (w_laws_toIdentity (by first | assumption | (first | omega | (dsimp only; omega)) | (simp; done) | decide) (by first | assumption | (first | omega | (dsimp only; omega)) | (simp; done) | decide)) HpDels.nil (Vw.cons (Vw.rd m14) (Vw.rd m15)) (fun _ => (HpDels.cons HpDel.head (HpDels.cons HpDel.head HpDels.nil))) (lt_dec rfl) fun x75_3 _ => ?_)
                  refine Ops_x rfl (x_callT en_impl_MirrorOf rfl (w_impl_MirrorOf (by first | assumption | (first | omega | (dsimp only; omega)) | (simp; done) | decide) (by first | assumption | (first | omega | (dsimp only; omega)) | (simp; done) | decide)) HpDels.nil (Vw.cons (Vw.rdO m0) (Vw.rdO m1)) (fun _ => (HpDels.cons HpDel.head (HpDels.cons HpDel.head HpDels.nil))) (lt_dec rfl) fun x76_3 _ => ?_)
                  refine Ops_p (p_move rfl) (lt_dec rfl) ?_
                  refine Ops_p (p_extract rfl rfl) (lt_dec rfl) ?_
                  refine Ops_p (p_extract rfl rfl) (lt_dec rfl) ?_
                  refine Ops_x rfl (x_alloc rfl (lt_dec rfl) fun b12_3 => ?_)
                  refine Ops_x rfl (x_store rfl rfl rfl rfl rfl HpRep.head rfl (by first | trivial | (first | (first | omega | (dsimp only; omega)) | exact Fin.isLt _)) ?_)
                  refine Ops_p (p_assign rfl) (lt_dec rfl) ?_
                  refine Ops_nil ?_
                  refine W_seq ?_
                  refine W_seq ?_
                  refine W_region ?_
                  refine Ops_q (q_load rfl rfl m0 rfl (by first | exact True.intro | trivial | (first | omega | (dsimp only; omega)) | exact Fin.isLt _ | (dsimp only; omega))) (lt_dec rfl) ?_
                  refine Ops_q (q_load rfl rfl m13 rfl (by first | exact True.intro | trivial | (first | omega | (dsimp only; omega)) | exact Fin.isLt _ | (dsimp only; omega))) (lt_dec rfl) ?_
                  refine Ops_q (q_call en_laws_eqIdentity rfl (w_laws_eqIdentity (by first | assumption | (first | omega | (dsimp only; omega)) | (simp; done) | decide) (by first | assumption | (first | omega | (dsimp only; omega)) | (simp; done) | decide)) (View.cons (Vw.rdO m1).v (View.cons (Vw.rdO m2).v (View.cons (Vw.rdO m14).v (Vw.rdO m15).v rfl rfl) rfl rfl) rfl rfl)) (lt_dec rfl) ?_
                  refine Ops_p (p_not rfl) (lt_dec rfl) ?_
                  refine Ops_p (p_move rfl) (lt_dec rfl) ?_
                  refine Ops_guard_t rfl rfl (lt_dec rfl) ?_
                  refine Ops_p (p_move rfl) (lt_dec rfl) ?_
                  refine Ops_guard_t rfl rfl (lt_dec rfl) ?_
                  refine Ops_p (p_move rfl) (lt_dec rfl) ?_
                  refine Ops_guard_t rfl rfl (lt_dec rfl) ?_
                  refine Ops_p (p_neq rfl rfl) (lt_dec rfl) ?_
                  refine Ops_p (p_pick_f rfl rfl) (lt_dec rfl) ?_
                  refine Ops_nil ?_
                  refine W_cond rfl (fun h18 => ?_) (fun h18 => ?_)
                  · try simp only [bs] at h18
                    exfalso; exact h18 (by first | rfl | trivial)
                  · try simp only [bs] at h18
                    refine W_skip ?_
                    refine W_seq ?_
                    refine W_region ?_
                    refine Ops_p (p_assign rfl) (lt_dec rfl) ?_
                    refine Ops_nil ?_
                    refine W_seq ?_
                    refine W_region ?_
                    refine Ops_q (q_load rfl rfl m7 rfl (by first | exact True.intro | trivial | (first | omega | (dsimp only; omega)) | exact Fin.isLt _ | (dsimp only; omega))) (lt_dec rfl) ?_
                    refine Ops_p (p_move rfl) (lt_dec rfl) ?_
                    refine Ops_q (q_call en_laws_heldIdentity rfl (w_laws_heldIdentity (k := 1) (n := List.length (mmT l m l)) (n2 := List.length (mmT l m m)) (by omega) (by omega) (by omega)) (View.cons (Vw.rdO m8).v (Vw.rdO m9).v rfl rfl)) (lt_dec rfl) ?_
                    refine Ops_p (p_assign rfl) (lt_dec rfl) ?_
                    refine Ops_nil ?_
                    refine W_seq ?_
                    refine W_seq ?_
                    refine W_region ?_
                    refine Ops_p (p_move rfl) (lt_dec rfl) ?_
                    refine Ops_p (p_lss rfl rfl) (lt_dec rfl) ?_
                    refine Ops_nil ?_
                    refine W_cond rfl (fun h19 => ?_) (fun h19 => ?_)
                    · try simp only [bs] at h19
                      refine W_seq ?_
                      refine W_region ?_
                      refine Ops_p (p_assign rfl) (lt_dec rfl) ?_
                      refine Ops_nil ?_
                      refine W_ret ?_
                      refine Exists.intro _ (And.intro (.cons (.tmp rfl) .nil) ?_)
                      first | rfl | (refine veq_bool ?_; simp_all; done) | (refine veq_bool ?_; simp; omega) | (refine veq_bool ?_; rw [eq_comm, decide_eq_false_iff_not]; omega) | (refine veq_bool ?_; rw [eq_comm, decide_eq_true_iff]; omega) | (refine veq_int ?_; omega) | (refine veq_arr8 fun j hj => ?_; (try dsimp only); first | (simp; done) | (simp; omega) | ((repeat' split) <;> first | rfl | (exfalso; omega) | (congr 1; omega) | (simp_all; done)))
                    · try simp only [bs] at h19
                      refine W_skip ?_
                      refine W_seq ?_
                      refine W_seq ?_
                      refine W_region ?_
                      refine Ops_p (p_move rfl) (lt_dec rfl) ?_
                      refine Ops_p (p_move rfl) (lt_dec rfl) ?_
                      refine Ops_p (p_neq rfl rfl) (lt_dec rfl) ?_
                      refine Ops_nil ?_
                      refine W_cond rfl (fun h20 => ?_) (fun h20 => ?_)
                      · try simp only [bs] at h20
                        refine W_seq ?_
                        refine W_region ?_
                        refine Ops_p (p_assign rfl) (lt_dec rfl) ?_
                        refine Ops_nil ?_
                        refine W_ret ?_
                        refine Exists.intro _ (And.intro (.cons (.tmp rfl) .nil) ?_)
                        first | rfl | (refine veq_bool ?_; simp_all; done) | (refine veq_bool ?_; simp; omega) | (refine veq_bool ?_; rw [eq_comm, decide_eq_false_iff_not]; omega) | (refine veq_bool ?_; rw [eq_comm, decide_eq_true_iff]; omega) | (refine veq_int ?_; omega) | (refine veq_arr8 fun j hj => ?_; (try dsimp only); first | (simp; done) | (simp; omega) | ((repeat' split) <;> first | rfl | (exfalso; omega) | (congr 1; omega) | (simp_all; done)))
                      · try simp only [bs] at h20
                        refine W_skip ?_
                        refine W_seq ?_
                        refine W_region ?_
                        refine Ops_p (p_assign rfl) (lt_dec rfl) ?_
                        refine Ops_nil ?_
                        refine W_ret ?_
                        refine Exists.intro _ (And.intro (.cons (.tmp rfl) .nil) ?_)
                        first | rfl | (refine veq_bool ?_; simp_all; done) | (refine veq_bool ?_; simp; omega) | (refine veq_bool ?_; rw [eq_comm, decide_eq_false_iff_not]; omega) | (refine veq_bool ?_; rw [eq_comm, decide_eq_true_iff]; omega) | (refine veq_int ?_; omega) | (refine veq_arr8 fun j hj => ?_; (try dsimp only); first | (simp; done) | (simp; omega) | ((repeat' split) <;> first | rfl | (exfalso; omega) | (congr 1; omega) | (simp_all; done)))
          · try simp only [bs] at hg3
            refine Ops_guard_f rfl rfl rfl (lt_dec rfl) ?_
            refine Ops_guard_f rfl rfl rfl (lt_dec rfl) ?_
            refine Ops_guard_f rfl rfl rfl (lt_dec rfl) ?_
            refine Ops_p (p_pick_t rfl rfl) (lt_dec rfl) ?_
            refine Ops_p (p_move rfl) (lt_dec rfl) ?_
            refine Ops_guard_f rfl rfl rfl (lt_dec rfl) ?_
            refine Ops_guard_f rfl rfl rfl (lt_dec rfl) ?_
            refine Ops_guard_f rfl rfl rfl (lt_dec rfl) ?_
            refine Ops_p (p_pick_t rfl rfl) (lt_dec rfl) ?_
            refine Ops_nil ?_
            refine W_true rfl ?_
            refine W_seq ?_
            refine W_region ?_
            refine Ops_p (p_assign rfl) (lt_dec rfl) ?_
            refine Ops_nil ?_
            refine W_ret ?_
            refine Exists.intro _ (And.intro (.cons (.tmp rfl) .nil) ?_)
            first | rfl | (refine veq_bool ?_; simp_all; done) | (refine veq_bool ?_; simp; omega) | (refine veq_bool ?_; rw [eq_comm, decide_eq_false_iff_not]; omega) | (refine veq_bool ?_; rw [eq_comm, decide_eq_true_iff]; omega) | (refine veq_int ?_; omega) | (refine veq_arr8 fun j hj => ?_; (try dsimp only); first | (simp; done) | (simp; omega) | ((repeat' split) <;> first | rfl | (exfalso; omega) | (congr 1; omega) | (simp_all; done)))
end Go.Proofs.Ytdcpggdbjllmpaa
