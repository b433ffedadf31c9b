/- What the Go function laws.FnExactForceCells does, shown of its loaded text; its conditions stand in the statement. -/
import Derived.Test.YtebcapplclgaeadTy
import Derived.Test.YtebcapplclgaeadFimplForceCells
import Derived.Test.YtebcapplclgaeadFlawseqInt64SS
import Derived.Test.YtebcapplclgaeadFlawsheldInt64SS
import Derived.Test.YtebcapplclgaeadFlawsmarkInt64SS
import Derived.Test.YtebcapplclgaeadFlawsszInt64SS
import Derived.Test.YtebcapplclgaeadFlawstoInt64SS
import Derived.Test.YtebcapplclgaeadFspecForceCells
import Derived.Test.YtebcapplclgaeadGx12
import Derived.Test.YtebcapplclgaeadGx20
import Derived.Test.YtebcapplclgaeadM24
namespace Go.Proofs.Ytebcapplclgaead
open Go Gx
set_option linter.unusedVariables false
theorem en_laws_FnExactForceCells : Enters Try.prog 11 := enters_of Try.func11 (by kernel_rfl) (by kernel_rfl)
set_option maxRecDepth 100000 in
theorem w_laws_FnExactForceCells {a : Value} {ha : a.oneCell' = true} {L : SL} (hl0 : L.length ≤ maxLen) (hi0 : ∀ p ∈ L, p.2.length ≤ maxLen ∧ ∀ n ∈ p.2, inR .i64 n) : CR Try.prog 11 (vals [.raw a ha]) [rss a L] (.bool true) := by
  refine CR_intro (rs := [.tmp 2]) tt tok Try.func11 rfl rfl rfl (by first | rfl | assumption) fun w => ?_
  have hB0 := ln2_max hi0
  refine W_seq ?_
  refine W_region ?_
  refine Ops_p (p_assign rfl) (lt_dec rfl) ?_
  refine Ops_nil ?_
  refine W_seq ?_
  refine W_region ?_
  refine Ops_p (p_assign rfl) (lt_dec rfl) ?_
  refine Ops_nil ?_
  refine W_seq ?_
  refine W_region ?_
  refine Ops_p (p_move rfl) (lt_dec rfl) ?_
  refine Ops_p (p_move rfl) (lt_dec rfl) ?_
  refine Ops_q (q_call en_laws_szInt64SS rfl (w_laws_szInt64SS hl0 hB0 (by omega)) (Vw.rss m0).v) (lt_dec rfl) ?_
  refine Ops_p (p_assign rfl) (lt_dec rfl) ?_
  refine Ops_nil ?_
  refine W_seq ?_
  refine W_seq ?_
  refine W_region ?_
  refine Ops_p (p_move rfl) (lt_dec rfl) ?_
  refine Ops_p (p_lss rfl rfl) (lt_dec rfl) ?_
  refine Ops_nil ?_
  refine W_cond rfl (fun h1 => ?_) (fun h1 => ?_)
  · try simp only [bs] at h1
    refine W_seq ?_
    refine W_region ?_
    refine Ops_p (p_assign rfl) (lt_dec rfl) ?_
    refine Ops_nil ?_
    refine W_ret ?_
    refine Exists.intro _ (And.intro (.cons (.tmp rfl) .nil) ?_)
    first | rfl | (refine veq_bool ?_; simp_all; done) | (refine veq_bool ?_; simp; omega) | (refine veq_bool ?_; rw [eq_comm, decide_eq_false_iff_not]; omega) | (refine veq_bool ?_; rw [eq_comm, decide_eq_true_iff]; omega) | (refine veq_int ?_; omega) | (refine veq_arr8 fun j hj => ?_; (try dsimp only); first | (simp; done) | (simp; omega) | ((repeat' split) <;> first | rfl | (exfalso; omega) | (congr 1; omega) | (simp_all; done))) | ((exfalso; omega))
  · try simp only [bs] at h1
    have hz := szR_pos h1; have hlB := sz_bound hz; have hl1 := hlB.1; have hl2 := hlB.2; have hl3 : L.length ≤ 1100000 := (by omega); have hl4 : ∀ i, (L.getD i sd).2.length ≤ 1100000 := fun i => Nat.le_trans (hl2 i) (by omega)
    refine W_skip ?_
    refine W_seq ?_
    refine W_region ?_
    refine Ops_p (p_move rfl) (lt_dec rfl) ?_
    refine Ops_x rfl (x_callT en_laws_toInt64SS rfl (w_laws_toInt64SS hl1 hl2) HpDels.nil (Vw.rss m0) (fun _ => (HpDels.cons HpDel.head HpDels.nil)) (lt_dec rfl) fun x21_1 hx1 => ?_)
    refine Ops_x rfl (x_callT en_spec_ForceCells rfl ((by have h := w_spec_ForceCells (L := x21_1.2) (ha := x21_1.1.2); rw [isPar_eq hx1, fcS_eq hx1] at h; exact h)) HpDels.nil (Vw.rssO m0) (fun _ => (HpDels.cons HpDel.head HpDels.nil)) (lt_dec rfl) fun x22_1 hx2 => ?_)
    refine Ops_p (p_move rfl) (lt_dec rfl) ?_
    refine Ops_p (p_extract rfl rfl) (lt_dec rfl) ?_
    refine Ops_p (p_extract rfl rfl) (lt_dec rfl) ?_
    refine Ops_p (p_assign rfl) (lt_dec rfl) ?_
    refine Ops_p (p_assign rfl) (lt_dec rfl) ?_
    refine Ops_nil ?_
    refine W_seq ?_
    refine W_region ?_
    refine Ops_p (p_move rfl) (lt_dec rfl) ?_
    refine Ops_x rfl (x_callT en_laws_toInt64SS rfl (w_laws_toInt64SS hl1 hl2) HpDels.nil (Vw.rss m2) (fun _ => (HpDels.cons HpDel.head HpDels.nil)) (lt_dec rfl) fun x26_1 hx3 => ?_)
    refine Ops_p (p_assign rfl) (lt_dec rfl) ?_
    refine Ops_nil ?_
    refine W_seq ?_
    refine W_region ?_
    refine Ops_p (p_move rfl) (lt_dec rfl) ?_
    refine Ops_x rfl (x_callT en_impl_ForceCells rfl ((by have h := w_impl_ForceCells (L := x26_1.2) (ha := x26_1.1.2); rw [isPar_eq hx3, fcS_eq hx3] at h; exact h)) HpDels.nil (Vw.rssO m0) (fun _ => (HpDels.cons HpDel.head HpDels.nil)) (lt_dec rfl) fun x29_1 hx4 => ?_)
    refine Ops_p (p_move rfl) (lt_dec rfl) ?_
    refine Ops_p (p_extract rfl rfl) (lt_dec rfl) ?_
    refine Ops_p (p_extract rfl rfl) (lt_dec rfl) ?_
    refine Ops_p (p_assign rfl) (lt_dec rfl) ?_
    refine Ops_p (p_assign rfl) (lt_dec rfl) ?_
    refine Ops_nil ?_
    refine W_seq ?_
    refine W_seq ?_
    refine W_region ?_
    refine Ops_p (p_move rfl) (lt_dec rfl) ?_
    refine Ops_p (p_move rfl) (lt_dec rfl) ?_
    refine Ops_q (q_call en_laws_eqInt64SS rfl (w_laws_eqInt64SS (hx4.trans hx2.symm) (by rw [snd_cnt hx4]; exact Nat.le_trans (fcS_b L).1 (by omega)) (fun i => Nat.le_trans (len_getD hx4 (fcS_b L).2 i) (by omega))) (View.cons (Vw.rssO m0).v (Vw.rssO m2).v rfl rfl)) (lt_dec rfl) ?_
    refine Ops_p (p_not rfl) (lt_dec rfl) ?_
    refine Ops_p (p_move rfl) (lt_dec rfl) ?_
    refine Ops_guard_t rfl rfl (lt_dec rfl) ?_
    refine Ops_p (p_move rfl) (lt_dec rfl) ?_
    refine Ops_guard_t rfl rfl (lt_dec rfl) ?_
    refine Ops_p (p_move rfl) (lt_dec rfl) ?_
    refine Ops_guard_t rfl rfl (lt_dec rfl) ?_
    refine Ops_p (p_neq rfl rfl) (lt_dec rfl) ?_
    refine Ops_p (p_pick_f rfl rfl) (lt_dec rfl) ?_
    refine Ops_nil ?_
    refine W_cond rfl (fun h2 => ?_) (fun h2 => ?_)
    · try simp only [bs] at h2
      exfalso; exact h2 (by first | rfl | trivial)
    · try simp only [bs] at h2
      refine W_skip ?_
      refine W_seq ?_
      refine W_seq ?_
      refine W_region ?_
      refine Ops_p (p_move rfl) (lt_dec rfl) ?_
      refine Ops_p (p_move rfl) (lt_dec rfl) ?_
      refine Ops_x rfl (x_callT en_laws_toInt64SS rfl (w_laws_toInt64SS hl1 hl2) HpDels.nil (Vw.rss m4) (fun _ => (HpDels.cons HpDel.head HpDels.nil)) (lt_dec rfl) fun x43_1 hx5 => ?_)
      refine Ops_q (q_call en_laws_eqInt64SS rfl (w_laws_eqInt64SS (hx3.trans hx5.symm) (by rw [snd_len hx3]; exact hl3) (fun i => by rw [snd_getD hx3 i]; exact hl4 i)) (View.cons (Vw.rssO m2).v (Vw.rssO m0).v rfl rfl)) (lt_dec rfl) ?_
      refine Ops_p (p_not rfl) (lt_dec rfl) ?_
      refine Ops_nil ?_
      refine W_false rfl ?_
      refine W_skip ?_
      refine W_seq ?_
      refine W_region ?_
      refine Ops_p (p_assign rfl) (lt_dec rfl) ?_
      refine Ops_nil ?_
      refine W_seq ?_
      refine W_region ?_
      refine Ops_p (p_move rfl) (lt_dec rfl) ?_
      refine Ops_p (p_move rfl) (lt_dec rfl) ?_
      refine Ops_x rfl (x_callT en_laws_markInt64SS rfl (w_laws_markInt64SS (by rw [snd_len hx3]; exact hl3) (by rw [sum_eq hx3]; omega) (by omega)) (HpDels.cons ((HpDel.head).tail).tail HpDels.nil) (Vw.none _) (fun _ => (HpDels.cons ((HpDel.head).tail).tail HpDels.nil)) (lt_dec rfl) fun _ _ => ?_)
      refine Ops_p (p_assign rfl) (lt_dec rfl) ?_
      refine Ops_nil ?_
      refine W_seq ?_
      refine W_seq ?_
      have h99 := sumL_nn x26_1.2 x26_1.2.length
      refine W_region ?_
      refine Ops_p (p_move rfl) (lt_dec rfl) ?_
      refine Ops_p (p_lss rfl rfl) (lt_dec rfl) ?_
      refine Ops_p (p_move rfl) (lt_dec rfl) ?_
      refine Ops_guard rfl rfl (lt_dec rfl) (fun hg1 => ?_) (fun hg1 => ?_)
      · try simp only [bs] at hg1
        refine Ops_p (p_move rfl) (lt_dec rfl) ?_
        refine Ops_guard_t rfl rfl (lt_dec rfl) ?_
        refine Ops_p (p_move rfl) (lt_dec rfl) ?_
        refine Ops_guard_t rfl rfl (lt_dec rfl) ?_
        refine Ops_q (q_call en_laws_eqInt64SS rfl (w_laws_eqInt64SS (hx4.trans hx2.symm) (by rw [snd_cnt hx4]; exact Nat.le_trans (fcS_b L).1 (by omega)) (fun i => Nat.le_trans (len_getD hx4 (fcS_b L).2 i) (by omega))) (View.cons (Vw.rssO m1).v (Vw.rssO m3).v rfl rfl)) (lt_dec rfl) ?_
        refine Ops_guard_t rfl rfl (lt_dec rfl) ?_
        refine Ops_p (p_not rfl) (lt_dec rfl) ?_
        refine Ops_p (p_pick_f rfl rfl) (lt_dec rfl) ?_
        refine Ops_p (p_move rfl) (lt_dec rfl) ?_
        refine Ops_guard_t rfl rfl (lt_dec rfl) ?_
        refine Ops_p (p_move rfl) (lt_dec rfl) ?_
        refine Ops_guard_t rfl rfl (lt_dec rfl) ?_
        refine Ops_p (p_move rfl) (lt_dec rfl) ?_
        refine Ops_guard_t rfl rfl (lt_dec rfl) ?_
        refine Ops_p (p_neq rfl rfl) (lt_dec rfl) ?_
        refine Ops_p (p_pick_f rfl rfl) (lt_dec rfl) ?_
        refine Ops_nil ?_
        refine W_cond rfl (fun h3 => ?_) (fun h3 => ?_)
        · try simp only [bs] at h3
          exfalso; exact h3 (by first | rfl | trivial)
        · try simp only [bs] at h3
          refine W_skip ?_
          refine W_seq ?_
          refine W_region ?_
          refine Ops_p (p_assign rfl) (lt_dec rfl) ?_
          refine Ops_nil ?_
          refine W_seq ?_
          refine W_region ?_
          refine Ops_p (p_move rfl) (lt_dec rfl) ?_
          refine Ops_p (p_move rfl) (lt_dec rfl) ?_
          refine Ops_x rfl (x_callT en_laws_markInt64SS rfl (w_laws_markInt64SS (by rw [snd_cnt hx4]; exact Nat.le_trans (fcS_b L).1 (by omega)) (by have := sum_cnt hx4 (fcS_b L); omega) (by omega)) (HpDels.cons (HpDel.head).tail HpDels.nil) (Vw.none _) (fun _ => (HpDels.cons (HpDel.head).tail HpDels.nil)) (lt_dec rfl) fun _ _ => ?_)
          refine Ops_p (p_assign rfl) (lt_dec rfl) ?_
          refine Ops_nil ?_
          refine W_seq ?_
          refine W_region ?_
          refine Ops_p (p_assign rfl) (lt_dec rfl) ?_
          refine Ops_nil ?_
          refine W_seq ?_
          refine W_region ?_
          refine Ops_p (p_move rfl) (lt_dec rfl) ?_
          refine Ops_p (p_move rfl) (lt_dec rfl) ?_
          refine Ops_q (q_call en_laws_heldInt64SS rfl (w_laws_heldInt64SS (L := x29_1.2) (by rw [snd_cnt hx4]; exact Nat.le_trans (fcS_b L).1 (by omega)) (by have := sum_cnt hx4 (fcS_b L); omega) (by omega)) (Vw.rssO m1).v) (lt_dec rfl) ?_
          refine Ops_p (p_assign rfl) (lt_dec rfl) ?_
          refine Ops_nil ?_
          refine W_seq ?_
          refine W_seq ?_
          refine W_region ?_
          refine Ops_p (p_move rfl) (lt_dec rfl) ?_
          refine Ops_p (p_lss rfl rfl) (lt_dec rfl) ?_
          refine Ops_nil ?_
          refine W_cond rfl (fun h4 => ?_) (fun h4 => ?_)
          · try simp only [bs] at h4
            exfalso; have h99 := sumL_nn x29_1.2 (List.length x29_1.2); omega
          · try simp only [bs] at h4
            refine W_skip ?_
            refine W_seq ?_
            refine W_seq ?_
            refine W_region ?_
            refine Ops_p (p_move rfl) (lt_dec rfl) ?_
            refine Ops_p (p_move rfl) (lt_dec rfl) ?_
            refine Ops_p (p_neq rfl rfl) (lt_dec rfl) ?_
            refine Ops_nil ?_
            refine W_cond rfl (fun h5 => ?_) (fun h5 => ?_)
            · try simp only [bs] at h5
              refine W_seq ?_
              refine W_region ?_
              refine Ops_p (p_assign rfl) (lt_dec rfl) ?_
              refine Ops_nil ?_
              refine W_ret ?_
              refine Exists.intro _ (And.intro (.cons (.tmp rfl) .nil) ?_)
              first | rfl | (refine veq_bool ?_; simp_all; done) | (refine veq_bool ?_; simp; omega) | (refine veq_bool ?_; rw [eq_comm, decide_eq_false_iff_not]; omega) | (refine veq_bool ?_; rw [eq_comm, decide_eq_true_iff]; omega) | (refine veq_int ?_; omega) | (refine veq_arr8 fun j hj => ?_; (try dsimp only); first | (simp; done) | (simp; omega) | ((repeat' split) <;> first | rfl | (exfalso; omega) | (congr 1; omega) | (simp_all; done))) | ((exfalso; omega))
            · try simp only [bs] at h5
              refine W_skip ?_
              refine W_seq ?_
              refine W_region ?_
              refine Ops_p (p_move rfl) (lt_dec rfl) ?_
              refine Ops_x rfl (x_callT en_laws_toInt64SS rfl (w_laws_toInt64SS hl1 hl2) HpDels.nil (Vw.rss m5) (fun _ => (HpDels.cons HpDel.head HpDels.nil)) (lt_dec rfl) fun x75_1 hx6 => ?_)
              refine Ops_x rfl (x_callT en_impl_ForceCells rfl ((by have h := w_impl_ForceCells (L := x75_1.2) (ha := x75_1.1.2); rw [isPar_eq hx6, fcS_eq hx6] at h; exact h)) HpDels.nil (Vw.rssO m0) (fun _ => (HpDels.cons HpDel.head HpDels.nil)) (lt_dec rfl) fun x76_1 hx7 => ?_)
              refine Ops_p (p_move rfl) (lt_dec rfl) ?_
              refine Ops_p (p_extract rfl rfl) (lt_dec rfl) ?_
              refine Ops_p (p_extract rfl rfl) (lt_dec rfl) ?_
              refine Ops_p (p_assign rfl) (lt_dec rfl) ?_
              refine Ops_p (p_assign rfl) (lt_dec rfl) ?_
              refine Ops_nil ?_
              refine W_seq ?_
              refine W_seq ?_
              refine W_region ?_
              refine Ops_p (p_move rfl) (lt_dec rfl) ?_
              refine Ops_p (p_move rfl) (lt_dec rfl) ?_
              refine Ops_q (q_call en_laws_eqInt64SS rfl (w_laws_eqInt64SS (hx7.trans hx2.symm) (by rw [snd_cnt hx7]; exact Nat.le_trans (fcS_b L).1 (by omega)) (fun i => Nat.le_trans (len_getD hx7 (fcS_b L).2 i) (by omega))) (View.cons (Vw.rssO m0).v (Vw.rssO m5).v rfl rfl)) (lt_dec rfl) ?_
              refine Ops_p (p_not rfl) (lt_dec rfl) ?_
              refine Ops_p (p_move rfl) (lt_dec rfl) ?_
              refine Ops_guard_t rfl rfl (lt_dec rfl) ?_
              refine Ops_p (p_move rfl) (lt_dec rfl) ?_
              refine Ops_guard_t rfl rfl (lt_dec rfl) ?_
              refine Ops_p (p_move rfl) (lt_dec rfl) ?_
              refine Ops_guard_t rfl rfl (lt_dec rfl) ?_
              refine Ops_p (p_neq rfl rfl) (lt_dec rfl) ?_
              refine Ops_p (p_pick_f rfl rfl) (lt_dec rfl) ?_
              refine Ops_nil ?_
              refine W_cond rfl (fun h6 => ?_) (fun h6 => ?_)
              · try simp only [bs] at h6
                exfalso; exact h6 (by first | rfl | trivial)
              · try simp only [bs] at h6
                refine W_skip ?_
                refine W_seq ?_
                refine W_region ?_
                refine Ops_p (p_assign rfl) (lt_dec rfl) ?_
                refine Ops_nil ?_
                refine W_seq ?_
                refine W_region ?_
                refine Ops_p (p_move rfl) (lt_dec rfl) ?_
                refine Ops_p (p_move rfl) (lt_dec rfl) ?_
                refine Ops_q (q_call en_laws_heldInt64SS rfl (w_laws_heldInt64SS (L := x29_1.2) (by rw [snd_cnt hx4]; exact Nat.le_trans (fcS_b L).1 (by omega)) (by have := sum_cnt hx4 (fcS_b L); omega) (by omega)) (Vw.rssO m3).v) (lt_dec rfl) ?_
                refine Ops_p (p_assign rfl) (lt_dec rfl) ?_
                refine Ops_nil ?_
                refine W_seq ?_
                refine W_seq ?_
                refine W_region ?_
                refine Ops_p (p_move rfl) (lt_dec rfl) ?_
                refine Ops_p (p_lss rfl rfl) (lt_dec rfl) ?_
                refine Ops_nil ?_
                refine W_cond rfl (fun h7 => ?_) (fun h7 => ?_)
                · try simp only [bs] at h7
                  exfalso; have h99 := sumL_nn x29_1.2 (List.length x29_1.2); omega
                · try simp only [bs] at h7
                  refine W_skip ?_
                  refine W_seq ?_
                  refine W_seq ?_
                  refine W_region ?_
                  refine Ops_p (p_move rfl) (lt_dec rfl) ?_
                  refine Ops_p (p_move rfl) (lt_dec rfl) ?_
                  refine Ops_p (p_neq rfl rfl) (lt_dec rfl) ?_
                  refine Ops_nil ?_
                  refine W_cond rfl (fun h8 => ?_) (fun h8 => ?_)
                  · try simp only [bs] at h8
                    refine W_seq ?_
                    refine W_region ?_
                    refine Ops_p (p_assign rfl) (lt_dec rfl) ?_
                    refine Ops_nil ?_
                    refine W_ret ?_
                    refine Exists.intro _ (And.intro (.cons (.tmp rfl) .nil) ?_)
                    first | rfl | (refine veq_bool ?_; simp_all; done) | (refine veq_bool ?_; simp; omega) | (refine veq_bool ?_; rw [eq_comm, decide_eq_false_iff_not]; omega) | (refine veq_bool ?_; rw [eq_comm, decide_eq_true_iff]; omega) | (refine veq_int ?_; omega) | (refine veq_arr8 fun j hj => ?_; (try dsimp only); first | (simp; done) | (simp; omega) | ((repeat' split) <;> first | rfl | (exfalso; omega) | (congr 1; omega) | (simp_all; done))) | ((exfalso; omega))
                  · try simp only [bs] at h8
                    refine W_skip ?_
                    refine W_seq ?_
                    refine W_region ?_
                    refine Ops_p (p_assign rfl) (lt_dec rfl) ?_
                    refine Ops_nil ?_
                    refine W_ret ?_
                    refine Exists.intro _ (And.intro (.cons (.tmp rfl) .nil) ?_)
                    first | rfl | (refine veq_bool ?_; simp_all; done) | (refine veq_bool ?_; simp; omega) | (refine veq_bool ?_; rw [eq_comm, decide_eq_false_iff_not]; omega) | (refine veq_bool ?_; rw [eq_comm, decide_eq_true_iff]; omega) | (refine veq_int ?_; omega) | (refine veq_arr8 fun j hj => ?_; (try dsimp only); first | (simp; done) | (simp; omega) | ((repeat' split) <;> first | rfl | (exfalso; omega) | (congr 1; omega) | (simp_all; done))) | ((exfalso; omega))
      · try simp only [bs] at hg1
        refine Ops_guard_f rfl rfl rfl (lt_dec rfl) ?_
        refine Ops_guard_f rfl rfl rfl (lt_dec rfl) ?_
        refine Ops_guard_f rfl rfl rfl (lt_dec rfl) ?_
        refine Ops_p (p_pick_t rfl rfl) (lt_dec rfl) ?_
        refine Ops_p (p_move rfl) (lt_dec rfl) ?_
        refine Ops_guard_f rfl rfl rfl (lt_dec rfl) ?_
        refine Ops_guard_f rfl rfl rfl (lt_dec rfl) ?_
        refine Ops_guard_f rfl rfl rfl (lt_dec rfl) ?_
        refine Ops_p (p_pick_t rfl rfl) (lt_dec rfl) ?_
        refine Ops_nil ?_
        refine W_true rfl ?_
        refine W_seq ?_
        refine W_region ?_
        refine Ops_p (p_assign rfl) (lt_dec rfl) ?_
        refine Ops_nil ?_
        refine W_ret ?_
        refine Exists.intro _ (And.intro (.cons (.tmp rfl) .nil) ?_)
        first | rfl | (refine veq_bool ?_; simp_all; done) | (refine veq_bool ?_; simp; omega) | (refine veq_bool ?_; rw [eq_comm, decide_eq_false_iff_not]; omega) | (refine veq_bool ?_; rw [eq_comm, decide_eq_true_iff]; omega) | (refine veq_int ?_; omega) | (refine veq_arr8 fun j hj => ?_; (try dsimp only); first | (simp; done) | (simp; omega) | ((repeat' split) <;> first | rfl | (exfalso; omega) | (congr 1; omega) | (simp_all; done))) | ((exfalso; omega))
end Go.Proofs.Ytebcapplclgaead
