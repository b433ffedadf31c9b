/- What the Go function laws.FnExactIsTripleSystem does, shown of its loaded text; its conditions stand in the statement. -/
import Derived.Test.YtdcpggdbjllmpabTy
import Derived.Test.YtdcpggdbjllmpabFimplIsTripleSystem
import Derived.Test.YtdcpggdbjllmpabFlawseqInt64SS
import Derived.Test.YtdcpggdbjllmpabFlawsszInt64SS
import Derived.Test.YtdcpggdbjllmpabFlawstoInt64SS
import Derived.Test.YtdcpggdbjllmpabFspecIsTripleSystem
import Derived.Test.YtdcpggdbjllmpabGx12
import Derived.Test.YtdcpggdbjllmpabGx20
import Derived.Test.YtdcpggdbjllmpabM24
import Derived.Test.YtdcpggdbjllmpabM38
namespace Go.Proofs.Ytdcpggdbjllmpab
open Go Gx
set_option linter.unusedVariables false
theorem en_laws_FnExactIsTripleSystem : Enters Try.prog 6 := enters_of Try.func6 (by kernel_rfl) (by kernel_rfl)
set_option maxRecDepth 100000 in
theorem w_laws_FnExactIsTripleSystem {a : Value} {ha : a.oneCell' = true} {L : SL} {v : Int} (hv : inR .i64 v) (hl0 : L.length ≤ maxLen) (hi0 : ∀ p ∈ L, p.2.length ≤ maxLen ∧ ∀ n ∈ p.2, inR .i64 n) : CR Try.prog 6 (vals [.int .i64 v, .raw a ha]) [rss a L] (.bool true) := by
  refine CR_intro (rs := [.tmp 4]) tt tok Try.func6 rfl rfl rfl (by first | rfl | assumption) fun w => ?_
  have hB0 := ln2_max hi0
  refine W_seq ?_
  refine W_region ?_
  refine Ops_p (p_assign rfl) (lt_dec rfl) ?_
  refine Ops_nil ?_
  refine W_seq ?_
  refine W_region ?_
  refine Ops_p (p_assign rfl) (lt_dec rfl) ?_
  refine Ops_nil ?_
  refine W_seq ?_
  refine W_region ?_
  refine Ops_p (p_move rfl) (lt_dec rfl) ?_
  refine Ops_p (p_move rfl) (lt_dec rfl) ?_
  refine Ops_q (q_call en_laws_szInt64SS rfl (w_laws_szInt64SS hl0 hB0 (by omega)) (Vw.rss m0).v) (lt_dec rfl) ?_
  refine Ops_p (p_assign rfl) (lt_dec rfl) ?_
  refine Ops_nil ?_
  refine W_seq ?_
  refine W_seq ?_
  refine W_region ?_
  refine Ops_p (p_move rfl) (lt_dec rfl) ?_
  refine Ops_p (p_lss rfl rfl) (lt_dec rfl) ?_
  refine Ops_nil ?_
  refine W_cond rfl (fun h1 => ?_) (fun h1 => ?_)
  · try simp only [bs] at h1
    refine W_seq ?_
    refine W_region ?_
    refine Ops_p (p_assign rfl) (lt_dec rfl) ?_
    refine Ops_nil ?_
    refine W_ret ?_
    refine Exists.intro _ (And.intro (.cons (.tmp rfl) .nil) ?_)
    first | rfl | (refine veq_bool ?_; simp_all; done) | (refine veq_bool ?_; simp; omega) | (refine veq_bool ?_; rw [eq_comm, decide_eq_false_iff_not]; omega) | (refine veq_bool ?_; rw [eq_comm, decide_eq_true_iff]; omega) | (refine veq_int ?_; omega) | (refine veq_arr8 fun j hj => ?_; (try dsimp only); first | (simp; done) | (simp; omega) | ((repeat' split) <;> first | rfl | (exfalso; omega) | (congr 1; omega) | (simp_all; done)))
  · try simp only [bs] at h1
    have hz := szR_pos h1; have hlB := sz_bound hz; have hl1 := hlB.1; have hl2 := hlB.2; have hl3 : L.length ≤ 1100000 := (by omega); have hl4 : ∀ i, (L.getD i sd).2.length ≤ 1100000 := fun i => Nat.le_trans (hl2 i) (by omega)
    refine W_skip ?_
    refine W_seq ?_
    refine W_region ?_
    refine Ops_p (p_move rfl) (lt_dec rfl) ?_
    refine Ops_p (p_move rfl) (lt_dec rfl) ?_
    refine Ops_x rfl (x_callT en_laws_toInt64SS rfl (w_laws_toInt64SS hl1 hl2) HpDels.nil (Vw.rss m0) (fun _ => (HpDels.cons HpDel.head HpDels.nil)) (lt_dec rfl) fun x16_1 hx1 => ?_)
    refine Ops_q (q_call en_spec_IsTripleSystem rfl ((by have h := w_spec_IsTripleSystem (v := v) (T := x16_1.2) (ha := x16_1.1.2) (by rw [snd_len hx1]; exact hl1); rw [ts_eq hx1] at h; exact h)) (Vw.rssO m0).v) (lt_dec rfl) ?_
    refine Ops_p (p_assign rfl) (lt_dec rfl) ?_
    refine Ops_nil ?_
    refine W_seq ?_
    refine W_region ?_
    refine Ops_p (p_move rfl) (lt_dec rfl) ?_
    refine Ops_x rfl (x_callT en_laws_toInt64SS rfl (w_laws_toInt64SS hl1 hl2) HpDels.nil (Vw.rss m1) (fun _ => (HpDels.cons HpDel.head HpDels.nil)) (lt_dec rfl) fun x19_1 hx2 => ?_)
    refine Ops_p (p_assign rfl) (lt_dec rfl) ?_
    refine Ops_nil ?_
    refine W_seq ?_
    refine W_region ?_
    refine Ops_p (p_move rfl) (lt_dec rfl) ?_
    refine Ops_p (p_move rfl) (lt_dec rfl) ?_
    refine Ops_q (q_call en_impl_IsTripleSystem rfl ((by have h := w_impl_IsTripleSystem (v := v) (T := x19_1.2) (ha := x19_1.1.2) (by rw [snd_len hx2]; exact hl1); rw [ts_eq hx2] at h; exact h)) (Vw.rssO m0).v) (lt_dec rfl) ?_
    refine Ops_p (p_assign rfl) (lt_dec rfl) ?_
    refine Ops_nil ?_
    refine W_seq ?_
    refine W_seq ?_
    refine W_region ?_
    refine Ops_p (p_move rfl) (lt_dec rfl) ?_
    refine Ops_p (p_move rfl) (lt_dec rfl) ?_
    refine Ops_p (p_neq_b rfl rfl rfl) (lt_dec rfl) ?_
    refine Ops_nil ?_
    refine W_cond rfl (fun h2 => ?_) (fun h2 => ?_)
    · try simp only [bs] at h2
      exfalso; exact h2 (by first | rfl | trivial)
    · try simp only [bs] at h2
      refine W_skip ?_
      refine W_seq ?_
      refine W_seq ?_
      refine W_region ?_
      refine Ops_p (p_move rfl) (lt_dec rfl) ?_
      refine Ops_p (p_move rfl) (lt_dec rfl) ?_
      refine Ops_x rfl (x_callT en_laws_toInt64SS rfl (w_laws_toInt64SS hl1 hl2) HpDels.nil (Vw.rss m2) (fun _ => (HpDels.cons HpDel.head HpDels.nil)) (lt_dec rfl) fun x28_1 hx3 => ?_)
      refine Ops_q (q_call en_laws_eqInt64SS rfl (w_laws_eqInt64SS (hx2.trans hx3.symm) (by rw [snd_len hx2]; exact hl3) (fun i => by rw [snd_getD hx2 i]; exact hl4 i)) (View.cons (Vw.rssO m1).v (Vw.rssO m0).v rfl rfl)) (lt_dec rfl) ?_
      refine Ops_p (p_not rfl) (lt_dec rfl) ?_
      refine Ops_nil ?_
      refine W_false rfl ?_
      refine W_skip ?_
      refine W_seq ?_
      refine W_region ?_
      refine Ops_p (p_assign rfl) (lt_dec rfl) ?_
      refine Ops_nil ?_
      refine W_ret ?_
      refine Exists.intro _ (And.intro (.cons (.tmp rfl) .nil) ?_)
      first | rfl | (refine veq_bool ?_; simp_all; done) | (refine veq_bool ?_; simp; omega) | (refine veq_bool ?_; rw [eq_comm, decide_eq_false_iff_not]; omega) | (refine veq_bool ?_; rw [eq_comm, decide_eq_true_iff]; omega) | (refine veq_int ?_; omega) | (refine veq_arr8 fun j hj => ?_; (try dsimp only); first | (simp; done) | (simp; omega) | ((repeat' split) <;> first | rfl | (exfalso; omega) | (congr 1; omega) | (simp_all; done)))
end Go.Proofs.Ytdcpggdbjllmpab
