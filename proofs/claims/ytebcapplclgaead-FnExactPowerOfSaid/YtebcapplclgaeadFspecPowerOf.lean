/- What the Go function spec.PowerOf does, shown of its loaded text; its conditions stand in the statement. -/
import Derived.Test.YtebcapplclgaeadTy
import Derived.Test.YtebcapplclgaeadFspecl01In
import Derived.Test.YtebcapplclgaeadFspecl05Code
import Derived.Test.YtebcapplclgaeadFspecl05Order
import Derived.Test.YtebcapplclgaeadM7
namespace Go.Proofs.Ytebcapplclgaead
open Go Gx
set_option linter.unusedVariables false
theorem en_spec_PowerOf : Enters Try.prog 20 := enters_of Try.func20 (by kernel_rfl) (by kernel_rfl)
set_option maxRecDepth 100000 in
theorem w_spec_PowerOf {t : Nat → Fin 256} {n : Int} {x : Fin 256} {k : Int}  : CR Try.prog 20 (vals [.agg [.int .i64 n, .arr8 100 t], .u8 x, .int .i64 k]) [] (.tup [.u8 (bif isLp n t && ([x].all (ltn n) && decide (0 ≤ k ∧ k ≤ 1000000)) then nth (mulX t x) 0 (k % ((ordN t x : Nat) : Int)).toNat else 0), .int .i64 (code2 (isLp n t) ([x].all (ltn n) && decide (0 ≤ k ∧ k ≤ 1000000)))]) := by
  refine CR_intro (rs := [.tmp 6, .tmp 7]) tt tok Try.func20 rfl rfl rfl (by first | rfl | assumption) fun w => ?_
  refine W_seq ?_
  refine W_region ?_
  refine Ops_x rfl (x_box rfl rfl (lt_dec rfl) fun b3_1 => ?_)
  refine Ops_p (p_assign rfl) (lt_dec rfl) ?_
  refine Ops_p (p_assign rfl) (lt_dec rfl) ?_
  refine Ops_nil ?_
  refine W_seq ?_
  refine W_region ?_
  refine Ops_q (q_load rfl rfl m0 rfl (by first | trivial | (first | omega | (dsimp only; omega)) | exact Fin.isLt _ | (dsimp only; omega))) (lt_dec rfl) ?_
  refine Ops_p (p_move rfl) (lt_dec rfl) ?_
  refine Ops_q (q_call en_spec_l05Code rfl (w_spec_l05Code) (View.none _)) (lt_dec rfl) ?_
  refine Ops_p (p_assign rfl) (lt_dec rfl) ?_
  refine Ops_nil ?_
  refine W_seq ?_
  refine W_seq ?_
  refine W_region ?_
  refine Ops_p (p_move rfl) (lt_dec rfl) ?_
  refine Ops_p (p_eql rfl rfl) (lt_dec rfl) ?_
  refine Ops_p (p_move rfl) (lt_dec rfl) ?_
  refine Ops_guard rfl rfl (lt_dec rfl) (fun hg1 => ?_) (fun hg1 => ?_)
  · try simp only [bs] at hg1
    refine Ops_p (p_move rfl) (lt_dec rfl) ?_
    refine Ops_guard_t rfl rfl (lt_dec rfl) ?_
    refine Ops_q (q_call en_spec_l01In rfl (w_spec_l01In) (View.none _)) (lt_dec rfl) ?_
    refine Ops_guard_t rfl rfl (lt_dec rfl) ?_
    refine Ops_p (p_not rfl) (lt_dec rfl) ?_
    refine Ops_p (p_pick_t rfl rfl) (lt_dec rfl) ?_
    refine Ops_nil ?_
    refine W_cond rfl (fun h1 => ?_) (fun h1 => ?_)
    · try simp only [bs] at h1
      refine W_region ?_
      refine Ops_p (p_assign rfl) (lt_dec rfl) ?_
      refine Ops_nil ?_
      refine W_seq ?_
      refine W_seq ?_
      refine W_region ?_
      refine Ops_p (p_move rfl) (lt_dec rfl) ?_
      refine Ops_p (p_neq rfl rfl) (lt_dec rfl) ?_
      refine Ops_nil ?_
      refine W_cond rfl (fun h2 => ?_) (fun h2 => ?_)
      · try simp only [bs] at h2
        refine W_seq ?_
        refine W_region ?_
        refine Ops_p (p_move rfl) (lt_dec rfl) ?_
        refine Ops_p (p_assign rfl) (lt_dec rfl) ?_
        refine Ops_p (p_assign rfl) (lt_dec rfl) ?_
        refine Ops_nil ?_
        refine W_ret ?_
        refine Exists.intro _ (And.intro (.cons (.tmp rfl) (.cons (.tmp rfl) .nil)) ?_)
        first | rfl | (refine veq_bool ?_; simp_all; done) | (refine veq_bool ?_; simp; omega) | (refine veq_bool ?_; rw [eq_comm, decide_eq_false_iff_not]; omega) | (refine veq_bool ?_; rw [eq_comm, decide_eq_true_iff]; omega) | (refine veq_int ?_; omega) | (refine veq_arr8 fun j hj => ?_; (try dsimp only); first | (simp; done) | (simp; omega) | ((repeat' split) <;> first | rfl | (exfalso; omega) | (congr 1; omega) | (simp_all; done))) | (exfalso; omega) | (have e1 := hg1; rw [lp_x00] at e1; have e := pwa (c := decide (0 ≤ k ∧ k ≤ 1000000)) e1 (decide_eq_false h1); refine veq_tup2 (veq_u8 ?_) (veq_int e.2.symm); rw [e.1]; rfl) | (have e1 := hg1; rw [lp_x00] at e1; have e := pwc (c := decide (0 ≤ k ∧ k ≤ 1000000)) e1; refine veq_tup2 (veq_u8 ?_) (veq_int (lp_x00.trans e.2.symm)); rw [e.1]; rfl) | (have e1 := hg1; rw [lp_x00] at e1; obtain rfl : i = (k % ((ordN t x : Nat) : Int)).toNat := (by omega); have e := pwb (c := decide (0 ≤ k ∧ k ≤ 1000000)) e1 (decide_eq_true h1); refine veq_tup2 (veq_u8 ?_) (veq_int e.2.symm); rw [e.1]; rfl)
      · try simp only [bs] at h2
        exfalso; first | omega | exact absurd h2 (by decide)
    · try simp only [bs] at h1
      refine W_skip ?_
      refine W_seq ?_
      refine W_seq ?_
      refine W_region ?_
      refine Ops_p (p_move rfl) (lt_dec rfl) ?_
      refine Ops_p (p_neq rfl rfl) (lt_dec rfl) ?_
      refine Ops_nil ?_
      refine W_cond rfl (fun h3 => ?_) (fun h3 => ?_)
      · try simp only [bs] at h3
        refine W_seq ?_
        refine W_region ?_
        refine Ops_p (p_move rfl) (lt_dec rfl) ?_
        refine Ops_p (p_assign rfl) (lt_dec rfl) ?_
        refine Ops_p (p_assign rfl) (lt_dec rfl) ?_
        refine Ops_nil ?_
        refine W_ret ?_
        refine Exists.intro _ (And.intro (.cons (.tmp rfl) (.cons (.tmp rfl) .nil)) ?_)
        first | rfl | (refine veq_bool ?_; simp_all; done) | (refine veq_bool ?_; simp; omega) | (refine veq_bool ?_; rw [eq_comm, decide_eq_false_iff_not]; omega) | (refine veq_bool ?_; rw [eq_comm, decide_eq_true_iff]; omega) | (refine veq_int ?_; omega) | (refine veq_arr8 fun j hj => ?_; (try dsimp only); first | (simp; done) | (simp; omega) | ((repeat' split) <;> first | rfl | (exfalso; omega) | (congr 1; omega) | (simp_all; done))) | (exfalso; omega) | (have e1 := hg1; rw [lp_x00] at e1; have e := pwa (c := decide (0 ≤ k ∧ k ≤ 1000000)) e1 (decide_eq_false h1); refine veq_tup2 (veq_u8 ?_) (veq_int e.2.symm); rw [e.1]; rfl) | (have e1 := hg1; rw [lp_x00] at e1; have e := pwc (c := decide (0 ≤ k ∧ k ≤ 1000000)) e1; refine veq_tup2 (veq_u8 ?_) (veq_int (lp_x00.trans e.2.symm)); rw [e.1]; rfl) | (have e1 := hg1; rw [lp_x00] at e1; obtain rfl : i = (k % ((ordN t x : Nat) : Int)).toNat := (by omega); have e := pwb (c := decide (0 ≤ k ∧ k ≤ 1000000)) e1 (decide_eq_true h1); refine veq_tup2 (veq_u8 ?_) (veq_int e.2.symm); rw [e.1]; rfl)
      · try simp only [bs] at h3
        have h6 := h3; rw [lp_x00] at h6; have hl := (code2_eq h6).1; have h5 := ltn_1 (code2_eq h6).2; have hs := lp_sq hl; have hn := hs.1; have ho := ord_pos (t := t) (x := x); have hm0 := Int.emod_nonneg k (show ((ordN t x : Nat) : Int) ≠ 0 by omega); have hlt := Int.emod_lt_of_pos k ho; have hle := ord_le hl h5
        refine W_skip ?_
        refine W_seq ?_
        refine W_region ?_
        refine Ops_p (p_assign rfl) (lt_dec rfl) ?_
        refine Ops_nil ?_
        refine W_seq ?_
        refine W_seq ?_
        refine W_region ?_
        refine Ops_p (p_move rfl) (lt_dec rfl) ?_
        refine Ops_q (q_load rfl rfl m0 rfl (by first | trivial | (first | omega | (dsimp only; omega)) | exact Fin.isLt _ | (dsimp only; omega))) (lt_dec rfl) ?_
        refine Ops_p (p_move rfl) (lt_dec rfl) ?_
        refine Ops_q (q_call en_spec_l05Order rfl (w_spec_l05Order hl h5) (View.none _)) (lt_dec rfl) ?_
        refine Ops_p (p_rem rfl rfl (by omega) (by omega)) (lt_dec rfl) ?_
        refine Ops_p (p_assign rfl) (lt_dec rfl) ?_
        refine Ops_nil ?_
        refine W_block ?_
        refine W_loop (α := Nat) (fun i => ⟨[(0, .agg [.int .i64 n, .arr8 100 t]), (1, .u8 x), (2, .int .i64 (k % ((ordN t x : Nat) : Int) - (i : Int))), (3, .ptr b3_1 0 none), (7, .int .i64 0), (9, .u8 (nth (mulX t x) 0 i)), (10, .agg [.int .i64 n, .arr8 100 t]), (11, .u8 x), (16, .int .i64 k), (23, .int .i64 k), (24, .agg [.int .i64 n, .arr8 100 t]), (25, .u8 x), (26, .int .i64 ((ordN t x : Nat) : Int)), (27, .int .i64 (k % ((ordN t x : Nat) : Int)))], [.var b3_1 (.agg [.int .i64 n, .arr8 100 t])]⟩) (fun i => i ≤ (k % ((ordN t x : Nat) : Int)).toNat) (fun i => (k % ((ordN t x : Nat) : Int)).toNat - i) 0 ?_ ?_ ?_
        · show _ ≤ _; omega
        · exact Wk.intro (.cons rfl (by first | rfl | exact veq_int (by first | omega | (dsimp only; omega))) (.cons rfl (by first | rfl | exact veq_int (by first | omega | (dsimp only; omega))) (.cons rfl (by first | rfl | exact veq_int (by first | omega | (dsimp only; omega))) (.cons rfl (by first | rfl | exact veq_int (by first | omega | (dsimp only; omega))) (.cons rfl (by first | rfl | exact veq_int (by first | omega | (dsimp only; omega))) (.cons rfl (by first | rfl | exact veq_int (by first | omega | (dsimp only; omega))) (.cons rfl (by first | rfl | exact veq_int (by first | omega | (dsimp only; omega))) (.cons rfl (by first | rfl | exact veq_int (by first | omega | (dsimp only; omega))) (.cons rfl (by first | rfl | exact veq_int (by first | omega | (dsimp only; omega))) (.cons rfl (by first | rfl | exact veq_int (by first | omega | (dsimp only; omega))) (.cons rfl (by first | rfl | exact veq_int (by first | omega | (dsimp only; omega))) (.cons rfl (by first | rfl | exact veq_int (by first | omega | (dsimp only; omega))) (.cons rfl (by first | rfl | exact veq_int (by first | omega | (dsimp only; omega))) (.cons rfl (by first | rfl | exact veq_int (by first | omega | (dsimp only; omega))) .nil)))))))))))))) (.keep rfl rfl (fun _ h => h) .nil)
        · rintro i hR
          have hb := nth0_lt hs h5 i
          refine W_seq ?_
          refine W_seq ?_
          refine W_region ?_
          refine Ops_p (p_move rfl) (lt_dec rfl) ?_
          refine Ops_p (p_gtr rfl rfl) (lt_dec rfl) ?_
          refine Ops_nil ?_
          refine W_cond rfl (fun h4 => ?_) (fun h4 => ?_)
          · try simp only [bs] at h4
            refine W_skip ?_
            refine W_seq ?_
            refine W_block ?_
            refine W_region ?_
            refine Ops_p (p_move rfl) (lt_dec rfl) ?_
            refine Ops_p (p_move rfl) (lt_dec rfl) ?_
            refine Ops_p (p_fieldAddr rfl rfl rfl rfl rfl rfl) (lt_dec rfl) ?_
            refine Ops_p (p_ixN 10 _ rfl rfl rfl rfl rfl rfl (by first | (first | omega | (dsimp only; omega)) | exact Fin.isLt _)) (lt_dec rfl) ?_
            first | refine Ops_p (p_ix1 _ rfl rfl rfl rfl rfl rfl (by first | (first | omega | (dsimp only; omega)) | exact Fin.isLt _)) (lt_dec rfl) ?_ | refine Ops_p (p_ix1s _ rfl rfl rfl rfl rfl rfl (by first | (first | omega | (dsimp only; omega)) | exact Fin.isLt _)) (lt_dec rfl) ?_
            refine Ops_q (q_load rfl rfl m0 rfl (by first | trivial | (first | omega | (dsimp only; omega)) | exact Fin.isLt _ | (dsimp only; omega))) (lt_dec rfl) ?_
            refine Ops_p (p_assign rfl) (lt_dec rfl) ?_
            refine Ops_nil ?_
            refine W_region ?_
            refine Ops_p (p_move rfl) (lt_dec rfl) ?_
            refine Ops_p (p_sub rfl rfl (by exact ⟨(by first | omega | (dsimp only; omega)), (by first | omega | (dsimp only; omega))⟩)) (lt_dec rfl) ?_
            refine Ops_p (p_assign rfl) (lt_dec rfl) ?_
            refine Ops_nil ?_
            refine Exists.intro (i + 1) (And.intro ?_ (And.intro ?_ ?_))
            · show _ ≤ _; omega
            · show _ < _; omega
            · exact Wk.intro (.cons rfl (by first | rfl | exact veq_int (by first | omega | (dsimp only; omega))) (.cons rfl (by first | rfl | exact veq_int (by first | omega | (dsimp only; omega))) (.cons rfl (by first | rfl | exact veq_int (by first | omega | (dsimp only; omega))) (.cons rfl (by first | rfl | exact veq_int (by first | omega | (dsimp only; omega))) (.cons rfl (by first | rfl | exact veq_int (by first | omega | (dsimp only; omega))) (.cons rfl rfl (.cons rfl (by first | rfl | exact veq_int (by first | omega | (dsimp only; omega))) (.cons rfl (by first | rfl | exact veq_int (by first | omega | (dsimp only; omega))) (.cons rfl (by first | rfl | exact veq_int (by first | omega | (dsimp only; omega))) (.cons rfl (by first | rfl | exact veq_int (by first | omega | (dsimp only; omega))) (.cons rfl (by first | rfl | exact veq_int (by first | omega | (dsimp only; omega))) (.cons rfl (by first | rfl | exact veq_int (by first | omega | (dsimp only; omega))) (.cons rfl (by first | rfl | exact veq_int (by first | omega | (dsimp only; omega))) (.cons rfl (by first | rfl | exact veq_int (by first | omega | (dsimp only; omega))) .nil)))))))))))))) (.keep rfl rfl (fun _ h => h) .nil)
          · try simp only [bs] at h4
            refine W_exit ?_
            refine W_seq ?_
            refine W_region ?_
            refine Ops_p (p_move rfl) (lt_dec rfl) ?_
            refine Ops_p (p_assign rfl) (lt_dec rfl) ?_
            refine Ops_p (p_assign rfl) (lt_dec rfl) ?_
            refine Ops_nil ?_
            refine W_ret ?_
            refine Exists.intro _ (And.intro (.cons (.tmp rfl) (.cons (.tmp rfl) .nil)) ?_)
            first | rfl | (refine veq_bool ?_; simp_all; done) | (refine veq_bool ?_; simp; omega) | (refine veq_bool ?_; rw [eq_comm, decide_eq_false_iff_not]; omega) | (refine veq_bool ?_; rw [eq_comm, decide_eq_true_iff]; omega) | (refine veq_int ?_; omega) | (refine veq_arr8 fun j hj => ?_; (try dsimp only); first | (simp; done) | (simp; omega) | ((repeat' split) <;> first | rfl | (exfalso; omega) | (congr 1; omega) | (simp_all; done))) | (exfalso; omega) | (have e1 := hg1; rw [lp_x00] at e1; have e := pwa (c := decide (0 ≤ k ∧ k ≤ 1000000)) e1 (decide_eq_false h1); refine veq_tup2 (veq_u8 ?_) (veq_int e.2.symm); rw [e.1]; rfl) | (have e1 := hg1; rw [lp_x00] at e1; have e := pwc (c := decide (0 ≤ k ∧ k ≤ 1000000)) e1; refine veq_tup2 (veq_u8 ?_) (veq_int (lp_x00.trans e.2.symm)); rw [e.1]; rfl) | (have e1 := hg1; rw [lp_x00] at e1; obtain rfl : i = (k % ((ordN t x : Nat) : Int)).toNat := (by omega); have e := pwb (c := decide (0 ≤ k ∧ k ≤ 1000000)) e1 (decide_eq_true h1); refine veq_tup2 (veq_u8 ?_) (veq_int e.2.symm); rw [e.1]; rfl)
  · try simp only [bs] at hg1
    refine Ops_guard_f rfl rfl rfl (lt_dec rfl) ?_
    refine Ops_guard_f rfl rfl rfl (lt_dec rfl) ?_
    refine Ops_p (p_pick_f rfl rfl) (lt_dec rfl) ?_
    refine Ops_nil ?_
    refine W_false rfl ?_
    refine W_skip ?_
    refine W_seq ?_
    refine W_seq ?_
    refine W_region ?_
    refine Ops_p (p_move rfl) (lt_dec rfl) ?_
    refine Ops_p (p_neq rfl rfl) (lt_dec rfl) ?_
    refine Ops_nil ?_
    refine W_cond rfl (fun h5 => ?_) (fun h5 => ?_)
    · try simp only [bs] at h5
      refine W_seq ?_
      refine W_region ?_
      refine Ops_p (p_move rfl) (lt_dec rfl) ?_
      refine Ops_p (p_assign rfl) (lt_dec rfl) ?_
      refine Ops_p (p_assign rfl) (lt_dec rfl) ?_
      refine Ops_nil ?_
      refine W_ret ?_
      refine Exists.intro _ (And.intro (.cons (.tmp rfl) (.cons (.tmp rfl) .nil)) ?_)
      first | rfl | (refine veq_bool ?_; simp_all; done) | (refine veq_bool ?_; simp; omega) | (refine veq_bool ?_; rw [eq_comm, decide_eq_false_iff_not]; omega) | (refine veq_bool ?_; rw [eq_comm, decide_eq_true_iff]; omega) | (refine veq_int ?_; omega) | (refine veq_arr8 fun j hj => ?_; (try dsimp only); first | (simp; done) | (simp; omega) | ((repeat' split) <;> first | rfl | (exfalso; omega) | (congr 1; omega) | (simp_all; done))) | (exfalso; omega) | (have e1 := hg1; rw [lp_x00] at e1; have e := pwa (c := decide (0 ≤ k ∧ k ≤ 1000000)) e1 (decide_eq_false h1); refine veq_tup2 (veq_u8 ?_) (veq_int e.2.symm); rw [e.1]; rfl) | (have e1 := hg1; rw [lp_x00] at e1; have e := pwc (c := decide (0 ≤ k ∧ k ≤ 1000000)) e1; refine veq_tup2 (veq_u8 ?_) (veq_int (lp_x00.trans e.2.symm)); rw [e.1]; rfl) | (have e1 := hg1; rw [lp_x00] at e1; obtain rfl : i = (k % ((ordN t x : Nat) : Int)).toNat := (by omega); have e := pwb (c := decide (0 ≤ k ∧ k ≤ 1000000)) e1 (decide_eq_true h1); refine veq_tup2 (veq_u8 ?_) (veq_int e.2.symm); rw [e.1]; rfl)
    · try simp only [bs] at h5
      have h6 := h5; rw [lp_x00] at h6; have hl := (code2_eq h6).1; have h5 := ltn_1 (code2_eq h6).2; have hs := lp_sq hl; have hn := hs.1; have ho := ord_pos (t := t) (x := x); have hm0 := Int.emod_nonneg k (show ((ordN t x : Nat) : Int) ≠ 0 by omega); have hlt := Int.emod_lt_of_pos k ho; have hle := ord_le hl h5
      refine W_skip ?_
      refine W_seq ?_
      refine W_region ?_
      refine Ops_p (p_assign rfl) (lt_dec rfl) ?_
      refine Ops_nil ?_
      refine W_seq ?_
      refine W_seq ?_
      refine W_region ?_
      refine Ops_p (p_move rfl) (lt_dec rfl) ?_
      refine Ops_q (q_load rfl rfl m0 rfl (by first | trivial | (first | omega | (dsimp only; omega)) | exact Fin.isLt _ | (dsimp only; omega))) (lt_dec rfl) ?_
      refine Ops_p (p_move rfl) (lt_dec rfl) ?_
      refine Ops_q (q_call en_spec_l05Order rfl (w_spec_l05Order hl h5) (View.none _)) (lt_dec rfl) ?_
      refine Ops_p (p_rem rfl rfl (by omega) (by omega)) (lt_dec rfl) ?_
      refine Ops_p (p_assign rfl) (lt_dec rfl) ?_
      refine Ops_nil ?_
      refine W_block ?_
      refine W_loop (α := Nat) (fun i => ⟨[(0, .agg [.int .i64 n, .arr8 100 t]), (1, .u8 x), (2, .int .i64 (k % ((ordN t x : Nat) : Int) - (i : Int))), (3, .ptr b3_1 0 none), (7, .int .i64 0), (9, .u8 (nth (mulX t x) 0 i)), (10, .agg [.int .i64 n, .arr8 100 t]), (11, .u8 x), (23, .int .i64 k), (24, .agg [.int .i64 n, .arr8 100 t]), (25, .u8 x), (26, .int .i64 ((ordN t x : Nat) : Int)), (27, .int .i64 (k % ((ordN t x : Nat) : Int)))], [.var b3_1 (.agg [.int .i64 n, .arr8 100 t])]⟩) (fun i => i ≤ (k % ((ordN t x : Nat) : Int)).toNat) (fun i => (k % ((ordN t x : Nat) : Int)).toNat - i) 0 ?_ ?_ ?_
      · show _ ≤ _; omega
      · exact Wk.intro (.cons rfl (by first | rfl | exact veq_int (by first | omega | (dsimp only; omega))) (.cons rfl (by first | rfl | exact veq_int (by first | omega | (dsimp only; omega))) (.cons rfl (by first | rfl | exact veq_int (by first | omega | (dsimp only; omega))) (.cons rfl (by first | rfl | exact veq_int (by first | omega | (dsimp only; omega))) (.cons rfl (by first | rfl | exact veq_int (by first | omega | (dsimp only; omega))) (.cons rfl (by first | rfl | exact veq_int (by first | omega | (dsimp only; omega))) (.cons rfl (by first | rfl | exact veq_int (by first | omega | (dsimp only; omega))) (.cons rfl (by first | rfl | exact veq_int (by first | omega | (dsimp only; omega))) (.cons rfl (by first | rfl | exact veq_int (by first | omega | (dsimp only; omega))) (.cons rfl (by first | rfl | exact veq_int (by first | omega | (dsimp only; omega))) (.cons rfl (by first | rfl | exact veq_int (by first | omega | (dsimp only; omega))) (.cons rfl (by first | rfl | exact veq_int (by first | omega | (dsimp only; omega))) (.cons rfl (by first | rfl | exact veq_int (by first | omega | (dsimp only; omega))) .nil))))))))))))) (.keep rfl rfl (fun _ h => h) .nil)
      · rintro i hR
        have hb := nth0_lt hs h5 i
        refine W_seq ?_
        refine W_seq ?_
        refine W_region ?_
        refine Ops_p (p_move rfl) (lt_dec rfl) ?_
        refine Ops_p (p_gtr rfl rfl) (lt_dec rfl) ?_
        refine Ops_nil ?_
        refine W_cond rfl (fun h6 => ?_) (fun h6 => ?_)
        · try simp only [bs] at h6
          refine W_skip ?_
          refine W_seq ?_
          refine W_block ?_
          refine W_region ?_
          refine Ops_p (p_move rfl) (lt_dec rfl) ?_
          refine Ops_p (p_move rfl) (lt_dec rfl) ?_
          refine Ops_p (p_fieldAddr rfl rfl rfl rfl rfl rfl) (lt_dec rfl) ?_
          refine Ops_p (p_ixN 10 _ rfl rfl rfl rfl rfl rfl (by first | (first | omega | (dsimp only; omega)) | exact Fin.isLt _)) (lt_dec rfl) ?_
          first | refine Ops_p (p_ix1 _ rfl rfl rfl rfl rfl rfl (by first | (first | omega | (dsimp only; omega)) | exact Fin.isLt _)) (lt_dec rfl) ?_ | refine Ops_p (p_ix1s _ rfl rfl rfl rfl rfl rfl (by first | (first | omega | (dsimp only; omega)) | exact Fin.isLt _)) (lt_dec rfl) ?_
          refine Ops_q (q_load rfl rfl m0 rfl (by first | trivial | (first | omega | (dsimp only; omega)) | exact Fin.isLt _ | (dsimp only; omega))) (lt_dec rfl) ?_
          refine Ops_p (p_assign rfl) (lt_dec rfl) ?_
          refine Ops_nil ?_
          refine W_region ?_
          refine Ops_p (p_move rfl) (lt_dec rfl) ?_
          refine Ops_p (p_sub rfl rfl (by exact ⟨(by first | omega | (dsimp only; omega)), (by first | omega | (dsimp only; omega))⟩)) (lt_dec rfl) ?_
          refine Ops_p (p_assign rfl) (lt_dec rfl) ?_
          refine Ops_nil ?_
          refine Exists.intro (i + 1) (And.intro ?_ (And.intro ?_ ?_))
          · show _ ≤ _; omega
          · show _ < _; omega
          · exact Wk.intro (.cons rfl (by first | rfl | exact veq_int (by first | omega | (dsimp only; omega))) (.cons rfl (by first | rfl | exact veq_int (by first | omega | (dsimp only; omega))) (.cons rfl (by first | rfl | exact veq_int (by first | omega | (dsimp only; omega))) (.cons rfl (by first | rfl | exact veq_int (by first | omega | (dsimp only; omega))) (.cons rfl (by first | rfl | exact veq_int (by first | omega | (dsimp only; omega))) (.cons rfl rfl (.cons rfl (by first | rfl | exact veq_int (by first | omega | (dsimp only; omega))) (.cons rfl (by first | rfl | exact veq_int (by first | omega | (dsimp only; omega))) (.cons rfl (by first | rfl | exact veq_int (by first | omega | (dsimp only; omega))) (.cons rfl (by first | rfl | exact veq_int (by first | omega | (dsimp only; omega))) (.cons rfl (by first | rfl | exact veq_int (by first | omega | (dsimp only; omega))) (.cons rfl (by first | rfl | exact veq_int (by first | omega | (dsimp only; omega))) (.cons rfl (by first | rfl | exact veq_int (by first | omega | (dsimp only; omega))) .nil))))))))))))) (.keep rfl rfl (fun _ h => h) .nil)
        · try simp only [bs] at h6
          refine W_exit ?_
          refine W_seq ?_
          refine W_region ?_
          refine Ops_p (p_move rfl) (lt_dec rfl) ?_
          refine Ops_p (p_assign rfl) (lt_dec rfl) ?_
          refine Ops_p (p_assign rfl) (lt_dec rfl) ?_
          refine Ops_nil ?_
          refine W_ret ?_
          refine Exists.intro _ (And.intro (.cons (.tmp rfl) (.cons (.tmp rfl) .nil)) ?_)
          first | rfl | (refine veq_bool ?_; simp_all; done) | (refine veq_bool ?_; simp; omega) | (refine veq_bool ?_; rw [eq_comm, decide_eq_false_iff_not]; omega) | (refine veq_bool ?_; rw [eq_comm, decide_eq_true_iff]; omega) | (refine veq_int ?_; omega) | (refine veq_arr8 fun j hj => ?_; (try dsimp only); first | (simp; done) | (simp; omega) | ((repeat' split) <;> first | rfl | (exfalso; omega) | (congr 1; omega) | (simp_all; done))) | (exfalso; omega) | (have e1 := hg1; rw [lp_x00] at e1; have e := pwa (c := decide (0 ≤ k ∧ k ≤ 1000000)) e1 (decide_eq_false h1); refine veq_tup2 (veq_u8 ?_) (veq_int e.2.symm); rw [e.1]; rfl) | (have e1 := hg1; rw [lp_x00] at e1; have e := pwc (c := decide (0 ≤ k ∧ k ≤ 1000000)) e1; refine veq_tup2 (veq_u8 ?_) (veq_int (lp_x00.trans e.2.symm)); rw [e.1]; rfl) | (have e1 := hg1; rw [lp_x00] at e1; obtain rfl : i = (k % ((ordN t x : Nat) : Int)).toNat := (by omega); have e := pwb (c := decide (0 ≤ k ∧ k ≤ 1000000)) e1 (decide_eq_true h1); refine veq_tup2 (veq_u8 ?_) (veq_int e.2.symm); rw [e.1]; rfl)
end Go.Proofs.Ytebcapplclgaead
