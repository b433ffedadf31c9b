/- What the Go function impl.AreOrthogonal does, shown of its loaded text; its conditions stand in the statement. -/
import Derived.Test.YtebcapplclgaeabTy
import Derived.Test.YtebcapplclgaeabFimplSquareforPairsVT
import Derived.Test.YtebcapplclgaeabFimplAreOrthogonalX1
import Derived.Test.YtebcapplclgaeabFimplIsSquare
import Derived.Test.YtebcapplclgaeabGx12
import Derived.Test.YtebcapplclgaeabM17
namespace Go.Proofs.Ytebcapplclgaeab
open Go Gx
set_option linter.unusedVariables false
theorem en_impl_AreOrthogonal : Enters Try.prog 24 := enters_of Try.func24 (by kernel_rfl) (by kernel_rfl)
set_option maxRecDepth 100000 in
theorem w_impl_AreOrthogonal {t u : Nat → Fin 256} {n m : Int}  : CR Try.prog 24 (vals [.agg [.int .i64 n, .arr8 100 t], .agg [.int .i64 m, .arr8 100 u]]) [] (.tup [.bool ((isSq n t && isSq m u) && decide (n = m) && allP n.toNat (pO t u n.toNat)), .int .i64 (bif (isSq n t && isSq m u) then (bif decide (n = m) then 0 else 2) else 1)]) := by
  refine CR_intro (rs := [.tmp 4, .tmp 5]) tt tok Try.func24 rfl rfl rfl (by first | rfl | assumption) fun w => ?_
  refine W_seq ?_
  refine W_region ?_
  refine Ops_x rfl (x_box rfl rfl (lt_dec rfl) fun b2_1 => ?_)
  refine Ops_x rfl (x_box rfl rfl (lt_dec rfl) fun b3_1 => ?_)
  refine Ops_p (p_assign rfl) (lt_dec rfl) ?_
  refine Ops_p (p_assign rfl) (lt_dec rfl) ?_
  refine Ops_nil ?_
  refine W_seq ?_
  refine W_block ?_
  refine W_seq ?_
  refine W_region ?_
  refine Ops_q (q_load rfl rfl m1 rfl (by first | trivial | (first | omega | (dsimp only; omega)) | exact Fin.isLt _ | (dsimp only; omega))) (lt_dec rfl) ?_
  refine Ops_q (q_call en_impl_IsSquare rfl (w_impl_IsSquare) (View.none _)) (lt_dec rfl) ?_
  refine Ops_p (p_not rfl) (lt_dec rfl) ?_
  refine Ops_p (p_move rfl) (lt_dec rfl) ?_
  refine Ops_guard rfl rfl (lt_dec rfl) (fun hg1 => ?_) (fun hg1 => ?_)
  · try simp only [bs] at hg1
    refine Ops_q (q_load rfl rfl m0 rfl (by first | trivial | (first | omega | (dsimp only; omega)) | exact Fin.isLt _ | (dsimp only; omega))) (lt_dec rfl) ?_
    refine Ops_guard_t rfl rfl (lt_dec rfl) ?_
    refine Ops_q (q_call en_impl_IsSquare rfl (w_impl_IsSquare) (View.none _)) (lt_dec rfl) ?_
    refine Ops_guard_t rfl rfl (lt_dec rfl) ?_
    refine Ops_p (p_not rfl) (lt_dec rfl) ?_
    refine Ops_p (p_pick_f rfl rfl) (lt_dec rfl) ?_
    refine Ops_p (p_assign rfl) (lt_dec rfl) ?_
    refine Ops_nil ?_
    refine W_cond rfl (fun h1 => ?_) (fun h1 => ?_)
    · try simp only [bs] at h1
      refine W_seq ?_
      have hq : (isSq n t && isSq m u) = false := (by simp_all)
      refine W_region ?_
      refine Ops_p (p_assign rfl) (lt_dec rfl) ?_
      refine Ops_p (p_assign rfl) (lt_dec rfl) ?_
      refine Ops_nil ?_
      refine W_ret ?_
      refine Exists.intro _ (And.intro (.cons (.tmp rfl) (.cons (.tmp rfl) .nil)) ?_)
      first | rfl | (refine veq_bool ?_; simp_all; done) | (refine veq_bool ?_; simp; omega) | (refine veq_bool ?_; rw [eq_comm, decide_eq_false_iff_not]; omega) | (refine veq_bool ?_; rw [eq_comm, decide_eq_true_iff]; omega) | (refine veq_int ?_; omega) | (refine veq_arr8 fun j hj => ?_; (try dsimp only); first | (simp; done) | (simp; omega) | ((repeat' split) <;> first | rfl | (exfalso; omega) | (congr 1; omega) | (simp_all; done))) | (rw [hq]; rfl) | ((rw [hq, decide_eq_false (by assumption)]; rfl)) | ((rw [hq, decide_eq_true rfl, ← allP_of hx1]; rfl))
    · try simp only [bs] at h1
      refine W_seq ?_
      have hq : (isSq n t && isSq m u) = true := (by simp_all)
      have g1 : SqP n t := of_isSq (by simp_all)
      have g2 : SqP m u := of_isSq (by simp_all)
      refine W_region ?_
      refine Ops_p (p_fieldAddr rfl rfl rfl rfl rfl rfl) (lt_dec rfl) ?_
      refine Ops_q (q_load rfl rfl m1 rfl (by first | trivial | (first | omega | (dsimp only; omega)) | exact Fin.isLt _ | (dsimp only; omega))) (lt_dec rfl) ?_
      refine Ops_p (p_fieldAddr rfl rfl rfl rfl rfl rfl) (lt_dec rfl) ?_
      refine Ops_q (q_load rfl rfl m0 rfl (by first | trivial | (first | omega | (dsimp only; omega)) | exact Fin.isLt _ | (dsimp only; omega))) (lt_dec rfl) ?_
      refine Ops_p (p_neq rfl rfl) (lt_dec rfl) ?_
      refine Ops_p (p_assign rfl) (lt_dec rfl) ?_
      refine Ops_nil ?_
      refine W_cond rfl (fun h2 => ?_) (fun h2 => ?_)
      · try simp only [bs] at h2
        refine W_seq ?_
        refine W_region ?_
        refine Ops_p (p_assign rfl) (lt_dec rfl) ?_
        refine Ops_p (p_assign rfl) (lt_dec rfl) ?_
        refine Ops_nil ?_
        refine W_ret ?_
        refine Exists.intro _ (And.intro (.cons (.tmp rfl) (.cons (.tmp rfl) .nil)) ?_)
        first | rfl | (refine veq_bool ?_; simp_all; done) | (refine veq_bool ?_; simp; omega) | (refine veq_bool ?_; rw [eq_comm, decide_eq_false_iff_not]; omega) | (refine veq_bool ?_; rw [eq_comm, decide_eq_true_iff]; omega) | (refine veq_int ?_; omega) | (refine veq_arr8 fun j hj => ?_; (try dsimp only); first | (simp; done) | (simp; omega) | ((repeat' split) <;> first | rfl | (exfalso; omega) | (congr 1; omega) | (simp_all; done))) | (rw [hq]; rfl) | ((rw [hq, decide_eq_false (by assumption)]; rfl)) | ((rw [hq, decide_eq_true rfl, ← allP_of hx1]; rfl))
      · try simp only [bs] at h2
        refine W_skip ?_
        refine W_seq ?_
        subst h2
        refine W_region ?_
        refine Ops_p (p_build_arr rfl rfl rfl rfl (by first | trivial | (first | omega | (dsimp only; omega)) | exact Fin.isLt _ | (dsimp only; omega))) (lt_dec rfl) ?_
        refine Ops_x rfl (x_alloc rfl (lt_dec rfl) fun b6_1 => ?_)
        refine Ops_x rfl (x_store rfl rfl rfl rfl rfl HpRep.head rfl (by first | trivial | (first | (first | omega | (dsimp only; omega)) | exact Fin.isLt _)) ?_)
        refine Ops_nil ?_
        refine W_seq ?_
        refine W_region ?_
        refine Ops_q (q_load rfl rfl m2 rfl (by first | trivial | (first | omega | (dsimp only; omega)) | exact Fin.isLt _ | (dsimp only; omega))) (lt_dec rfl) ?_
        refine Ops_p (p_makeFunc rfl rfl) (lt_dec rfl) ?_
        refine Ops_x rfl (x_callT en_impl_Square_forPairsVT rfl (w_impl_Square_forPairsVT (Z := Unit) (s0 := .var b6_1 (.barr 100 fun _ => false)) (need := [.rvar b2_1 (.agg [.int .i64 n, .arr8 100 t]), .rvar b3_1 (.agg [.int .i64 n, .arr8 100 u])]) (S := fun i j _ => .var b6_1 (.barr 100 (seenO t u n.toNat i j))) (S2 := fun i j _ => .var b6_1 (.barr 100 (fun k => if k = atO t u i j then true else seenO t u n.toNat i j k))) (p := pO t u n.toNat) (z0 := ()) g1.1 en_impl_AreOrthogonalX1 rfl ⟨rfl, imp_var (ceq_barr fun k _ => seen_zero k) rfl⟩ (fun _ _ _ => ⟨rfl, rfl⟩) rfl (fun i j _ hi hj _ => ⟨rfl, imp_var (ceq_barr fun k _ => seen_step hj k) rfl⟩) (fun i _ => ⟨rfl, imp_var (ceq_barr fun k _ => seen_row k) rfl⟩) (fun i j _ hi hj => w_impl_AreOrthogonalX1 (bm := b6_1) (bq := b2_1) (br := b3_1) g1 g2 (by omega) (by omega))) (HpDels.cons HpDel.head HpDels.nil) (Vw.cons (Vw.var m1) (Vw.var m0)) (fun _ => (HpDels.cons HpDel.head HpDels.nil)) (lt_dec rfl) fun x25_1 hx1 => ?_)
        refine Ops_p (p_assign rfl) (lt_dec rfl) ?_
        refine Ops_p (p_assign rfl) (lt_dec rfl) ?_
        refine Ops_nil ?_
        refine W_ret ?_
        refine Exists.intro _ (And.intro (.cons (.tmp rfl) (.cons (.tmp rfl) .nil)) ?_)
        first | rfl | (refine veq_bool ?_; simp_all; done) | (refine veq_bool ?_; simp; omega) | (refine veq_bool ?_; rw [eq_comm, decide_eq_false_iff_not]; omega) | (refine veq_bool ?_; rw [eq_comm, decide_eq_true_iff]; omega) | (refine veq_int ?_; omega) | (refine veq_arr8 fun j hj => ?_; (try dsimp only); first | (simp; done) | (simp; omega) | ((repeat' split) <;> first | rfl | (exfalso; omega) | (congr 1; omega) | (simp_all; done))) | (rw [hq]; rfl) | ((rw [hq, decide_eq_false (by assumption)]; rfl)) | ((rw [hq, decide_eq_true rfl, ← allP_of hx1]; rfl))
  · try simp only [bs] at hg1
    refine Ops_guard_f rfl rfl rfl (lt_dec rfl) ?_
    refine Ops_guard_f rfl rfl rfl (lt_dec rfl) ?_
    refine Ops_p (p_pick_t rfl rfl) (lt_dec rfl) ?_
    refine Ops_p (p_assign rfl) (lt_dec rfl) ?_
    refine Ops_nil ?_
    refine W_true rfl ?_
    refine W_seq ?_
    have hq : (isSq n t && isSq m u) = false := (by simp_all)
    refine W_region ?_
    refine Ops_p (p_assign rfl) (lt_dec rfl) ?_
    refine Ops_p (p_assign rfl) (lt_dec rfl) ?_
    refine Ops_nil ?_
    refine W_ret ?_
    refine Exists.intro _ (And.intro (.cons (.tmp rfl) (.cons (.tmp rfl) .nil)) ?_)
    first | rfl | (refine veq_bool ?_; simp_all; done) | (refine veq_bool ?_; simp; omega) | (refine veq_bool ?_; rw [eq_comm, decide_eq_false_iff_not]; omega) | (refine veq_bool ?_; rw [eq_comm, decide_eq_true_iff]; omega) | (refine veq_int ?_; omega) | (refine veq_arr8 fun j hj => ?_; (try dsimp only); first | (simp; done) | (simp; omega) | ((repeat' split) <;> first | rfl | (exfalso; omega) | (congr 1; omega) | (simp_all; done))) | (rw [hq]; rfl) | ((rw [hq, decide_eq_false (by assumption)]; rfl)) | ((rw [hq, decide_eq_true rfl, ← allP_of hx1]; rfl))
end Go.Proofs.Ytebcapplclgaeab
