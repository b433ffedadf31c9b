/- What the Go function impl.AssociatingCount does, shown of its loaded text; its conditions stand in the statement. -/
import Derived.Test.YtebcapplclgaeacTy
import Derived.Test.YtebcapplclgaeacFimplSquareplaces
import Derived.Test.YtebcapplclgaeacFimplAssociatingCountX1
import Derived.Test.YtebcapplclgaeacFimplIsLoop
import Derived.Test.YtebcapplclgaeacGx10
import Derived.Test.YtebcapplclgaeacM11
namespace Go.Proofs.Ytebcapplclgaeac
open Go Gx
set_option linter.unusedVariables false
theorem en_impl_AssociatingCount : Enters Try.prog 25 := enters_of Try.func25 (by kernel_rfl) (by kernel_rfl)
set_option maxRecDepth 100000 in
theorem w_impl_AssociatingCount {t : Nat → Fin 256} {n : Int}  : CR Try.prog 25 (vals [.agg [.int .i64 n, .arr8 100 t]]) [] (.tup [.int .i64 (bif isLp n t then a3 t n.toNat n.toNat else 0), .int .i64 (bif isLp n t then 0 else 1)]) := by
  refine CR_intro (rs := [.tmp 2, .tmp 3]) tt tok Try.func25 rfl rfl rfl (by first | rfl | assumption) fun w => ?_
  refine W_seq ?_
  refine W_region ?_
  refine Ops_x rfl (x_box rfl rfl (lt_dec rfl) fun b1_1 => ?_)
  refine Ops_p (p_assign rfl) (lt_dec rfl) ?_
  refine Ops_p (p_assign rfl) (lt_dec rfl) ?_
  refine Ops_nil ?_
  refine W_seq ?_
  refine W_seq ?_
  refine W_region ?_
  refine Ops_q (q_load rfl rfl m0 rfl (by first | trivial | (first | omega | (dsimp only; omega)) | exact Fin.isLt _ | (dsimp only; omega))) (lt_dec rfl) ?_
  refine Ops_q (q_call en_impl_IsLoop rfl (w_impl_IsLoop) (View.none _)) (lt_dec rfl) ?_
  refine Ops_p (p_not rfl) (lt_dec rfl) ?_
  refine Ops_nil ?_
  refine W_cond rfl (fun h1 => ?_) (fun h1 => ?_)
  · try simp only [bs] at h1
    have hl : isLp n t = false := (show (isSq n t && allB n.toNat (unitP t 0)) = false from (by first | assumption | (rw [Bool.and_eq_false_iff]; assumption)))
    refine W_seq ?_
    refine W_region ?_
    refine Ops_p (p_assign rfl) (lt_dec rfl) ?_
    refine Ops_p (p_assign rfl) (lt_dec rfl) ?_
    refine Ops_nil ?_
    refine W_ret ?_
    refine Exists.intro _ (And.intro (.cons (.tmp rfl) (.cons (.tmp rfl) .nil)) ?_)
    first | rfl | (refine veq_bool ?_; simp_all; done) | (refine veq_bool ?_; simp; omega) | (refine veq_bool ?_; rw [eq_comm, decide_eq_false_iff_not]; omega) | (refine veq_bool ?_; rw [eq_comm, decide_eq_true_iff]; omega) | (refine veq_int ?_; omega) | (refine veq_arr8 fun j hj => ?_; (try dsimp only); first | (simp; done) | (simp; omega) | ((repeat' split) <;> first | rfl | (exfalso; omega) | (congr 1; omega) | (simp_all; done))) | (rw [hl]; rfl) | (rw [hl]; exact veq_tup2 (veq_int (by show a3 t n.toNat n.toNat + 0 + 0 = a3 t n.toNat n.toNat; omega)) rfl)
  · try simp only [bs] at h1
    have hl : isLp n t = true := (show (isSq n t && allB n.toNat (unitP t 0)) = true from (by first | assumption | (rw [Bool.and_eq_true]; assumption))); have hs := lp_sq hl; have hn := hs.1
    refine W_skip ?_
    refine W_seq ?_
    refine W_region ?_
    refine Ops_x rfl (x_alloc rfl (lt_dec rfl) fun b4_1 => ?_)
    refine Ops_x rfl (x_store rfl rfl rfl rfl rfl HpRep.head rfl (by first | trivial | (first | (first | omega | (dsimp only; omega)) | exact Fin.isLt _)) ?_)
    refine Ops_nil ?_
    refine W_seq ?_
    refine W_region ?_
    refine Ops_q (q_load rfl rfl m1 rfl (by first | trivial | (first | omega | (dsimp only; omega)) | exact Fin.isLt _ | (dsimp only; omega))) (lt_dec rfl) ?_
    refine Ops_p (p_makeFunc rfl rfl) (lt_dec rfl) ?_
    refine Ops_x rfl (x_callV en_impl_Square_places rfl (w_impl_Square_places (need := [.rvar b1_1 (.agg [.int .i64 n, .arr8 100 t])]) (bv := b4_1) (S := fun x y z => .int .i64 (a3 t n.toNat x + a2 t n.toNat x y + a1 t x y z)) hn en_impl_AssociatingCountX1 rfl (fun _ _ _ => rfl) (fun x y z e he => ⟨b1_1, _, List.mem_singleton.1 he, (by simp [D.size, D.sizeL])⟩) (fun x y hx hy => ceq_int (by show _ = a3 t n.toNat x + a2 t n.toNat x (y + 1) + 0; rw [Int.add_zero]; exact a2_s)) (fun x hx => ceq_int (by show a3 t n.toNat x + a2 t n.toNat x n.toNat + 0 = (a3 t n.toNat x + a2 t n.toNat x n.toNat) + 0 + 0; omega)) (fun x y z hx hy hz => (by have h := w_impl_AssociatingCountX1 (t := t) (n := n) (x := x) (y := y) (z := z) (bq := b1_1) (bc := b4_1) (c := a3 t n.toNat x + a2 t n.toNat x y + a1 t x y z) hs (by omega) (by omega) (by omega) (acnt_b (by omega) (by omega) (by omega) (by omega)); rw [Int.add_assoc (a3 t n.toNat x + a2 t n.toNat x y) (a1 t x y z) (ascB t x y z)] at h; exact h))) (View.w m0 (View.var m1) rfl (fun e he => ⟨b1_1, _, List.mem_singleton.1 he, (by simp [D.size, D.sizeL])⟩)) (HpRep.head) (lt_dec rfl) ?_)
    refine Ops_nil ?_
    refine W_seq ?_
    refine W_region ?_
    refine Ops_q (q_load rfl rfl m0 rfl (by first | trivial | (first | omega | (dsimp only; omega)) | exact Fin.isLt _ | (dsimp only; omega))) (lt_dec rfl) ?_
    refine Ops_p (p_assign rfl) (lt_dec rfl) ?_
    refine Ops_p (p_assign rfl) (lt_dec rfl) ?_
    refine Ops_nil ?_
    refine W_ret ?_
    refine Exists.intro _ (And.intro (.cons (.tmp rfl) (.cons (.tmp rfl) .nil)) ?_)
    first | rfl | (refine veq_bool ?_; simp_all; done) | (refine veq_bool ?_; simp; omega) | (refine veq_bool ?_; rw [eq_comm, decide_eq_false_iff_not]; omega) | (refine veq_bool ?_; rw [eq_comm, decide_eq_true_iff]; omega) | (refine veq_int ?_; omega) | (refine veq_arr8 fun j hj => ?_; (try dsimp only); first | (simp; done) | (simp; omega) | ((repeat' split) <;> first | rfl | (exfalso; omega) | (congr 1; omega) | (simp_all; done))) | (rw [hl]; rfl) | (rw [hl]; exact veq_tup2 (veq_int (by show a3 t n.toNat n.toNat + 0 + 0 = a3 t n.toNat n.toNat; omega)) rfl)
end Go.Proofs.Ytebcapplclgaeac
