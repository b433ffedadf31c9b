/- What the Go function impl.thenTriples does, shown of its loaded text; its conditions stand in the statement. -/
import Derived.Test.YtebcapplclgaeaaTy
import Derived.Test.YtebcapplclgaeaaFimplthen
import Derived.Test.YtebcapplclgaeaaM2
namespace Go.Proofs.Ytebcapplclgaeaa
open Go Gx
set_option linter.unusedVariables false
theorem en_impl_thenTriples : Enters Try.prog 104 := enters_of Try.func104 (by kernel_rfl) (by kernel_rfl)
set_option maxRecDepth 100000 in
theorem w_impl_thenTriples {a b c d e f : Nat → Fin 256} {n : Int} (hA : IsPerm a n) (hB : IsPerm b n) (hC : IsPerm c n) : CR Try.prog 104 (vals [.agg [.arr8 10 a, .arr8 10 b, .arr8 10 c], .agg [.arr8 10 d, .arr8 10 e, .arr8 10 f], .int .i64 n]) [] (.agg [.arr8 10 (thenT a d n.toNat), .arr8 10 (thenT b e n.toNat), .arr8 10 (thenT c f n.toNat)]) := by
  refine CR_intro (rs := [.cell 6 65]) tt tok Try.func104 rfl rfl rfl (by first | rfl | assumption) fun w => ?_
  refine W_seq ?_
  refine W_region ?_
  refine Ops_x rfl (x_box rfl rfl (lt_dec rfl) fun b3_1 => ?_)
  refine Ops_x rfl (x_box rfl rfl (lt_dec rfl) fun b4_1 => ?_)
  refine Ops_x rfl (x_alloc rfl (lt_dec rfl) fun b6_1 => ?_)
  refine Ops_nil ?_
  refine W_seq ?_
  refine W_draw (by kernel_rfl) ?_
  show RA _ _ 20 _ _ _
  refine RA_quiet (g := 1) [0, 1, 2, 3, 4, 5, 6, 7, 8, 9, 10, 11, 12, 13, 14, 15, 16, 17, 18] (by kernel_rfl) (by kernel_rfl) (by kernel_rfl) (by kernel_rfl) ?_
  refine WQ_cons rfl rfl rfl ((p_fieldAddr rfl rfl rfl rfl rfl rfl).q) (lt_dec rfl) ?_
  refine WQ_cons rfl rfl rfl ((q_load rfl rfl m2 rfl (by first | trivial | (first | omega | (dsimp only; omega)) | exact Fin.isLt _ | (dsimp only; omega)))) (lt_dec rfl) ?_
  refine WQ_cons rfl rfl rfl ((p_fieldAddr rfl rfl rfl rfl rfl rfl).q) (lt_dec rfl) ?_
  refine WQ_cons rfl rfl rfl ((q_load rfl rfl m1 rfl (by first | trivial | (first | omega | (dsimp only; omega)) | exact Fin.isLt _ | (dsimp only; omega)))) (lt_dec rfl) ?_
  refine WQ_cons rfl rfl rfl ((p_move rfl).q) (lt_dec rfl) ?_
  refine WQ_cons rfl rfl rfl ((q_call en_impl_then rfl (w_impl_then (by first | assumption | (first | omega | (dsimp only; omega)) | (simp; done) | decide)) (View.none _))) (lt_dec rfl) ?_
  refine WQ_cons rfl rfl rfl ((p_fieldAddr rfl rfl rfl rfl rfl rfl).q) (lt_dec rfl) ?_
  refine WQ_cons rfl rfl rfl ((q_load rfl rfl m2 rfl (by first | trivial | (first | omega | (dsimp only; omega)) | exact Fin.isLt _ | (dsimp only; omega)))) (lt_dec rfl) ?_
  refine WQ_cons rfl rfl rfl ((p_fieldAddr rfl rfl rfl rfl rfl rfl).q) (lt_dec rfl) ?_
  refine WQ_cons rfl rfl rfl ((q_load rfl rfl m1 rfl (by first | trivial | (first | omega | (dsimp only; omega)) | exact Fin.isLt _ | (dsimp only; omega)))) (lt_dec rfl) ?_
  refine WQ_cons rfl rfl rfl ((p_move rfl).q) (lt_dec rfl) ?_
  refine WQ_cons rfl rfl rfl ((q_call en_impl_then rfl (w_impl_then (by first | assumption | (first | omega | (dsimp only; omega)) | (simp; done) | decide)) (View.none _))) (lt_dec rfl) ?_
  refine WQ_cons rfl rfl rfl ((p_fieldAddr rfl rfl rfl rfl rfl rfl).q) (lt_dec rfl) ?_
  refine WQ_cons rfl rfl rfl ((q_load rfl rfl m2 rfl (by first | trivial | (first | omega | (dsimp only; omega)) | exact Fin.isLt _ | (dsimp only; omega)))) (lt_dec rfl) ?_
  refine WQ_cons rfl rfl rfl ((p_fieldAddr rfl rfl rfl rfl rfl rfl).q) (lt_dec rfl) ?_
  refine WQ_cons rfl rfl rfl ((q_load rfl rfl m1 rfl (by first | trivial | (first | omega | (dsimp only; omega)) | exact Fin.isLt _ | (dsimp only; omega)))) (lt_dec rfl) ?_
  refine WQ_cons rfl rfl rfl ((p_move rfl).q) (lt_dec rfl) ?_
  refine WQ_cons rfl rfl rfl ((q_call en_impl_then rfl (w_impl_then (by first | assumption | (first | omega | (dsimp only; omega)) | (simp; done) | decide)) (View.none _))) (lt_dec rfl) ?_
  refine WQ_cons rfl rfl rfl ((p_build rfl rfl rfl rfl (by first | trivial | (first | omega | (dsimp only; omega)) | exact Fin.isLt _ | (dsimp only; omega))).q) (lt_dec rfl) ?_
  refine WQ_nil ?_
  refine RA_one 19 rfl rfl (by kernel_rfl) (x_store rfl rfl rfl rfl rfl HpRep.head rfl (by first | trivial | (first | (first | omega | (dsimp only; omega)) | exact Fin.isLt _)) ?_)
  refine RA_done (by kernel_rfl) ?_
  refine W_ret ?_
  refine Exists.intro _ (And.intro (.cons (.cell rfl rfl m0 rfl trivial) .nil) ?_)
  first | rfl | (refine veq_bool ?_; simp_all; done) | (refine veq_bool ?_; simp; omega) | (refine veq_bool ?_; rw [eq_comm, decide_eq_false_iff_not]; omega) | (refine veq_bool ?_; rw [eq_comm, decide_eq_true_iff]; omega) | (refine veq_int ?_; omega) | (refine veq_arr8 fun j hj => ?_; (try dsimp only); first | (simp; done) | (simp; omega) | ((repeat' split) <;> first | rfl | (exfalso; omega) | (congr 1; omega) | (simp_all; done)))
end Go.Proofs.Ytebcapplclgaeaa
