/- What the Go function impl.AssociatingCount$1 does, shown of its loaded text; its conditions stand in the statement. -/
import Derived.Test.YtebcapplclgaeacTy
import Derived.Test.YtebcapplclgaeacFimplSquareassociates
import Derived.Test.YtebcapplclgaeacGx10
import Derived.Test.YtebcapplclgaeacM11
namespace Go.Proofs.Ytebcapplclgaeac
open Go Gx
set_option linter.unusedVariables false
theorem en_impl_AssociatingCountX1 : Enters Try.prog 65 := enters_of Try.func65 (by kernel_rfl) (by kernel_rfl)
set_option maxRecDepth 100000 in
theorem w_impl_AssociatingCountX1 {t : Nat → Fin 256} {n : Int} {x y z bq bc : Nat} {c : Int} (hs : SqP n t) (hx : (x : Int) < n) (hy : (y : Int) < n) (hz : (z : Int) < n) (hc : 0 ≤ c ∧ c ≤ 2000) : CV Try.prog 65 (vals [.arr8 3 (tri x y z), .ptr bq 0 none, .ptr bc 0 none]) bc (.int .i64 c) [.rvar bq (.agg [.int .i64 n, .arr8 100 t])] (.bool false) (.int .i64 (c + ascB t x y z)) := by
  refine CV_intro (rs := [.tmp 4]) tt tok Try.func65 rfl rfl rfl (by first | rfl | assumption) fun w => ?_
  have hn := hs.1
  refine W_seq ?_
  refine W_region ?_
  refine Ops_x rfl (x_box rfl rfl (lt_dec rfl) fun b3_1 => ?_)
  refine Ops_p (p_assign rfl) (lt_dec rfl) ?_
  refine Ops_nil ?_
  refine W_seq ?_
  refine W_seq ?_
  refine W_region ?_
  refine Ops_q (q_load_r rfl rfl m2 rfl (by first | trivial | (first | omega | (dsimp only; omega)) | exact Fin.isLt _ | (dsimp only; omega))) (lt_dec rfl) ?_
  first | refine Ops_p (p_ix1 0 rfl rfl rfl rfl rfl rfl (by first | (first | omega | (dsimp only; omega)) | exact Fin.isLt _)) (lt_dec rfl) ?_ | refine Ops_p (p_ix1s 0 rfl rfl rfl rfl rfl rfl (by first | (first | omega | (dsimp only; omega)) | exact Fin.isLt _)) (lt_dec rfl) ?_
  refine Ops_q (q_load rfl rfl m0 rfl (by first | trivial | (first | omega | (dsimp only; omega)) | exact Fin.isLt _ | (dsimp only; omega))) (lt_dec rfl) ?_
  first | refine Ops_p (p_ix1 1 rfl rfl rfl rfl rfl rfl (by first | (first | omega | (dsimp only; omega)) | exact Fin.isLt _)) (lt_dec rfl) ?_ | refine Ops_p (p_ix1s 1 rfl rfl rfl rfl rfl rfl (by first | (first | omega | (dsimp only; omega)) | exact Fin.isLt _)) (lt_dec rfl) ?_
  refine Ops_q (q_load rfl rfl m0 rfl (by first | trivial | (first | omega | (dsimp only; omega)) | exact Fin.isLt _ | (dsimp only; omega))) (lt_dec rfl) ?_
  first | refine Ops_p (p_ix1 2 rfl rfl rfl rfl rfl rfl (by first | (first | omega | (dsimp only; omega)) | exact Fin.isLt _)) (lt_dec rfl) ?_ | refine Ops_p (p_ix1s 2 rfl rfl rfl rfl rfl rfl (by first | (first | omega | (dsimp only; omega)) | exact Fin.isLt _)) (lt_dec rfl) ?_
  refine Ops_q (q_load rfl rfl m0 rfl (by first | trivial | (first | omega | (dsimp only; omega)) | exact Fin.isLt _ | (dsimp only; omega))) (lt_dec rfl) ?_
  refine Ops_q (q_call en_impl_Square_associates rfl (w_impl_Square_associates hs (by rw [tri0 (by omega)]; exact hx) (by rw [tri1 (by omega)]; exact hy) (by rw [tri2 (by omega)]; exact hz)) (View.none _)) (lt_dec rfl) ?_
  refine Ops_nil ?_
  refine W_cond rfl (fun h1 => ?_) (fun h1 => ?_)
  · try simp only [bs] at h1
    refine W_region ?_
    refine Ops_q (q_load rfl rfl m1 rfl (by first | trivial | (first | omega | (dsimp only; omega)) | exact Fin.isLt _ | (dsimp only; omega))) (lt_dec rfl) ?_
    refine Ops_p (p_add rfl rfl (by exact ⟨(by first | omega | (dsimp only; omega)), (by first | omega | (dsimp only; omega))⟩)) (lt_dec rfl) ?_
    refine Ops_x rfl (x_store rfl rfl rfl rfl rfl ((HpRep.head).tail) rfl (by first | trivial | (first | (first | omega | (dsimp only; omega)) | exact Fin.isLt _)) ?_)
    refine Ops_nil ?_
    refine W_seq ?_
    refine W_region ?_
    refine Ops_p (p_assign rfl) (lt_dec rfl) ?_
    refine Ops_nil ?_
    refine W_ret ?_
    refine Exists.intro _ (And.intro (.cons (.tmp rfl) .nil) (And.intro ?_ (Exists.intro _ (And.intro m1 (And.intro ?_ rfl)))))
    · rfl
    · first | (rw [tri0 (by omega), tri1 (by omega), tri2 (by omega)] at h1; rw [ascB_t h1]) | (rw [tri0 (by omega), tri1 (by omega), tri2 (by omega)] at h1; rw [ascB_f h1, Int.add_zero])
  · try simp only [bs] at h1
    refine W_skip ?_
    refine W_seq ?_
    refine W_region ?_
    refine Ops_p (p_assign rfl) (lt_dec rfl) ?_
    refine Ops_nil ?_
    refine W_ret ?_
    refine Exists.intro _ (And.intro (.cons (.tmp rfl) .nil) (And.intro ?_ (Exists.intro _ (And.intro m1 (And.intro ?_ rfl)))))
    · rfl
    · first | (rw [tri0 (by omega), tri1 (by omega), tri2 (by omega)] at h1; rw [ascB_t h1]) | (rw [tri0 (by omega), tri1 (by omega), tri2 (by omega)] at h1; rw [ascB_f h1, Int.add_zero])
end Go.Proofs.Ytebcapplclgaeac
