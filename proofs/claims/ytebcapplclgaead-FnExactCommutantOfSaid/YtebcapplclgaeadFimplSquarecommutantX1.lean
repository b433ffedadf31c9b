/- What the Go function (impl.Square).commutant$1 does, shown of its loaded text; its conditions stand in the statement. -/
import Derived.Test.YtebcapplclgaeadTy
import Derived.Test.YtebcapplclgaeadFimplSquarecolumn
import Derived.Test.YtebcapplclgaeadFimplSquarerow
import Derived.Test.YtebcapplclgaeadGx9
import Derived.Test.YtebcapplclgaeadM14
namespace Go.Proofs.Ytebcapplclgaead
open Go Gx
set_option linter.unusedVariables false
theorem en_impl_Square_commutantX1 : Enters Try.prog 133 := enters_of Try.func133 (by kernel_rfl) (by kernel_rfl)
set_option maxRecDepth 100000 in
theorem w_impl_Square_commutantX1 {t : Nat → Fin 256} {n : Int} {a bq : Nat} (hs : SqP n t) (ha : (a : Int) < n) : CR Try.prog 133 (vals [.int .u8 (a : Int), .ptr bq 0 none]) [.rvar bq (.agg [.int .i64 n, .arr8 100 t])] (.bool (comB t n.toNat a)) := by
  refine CR_intro (rs := [.tmp 3]) tt tok Try.func133 rfl rfl rfl (by first | rfl | assumption) fun w => ?_
  have hn := hs.1
  refine W_seq ?_
  refine W_region ?_
  refine Ops_p (p_assign rfl) (lt_dec rfl) ?_
  refine Ops_nil ?_
  refine W_seq ?_
  refine W_draw (by kernel_rfl) ?_
  show RA _ _ 8 _ _ _
  refine RA_quiet (g := 0) [0, 1, 2, 3, 4, 5, 6, 7] (by kernel_rfl) (by kernel_rfl) (by kernel_rfl) (by kernel_rfl) ?_
  refine WQ_cons rfl rfl rfl ((q_load_r rfl rfl m0 rfl (by first | trivial | (first | omega | (dsimp only; omega)) | exact Fin.isLt _ | (dsimp only; omega)))) (lt_dec rfl) ?_
  refine WQ_cons rfl rfl rfl ((p_move8 rfl (by omega)).q) (lt_dec rfl) ?_
  refine WQ_cons rfl rfl rfl ((q_call en_impl_Square_row rfl (w_impl_Square_row (by rw [ofNat_val (by omega)]; omega)) (View.none _))) (lt_dec rfl) ?_
  refine WQ_cons rfl rfl rfl ((q_load_r rfl rfl m0 rfl (by first | trivial | (first | omega | (dsimp only; omega)) | exact Fin.isLt _ | (dsimp only; omega)))) (lt_dec rfl) ?_
  refine WQ_cons rfl rfl rfl ((p_move8 rfl (by omega)).q) (lt_dec rfl) ?_
  refine WQ_cons rfl rfl rfl ((q_call en_impl_Square_column rfl (w_impl_Square_column (by rw [ofNat_val (by omega)]; omega)) (View.none _))) (lt_dec rfl) ?_
  refine WQ_cons rfl rfl rfl ((p_eql8 rfl rfl rfl rfl (by kernel_rfl) (by kernel_rfl) (by kernel_rfl)).q) (lt_dec rfl) ?_
  refine WQ_cons rfl rfl rfl ((p_assign rfl).q) (lt_dec rfl) ?_
  refine WQ_nil ?_
  refine RA_done (by kernel_rfl) ?_
  refine W_ret ?_
  refine Exists.intro _ (And.intro (.cons (.tmp rfl) .nil) ?_)
  exact veq_bool (by have e := ofNat_val (n := a) (by omega); rw [e]; exact comB_eq hs ha)
end Go.Proofs.Ytebcapplclgaead
