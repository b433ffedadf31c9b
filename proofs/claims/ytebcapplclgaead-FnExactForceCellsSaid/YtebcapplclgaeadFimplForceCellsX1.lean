/- What the Go function impl.ForceCells$1 does, shown of its loaded text; its conditions stand in the statement. -/
import Derived.Test.YtebcapplclgaeadTy
import Derived.Test.YtebcapplclgaeadFpimplcellscandidates
import Derived.Test.YtebcapplclgaeadFimplsetsize
import Derived.Test.YtebcapplclgaeadGx20
import Derived.Test.YtebcapplclgaeadM24
import Derived.Test.YtebcapplclgaeadM25
namespace Go.Proofs.Ytebcapplclgaead
open Go Gx
set_option linter.unusedVariables false
theorem en_impl_ForceCellsX1 : Enters Try.prog 102 := enters_of Try.func102 (by kernel_rfl) (by kernel_rfl)
set_option maxRecDepth 100000 in
theorem w_impl_ForceCellsX1 {M : SL} {i j bv : Nat} (hP : ParL M) (hi : i < M.length) (hj : j < M.length) : CR Try.prog 102 (vals [.int .i64 (i : Int), .int .i64 (j : Int), .ptr bv 0 none]) [.rvar bv (.agg [.int .i64 ((M.length : Nat) : Int), .arr8 100 (cT M), .arr .i64 10 (fun x => ((cR M x : Nat) : Int)), .arr .i64 10 (fun x => ((cC M x : Nat) : Int))])] (.bool (decide ((filt (candB M i j) M.length).length = 1))) := by
  refine CR_intro (rs := [.tmp 5]) tt tok Try.func102 rfl rfl rfl (by first | rfl | assumption) fun w => ?_
  have hn := hP.1
  refine W_seq ?_
  refine W_region ?_
  refine Ops_p (p_assign rfl) (lt_dec rfl) ?_
  refine Ops_nil ?_
  refine W_seq ?_
  refine W_region ?_
  refine Ops_p (p_move rfl) (lt_dec rfl) ?_
  refine Ops_p (p_move rfl) (lt_dec rfl) ?_
  refine Ops_q (q_call en_pimpl_cells_candidates rfl (w_pimpl_cells_candidates (t := cT M) (r := cR M) (c := cC M) (i := i) (j := j) (n := M.length) (q := bsP (candB M (i) (j)) M.length) (bv := bv) hn.2 (by omega) (by omega) cR_lt cC_lt (cand_bits hn.2 hi hj)) (View.rvar m0)) (lt_dec rfl) ?_
  refine Ops_q (q_call en_impl_set_size rfl (w_impl_set_size (s := bsP (candB M i j) M.length) (bsP_10 hn.2)) (View.none _)) (lt_dec rfl) ?_
  refine Ops_p (p_eql rfl rfl) (lt_dec rfl) ?_
  refine Ops_p (p_assign rfl) (lt_dec rfl) ?_
  refine Ops_nil ?_
  refine W_ret ?_
  refine Exists.intro _ (And.intro (.cons (.tmp rfl) .nil) ?_)
  exact veq_bool (by rw [setL_filt, Nat.min_eq_right hn.2]; rw [Bool.eq_iff_iff]; simp only [decide_eq_true_eq]; omega)
end Go.Proofs.Ytebcapplclgaead
