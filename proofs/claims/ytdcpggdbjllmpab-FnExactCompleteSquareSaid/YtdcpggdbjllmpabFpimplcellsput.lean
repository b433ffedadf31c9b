/- What the Go function (*impl.cells).put does, shown of its loaded text; its conditions stand in the statement. -/
import Derived.Test.YtdcpggdbjllmpabTy
import Derived.Test.YtdcpggdbjllmpabGx12
import Derived.Test.YtdcpggdbjllmpabM24
namespace Go.Proofs.Ytdcpggdbjllmpab
open Go Gx
set_option linter.unusedVariables false
theorem en_pimpl_cells_put : Enters Try.prog 95 := enters_of Try.func95 (by kernel_rfl) (by kernel_rfl)
set_option maxRecDepth 100000 in
theorem w_pimpl_cells_put {t : Nat → Fin 256} {r c : Nat → Nat} {n : Int} {i j bv : Nat} {m : Fin 256} (hi : i < 10) (hj : j < 10) (hm : m.val < 10) (hr : r i < 1024) (hc : c j < 1024) : CV Try.prog 95 (vals [.ptr bv 0 none, .int .i64 (i : Int), .int .i64 (j : Int), .u8 m]) bv (.agg [.int .i64 n, .arr8 100 t, .arr .i64 10 (fun x => (r x : Int)), .arr .i64 10 (fun x => (c x : Int))]) [] (.tup []) (.agg [.int .i64 n, .arr8 100 (fun x => if x = 10 * i + j then m else t x), .arr .i64 10 (fun x => if x = i then ((r i ||| 2 ^ m.val : Nat) : Int) else (r x : Int)), .arr .i64 10 (fun x => if x = j then ((c j ||| 2 ^ m.val : Nat) : Int) else (c x : Int))]) := by
  refine CV_intro (rs := []) tt tok Try.func95 rfl rfl rfl (by first | rfl | assumption) fun w => ?_
  refine W_seq ?_
  refine W_region ?_
  refine Ops_p (p_move rfl) (lt_dec rfl) ?_
  refine Ops_p (p_move rfl) (lt_dec rfl) ?_
  refine Ops_p (p_move rfl) (lt_dec rfl) ?_
  refine Ops_p (p_move rfl) (lt_dec rfl) ?_
  refine Ops_p (p_nilCheck rfl) (lt_dec rfl) ?_
  refine Ops_p (p_fieldAddr rfl rfl rfl rfl rfl rfl) (lt_dec rfl) ?_
  refine Ops_p (p_ixN 10 _ rfl rfl rfl rfl rfl rfl (by first | (first | omega | (dsimp only; omega)) | exact Fin.isLt _)) (lt_dec rfl) ?_
  first | refine Ops_p (p_ix1 _ rfl rfl rfl rfl rfl rfl (by first | (first | omega | (dsimp only; omega)) | exact Fin.isLt _)) (lt_dec rfl) ?_ | refine Ops_p (p_ix1s _ rfl rfl rfl rfl rfl rfl (by first | (first | omega | (dsimp only; omega)) | exact Fin.isLt _)) (lt_dec rfl) ?_
  refine Ops_x rfl (x_store rfl rfl rfl rfl rfl HpRep.head rfl (by first | trivial | (first | (first | omega | (dsimp only; omega)) | exact Fin.isLt _)) ?_)
  refine Ops_nil ?_
  refine W_seq ?_
  refine W_draw (by kernel_rfl) ?_
  show RA _ _ 13 _ _ _
  refine RA_quiet (g := 1) [0, 1, 2, 3, 4, 5, 6, 7, 8, 9, 10, 11] (by kernel_rfl) (by kernel_rfl) (by kernel_rfl) (by kernel_rfl) ?_
  refine WQ_cons rfl rfl rfl ((p_move rfl).q) (lt_dec rfl) ?_
  refine WQ_cons rfl rfl rfl ((p_move rfl).q) (lt_dec rfl) ?_
  refine WQ_cons rfl rfl rfl ((p_nilCheck rfl).q) (lt_dec rfl) ?_
  refine WQ_cons rfl rfl rfl ((p_fieldAddr rfl rfl rfl rfl rfl rfl).q) (lt_dec rfl) ?_
  first | refine WQ_cons rfl rfl rfl ((p_ix1 _ rfl rfl rfl rfl rfl rfl (by first | (first | omega | (dsimp only; omega)) | exact Fin.isLt _)).q) (lt_dec rfl) ?_ | refine WQ_cons rfl rfl rfl ((p_ix1s _ rfl rfl rfl rfl rfl rfl (by first | (first | omega | (dsimp only; omega)) | exact Fin.isLt _)).q) (lt_dec rfl) ?_
  refine WQ_cons rfl rfl rfl ((q_load rfl rfl m0 rfl (by first | trivial | (first | omega | (dsimp only; omega)) | exact Fin.isLt _ | (dsimp only; omega)))) (lt_dec rfl) ?_
  refine WQ_cons rfl rfl rfl ((p_move rfl).q) (lt_dec rfl) ?_
  refine WQ_cons rfl rfl rfl ((p_shl rfl rfl (by omega) (by simp only [IntKind.bits]; omega) (shl_in (by omega) (by omega))).q) (lt_dec rfl) ?_
  refine WQ_cons rfl rfl rfl ((p_or_bs rfl rfl hr (by omega)).q) (lt_dec rfl) ?_
  refine WQ_cons rfl rfl rfl ((p_nilCheck rfl).q) (lt_dec rfl) ?_
  refine WQ_cons rfl rfl rfl ((p_fieldAddr rfl rfl rfl rfl rfl rfl).q) (lt_dec rfl) ?_
  first | refine WQ_cons rfl rfl rfl ((p_ix1 _ rfl rfl rfl rfl rfl rfl (by first | (first | omega | (dsimp only; omega)) | exact Fin.isLt _)).q) (lt_dec rfl) ?_ | refine WQ_cons rfl rfl rfl ((p_ix1s _ rfl rfl rfl rfl rfl rfl (by first | (first | omega | (dsimp only; omega)) | exact Fin.isLt _)).q) (lt_dec rfl) ?_
  refine WQ_nil ?_
  refine RA_one 12 rfl rfl (by kernel_rfl) (x_store rfl rfl rfl rfl rfl HpRep.head rfl (by first | trivial | (first | (first | omega | (dsimp only; omega)) | exact Fin.isLt _)) ?_)
  refine RA_done (by kernel_rfl) ?_
  refine W_draw (by kernel_rfl) ?_
  show RA _ _ 13 _ _ _
  refine RA_quiet (g := 1) [0, 1, 2, 3, 4, 5, 6, 7, 8, 9, 10, 11] (by kernel_rfl) (by kernel_rfl) (by kernel_rfl) (by kernel_rfl) ?_
  refine WQ_cons rfl rfl rfl ((p_move rfl).q) (lt_dec rfl) ?_
  refine WQ_cons rfl rfl rfl ((p_move rfl).q) (lt_dec rfl) ?_
  refine WQ_cons rfl rfl rfl ((p_nilCheck rfl).q) (lt_dec rfl) ?_
  refine WQ_cons rfl rfl rfl ((p_fieldAddr rfl rfl rfl rfl rfl rfl).q) (lt_dec rfl) ?_
  first | refine WQ_cons rfl rfl rfl ((p_ix1 _ rfl rfl rfl rfl rfl rfl (by first | (first | omega | (dsimp only; omega)) | exact Fin.isLt _)).q) (lt_dec rfl) ?_ | refine WQ_cons rfl rfl rfl ((p_ix1s _ rfl rfl rfl rfl rfl rfl (by first | (first | omega | (dsimp only; omega)) | exact Fin.isLt _)).q) (lt_dec rfl) ?_
  refine WQ_cons rfl rfl rfl ((q_load rfl rfl m0 rfl (by first | trivial | (first | omega | (dsimp only; omega)) | exact Fin.isLt _ | (dsimp only; omega)))) (lt_dec rfl) ?_
  refine WQ_cons rfl rfl rfl ((p_move rfl).q) (lt_dec rfl) ?_
  refine WQ_cons rfl rfl rfl ((p_shl rfl rfl (by omega) (by simp only [IntKind.bits]; omega) (shl_in (by omega) (by omega))).q) (lt_dec rfl) ?_
  refine WQ_cons rfl rfl rfl ((p_or_bs rfl rfl hc (by omega)).q) (lt_dec rfl) ?_
  refine WQ_cons rfl rfl rfl ((p_nilCheck rfl).q) (lt_dec rfl) ?_
  refine WQ_cons rfl rfl rfl ((p_fieldAddr rfl rfl rfl rfl rfl rfl).q) (lt_dec rfl) ?_
  first | refine WQ_cons rfl rfl rfl ((p_ix1 _ rfl rfl rfl rfl rfl rfl (by first | (first | omega | (dsimp only; omega)) | exact Fin.isLt _)).q) (lt_dec rfl) ?_ | refine WQ_cons rfl rfl rfl ((p_ix1s _ rfl rfl rfl rfl rfl rfl (by first | (first | omega | (dsimp only; omega)) | exact Fin.isLt _)).q) (lt_dec rfl) ?_
  refine WQ_nil ?_
  refine RA_one 12 rfl rfl (by kernel_rfl) (x_store rfl rfl rfl rfl rfl HpRep.head rfl (by first | trivial | (first | (first | omega | (dsimp only; omega)) | exact Fin.isLt _)) ?_)
  refine RA_done (by kernel_rfl) ?_
  refine Exists.intro _ (And.intro (.nil) (And.intro ?_ (Exists.intro _ (And.intro m0 (And.intro ?_ rfl)))))
  · rfl
  · rfl
end Go.Proofs.Ytdcpggdbjllmpab
