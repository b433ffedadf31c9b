/- What the Go function impl.AreOrthogonal$1 does, shown of its loaded text; its conditions stand in the statement. -/
import Derived.Test.YtebcapplclgaeabTy
import Derived.Test.YtebcapplclgaeabGx12
import Derived.Test.YtebcapplclgaeabM17
namespace Go.Proofs.Ytebcapplclgaeab
open Go Gx
set_option linter.unusedVariables false
theorem en_impl_AreOrthogonalX1 : Enters Try.prog 61 := enters_of Try.func61 (by kernel_rfl) (by kernel_rfl)
set_option maxRecDepth 100000 in
theorem w_impl_AreOrthogonalX1 {t u : Nat → Fin 256} {n : Int} {i j bm bq br : Nat} (h1 : SqP n t) (h2 : SqP n u) (hi : (i : Int) < n) (hj : (j : Int) < n) : CT (X := Unit) Try.prog 61 (vals [.int .u8 (i : Int), .int .u8 (j : Int), .ptr bm 0 none, .ptr bq 0 none, .ptr br 0 none]) [.var bm (.barr 100 (seenO t u n.toNat i j))] [.rvar bq (.agg [.int .i64 n, .arr8 100 t]), .rvar br (.agg [.int .i64 n, .arr8 100 u])] (fun x => True) (fun x => .bool (pO t u n.toNat i j)) (fun x => [.var bm (.barr 100 (fun k => if k = atO t u i j then true else seenO t u n.toNat i j k))]) := by
  refine CT_intro (rs := [.tmp 7]) tt tok Try.func61 rfl rfl rfl (by first | rfl | assumption) fun w => ?_
  show W _ _ _ ⟨tmOf 0 [.int .u8 (i : Int), .int .u8 (j : Int), .ptr bm 0 none, .ptr bq 0 none, .ptr br 0 none], [.var bm (.barr 100 (seenO t u n.toNat i j)), .rvar bq (.agg [.int .i64 n, .arr8 100 t]), .rvar br (.agg [.int .i64 n, .arr8 100 u])]⟩
  have hn := h1.1
  have hat := atO_lt h1 h2 hi hj
  refine W_seq ?_
  refine W_region ?_
  refine Ops_p (p_assign rfl) (lt_dec rfl) ?_
  refine Ops_nil ?_
  refine W_seq ?_
  refine W_draw (by kernel_rfl) ?_
  show RA _ _ 15 _ _ _
  refine RA_quiet (g := 0) [0, 1, 2, 3, 4, 5, 6, 7, 8, 9, 10, 11, 12, 13, 14] (by kernel_rfl) (by kernel_rfl) (by kernel_rfl) (by kernel_rfl) ?_
  refine WQ_cons rfl rfl rfl ((p_move rfl).q) (lt_dec rfl) ?_
  refine WQ_cons rfl rfl rfl ((p_move rfl).q) (lt_dec rfl) ?_
  refine WQ_cons rfl rfl rfl ((p_fieldAddr rfl rfl rfl rfl rfl rfl).q) (lt_dec rfl) ?_
  refine WQ_cons rfl rfl rfl ((p_ixN 10 _ rfl rfl rfl rfl rfl rfl (by first | (first | omega | (dsimp only; omega)) | exact Fin.isLt _)).q) (lt_dec rfl) ?_
  first | refine WQ_cons rfl rfl rfl ((p_ix1 _ rfl rfl rfl rfl rfl rfl (by first | (first | omega | (dsimp only; omega)) | exact Fin.isLt _)).q) (lt_dec rfl) ?_ | refine WQ_cons rfl rfl rfl ((p_ix1s _ rfl rfl rfl rfl rfl rfl (by first | (first | omega | (dsimp only; omega)) | exact Fin.isLt _)).q) (lt_dec rfl) ?_
  refine WQ_cons rfl rfl rfl ((q_load_r rfl rfl m1 rfl (by first | trivial | (first | omega | (dsimp only; omega)) | exact Fin.isLt _ | (dsimp only; omega)))) (lt_dec rfl) ?_
  refine WQ_cons rfl rfl rfl ((p_move rfl).q) (lt_dec rfl) ?_
  refine WQ_cons rfl rfl rfl ((p_move rfl).q) (lt_dec rfl) ?_
  refine WQ_cons rfl rfl rfl ((p_fieldAddr rfl rfl rfl rfl rfl rfl).q) (lt_dec rfl) ?_
  refine WQ_cons rfl rfl rfl ((p_ixN 10 _ rfl rfl rfl rfl rfl rfl (by first | (first | omega | (dsimp only; omega)) | exact Fin.isLt _)).q) (lt_dec rfl) ?_
  first | refine WQ_cons rfl rfl rfl ((p_ix1 _ rfl rfl rfl rfl rfl rfl (by first | (first | omega | (dsimp only; omega)) | exact Fin.isLt _)).q) (lt_dec rfl) ?_ | refine WQ_cons rfl rfl rfl ((p_ix1s _ rfl rfl rfl rfl rfl rfl (by first | (first | omega | (dsimp only; omega)) | exact Fin.isLt _)).q) (lt_dec rfl) ?_
  refine WQ_cons rfl rfl rfl ((q_load_r rfl rfl m2 rfl (by first | trivial | (first | omega | (dsimp only; omega)) | exact Fin.isLt _ | (dsimp only; omega)))) (lt_dec rfl) ?_
  refine WQ_cons rfl rfl rfl ((p_ixN 10 (t (10 * i + j)).val rfl rfl rfl rfl rfl rfl (by first | (first | omega | (dsimp only; omega)) | exact Fin.isLt _)).q) (lt_dec rfl) ?_
  first | refine WQ_cons rfl rfl rfl ((p_ix1 (u (10 * i + j)).val rfl rfl rfl rfl rfl rfl (by first | (first | omega | (dsimp only; omega)) | exact Fin.isLt _)).q) (lt_dec rfl) ?_ | refine WQ_cons rfl rfl rfl ((p_ix1s (u (10 * i + j)).val rfl rfl rfl rfl rfl rfl (by first | (first | omega | (dsimp only; omega)) | exact Fin.isLt _)).q) (lt_dec rfl) ?_
  refine WQ_cons rfl rfl rfl ((p_assign rfl).q) (lt_dec rfl) ?_
  refine WQ_nil ?_
  refine RA_done (by kernel_rfl) ?_
  refine W_seq ?_
  refine W_region ?_
  refine Ops_p (p_move rfl) (lt_dec rfl) ?_
  refine Ops_p (p_nilCheck rfl) (lt_dec rfl) ?_
  refine Ops_q (q_load rfl rfl m0 rfl (by first | trivial | (first | omega | (dsimp only; omega)) | exact Fin.isLt _ | (dsimp only; omega))) (lt_dec rfl) ?_
  refine Ops_p (p_not rfl) (lt_dec rfl) ?_
  refine Ops_p (p_assign rfl) (lt_dec rfl) ?_
  refine Ops_nil ?_
  refine W_seq ?_
  refine W_region ?_
  refine Ops_p (p_move rfl) (lt_dec rfl) ?_
  refine Ops_p (p_nilCheck rfl) (lt_dec rfl) ?_
  refine Ops_x rfl (x_store rfl rfl rfl rfl rfl HpRep.head rfl (by first | trivial | (first | (first | omega | (dsimp only; omega)) | exact Fin.isLt _)) ?_)
  refine Ops_nil ?_
  refine W_seq ?_
  refine W_region ?_
  refine Ops_p (p_move rfl) (lt_dec rfl) ?_
  refine Ops_p (p_assign rfl) (lt_dec rfl) ?_
  refine Ops_nil ?_
  refine W_ret ?_
  refine Exists.intro _ (And.intro (.cons (.tmp rfl) .nil) (Exists.intro () (And.intro ?_ (And.intro ?_ (And.intro (.cons HpDel.head rfl (fun _ h => h) .nil) rfl)))))
  · trivial
  · rfl
end Go.Proofs.Ytebcapplclgaeab
