/- What the Go function impl.isHomomorphism$1 does, shown of its loaded text; its conditions stand in the statement. -/
import Derived.Test.YtebcapplclgaeacTy
import Derived.Test.YtebcapplclgaeacGx12
import Derived.Test.YtebcapplclgaeacM18
namespace Go.Proofs.Ytebcapplclgaeac
open Go Gx
set_option linter.unusedVariables false
theorem en_impl_isHomomorphismX1 : Enters Try.prog 99 := enters_of Try.func99 (by kernel_rfl) (by kernel_rfl)
set_option maxRecDepth 100000 in
theorem w_impl_isHomomorphismX1 {t u : Nat → Fin 256} {n m : Int} {a : Value} {ha : a.oneCell' = true} {l : List Int} {i j br bl bq : Nat} (g1 : SqP n t) (g2 : SqP m u) (hk : okI n m l = true) (hi : (i : Int) < n) (hj : (j : Int) < n) : CR Try.prog 99 (vals [.int .u8 (i : Int), .int .u8 (j : Int), .ptr br 0 none, .ptr bl 0 none, .ptr bq 0 none]) [.rvar br (.agg [.int .i64 m, .arr8 100 u]), .rvar bl (.raw a ha), .rvar bq (.agg [.int .i64 n, .arr8 100 t]), rd a (.ints .i64 l)] (.bool (homP t u l i j)) := by
  refine CR_intro (rs := [.tmp 7]) tt tok Try.func99 rfl rfl rfl (by first | rfl | assumption) fun w => ?_
  have hn := g1.1
  have hb := hom_b g1 g2 hk hi hj
  refine W_seq ?_
  refine W_region ?_
  refine Ops_p (p_assign rfl) (lt_dec rfl) ?_
  refine Ops_nil ?_
  refine W_seq ?_
  refine W_draw (by kernel_rfl) ?_
  show RA _ _ 24 _ _ _
  refine RA_quiet (g := 0) [0, 1, 2, 3, 4, 5, 6, 7, 8, 9, 10, 11, 12, 13, 14, 15, 16, 17, 18, 19, 20, 21, 22, 23] (by kernel_rfl) (by kernel_rfl) (by kernel_rfl) (by kernel_rfl) ?_
  refine WQ_cons rfl rfl rfl ((q_load_r rfl rfl m1 rfl (by first | trivial | (first | omega | (dsimp only; omega)) | exact Fin.isLt _ | (dsimp only; omega)))) (lt_dec rfl) ?_
  refine WQ_cons rfl rfl rfl ((p_move rfl).q) (lt_dec rfl) ?_
  refine WQ_cons rfl rfl rfl ((q_ixR _ rfl rfl rfl (Rds.rd m3) rfl rfl (by first | (show _ < List.length _; omega) | (show _ < List.length _; first | omega | (dsimp only; omega))) rfl)) (lt_dec rfl) ?_
  refine WQ_cons rfl rfl rfl ((q_loadR rfl rfl (Rds.rd m3) rfl rfl (by first | (show _ < List.length _; omega) | (show _ < List.length _; first | omega | (dsimp only; omega))) rfl rfl rfl)) (lt_dec rfl) ?_
  refine WQ_cons rfl rfl rfl ((q_load_r rfl rfl m1 rfl (by first | trivial | (first | omega | (dsimp only; omega)) | exact Fin.isLt _ | (dsimp only; omega)))) (lt_dec rfl) ?_
  refine WQ_cons rfl rfl rfl ((p_move rfl).q) (lt_dec rfl) ?_
  refine WQ_cons rfl rfl rfl ((q_ixR _ rfl rfl rfl (Rds.rd m3) rfl rfl (by first | (show _ < List.length _; omega) | (show _ < List.length _; first | omega | (dsimp only; omega))) rfl)) (lt_dec rfl) ?_
  refine WQ_cons rfl rfl rfl ((q_loadR rfl rfl (Rds.rd m3) rfl rfl (by first | (show _ < List.length _; omega) | (show _ < List.length _; first | omega | (dsimp only; omega))) rfl rfl rfl)) (lt_dec rfl) ?_
  refine WQ_cons rfl rfl rfl ((p_fieldAddr rfl rfl rfl rfl rfl rfl).q) (lt_dec rfl) ?_
  refine WQ_cons rfl rfl rfl ((p_ixN 10 (l.getD i 0).toNat rfl rfl rfl rfl rfl (by omega) (by first | (first | omega | (dsimp only; omega)) | exact Fin.isLt _)).q) (lt_dec rfl) ?_
  first | refine WQ_cons rfl rfl rfl ((p_ix1 (l.getD j 0).toNat rfl rfl rfl rfl rfl (by omega) (by first | (first | omega | (dsimp only; omega)) | exact Fin.isLt _)).q) (lt_dec rfl) ?_ | refine WQ_cons rfl rfl rfl ((p_ix1s (l.getD j 0).toNat rfl rfl rfl rfl rfl (by omega) (by first | (first | omega | (dsimp only; omega)) | exact Fin.isLt _)).q) (lt_dec rfl) ?_
  refine WQ_cons rfl rfl rfl ((q_load_r rfl rfl m0 rfl (by first | trivial | (first | omega | (dsimp only; omega)) | exact Fin.isLt _ | (dsimp only; omega)))) (lt_dec rfl) ?_
  first | refine WQ_cons rfl rfl rfl ((p_conv8 rfl rfl rfl (by decide)).q) (lt_dec rfl) ?_ | refine WQ_cons rfl rfl rfl ((p_conv rfl rfl rfl (by exact ⟨(by first | omega | (dsimp only; omega)), (by first | omega | (dsimp only; omega))⟩)).q) (lt_dec rfl) ?_
  refine WQ_cons rfl rfl rfl ((q_load_r rfl rfl m1 rfl (by first | trivial | (first | omega | (dsimp only; omega)) | exact Fin.isLt _ | (dsimp only; omega)))) (lt_dec rfl) ?_
  refine WQ_cons rfl rfl rfl ((p_move rfl).q) (lt_dec rfl) ?_
  refine WQ_cons rfl rfl rfl ((p_move rfl).q) (lt_dec rfl) ?_
  refine WQ_cons rfl rfl rfl ((p_fieldAddr rfl rfl rfl rfl rfl rfl).q) (lt_dec rfl) ?_
  refine WQ_cons rfl rfl rfl ((p_ixN 10 _ rfl rfl rfl rfl rfl rfl (by first | (first | omega | (dsimp only; omega)) | exact Fin.isLt _)).q) (lt_dec rfl) ?_
  first | refine WQ_cons rfl rfl rfl ((p_ix1 _ rfl rfl rfl rfl rfl rfl (by first | (first | omega | (dsimp only; omega)) | exact Fin.isLt _)).q) (lt_dec rfl) ?_ | refine WQ_cons rfl rfl rfl ((p_ix1s _ rfl rfl rfl rfl rfl rfl (by first | (first | omega | (dsimp only; omega)) | exact Fin.isLt _)).q) (lt_dec rfl) ?_
  refine WQ_cons rfl rfl rfl ((q_load_r rfl rfl m2 rfl (by first | trivial | (first | omega | (dsimp only; omega)) | exact Fin.isLt _ | (dsimp only; omega)))) (lt_dec rfl) ?_
  refine WQ_cons rfl rfl rfl ((q_ixR (t (10 * i + j)).val rfl rfl rfl (Rds.rd m3) rfl rfl (by first | (show _ < List.length _; omega) | (show _ < List.length _; first | omega | (dsimp only; omega))) rfl)) (lt_dec rfl) ?_
  refine WQ_cons rfl rfl rfl ((q_loadR rfl rfl (Rds.rd m3) rfl rfl (by first | (show _ < List.length _; omega) | (show _ < List.length _; first | omega | (dsimp only; omega))) rfl rfl rfl)) (lt_dec rfl) ?_
  refine WQ_cons rfl rfl rfl ((p_eql rfl rfl).q) (lt_dec rfl) ?_
  refine WQ_cons rfl rfl rfl ((p_assign rfl).q) (lt_dec rfl) ?_
  refine WQ_nil ?_
  refine RA_done (by kernel_rfl) ?_
  refine W_ret ?_
  refine Exists.intro _ (And.intro (.cons (.tmp rfl) .nil) ?_)
  rfl
end Go.Proofs.Ytebcapplclgaeac
