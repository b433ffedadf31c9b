/- What the Go function impl.direct does, shown of its loaded text; its conditions stand in the statement. -/
import Derived.Test.YtebcapplclgaeabTy
import Derived.Test.YtebcapplclgaeabFimpldirectX1
import Derived.Test.YtebcapplclgaeabFimplmade
import Derived.Test.YtebcapplclgaeabM8
namespace Go.Proofs.Ytebcapplclgaeab
open Go Gx
set_option linter.unusedVariables false
theorem en_impl_direct : Enters Try.prog 83 := enters_of Try.func83 (by kernel_rfl) (by kernel_rfl)
set_option maxRecDepth 100000 in
theorem w_impl_direct {n m : Int} {t u : Nat → Fin 256} (hs1 : SqP n t) (hs2 : SqP m u) (hnm : n * m ≤ 10) : CR Try.prog 83 (vals [.agg [.int .i64 n, .arr8 100 t], .agg [.int .i64 m, .arr8 100 u]]) [] (.agg [.int .i64 (n * m), .arr8 100 (part (n * m).toNat (dir m t u) (n * m).toNat 0)]) := by
  refine CR_intro (rs := [.cell 4 31]) tt tok Try.func83 rfl rfl rfl (by first | rfl | assumption) fun w => ?_
  have hn := hs1.1
  have hm := hs2.1
  have hp := mul_b hn hm
  refine W_seq ?_
  refine W_region ?_
  refine Ops_x rfl (x_box rfl rfl (lt_dec rfl) fun b2_1 => ?_)
  refine Ops_x rfl (x_box rfl rfl (lt_dec rfl) fun b3_1 => ?_)
  refine Ops_x rfl (x_alloc rfl (lt_dec rfl) fun b4_1 => ?_)
  refine Ops_nil ?_
  refine W_seq ?_
  refine W_region ?_
  refine Ops_p (p_fieldAddr rfl rfl rfl rfl rfl rfl) (lt_dec rfl) ?_
  refine Ops_q (q_load rfl rfl m1 rfl (by first | trivial | (first | omega | (dsimp only; omega)) | exact Fin.isLt _ | (dsimp only; omega))) (lt_dec rfl) ?_
  refine Ops_p (p_conv rfl rfl rfl (by exact ⟨(by first | omega | (dsimp only; omega)), (by first | omega | (dsimp only; omega))⟩)) (lt_dec rfl) ?_
  refine Ops_x rfl (x_alloc rfl (lt_dec rfl) fun b5_1 => ?_)
  refine Ops_x rfl (x_store rfl rfl rfl rfl rfl HpRep.head rfl (by first | trivial | (first | (first | omega | (dsimp only; omega)) | exact Fin.isLt _)) ?_)
  refine Ops_nil ?_
  refine W_seq ?_
  refine W_region ?_
  refine Ops_p (p_fieldAddr rfl rfl rfl rfl rfl rfl) (lt_dec rfl) ?_
  refine Ops_q (q_load rfl rfl m3 rfl (by first | trivial | (first | omega | (dsimp only; omega)) | exact Fin.isLt _ | (dsimp only; omega))) (lt_dec rfl) ?_
  refine Ops_p (p_fieldAddr rfl rfl rfl rfl rfl rfl) (lt_dec rfl) ?_
  refine Ops_q (q_load rfl rfl m2 rfl (by first | trivial | (first | omega | (dsimp only; omega)) | exact Fin.isLt _ | (dsimp only; omega))) (lt_dec rfl) ?_
  refine Ops_p (p_mul rfl rfl (by exact ⟨(by first | omega | (dsimp only; omega)), (by first | omega | (dsimp only; omega))⟩)) (lt_dec rfl) ?_
  refine Ops_p (p_makeFunc rfl rfl) (lt_dec rfl) ?_
  refine Ops_q (q_call en_impl_made rfl (w_impl_made (need := [.rvar b5_1 (.int .u8 m), .rvar b2_1 (.agg [.int .i64 n, .arr8 100 t]), .rvar b3_1 (.agg [.int .i64 m, .arr8 100 u])]) (g := dir m t u) (by omega) en_impl_directX1 rfl (fun x y hx hy => w_impl_directX1 hs1 hs2 hnm (by omega) (by omega))) (View.cons (View.var m0) (View.cons (View.var m3) (View.var m2) rfl rfl) rfl rfl)) (lt_dec rfl) ?_
  refine Ops_x rfl (x_store rfl rfl rfl rfl rfl ((HpRep.head).tail) rfl (by first | trivial | (first | (first | omega | (dsimp only; omega)) | exact Fin.isLt _)) ?_)
  refine Ops_nil ?_
  refine W_ret ?_
  refine Exists.intro _ (And.intro (.cons (.cell rfl rfl m1 rfl trivial) .nil) ?_)
  rfl
end Go.Proofs.Ytebcapplclgaeab
