/- What the Go function (impl.Square).transversals does, shown of its loaded text; its conditions stand in the statement. -/
import Derived.Test.YtdcpggdbjllmpaaTy
import Derived.Test.YtdcpggdbjllmpaaFimplSquaretransversalsX1
import Derived.Test.YtdcpggdbjllmpaaGx12
import Derived.Test.YtdcpggdbjllmpaaGx27
import Derived.Test.YtdcpggdbjllmpaaGx28
import Derived.Test.YtdcpggdbjllmpaaM36
namespace Go.Proofs.Ytdcpggdbjllmpaa
open Go Gx
set_option linter.unusedVariables false
theorem en_impl_Square_transversals : Enters Try.prog 68 := enters_of Try.func68 (by kernel_rfl) (by kernel_rfl)
set_option maxRecDepth 100000 in
set_option maxHeartbeats 1000000 in
theorem w_impl_Square_transversals {t : Nat → Fin 256} {n : Int} {bc : Nat} (hs : SqP n t) (hn9 : n ≤ 9) : CT (X := Unit) Try.prog 68 (vals [.agg [.int .i64 n, .arr8 100 t], .raw (.func (.func 69) #[] #[ptrV bc]) rfl]) [.var bc (.int .i64 0)] [] (fun x => True) (fun x => .tup []) (fun x => [.var bc (.int .i64 (((tvX t n.toNat 0 (fun _ => false) (fun _ => false)) : Nat) : Int))]) := by
  refine CT_intro (rs := []) tt tok Try.func68 rfl rfl rfl (by first | rfl | assumption) fun w => ?_
  show W _ _ _ ⟨tmOf 0 [.agg [.int .i64 n, .arr8 100 t], .raw (.func (.func 69) #[] #[ptrV bc]) rfl], [.var bc (.int .i64 0)]⟩
  have hn := hs.1
  have htb : (((tvX t n.toNat 0 (fun _ => false) (fun _ => false)) : Nat) : Int) ≤ 362880 := (by have := tvX_b (t := t) (n := n.toNat) (by omega); omega)
  refine W_seq ?_
  refine W_region ?_
  refine Ops_x rfl (x_box rfl rfl (lt_dec rfl) fun b2_1 => ?_)
  refine Ops_x rfl (x_box rfl rfl (lt_dec rfl) fun b3_1 => ?_)
  refine Ops_nil ?_
  refine W_seq ?_
  refine W_region ?_
  refine Ops_p (p_build_arr rfl rfl rfl rfl (by first | exact True.intro | trivial | (first | omega | (dsimp only; omega)) | exact Fin.isLt _ | (dsimp only; omega))) (lt_dec rfl) ?_
  refine Ops_x rfl (x_alloc rfl (lt_dec rfl) fun b4_1 => ?_)
  refine Ops_x rfl (x_store rfl rfl rfl rfl rfl HpRep.head rfl (by first | trivial | (first | (first | omega | (dsimp only; omega)) | exact Fin.isLt _)) ?_)
  refine Ops_nil ?_
  refine W_seq ?_
  refine W_region ?_
  refine Ops_x rfl (x_alloc rfl (lt_dec rfl) fun b5_1 => ?_)
  refine Ops_nil ?_
  refine W_seq ?_
  refine W_region ?_
  refine Ops_p (p_makeFunc rfl rfl) (lt_dec rfl) ?_
  refine Ops_x rfl (x_store rfl rfl rfl rfl rfl HpRep.head rfl (by first | trivial | (first | (first | omega | (dsimp only; omega)) | exact Fin.isLt _)) ?_)
  refine Ops_nil ?_
  refine W_region ?_
  refine Ops_q (q_load rfl rfl m0 rfl (by first | exact True.intro | trivial | (first | omega | (dsimp only; omega)) | exact Fin.isLt _ | (dsimp only; omega))) (lt_dec rfl) ?_
  refine Ops_x rfl (x_callvT en_impl_Square_transversalsX1 rfl rfl (w_impl_Square_transversalsX1 (x := 0) (u := 0) (m := 0) (z := 0) (pp := fun _ => 0) (bq := b2_1) (bv := b3_1) (bp := b4_1) (bf := b5_1) (bc := bc) hs (Nat.zero_le _) (by omega) (by omega) (by rw [bit_zero]; omega)) (HpDels.cons (HpDel.head).tail (HpDels.cons (((HpDel.head).tail).tail).tail HpDels.nil)) (Vw.cons (Vw.var m2) (Vw.cons (Vw.var m1) (Vw.var m0))) (fun _ => (HpDels.cons (HpDel.head).tail (HpDels.cons (((HpDel.head).tail).tail).tail HpDels.nil))) (lt_dec rfl) fun w9 _ => ?_)
  refine Ops_nil ?_
  refine Exists.intro _ (And.intro (.nil) (Exists.intro () (And.intro ?_ (And.intro ?_ (And.intro (.cons ((((HpDel.head).tail).tail).tail).tail rfl (imp_var (by rw [Nat.zero_add, bit_zero]) rfl) .nil) rfl)))))
  · trivial
  · rfl
end Go.Proofs.Ytdcpggdbjllmpaa
