/- What the Go function impl.IntercalatesOf$1 does, shown of its loaded text; its conditions stand in the statement. -/
import Derived.Test.YtdcpggdbjllmpaaTy
import Derived.Test.YtdcpggdbjllmpaaFimplSquareforPairsV2
import Derived.Test.YtdcpggdbjllmpaaFimplIntercalatesOfX1X1
import Derived.Test.YtdcpggdbjllmpaaGx12
import Derived.Test.YtdcpggdbjllmpaaGx20
import Derived.Test.YtdcpggdbjllmpaaGx28
import Derived.Test.YtdcpggdbjllmpaaM17
import Derived.Test.YtdcpggdbjllmpaaM35
namespace Go.Proofs.Ytdcpggdbjllmpaa
open Go Gx
set_option linter.unusedVariables false
theorem en_impl_IntercalatesOfX1 : Enters Try.prog 61 := enters_of Try.func61 (by kernel_rfl) (by kernel_rfl)
set_option maxRecDepth 100000 in
theorem w_impl_IntercalatesOfX1 {t : Nat → Fin 256} {n : Int} {a b bq bo : Nat} {v : Value} {hv : v.oneCell' = true} {D : SL} (hs : SqP n t) (ha : a < n.toNat) (hb : b < n.toNat) (hD : D.map (·.2) = icP t n.toNat a b 0 0) : CT (X := V1 × SL) Try.prog 61 (vals [.int .u8 (a : Int), .int .u8 (b : Int), .ptr bq 0 none, .ptr bo 0 none]) [.var bo (.raw v hv), oss v 74 2 D] [.rvar bq (.agg [.int .i64 n, .arr8 100 t])] (fun x => x.2.map (·.2) = icP t n.toNat a (b + 1) 0 0) (fun x => .bool true) (fun x => [.var bo (.raw x.1.1 x.1.2), oss x.1.1 74 2 x.2]) := by
  refine CT_intro (rs := [.tmp 6]) tt tok Try.func61 rfl rfl rfl (by first | rfl | assumption) fun w => ?_
  show W _ _ _ ⟨tmOf 0 [.int .u8 (a : Int), .int .u8 (b : Int), .ptr bq 0 none, .ptr bo 0 none], [.var bo (.raw v hv), oss v 74 2 D, .rvar bq (.agg [.int .i64 n, .arr8 100 t])]⟩
  have hn := hs.1
  refine W_seq ?_
  refine W_region ?_
  refine Ops_x rfl (x_box rfl rfl (lt_dec rfl) fun b4_1 => ?_)
  refine Ops_x rfl (x_box rfl rfl (lt_dec rfl) fun b5_1 => ?_)
  refine Ops_p (p_assign rfl) (lt_dec rfl) ?_
  refine Ops_nil ?_
  refine W_seq ?_
  refine W_region ?_
  refine Ops_q (q_load rfl rfl m1 rfl (by first | trivial | (first | omega | (dsimp only; omega)) | exact Fin.isLt _ | (dsimp only; omega))) (lt_dec rfl) ?_
  refine Ops_q (q_load rfl rfl m0 rfl (by first | trivial | (first | omega | (dsimp only; omega)) | exact Fin.isLt _ | (dsimp only; omega))) (lt_dec rfl) ?_
  refine Ops_p (p_geq rfl rfl) (lt_dec rfl) ?_
  refine Ops_p (p_move rfl) (lt_dec rfl) ?_
  refine Ops_guard rfl rfl (lt_dec rfl) (fun hg1 => ?_) (fun hg1 => ?_)
  · try simp only [bs] at hg1
    refine Ops_q (q_load_r rfl rfl m4 rfl (by first | trivial | (first | omega | (dsimp only; omega)) | exact Fin.isLt _ | (dsimp only; omega))) (lt_dec rfl) ?_
    refine Ops_guard_t rfl rfl (lt_dec rfl) ?_
    refine Ops_p (p_makeFunc rfl rfl) (lt_dec rfl) ?_
    refine Ops_guard_t rfl rfl (lt_dec rfl) ?_
    refine Ops_x rfl (x_callT en_impl_Square_forPairsV2 rfl (w_impl_Square_forPairsV2 (Z := V1 × SL) (S := fun z => .var bo (.raw z.1.1 z.1.2)) (O := fun z => oss z.1.1 74 2 z.2) (okz := fun c d z => z.2.map (·.2) = icP t n.toNat a b c d) (need := [.rvar bq (.agg [.int .i64 n, .arr8 100 t]), .rvar b4_1 (.int .u8 (a : Int)), .rvar b5_1 (.int .u8 (b : Int))]) (z0 := (⟨v, hv⟩, D)) hn en_impl_IntercalatesOfX1X1 rfl (fun z => ⟨rfl, rfl⟩) hD (fun c z _ h => h.trans icP_d.symm) (fun c d z hc hd h => w_impl_IntercalatesOfX1X1 (a := a) (b := b) (c := c) (d := d) (bq := bq) (ba := b4_1) (bb := b5_1) (bo := bo) (v := z.1.1) (hv := z.1.2) (D := z.2) hs ha hb hc hd h)) (HpDels.cons ((HpDel.head).tail).tail (HpDels.cons ((HpDel.head).tail).tail HpDels.nil)) (Vw.cons (Vw.rvar m2) (Vw.cons (Vw.var m1) (Vw.var m0))) (fun _ => (HpDels.cons ((HpDel.head).tail).tail (HpDels.cons ((HpDel.head).tail).tail HpDels.nil))) (lt_dec rfl) fun z2 hz2 => ?_)
    refine Ops_p (p_pick_f rfl rfl) (lt_dec rfl) ?_
    refine Ops_p (p_assign rfl) (lt_dec rfl) ?_
    refine Ops_nil ?_
    refine W_ret ?_
    refine Exists.intro _ (And.intro (.cons (.tmp rfl) .nil) (Exists.intro z2 (And.intro ?_ (And.intro ?_ (And.intro (.cons ((HpDel.head).tail).tail rfl (imp_var rfl rfl) (.cons ((HpDel.head).tail).tail rfl (oss_eq rfl) .nil)) rfl)))))
    · exact hz2.trans (icP_c (by omega)).symm
    · rfl
  · try simp only [bs] at hg1
    refine Ops_guard_f rfl rfl rfl (lt_dec rfl) ?_
    refine Ops_guard_f rfl rfl rfl (lt_dec rfl) ?_
    refine Ops_p (p_pick_t rfl rfl) (lt_dec rfl) ?_
    refine Ops_p (p_assign rfl) (lt_dec rfl) ?_
    refine Ops_nil ?_
    refine W_ret ?_
    refine Exists.intro _ (And.intro (.cons (.tmp rfl) .nil) (Exists.intro (⟨v, hv⟩, D) (And.intro ?_ (And.intro ?_ (And.intro (.cons ((HpDel.head).tail).tail rfl (imp_var rfl rfl) (.cons ((HpDel.head).tail).tail rfl (oss_eq rfl) .nil)) rfl)))))
    · exact hD.trans (icP_cn (by omega)).symm
    · rfl
end Go.Proofs.Ytdcpggdbjllmpaa
