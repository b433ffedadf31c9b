/- What the Go function laws.toIdentity does, shown of its loaded text; its conditions stand in the statement. -/
import Derived.Test.YtdcpggdbjllmpaaTy
import Derived.Test.YtdcpggdbjllmpaaFlawstoByteS
import Derived.Test.YtdcpggdbjllmpaaGx12
import Derived.Test.YtdcpggdbjllmpaaGx14
import Derived.Test.YtdcpggdbjllmpaaGx24
import Derived.Test.YtdcpggdbjllmpaaGx27
import Derived.Test.YtdcpggdbjllmpaaGx28
import Derived.Test.YtdcpggdbjllmpaaM24
import Derived.Test.YtdcpggdbjllmpaaM33
namespace Go.Proofs.Ytdcpggdbjllmpaa
open Go Gx
set_option linter.unusedVariables false
theorem en_laws_toIdentity : Enters Try.prog 16 := enters_of Try.func16 (by kernel_rfl) (by kernel_rfl)
set_option maxRecDepth 100000 in
theorem w_laws_toIdentity {a c : Value} {ha : a.oneCell' = true} {hc : c.oneCell' = true} {l m : List (Fin 256)} (hl : l.length ≤ 1048576) (hm : m.length ≤ 1048576) : CT (X := V1 × V1) Try.prog 16 (vals [.agg [.raw a ha, .raw c hc]]) [] [rd a (.u8s l), rd c (.u8s m)] (fun x => True) (fun x => .agg [.raw x.1.1 x.1.2, .raw x.2.1 x.2.2]) (fun x => [own x.1.1 5 (.u8s l), own x.2.1 5 (.u8s m)]) := by
  refine CT_intro (rs := [.cell 2 32]) tt tok Try.func16 rfl rfl rfl (by first | rfl | assumption) fun w => ?_
  show W _ _ _ ⟨tmOf 0 [.agg [.raw a ha, .raw c hc]], [rd a (.u8s l), rd c (.u8s m)]⟩
  refine W_seq ?_
  refine W_region ?_
  refine Ops_x rfl (x_box rfl rfl (lt_dec rfl) fun b1_1 => ?_)
  refine Ops_x rfl (x_alloc rfl (lt_dec rfl) fun b2_1 => ?_)
  refine Ops_nil ?_
  refine W_seq ?_
  refine W_region ?_
  refine Ops_x rfl (x_alloc rfl (lt_dec rfl) fun b3_1 => ?_)
  refine Ops_nil ?_
  refine W_seq ?_
  refine W_region ?_
  refine Ops_p (p_fieldAddr rfl rfl rfl rfl rfl rfl) (lt_dec rfl) ?_
  refine Ops_q (q_load rfl rfl m2 rfl (by first | exact True.intro | trivial | (first | omega | (dsimp only; omega)) | exact Fin.isLt _ | (dsimp only; omega))) (lt_dec rfl) ?_
  refine Ops_x rfl (x_callT en_laws_toByteS rfl (w_laws_toByteS (by first | assumption | (first | omega | (dsimp only; omega)) | (simp; done) | decide)) HpDels.nil (Vw.rd m3) (fun _ => (HpDels.cons HpDel.head HpDels.nil)) (lt_dec rfl) fun x6_1 _ => ?_)
  refine Ops_p (p_fieldAddr rfl rfl rfl rfl rfl rfl) (lt_dec rfl) ?_
  refine Ops_x rfl (x_store rfl rfl rfl rfl rfl ((HpRep.head).tail) rfl (by first | trivial | (first | (first | omega | (dsimp only; omega)) | exact Fin.isLt _)) ?_)
  refine Ops_nil ?_
  refine W_seq ?_
  refine W_region ?_
  refine Ops_p (p_fieldAddr rfl rfl rfl rfl rfl rfl) (lt_dec rfl) ?_
  refine Ops_q (q_load rfl rfl m3 rfl (by first | exact True.intro | trivial | (first | omega | (dsimp only; omega)) | exact Fin.isLt _ | (dsimp only; omega))) (lt_dec rfl) ?_
  refine Ops_x rfl (x_callT en_laws_toByteS rfl (w_laws_toByteS (by first | assumption | (first | omega | (dsimp only; omega)) | (simp; done) | decide)) HpDels.nil (Vw.rd m5) (fun _ => (HpDels.cons HpDel.head HpDels.nil)) (lt_dec rfl) fun x10_1 _ => ?_)
  refine Ops_p (p_fieldAddr rfl rfl rfl rfl rfl rfl) (lt_dec rfl) ?_
  refine Ops_x rfl (x_store rfl rfl rfl rfl rfl (((HpRep.head).tail).tail) rfl (by first | trivial | (first | (first | omega | (dsimp only; omega)) | exact Fin.isLt _)) ?_)
  refine Ops_nil ?_
  refine W_seq ?_
  refine W_region ?_
  refine Ops_q (q_load rfl rfl m2 rfl (by first | exact True.intro | trivial | (first | omega | (dsimp only; omega)) | exact Fin.isLt _ | (dsimp only; omega))) (lt_dec rfl) ?_
  refine Ops_x rfl (x_store rfl rfl rfl rfl rfl ((((HpRep.head).tail).tail).tail) rfl (by first | trivial | (first | (first | omega | (dsimp only; omega)) | exact Fin.isLt _)) ?_)
  refine Ops_nil ?_
  refine W_ret ?_
  refine Exists.intro _ (And.intro (.cons (.cell rfl rfl m3 rfl trivial) .nil) (Exists.intro (x6_1, x10_1) (And.intro ?_ (And.intro ?_ (And.intro (.cons (HpDel.head).tail rfl (own_eq rfl) (.cons HpDel.head rfl (own_eq rfl) .nil)) rfl)))))
  · trivial
  · rfl
end Go.Proofs.Ytdcpggdbjllmpaa
