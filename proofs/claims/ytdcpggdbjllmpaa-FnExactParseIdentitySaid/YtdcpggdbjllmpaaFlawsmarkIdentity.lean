/- What the Go function laws.markIdentity does, shown of its loaded text; its conditions stand in the statement. -/
import Derived.Test.YtdcpggdbjllmpaaTy
import Derived.Test.YtdcpggdbjllmpaaFlawsmarkByteS
import Derived.Test.YtdcpggdbjllmpaaGx12
import Derived.Test.YtdcpggdbjllmpaaGx32
import Derived.Test.YtdcpggdbjllmpaaM33
namespace Go.Proofs.Ytdcpggdbjllmpaa
open Go Gx
set_option linter.unusedVariables false
theorem en_laws_markIdentity : Enters Try.prog 21 := enters_of Try.func21 (by kernel_rfl) (by kernel_rfl)
set_option maxRecDepth 100000 in
theorem w_laws_markIdentity {a c : Value} {ha : a.oneCell' = true} {hc : c.oneCell' = true} {l m : List (Fin 256)} {k : Nat} (hl : l.length ≤ 1048576) (hm : m.length ≤ 1048576) (hk : k ≤ 1000) : CT (X := Unit) Try.prog 21 (vals [.agg [.raw a ha, .raw c hc], .int .i64 (k : Int)]) [own a 5 (.u8s l), own c 5 (.u8s m)] [] (fun x => True) (fun x => .int .i64 (((k + (List.length l) + (List.length m) : Nat)) : Int)) (fun x => [own a 5 (.u8s (marksB k (List.length l))), own c 5 (.u8s (marksB (k + (List.length l)) (List.length m)))]) := by
  refine CT_intro (rs := [.tmp 4]) tt tok Try.func21 rfl rfl rfl (by first | rfl | assumption) fun w => ?_
  show W _ _ _ ⟨tmOf 0 [.agg [.raw a ha, .raw c hc], .int .i64 (k : Int)], [own a 5 (.u8s l), own c 5 (.u8s m)]⟩
  refine W_seq ?_
  refine W_region ?_
  refine Ops_x rfl (x_box rfl rfl (lt_dec rfl) fun b2_1 => ?_)
  refine Ops_p (p_assign rfl) (lt_dec rfl) ?_
  refine Ops_nil ?_
  refine W_seq ?_
  refine W_region ?_
  refine Ops_p (p_fieldAddr rfl rfl rfl rfl rfl rfl) (lt_dec rfl) ?_
  refine Ops_q (q_load rfl rfl m0 rfl (by first | exact True.intro | trivial | (first | omega | (dsimp only; omega)) | exact Fin.isLt _ | (dsimp only; omega))) (lt_dec rfl) ?_
  refine Ops_p (p_move rfl) (lt_dec rfl) ?_
  refine Ops_x rfl (x_callT en_laws_markByteS rfl (w_laws_markByteS (by first | assumption | (first | omega | (dsimp only; omega)) | (simp; done) | decide) (by first | assumption | (first | omega | (dsimp only; omega)) | (simp; done) | decide)) (HpDels.cons (HpDel.head).tail HpDels.nil) (Vw.none _) (fun _ => (HpDels.cons (HpDel.head).tail HpDels.nil)) (lt_dec rfl) fun _ _ => ?_)
  refine Ops_p (p_assign rfl) (lt_dec rfl) ?_
  refine Ops_nil ?_
  refine W_seq ?_
  refine W_region ?_
  refine Ops_p (p_fieldAddr rfl rfl rfl rfl rfl rfl) (lt_dec rfl) ?_
  refine Ops_q (q_load rfl rfl m0 rfl (by first | exact True.intro | trivial | (first | omega | (dsimp only; omega)) | exact Fin.isLt _ | (dsimp only; omega))) (lt_dec rfl) ?_
  refine Ops_p (p_move rfl) (lt_dec rfl) ?_
  refine Ops_x rfl (x_callT en_laws_markByteS rfl (w_laws_markByteS (by first | assumption | (first | omega | (dsimp only; omega)) | (simp; done) | decide) (by first | assumption | (first | omega | (dsimp only; omega)) | (simp; done) | decide)) (HpDels.cons ((HpDel.head).tail).tail HpDels.nil) (Vw.none _) (fun _ => (HpDels.cons ((HpDel.head).tail).tail HpDels.nil)) (lt_dec rfl) fun _ _ => ?_)
  refine Ops_p (p_assign rfl) (lt_dec rfl) ?_
  refine Ops_nil ?_
  refine W_seq ?_
  refine W_region ?_
  refine Ops_p (p_move rfl) (lt_dec rfl) ?_
  refine Ops_p (p_assign rfl) (lt_dec rfl) ?_
  refine Ops_nil ?_
  refine W_ret ?_
  refine Exists.intro _ (And.intro (.cons (.tmp rfl) .nil) (Exists.intro () (And.intro ?_ (And.intro ?_ (And.intro (.cons (HpDel.head).tail rfl (own_eq rfl) (.cons (HpDel.head).tail rfl (own_eq rfl) .nil)) rfl)))))
  · trivial
  · rfl
end Go.Proofs.Ytdcpggdbjllmpaa
