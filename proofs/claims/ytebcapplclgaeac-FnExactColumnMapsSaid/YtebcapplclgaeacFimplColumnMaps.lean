/- What the Go function impl.ColumnMaps does, shown of its loaded text; its conditions stand in the statement. -/
import Derived.Test.YtebcapplclgaeacTy
import Derived.Test.YtebcapplclgaeacFimplSquarecolumns
import Derived.Test.YtebcapplclgaeacFimplIsSquare
import Derived.Test.YtebcapplclgaeacGx12
import Derived.Test.YtebcapplclgaeacGx18
import Derived.Test.YtebcapplclgaeacM15
namespace Go.Proofs.Ytebcapplclgaeac
open Go Gx
set_option linter.unusedVariables false
theorem en_impl_ColumnMaps : Enters Try.prog 38 := enters_of Try.func38 (by kernel_rfl) (by kernel_rfl)
set_option maxRecDepth 100000 in
theorem w_impl_ColumnMaps {t : Nat → Fin 256} {n : Int}  : CT (X := V1) Try.prog 38 (vals [.agg [.int .i64 n, .arr8 100 t]]) [] [] (fun x => True) (fun x => .tup [.raw x.1 x.2, .int .i64 (bif isSq n t then 0 else 1)]) (fun x => [own x.1 64 (.arrs 10 (colsS n t))]) := by
  refine CT_intro (rs := [.tmp 2, .tmp 3]) tt tok Try.func38 rfl rfl rfl (by first | rfl | assumption) fun w => ?_
  show W _ _ _ ⟨tmOf 0 [.agg [.int .i64 n, .arr8 100 t]], []⟩
  refine W_seq ?_
  refine W_region ?_
  refine Ops_x rfl (x_box rfl rfl (lt_dec rfl) fun b1_1 => ?_)
  refine Ops_p (p_assign rfl) (lt_dec rfl) ?_
  refine Ops_p (p_assign rfl) (lt_dec rfl) ?_
  refine Ops_nil ?_
  refine W_seq ?_
  refine W_seq ?_
  refine W_region ?_
  refine Ops_q (q_load rfl rfl m0 rfl (by first | trivial | (first | omega | (dsimp only; omega)) | exact Fin.isLt _ | (dsimp only; omega))) (lt_dec rfl) ?_
  refine Ops_q (q_call en_impl_IsSquare rfl (w_impl_IsSquare) (View.none _)) (lt_dec rfl) ?_
  refine Ops_p (p_not rfl) (lt_dec rfl) ?_
  refine Ops_nil ?_
  refine W_cond rfl (fun h1 => ?_) (fun h1 => ?_)
  · try simp only [bs] at h1
    refine W_seq ?_
    refine W_region ?_
    refine Ops_p (p_assign rfl) (lt_dec rfl) ?_
    refine Ops_p (p_assign rfl) (lt_dec rfl) ?_
    refine Ops_nil ?_
    refine W_ret ?_
    refine Exists.intro _ (And.intro (.cons (.tmp rfl) (.cons (.tmp rfl) .nil)) (Exists.intro ⟨.slice none 0 0, rfl⟩ (And.intro ?_ (And.intro ?_ (And.intro (.free rfl (own_nil (by rw [colsS_f h1]; rfl) (by rw [colsS_f h1]; rfl)) .nil) rfl)))))
    · trivial
    · rw [h1]; rfl
  · try simp only [bs] at h1
    refine W_skip ?_
    refine W_seq ?_
    refine W_region ?_
    refine Ops_q (q_load rfl rfl m0 rfl (by first | trivial | (first | omega | (dsimp only; omega)) | exact Fin.isLt _ | (dsimp only; omega))) (lt_dec rfl) ?_
    refine Ops_x rfl (x_callT en_impl_Square_columns rfl (w_impl_Square_columns (of_isSq h1)) HpDels.nil (Vw.none _) (fun _ => (HpDels.cons HpDel.head HpDels.nil)) (lt_dec rfl) fun x8_1 _ => ?_)
    refine Ops_p (p_assign rfl) (lt_dec rfl) ?_
    refine Ops_p (p_assign rfl) (lt_dec rfl) ?_
    refine Ops_nil ?_
    refine W_ret ?_
    refine Exists.intro _ (And.intro (.cons (.tmp rfl) (.cons (.tmp rfl) .nil)) (Exists.intro ⟨x8_1.1, x8_1.2⟩ (And.intro ?_ (And.intro ?_ (And.intro (.cons HpDel.head rfl (own_eq (by rw [colsS_t h1])) .nil) rfl)))))
    · trivial
    · rw [h1]; rfl
end Go.Proofs.Ytebcapplclgaeac
