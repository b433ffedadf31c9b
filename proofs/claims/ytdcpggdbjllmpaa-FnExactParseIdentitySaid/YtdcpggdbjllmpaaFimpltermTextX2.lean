/- What the Go function impl.termText$2 does, shown of its loaded text; its conditions stand in the statement. -/
import Derived.Test.YtdcpggdbjllmpaaTy
import Derived.Test.YtdcpggdbjllmpaaFimplpart
import Derived.Test.YtdcpggdbjllmpaaGx14
import Derived.Test.YtdcpggdbjllmpaaGx24
import Derived.Test.YtdcpggdbjllmpaaGx27
import Derived.Test.YtdcpggdbjllmpaaM33
namespace Go.Proofs.Ytdcpggdbjllmpaa
open Go Gx
set_option linter.unusedVariables false
theorem en_impl_termTextX2 : Enters Try.prog 76 := enters_of Try.func76 (by kernel_rfl) (by kernel_rfl)
set_option maxRecDepth 100000 in
theorem w_impl_termTextX2 {c : Fin 256} {x y : List (Fin 256)} (hc : c.val < 128) (hx : 1 ≤ x.length ∧ x.length ≤ 200) (hy : 1 ≤ y.length ∧ y.length ≤ 200) : CR Try.prog 76 (vals [.u8 c, .raw (.string (strB x)) rfl, .raw (.string (strB y)) rfl]) [] (.raw (.string (strB (jnT c x y))) rfl) := by
  refine CR_intro (rs := [.tmp 6]) tt tok Try.func76 rfl rfl rfl (by first | rfl | assumption) fun w => ?_
  have hpx := prT_len x
  have hpy := prT_len y
  refine W_seq ?_
  refine W_region ?_
  refine Ops_p (p_assign rfl) (lt_dec rfl) ?_
  refine Ops_nil ?_
  refine W_seq ?_
  refine W_region ?_
  refine Ops_p (p_move rfl) (lt_dec rfl) ?_
  refine Ops_q (q_call en_impl_part rfl (w_impl_part (by omega)) (View.none _)) (lt_dec rfl) ?_
  refine Ops_p (p_move rfl) (lt_dec rfl) ?_
  refine Ops_p (p_strOf1 rfl rfl rfl rfl (by first | omega | (dsimp only; omega))) (lt_dec rfl) ?_
  refine Ops_p (p_cat (a := (prT x)) (b := [c]) rfl rfl (by first | omega | (simp only [List.length_append, List.length_cons, List.length_nil]; omega))) (lt_dec rfl) ?_
  refine Ops_p (p_move rfl) (lt_dec rfl) ?_
  refine Ops_q (q_call en_impl_part rfl (w_impl_part (by omega)) (View.none _)) (lt_dec rfl) ?_
  refine Ops_p (p_cat (a := ((prT x) ++ [c])) (b := (prT y)) rfl rfl (by first | omega | (simp only [List.length_append, List.length_cons, List.length_nil]; omega))) (lt_dec rfl) ?_
  refine Ops_p (p_assign rfl) (lt_dec rfl) ?_
  refine Ops_nil ?_
  refine W_ret ?_
  refine Exists.intro _ (And.intro (.cons (.tmp rfl) .nil) ?_)
  rfl
end Go.Proofs.Ytdcpggdbjllmpaa
