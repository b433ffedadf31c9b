/- What the Go function impl.ParseSquare$1 does, shown of its loaded text; its conditions stand in the statement. -/
import Derived.Test.YtdcpggdbjllmpaaTy
import Derived.Test.YtdcpggdbjllmpaaGx27
import Derived.Test.YtdcpggdbjllmpaaGx31
import Derived.Test.YtdcpggdbjllmpaaM39
namespace Go.Proofs.Ytdcpggdbjllmpaa
open Go Gx
set_option linter.unusedVariables false
theorem en_impl_ParseSquareX1 : Enters Try.prog 53 := enters_of Try.func53 (by kernel_rfl) (by kernel_rfl)
set_option maxRecDepth 100000 in
theorem w_impl_ParseSquareX1 {s : List (Fin 256)} {x y m bs_ bn : Nat} (hs : s.length ≤ 1048576) (hm : m ≤ 10) (hl : s.length + 1 = m * (m + 1)) (hx : x < m) (hy : y < m) : CR Try.prog 53 (vals [.int .u8 (x : Int), .int .u8 (y : Int), .ptr bs_ 0 none, .ptr bn 0 none]) [.rvar bs_ (.raw (.string (strB s)) rfl), .rvar bn (.int .i64 (m : Int))] (.u8 (sub48 (s.getD (x * (m + 1) + y) 0))) := by
  refine CR_intro (rs := [.tmp 6]) tt tok Try.func53 rfl rfl rfl (by first | rfl | assumption) fun w => ?_
  have hxm := ps_xm hx hy hl
  have hix := ps_ix (m := m) (x := x) (y := y)
  have hxn : (x : Int) * ((m : Int) + 1) = ((x * (m + 1) : Nat) : Int) := (by rw [Int.natCast_mul, Int.natCast_add]; rfl)
  refine W_seq ?_
  refine W_region ?_
  refine Ops_p (p_assign rfl) (lt_dec rfl) ?_
  refine Ops_nil ?_
  refine W_seq ?_
  refine W_region ?_
  refine Ops_q (q_load_r rfl rfl m0 rfl (by first | exact True.intro | trivial | (first | omega | (dsimp only; omega)) | exact Fin.isLt _ | (dsimp only; omega))) (lt_dec rfl) ?_
  refine Ops_p (p_move rfl) (lt_dec rfl) ?_
  first | refine Ops_p (p_conv8 rfl rfl rfl (by decide)) (lt_dec rfl) ?_ | refine Ops_p (p_conv rfl rfl rfl (by exact ⟨(by first | omega | (dsimp only; omega)), (by first | omega | (dsimp only; omega))⟩)) (lt_dec rfl) ?_
  refine Ops_q (q_load_r rfl rfl m1 rfl (by first | exact True.intro | trivial | (first | omega | (dsimp only; omega)) | exact Fin.isLt _ | (dsimp only; omega))) (lt_dec rfl) ?_
  refine Ops_p (p_add rfl rfl (by exact ⟨(by first | omega | (dsimp only; omega)), (by first | omega | (dsimp only; omega))⟩)) (lt_dec rfl) ?_
  refine Ops_p (p_mul rfl rfl (by exact ⟨(by first | omega | (dsimp only; omega)), (by first | omega | (dsimp only; omega))⟩)) (lt_dec rfl) ?_
  refine Ops_p (p_move rfl) (lt_dec rfl) ?_
  first | refine Ops_p (p_conv8 rfl rfl rfl (by decide)) (lt_dec rfl) ?_ | refine Ops_p (p_conv rfl rfl rfl (by exact ⟨(by first | omega | (dsimp only; omega)), (by first | omega | (dsimp only; omega))⟩)) (lt_dec rfl) ?_
  refine Ops_p (p_add rfl rfl (by exact ⟨(by first | omega | (dsimp only; omega)), (by first | omega | (dsimp only; omega))⟩)) (lt_dec rfl) ?_
  refine Ops_p ((p_index_s (x * (m + 1) + y) rfl rfl rfl (by first | exact hix | omega) (by omega))) (lt_dec rfl) ?_
  refine Ops_p ((p_sub_w rfl rfl).eq (d' := .u8 (sub48 (s.getD (x * (m + 1) + y) 0))) veq_sub48) (lt_dec rfl) ?_
  refine Ops_p (p_assign rfl) (lt_dec rfl) ?_
  refine Ops_nil ?_
  refine W_ret ?_
  refine Exists.intro _ (And.intro (.cons (.tmp rfl) .nil) ?_)
  rfl
end Go.Proofs.Ytdcpggdbjllmpaa
