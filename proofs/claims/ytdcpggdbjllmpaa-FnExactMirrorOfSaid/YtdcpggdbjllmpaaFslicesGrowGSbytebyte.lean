/- What the Go function slices.Grow[[]byte,byte] does, shown of its loaded text; its conditions stand in the statement. -/
import Derived.Test.YtdcpggdbjllmpaaTy
import Derived.Test.YtdcpggdbjllmpaaGx12
import Derived.Test.YtdcpggdbjllmpaaGx27
import Derived.Test.YtdcpggdbjllmpaaGx33
namespace Go.Proofs.Ytdcpggdbjllmpaa
open Go Gx
set_option linter.unusedVariables false
theorem en_slices_GrowGSbytebyte : Enters Try.prog 96 := enters_of Try.func96 (by kernel_rfl) (by kernel_rfl)
set_option maxRecDepth 100000 in
theorem w_slices_GrowGSbytebyte {n : Nat} (h0 : 0 < n) (hn : n ≤ 100000) : CT (X := V1) Try.prog 96 (vals [.raw (.slice none 0 0) rfl, .int .i64 (n : Int)]) [] [] (fun x => True) (fun x => .raw x.1 x.2) (fun x => [own x.1 5 (.u8s [])]) := by
  refine CT_intro (rs := [.tmp 4]) tt tok Try.func96 rfl rfl rfl (by first | rfl | assumption) fun w => ?_
  show W _ _ _ ⟨tmOf 0 [.raw (.slice none 0 0) rfl, .int .i64 (n : Int)], []⟩
  refine W_seq ?_
  refine W_region ?_
  refine Ops_p (p_assign rfl) (lt_dec rfl) ?_
  refine Ops_nil ?_
  refine W_seq ?_
  refine W_seq ?_
  refine W_region ?_
  refine Ops_p (p_move rfl) (lt_dec rfl) ?_
  refine Ops_p (p_lss rfl rfl) (lt_dec rfl) ?_
  refine Ops_nil ?_
  refine W_cond rfl (fun h1 => ?_) (fun h1 => ?_)
  · try simp only [bs] at h1
    exfalso; omega
  · try simp only [bs] at h1
    refine W_skip ?_
    refine W_seq ?_
    refine W_seq ?_
    refine W_region ?_
    refine Ops_p (p_move rfl) (lt_dec rfl) ?_
    refine Ops_p (p_move rfl) (lt_dec rfl) ?_
    refine Ops_p (p_cap_nil rfl rfl rfl) (lt_dec rfl) ?_
    refine Ops_p (p_move rfl) (lt_dec rfl) ?_
    refine Ops_p (p_len_nil rfl rfl rfl) (lt_dec rfl) ?_
    refine Ops_p (p_sub rfl rfl (by exact ⟨(by first | omega | (dsimp only; omega)), (by first | omega | (dsimp only; omega))⟩)) (lt_dec rfl) ?_
    refine Ops_p (p_sub rfl rfl (by exact ⟨(by first | omega | (dsimp only; omega)), (by first | omega | (dsimp only; omega))⟩)) (lt_dec rfl) ?_
    refine Ops_p (p_assign rfl) (lt_dec rfl) ?_
    refine Ops_nil ?_
    refine W_seq ?_
    refine W_region ?_
    refine Ops_p (p_move rfl) (lt_dec rfl) ?_
    refine Ops_p (p_gtr rfl rfl) (lt_dec rfl) ?_
    refine Ops_nil ?_
    refine W_cond rfl (fun h2 => ?_) (fun h2 => ?_)
    · try simp only [bs] at h2
      refine W_region ?_
      refine Ops_p (p_move rfl) (lt_dec rfl) ?_
      refine Ops_p (p_move rfl) (lt_dec rfl) ?_
      refine Ops_p (p_cap_nil rfl rfl rfl) (lt_dec rfl) ?_
      refine Ops_p (p_take_nil rfl rfl rfl rfl rfl) (lt_dec rfl) ?_
      refine Ops_p (p_move rfl) (lt_dec rfl) ?_
      refine Ops_x rfl (x_growNil (n := n) rfl rfl rfl rfl rfl rfl rfl (by omega) (by omega) rfl (by show _ * 1 ≤ _; omega) (by omega) (lt_dec rfl) fun b22_1 cb22_1 => ?_)
      refine Ops_p (p_move rfl) (lt_dec rfl) ?_
      refine Ops_p (p_len_nil rfl rfl rfl) (lt_dec rfl) ?_
      refine Ops_p (p_take (n := 0) rfl rfl rfl rfl rfl (by omega)) (lt_dec rfl) ?_
      refine Ops_p (p_assign rfl) (lt_dec rfl) ?_
      refine Ops_nil ?_
      refine W_seq ?_
      refine W_region ?_
      refine Ops_p (p_move rfl) (lt_dec rfl) ?_
      refine Ops_p (p_assign rfl) (lt_dec rfl) ?_
      refine Ops_nil ?_
      refine W_ret ?_
      refine Exists.intro _ (And.intro (.cons (.tmp rfl) .nil) (Exists.intro ⟨.slice (some ⟨b22_1, 0, none⟩) 0 cb22_1, rfl⟩ (And.intro ?_ (And.intro ?_ (And.intro (.cons HpDel.head rfl (own_of_row rfl rfl) .nil) rfl)))))
      · trivial
      · rfl
    · try simp only [bs] at h2
      exfalso; omega
end Go.Proofs.Ytdcpggdbjllmpaa
