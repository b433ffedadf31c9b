/- What the Go function math/bits.OnesCount64 does, shown of its loaded text; its conditions stand in the statement. -/
import Derived.Test.YtebcapplclgaeadTy
import Derived.Test.YtebcapplclgaeadM25
namespace Go.Proofs.Ytebcapplclgaead
open Go Gx
set_option linter.unusedVariables false
theorem en_math_bits_OnesCount64 : Enters Try.prog 171 := enters_of Try.func171 (by kernel_rfl) (by kernel_rfl)
set_option maxRecDepth 100000 in
theorem w_math_bits_OnesCount64 {s : Nat} (hs : s < 1024) : CR Try.prog 171 (vals [.int .u64 (s : Int)]) [] (.int .i64 (((setL s 10).length : Nat) : Int)) := by
  refine CR_intro (rs := [.tmp 2]) tt tok Try.func171 rfl rfl rfl (by first | rfl | assumption) fun w => ?_
  obtain ⟨b1, b2, b3, b4, b5, b6, b7, b8⟩ := oc_all s hs
  have l1 : (s / 2 &&& 6148914691236517205) ≤ s / 2 := Nat.and_le_left
  have l2 : (s &&& 6148914691236517205) ≤ s := Nat.and_le_left
  have l3 : (oc1 s / 4 &&& 3689348814741910323) ≤ oc1 s / 4 := Nat.and_le_left
  have l4 : (oc1 s &&& 3689348814741910323) ≤ oc1 s := Nat.and_le_left
  refine W_seq ?_
  refine W_region ?_
  refine Ops_p (p_assign rfl) (lt_dec rfl) ?_
  refine Ops_nil ?_
  refine W_seq ?_
  refine W_region ?_
  refine Ops_p (p_move rfl) (lt_dec rfl) ?_
  refine Ops_p (p_shrN (b := 1) rfl rfl (by omega) rfl) (lt_dec rfl) ?_
  refine Ops_p (p_andN (a := s / 2) (b := 6148914691236517205) rfl rfl (by omega) (by omega)) (lt_dec rfl) ?_
  refine Ops_p (p_move rfl) (lt_dec rfl) ?_
  refine Ops_p (p_andN (a := s) (b := 6148914691236517205) rfl rfl (by omega) (by omega)) (lt_dec rfl) ?_
  refine Ops_p (p_addN (a := s / 2 &&& 6148914691236517205) (b := s &&& 6148914691236517205) (c := oc1 s) rfl rfl (by omega) rfl) (lt_dec rfl) ?_
  refine Ops_p (p_assign rfl) (lt_dec rfl) ?_
  refine Ops_nil ?_
  refine W_seq ?_
  refine W_region ?_
  refine Ops_p (p_move rfl) (lt_dec rfl) ?_
  refine Ops_p (p_shrN (b := 2) rfl rfl (by omega) rfl) (lt_dec rfl) ?_
  refine Ops_p (p_andN (a := oc1 s / 4) (b := 3689348814741910323) rfl rfl (by omega) (by omega)) (lt_dec rfl) ?_
  refine Ops_p (p_move rfl) (lt_dec rfl) ?_
  refine Ops_p (p_andN (a := oc1 s) (b := 3689348814741910323) rfl rfl (by omega) (by omega)) (lt_dec rfl) ?_
  refine Ops_p (p_addN (a := oc1 s / 4 &&& 3689348814741910323) (b := oc1 s &&& 3689348814741910323) (c := oc2 s) rfl rfl (by omega) rfl) (lt_dec rfl) ?_
  refine Ops_p (p_assign rfl) (lt_dec rfl) ?_
  refine Ops_nil ?_
  refine W_seq ?_
  refine W_region ?_
  refine Ops_p (p_move rfl) (lt_dec rfl) ?_
  refine Ops_p (p_shrN (b := 4) rfl rfl (by omega) rfl) (lt_dec rfl) ?_
  refine Ops_p (p_move rfl) (lt_dec rfl) ?_
  refine Ops_p (p_addN (a := oc2 s / 16) (b := oc2 s) (c := oc2 s / 16 + oc2 s) rfl rfl (by omega) rfl) (lt_dec rfl) ?_
  refine Ops_p (p_andN (a := oc2 s / 16 + oc2 s) (b := 1085102592571150095) rfl rfl (by omega) (by omega)) (lt_dec rfl) ?_
  refine Ops_p (p_assign rfl) (lt_dec rfl) ?_
  refine Ops_nil ?_
  refine W_seq ?_
  refine W_region ?_
  refine Ops_p (p_move rfl) (lt_dec rfl) ?_
  refine Ops_p (p_move rfl) (lt_dec rfl) ?_
  refine Ops_p (p_shrN (b := 8) rfl rfl (by omega) rfl) (lt_dec rfl) ?_
  refine Ops_p (p_addN (a := oc3 s) (b := oc3 s / 256) (c := oc4 s) rfl rfl (by omega) rfl) (lt_dec rfl) ?_
  refine Ops_p (p_assign rfl) (lt_dec rfl) ?_
  refine Ops_nil ?_
  refine W_seq ?_
  refine W_region ?_
  refine Ops_p (p_move rfl) (lt_dec rfl) ?_
  refine Ops_p (p_move rfl) (lt_dec rfl) ?_
  refine Ops_p (p_shrN (b := 16) rfl rfl (by omega) rfl) (lt_dec rfl) ?_
  refine Ops_p (p_addN (a := oc4 s) (b := oc4 s / 65536) (c := oc5 s) rfl rfl (by omega) rfl) (lt_dec rfl) ?_
  refine Ops_p (p_assign rfl) (lt_dec rfl) ?_
  refine Ops_nil ?_
  refine W_seq ?_
  refine W_region ?_
  refine Ops_p (p_move rfl) (lt_dec rfl) ?_
  refine Ops_p (p_move rfl) (lt_dec rfl) ?_
  refine Ops_p (p_shrN (b := 32) rfl rfl (by omega) rfl) (lt_dec rfl) ?_
  refine Ops_p (p_addN (a := oc5 s) (b := oc5 s / 4294967296) (c := oc6 s) rfl rfl (by omega) rfl) (lt_dec rfl) ?_
  refine Ops_p (p_assign rfl) (lt_dec rfl) ?_
  refine Ops_nil ?_
  refine W_seq ?_
  refine W_region ?_
  refine Ops_p (p_move rfl) (lt_dec rfl) ?_
  refine Ops_p (p_conv rfl rfl rfl (by exact ⟨(by first | omega | (dsimp only; omega)), (by first | omega | (dsimp only; omega))⟩)) (lt_dec rfl) ?_
  refine Ops_p (p_andI (a := oc6 s) (b := 127) rfl rfl (by omega) (by omega)) (lt_dec rfl) ?_
  refine Ops_p (p_assign rfl) (lt_dec rfl) ?_
  refine Ops_nil ?_
  refine W_ret ?_
  refine Exists.intro _ (And.intro (.cons (.tmp rfl) .nil) ?_)
  exact veq_int (congrArg (fun x : Nat => (x : Int)) b8)
end Go.Proofs.Ytebcapplclgaead
