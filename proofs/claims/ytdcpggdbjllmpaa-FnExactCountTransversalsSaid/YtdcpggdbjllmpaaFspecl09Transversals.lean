/- What the Go function spec.l09Transversals does, shown of its loaded text; its conditions stand in the statement. -/
import Derived.Test.YtdcpggdbjllmpaaTy
import Derived.Test.YtdcpggdbjllmpaaFspecl09Across
import Derived.Test.YtdcpggdbjllmpaaGx12
import Derived.Test.YtdcpggdbjllmpaaGx27
import Derived.Test.YtdcpggdbjllmpaaGx28
import Derived.Test.YtdcpggdbjllmpaaM36
namespace Go.Proofs.Ytdcpggdbjllmpaa
open Go Gx
set_option linter.unusedVariables false
theorem en_spec_l09Transversals : Enters Try.prog 67 := enters_of Try.func67 (by kernel_rfl) (by kernel_rfl)
set_option maxRecDepth 100000 in
theorem w_spec_l09Transversals {t : Nat → Fin 256} {n : Int} (hs : SqP n t) (hn9 : n ≤ 9) : CT (X := V1 × List (Nat → Fin 256)) Try.prog 67 (vals [.agg [.int .i64 n, .arr8 100 t], .int .i64 1000000]) [] [] (fun z => z.2.length = tvX t n.toNat 0 (fun _ => false) (fun _ => false)) (fun z => .raw z.1.1 z.1.2) (fun z => [own z.1.1 84 (.arrs 10 z.2)]) := by
  refine CT_intro (rs := [.tmp 4]) tt tok Try.func67 rfl rfl rfl (by first | rfl | assumption) fun w => ?_
  show W _ _ _ ⟨tmOf 0 [.agg [.int .i64 n, .arr8 100 t], .int .i64 1000000], []⟩
  have hn := hs.1
  have htb : ((tvX t n.toNat 0 (fun _ => false) (fun _ => false) : Nat) : Int) ≤ 362880 := (by have := tvX_b (t := t) (n := n.toNat) (by omega); omega)
  refine W_seq ?_
  refine W_region ?_
  refine Ops_x rfl (x_box rfl rfl (lt_dec rfl) fun b2_1 => ?_)
  refine Ops_p (p_assign rfl) (lt_dec rfl) ?_
  refine Ops_nil ?_
  refine W_seq ?_
  refine W_free (own (.slice none 0 0) 84 (.arrs 10 [])) rfl rfl (own_nil rfl rfl) ?_
  refine W_region ?_
  refine Ops_q (q_load rfl rfl m1 rfl (by first | exact True.intro | trivial | (first | omega | (dsimp only; omega)) | exact Fin.isLt _ | (dsimp only; omega))) (lt_dec rfl) ?_
  refine Ops_p (p_build_arr rfl rfl rfl rfl (by first | exact True.intro | trivial | (first | omega | (dsimp only; omega)) | exact Fin.isLt _ | (dsimp only; omega))) (lt_dec rfl) ?_
  refine Ops_p (p_build_arr rfl rfl rfl rfl (by first | exact True.intro | trivial | (first | omega | (dsimp only; omega)) | exact Fin.isLt _ | (dsimp only; omega))) (lt_dec rfl) ?_
  refine Ops_p (p_build_arr rfl rfl rfl rfl (by first | exact True.intro | trivial | (first | omega | (dsimp only; omega)) | exact Fin.isLt _ | (dsimp only; omega))) (lt_dec rfl) ?_
  refine Ops_p (p_move rfl) (lt_dec rfl) ?_
  refine Ops_x rfl (x_callT en_spec_l09Across rfl (w_spec_l09Across (x := 0) (pp := fun _ => 0) (c := (fun _ => false)) (e := (fun _ => false)) (v := .slice none 0 0) (hv := rfl) (l := []) hs (Nat.zero_le _) (by rw [List.length_nil, Nat.zero_add]; omega)) (HpDels.cons HpDel.head HpDels.nil) (Vw.none _) (fun _ => (HpDels.cons HpDel.head HpDels.nil)) (lt_dec rfl) fun z2 hz2 => ?_)
  refine Ops_p (p_assign rfl) (lt_dec rfl) ?_
  refine Ops_nil ?_
  refine W_ret ?_
  refine Exists.intro _ (And.intro (.cons (.tmp rfl) .nil) (Exists.intro z2 (And.intro ?_ (And.intro ?_ (And.intro (.cons HpDel.head rfl (own_eq rfl) .nil) rfl)))))
  · rw [hz2]; simp
  · rfl
end Go.Proofs.Ytdcpggdbjllmpaa
