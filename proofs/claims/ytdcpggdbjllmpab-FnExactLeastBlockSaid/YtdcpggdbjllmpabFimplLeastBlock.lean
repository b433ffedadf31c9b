/- What the Go function impl.LeastBlock does, shown of its loaded text; its conditions stand in the statement. -/
import Derived.Test.YtdcpggdbjllmpabTy
import Derived.Test.YtdcpggdbjllmpabFimplgroupCodeV2
import Derived.Test.YtdcpggdbjllmpabFimplleastBlock
import Derived.Test.YtdcpggdbjllmpabFimplorbits
import Derived.Test.YtdcpggdbjllmpabGx12
import Derived.Test.YtdcpggdbjllmpabGx20
import Derived.Test.YtdcpggdbjllmpabGx26
import Derived.Test.YtdcpggdbjllmpabM32
namespace Go.Proofs.Ytdcpggdbjllmpab
open Go Gx
set_option linter.unusedVariables false
theorem en_impl_LeastBlock : Enters Try.prog 13 := enters_of Try.func13 (by kernel_rfl) (by kernel_rfl)
set_option maxRecDepth 100000 in
theorem w_impl_LeastBlock {a : Value} {ha : a.oneCell' = true} {l : List (Nat → Fin 256)} {n x y : Int} (hl : l.length ≤ 1048576) : CT (X := V1) Try.prog 13 (vals [.raw a ha, .int .i64 n, .int .i64 x, .int .i64 y]) [] [rd a (.arrs 10 l)] (fun x1 => True) (fun x1 => .tup [.raw x1.1 x1.2, .int .i64 (lbC l n x y)]) (fun x1 => [own x1.1 2 (.ints .i64 (lbL l n x y))]) := by
  refine CT_intro (rs := [.tmp 8, .tmp 9]) tt tok Try.func13 rfl rfl rfl (by first | rfl | assumption) fun w => ?_
  show W _ _ _ ⟨tmOf 0 [.raw a ha, .int .i64 n, .int .i64 x, .int .i64 y], [rd a (.arrs 10 l)]⟩
  refine W_seq ?_
  refine W_region ?_
  refine Ops_p (p_assign rfl) (lt_dec rfl) ?_
  refine Ops_p (p_assign rfl) (lt_dec rfl) ?_
  refine Ops_nil ?_
  refine W_seq ?_
  refine W_seq ?_
  refine W_region ?_
  refine Ops_p (p_move rfl) (lt_dec rfl) ?_
  refine Ops_p (p_move rfl) (lt_dec rfl) ?_
  refine Ops_p (p_move rfl) (lt_dec rfl) ?_
  refine Ops_p (p_move rfl) (lt_dec rfl) ?_
  refine Ops_x rfl (x_buildSlice rfl rfl rfl rfl rfl rfl rfl rfl (Nat.le_of_ble_eq_true rfl) (lt_dec rfl) fun b15_1 => ?_)
  refine Ops_q (q_call en_impl_groupCodeV2 rfl (w_impl_groupCodeV2 (by first | assumption | (first | omega | (dsimp only; omega)) | (simp; done) | decide)) (View.cons (Vw.rd m1).v (View.row m0) rfl rfl)) (lt_dec rfl) ?_
  refine Ops_p (p_assign rfl) (lt_dec rfl) ?_
  refine Ops_nil ?_
  refine W_seq ?_
  refine W_region ?_
  refine Ops_p (p_move rfl) (lt_dec rfl) ?_
  refine Ops_p (p_neq rfl rfl) (lt_dec rfl) ?_
  refine Ops_nil ?_
  refine W_cond rfl (fun h1 => ?_) (fun h1 => ?_)
  · try simp only [bs] at h1
    refine W_seq ?_
    refine W_region ?_
    refine Ops_p (p_move rfl) (lt_dec rfl) ?_
    refine Ops_p (p_assign rfl) (lt_dec rfl) ?_
    refine Ops_p (p_assign rfl) (lt_dec rfl) ?_
    refine Ops_nil ?_
    refine W_ret ?_
    refine Exists.intro _ (And.intro (.cons (.tmp rfl) (.cons (.tmp rfl) .nil)) (Exists.intro ⟨.slice none 0 0, rfl⟩ (And.intro ?_ (And.intro ?_ (And.intro (.free rfl (own_nil (by rw [lbL_n (psD_n (by omega)) (by omega)]; rfl) (by rw [lbL_n (psD_n (by omega)) (by omega)]; rfl)) .nil) rfl)))))
    · trivial
    · rw [(psD_n (by omega))]; rfl
  · try simp only [bs] at h1
    refine W_skip ?_
    refine W_seq ?_
    refine W_seq ?_
    have hD0 : psD l n x y = 0 := (by omega)
    have hpo := (psC_ok (psD_ok hD0).1).1
    have hl40 := (psC_ok (psD_ok hD0).1).2
    have hin := (psD_ok hD0).2
    have hin2 : (0 ≤ x ∧ x ≤ n - 1) ∧ (0 ≤ y ∧ y ≤ n - 1) := hin
    have hnb := hpo.1
    have hxC : ((x.toNat : Nat) : Int) = x := (by omega)
    have hyC : ((y.toNat : Nat) : Int) = y := (by omega)
    refine W_region ?_
    refine Ops_p (p_move rfl) (lt_dec rfl) ?_
    refine Ops_p (p_move rfl) (lt_dec rfl) ?_
    refine Ops_x rfl (x_callT en_impl_orbits rfl (w_impl_orbits hpo hl40) HpDels.nil (Vw.rd m1) (fun _ => (HpDels.cons HpDel.head HpDels.nil)) (lt_dec rfl) fun x22_1 hx1 => ?_)
    refine Ops_q (q_lenO rfl rfl rfl (Rds.ossO m0)) (lt_dec rfl) ?_
    refine Ops_p (p_gtr rfl rfl) (lt_dec rfl) ?_
    refine Ops_nil ?_
    refine W_cond rfl (fun h2 => ?_) (fun h2 => ?_)
    · try simp only [bs] at h2
      refine W_seq ?_
      refine W_region ?_
      refine Ops_p (p_assign rfl) (lt_dec rfl) ?_
      refine Ops_p (p_assign rfl) (lt_dec rfl) ?_
      refine Ops_nil ?_
      refine W_ret ?_
      refine Exists.intro _ (And.intro (.cons (.tmp rfl) (.cons (.tmp rfl) .nil)) (Exists.intro ⟨.slice none 0 0, rfl⟩ (And.intro ?_ (And.intro ?_ (And.intro (.free rfl (own_nil (by rw [lbL_n (lb_5 (psD_ok hD0).1 hin (by rw [orbS_0 (psD_ok hD0).1, ← hx1]; simp only [List.length_map]; omega)) (by omega)]; rfl) (by rw [lbL_n (lb_5 (psD_ok hD0).1 hin (by rw [orbS_0 (psD_ok hD0).1, ← hx1]; simp only [List.length_map]; omega)) (by omega)]; rfl)) .nil) rfl)))))
      · trivial
      · rw [(lb_5 (psD_ok hD0).1 hin (by rw [orbS_0 (psD_ok hD0).1, ← hx1]; simp only [List.length_map]; omega))]; rfl
    · try simp only [bs] at h2
      refine W_skip ?_
      refine W_seq ?_
      have h1c : lbC l n x y = 0 := lb_0 (psD_ok hD0).1 hin (by rw [orbS_0 (psD_ok hD0).1, ← hx1]; simp only [List.length_map]; omega)
      refine W_region ?_
      refine Ops_p (p_move rfl) (lt_dec rfl) ?_
      refine Ops_p (p_move rfl) (lt_dec rfl) ?_
      refine Ops_p (p_move rfl) (lt_dec rfl) ?_
      refine Ops_p (p_move rfl) (lt_dec rfl) ?_
      refine Ops_x rfl (x_callT en_impl_leastBlock rfl ((by have h := w_impl_leastBlock (a := a) (ha := ha) (x0 := x.toNat) (y0 := y.toNat) hpo hl40 (by omega) (by omega); rw [hxC, hyC] at h; exact h)) HpDels.nil (Vw.rd m2) (fun _ => (HpDels.cons HpDel.head HpDels.nil)) (lt_dec rfl) fun x29_1 _ => ?_)
      refine Ops_p (p_assign rfl) (lt_dec rfl) ?_
      refine Ops_p (p_assign rfl) (lt_dec rfl) ?_
      refine Ops_nil ?_
      refine W_ret ?_
      refine Exists.intro _ (And.intro (.cons (.tmp rfl) (.cons (.tmp rfl) .nil)) (Exists.intro ⟨x29_1.1, x29_1.2⟩ (And.intro ?_ (And.intro ?_ (And.intro (.cons HpDel.head rfl (own_eq (by rw [lbL_0 h1c])) .nil) rfl)))))
      · trivial
      · rw [h1c]; rfl
end Go.Proofs.Ytdcpggdbjllmpab
