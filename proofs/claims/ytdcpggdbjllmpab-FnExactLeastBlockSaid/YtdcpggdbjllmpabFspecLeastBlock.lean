/- What the Go function spec.LeastBlock does, shown of its loaded text; its conditions stand in the statement. -/
import Derived.Test.YtdcpggdbjllmpabTy
import Derived.Test.YtdcpggdbjllmpabFspecl01In
import Derived.Test.YtdcpggdbjllmpabFspecl04Block
import Derived.Test.YtdcpggdbjllmpabFspecl04Code
import Derived.Test.YtdcpggdbjllmpabFspecl04Orbits
import Derived.Test.YtdcpggdbjllmpabGx12
import Derived.Test.YtdcpggdbjllmpabGx20
import Derived.Test.YtdcpggdbjllmpabGx26
import Derived.Test.YtdcpggdbjllmpabGx28
import Derived.Test.YtdcpggdbjllmpabM32
namespace Go.Proofs.Ytdcpggdbjllmpab
open Go Gx
set_option linter.unusedVariables false
theorem en_spec_LeastBlock : Enters Try.prog 11 := enters_of Try.func11 (by kernel_rfl) (by kernel_rfl)
set_option maxRecDepth 100000 in
theorem w_spec_LeastBlock {a : Value} {ha : a.oneCell' = true} {l : List (Nat → Fin 256)} {n x y : Int} (hl : l.length ≤ 1048576) : CT (X := V1) Try.prog 11 (vals [.raw a ha, .int .i64 n, .int .i64 x, .int .i64 y]) [] [rd a (.arrs 10 l)] (fun x1 => True) (fun x1 => .tup [.raw x1.1 x1.2, .int .i64 (lbC l n x y)]) (fun x1 => [own x1.1 2 (.ints .i64 (lbL l n x y))]) := by
  refine CT_intro (rs := [.tmp 8, .tmp 9]) tt tok Try.func11 rfl rfl rfl (by first | rfl | assumption) fun w => ?_
  show W _ _ _ ⟨tmOf 0 [.raw a ha, .int .i64 n, .int .i64 x, .int .i64 y], [rd a (.arrs 10 l)]⟩
  refine W_seq ?_
  refine W_region ?_
  refine Ops_p (p_assign rfl) (lt_dec rfl) ?_
  refine Ops_p (p_assign rfl) (lt_dec rfl) ?_
  refine Ops_nil ?_
  refine W_seq ?_
  refine W_region ?_
  refine Ops_p (p_move rfl) (lt_dec rfl) ?_
  refine Ops_p (p_move rfl) (lt_dec rfl) ?_
  refine Ops_q (q_call en_spec_l04Code rfl (w_spec_l04Code (by first | assumption | (first | omega | (dsimp only; omega)) | (simp; done) | decide)) (Vw.rd m0).v) (lt_dec rfl) ?_
  refine Ops_p (p_assign rfl) (lt_dec rfl) ?_
  refine Ops_nil ?_
  refine W_cutE (fun E s' => ∃ c, c = psD l n x y ∧ Wk E s' ⟨[(0, .raw a ha), (1, .int .i64 n), (2, .int .i64 x), (3, .int .i64 y), (10, .int .i64 c)], [rd a (.arrs 10 l)]⟩) ?_ ?_
  · refine W_seq ?_
    refine W_region ?_
    refine Ops_p (p_move rfl) (lt_dec rfl) ?_
    refine Ops_p (p_eql rfl rfl) (lt_dec rfl) ?_
    refine Ops_p (p_move rfl) (lt_dec rfl) ?_
    refine Ops_guard rfl rfl (lt_dec rfl) (fun hg1 => ?_) (fun hg1 => ?_)
    · try simp only [bs] at hg1
      refine Ops_p (p_move rfl) (lt_dec rfl) ?_
      refine Ops_guard_t rfl rfl (lt_dec rfl) ?_
      refine Ops_p (p_move rfl) (lt_dec rfl) ?_
      refine Ops_guard_t rfl rfl (lt_dec rfl) ?_
      refine Ops_p (p_sub rfl rfl (by exact ⟨(by first | omega | (have h99 := (psC_ok (by assumption : psC l n = 0)).1.1; omega)), (by first | omega | (have h99 := (psC_ok (by assumption : psC l n = 0)).1.1; omega))⟩)) (lt_dec rfl) ?_
      refine Ops_guard_t rfl rfl (lt_dec rfl) ?_
      refine Ops_q (q_call en_spec_l01In rfl (w_spec_l01In) (View.none _)) (lt_dec rfl) ?_
      refine Ops_guard_t rfl rfl (lt_dec rfl) ?_
      refine Ops_p (p_not rfl) (lt_dec rfl) ?_
      refine Ops_guard_t rfl rfl (lt_dec rfl) ?_
      refine Ops_p (p_move rfl) (lt_dec rfl) ?_
      refine Ops_guard rfl rfl (lt_dec rfl) (fun hg2 => ?_) (fun hg2 => ?_)
      · try simp only [bs] at hg2
        refine Ops_p (p_move rfl) (lt_dec rfl) ?_
        refine Ops_guard_t rfl rfl (lt_dec rfl) ?_
        refine Ops_p (p_move rfl) (lt_dec rfl) ?_
        refine Ops_guard_t rfl rfl (lt_dec rfl) ?_
        refine Ops_p (p_sub rfl rfl (by exact ⟨(by first | omega | (have h99 := (psC_ok (by assumption : psC l n = 0)).1.1; omega)), (by first | omega | (have h99 := (psC_ok (by assumption : psC l n = 0)).1.1; omega))⟩)) (lt_dec rfl) ?_
        refine Ops_guard_t rfl rfl (lt_dec rfl) ?_
        refine Ops_q (q_call en_spec_l01In rfl (w_spec_l01In) (View.none _)) (lt_dec rfl) ?_
        refine Ops_guard_t rfl rfl (lt_dec rfl) ?_
        refine Ops_p (p_not rfl) (lt_dec rfl) ?_
        refine Ops_guard_t rfl rfl (lt_dec rfl) ?_
        refine Ops_p (p_pick_f rfl rfl) (lt_dec rfl) ?_
        refine Ops_p (p_pick_t rfl rfl) (lt_dec rfl) ?_
        refine Ops_nil ?_
        refine W_cond rfl (fun h1 => ?_) (fun h1 => ?_)
        · try simp only [bs] at h1
          refine W_region ?_
          refine Ops_p (p_assign rfl) (lt_dec rfl) ?_
          refine Ops_nil ?_
          refine ⟨2, ?_, ?_⟩
          · first | exact (psD_c (by assumption)).symm | exact (psD_2 (by assumption) (by unfold inN; omega)).symm | exact (by assumption : psC l n = 0).trans (psD_0 (by assumption) (by unfold inN; omega)).symm
          · exact Wk.intro (.cons rfl (by first | rfl | exact veq_int (by first | omega | (dsimp only; omega))) (.cons rfl (by first | rfl | exact veq_int (by first | omega | (dsimp only; omega))) (.cons rfl (by first | rfl | exact veq_int (by first | omega | (dsimp only; omega))) (.cons rfl (by first | rfl | exact veq_int (by first | omega | (dsimp only; omega))) (.cons rfl (by first | rfl | exact veq_int (by first | omega | (dsimp only; omega))) .nil))))) (.keep rfl rfl (fun _ h => h) .nil)
        · try simp only [bs] at h1
          refine W_skip ?_
          refine ⟨(psC l n), ?_, ?_⟩
          · first | exact (psD_c (by assumption)).symm | exact (psD_2 (by assumption) (by unfold inN; omega)).symm | exact (by assumption : psC l n = 0).trans (psD_0 (by assumption) (by unfold inN; omega)).symm
          · exact Wk.intro (.cons rfl (by first | rfl | exact veq_int (by first | omega | (dsimp only; omega))) (.cons rfl (by first | rfl | exact veq_int (by first | omega | (dsimp only; omega))) (.cons rfl (by first | rfl | exact veq_int (by first | omega | (dsimp only; omega))) (.cons rfl (by first | rfl | exact veq_int (by first | omega | (dsimp only; omega))) (.cons rfl (by first | rfl | exact veq_int (by first | omega | (dsimp only; omega))) .nil))))) (.keep rfl rfl (fun _ h => h) .nil)
      · try simp only [bs] at hg2
        refine Ops_guard_f rfl rfl rfl (lt_dec rfl) ?_
        refine Ops_guard_f rfl rfl rfl (lt_dec rfl) ?_
        refine Ops_guard_f rfl rfl rfl (lt_dec rfl) ?_
        refine Ops_guard_f rfl rfl rfl (lt_dec rfl) ?_
        refine Ops_guard_t rfl rfl (lt_dec rfl) ?_
        refine Ops_p (p_pick_t rfl rfl) (lt_dec rfl) ?_
        refine Ops_p (p_pick_t rfl rfl) (lt_dec rfl) ?_
        refine Ops_nil ?_
        refine W_true rfl ?_
        refine W_region ?_
        refine Ops_p (p_assign rfl) (lt_dec rfl) ?_
        refine Ops_nil ?_
        refine ⟨2, ?_, ?_⟩
        · first | exact (psD_c (by assumption)).symm | exact (psD_2 (by assumption) (by unfold inN; omega)).symm | exact (by assumption : psC l n = 0).trans (psD_0 (by assumption) (by unfold inN; omega)).symm
        · exact Wk.intro (.cons rfl (by first | rfl | exact veq_int (by first | omega | (dsimp only; omega))) (.cons rfl (by first | rfl | exact veq_int (by first | omega | (dsimp only; omega))) (.cons rfl (by first | rfl | exact veq_int (by first | omega | (dsimp only; omega))) (.cons rfl (by first | rfl | exact veq_int (by first | omega | (dsimp only; omega))) (.cons rfl (by first | rfl | exact veq_int (by first | omega | (dsimp only; omega))) .nil))))) (.keep rfl rfl (fun _ h => h) .nil)
    · try simp only [bs] at hg1
      refine Ops_guard_f rfl rfl rfl (lt_dec rfl) ?_
      refine Ops_guard_f rfl rfl rfl (lt_dec rfl) ?_
      refine Ops_guard_f rfl rfl rfl (lt_dec rfl) ?_
      refine Ops_guard_f rfl rfl rfl (lt_dec rfl) ?_
      refine Ops_guard_f rfl rfl rfl (lt_dec rfl) ?_
      refine Ops_guard_u rfl rfl (lt_dec rfl) ?_
      refine Ops_guard_u rfl rfl (lt_dec rfl) ?_
      refine Ops_guard_u rfl rfl (lt_dec rfl) ?_
      refine Ops_guard_u rfl rfl (lt_dec rfl) ?_
      refine Ops_guard_u rfl rfl (lt_dec rfl) ?_
      refine Ops_guard_f rfl rfl rfl (lt_dec rfl) ?_
      refine Ops_p (p_pick_f rfl rfl) (lt_dec rfl) ?_
      refine Ops_nil ?_
      refine W_false rfl ?_
      refine W_skip ?_
      refine ⟨(psC l n), ?_, ?_⟩
      · first | exact (psD_c (by assumption)).symm | exact (psD_2 (by assumption) (by unfold inN; omega)).symm | exact (by assumption : psC l n = 0).trans (psD_0 (by assumption) (by unfold inN; omega)).symm
      · exact Wk.intro (.cons rfl (by first | rfl | exact veq_int (by first | omega | (dsimp only; omega))) (.cons rfl (by first | rfl | exact veq_int (by first | omega | (dsimp only; omega))) (.cons rfl (by first | rfl | exact veq_int (by first | omega | (dsimp only; omega))) (.cons rfl (by first | rfl | exact veq_int (by first | omega | (dsimp only; omega))) (.cons rfl (by first | rfl | exact veq_int (by first | omega | (dsimp only; omega))) .nil))))) (.keep rfl rfl (fun _ h => h) .nil)
  · rintro s' ⟨c, hR, hw⟩
    refine W_wk hw ?_
    clear hw s'
    refine W_cutE (fun E s' => ∃ c, c = lbC l n x y ∧ Wk E s' ⟨[(0, .raw a ha), (1, .int .i64 n), (2, .int .i64 x), (3, .int .i64 y), (10, .int .i64 c)], [rd a (.arrs 10 l)]⟩) ?_ ?_
    · refine W_seq ?_
      refine W_region ?_
      refine Ops_p (p_move rfl) (lt_dec rfl) ?_
      refine Ops_p (p_eql rfl rfl) (lt_dec rfl) ?_
      refine Ops_p (p_move rfl) (lt_dec rfl) ?_
      refine Ops_guard rfl rfl (lt_dec rfl) (fun hg3 => ?_) (fun hg3 => ?_)
      · try simp only [bs] at hg3
        refine Ops_p (p_move rfl) (lt_dec rfl) ?_
        refine Ops_guard_t rfl rfl (lt_dec rfl) ?_
        refine Ops_p (p_move rfl) (lt_dec rfl) ?_
        refine Ops_guard_t rfl rfl (lt_dec rfl) ?_
        refine Ops_x rfl (x_callT en_spec_l04Orbits rfl (w_spec_l04Orbits (psC_ok (psD_ok (show psD l n x y = 0 by omega)).1).1 (psC_ok (psD_ok (show psD l n x y = 0 by omega)).1).2) HpDels.nil (Vw.rd m0) (fun _ => (HpDels.cons HpDel.head HpDels.nil)) (lt_dec rfl) fun x35_1 hx1 => ?_)
        refine Ops_guard_t rfl rfl (lt_dec rfl) ?_
        refine Ops_q (q_lenO rfl rfl rfl (Rds.ossO m0)) (lt_dec rfl) ?_
        refine Ops_guard_t rfl rfl (lt_dec rfl) ?_
        refine Ops_p (p_gtr rfl rfl) (lt_dec rfl) ?_
        refine Ops_p (p_pick_t rfl rfl) (lt_dec rfl) ?_
        refine Ops_nil ?_
        refine W_cond rfl (fun h2 => ?_) (fun h2 => ?_)
        · try simp only [bs] at h2
          refine W_region ?_
          refine Ops_p (p_assign rfl) (lt_dec rfl) ?_
          refine Ops_nil ?_
          refine ⟨5, ?_, ?_⟩
          · first | exact hR.trans (psD_n (by omega)).symm | exact (lb_5 (psD_ok (show psD l n x y = 0 by omega)).1 (psD_ok (show psD l n x y = 0 by omega)).2 (by rw [orbS_0 (psD_ok (show psD l n x y = 0 by omega)).1, ← hx1]; simp only [List.length_map]; omega)).symm | exact hR.trans ((show psD l n x y = 0 by omega).trans (lb_0 (psD_ok (show psD l n x y = 0 by omega)).1 (psD_ok (show psD l n x y = 0 by omega)).2 (by rw [orbS_0 (psD_ok (show psD l n x y = 0 by omega)).1, ← hx1]; simp only [List.length_map]; omega)).symm)
          · exact Wk.intro (.cons rfl (by first | rfl | exact veq_int (by first | omega | (dsimp only; omega))) (.cons rfl (by first | rfl | exact veq_int (by first | omega | (dsimp only; omega))) (.cons rfl (by first | rfl | exact veq_int (by first | omega | (dsimp only; omega))) (.cons rfl (by first | rfl | exact veq_int (by first | omega | (dsimp only; omega))) (.cons rfl (by first | rfl | exact veq_int (by first | omega | (dsimp only; omega))) .nil))))) (.drop (.keep rfl rfl (fun _ h => h) .nil))
        · try simp only [bs] at h2
          refine W_skip ?_
          refine ⟨c, ?_, ?_⟩
          · first | exact hR.trans (psD_n (by omega)).symm | exact (lb_5 (psD_ok (show psD l n x y = 0 by omega)).1 (psD_ok (show psD l n x y = 0 by omega)).2 (by rw [orbS_0 (psD_ok (show psD l n x y = 0 by omega)).1, ← hx1]; simp only [List.length_map]; omega)).symm | exact hR.trans ((show psD l n x y = 0 by omega).trans (lb_0 (psD_ok (show psD l n x y = 0 by omega)).1 (psD_ok (show psD l n x y = 0 by omega)).2 (by rw [orbS_0 (psD_ok (show psD l n x y = 0 by omega)).1, ← hx1]; simp only [List.length_map]; omega)).symm)
          · exact Wk.intro (.cons rfl (by first | rfl | exact veq_int (by first | omega | (dsimp only; omega))) (.cons rfl (by first | rfl | exact veq_int (by first | omega | (dsimp only; omega))) (.cons rfl (by first | rfl | exact veq_int (by first | omega | (dsimp only; omega))) (.cons rfl (by first | rfl | exact veq_int (by first | omega | (dsimp only; omega))) (.cons rfl (by first | rfl | exact veq_int (by first | omega | (dsimp only; omega))) .nil))))) (.drop (.keep rfl rfl (fun _ h => h) .nil))
      · try simp only [bs] at hg3
        refine Ops_guard_f rfl rfl rfl (lt_dec rfl) ?_
        refine Ops_guard_f rfl rfl rfl (lt_dec rfl) ?_
        refine Ops_guard_f rfl rfl rfl (lt_dec rfl) ?_
        refine Ops_guard_f rfl rfl rfl (lt_dec rfl) ?_
        refine Ops_p (p_pick_f rfl rfl) (lt_dec rfl) ?_
        refine Ops_nil ?_
        refine W_false rfl ?_
        refine W_skip ?_
        refine ⟨c, ?_, ?_⟩
        · first | exact hR.trans (psD_n (by omega)).symm | exact (lb_5 (psD_ok (show psD l n x y = 0 by omega)).1 (psD_ok (show psD l n x y = 0 by omega)).2 (by rw [orbS_0 (psD_ok (show psD l n x y = 0 by omega)).1, ← hx1]; simp only [List.length_map]; omega)).symm | exact hR.trans ((show psD l n x y = 0 by omega).trans (lb_0 (psD_ok (show psD l n x y = 0 by omega)).1 (psD_ok (show psD l n x y = 0 by omega)).2 (by rw [orbS_0 (psD_ok (show psD l n x y = 0 by omega)).1, ← hx1]; simp only [List.length_map]; omega)).symm)
        · exact Wk.intro (.cons rfl (by first | rfl | exact veq_int (by first | omega | (dsimp only; omega))) (.cons rfl (by first | rfl | exact veq_int (by first | omega | (dsimp only; omega))) (.cons rfl (by first | rfl | exact veq_int (by first | omega | (dsimp only; omega))) (.cons rfl (by first | rfl | exact veq_int (by first | omega | (dsimp only; omega))) (.cons rfl (by first | rfl | exact veq_int (by first | omega | (dsimp only; omega))) .nil))))) (.keep rfl rfl (fun _ h => h) .nil)
    · rintro s' ⟨c, hR, hw⟩
      refine W_wk hw ?_
      clear hw s'
      refine W_seq ?_
      refine W_seq ?_
      refine W_region ?_
      refine Ops_p (p_move rfl) (lt_dec rfl) ?_
      refine Ops_p (p_neq rfl rfl) (lt_dec rfl) ?_
      refine Ops_nil ?_
      refine W_cond rfl (fun h3 => ?_) (fun h3 => ?_)
      · try simp only [bs] at h3
        refine W_seq ?_
        refine W_region ?_
        refine Ops_p (p_move rfl) (lt_dec rfl) ?_
        refine Ops_p (p_assign rfl) (lt_dec rfl) ?_
        refine Ops_p (p_assign rfl) (lt_dec rfl) ?_
        refine Ops_nil ?_
        refine W_ret ?_
        refine Exists.intro _ (And.intro (.cons (.tmp rfl) (.cons (.tmp rfl) .nil)) (Exists.intro ⟨.slice none 0 0, rfl⟩ (And.intro ?_ (And.intro ?_ (And.intro (.free rfl (own_nil (by rw [lbL_n hR.symm (by omega)]; rfl) (by rw [lbL_n hR.symm (by omega)]; rfl)) .nil) rfl)))))
        · trivial
        · rw [← hR]; rfl
      · try simp only [bs] at h3
        refine W_skip ?_
        refine W_seq ?_
        have h1c : lbC l n x y = 0 := (by omega)
        have hD0 : psD l n x y = 0 := Classical.byContradiction fun h8 => by rw [psD_n h8] at h1c; exact h8 h1c
        have hpo := (psC_ok (psD_ok hD0).1).1
        have hl40 := (psC_ok (psD_ok hD0).1).2
        have hin := (psD_ok hD0).2
        have hin2 : (0 ≤ x ∧ x ≤ n - 1) ∧ (0 ≤ y ∧ y ≤ n - 1) := hin
        have hnb := hpo.1
        have hxC : ((x.toNat : Nat) : Int) = x := (by omega)
        have hyC : ((y.toNat : Nat) : Int) = y := (by omega)
        refine W_region ?_
        refine Ops_p (p_move rfl) (lt_dec rfl) ?_
        refine Ops_p (p_move rfl) (lt_dec rfl) ?_
        refine Ops_p (p_move rfl) (lt_dec rfl) ?_
        refine Ops_p (p_move rfl) (lt_dec rfl) ?_
        refine Ops_x rfl (x_callT en_spec_l04Block rfl ((by have h := w_spec_l04Block (a := a) (ha := ha) (x0 := x.toNat) (y0 := y.toNat) hpo hl40 (by omega) (by omega); rw [hxC, hyC] at h; exact h)) HpDels.nil (Vw.rd m0) (fun _ => (HpDels.cons HpDel.head HpDels.nil)) (lt_dec rfl) fun x46_1 _ => ?_)
        refine Ops_p (p_assign rfl) (lt_dec rfl) ?_
        refine Ops_p (p_assign rfl) (lt_dec rfl) ?_
        refine Ops_nil ?_
        refine W_ret ?_
        refine Exists.intro _ (And.intro (.cons (.tmp rfl) (.cons (.tmp rfl) .nil)) (Exists.intro ⟨x46_1.1, x46_1.2⟩ (And.intro ?_ (And.intro ?_ (And.intro (.cons HpDel.head rfl (own_eq (by rw [lbL_0 h1c])) .nil) rfl)))))
        · trivial
        · rw [h1c]; rfl
end Go.Proofs.Ytdcpggdbjllmpab
