/- What the Go function spec.l01Is does, shown of its loaded text; its conditions stand in the statement. -/
import Derived.Test.YtdcpggdbjllmpaaTy
import Derived.Test.YtdcpggdbjllmpaaFspecl01In
import Derived.Test.YtdcpggdbjllmpaaFspecl01Rows
import Derived.Test.YtdcpggdbjllmpaaFspecl01Turned
import Derived.Test.YtdcpggdbjllmpaaGx12
import Derived.Test.YtdcpggdbjllmpaaM7
namespace Go.Proofs.Ytdcpggdbjllmpaa
open Go Gx
set_option linter.unusedVariables false
theorem en_spec_l01Is : Enters Try.prog 57 := enters_of Try.func57 (by kernel_rfl) (by kernel_rfl)
set_option maxRecDepth 100000 in
theorem w_spec_l01Is {t : Nat → Fin 256} {n : Int}  : CR Try.prog 57 (vals [.agg [.int .i64 n, .arr8 100 t]]) [] (.bool (isSq n t)) := by
  refine CR_intro (rs := [.tmp 2]) tt tok Try.func57 rfl rfl rfl (by first | rfl | assumption) fun w => ?_
  refine W_seq ?_
  refine W_region ?_
  refine Ops_x rfl (x_box rfl rfl (lt_dec rfl) fun b1_1 => ?_)
  refine Ops_p (p_assign rfl) (lt_dec rfl) ?_
  refine Ops_nil ?_
  refine W_seq ?_
  refine W_draw (by kernel_rfl) ?_
  show RA _ _ 19 _ _ _
  refine RA_quietF [0, 1, 2, 3, 4, 5, 6, 7, 8, 9, 10, 11, 12, 13, 14, 15, 16, 17, 18] rfl rfl rfl (by kernel_rfl) (by kernel_rfl) ?_
  refine WQ_cons rfl rfl rfl ((p_fieldAddr rfl rfl rfl rfl rfl rfl).q) (lt_dec rfl) ?_
  refine WQ_cons rfl rfl rfl ((q_load rfl rfl m0 rfl (by first | exact True.intro | trivial | (first | omega | (dsimp only; omega)) | exact Fin.isLt _ | (dsimp only; omega)))) (lt_dec rfl) ?_
  refine WQ_cons rfl rfl rfl ((q_call en_spec_l01In rfl (w_spec_l01In) (View.none _))) (lt_dec rfl) ?_
  refine WQ_cons rfl rfl rfl ((p_move rfl).q) (lt_dec rfl) ?_
  first | refine WQ_guard rfl rfl rfl (lt_dec rfl) (fun hg1 => ⟨_, (p_fieldAddr rfl rfl rfl rfl rfl rfl).q, ?_⟩) (fun hg1 => ?_)
  · try simp only [bs] at hg1
    first | refine WQ_guard rfl rfl rfl (lt_dec rfl) (fun _ => ⟨_, (q_load rfl rfl m0 rfl (by first | exact True.intro | trivial | (first | omega | (dsimp only; omega)) | exact Fin.isLt _ | (dsimp only; omega))), ?_⟩) (fun h => by cases h)
    first | refine WQ_guard rfl rfl rfl (lt_dec rfl) (fun _ => ⟨_, (p_fieldAddr rfl rfl rfl rfl rfl rfl).q, ?_⟩) (fun h => by cases h)
    first | refine WQ_guard rfl rfl rfl (lt_dec rfl) (fun _ => ⟨_, (q_load rfl rfl m0 rfl (by first | exact True.intro | trivial | (first | omega | (dsimp only; omega)) | exact Fin.isLt _ | (dsimp only; omega))), ?_⟩) (fun h => by cases h)
    first | refine WQ_guard rfl rfl rfl (lt_dec rfl) (fun _ => ⟨_, (q_call en_spec_l01Rows rfl (w_spec_l01Rows) (View.none _)), ?_⟩) (fun h => by cases h)
    refine WQ_cons rfl rfl rfl ((p_pick_t rfl rfl).q) (lt_dec rfl) ?_
    refine WQ_cons rfl rfl rfl ((p_move rfl).q) (lt_dec rfl) ?_
    first | refine WQ_guard rfl rfl rfl (lt_dec rfl) (fun hg6 => ⟨_, (p_fieldAddr rfl rfl rfl rfl rfl rfl).q, ?_⟩) (fun hg6 => ?_)
    · try simp only [bs] at hg6
      first | refine WQ_guard rfl rfl rfl (lt_dec rfl) (fun _ => ⟨_, (q_load rfl rfl m0 rfl (by first | exact True.intro | trivial | (first | omega | (dsimp only; omega)) | exact Fin.isLt _ | (dsimp only; omega))), ?_⟩) (fun h => by cases h)
      first | refine WQ_guard rfl rfl rfl (lt_dec rfl) (fun _ => ⟨_, (q_call en_spec_l01Turned rfl (w_spec_l01Turned) (View.none _)), ?_⟩) (fun h => by cases h)
      first | refine WQ_guard rfl rfl rfl (lt_dec rfl) (fun _ => ⟨_, (p_fieldAddr rfl rfl rfl rfl rfl rfl).q, ?_⟩) (fun h => by cases h)
      first | refine WQ_guard rfl rfl rfl (lt_dec rfl) (fun _ => ⟨_, (q_load rfl rfl m0 rfl (by first | exact True.intro | trivial | (first | omega | (dsimp only; omega)) | exact Fin.isLt _ | (dsimp only; omega))), ?_⟩) (fun h => by cases h)
      first | refine WQ_guard rfl rfl rfl (lt_dec rfl) (fun _ => ⟨_, (q_call en_spec_l01Rows rfl (w_spec_l01Rows) (View.none _)), ?_⟩) (fun h => by cases h)
      refine WQ_cons rfl rfl rfl ((p_pick_t rfl rfl).q) (lt_dec rfl) ?_
      refine WQ_cons rfl rfl rfl ((p_assign rfl).q) (lt_dec rfl) ?_
      refine WQ_nil ?_
      refine W_ret ?_
      refine Exists.intro _ (And.intro (.cons (.tmp rfl) .nil) ?_)
      refine veq_bool ?_; rw [isSq_eq]; (first | rw [decide_eq_true (show 1 ≤ n ∧ n ≤ 10 from (by assumption))] | rw [decide_eq_false (show ¬ (1 ≤ n ∧ n ≤ 10) from (by assumption))]); first | rfl | (rw [hg6]; rfl)
    · try simp only [bs] at hg6
      refine WQ_guard rfl rfl rfl (lt_dec rfl) (fun h => by cases h) (fun _ => ?_)
      refine WQ_guard rfl rfl rfl (lt_dec rfl) (fun h => by cases h) (fun _ => ?_)
      refine WQ_guard rfl rfl rfl (lt_dec rfl) (fun h => by cases h) (fun _ => ?_)
      refine WQ_guard rfl rfl rfl (lt_dec rfl) (fun h => by cases h) (fun _ => ?_)
      refine WQ_guard rfl rfl rfl (lt_dec rfl) (fun h => by cases h) (fun _ => ?_)
      refine WQ_cons rfl rfl rfl ((p_pick_f rfl rfl).q) (lt_dec rfl) ?_
      refine WQ_cons rfl rfl rfl ((p_assign rfl).q) (lt_dec rfl) ?_
      refine WQ_nil ?_
      refine W_ret ?_
      refine Exists.intro _ (And.intro (.cons (.tmp rfl) .nil) ?_)
      refine veq_bool ?_; rw [isSq_eq]; (first | rw [decide_eq_true (show 1 ≤ n ∧ n ≤ 10 from (by assumption))] | rw [decide_eq_false (show ¬ (1 ≤ n ∧ n ≤ 10) from (by assumption))]); first | rfl | (rw [hg6]; rfl)
  · try simp only [bs] at hg1
    refine WQ_guard rfl rfl rfl (lt_dec rfl) (fun h => by cases h) (fun _ => ?_)
    refine WQ_guard rfl rfl rfl (lt_dec rfl) (fun h => by cases h) (fun _ => ?_)
    refine WQ_guard rfl rfl rfl (lt_dec rfl) (fun h => by cases h) (fun _ => ?_)
    refine WQ_guard rfl rfl rfl (lt_dec rfl) (fun h => by cases h) (fun _ => ?_)
    refine WQ_cons rfl rfl rfl ((p_pick_f rfl rfl).q) (lt_dec rfl) ?_
    refine WQ_cons rfl rfl rfl ((p_move rfl).q) (lt_dec rfl) ?_
    refine WQ_guard rfl rfl rfl (lt_dec rfl) (fun h => by cases h) (fun _ => ?_)
    refine WQ_guard rfl rfl rfl (lt_dec rfl) (fun h => by cases h) (fun _ => ?_)
    refine WQ_guard rfl rfl rfl (lt_dec rfl) (fun h => by cases h) (fun _ => ?_)
    refine WQ_guard rfl rfl rfl (lt_dec rfl) (fun h => by cases h) (fun _ => ?_)
    refine WQ_guard rfl rfl rfl (lt_dec rfl) (fun h => by cases h) (fun _ => ?_)
    refine WQ_guard rfl rfl rfl (lt_dec rfl) (fun h => by cases h) (fun _ => ?_)
    refine WQ_cons rfl rfl rfl ((p_pick_f rfl rfl).q) (lt_dec rfl) ?_
    refine WQ_cons rfl rfl rfl ((p_assign rfl).q) (lt_dec rfl) ?_
    refine WQ_nil ?_
    refine W_ret ?_
    refine Exists.intro _ (And.intro (.cons (.tmp rfl) .nil) ?_)
    refine veq_bool ?_; rw [isSq_eq]; (first | rw [decide_eq_true (show 1 ≤ n ∧ n ≤ 10 from (by assumption))] | rw [decide_eq_false (show ¬ (1 ≤ n ∧ n ≤ 10) from (by assumption))]); first | rfl | (rw [hg6]; rfl)
end Go.Proofs.Ytdcpggdbjllmpaa
