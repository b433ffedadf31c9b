/- What the Go function (impl.Square).squaresAre does, shown of its loaded text; its conditions stand in the statement. -/
import Derived.Test.YtebcapplclgaeaaTy
import Derived.Test.YtebcapplclgaeaaFimplSquareelements
import Derived.Test.YtebcapplclgaeaaM5
namespace Go.Proofs.Ytebcapplclgaeaa
open Go Gx
set_option linter.unusedVariables false
theorem en_impl_Square_squaresAre : Enters Try.prog 96 := enters_of Try.func96 (by kernel_rfl) (by kernel_rfl)
set_option maxRecDepth 100000 in
theorem w_impl_Square_squaresAre {t : Nat → Fin 256} {n : Int} {f : FuncId} {cap : Array Value} {need : List Ent} {g : Nat → Fin 256} (hn : 1 ≤ n ∧ n ≤ 10) (hen : Enters Try.prog f) (hneed : wkeys need = []) (hc : ∀ x : Nat, x < n.toNat → CR Try.prog f (#[] ++ vals [.int .u8 (x : Int)] ++ cap) need (.u8 (g x))) : CR Try.prog 96 (vals [.agg [.int .i64 n, .arr8 100 t], .raw (.func (.func f) #[] cap) rfl]) need (.bool (allB n.toNat (fun x => t (10 * x + x) = g x))) := by
  refine CR_intro (rs := [.tmp 4]) tt tok Try.func96 rfl rfl rfl (by first | rfl | assumption) fun w => ?_
  refine W_seq ?_
  refine W_region ?_
  refine Ops_x rfl (x_box rfl rfl (lt_dec rfl) fun b2_1 => ?_)
  refine Ops_p (p_assign rfl) (lt_dec rfl) ?_
  refine Ops_nil ?_
  refine W_seq ?_
  refine W_seq ?_
  refine W_region ?_
  refine Ops_q (q_load rfl rfl m0 rfl (by first | trivial | (first | omega | (dsimp only; omega)) | exact Fin.isLt _ | (dsimp only; omega))) (lt_dec rfl) ?_
  refine Ops_x rfl (x_callRow en_impl_Square_elements rfl (w_impl_Square_elements (by omega)) (View.none _) elems_len (lt_dec rfl) fun b8_1 cb8_1 => ?_)
  refine Ops_p (p_len rfl rfl rfl) (lt_dec rfl) ?_
  refine Ops_p (p_move rfl) (lt_dec rfl) ?_
  refine Ops_nil ?_
  refine W_block ?_
  refine W_loop (α := Nat) (fun x => ⟨[(0, .agg [.int .i64 n, .arr8 100 t]), (1, .raw (.func (.func f) #[] cap) rfl), (2, .ptr b2_1 0 none), (7, .agg [.int .i64 n, .arr8 100 t]), (8, .sl b8_1 0 n.toNat cb8_1), (9, .int .i64 (n.toNat : Int)), (10, .int .i64 (x : Int))], .row b8_1 cb8_1 5 (.u8s (elems n.toNat)) :: .var b2_1 (.agg [.int .i64 n, .arr8 100 t]) :: need⟩) (fun x => x ≤ n.toNat ∧ ∀ j, j < x → t (10 * j + j) = g j) (fun x => n.toNat - x) 0 ?_ ?_ ?_
  · exact ⟨by omega, fun j h => by omega⟩
  · exact Wk.intro (.cons rfl (by first | rfl | exact veq_int (by first | omega | (dsimp only; omega))) (.cons rfl (by first | rfl | exact veq_int (by first | omega | (dsimp only; omega))) (.cons rfl (by first | rfl | exact veq_int (by first | omega | (dsimp only; omega))) (.cons rfl (by first | rfl | exact veq_int (by first | omega | (dsimp only; omega))) (.cons rfl (by first | rfl | exact veq_int (by first | omega | (dsimp only; omega))) (.cons rfl (by first | rfl | exact veq_int (by first | omega | (dsimp only; omega))) (.cons rfl (by first | rfl | exact veq_int (by first | omega | (dsimp only; omega))) .nil))))))) (.keep rfl rfl (fun _ h => h) (.keep rfl rfl (fun _ h => h) .all))
  · rintro x ⟨hx, hR⟩
    refine W_seq ?_
    refine W_region ?_
    refine Ops_p (p_lss rfl rfl) (lt_dec rfl) ?_
    refine Ops_nil ?_
    refine W_seq ?_
    refine W_cond rfl (fun h1 => ?_) (fun h1 => ?_)
    · try simp only [bs] at h1
      refine W_skip ?_
      refine W_seq ?_
      refine W_block ?_
      refine W_seq ?_
      refine W_region ?_
      refine Ops_p (p_ixl1 _ rfl rfl rfl rfl rfl rfl (by first | (first | omega | (dsimp only; omega)) | exact Fin.isLt _)) (lt_dec rfl) ?_
      refine Ops_q (q_elem rfl rfl m0 (by omega) (by omega) rfl rfl) (lt_dec rfl) ?_
      refine Ops_p (p_assign rfl) (lt_dec rfl) ?_
      refine Ops_nil ?_
      refine W_seq ?_
      refine W_draw (by kernel_rfl) ?_
      show RA _ _ 10 _ _ _
      refine RA_quiet (g := 0) [0, 1, 2, 3, 4, 5, 6, 7, 8, 9] (by kernel_rfl) (by kernel_rfl) (by kernel_rfl) (by kernel_rfl) ?_
      refine WQ_cons rfl rfl rfl ((p_move rfl).q) (lt_dec rfl) ?_
      refine WQ_cons rfl rfl rfl ((p_move rfl).q) (lt_dec rfl) ?_
      refine WQ_cons rfl rfl rfl ((p_fieldAddr rfl rfl rfl rfl rfl rfl).q) (lt_dec rfl) ?_
      refine WQ_cons rfl rfl rfl ((p_ixN 10 _ rfl rfl rfl rfl rfl rfl (by first | (first | omega | (dsimp only; omega)) | exact Fin.isLt _)).q) (lt_dec rfl) ?_
      first | refine WQ_cons rfl rfl rfl ((p_ix1 _ rfl rfl rfl rfl rfl rfl (by first | (first | omega | (dsimp only; omega)) | exact Fin.isLt _)).q) (lt_dec rfl) ?_ | refine WQ_cons rfl rfl rfl ((p_ix1s _ rfl rfl rfl rfl rfl rfl (by first | (first | omega | (dsimp only; omega)) | exact Fin.isLt _)).q) (lt_dec rfl) ?_
      refine WQ_cons rfl rfl rfl ((q_load rfl rfl m1 rfl (by first | trivial | (first | omega | (dsimp only; omega)) | exact Fin.isLt _ | (dsimp only; omega)))) (lt_dec rfl) ?_
      refine WQ_cons rfl rfl rfl ((p_move rfl).q) (lt_dec rfl) ?_
      refine WQ_cons rfl rfl rfl ((p_move rfl).q) (lt_dec rfl) ?_
      refine WQ_cons rfl rfl rfl ((q_callv hen rfl rfl (hc x (by omega)) (View.tail (View.tail (View.refl _))))) (lt_dec rfl) ?_
      first | refine WQ_cons rfl rfl rfl ((p_neq_8 rfl rfl).q) (lt_dec rfl) ?_ | refine WQ_cons rfl rfl rfl ((p_neq rfl rfl).q) (lt_dec rfl) ?_
      refine WQ_nil ?_
      refine RA_done (by kernel_rfl) ?_
      refine W_cond rfl (fun h2 => ?_) (fun h2 => ?_)
      · try simp only [bs] at h2
        refine W_seq ?_
        refine W_region ?_
        refine Ops_p (p_assign rfl) (lt_dec rfl) ?_
        refine Ops_nil ?_
        refine W_ret ?_
        refine Exists.intro _ (And.intro (.cons (.tmp rfl) .nil) ?_)
        first | rfl | (refine veq_bool ?_; simp_all; done) | (refine veq_bool ?_; simp; omega) | (refine veq_bool ?_; rw [eq_comm, decide_eq_false_iff_not]; omega) | (refine veq_bool ?_; rw [eq_comm, decide_eq_true_iff]; omega) | (refine veq_int ?_; omega) | (refine veq_arr8 fun j hj => ?_; (try dsimp only); first | (simp; done) | (simp; omega) | ((repeat' split) <;> first | rfl | (exfalso; omega) | (congr 1; omega) | (simp_all; done))) | (exact veq_bool (allB_f (j := x) (by omega) (by assumption))) | (obtain rfl : x = n.toNat := (by omega); exact veq_bool (allB_t hR))
      · try simp only [bs] at h2
        refine W_skip ?_
        refine W_region ?_
        refine Ops_p (p_add rfl rfl (by exact ⟨(by first | omega | (dsimp only; omega)), (by first | omega | (dsimp only; omega))⟩)) (lt_dec rfl) ?_
        refine Ops_p (p_move rfl) (lt_dec rfl) ?_
        refine Ops_nil ?_
        refine Exists.intro (x + 1) (And.intro ?_ (And.intro ?_ ?_))
        · refine ⟨by omega, fun j h => ?_⟩; by_cases ej : j = x; (subst ej; assumption); exact hR j (by omega)
        · show _ < _; omega
        · exact Wk.intro (.cons rfl (by first | rfl | exact veq_int (by first | omega | (dsimp only; omega))) (.cons rfl (by first | rfl | exact veq_int (by first | omega | (dsimp only; omega))) (.cons rfl (by first | rfl | exact veq_int (by first | omega | (dsimp only; omega))) (.cons rfl (by first | rfl | exact veq_int (by first | omega | (dsimp only; omega))) (.cons rfl (by first | rfl | exact veq_int (by first | omega | (dsimp only; omega))) (.cons rfl (by first | rfl | exact veq_int (by first | omega | (dsimp only; omega))) (.cons rfl (by first | rfl | exact veq_int (by first | omega | (dsimp only; omega))) .nil))))))) (.keep rfl rfl (fun _ h => h) (.keep rfl rfl (fun _ h => h) .all))
    · try simp only [bs] at h1
      refine W_exit ?_
      refine W_seq ?_
      refine W_region ?_
      refine Ops_p (p_assign rfl) (lt_dec rfl) ?_
      refine Ops_nil ?_
      refine W_ret ?_
      refine Exists.intro _ (And.intro (.cons (.tmp rfl) .nil) ?_)
      first | rfl | (refine veq_bool ?_; simp_all; done) | (refine veq_bool ?_; simp; omega) | (refine veq_bool ?_; rw [eq_comm, decide_eq_false_iff_not]; omega) | (refine veq_bool ?_; rw [eq_comm, decide_eq_true_iff]; omega) | (refine veq_int ?_; omega) | (refine veq_arr8 fun j hj => ?_; (try dsimp only); first | (simp; done) | (simp; omega) | ((repeat' split) <;> first | rfl | (exfalso; omega) | (congr 1; omega) | (simp_all; done))) | (exact veq_bool (allB_f (j := x) (by omega) (by assumption))) | (obtain rfl : x = n.toNat := (by omega); exact veq_bool (allB_t hR))
end Go.Proofs.Ytebcapplclgaeaa
