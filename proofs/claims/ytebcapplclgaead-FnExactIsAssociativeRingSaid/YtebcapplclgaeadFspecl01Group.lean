/- What the Go function spec.l01Group does, shown of its loaded text; its conditions stand in the statement. -/
import Derived.Test.YtebcapplclgaeadTy
import Derived.Test.YtebcapplclgaeadM6
namespace Go.Proofs.Ytebcapplclgaead
open Go Gx
set_option linter.unusedVariables false
theorem en_spec_l01Group : Enters Try.prog 81 := enters_of Try.func81 (by kernel_rfl) (by kernel_rfl)
set_option maxRecDepth 100000 in
theorem w_spec_l01Group {t : Nat → Fin 256} {n : Int} (hs : SqP n t) : CR Try.prog 81 (vals [.agg [.int .i64 n, .arr8 100 t]]) [] (.bool (allB n.toNat (fun x => ∀ b : Nat, b < n.toNat → ∀ c : Nat, c < n.toNat → asc t x b c))) := by
  refine CR_intro (rs := [.tmp 2]) tt tok Try.func81 rfl rfl rfl (by first | rfl | assumption) fun w => ?_
  have hn := hs.1
  refine W_seq ?_
  refine W_region ?_
  refine Ops_x rfl (x_box rfl rfl (lt_dec rfl) fun b1_1 => ?_)
  refine Ops_p (p_assign rfl) (lt_dec rfl) ?_
  refine Ops_nil ?_
  refine W_seq ?_
  refine W_region ?_
  refine Ops_p (p_fieldAddr rfl rfl rfl rfl rfl rfl) (lt_dec rfl) ?_
  refine Ops_q (q_load rfl rfl m0 rfl (by first | trivial | (first | omega | (dsimp only; omega)) | exact Fin.isLt _ | (dsimp only; omega))) (lt_dec rfl) ?_
  refine Ops_p (p_assign rfl) (lt_dec rfl) ?_
  refine Ops_nil ?_
  refine W_seq ?_
  refine W_seq ?_
  refine W_region ?_
  refine Ops_p (p_assign rfl) (lt_dec rfl) ?_
  refine Ops_nil ?_
  refine W_block ?_
  refine W_loop (α := Nat) (fun x => ⟨[(0, .agg [.int .i64 n, .arr8 100 t]), (1, .ptr b1_1 0 none), (3, .int .i64 n), (4, .int .i64 (x : Int)), (8, .int .i64 n)], [.var b1_1 (.agg [.int .i64 n, .arr8 100 t])]⟩) (fun x => x ≤ n.toNat ∧ ∀ a : Nat, a < x → ∀ b : Nat, b < n.toNat → ∀ c : Nat, c < n.toNat → asc t a b c) (fun x => n.toNat - x) 0 ?_ ?_ ?_
  · exact ⟨by omega, fun a h => by omega⟩
  · exact Wk.intro (.cons rfl (by first | rfl | exact veq_int (by first | omega | (dsimp only; omega))) (.cons rfl (by first | rfl | exact veq_int (by first | omega | (dsimp only; omega))) (.cons rfl (by first | rfl | exact veq_int (by first | omega | (dsimp only; omega))) (.cons rfl (by first | rfl | exact veq_int (by first | omega | (dsimp only; omega))) (.cons rfl (by first | rfl | exact veq_int (by first | omega | (dsimp only; omega))) .nil))))) (.keep rfl rfl (fun _ h => h) .nil)
  · rintro x ⟨hx, hX⟩
    refine W_seq ?_
    refine W_seq ?_
    refine W_region ?_
    refine Ops_p (p_move rfl) (lt_dec rfl) ?_
    refine Ops_p (p_move rfl) (lt_dec rfl) ?_
    refine Ops_p (p_lss rfl rfl) (lt_dec rfl) ?_
    refine Ops_nil ?_
    refine W_cond rfl (fun h1 => ?_) (fun h1 => ?_)
    · try simp only [bs] at h1
      refine W_skip ?_
      refine W_seq ?_
      refine W_block ?_
      refine W_seq ?_
      refine W_region ?_
      refine Ops_p (p_assign rfl) (lt_dec rfl) ?_
      refine Ops_nil ?_
      refine W_block ?_
      refine W_loop (α := Nat) (fun y => ⟨[(0, .agg [.int .i64 n, .arr8 100 t]), (1, .ptr b1_1 0 none), (3, .int .i64 n), (4, .int .i64 (x : Int)), (5, .int .i64 (y : Int)), (8, .int .i64 n), (9, .int .i64 (x : Int)), (10, .int .i64 n)], [.var b1_1 (.agg [.int .i64 n, .arr8 100 t])]⟩) (fun y => y ≤ n.toNat ∧ ∀ b : Nat, b < y → ∀ c : Nat, c < n.toNat → asc t x b c) (fun y => n.toNat - y) 0 ?_ ?_ ?_
      · exact ⟨by omega, fun a h => by omega⟩
      · exact Wk.intro (.cons rfl (by first | rfl | exact veq_int (by first | omega | (dsimp only; omega))) (.cons rfl (by first | rfl | exact veq_int (by first | omega | (dsimp only; omega))) (.cons rfl (by first | rfl | exact veq_int (by first | omega | (dsimp only; omega))) (.cons rfl (by first | rfl | exact veq_int (by first | omega | (dsimp only; omega))) (.cons rfl (by first | rfl | exact veq_int (by first | omega | (dsimp only; omega))) (.cons rfl (by first | rfl | exact veq_int (by first | omega | (dsimp only; omega))) (.cons rfl (by first | rfl | exact veq_int (by first | omega | (dsimp only; omega))) (.cons rfl (by first | rfl | exact veq_int (by first | omega | (dsimp only; omega))) .nil)))))))) (.keep rfl rfl (fun _ h => h) .nil)
      · rintro y ⟨hy, hY⟩
        refine W_seq ?_
        refine W_seq ?_
        refine W_region ?_
        refine Ops_p (p_move rfl) (lt_dec rfl) ?_
        refine Ops_p (p_move rfl) (lt_dec rfl) ?_
        refine Ops_p (p_lss rfl rfl) (lt_dec rfl) ?_
        refine Ops_nil ?_
        refine W_cond rfl (fun h2 => ?_) (fun h2 => ?_)
        · try simp only [bs] at h2
          refine W_skip ?_
          refine W_seq ?_
          refine W_block ?_
          refine W_seq ?_
          refine W_region ?_
          refine Ops_p (p_assign rfl) (lt_dec rfl) ?_
          refine Ops_nil ?_
          refine W_block ?_
          refine W_loop (α := Nat) (fun z => ⟨[(0, .agg [.int .i64 n, .arr8 100 t]), (1, .ptr b1_1 0 none), (3, .int .i64 n), (4, .int .i64 (x : Int)), (5, .int .i64 (y : Int)), (6, .int .i64 (z : Int)), (8, .int .i64 n), (9, .int .i64 (x : Int)), (10, .int .i64 n), (14, .int .i64 (y : Int)), (15, .int .i64 n)], [.var b1_1 (.agg [.int .i64 n, .arr8 100 t])]⟩) (fun z => z ≤ n.toNat ∧ ∀ c : Nat, c < z → asc t x y c) (fun z => n.toNat - z) 0 ?_ ?_ ?_
          · exact ⟨by omega, fun a h => by omega⟩
          · exact Wk.intro (.cons rfl (by first | rfl | exact veq_int (by first | omega | (dsimp only; omega))) (.cons rfl (by first | rfl | exact veq_int (by first | omega | (dsimp only; omega))) (.cons rfl (by first | rfl | exact veq_int (by first | omega | (dsimp only; omega))) (.cons rfl (by first | rfl | exact veq_int (by first | omega | (dsimp only; omega))) (.cons rfl (by first | rfl | exact veq_int (by first | omega | (dsimp only; omega))) (.cons rfl (by first | rfl | exact veq_int (by first | omega | (dsimp only; omega))) (.cons rfl (by first | rfl | exact veq_int (by first | omega | (dsimp only; omega))) (.cons rfl (by first | rfl | exact veq_int (by first | omega | (dsimp only; omega))) (.cons rfl (by first | rfl | exact veq_int (by first | omega | (dsimp only; omega))) (.cons rfl (by first | rfl | exact veq_int (by first | omega | (dsimp only; omega))) (.cons rfl (by first | rfl | exact veq_int (by first | omega | (dsimp only; omega))) .nil))))))))))) (.keep rfl rfl (fun _ h => h) .nil)
          · rintro z ⟨hz, hZ⟩
            have hl1 := fun hz2 : (z : Int) < n => sq_lt hs (x := y) (y := z) (by omega) hz2
            have hl2 := sq_lt hs (x := x) (y := y) (by omega) (by omega)
            refine W_seq ?_
            refine W_seq ?_
            refine W_region ?_
            refine Ops_p (p_move rfl) (lt_dec rfl) ?_
            refine Ops_p (p_move rfl) (lt_dec rfl) ?_
            refine Ops_p (p_lss rfl rfl) (lt_dec rfl) ?_
            refine Ops_nil ?_
            refine W_cond rfl (fun h3 => ?_) (fun h3 => ?_)
            · try simp only [bs] at h3
              have hl3 := hl1 (by omega)
              refine W_skip ?_
              refine W_seq ?_
              refine W_block ?_
              refine W_seq ?_
              refine W_draw (by kernel_rfl) ?_
              show RA _ _ 23 _ _ _
              refine RA_quiet (g := 0) [0, 1, 2, 3, 4, 5, 6, 7, 8, 9, 10, 11, 12, 13, 14, 15, 16, 17, 18, 19, 20, 21, 22] (by kernel_rfl) (by kernel_rfl) (by kernel_rfl) (by kernel_rfl) ?_
              refine WQ_cons rfl rfl rfl ((p_move rfl).q) (lt_dec rfl) ?_
              refine WQ_cons rfl rfl rfl ((p_move rfl).q) (lt_dec rfl) ?_
              refine WQ_cons rfl rfl rfl ((p_fieldAddr rfl rfl rfl rfl rfl rfl).q) (lt_dec rfl) ?_
              refine WQ_cons rfl rfl rfl ((p_ixN 10 _ rfl rfl rfl rfl rfl rfl (by first | (first | omega | (dsimp only; omega)) | exact Fin.isLt _)).q) (lt_dec rfl) ?_
              first | refine WQ_cons rfl rfl rfl ((p_ix1 _ rfl rfl rfl rfl rfl rfl (by first | (first | omega | (dsimp only; omega)) | exact Fin.isLt _)).q) (lt_dec rfl) ?_ | refine WQ_cons rfl rfl rfl ((p_ix1s _ rfl rfl rfl rfl rfl rfl (by first | (first | omega | (dsimp only; omega)) | exact Fin.isLt _)).q) (lt_dec rfl) ?_
              refine WQ_cons rfl rfl rfl ((q_load rfl rfl m0 rfl (by first | trivial | (first | omega | (dsimp only; omega)) | exact Fin.isLt _ | (dsimp only; omega)))) (lt_dec rfl) ?_
              refine WQ_cons rfl rfl rfl ((p_move rfl).q) (lt_dec rfl) ?_
              refine WQ_cons rfl rfl rfl ((p_fieldAddr rfl rfl rfl rfl rfl rfl).q) (lt_dec rfl) ?_
              refine WQ_cons rfl rfl rfl ((p_ixN 10 _ rfl rfl rfl rfl rfl rfl (by first | (first | omega | (dsimp only; omega)) | exact Fin.isLt _)).q) (lt_dec rfl) ?_
              first | refine WQ_cons rfl rfl rfl ((p_ix1 _ rfl rfl rfl rfl rfl rfl (by first | (first | omega | (dsimp only; omega)) | exact Fin.isLt _)).q) (lt_dec rfl) ?_ | refine WQ_cons rfl rfl rfl ((p_ix1s _ rfl rfl rfl rfl rfl rfl (by first | (first | omega | (dsimp only; omega)) | exact Fin.isLt _)).q) (lt_dec rfl) ?_
              refine WQ_cons rfl rfl rfl ((q_load rfl rfl m0 rfl (by first | trivial | (first | omega | (dsimp only; omega)) | exact Fin.isLt _ | (dsimp only; omega)))) (lt_dec rfl) ?_
              refine WQ_cons rfl rfl rfl ((p_move rfl).q) (lt_dec rfl) ?_
              refine WQ_cons rfl rfl rfl ((p_move rfl).q) (lt_dec rfl) ?_
              refine WQ_cons rfl rfl rfl ((p_move rfl).q) (lt_dec rfl) ?_
              refine WQ_cons rfl rfl rfl ((p_fieldAddr rfl rfl rfl rfl rfl rfl).q) (lt_dec rfl) ?_
              refine WQ_cons rfl rfl rfl ((p_ixN 10 _ rfl rfl rfl rfl rfl rfl (by first | (first | omega | (dsimp only; omega)) | exact Fin.isLt _)).q) (lt_dec rfl) ?_
              first | refine WQ_cons rfl rfl rfl ((p_ix1 _ rfl rfl rfl rfl rfl rfl (by first | (first | omega | (dsimp only; omega)) | exact Fin.isLt _)).q) (lt_dec rfl) ?_ | refine WQ_cons rfl rfl rfl ((p_ix1s _ rfl rfl rfl rfl rfl rfl (by first | (first | omega | (dsimp only; omega)) | exact Fin.isLt _)).q) (lt_dec rfl) ?_
              refine WQ_cons rfl rfl rfl ((q_load rfl rfl m0 rfl (by first | trivial | (first | omega | (dsimp only; omega)) | exact Fin.isLt _ | (dsimp only; omega)))) (lt_dec rfl) ?_
              refine WQ_cons rfl rfl rfl ((p_fieldAddr rfl rfl rfl rfl rfl rfl).q) (lt_dec rfl) ?_
              refine WQ_cons rfl rfl rfl ((p_ixN 10 _ rfl rfl rfl rfl rfl rfl (by first | (first | omega | (dsimp only; omega)) | exact Fin.isLt _)).q) (lt_dec rfl) ?_
              first | refine WQ_cons rfl rfl rfl ((p_ix1 _ rfl rfl rfl rfl rfl rfl (by first | (first | omega | (dsimp only; omega)) | exact Fin.isLt _)).q) (lt_dec rfl) ?_ | refine WQ_cons rfl rfl rfl ((p_ix1s _ rfl rfl rfl rfl rfl rfl (by first | (first | omega | (dsimp only; omega)) | exact Fin.isLt _)).q) (lt_dec rfl) ?_
              refine WQ_cons rfl rfl rfl ((q_load rfl rfl m0 rfl (by first | trivial | (first | omega | (dsimp only; omega)) | exact Fin.isLt _ | (dsimp only; omega)))) (lt_dec rfl) ?_
              first | refine WQ_cons rfl rfl rfl ((p_neq_8 rfl rfl).q) (lt_dec rfl) ?_ | refine WQ_cons rfl rfl rfl ((p_neq rfl rfl).q) (lt_dec rfl) ?_
              refine WQ_nil ?_
              refine RA_done (by kernel_rfl) ?_
              refine W_cond rfl (fun h4 => ?_) (fun h4 => ?_)
              · try simp only [bs] at h4
                refine W_seq ?_
                refine W_region ?_
                refine Ops_p (p_assign rfl) (lt_dec rfl) ?_
                refine Ops_nil ?_
                refine W_ret ?_
                refine Exists.intro _ (And.intro (.cons (.tmp rfl) .nil) ?_)
                first | rfl | (refine veq_bool ?_; simp_all; done) | (refine veq_bool ?_; simp; omega) | (refine veq_bool ?_; rw [eq_comm, decide_eq_false_iff_not]; omega) | (refine veq_bool ?_; rw [eq_comm, decide_eq_true_iff]; omega) | (refine veq_int ?_; omega) | (refine veq_arr8 fun j hj => ?_; (try dsimp only); first | (simp; done) | (simp; omega) | ((repeat' split) <;> first | rfl | (exfalso; omega) | (congr 1; omega) | (simp_all; done))) | (exact veq_bool (allB_f (j := x) (by omega) (fun hu => absurd (hu y (by omega) z (by omega)) (by assumption)))) | (exact veq_bool (allB_t hX))
              · try simp only [bs] at h4
                refine W_skip ?_
                refine W_region ?_
                refine Ops_p (p_move rfl) (lt_dec rfl) ?_
                refine Ops_p (p_add rfl rfl (by exact ⟨(by first | omega | (dsimp only; omega)), (by first | omega | (dsimp only; omega))⟩)) (lt_dec rfl) ?_
                refine Ops_p (p_assign rfl) (lt_dec rfl) ?_
                refine Ops_nil ?_
                refine Exists.intro (z + 1) (And.intro ?_ (And.intro ?_ ?_))
                · refine ⟨by omega, fun w hw => ?_⟩; by_cases ej : w = z; (subst ej; exact (by assumption)); exact hZ w (by omega)
                · show _ < _; omega
                · exact Wk.intro (.cons rfl (by first | rfl | exact veq_int (by first | omega | (dsimp only; omega))) (.cons rfl (by first | rfl | exact veq_int (by first | omega | (dsimp only; omega))) (.cons rfl (by first | rfl | exact veq_int (by first | omega | (dsimp only; omega))) (.cons rfl (by first | rfl | exact veq_int (by first | omega | (dsimp only; omega))) (.cons rfl (by first | rfl | exact veq_int (by first | omega | (dsimp only; omega))) (.cons rfl (by first | rfl | exact veq_int (by first | omega | (dsimp only; omega))) (.cons rfl (by first | rfl | exact veq_int (by first | omega | (dsimp only; omega))) (.cons rfl (by first | rfl | exact veq_int (by first | omega | (dsimp only; omega))) (.cons rfl (by first | rfl | exact veq_int (by first | omega | (dsimp only; omega))) (.cons rfl (by first | rfl | exact veq_int (by first | omega | (dsimp only; omega))) (.cons rfl (by first | rfl | exact veq_int (by first | omega | (dsimp only; omega))) .nil))))))))))) (.keep rfl rfl (fun _ h => h) .nil)
            · try simp only [bs] at h3
              obtain rfl : z = n.toNat := (by omega)
              refine W_exit ?_
              refine W_region ?_
              refine Ops_p (p_move rfl) (lt_dec rfl) ?_
              refine Ops_p (p_add rfl rfl (by exact ⟨(by first | omega | (dsimp only; omega)), (by first | omega | (dsimp only; omega))⟩)) (lt_dec rfl) ?_
              refine Ops_p (p_assign rfl) (lt_dec rfl) ?_
              refine Ops_nil ?_
              refine Exists.intro (y + 1) (And.intro ?_ (And.intro ?_ ?_))
              · refine ⟨by omega, fun w hw => ?_⟩; by_cases ej : w = y; (subst ej; exact hZ); exact hY w (by omega)
              · show _ < _; omega
              · exact Wk.intro (.cons rfl (by first | rfl | exact veq_int (by first | omega | (dsimp only; omega))) (.cons rfl (by first | rfl | exact veq_int (by first | omega | (dsimp only; omega))) (.cons rfl (by first | rfl | exact veq_int (by first | omega | (dsimp only; omega))) (.cons rfl (by first | rfl | exact veq_int (by first | omega | (dsimp only; omega))) (.cons rfl (by first | rfl | exact veq_int (by first | omega | (dsimp only; omega))) (.cons rfl (by first | rfl | exact veq_int (by first | omega | (dsimp only; omega))) (.cons rfl (by first | rfl | exact veq_int (by first | omega | (dsimp only; omega))) (.cons rfl (by first | rfl | exact veq_int (by first | omega | (dsimp only; omega))) .nil)))))))) (.keep rfl rfl (fun _ h => h) .nil)
        · try simp only [bs] at h2
          obtain rfl : y = n.toNat := (by omega)
          refine W_exit ?_
          refine W_region ?_
          refine Ops_p (p_move rfl) (lt_dec rfl) ?_
          refine Ops_p (p_add rfl rfl (by exact ⟨(by first | omega | (dsimp only; omega)), (by first | omega | (dsimp only; omega))⟩)) (lt_dec rfl) ?_
          refine Ops_p (p_assign rfl) (lt_dec rfl) ?_
          refine Ops_nil ?_
          refine Exists.intro (x + 1) (And.intro ?_ (And.intro ?_ ?_))
          · refine ⟨by omega, fun w hw => ?_⟩; by_cases ej : w = x; (subst ej; exact hY); exact hX w (by omega)
          · show _ < _; omega
          · exact Wk.intro (.cons rfl (by first | rfl | exact veq_int (by first | omega | (dsimp only; omega))) (.cons rfl (by first | rfl | exact veq_int (by first | omega | (dsimp only; omega))) (.cons rfl (by first | rfl | exact veq_int (by first | omega | (dsimp only; omega))) (.cons rfl (by first | rfl | exact veq_int (by first | omega | (dsimp only; omega))) (.cons rfl (by first | rfl | exact veq_int (by first | omega | (dsimp only; omega))) .nil))))) (.keep rfl rfl (fun _ h => h) .nil)
    · try simp only [bs] at h1
      obtain rfl : x = n.toNat := (by omega)
      refine W_exit ?_
      refine W_seq ?_
      refine W_region ?_
      refine Ops_p (p_assign rfl) (lt_dec rfl) ?_
      refine Ops_nil ?_
      refine W_ret ?_
      refine Exists.intro _ (And.intro (.cons (.tmp rfl) .nil) ?_)
      first | rfl | (refine veq_bool ?_; simp_all; done) | (refine veq_bool ?_; simp; omega) | (refine veq_bool ?_; rw [eq_comm, decide_eq_false_iff_not]; omega) | (refine veq_bool ?_; rw [eq_comm, decide_eq_true_iff]; omega) | (refine veq_int ?_; omega) | (refine veq_arr8 fun j hj => ?_; (try dsimp only); first | (simp; done) | (simp; omega) | ((repeat' split) <;> first | rfl | (exfalso; omega) | (congr 1; omega) | (simp_all; done))) | (exact veq_bool (allB_f (j := x) (by omega) (fun hu => absurd (hu y (by omega) z (by omega)) (by assumption)))) | (exact veq_bool (allB_t hX))
end Go.Proofs.Ytebcapplclgaead
