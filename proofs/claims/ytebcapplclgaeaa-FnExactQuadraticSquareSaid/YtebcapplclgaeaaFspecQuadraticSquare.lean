/- What the Go function spec.QuadraticSquare does, shown of its loaded text; its conditions stand in the statement. -/
import Derived.Test.YtebcapplclgaeaaTy
import Derived.Test.YtebcapplclgaeaaFspecl01In
import Derived.Test.YtebcapplclgaeaaFspecl08Residue
import Derived.Test.YtebcapplclgaeaaM12
namespace Go.Proofs.Ytebcapplclgaeaa
open Go Gx
set_option linter.unusedVariables false
theorem en_spec_QuadraticSquare : Enters Try.prog 15 := enters_of Try.func15 (by kernel_rfl) (by kernel_rfl)
set_option maxRecDepth 100000 in
set_option maxHeartbeats 1000000 in
theorem w_spec_QuadraticSquare {p a b : Int}  : CR Try.prog 15 (vals [.int .i64 p, .int .i64 a, .int .i64 b]) [] (.tup [.agg [.int .i64 (bif (qin p a b && qok p a b) then p else 0), .arr8 100 (bif (qin p a b && qok p a b) then part p.toNat (qg p a b) p.toNat 0 else fun _ => 0)], .int .i64 (bif qin p a b then (bif qok p a b then 0 else 5) else 2)]) := by
  refine CR_intro (rs := [.cell 6 26, .tmp 7]) tt tok Try.func15 rfl rfl rfl (by first | rfl | assumption) fun w => ?_
  refine W_seq ?_
  refine W_region ?_
  refine Ops_x rfl (x_alloc rfl (lt_dec rfl) fun b6_1 => ?_)
  refine Ops_p (p_assign rfl) (lt_dec rfl) ?_
  refine Ops_nil ?_
  refine W_seq ?_
  refine W_seq ?_
  refine W_region ?_
  refine Ops_p (p_move rfl) (lt_dec rfl) ?_
  refine Ops_p (p_neq rfl rfl) (lt_dec rfl) ?_
  refine Ops_p (p_move rfl) (lt_dec rfl) ?_
  refine Ops_guard rfl rfl (lt_dec rfl) (fun hg1 => ?_) (fun hg1 => ?_)
  · try simp only [bs] at hg1
    refine Ops_p (p_move rfl) (lt_dec rfl) ?_
    refine Ops_guard_t rfl rfl (lt_dec rfl) ?_
    refine Ops_p (p_neq rfl rfl) (lt_dec rfl) ?_
    refine Ops_p (p_pick_t rfl rfl) (lt_dec rfl) ?_
    refine Ops_p (p_move rfl) (lt_dec rfl) ?_
    refine Ops_guard rfl rfl (lt_dec rfl) (fun hg2 => ?_) (fun hg2 => ?_)
    · try simp only [bs] at hg2
      refine Ops_p (p_move rfl) (lt_dec rfl) ?_
      refine Ops_guard_t rfl rfl (lt_dec rfl) ?_
      refine Ops_p (p_neq rfl rfl) (lt_dec rfl) ?_
      refine Ops_p (p_pick_t rfl rfl) (lt_dec rfl) ?_
      refine Ops_p (p_move rfl) (lt_dec rfl) ?_
      refine Ops_guard rfl rfl (lt_dec rfl) (fun hg3 => ?_) (fun hg3 => ?_)
      · try simp only [bs] at hg3
        refine Ops_p (p_move rfl) (lt_dec rfl) ?_
        refine Ops_guard_t rfl rfl (lt_dec rfl) ?_
        refine Ops_p (p_move rfl) (lt_dec rfl) ?_
        refine Ops_guard_t rfl rfl (lt_dec rfl) ?_
        refine Ops_p (p_sub rfl rfl (by exact ⟨(by first | omega | (dsimp only; omega)), (by first | omega | (dsimp only; omega))⟩)) (lt_dec rfl) ?_
        refine Ops_guard_t rfl rfl (lt_dec rfl) ?_
        refine Ops_q (q_call en_spec_l01In rfl (w_spec_l01In) (View.none _)) (lt_dec rfl) ?_
        refine Ops_guard_t rfl rfl (lt_dec rfl) ?_
        refine Ops_p (p_not rfl) (lt_dec rfl) ?_
        refine Ops_p (p_pick_f rfl rfl) (lt_dec rfl) ?_
        refine Ops_p (p_move rfl) (lt_dec rfl) ?_
        refine Ops_guard rfl rfl (lt_dec rfl) (fun hg4 => ?_) (fun hg4 => ?_)
        · try simp only [bs] at hg4
          refine Ops_p (p_move rfl) (lt_dec rfl) ?_
          refine Ops_guard_t rfl rfl (lt_dec rfl) ?_
          refine Ops_p (p_move rfl) (lt_dec rfl) ?_
          refine Ops_guard_t rfl rfl (lt_dec rfl) ?_
          refine Ops_p (p_sub rfl rfl (by exact ⟨(by first | omega | (dsimp only; omega)), (by first | omega | (dsimp only; omega))⟩)) (lt_dec rfl) ?_
          refine Ops_guard_t rfl rfl (lt_dec rfl) ?_
          refine Ops_q (q_call en_spec_l01In rfl (w_spec_l01In) (View.none _)) (lt_dec rfl) ?_
          refine Ops_guard_t rfl rfl (lt_dec rfl) ?_
          refine Ops_p (p_not rfl) (lt_dec rfl) ?_
          refine Ops_p (p_pick_f rfl rfl) (lt_dec rfl) ?_
          refine Ops_nil ?_
          refine W_cond rfl (fun h1 => ?_) (fun h1 => ?_)
          · try simp only [bs] at h1
            refine W_seq ?_
            have h0 : qin p a b = false := qin_f (by omega)
            refine W_region ?_
            refine Ops_p (p_build rfl rfl rfl rfl (by first | trivial | (first | omega | (dsimp only; omega)) | exact Fin.isLt _ | (dsimp only; omega))) (lt_dec rfl) ?_
            refine Ops_x rfl (x_store rfl rfl rfl rfl rfl HpRep.head rfl (by first | trivial | (first | (first | omega | (dsimp only; omega)) | exact Fin.isLt _)) ?_)
            refine Ops_p (p_assign rfl) (lt_dec rfl) ?_
            refine Ops_nil ?_
            refine W_ret ?_
            refine Exists.intro _ (And.intro (.cons (.cell rfl rfl m0 rfl trivial) (.cons (.tmp rfl) .nil)) ?_)
            first | rfl | (refine veq_bool ?_; simp_all; done) | (refine veq_bool ?_; simp; omega) | (refine veq_bool ?_; rw [eq_comm, decide_eq_false_iff_not]; omega) | (refine veq_bool ?_; rw [eq_comm, decide_eq_true_iff]; omega) | (refine veq_int ?_; omega) | (refine veq_arr8 fun j hj => ?_; (try dsimp only); first | (simp; done) | (simp; omega) | ((repeat' split) <;> first | rfl | (exfalso; omega) | (congr 1; omega) | (simp_all; done))) | (rw [h0]; rfl) | (rw [h0, h1]; rfl)
          · try simp only [bs] at h1
            refine W_skip ?_
            refine W_seq ?_
            have hp : qP p := (by unfold qP; omega)
            have ha : 0 ≤ a ∧ a ≤ p - 1 := (by first | assumption | omega)
            have hb : 0 ≤ b ∧ b ≤ p - 1 := (by first | assumption | omega)
            have hpb := qP_b hp
            have h0 : qin p a b = true := qin_t hp ha hb
            have hm1 := mulb (a := a) (b := b) hp (by omega) (by omega)
            have hm2 := mulb (a := a - 1) (b := b - 1) hp (by omega) (by omega)
            refine W_draw (by kernel_rfl) ?_
            show RA _ _ 14 _ _ _
            refine RA_quiet (g := 0) [0, 1, 2, 3, 4, 5, 6, 7, 8, 9, 10, 11, 12, 13] (by kernel_rfl) (by kernel_rfl) (by kernel_rfl) (by kernel_rfl) ?_
            refine WQ_cons rfl rfl rfl ((p_move rfl).q) (lt_dec rfl) ?_
            refine WQ_cons rfl rfl rfl ((p_move rfl).q) (lt_dec rfl) ?_
            refine WQ_cons rfl rfl rfl ((p_mul rfl rfl (by exact ⟨(by first | omega | (dsimp only; omega)), (by first | omega | (dsimp only; omega))⟩)).q) (lt_dec rfl) ?_
            refine WQ_cons rfl rfl rfl ((p_move rfl).q) (lt_dec rfl) ?_
            refine WQ_cons rfl rfl rfl ((p_rem_t rfl rfl (qP_ne hp)).q) (lt_dec rfl) ?_
            refine WQ_cons rfl rfl rfl ((p_move rfl).q) (lt_dec rfl) ?_
            refine WQ_cons rfl rfl rfl ((p_sub rfl rfl (by exact ⟨(by first | omega | (dsimp only; omega)), (by first | omega | (dsimp only; omega))⟩)).q) (lt_dec rfl) ?_
            refine WQ_cons rfl rfl rfl ((p_move rfl).q) (lt_dec rfl) ?_
            refine WQ_cons rfl rfl rfl ((p_sub rfl rfl (by exact ⟨(by first | omega | (dsimp only; omega)), (by first | omega | (dsimp only; omega))⟩)).q) (lt_dec rfl) ?_
            refine WQ_cons rfl rfl rfl ((p_mul rfl rfl (by exact ⟨(by first | omega | (dsimp only; omega)), (by first | omega | (dsimp only; omega))⟩)).q) (lt_dec rfl) ?_
            refine WQ_cons rfl rfl rfl ((p_move rfl).q) (lt_dec rfl) ?_
            refine WQ_cons rfl rfl rfl ((p_rem_t rfl rfl (qP_ne hp)).q) (lt_dec rfl) ?_
            refine WQ_cons rfl rfl rfl ((p_assign rfl).q) (lt_dec rfl) ?_
            refine WQ_cons rfl rfl rfl ((p_assign rfl).q) (lt_dec rfl) ?_
            refine WQ_nil ?_
            refine RA_done (by kernel_rfl) ?_
            refine W_seq ?_
            refine W_seq ?_
            have ht1 := tmod_in (a := a * b) hp
            have ht2 := tmod_in (a := (a - 1) * (b - 1)) hp
            refine W_region ?_
            refine Ops_p (p_move rfl) (lt_dec rfl) ?_
            refine Ops_p (p_eql rfl rfl) (lt_dec rfl) ?_
            refine Ops_p (p_move rfl) (lt_dec rfl) ?_
            refine Ops_guard rfl rfl (lt_dec rfl) (fun hg5 => ?_) (fun hg5 => ?_)
            · try simp only [bs] at hg5
              refine Ops_p (p_move rfl) (lt_dec rfl) ?_
              refine Ops_guard_t rfl rfl (lt_dec rfl) ?_
              refine Ops_p (p_eql rfl rfl) (lt_dec rfl) ?_
              refine Ops_p (p_pick_f rfl rfl) (lt_dec rfl) ?_
              refine Ops_p (p_move rfl) (lt_dec rfl) ?_
              refine Ops_guard rfl rfl (lt_dec rfl) (fun hg6 => ?_) (fun hg6 => ?_)
              · try simp only [bs] at hg6
                refine Ops_p (p_move rfl) (lt_dec rfl) ?_
                refine Ops_guard_t rfl rfl (lt_dec rfl) ?_
                refine Ops_p (p_move rfl) (lt_dec rfl) ?_
                refine Ops_guard_t rfl rfl (lt_dec rfl) ?_
                refine Ops_q (q_call en_spec_l08Residue rfl (w_spec_l08Residue hp (by omega)) (View.none _)) (lt_dec rfl) ?_
                refine Ops_guard_t rfl rfl (lt_dec rfl) ?_
                refine Ops_p (p_not rfl) (lt_dec rfl) ?_
                refine Ops_p (p_pick_f rfl rfl) (lt_dec rfl) ?_
                refine Ops_p (p_move rfl) (lt_dec rfl) ?_
                refine Ops_guard rfl rfl (lt_dec rfl) (fun hg7 => ?_) (fun hg7 => ?_)
                · try simp only [bs] at hg7
                  refine Ops_p (p_move rfl) (lt_dec rfl) ?_
                  refine Ops_guard_t rfl rfl (lt_dec rfl) ?_
                  refine Ops_p (p_move rfl) (lt_dec rfl) ?_
                  refine Ops_guard_t rfl rfl (lt_dec rfl) ?_
                  refine Ops_q (q_call en_spec_l08Residue rfl (w_spec_l08Residue hp (by omega)) (View.none _)) (lt_dec rfl) ?_
                  refine Ops_guard_t rfl rfl (lt_dec rfl) ?_
                  refine Ops_p (p_not rfl) (lt_dec rfl) ?_
                  refine Ops_p (p_pick_f rfl rfl) (lt_dec rfl) ?_
                  refine Ops_nil ?_
                  refine W_cond rfl (fun h2 => ?_) (fun h2 => ?_)
                  · try simp only [bs] at h2
                    refine W_seq ?_
                    have h1 : qok p a b = false := (by rw [qok_eq hp ha hb]; simp_all)
                    refine W_region ?_
                    refine Ops_p (p_build rfl rfl rfl rfl (by first | trivial | (first | omega | (dsimp only; omega)) | exact Fin.isLt _ | (dsimp only; omega))) (lt_dec rfl) ?_
                    refine Ops_x rfl (x_store rfl rfl rfl rfl rfl HpRep.head rfl (by first | trivial | (first | (first | omega | (dsimp only; omega)) | exact Fin.isLt _)) ?_)
                    refine Ops_p (p_assign rfl) (lt_dec rfl) ?_
                    refine Ops_nil ?_
                    refine W_ret ?_
                    refine Exists.intro _ (And.intro (.cons (.cell rfl rfl m0 rfl trivial) (.cons (.tmp rfl) .nil)) ?_)
                    first | rfl | (refine veq_bool ?_; simp_all; done) | (refine veq_bool ?_; simp; omega) | (refine veq_bool ?_; rw [eq_comm, decide_eq_false_iff_not]; omega) | (refine veq_bool ?_; rw [eq_comm, decide_eq_true_iff]; omega) | (refine veq_int ?_; omega) | (refine veq_arr8 fun j hj => ?_; (try dsimp only); first | (simp; done) | (simp; omega) | ((repeat' split) <;> first | rfl | (exfalso; omega) | (congr 1; omega) | (simp_all; done))) | (rw [h0]; rfl) | (rw [h0, h1]; rfl)
                  · try simp only [bs] at h2
                    refine W_skip ?_
                    refine W_seq ?_
                    have h1 : qok p a b = true := (by rw [qok_eq hp ha hb]; simp_all)
                    refine W_region ?_
                    refine Ops_p (p_move rfl) (lt_dec rfl) ?_
                    refine Ops_p (p_build rfl rfl rfl rfl (by first | trivial | (first | omega | (dsimp only; omega)) | exact Fin.isLt _ | (dsimp only; omega))) (lt_dec rfl) ?_
                    refine Ops_x rfl (x_alloc rfl (lt_dec rfl) fun b10_1 => ?_)
                    refine Ops_x rfl (x_store rfl rfl rfl rfl rfl HpRep.head rfl (by first | trivial | (first | (first | omega | (dsimp only; omega)) | exact Fin.isLt _)) ?_)
                    refine Ops_nil ?_
                    refine W_seq ?_
                    refine W_seq ?_
                    refine W_region ?_
                    refine Ops_p (p_assign rfl) (lt_dec rfl) ?_
                    refine Ops_nil ?_
                    refine W_block ?_
                    refine W_loop (α := Nat) (fun x => ⟨[(0, .int .i64 p), (1, .int .i64 a), (2, .int .i64 b), (6, .ptr b6_1 0 none), (7, .int .i64 0), (8, .int .i64 (Int.tmod (a * b) p)), (9, .int .i64 (Int.tmod ((a - 1) * (b - 1)) p)), (10, .ptr b10_1 0 none), (11, .int .i64 (x : Int)), (15, .int .i64 p), (18, .int .i64 p), (22, .int .i64 p), (26, .int .i64 a), (27, .int .i64 p), (28, .int .i64 (p - 1)), (33, .int .i64 b), (34, .int .i64 p), (35, .int .i64 (p - 1)), (40, .int .i64 a), (41, .int .i64 b), (42, .int .i64 (a * b)), (43, .int .i64 p), (44, .int .i64 (Int.tmod (a * b) p)), (45, .int .i64 a), (46, .int .i64 (a - 1)), (47, .int .i64 b), (48, .int .i64 (b - 1)), (49, .int .i64 ((a - 1) * (b - 1))), (50, .int .i64 p), (51, .int .i64 (Int.tmod ((a - 1) * (b - 1)) p)), (52, .int .i64 (Int.tmod (a * b) p)), (55, .int .i64 (Int.tmod ((a - 1) * (b - 1)) p)), (59, .int .i64 p), (60, .int .i64 (Int.tmod (a * b) p)), (61, .bool (qr (Int.tmod (a * b) p) p)), (65, .int .i64 p), (66, .int .i64 (Int.tmod ((a - 1) * (b - 1)) p)), (67, .bool (qr (Int.tmod ((a - 1) * (b - 1)) p) p)), (71, .int .i64 p), (72, .agg [.int .i64 p, .arr8 100 (fun _ => 0)])], [.var b10_1 (.agg [.int .i64 p, .arr8 100 (part p.toNat (qg p a b) x 0)]), .var b6_1 (.agg [.int .i64 0, .arr8 100 fun _ => 0])]⟩) (fun x => x ≤ p.toNat) (fun x => p.toNat - x) 0 ?_ ?_ ?_
                    · show _ ≤ _; omega
                    · exact Wk.intro (.cons rfl (by first | rfl | exact veq_int (by first | omega | (dsimp only; omega))) (.cons rfl (by first | rfl | exact veq_int (by first | omega | (dsimp only; omega))) (.cons rfl (by first | rfl | exact veq_int (by first | omega | (dsimp only; omega))) (.cons rfl (by first | rfl | exact veq_int (by first | omega | (dsimp only; omega))) (.cons rfl (by first | rfl | exact veq_int (by first | omega | (dsimp only; omega))) (.cons rfl (by first | rfl | exact veq_int (by first | omega | (dsimp only; omega))) (.cons rfl (by first | rfl | exact veq_int (by first | omega | (dsimp only; omega))) (.cons rfl (by first | rfl | exact veq_int (by first | omega | (dsimp only; omega))) (.cons rfl (by first | rfl | exact veq_int (by first | omega | (dsimp only; omega))) (.cons rfl (by first | rfl | exact veq_int (by first | omega | (dsimp only; omega))) (.cons rfl (by first | rfl | exact veq_int (by first | omega | (dsimp only; omega))) (.cons rfl (by first | rfl | exact veq_int (by first | omega | (dsimp only; omega))) (.cons rfl (by first | rfl | exact veq_int (by first | omega | (dsimp only; omega))) (.cons rfl (by first | rfl | exact veq_int (by first | omega | (dsimp only; omega))) (.cons rfl (by first | rfl | exact veq_int (by first | omega | (dsimp only; omega))) (.cons rfl (by first | rfl | exact veq_int (by first | omega | (dsimp only; omega))) (.cons rfl (by first | rfl | exact veq_int (by first | omega | (dsimp only; omega))) (.cons rfl (by first | rfl | exact veq_int (by first | omega | (dsimp only; omega))) (.cons rfl (by first | rfl | exact veq_int (by first | omega | (dsimp only; omega))) (.cons rfl (by first | rfl | exact veq_int (by first | omega | (dsimp only; omega))) (.cons rfl (by first | rfl | exact veq_int (by first | omega | (dsimp only; omega))) (.cons rfl (by first | rfl | exact veq_int (by first | omega | (dsimp only; omega))) (.cons rfl (by first | rfl | exact veq_int (by first | omega | (dsimp only; omega))) (.cons rfl (by first | rfl | exact veq_int (by first | omega | (dsimp only; omega))) (.cons rfl (by first | rfl | exact veq_int (by first | omega | (dsimp only; omega))) (.cons rfl (by first | rfl | exact veq_int (by first | omega | (dsimp only; omega))) (.cons rfl (by first | rfl | exact veq_int (by first | omega | (dsimp only; omega))) (.cons rfl (by first | rfl | exact veq_int (by first | omega | (dsimp only; omega))) (.cons rfl (by first | rfl | exact veq_int (by first | omega | (dsimp only; omega))) (.cons rfl (by first | rfl | exact veq_int (by first | omega | (dsimp only; omega))) (.cons rfl (by first | rfl | exact veq_int (by first | omega | (dsimp only; omega))) (.cons rfl (by first | rfl | exact veq_int (by first | omega | (dsimp only; omega))) (.cons rfl (by first | rfl | exact veq_int (by first | omega | (dsimp only; omega))) (.cons rfl (by first | rfl | exact veq_int (by first | omega | (dsimp only; omega))) (.cons rfl (by first | rfl | exact veq_int (by first | omega | (dsimp only; omega))) (.cons rfl (by first | rfl | exact veq_int (by first | omega | (dsimp only; omega))) (.cons rfl (by first | rfl | exact veq_int (by first | omega | (dsimp only; omega))) (.cons rfl (by first | rfl | exact veq_int (by first | omega | (dsimp only; omega))) (.cons rfl (by first | rfl | exact veq_int (by first | omega | (dsimp only; omega))) (.cons rfl (by first | rfl | exact veq_int (by first | omega | (dsimp only; omega))) .nil)))))))))))))))))))))))))))))))))))))))) (.keep rfl rfl (imp_var (by exact ceq_cons rfl (ceq_cons (ceq_arr8 fun k _ => (part_zero k).symm) rfl)) rfl) (.keep rfl rfl (fun _ h => h) .nil))
                    · rintro x hR
                      refine W_seq ?_
                      refine W_seq ?_
                      refine W_region ?_
                      refine Ops_p (p_move rfl) (lt_dec rfl) ?_
                      refine Ops_p (p_move rfl) (lt_dec rfl) ?_
                      refine Ops_p (p_lss rfl rfl) (lt_dec rfl) ?_
                      refine Ops_nil ?_
                      refine W_cond rfl (fun h3 => ?_) (fun h3 => ?_)
                      · try simp only [bs] at h3
                        refine W_skip ?_
                        refine W_seq ?_
                        refine W_block ?_
                        refine W_seq ?_
                        refine W_region ?_
                        refine Ops_p (p_assign rfl) (lt_dec rfl) ?_
                        refine Ops_nil ?_
                        refine W_block ?_
                        refine W_loop (α := Nat) (fun y => ⟨[(0, .int .i64 p), (1, .int .i64 a), (2, .int .i64 b), (6, .ptr b6_1 0 none), (7, .int .i64 0), (8, .int .i64 (Int.tmod (a * b) p)), (9, .int .i64 (Int.tmod ((a - 1) * (b - 1)) p)), (10, .ptr b10_1 0 none), (11, .int .i64 (x : Int)), (12, .int .i64 (y : Int)), (15, .int .i64 p), (18, .int .i64 p), (22, .int .i64 p), (26, .int .i64 a), (27, .int .i64 p), (28, .int .i64 (p - 1)), (33, .int .i64 b), (34, .int .i64 p), (35, .int .i64 (p - 1)), (40, .int .i64 a), (41, .int .i64 b), (42, .int .i64 (a * b)), (43, .int .i64 p), (44, .int .i64 (Int.tmod (a * b) p)), (45, .int .i64 a), (46, .int .i64 (a - 1)), (47, .int .i64 b), (48, .int .i64 (b - 1)), (49, .int .i64 ((a - 1) * (b - 1))), (50, .int .i64 p), (51, .int .i64 (Int.tmod ((a - 1) * (b - 1)) p)), (52, .int .i64 (Int.tmod (a * b) p)), (55, .int .i64 (Int.tmod ((a - 1) * (b - 1)) p)), (59, .int .i64 p), (60, .int .i64 (Int.tmod (a * b) p)), (61, .bool (qr (Int.tmod (a * b) p) p)), (65, .int .i64 p), (66, .int .i64 (Int.tmod ((a - 1) * (b - 1)) p)), (67, .bool (qr (Int.tmod ((a - 1) * (b - 1)) p) p)), (71, .int .i64 p), (72, .agg [.int .i64 p, .arr8 100 (fun _ => 0)]), (73, .int .i64 (x : Int)), (74, .int .i64 p)], [.var b10_1 (.agg [.int .i64 p, .arr8 100 (part p.toNat (qg p a b) x y)]), .var b6_1 (.agg [.int .i64 0, .arr8 100 fun _ => 0])]⟩) (fun y => y ≤ p.toNat) (fun y => p.toNat - y) 0 ?_ ?_ ?_
                        · show _ ≤ _; omega
                        · exact Wk.intro (.cons rfl (by first | rfl | exact veq_int (by first | omega | (dsimp only; omega))) (.cons rfl (by first | rfl | exact veq_int (by first | omega | (dsimp only; omega))) (.cons rfl (by first | rfl | exact veq_int (by first | omega | (dsimp only; omega))) (.cons rfl (by first | rfl | exact veq_int (by first | omega | (dsimp only; omega))) (.cons rfl (by first | rfl | exact veq_int (by first | omega | (dsimp only; omega))) (.cons rfl (by first | rfl | exact veq_int (by first | omega | (dsimp only; omega))) (.cons rfl (by first | rfl | exact veq_int (by first | omega | (dsimp only; omega))) (.cons rfl (by first | rfl | exact veq_int (by first | omega | (dsimp only; omega))) (.cons rfl (by first | rfl | exact veq_int (by first | omega | (dsimp only; omega))) (.cons rfl (by first | rfl | exact veq_int (by first | omega | (dsimp only; omega))) (.cons rfl (by first | rfl | exact veq_int (by first | omega | (dsimp only; omega))) (.cons rfl (by first | rfl | exact veq_int (by first | omega | (dsimp only; omega))) (.cons rfl (by first | rfl | exact veq_int (by first | omega | (dsimp only; omega))) (.cons rfl (by first | rfl | exact veq_int (by first | omega | (dsimp only; omega))) (.cons rfl (by first | rfl | exact veq_int (by first | omega | (dsimp only; omega))) (.cons rfl (by first | rfl | exact veq_int (by first | omega | (dsimp only; omega))) (.cons rfl (by first | rfl | exact veq_int (by first | omega | (dsimp only; omega))) (.cons rfl (by first | rfl | exact veq_int (by first | omega | (dsimp only; omega))) (.cons rfl (by first | rfl | exact veq_int (by first | omega | (dsimp only; omega))) (.cons rfl (by first | rfl | exact veq_int (by first | omega | (dsimp only; omega))) (.cons rfl (by first | rfl | exact veq_int (by first | omega | (dsimp only; omega))) (.cons rfl (by first | rfl | exact veq_int (by first | omega | (dsimp only; omega))) (.cons rfl (by first | rfl | exact veq_int (by first | omega | (dsimp only; omega))) (.cons rfl (by first | rfl | exact veq_int (by first | omega | (dsimp only; omega))) (.cons rfl (by first | rfl | exact veq_int (by first | omega | (dsimp only; omega))) (.cons rfl (by first | rfl | exact veq_int (by first | omega | (dsimp only; omega))) (.cons rfl (by first | rfl | exact veq_int (by first | omega | (dsimp only; omega))) (.cons rfl (by first | rfl | exact veq_int (by first | omega | (dsimp only; omega))) (.cons rfl (by first | rfl | exact veq_int (by first | omega | (dsimp only; omega))) (.cons rfl (by first | rfl | exact veq_int (by first | omega | (dsimp only; omega))) (.cons rfl (by first | rfl | exact veq_int (by first | omega | (dsimp only; omega))) (.cons rfl (by first | rfl | exact veq_int (by first | omega | (dsimp only; omega))) (.cons rfl (by first | rfl | exact veq_int (by first | omega | (dsimp only; omega))) (.cons rfl (by first | rfl | exact veq_int (by first | omega | (dsimp only; omega))) (.cons rfl (by first | rfl | exact veq_int (by first | omega | (dsimp only; omega))) (.cons rfl (by first | rfl | exact veq_int (by first | omega | (dsimp only; omega))) (.cons rfl (by first | rfl | exact veq_int (by first | omega | (dsimp only; omega))) (.cons rfl (by first | rfl | exact veq_int (by first | omega | (dsimp only; omega))) (.cons rfl (by first | rfl | exact veq_int (by first | omega | (dsimp only; omega))) (.cons rfl (by first | rfl | exact veq_int (by first | omega | (dsimp only; omega))) (.cons rfl (by first | rfl | exact veq_int (by first | omega | (dsimp only; omega))) (.cons rfl (by first | rfl | exact veq_int (by first | omega | (dsimp only; omega))) (.cons rfl (by first | rfl | exact veq_int (by first | omega | (dsimp only; omega))) .nil))))))))))))))))))))))))))))))))))))))))))) (.keep rfl rfl (imp_var (by rfl) rfl) (.keep rfl rfl (fun _ h => h) .nil))
                        · rintro y hR
                          refine W_seq ?_
                          refine W_seq ?_
                          refine W_region ?_
                          refine Ops_p (p_move rfl) (lt_dec rfl) ?_
                          refine Ops_p (p_move rfl) (lt_dec rfl) ?_
                          refine Ops_p (p_lss rfl rfl) (lt_dec rfl) ?_
                          refine Ops_nil ?_
                          refine W_cond rfl (fun h4 => ?_) (fun h4 => ?_)
                          · try simp only [bs] at h4
                            refine W_skip ?_
                            refine W_seq ?_
                            refine W_block ?_
                            refine W_seq ?_
                            refine W_draw (by kernel_rfl) ?_
                            show RA _ _ 10 _ _ _
                            refine RA_quiet (g := 0) [0, 1, 2, 3, 4, 5, 6, 7, 8, 9] (by kernel_rfl) (by kernel_rfl) (by kernel_rfl) (by kernel_rfl) ?_
                            refine WQ_cons rfl rfl rfl ((p_move rfl).q) (lt_dec rfl) ?_
                            refine WQ_cons rfl rfl rfl ((p_move rfl).q) (lt_dec rfl) ?_
                            refine WQ_cons rfl rfl rfl ((p_move rfl).q) (lt_dec rfl) ?_
                            refine WQ_cons rfl rfl rfl ((p_sub rfl rfl (by exact ⟨(by first | omega | (dsimp only; omega)), (by first | omega | (dsimp only; omega))⟩)).q) (lt_dec rfl) ?_
                            refine WQ_cons rfl rfl rfl ((p_move rfl).q) (lt_dec rfl) ?_
                            refine WQ_cons rfl rfl rfl ((p_add rfl rfl (by exact ⟨(by first | omega | (dsimp only; omega)), (by first | omega | (dsimp only; omega))⟩)).q) (lt_dec rfl) ?_
                            refine WQ_cons rfl rfl rfl ((p_move rfl).q) (lt_dec rfl) ?_
                            refine WQ_cons rfl rfl rfl ((p_rem_t rfl rfl (qP_ne hp)).q) (lt_dec rfl) ?_
                            refine WQ_cons rfl rfl rfl ((p_assign rfl).q) (lt_dec rfl) ?_
                            refine WQ_cons rfl rfl rfl ((p_assign rfl).q) (lt_dec rfl) ?_
                            refine WQ_nil ?_
                            refine RA_done (by kernel_rfl) ?_
                            refine W_seq ?_
                            refine W_seq ?_
                            have hst := tmod_nn (a := (y : Int) - (x : Int) + p) (by omega) hp
                            refine W_region ?_
                            refine Ops_p (p_move rfl) (lt_dec rfl) ?_
                            refine Ops_p (p_move rfl) (lt_dec rfl) ?_
                            refine Ops_q (q_call en_spec_l08Residue rfl (w_spec_l08Residue hp (by omega)) (View.none _)) (lt_dec rfl) ?_
                            refine Ops_p (p_not rfl) (lt_dec rfl) ?_
                            refine Ops_nil ?_
                            refine W_cond rfl (fun h5 => ?_) (fun h5 => ?_)
                            · try simp only [bs] at h5
                              have hqr := h5
                              refine W_region ?_
                              refine Ops_p (p_move rfl) (lt_dec rfl) ?_
                              refine Ops_p (p_assign rfl) (lt_dec rfl) ?_
                              refine Ops_nil ?_
                              have hta := tmod_nn (a := (x : Int) + a * Int.tmod ((y : Int) - (x : Int) + p) p) (p := p) (Int.add_nonneg (Int.natCast_nonneg x) (Int.mul_nonneg ha.1 hst.1)) hp
                              have htb := tmod_nn (a := (x : Int) + b * Int.tmod ((y : Int) - (x : Int) + p) p) (p := p) (Int.add_nonneg (Int.natCast_nonneg x) (Int.mul_nonneg hb.1 hst.1)) hp
                              refine W_draw (by kernel_rfl) ?_
                              show RA _ _ 14 _ _ _
                              refine RA_quiet (g := 1) [0, 1, 2, 3, 4, 5, 6, 7, 8, 9, 10, 11, 12] (by kernel_rfl) (by kernel_rfl) (by kernel_rfl) (by kernel_rfl) ?_
                              refine WQ_cons rfl rfl rfl ((p_move rfl).q) (lt_dec rfl) ?_
                              refine WQ_cons rfl rfl rfl ((p_move rfl).q) (lt_dec rfl) ?_
                              refine WQ_cons rfl rfl rfl ((p_move rfl).q) (lt_dec rfl) ?_
                              refine WQ_cons rfl rfl rfl ((p_move rfl).q) (lt_dec rfl) ?_
                              refine WQ_cons rfl rfl rfl ((p_move rfl).q) (lt_dec rfl) ?_
                              refine WQ_cons rfl rfl rfl ((p_mul rfl rfl (by exact ⟨by first | (have h9 := mulb (a := a) (b := Int.tmod ((y : Int) - (x : Int) + p) p) hp (by omega) (by omega); omega) | (have h9 := mulb (a := b) (b := Int.tmod ((y : Int) - (x : Int) + p) p) hp (by omega) (by omega); omega), by first | (have h9 := mulb (a := a) (b := Int.tmod ((y : Int) - (x : Int) + p) p) hp (by omega) (by omega); omega) | (have h9 := mulb (a := b) (b := Int.tmod ((y : Int) - (x : Int) + p) p) hp (by omega) (by omega); omega)⟩)).q) (lt_dec rfl) ?_
                              refine WQ_cons rfl rfl rfl ((p_add rfl rfl (by exact ⟨by first | (have h9 := mulb (a := a) (b := Int.tmod ((y : Int) - (x : Int) + p) p) hp (by omega) (by omega); omega) | (have h9 := mulb (a := b) (b := Int.tmod ((y : Int) - (x : Int) + p) p) hp (by omega) (by omega); omega), by first | (have h9 := mulb (a := a) (b := Int.tmod ((y : Int) - (x : Int) + p) p) hp (by omega) (by omega); omega) | (have h9 := mulb (a := b) (b := Int.tmod ((y : Int) - (x : Int) + p) p) hp (by omega) (by omega); omega)⟩)).q) (lt_dec rfl) ?_
                              refine WQ_cons rfl rfl rfl ((p_move rfl).q) (lt_dec rfl) ?_
                              refine WQ_cons rfl rfl rfl ((p_rem_t rfl rfl (qP_ne hp)).q) (lt_dec rfl) ?_
                              refine WQ_cons rfl rfl rfl ((p_conv rfl rfl rfl (by exact ⟨by omega, by omega⟩)).q) (lt_dec rfl) ?_
                              refine WQ_cons rfl rfl rfl ((p_fieldAddr rfl rfl rfl rfl rfl rfl).q) (lt_dec rfl) ?_
                              refine WQ_cons rfl rfl rfl ((p_ixN 10 _ rfl rfl rfl rfl rfl rfl (by first | (first | omega | (dsimp only; omega)) | exact Fin.isLt _)).q) (lt_dec rfl) ?_
                              first | refine WQ_cons rfl rfl rfl ((p_ix1 _ rfl rfl rfl rfl rfl rfl (by first | (first | omega | (dsimp only; omega)) | exact Fin.isLt _)).q) (lt_dec rfl) ?_ | refine WQ_cons rfl rfl rfl ((p_ix1s _ rfl rfl rfl rfl rfl rfl (by first | (first | omega | (dsimp only; omega)) | exact Fin.isLt _)).q) (lt_dec rfl) ?_
                              refine WQ_nil ?_
                              refine RA_one 13 rfl rfl (by kernel_rfl) (x_store rfl rfl rfl rfl rfl HpRep.head rfl (by first | trivial | (exact ⟨by omega, by omega, by omega⟩)) ?_)
                              refine RA_done (by kernel_rfl) ?_
                              refine W_region ?_
                              refine Ops_p (p_move rfl) (lt_dec rfl) ?_
                              refine Ops_p (p_add rfl rfl (by exact ⟨(by first | omega | (dsimp only; omega)), (by first | omega | (dsimp only; omega))⟩)) (lt_dec rfl) ?_
                              refine Ops_p (p_assign rfl) (lt_dec rfl) ?_
                              refine Ops_nil ?_
                              refine Exists.intro (y + 1) (And.intro ?_ (And.intro ?_ ?_))
                              · show _ ≤ _; omega
                              · show _ < _; omega
                              · exact Wk.intro (.cons rfl (by first | rfl | exact veq_int (by first | omega | (dsimp only; omega))) (.cons rfl (by first | rfl | exact veq_int (by first | omega | (dsimp only; omega))) (.cons rfl (by first | rfl | exact veq_int (by first | omega | (dsimp only; omega))) (.cons rfl (by first | rfl | exact veq_int (by first | omega | (dsimp only; omega))) (.cons rfl (by first | rfl | exact veq_int (by first | omega | (dsimp only; omega))) (.cons rfl (by first | rfl | exact veq_int (by first | omega | (dsimp only; omega))) (.cons rfl (by first | rfl | exact veq_int (by first | omega | (dsimp only; omega))) (.cons rfl (by first | rfl | exact veq_int (by first | omega | (dsimp only; omega))) (.cons rfl (by first | rfl | exact veq_int (by first | omega | (dsimp only; omega))) (.cons rfl (by first | rfl | exact veq_int (by first | omega | (dsimp only; omega))) (.cons rfl (by first | rfl | exact veq_int (by first | omega | (dsimp only; omega))) (.cons rfl (by first | rfl | exact veq_int (by first | omega | (dsimp only; omega))) (.cons rfl (by first | rfl | exact veq_int (by first | omega | (dsimp only; omega))) (.cons rfl (by first | rfl | exact veq_int (by first | omega | (dsimp only; omega))) (.cons rfl (by first | rfl | exact veq_int (by first | omega | (dsimp only; omega))) (.cons rfl (by first | rfl | exact veq_int (by first | omega | (dsimp only; omega))) (.cons rfl (by first | rfl | exact veq_int (by first | omega | (dsimp only; omega))) (.cons rfl (by first | rfl | exact veq_int (by first | omega | (dsimp only; omega))) (.cons rfl (by first | rfl | exact veq_int (by first | omega | (dsimp only; omega))) (.cons rfl (by first | rfl | exact veq_int (by first | omega | (dsimp only; omega))) (.cons rfl (by first | rfl | exact veq_int (by first | omega | (dsimp only; omega))) (.cons rfl (by first | rfl | exact veq_int (by first | omega | (dsimp only; omega))) (.cons rfl (by first | rfl | exact veq_int (by first | omega | (dsimp only; omega))) (.cons rfl (by first | rfl | exact veq_int (by first | omega | (dsimp only; omega))) (.cons rfl (by first | rfl | exact veq_int (by first | omega | (dsimp only; omega))) (.cons rfl (by first | rfl | exact veq_int (by first | omega | (dsimp only; omega))) (.cons rfl (by first | rfl | exact veq_int (by first | omega | (dsimp only; omega))) (.cons rfl (by first | rfl | exact veq_int (by first | omega | (dsimp only; omega))) (.cons rfl (by first | rfl | exact veq_int (by first | omega | (dsimp only; omega))) (.cons rfl (by first | rfl | exact veq_int (by first | omega | (dsimp only; omega))) (.cons rfl (by first | rfl | exact veq_int (by first | omega | (dsimp only; omega))) (.cons rfl (by first | rfl | exact veq_int (by first | omega | (dsimp only; omega))) (.cons rfl (by first | rfl | exact veq_int (by first | omega | (dsimp only; omega))) (.cons rfl (by first | rfl | exact veq_int (by first | omega | (dsimp only; omega))) (.cons rfl (by first | rfl | exact veq_int (by first | omega | (dsimp only; omega))) (.cons rfl (by first | rfl | exact veq_int (by first | omega | (dsimp only; omega))) (.cons rfl (by first | rfl | exact veq_int (by first | omega | (dsimp only; omega))) (.cons rfl (by first | rfl | exact veq_int (by first | omega | (dsimp only; omega))) (.cons rfl (by first | rfl | exact veq_int (by first | omega | (dsimp only; omega))) (.cons rfl (by first | rfl | exact veq_int (by first | omega | (dsimp only; omega))) (.cons rfl (by first | rfl | exact veq_int (by first | omega | (dsimp only; omega))) (.cons rfl (by first | rfl | exact veq_int (by first | omega | (dsimp only; omega))) (.cons rfl (by first | rfl | exact veq_int (by first | omega | (dsimp only; omega))) .nil))))))))))))))))))))))))))))))))))))))))))) (.keep rfl rfl (imp_var (by exact ceq_cons rfl (ceq_cons (ceq_arr8 fun k _ => part_stepV (by unfold qg; rw [hqr]; rfl) (by omega) k) rfl)) rfl) (.keep rfl rfl (fun _ h => h) .nil))
                            · try simp only [bs] at h5
                              have hqr := h5
                              refine W_skip ?_
                              have hta := tmod_nn (a := (x : Int) + a * Int.tmod ((y : Int) - (x : Int) + p) p) (p := p) (Int.add_nonneg (Int.natCast_nonneg x) (Int.mul_nonneg ha.1 hst.1)) hp
                              have htb := tmod_nn (a := (x : Int) + b * Int.tmod ((y : Int) - (x : Int) + p) p) (p := p) (Int.add_nonneg (Int.natCast_nonneg x) (Int.mul_nonneg hb.1 hst.1)) hp
                              refine W_draw (by kernel_rfl) ?_
                              show RA _ _ 14 _ _ _
                              refine RA_quiet (g := 1) [0, 1, 2, 3, 4, 5, 6, 7, 8, 9, 10, 11, 12] (by kernel_rfl) (by kernel_rfl) (by kernel_rfl) (by kernel_rfl) ?_
                              refine WQ_cons rfl rfl rfl ((p_move rfl).q) (lt_dec rfl) ?_
                              refine WQ_cons rfl rfl rfl ((p_move rfl).q) (lt_dec rfl) ?_
                              refine WQ_cons rfl rfl rfl ((p_move rfl).q) (lt_dec rfl) ?_
                              refine WQ_cons rfl rfl rfl ((p_move rfl).q) (lt_dec rfl) ?_
                              refine WQ_cons rfl rfl rfl ((p_move rfl).q) (lt_dec rfl) ?_
                              refine WQ_cons rfl rfl rfl ((p_mul rfl rfl (by exact ⟨by first | (have h9 := mulb (a := a) (b := Int.tmod ((y : Int) - (x : Int) + p) p) hp (by omega) (by omega); omega) | (have h9 := mulb (a := b) (b := Int.tmod ((y : Int) - (x : Int) + p) p) hp (by omega) (by omega); omega), by first | (have h9 := mulb (a := a) (b := Int.tmod ((y : Int) - (x : Int) + p) p) hp (by omega) (by omega); omega) | (have h9 := mulb (a := b) (b := Int.tmod ((y : Int) - (x : Int) + p) p) hp (by omega) (by omega); omega)⟩)).q) (lt_dec rfl) ?_
                              refine WQ_cons rfl rfl rfl ((p_add rfl rfl (by exact ⟨by first | (have h9 := mulb (a := a) (b := Int.tmod ((y : Int) - (x : Int) + p) p) hp (by omega) (by omega); omega) | (have h9 := mulb (a := b) (b := Int.tmod ((y : Int) - (x : Int) + p) p) hp (by omega) (by omega); omega), by first | (have h9 := mulb (a := a) (b := Int.tmod ((y : Int) - (x : Int) + p) p) hp (by omega) (by omega); omega) | (have h9 := mulb (a := b) (b := Int.tmod ((y : Int) - (x : Int) + p) p) hp (by omega) (by omega); omega)⟩)).q) (lt_dec rfl) ?_
                              refine WQ_cons rfl rfl rfl ((p_move rfl).q) (lt_dec rfl) ?_
                              refine WQ_cons rfl rfl rfl ((p_rem_t rfl rfl (qP_ne hp)).q) (lt_dec rfl) ?_
                              refine WQ_cons rfl rfl rfl ((p_conv rfl rfl rfl (by exact ⟨by omega, by omega⟩)).q) (lt_dec rfl) ?_
                              refine WQ_cons rfl rfl rfl ((p_fieldAddr rfl rfl rfl rfl rfl rfl).q) (lt_dec rfl) ?_
                              refine WQ_cons rfl rfl rfl ((p_ixN 10 _ rfl rfl rfl rfl rfl rfl (by first | (first | omega | (dsimp only; omega)) | exact Fin.isLt _)).q) (lt_dec rfl) ?_
                              first | refine WQ_cons rfl rfl rfl ((p_ix1 _ rfl rfl rfl rfl rfl rfl (by first | (first | omega | (dsimp only; omega)) | exact Fin.isLt _)).q) (lt_dec rfl) ?_ | refine WQ_cons rfl rfl rfl ((p_ix1s _ rfl rfl rfl rfl rfl rfl (by first | (first | omega | (dsimp only; omega)) | exact Fin.isLt _)).q) (lt_dec rfl) ?_
                              refine WQ_nil ?_
                              refine RA_one 13 rfl rfl (by kernel_rfl) (x_store rfl rfl rfl rfl rfl HpRep.head rfl (by first | trivial | (exact ⟨by omega, by omega, by omega⟩)) ?_)
                              refine RA_done (by kernel_rfl) ?_
                              refine W_region ?_
                              refine Ops_p (p_move rfl) (lt_dec rfl) ?_
                              refine Ops_p (p_add rfl rfl (by exact ⟨(by first | omega | (dsimp only; omega)), (by first | omega | (dsimp only; omega))⟩)) (lt_dec rfl) ?_
                              refine Ops_p (p_assign rfl) (lt_dec rfl) ?_
                              refine Ops_nil ?_
                              refine Exists.intro (y + 1) (And.intro ?_ (And.intro ?_ ?_))
                              · show _ ≤ _; omega
                              · show _ < _; omega
                              · exact Wk.intro (.cons rfl (by first | rfl | exact veq_int (by first | omega | (dsimp only; omega))) (.cons rfl (by first | rfl | exact veq_int (by first | omega | (dsimp only; omega))) (.cons rfl (by first | rfl | exact veq_int (by first | omega | (dsimp only; omega))) (.cons rfl (by first | rfl | exact veq_int (by first | omega | (dsimp only; omega))) (.cons rfl (by first | rfl | exact veq_int (by first | omega | (dsimp only; omega))) (.cons rfl (by first | rfl | exact veq_int (by first | omega | (dsimp only; omega))) (.cons rfl (by first | rfl | exact veq_int (by first | omega | (dsimp only; omega))) (.cons rfl (by first | rfl | exact veq_int (by first | omega | (dsimp only; omega))) (.cons rfl (by first | rfl | exact veq_int (by first | omega | (dsimp only; omega))) (.cons rfl (by first | rfl | exact veq_int (by first | omega | (dsimp only; omega))) (.cons rfl (by first | rfl | exact veq_int (by first | omega | (dsimp only; omega))) (.cons rfl (by first | rfl | exact veq_int (by first | omega | (dsimp only; omega))) (.cons rfl (by first | rfl | exact veq_int (by first | omega | (dsimp only; omega))) (.cons rfl (by first | rfl | exact veq_int (by first | omega | (dsimp only; omega))) (.cons rfl (by first | rfl | exact veq_int (by first | omega | (dsimp only; omega))) (.cons rfl (by first | rfl | exact veq_int (by first | omega | (dsimp only; omega))) (.cons rfl (by first | rfl | exact veq_int (by first | omega | (dsimp only; omega))) (.cons rfl (by first | rfl | exact veq_int (by first | omega | (dsimp only; omega))) (.cons rfl (by first | rfl | exact veq_int (by first | omega | (dsimp only; omega))) (.cons rfl (by first | rfl | exact veq_int (by first | omega | (dsimp only; omega))) (.cons rfl (by first | rfl | exact veq_int (by first | omega | (dsimp only; omega))) (.cons rfl (by first | rfl | exact veq_int (by first | omega | (dsimp only; omega))) (.cons rfl (by first | rfl | exact veq_int (by first | omega | (dsimp only; omega))) (.cons rfl (by first | rfl | exact veq_int (by first | omega | (dsimp only; omega))) (.cons rfl (by first | rfl | exact veq_int (by first | omega | (dsimp only; omega))) (.cons rfl (by first | rfl | exact veq_int (by first | omega | (dsimp only; omega))) (.cons rfl (by first | rfl | exact veq_int (by first | omega | (dsimp only; omega))) (.cons rfl (by first | rfl | exact veq_int (by first | omega | (dsimp only; omega))) (.cons rfl (by first | rfl | exact veq_int (by first | omega | (dsimp only; omega))) (.cons rfl (by first | rfl | exact veq_int (by first | omega | (dsimp only; omega))) (.cons rfl (by first | rfl | exact veq_int (by first | omega | (dsimp only; omega))) (.cons rfl (by first | rfl | exact veq_int (by first | omega | (dsimp only; omega))) (.cons rfl (by first | rfl | exact veq_int (by first | omega | (dsimp only; omega))) (.cons rfl (by first | rfl | exact veq_int (by first | omega | (dsimp only; omega))) (.cons rfl (by first | rfl | exact veq_int (by first | omega | (dsimp only; omega))) (.cons rfl (by first | rfl | exact veq_int (by first | omega | (dsimp only; omega))) (.cons rfl (by first | rfl | exact veq_int (by first | omega | (dsimp only; omega))) (.cons rfl (by first | rfl | exact veq_int (by first | omega | (dsimp only; omega))) (.cons rfl (by first | rfl | exact veq_int (by first | omega | (dsimp only; omega))) (.cons rfl (by first | rfl | exact veq_int (by first | omega | (dsimp only; omega))) (.cons rfl (by first | rfl | exact veq_int (by first | omega | (dsimp only; omega))) (.cons rfl (by first | rfl | exact veq_int (by first | omega | (dsimp only; omega))) (.cons rfl (by first | rfl | exact veq_int (by first | omega | (dsimp only; omega))) .nil))))))))))))))))))))))))))))))))))))))))))) (.keep rfl rfl (imp_var (by exact ceq_cons rfl (ceq_cons (ceq_arr8 fun k _ => part_stepV (by unfold qg; rw [hqr]; rfl) (by omega) k) rfl)) rfl) (.keep rfl rfl (fun _ h => h) .nil))
                          · try simp only [bs] at h4
                            obtain rfl : y = p.toNat := (by omega)
                            refine W_exit ?_
                            refine W_region ?_
                            refine Ops_p (p_move rfl) (lt_dec rfl) ?_
                            refine Ops_p (p_add rfl rfl (by exact ⟨(by first | omega | (dsimp only; omega)), (by first | omega | (dsimp only; omega))⟩)) (lt_dec rfl) ?_
                            refine Ops_p (p_assign rfl) (lt_dec rfl) ?_
                            refine Ops_nil ?_
                            refine Exists.intro (x + 1) (And.intro ?_ (And.intro ?_ ?_))
                            · show _ ≤ _; omega
                            · show _ < _; omega
                            · exact Wk.intro (.cons rfl (by first | rfl | exact veq_int (by first | omega | (dsimp only; omega))) (.cons rfl (by first | rfl | exact veq_int (by first | omega | (dsimp only; omega))) (.cons rfl (by first | rfl | exact veq_int (by first | omega | (dsimp only; omega))) (.cons rfl (by first | rfl | exact veq_int (by first | omega | (dsimp only; omega))) (.cons rfl (by first | rfl | exact veq_int (by first | omega | (dsimp only; omega))) (.cons rfl (by first | rfl | exact veq_int (by first | omega | (dsimp only; omega))) (.cons rfl (by first | rfl | exact veq_int (by first | omega | (dsimp only; omega))) (.cons rfl (by first | rfl | exact veq_int (by first | omega | (dsimp only; omega))) (.cons rfl (by first | rfl | exact veq_int (by first | omega | (dsimp only; omega))) (.cons rfl (by first | rfl | exact veq_int (by first | omega | (dsimp only; omega))) (.cons rfl (by first | rfl | exact veq_int (by first | omega | (dsimp only; omega))) (.cons rfl (by first | rfl | exact veq_int (by first | omega | (dsimp only; omega))) (.cons rfl (by first | rfl | exact veq_int (by first | omega | (dsimp only; omega))) (.cons rfl (by first | rfl | exact veq_int (by first | omega | (dsimp only; omega))) (.cons rfl (by first | rfl | exact veq_int (by first | omega | (dsimp only; omega))) (.cons rfl (by first | rfl | exact veq_int (by first | omega | (dsimp only; omega))) (.cons rfl (by first | rfl | exact veq_int (by first | omega | (dsimp only; omega))) (.cons rfl (by first | rfl | exact veq_int (by first | omega | (dsimp only; omega))) (.cons rfl (by first | rfl | exact veq_int (by first | omega | (dsimp only; omega))) (.cons rfl (by first | rfl | exact veq_int (by first | omega | (dsimp only; omega))) (.cons rfl (by first | rfl | exact veq_int (by first | omega | (dsimp only; omega))) (.cons rfl (by first | rfl | exact veq_int (by first | omega | (dsimp only; omega))) (.cons rfl (by first | rfl | exact veq_int (by first | omega | (dsimp only; omega))) (.cons rfl (by first | rfl | exact veq_int (by first | omega | (dsimp only; omega))) (.cons rfl (by first | rfl | exact veq_int (by first | omega | (dsimp only; omega))) (.cons rfl (by first | rfl | exact veq_int (by first | omega | (dsimp only; omega))) (.cons rfl (by first | rfl | exact veq_int (by first | omega | (dsimp only; omega))) (.cons rfl (by first | rfl | exact veq_int (by first | omega | (dsimp only; omega))) (.cons rfl (by first | rfl | exact veq_int (by first | omega | (dsimp only; omega))) (.cons rfl (by first | rfl | exact veq_int (by first | omega | (dsimp only; omega))) (.cons rfl (by first | rfl | exact veq_int (by first | omega | (dsimp only; omega))) (.cons rfl (by first | rfl | exact veq_int (by first | omega | (dsimp only; omega))) (.cons rfl (by first | rfl | exact veq_int (by first | omega | (dsimp only; omega))) (.cons rfl (by first | rfl | exact veq_int (by first | omega | (dsimp only; omega))) (.cons rfl (by first | rfl | exact veq_int (by first | omega | (dsimp only; omega))) (.cons rfl (by first | rfl | exact veq_int (by first | omega | (dsimp only; omega))) (.cons rfl (by first | rfl | exact veq_int (by first | omega | (dsimp only; omega))) (.cons rfl (by first | rfl | exact veq_int (by first | omega | (dsimp only; omega))) (.cons rfl (by first | rfl | exact veq_int (by first | omega | (dsimp only; omega))) (.cons rfl (by first | rfl | exact veq_int (by first | omega | (dsimp only; omega))) .nil)))))))))))))))))))))))))))))))))))))))) (.keep rfl rfl (imp_var (by exact ceq_cons rfl (ceq_cons (ceq_arr8 fun k _ => part_row k) rfl)) rfl) (.keep rfl rfl (fun _ h => h) .nil))
                      · try simp only [bs] at h3
                        obtain rfl : x = p.toNat := (by omega)
                        refine W_exit ?_
                        refine W_seq ?_
                        refine W_region ?_
                        refine Ops_q (q_load rfl rfl m0 rfl (by first | trivial | (first | omega | (dsimp only; omega)) | exact Fin.isLt _ | (dsimp only; omega))) (lt_dec rfl) ?_
                        refine Ops_x rfl (x_store rfl rfl rfl rfl rfl ((HpRep.head).tail) rfl (by first | trivial | (first | (first | omega | (dsimp only; omega)) | exact Fin.isLt _)) ?_)
                        refine Ops_p (p_assign rfl) (lt_dec rfl) ?_
                        refine Ops_nil ?_
                        refine W_ret ?_
                        refine Exists.intro _ (And.intro (.cons (.cell rfl rfl m1 rfl trivial) (.cons (.tmp rfl) .nil)) ?_)
                        first | rfl | (refine veq_bool ?_; simp_all; done) | (refine veq_bool ?_; simp; omega) | (refine veq_bool ?_; rw [eq_comm, decide_eq_false_iff_not]; omega) | (refine veq_bool ?_; rw [eq_comm, decide_eq_true_iff]; omega) | (refine veq_int ?_; omega) | (refine veq_arr8 fun j hj => ?_; (try dsimp only); first | (simp; done) | (simp; omega) | ((repeat' split) <;> first | rfl | (exfalso; omega) | (congr 1; omega) | (simp_all; done))) | (rw [h0]; rfl) | (rw [h0, h1]; rfl)
                · try simp only [bs] at hg7
                  refine Ops_guard_f rfl rfl rfl (lt_dec rfl) ?_
                  refine Ops_guard_f rfl rfl rfl (lt_dec rfl) ?_
                  refine Ops_guard_f rfl rfl rfl (lt_dec rfl) ?_
                  refine Ops_p (p_pick_t rfl rfl) (lt_dec rfl) ?_
                  refine Ops_nil ?_
                  refine W_true rfl ?_
                  refine W_seq ?_
                  have h1 : qok p a b = false := (by rw [qok_eq hp ha hb]; simp_all)
                  refine W_region ?_
                  refine Ops_p (p_build rfl rfl rfl rfl (by first | trivial | (first | omega | (dsimp only; omega)) | exact Fin.isLt _ | (dsimp only; omega))) (lt_dec rfl) ?_
                  refine Ops_x rfl (x_store rfl rfl rfl rfl rfl HpRep.head rfl (by first | trivial | (first | (first | omega | (dsimp only; omega)) | exact Fin.isLt _)) ?_)
                  refine Ops_p (p_assign rfl) (lt_dec rfl) ?_
                  refine Ops_nil ?_
                  refine W_ret ?_
                  refine Exists.intro _ (And.intro (.cons (.cell rfl rfl m0 rfl trivial) (.cons (.tmp rfl) .nil)) ?_)
                  first | rfl | (refine veq_bool ?_; simp_all; done) | (refine veq_bool ?_; simp; omega) | (refine veq_bool ?_; rw [eq_comm, decide_eq_false_iff_not]; omega) | (refine veq_bool ?_; rw [eq_comm, decide_eq_true_iff]; omega) | (refine veq_int ?_; omega) | (refine veq_arr8 fun j hj => ?_; (try dsimp only); first | (simp; done) | (simp; omega) | ((repeat' split) <;> first | rfl | (exfalso; omega) | (congr 1; omega) | (simp_all; done))) | (rw [h0]; rfl) | (rw [h0, h1]; rfl)
              · try simp only [bs] at hg6
                refine Ops_guard_f rfl rfl rfl (lt_dec rfl) ?_
                refine Ops_guard_f rfl rfl rfl (lt_dec rfl) ?_
                refine Ops_guard_f rfl rfl rfl (lt_dec rfl) ?_
                refine Ops_p (p_pick_t rfl rfl) (lt_dec rfl) ?_
                refine Ops_p (p_move rfl) (lt_dec rfl) ?_
                refine Ops_guard_f rfl rfl rfl (lt_dec rfl) ?_
                refine Ops_guard_f rfl rfl rfl (lt_dec rfl) ?_
                refine Ops_guard_f rfl rfl rfl (lt_dec rfl) ?_
                refine Ops_guard_f rfl rfl rfl (lt_dec rfl) ?_
                refine Ops_p (p_pick_t rfl rfl) (lt_dec rfl) ?_
                refine Ops_nil ?_
                refine W_true rfl ?_
                refine W_seq ?_
                have h1 : qok p a b = false := (by rw [qok_eq hp ha hb]; simp_all)
                refine W_region ?_
                refine Ops_p (p_build rfl rfl rfl rfl (by first | trivial | (first | omega | (dsimp only; omega)) | exact Fin.isLt _ | (dsimp only; omega))) (lt_dec rfl) ?_
                refine Ops_x rfl (x_store rfl rfl rfl rfl rfl HpRep.head rfl (by first | trivial | (first | (first | omega | (dsimp only; omega)) | exact Fin.isLt _)) ?_)
                refine Ops_p (p_assign rfl) (lt_dec rfl) ?_
                refine Ops_nil ?_
                refine W_ret ?_
                refine Exists.intro _ (And.intro (.cons (.cell rfl rfl m0 rfl trivial) (.cons (.tmp rfl) .nil)) ?_)
                first | rfl | (refine veq_bool ?_; simp_all; done) | (refine veq_bool ?_; simp; omega) | (refine veq_bool ?_; rw [eq_comm, decide_eq_false_iff_not]; omega) | (refine veq_bool ?_; rw [eq_comm, decide_eq_true_iff]; omega) | (refine veq_int ?_; omega) | (refine veq_arr8 fun j hj => ?_; (try dsimp only); first | (simp; done) | (simp; omega) | ((repeat' split) <;> first | rfl | (exfalso; omega) | (congr 1; omega) | (simp_all; done))) | (rw [h0]; rfl) | (rw [h0, h1]; rfl)
            · try simp only [bs] at hg5
              refine Ops_guard_f rfl rfl rfl (lt_dec rfl) ?_
              refine Ops_p (p_pick_t rfl rfl) (lt_dec rfl) ?_
              refine Ops_p (p_move rfl) (lt_dec rfl) ?_
              refine Ops_guard_f rfl rfl rfl (lt_dec rfl) ?_
              refine Ops_guard_f rfl rfl rfl (lt_dec rfl) ?_
              refine Ops_guard_f rfl rfl rfl (lt_dec rfl) ?_
              refine Ops_guard_f rfl rfl rfl (lt_dec rfl) ?_
              refine Ops_p (p_pick_t rfl rfl) (lt_dec rfl) ?_
              refine Ops_p (p_move rfl) (lt_dec rfl) ?_
              refine Ops_guard_f rfl rfl rfl (lt_dec rfl) ?_
              refine Ops_guard_f rfl rfl rfl (lt_dec rfl) ?_
              refine Ops_guard_f rfl rfl rfl (lt_dec rfl) ?_
              refine Ops_guard_f rfl rfl rfl (lt_dec rfl) ?_
              refine Ops_p (p_pick_t rfl rfl) (lt_dec rfl) ?_
              refine Ops_nil ?_
              refine W_true rfl ?_
              refine W_seq ?_
              have h1 : qok p a b = false := (by rw [qok_eq hp ha hb]; simp_all)
              refine W_region ?_
              refine Ops_p (p_build rfl rfl rfl rfl (by first | trivial | (first | omega | (dsimp only; omega)) | exact Fin.isLt _ | (dsimp only; omega))) (lt_dec rfl) ?_
              refine Ops_x rfl (x_store rfl rfl rfl rfl rfl HpRep.head rfl (by first | trivial | (first | (first | omega | (dsimp only; omega)) | exact Fin.isLt _)) ?_)
              refine Ops_p (p_assign rfl) (lt_dec rfl) ?_
              refine Ops_nil ?_
              refine W_ret ?_
              refine Exists.intro _ (And.intro (.cons (.cell rfl rfl m0 rfl trivial) (.cons (.tmp rfl) .nil)) ?_)
              first | rfl | (refine veq_bool ?_; simp_all; done) | (refine veq_bool ?_; simp; omega) | (refine veq_bool ?_; rw [eq_comm, decide_eq_false_iff_not]; omega) | (refine veq_bool ?_; rw [eq_comm, decide_eq_true_iff]; omega) | (refine veq_int ?_; omega) | (refine veq_arr8 fun j hj => ?_; (try dsimp only); first | (simp; done) | (simp; omega) | ((repeat' split) <;> first | rfl | (exfalso; omega) | (congr 1; omega) | (simp_all; done))) | (rw [h0]; rfl) | (rw [h0, h1]; rfl)
        · try simp only [bs] at hg4
          refine Ops_guard_f rfl rfl rfl (lt_dec rfl) ?_
          refine Ops_guard_f rfl rfl rfl (lt_dec rfl) ?_
          refine Ops_guard_f rfl rfl rfl (lt_dec rfl) ?_
          refine Ops_guard_f rfl rfl rfl (lt_dec rfl) ?_
          refine Ops_p (p_pick_t rfl rfl) (lt_dec rfl) ?_
          refine Ops_nil ?_
          refine W_true rfl ?_
          refine W_seq ?_
          have h0 : qin p a b = false := qin_f (by omega)
          refine W_region ?_
          refine Ops_p (p_build rfl rfl rfl rfl (by first | trivial | (first | omega | (dsimp only; omega)) | exact Fin.isLt _ | (dsimp only; omega))) (lt_dec rfl) ?_
          refine Ops_x rfl (x_store rfl rfl rfl rfl rfl HpRep.head rfl (by first | trivial | (first | (first | omega | (dsimp only; omega)) | exact Fin.isLt _)) ?_)
          refine Ops_p (p_assign rfl) (lt_dec rfl) ?_
          refine Ops_nil ?_
          refine W_ret ?_
          refine Exists.intro _ (And.intro (.cons (.cell rfl rfl m0 rfl trivial) (.cons (.tmp rfl) .nil)) ?_)
          first | rfl | (refine veq_bool ?_; simp_all; done) | (refine veq_bool ?_; simp; omega) | (refine veq_bool ?_; rw [eq_comm, decide_eq_false_iff_not]; omega) | (refine veq_bool ?_; rw [eq_comm, decide_eq_true_iff]; omega) | (refine veq_int ?_; omega) | (refine veq_arr8 fun j hj => ?_; (try dsimp only); first | (simp; done) | (simp; omega) | ((repeat' split) <;> first | rfl | (exfalso; omega) | (congr 1; omega) | (simp_all; done))) | (rw [h0]; rfl) | (rw [h0, h1]; rfl)
      · try simp only [bs] at hg3
        refine Ops_guard_f rfl rfl rfl (lt_dec rfl) ?_
        refine Ops_guard_f rfl rfl rfl (lt_dec rfl) ?_
        refine Ops_guard_f rfl rfl rfl (lt_dec rfl) ?_
        refine Ops_guard_f rfl rfl rfl (lt_dec rfl) ?_
        refine Ops_p (p_pick_t rfl rfl) (lt_dec rfl) ?_
        refine Ops_p (p_move rfl) (lt_dec rfl) ?_
        refine Ops_guard_f rfl rfl rfl (lt_dec rfl) ?_
        refine Ops_guard_f rfl rfl rfl (lt_dec rfl) ?_
        refine Ops_guard_f rfl rfl rfl (lt_dec rfl) ?_
        refine Ops_guard_f rfl rfl rfl (lt_dec rfl) ?_
        refine Ops_guard_f rfl rfl rfl (lt_dec rfl) ?_
        refine Ops_p (p_pick_t rfl rfl) (lt_dec rfl) ?_
        refine Ops_nil ?_
        refine W_true rfl ?_
        refine W_seq ?_
        have h0 : qin p a b = false := qin_f (by omega)
        refine W_region ?_
        refine Ops_p (p_build rfl rfl rfl rfl (by first | trivial | (first | omega | (dsimp only; omega)) | exact Fin.isLt _ | (dsimp only; omega))) (lt_dec rfl) ?_
        refine Ops_x rfl (x_store rfl rfl rfl rfl rfl HpRep.head rfl (by first | trivial | (first | (first | omega | (dsimp only; omega)) | exact Fin.isLt _)) ?_)
        refine Ops_p (p_assign rfl) (lt_dec rfl) ?_
        refine Ops_nil ?_
        refine W_ret ?_
        refine Exists.intro _ (And.intro (.cons (.cell rfl rfl m0 rfl trivial) (.cons (.tmp rfl) .nil)) ?_)
        first | rfl | (refine veq_bool ?_; simp_all; done) | (refine veq_bool ?_; simp; omega) | (refine veq_bool ?_; rw [eq_comm, decide_eq_false_iff_not]; omega) | (refine veq_bool ?_; rw [eq_comm, decide_eq_true_iff]; omega) | (refine veq_int ?_; omega) | (refine veq_arr8 fun j hj => ?_; (try dsimp only); first | (simp; done) | (simp; omega) | ((repeat' split) <;> first | rfl | (exfalso; omega) | (congr 1; omega) | (simp_all; done))) | (rw [h0]; rfl) | (rw [h0, h1]; rfl)
    · try simp only [bs] at hg2
      refine Ops_guard_f rfl rfl rfl (lt_dec rfl) ?_
      refine Ops_p (p_pick_f rfl rfl) (lt_dec rfl) ?_
      refine Ops_p (p_move rfl) (lt_dec rfl) ?_
      refine Ops_guard_t rfl rfl (lt_dec rfl) ?_
      refine Ops_p (p_move rfl) (lt_dec rfl) ?_
      refine Ops_guard_t rfl rfl (lt_dec rfl) ?_
      refine Ops_p (p_move rfl) (lt_dec rfl) ?_
      refine Ops_guard_t rfl rfl (lt_dec rfl) ?_
      refine Ops_p (p_sub rfl rfl (by exact ⟨(by first | omega | (dsimp only; omega)), (by first | omega | (dsimp only; omega))⟩)) (lt_dec rfl) ?_
      refine Ops_guard_t rfl rfl (lt_dec rfl) ?_
      refine Ops_q (q_call en_spec_l01In rfl (w_spec_l01In) (View.none _)) (lt_dec rfl) ?_
      refine Ops_guard_t rfl rfl (lt_dec rfl) ?_
      refine Ops_p (p_not rfl) (lt_dec rfl) ?_
      refine Ops_p (p_pick_f rfl rfl) (lt_dec rfl) ?_
      refine Ops_p (p_move rfl) (lt_dec rfl) ?_
      refine Ops_guard rfl rfl (lt_dec rfl) (fun hg8 => ?_) (fun hg8 => ?_)
      · try simp only [bs] at hg8
        refine Ops_p (p_move rfl) (lt_dec rfl) ?_
        refine Ops_guard_t rfl rfl (lt_dec rfl) ?_
        refine Ops_p (p_move rfl) (lt_dec rfl) ?_
        refine Ops_guard_t rfl rfl (lt_dec rfl) ?_
        refine Ops_p (p_sub rfl rfl (by exact ⟨(by first | omega | (dsimp only; omega)), (by first | omega | (dsimp only; omega))⟩)) (lt_dec rfl) ?_
        refine Ops_guard_t rfl rfl (lt_dec rfl) ?_
        refine Ops_q (q_call en_spec_l01In rfl (w_spec_l01In) (View.none _)) (lt_dec rfl) ?_
        refine Ops_guard_t rfl rfl (lt_dec rfl) ?_
        refine Ops_p (p_not rfl) (lt_dec rfl) ?_
        refine Ops_p (p_pick_f rfl rfl) (lt_dec rfl) ?_
        refine Ops_nil ?_
        refine W_cond rfl (fun h6 => ?_) (fun h6 => ?_)
        · try simp only [bs] at h6
          refine W_seq ?_
          have h0 : qin p a b = false := qin_f (by omega)
          refine W_region ?_
          refine Ops_p (p_build rfl rfl rfl rfl (by first | trivial | (first | omega | (dsimp only; omega)) | exact Fin.isLt _ | (dsimp only; omega))) (lt_dec rfl) ?_
          refine Ops_x rfl (x_store rfl rfl rfl rfl rfl HpRep.head rfl (by first | trivial | (first | (first | omega | (dsimp only; omega)) | exact Fin.isLt _)) ?_)
          refine Ops_p (p_assign rfl) (lt_dec rfl) ?_
          refine Ops_nil ?_
          refine W_ret ?_
          refine Exists.intro _ (And.intro (.cons (.cell rfl rfl m0 rfl trivial) (.cons (.tmp rfl) .nil)) ?_)
          first | rfl | (refine veq_bool ?_; simp_all; done) | (refine veq_bool ?_; simp; omega) | (refine veq_bool ?_; rw [eq_comm, decide_eq_false_iff_not]; omega) | (refine veq_bool ?_; rw [eq_comm, decide_eq_true_iff]; omega) | (refine veq_int ?_; omega) | (refine veq_arr8 fun j hj => ?_; (try dsimp only); first | (simp; done) | (simp; omega) | ((repeat' split) <;> first | rfl | (exfalso; omega) | (congr 1; omega) | (simp_all; done))) | (rw [h0]; rfl) | (rw [h0, h1]; rfl)
        · try simp only [bs] at h6
          refine W_skip ?_
          refine W_seq ?_
          have hp : qP p := (by unfold qP; omega)
          have ha : 0 ≤ a ∧ a ≤ p - 1 := (by first | assumption | omega)
          have hb : 0 ≤ b ∧ b ≤ p - 1 := (by first | assumption | omega)
          have hpb := qP_b hp
          have h0 : qin p a b = true := qin_t hp ha hb
          have hm1 := mulb (a := a) (b := b) hp (by omega) (by omega)
          have hm2 := mulb (a := a - 1) (b := b - 1) hp (by omega) (by omega)
          refine W_draw (by kernel_rfl) ?_
          show RA _ _ 14 _ _ _
          refine RA_quiet (g := 0) [0, 1, 2, 3, 4, 5, 6, 7, 8, 9, 10, 11, 12, 13] (by kernel_rfl) (by kernel_rfl) (by kernel_rfl) (by kernel_rfl) ?_
          refine WQ_cons rfl rfl rfl ((p_move rfl).q) (lt_dec rfl) ?_
          refine WQ_cons rfl rfl rfl ((p_move rfl).q) (lt_dec rfl) ?_
          refine WQ_cons rfl rfl rfl ((p_mul rfl rfl (by exact ⟨(by first | omega | (dsimp only; omega)), (by first | omega | (dsimp only; omega))⟩)).q) (lt_dec rfl) ?_
          refine WQ_cons rfl rfl rfl ((p_move rfl).q) (lt_dec rfl) ?_
          refine WQ_cons rfl rfl rfl ((p_rem_t rfl rfl (qP_ne hp)).q) (lt_dec rfl) ?_
          refine WQ_cons rfl rfl rfl ((p_move rfl).q) (lt_dec rfl) ?_
          refine WQ_cons rfl rfl rfl ((p_sub rfl rfl (by exact ⟨(by first | omega | (dsimp only; omega)), (by first | omega | (dsimp only; omega))⟩)).q) (lt_dec rfl) ?_
          refine WQ_cons rfl rfl rfl ((p_move rfl).q) (lt_dec rfl) ?_
          refine WQ_cons rfl rfl rfl ((p_sub rfl rfl (by exact ⟨(by first | omega | (dsimp only; omega)), (by first | omega | (dsimp only; omega))⟩)).q) (lt_dec rfl) ?_
          refine WQ_cons rfl rfl rfl ((p_mul rfl rfl (by exact ⟨(by first | omega | (dsimp only; omega)), (by first | omega | (dsimp only; omega))⟩)).q) (lt_dec rfl) ?_
          refine WQ_cons rfl rfl rfl ((p_move rfl).q) (lt_dec rfl) ?_
          refine WQ_cons rfl rfl rfl ((p_rem_t rfl rfl (qP_ne hp)).q) (lt_dec rfl) ?_
          refine WQ_cons rfl rfl rfl ((p_assign rfl).q) (lt_dec rfl) ?_
          refine WQ_cons rfl rfl rfl ((p_assign rfl).q) (lt_dec rfl) ?_
          refine WQ_nil ?_
          refine RA_done (by kernel_rfl) ?_
          refine W_seq ?_
          refine W_seq ?_
          have ht1 := tmod_in (a := a * b) hp
          have ht2 := tmod_in (a := (a - 1) * (b - 1)) hp
          refine W_region ?_
          refine Ops_p (p_move rfl) (lt_dec rfl) ?_
          refine Ops_p (p_eql rfl rfl) (lt_dec rfl) ?_
          refine Ops_p (p_move rfl) (lt_dec rfl) ?_
          refine Ops_guard rfl rfl (lt_dec rfl) (fun hg9 => ?_) (fun hg9 => ?_)
          · try simp only [bs] at hg9
            refine Ops_p (p_move rfl) (lt_dec rfl) ?_
            refine Ops_guard_t rfl rfl (lt_dec rfl) ?_
            refine Ops_p (p_eql rfl rfl) (lt_dec rfl) ?_
            refine Ops_p (p_pick_f rfl rfl) (lt_dec rfl) ?_
            refine Ops_p (p_move rfl) (lt_dec rfl) ?_
            refine Ops_guard rfl rfl (lt_dec rfl) (fun hg10 => ?_) (fun hg10 => ?_)
            · try simp only [bs] at hg10
              refine Ops_p (p_move rfl) (lt_dec rfl) ?_
              refine Ops_guard_t rfl rfl (lt_dec rfl) ?_
              refine Ops_p (p_move rfl) (lt_dec rfl) ?_
              refine Ops_guard_t rfl rfl (lt_dec rfl) ?_
              refine Ops_q (q_call en_spec_l08Residue rfl (w_spec_l08Residue hp (by omega)) (View.none _)) (lt_dec rfl) ?_
              refine Ops_guard_t rfl rfl (lt_dec rfl) ?_
              refine Ops_p (p_not rfl) (lt_dec rfl) ?_
              refine Ops_p (p_pick_f rfl rfl) (lt_dec rfl) ?_
              refine Ops_p (p_move rfl) (lt_dec rfl) ?_
              refine Ops_guard rfl rfl (lt_dec rfl) (fun hg11 => ?_) (fun hg11 => ?_)
              · try simp only [bs] at hg11
                refine Ops_p (p_move rfl) (lt_dec rfl) ?_
                refine Ops_guard_t rfl rfl (lt_dec rfl) ?_
                refine Ops_p (p_move rfl) (lt_dec rfl) ?_
                refine Ops_guard_t rfl rfl (lt_dec rfl) ?_
                refine Ops_q (q_call en_spec_l08Residue rfl (w_spec_l08Residue hp (by omega)) (View.none _)) (lt_dec rfl) ?_
                refine Ops_guard_t rfl rfl (lt_dec rfl) ?_
                refine Ops_p (p_not rfl) (lt_dec rfl) ?_
                refine Ops_p (p_pick_f rfl rfl) (lt_dec rfl) ?_
                refine Ops_nil ?_
                refine W_cond rfl (fun h7 => ?_) (fun h7 => ?_)
                · try simp only [bs] at h7
                  refine W_seq ?_
                  have h1 : qok p a b = false := (by rw [qok_eq hp ha hb]; simp_all)
                  refine W_region ?_
                  refine Ops_p (p_build rfl rfl rfl rfl (by first | trivial | (first | omega | (dsimp only; omega)) | exact Fin.isLt _ | (dsimp only; omega))) (lt_dec rfl) ?_
                  refine Ops_x rfl (x_store rfl rfl rfl rfl rfl HpRep.head rfl (by first | trivial | (first | (first | omega | (dsimp only; omega)) | exact Fin.isLt _)) ?_)
                  refine Ops_p (p_assign rfl) (lt_dec rfl) ?_
                  refine Ops_nil ?_
                  refine W_ret ?_
                  refine Exists.intro _ (And.intro (.cons (.cell rfl rfl m0 rfl trivial) (.cons (.tmp rfl) .nil)) ?_)
                  first | rfl | (refine veq_bool ?_; simp_all; done) | (refine veq_bool ?_; simp; omega) | (refine veq_bool ?_; rw [eq_comm, decide_eq_false_iff_not]; omega) | (refine veq_bool ?_; rw [eq_comm, decide_eq_true_iff]; omega) | (refine veq_int ?_; omega) | (refine veq_arr8 fun j hj => ?_; (try dsimp only); first | (simp; done) | (simp; omega) | ((repeat' split) <;> first | rfl | (exfalso; omega) | (congr 1; omega) | (simp_all; done))) | (rw [h0]; rfl) | (rw [h0, h1]; rfl)
                · try simp only [bs] at h7
                  refine W_skip ?_
                  refine W_seq ?_
                  have h1 : qok p a b = true := (by rw [qok_eq hp ha hb]; simp_all)
                  refine W_region ?_
                  refine Ops_p (p_move rfl) (lt_dec rfl) ?_
                  refine Ops_p (p_build rfl rfl rfl rfl (by first | trivial | (first | omega | (dsimp only; omega)) | exact Fin.isLt _ | (dsimp only; omega))) (lt_dec rfl) ?_
                  refine Ops_x rfl (x_alloc rfl (lt_dec rfl) fun b10_2 => ?_)
                  refine Ops_x rfl (x_store rfl rfl rfl rfl rfl HpRep.head rfl (by first | trivial | (first | (first | omega | (dsimp only; omega)) | exact Fin.isLt _)) ?_)
                  refine Ops_nil ?_
                  refine W_seq ?_
                  refine W_seq ?_
                  refine W_region ?_
                  refine Ops_p (p_assign rfl) (lt_dec rfl) ?_
                  refine Ops_nil ?_
                  refine W_block ?_
                  refine W_loop (α := Nat) (fun x => ⟨[(0, .int .i64 p), (1, .int .i64 a), (2, .int .i64 b), (6, .ptr b6_1 0 none), (7, .int .i64 0), (8, .int .i64 (Int.tmod (a * b) p)), (9, .int .i64 (Int.tmod ((a - 1) * (b - 1)) p)), (10, .ptr b10_2 0 none), (11, .int .i64 (x : Int)), (15, .int .i64 p), (18, .int .i64 p), (26, .int .i64 a), (27, .int .i64 p), (28, .int .i64 (p - 1)), (33, .int .i64 b), (34, .int .i64 p), (35, .int .i64 (p - 1)), (40, .int .i64 a), (41, .int .i64 b), (42, .int .i64 (a * b)), (43, .int .i64 p), (44, .int .i64 (Int.tmod (a * b) p)), (45, .int .i64 a), (46, .int .i64 (a - 1)), (47, .int .i64 b), (48, .int .i64 (b - 1)), (49, .int .i64 ((a - 1) * (b - 1))), (50, .int .i64 p), (51, .int .i64 (Int.tmod ((a - 1) * (b - 1)) p)), (52, .int .i64 (Int.tmod (a * b) p)), (55, .int .i64 (Int.tmod ((a - 1) * (b - 1)) p)), (59, .int .i64 p), (60, .int .i64 (Int.tmod (a * b) p)), (61, .bool (qr (Int.tmod (a * b) p) p)), (65, .int .i64 p), (66, .int .i64 (Int.tmod ((a - 1) * (b - 1)) p)), (67, .bool (qr (Int.tmod ((a - 1) * (b - 1)) p) p)), (71, .int .i64 p), (72, .agg [.int .i64 p, .arr8 100 (fun _ => 0)])], [.var b10_2 (.agg [.int .i64 p, .arr8 100 (part p.toNat (qg p a b) x 0)]), .var b6_1 (.agg [.int .i64 0, .arr8 100 fun _ => 0])]⟩) (fun x => x ≤ p.toNat) (fun x => p.toNat - x) 0 ?_ ?_ ?_
                  · show _ ≤ _; omega
                  · exact Wk.intro (.cons rfl (by first | rfl | exact veq_int (by first | omega | (dsimp only; omega))) (.cons rfl (by first | rfl | exact veq_int (by first | omega | (dsimp only; omega))) (.cons rfl (by first | rfl | exact veq_int (by first | omega | (dsimp only; omega))) (.cons rfl (by first | rfl | exact veq_int (by first | omega | (dsimp only; omega))) (.cons rfl (by first | rfl | exact veq_int (by first | omega | (dsimp only; omega))) (.cons rfl (by first | rfl | exact veq_int (by first | omega | (dsimp only; omega))) (.cons rfl (by first | rfl | exact veq_int (by first | omega | (dsimp only; omega))) (.cons rfl (by first | rfl | exact veq_int (by first | omega | (dsimp only; omega))) (.cons rfl (by first | rfl | exact veq_int (by first | omega | (dsimp only; omega))) (.cons rfl (by first | rfl | exact veq_int (by first | omega | (dsimp only; omega))) (.cons rfl (by first | rfl | exact veq_int (by first | omega | (dsimp only; omega))) (.cons rfl (by first | rfl | exact veq_int (by first | omega | (dsimp only; omega))) (.cons rfl (by first | rfl | exact veq_int (by first | omega | (dsimp only; omega))) (.cons rfl (by first | rfl | exact veq_int (by first | omega | (dsimp only; omega))) (.cons rfl (by first | rfl | exact veq_int (by first | omega | (dsimp only; omega))) (.cons rfl (by first | rfl | exact veq_int (by first | omega | (dsimp only; omega))) (.cons rfl (by first | rfl | exact veq_int (by first | omega | (dsimp only; omega))) (.cons rfl (by first | rfl | exact veq_int (by first | omega | (dsimp only; omega))) (.cons rfl (by first | rfl | exact veq_int (by first | omega | (dsimp only; omega))) (.cons rfl (by first | rfl | exact veq_int (by first | omega | (dsimp only; omega))) (.cons rfl (by first | rfl | exact veq_int (by first | omega | (dsimp only; omega))) (.cons rfl (by first | rfl | exact veq_int (by first | omega | (dsimp only; omega))) (.cons rfl (by first | rfl | exact veq_int (by first | omega | (dsimp only; omega))) (.cons rfl (by first | rfl | exact veq_int (by first | omega | (dsimp only; omega))) (.cons rfl (by first | rfl | exact veq_int (by first | omega | (dsimp only; omega))) (.cons rfl (by first | rfl | exact veq_int (by first | omega | (dsimp only; omega))) (.cons rfl (by first | rfl | exact veq_int (by first | omega | (dsimp only; omega))) (.cons rfl (by first | rfl | exact veq_int (by first | omega | (dsimp only; omega))) (.cons rfl (by first | rfl | exact veq_int (by first | omega | (dsimp only; omega))) (.cons rfl (by first | rfl | exact veq_int (by first | omega | (dsimp only; omega))) (.cons rfl (by first | rfl | exact veq_int (by first | omega | (dsimp only; omega))) (.cons rfl (by first | rfl | exact veq_int (by first | omega | (dsimp only; omega))) (.cons rfl (by first | rfl | exact veq_int (by first | omega | (dsimp only; omega))) (.cons rfl (by first | rfl | exact veq_int (by first | omega | (dsimp only; omega))) (.cons rfl (by first | rfl | exact veq_int (by first | omega | (dsimp only; omega))) (.cons rfl (by first | rfl | exact veq_int (by first | omega | (dsimp only; omega))) (.cons rfl (by first | rfl | exact veq_int (by first | omega | (dsimp only; omega))) (.cons rfl (by first | rfl | exact veq_int (by first | omega | (dsimp only; omega))) (.cons rfl (by first | rfl | exact veq_int (by first | omega | (dsimp only; omega))) .nil))))))))))))))))))))))))))))))))))))))) (.keep rfl rfl (imp_var (by exact ceq_cons rfl (ceq_cons (ceq_arr8 fun k _ => (part_zero k).symm) rfl)) rfl) (.keep rfl rfl (fun _ h => h) .nil))
                  · rintro x hR
                    refine W_seq ?_
                    refine W_seq ?_
                    refine W_region ?_
                    refine Ops_p (p_move rfl) (lt_dec rfl) ?_
                    refine Ops_p (p_move rfl) (lt_dec rfl) ?_
                    refine Ops_p (p_lss rfl rfl) (lt_dec rfl) ?_
                    refine Ops_nil ?_
                    refine W_cond rfl (fun h8 => ?_) (fun h8 => ?_)
                    · try simp only [bs] at h8
                      refine W_skip ?_
                      refine W_seq ?_
                      refine W_block ?_
                      refine W_seq ?_
                      refine W_region ?_
                      refine Ops_p (p_assign rfl) (lt_dec rfl) ?_
                      refine Ops_nil ?_
                      refine W_block ?_
                      refine W_loop (α := Nat) (fun y => ⟨[(0, .int .i64 p), (1, .int .i64 a), (2, .int .i64 b), (6, .ptr b6_1 0 none), (7, .int .i64 0), (8, .int .i64 (Int.tmod (a * b) p)), (9, .int .i64 (Int.tmod ((a - 1) * (b - 1)) p)), (10, .ptr b10_2 0 none), (11, .int .i64 (x : Int)), (12, .int .i64 (y : Int)), (15, .int .i64 p), (18, .int .i64 p), (26, .int .i64 a), (27, .int .i64 p), (28, .int .i64 (p - 1)), (33, .int .i64 b), (34, .int .i64 p), (35, .int .i64 (p - 1)), (40, .int .i64 a), (41, .int .i64 b), (42, .int .i64 (a * b)), (43, .int .i64 p), (44, .int .i64 (Int.tmod (a * b) p)), (45, .int .i64 a), (46, .int .i64 (a - 1)), (47, .int .i64 b), (48, .int .i64 (b - 1)), (49, .int .i64 ((a - 1) * (b - 1))), (50, .int .i64 p), (51, .int .i64 (Int.tmod ((a - 1) * (b - 1)) p)), (52, .int .i64 (Int.tmod (a * b) p)), (55, .int .i64 (Int.tmod ((a - 1) * (b - 1)) p)), (59, .int .i64 p), (60, .int .i64 (Int.tmod (a * b) p)), (61, .bool (qr (Int.tmod (a * b) p) p)), (65, .int .i64 p), (66, .int .i64 (Int.tmod ((a - 1) * (b - 1)) p)), (67, .bool (qr (Int.tmod ((a - 1) * (b - 1)) p) p)), (71, .int .i64 p), (72, .agg [.int .i64 p, .arr8 100 (fun _ => 0)]), (73, .int .i64 (x : Int)), (74, .int .i64 p)], [.var b10_2 (.agg [.int .i64 p, .arr8 100 (part p.toNat (qg p a b) x y)]), .var b6_1 (.agg [.int .i64 0, .arr8 100 fun _ => 0])]⟩) (fun y => y ≤ p.toNat) (fun y => p.toNat - y) 0 ?_ ?_ ?_
                      · show _ ≤ _; omega
                      · exact Wk.intro (.cons rfl (by first | rfl | exact veq_int (by first | omega | (dsimp only; omega))) (.cons rfl (by first | rfl | exact veq_int (by first | omega | (dsimp only; omega))) (.cons rfl (by first | rfl | exact veq_int (by first | omega | (dsimp only; omega))) (.cons rfl (by first | rfl | exact veq_int (by first | omega | (dsimp only; omega))) (.cons rfl (by first | rfl | exact veq_int (by first | omega | (dsimp only; omega))) (.cons rfl (by first | rfl | exact veq_int (by first | omega | (dsimp only; omega))) (.cons rfl (by first | rfl | exact veq_int (by first | omega | (dsimp only; omega))) (.cons rfl (by first | rfl | exact veq_int (by first | omega | (dsimp only; omega))) (.cons rfl (by first | rfl | exact veq_int (by first | omega | (dsimp only; omega))) (.cons rfl (by first | rfl | exact veq_int (by first | omega | (dsimp only; omega))) (.cons rfl (by first | rfl | exact veq_int (by first | omega | (dsimp only; omega))) (.cons rfl (by first | rfl | exact veq_int (by first | omega | (dsimp only; omega))) (.cons rfl (by first | rfl | exact veq_int (by first | omega | (dsimp only; omega))) (.cons rfl (by first | rfl | exact veq_int (by first | omega | (dsimp only; omega))) (.cons rfl (by first | rfl | exact veq_int (by first | omega | (dsimp only; omega))) (.cons rfl (by first | rfl | exact veq_int (by first | omega | (dsimp only; omega))) (.cons rfl (by first | rfl | exact veq_int (by first | omega | (dsimp only; omega))) (.cons rfl (by first | rfl | exact veq_int (by first | omega | (dsimp only; omega))) (.cons rfl (by first | rfl | exact veq_int (by first | omega | (dsimp only; omega))) (.cons rfl (by first | rfl | exact veq_int (by first | omega | (dsimp only; omega))) (.cons rfl (by first | rfl | exact veq_int (by first | omega | (dsimp only; omega))) (.cons rfl (by first | rfl | exact veq_int (by first | omega | (dsimp only; omega))) (.cons rfl (by first | rfl | exact veq_int (by first | omega | (dsimp only; omega))) (.cons rfl (by first | rfl | exact veq_int (by first | omega | (dsimp only; omega))) (.cons rfl (by first | rfl | exact veq_int (by first | omega | (dsimp only; omega))) (.cons rfl (by first | rfl | exact veq_int (by first | omega | (dsimp only; omega))) (.cons rfl (by first | rfl | exact veq_int (by first | omega | (dsimp only; omega))) (.cons rfl (by first | rfl | exact veq_int (by first | omega | (dsimp only; omega))) (.cons rfl (by first | rfl | exact veq_int (by first | omega | (dsimp only; omega))) (.cons rfl (by first | rfl | exact veq_int (by first | omega | (dsimp only; omega))) (.cons rfl (by first | rfl | exact veq_int (by first | omega | (dsimp only; omega))) (.cons rfl (by first | rfl | exact veq_int (by first | omega | (dsimp only; omega))) (.cons rfl (by first | rfl | exact veq_int (by first | omega | (dsimp only; omega))) (.cons rfl (by first | rfl | exact veq_int (by first | omega | (dsimp only; omega))) (.cons rfl (by first | rfl | exact veq_int (by first | omega | (dsimp only; omega))) (.cons rfl (by first | rfl | exact veq_int (by first | omega | (dsimp only; omega))) (.cons rfl (by first | rfl | exact veq_int (by first | omega | (dsimp only; omega))) (.cons rfl (by first | rfl | exact veq_int (by first | omega | (dsimp only; omega))) (.cons rfl (by first | rfl | exact veq_int (by first | omega | (dsimp only; omega))) (.cons rfl (by first | rfl | exact veq_int (by first | omega | (dsimp only; omega))) (.cons rfl (by first | rfl | exact veq_int (by first | omega | (dsimp only; omega))) (.cons rfl (by first | rfl | exact veq_int (by first | omega | (dsimp only; omega))) .nil)))))))))))))))))))))))))))))))))))))))))) (.keep rfl rfl (imp_var (by rfl) rfl) (.keep rfl rfl (fun _ h => h) .nil))
                      · rintro y hR
                        refine W_seq ?_
                        refine W_seq ?_
                        refine W_region ?_
                        refine Ops_p (p_move rfl) (lt_dec rfl) ?_
                        refine Ops_p (p_move rfl) (lt_dec rfl) ?_
                        refine Ops_p (p_lss rfl rfl) (lt_dec rfl) ?_
                        refine Ops_nil ?_
                        refine W_cond rfl (fun h9 => ?_) (fun h9 => ?_)
                        · try simp only [bs] at h9
                          refine W_skip ?_
                          refine W_seq ?_
                          refine W_block ?_
                          refine W_seq ?_
                          refine W_draw (by kernel_rfl) ?_
                          show RA _ _ 10 _ _ _
                          refine RA_quiet (g := 0) [0, 1, 2, 3, 4, 5, 6, 7, 8, 9] (by kernel_rfl) (by kernel_rfl) (by kernel_rfl) (by kernel_rfl) ?_
                          refine WQ_cons rfl rfl rfl ((p_move rfl).q) (lt_dec rfl) ?_
                          refine WQ_cons rfl rfl rfl ((p_move rfl).q) (lt_dec rfl) ?_
                          refine WQ_cons rfl rfl rfl ((p_move rfl).q) (lt_dec rfl) ?_
                          refine WQ_cons rfl rfl rfl ((p_sub rfl rfl (by exact ⟨(by first | omega | (dsimp only; omega)), (by first | omega | (dsimp only; omega))⟩)).q) (lt_dec rfl) ?_
                          refine WQ_cons rfl rfl rfl ((p_move rfl).q) (lt_dec rfl) ?_
                          refine WQ_cons rfl rfl rfl ((p_add rfl rfl (by exact ⟨(by first | omega | (dsimp only; omega)), (by first | omega | (dsimp only; omega))⟩)).q) (lt_dec rfl) ?_
                          refine WQ_cons rfl rfl rfl ((p_move rfl).q) (lt_dec rfl) ?_
                          refine WQ_cons rfl rfl rfl ((p_rem_t rfl rfl (qP_ne hp)).q) (lt_dec rfl) ?_
                          refine WQ_cons rfl rfl rfl ((p_assign rfl).q) (lt_dec rfl) ?_
                          refine WQ_cons rfl rfl rfl ((p_assign rfl).q) (lt_dec rfl) ?_
                          refine WQ_nil ?_
                          refine RA_done (by kernel_rfl) ?_
                          refine W_seq ?_
                          refine W_seq ?_
                          have hst := tmod_nn (a := (y : Int) - (x : Int) + p) (by omega) hp
                          refine W_region ?_
                          refine Ops_p (p_move rfl) (lt_dec rfl) ?_
                          refine Ops_p (p_move rfl) (lt_dec rfl) ?_
                          refine Ops_q (q_call en_spec_l08Residue rfl (w_spec_l08Residue hp (by omega)) (View.none _)) (lt_dec rfl) ?_
                          refine Ops_p (p_not rfl) (lt_dec rfl) ?_
                          refine Ops_nil ?_
                          refine W_cond rfl (fun h10 => ?_) (fun h10 => ?_)
                          · try simp only [bs] at h10
                            have hqr := h10
                            refine W_region ?_
                            refine Ops_p (p_move rfl) (lt_dec rfl) ?_
                            refine Ops_p (p_assign rfl) (lt_dec rfl) ?_
                            refine Ops_nil ?_
                            have hta := tmod_nn (a := (x : Int) + a * Int.tmod ((y : Int) - (x : Int) + p) p) (p := p) (Int.add_nonneg (Int.natCast_nonneg x) (Int.mul_nonneg ha.1 hst.1)) hp
                            have htb := tmod_nn (a := (x : Int) + b * Int.tmod ((y : Int) - (x : Int) + p) p) (p := p) (Int.add_nonneg (Int.natCast_nonneg x) (Int.mul_nonneg hb.1 hst.1)) hp
                            refine W_draw (by kernel_rfl) ?_
                            show RA _ _ 14 _ _ _
                            refine RA_quiet (g := 1) [0, 1, 2, 3, 4, 5, 6, 7, 8, 9, 10, 11, 12] (by kernel_rfl) (by kernel_rfl) (by kernel_rfl) (by kernel_rfl) ?_
                            refine WQ_cons rfl rfl rfl ((p_move rfl).q) (lt_dec rfl) ?_
                            refine WQ_cons rfl rfl rfl ((p_move rfl).q) (lt_dec rfl) ?_
                            refine WQ_cons rfl rfl rfl ((p_move rfl).q) (lt_dec rfl) ?_
                            refine WQ_cons rfl rfl rfl ((p_move rfl).q) (lt_dec rfl) ?_
                            refine WQ_cons rfl rfl rfl ((p_move rfl).q) (lt_dec rfl) ?_
                            refine WQ_cons rfl rfl rfl ((p_mul rfl rfl (by exact ⟨by first | (have h9 := mulb (a := a) (b := Int.tmod ((y : Int) - (x : Int) + p) p) hp (by omega) (by omega); omega) | (have h9 := mulb (a := b) (b := Int.tmod ((y : Int) - (x : Int) + p) p) hp (by omega) (by omega); omega), by first | (have h9 := mulb (a := a) (b := Int.tmod ((y : Int) - (x : Int) + p) p) hp (by omega) (by omega); omega) | (have h9 := mulb (a := b) (b := Int.tmod ((y : Int) - (x : Int) + p) p) hp (by omega) (by omega); omega)⟩)).q) (lt_dec rfl) ?_
                            refine WQ_cons rfl rfl rfl ((p_add rfl rfl (by exact ⟨by first | (have h9 := mulb (a := a) (b := Int.tmod ((y : Int) - (x : Int) + p) p) hp (by omega) (by omega); omega) | (have h9 := mulb (a := b) (b := Int.tmod ((y : Int) - (x : Int) + p) p) hp (by omega) (by omega); omega), by first | (have h9 := mulb (a := a) (b := Int.tmod ((y : Int) - (x : Int) + p) p) hp (by omega) (by omega); omega) | (have h9 := mulb (a := b) (b := Int.tmod ((y : Int) - (x : Int) + p) p) hp (by omega) (by omega); omega)⟩)).q) (lt_dec rfl) ?_
                            refine WQ_cons rfl rfl rfl ((p_move rfl).q) (lt_dec rfl) ?_
                            refine WQ_cons rfl rfl rfl ((p_rem_t rfl rfl (qP_ne hp)).q) (lt_dec rfl) ?_
                            refine WQ_cons rfl rfl rfl ((p_conv rfl rfl rfl (by exact ⟨by omega, by omega⟩)).q) (lt_dec rfl) ?_
                            refine WQ_cons rfl rfl rfl ((p_fieldAddr rfl rfl rfl rfl rfl rfl).q) (lt_dec rfl) ?_
                            refine WQ_cons rfl rfl rfl ((p_ixN 10 _ rfl rfl rfl rfl rfl rfl (by first | (first | omega | (dsimp only; omega)) | exact Fin.isLt _)).q) (lt_dec rfl) ?_
                            first | refine WQ_cons rfl rfl rfl ((p_ix1 _ rfl rfl rfl rfl rfl rfl (by first | (first | omega | (dsimp only; omega)) | exact Fin.isLt _)).q) (lt_dec rfl) ?_ | refine WQ_cons rfl rfl rfl ((p_ix1s _ rfl rfl rfl rfl rfl rfl (by first | (first | omega | (dsimp only; omega)) | exact Fin.isLt _)).q) (lt_dec rfl) ?_
                            refine WQ_nil ?_
                            refine RA_one 13 rfl rfl (by kernel_rfl) (x_store rfl rfl rfl rfl rfl HpRep.head rfl (by first | trivial | (exact ⟨by omega, by omega, by omega⟩)) ?_)
                            refine RA_done (by kernel_rfl) ?_
                            refine W_region ?_
                            refine Ops_p (p_move rfl) (lt_dec rfl) ?_
                            refine Ops_p (p_add rfl rfl (by exact ⟨(by first | omega | (dsimp only; omega)), (by first | omega | (dsimp only; omega))⟩)) (lt_dec rfl) ?_
                            refine Ops_p (p_assign rfl) (lt_dec rfl) ?_
                            refine Ops_nil ?_
                            refine Exists.intro (y + 1) (And.intro ?_ (And.intro ?_ ?_))
                            · show _ ≤ _; omega
                            · show _ < _; omega
                            · exact Wk.intro (.cons rfl (by first | rfl | exact veq_int (by first | omega | (dsimp only; omega))) (.cons rfl (by first | rfl | exact veq_int (by first | omega | (dsimp only; omega))) (.cons rfl (by first | rfl | exact veq_int (by first | omega | (dsimp only; omega))) (.cons rfl (by first | rfl | exact veq_int (by first | omega | (dsimp only; omega))) (.cons rfl (by first | rfl | exact veq_int (by first | omega | (dsimp only; omega))) (.cons rfl (by first | rfl | exact veq_int (by first | omega | (dsimp only; omega))) (.cons rfl (by first | rfl | exact veq_int (by first | omega | (dsimp only; omega))) (.cons rfl (by first | rfl | exact veq_int (by first | omega | (dsimp only; omega))) (.cons rfl (by first | rfl | exact veq_int (by first | omega | (dsimp only; omega))) (.cons rfl (by first | rfl | exact veq_int (by first | omega | (dsimp only; omega))) (.cons rfl (by first | rfl | exact veq_int (by first | omega | (dsimp only; omega))) (.cons rfl (by first | rfl | exact veq_int (by first | omega | (dsimp only; omega))) (.cons rfl (by first | rfl | exact veq_int (by first | omega | (dsimp only; omega))) (.cons rfl (by first | rfl | exact veq_int (by first | omega | (dsimp only; omega))) (.cons rfl (by first | rfl | exact veq_int (by first | omega | (dsimp only; omega))) (.cons rfl (by first | rfl | exact veq_int (by first | omega | (dsimp only; omega))) (.cons rfl (by first | rfl | exact veq_int (by first | omega | (dsimp only; omega))) (.cons rfl (by first | rfl | exact veq_int (by first | omega | (dsimp only; omega))) (.cons rfl (by first | rfl | exact veq_int (by first | omega | (dsimp only; omega))) (.cons rfl (by first | rfl | exact veq_int (by first | omega | (dsimp only; omega))) (.cons rfl (by first | rfl | exact veq_int (by first | omega | (dsimp only; omega))) (.cons rfl (by first | rfl | exact veq_int (by first | omega | (dsimp only; omega))) (.cons rfl (by first | rfl | exact veq_int (by first | omega | (dsimp only; omega))) (.cons rfl (by first | rfl | exact veq_int (by first | omega | (dsimp only; omega))) (.cons rfl (by first | rfl | exact veq_int (by first | omega | (dsimp only; omega))) (.cons rfl (by first | rfl | exact veq_int (by first | omega | (dsimp only; omega))) (.cons rfl (by first | rfl | exact veq_int (by first | omega | (dsimp only; omega))) (.cons rfl (by first | rfl | exact veq_int (by first | omega | (dsimp only; omega))) (.cons rfl (by first | rfl | exact veq_int (by first | omega | (dsimp only; omega))) (.cons rfl (by first | rfl | exact veq_int (by first | omega | (dsimp only; omega))) (.cons rfl (by first | rfl | exact veq_int (by first | omega | (dsimp only; omega))) (.cons rfl (by first | rfl | exact veq_int (by first | omega | (dsimp only; omega))) (.cons rfl (by first | rfl | exact veq_int (by first | omega | (dsimp only; omega))) (.cons rfl (by first | rfl | exact veq_int (by first | omega | (dsimp only; omega))) (.cons rfl (by first | rfl | exact veq_int (by first | omega | (dsimp only; omega))) (.cons rfl (by first | rfl | exact veq_int (by first | omega | (dsimp only; omega))) (.cons rfl (by first | rfl | exact veq_int (by first | omega | (dsimp only; omega))) (.cons rfl (by first | rfl | exact veq_int (by first | omega | (dsimp only; omega))) (.cons rfl (by first | rfl | exact veq_int (by first | omega | (dsimp only; omega))) (.cons rfl (by first | rfl | exact veq_int (by first | omega | (dsimp only; omega))) (.cons rfl (by first | rfl | exact veq_int (by first | omega | (dsimp only; omega))) (.cons rfl (by first | rfl | exact veq_int (by first | omega | (dsimp only; omega))) .nil)))))))))))))))))))))))))))))))))))))))))) (.keep rfl rfl (imp_var (by exact ceq_cons rfl (ceq_cons (ceq_arr8 fun k _ => part_stepV (by unfold qg; rw [hqr]; rfl) (by omega) k) rfl)) rfl) (.keep rfl rfl (fun _ h => h) .nil))
                          · try simp only [bs] at h10
                            have hqr := h10
                            refine W_skip ?_
                            have hta := tmod_nn (a := (x : Int) + a * Int.tmod ((y : Int) - (x : Int) + p) p) (p := p) (Int.add_nonneg (Int.natCast_nonneg x) (Int.mul_nonneg ha.1 hst.1)) hp
                            have htb := tmod_nn (a := (x : Int) + b * Int.tmod ((y : Int) - (x : Int) + p) p) (p := p) (Int.add_nonneg (Int.natCast_nonneg x) (Int.mul_nonneg hb.1 hst.1)) hp
                            refine W_draw (by kernel_rfl) ?_
                            show RA _ _ 14 _ _ _
                            refine RA_quiet (g := 1) [0, 1, 2, 3, 4, 5, 6, 7, 8, 9, 10, 11, 12] (by kernel_rfl) (by kernel_rfl) (by kernel_rfl) (by kernel_rfl) ?_
                            refine WQ_cons rfl rfl rfl ((p_move rfl).q) (lt_dec rfl) ?_
                            refine WQ_cons rfl rfl rfl ((p_move rfl).q) (lt_dec rfl) ?_
                            refine WQ_cons rfl rfl rfl ((p_move rfl).q) (lt_dec rfl) ?_
                            refine WQ_cons rfl rfl rfl ((p_move rfl).q) (lt_dec rfl) ?_
                            refine WQ_cons rfl rfl rfl ((p_move rfl).q) (lt_dec rfl) ?_
                            refine WQ_cons rfl rfl rfl ((p_mul rfl rfl (by exact ⟨by first | (have h9 := mulb (a := a) (b := Int.tmod ((y : Int) - (x : Int) + p) p) hp (by omega) (by omega); omega) | (have h9 := mulb (a := b) (b := Int.tmod ((y : Int) - (x : Int) + p) p) hp (by omega) (by omega); omega), by first | (have h9 := mulb (a := a) (b := Int.tmod ((y : Int) - (x : Int) + p) p) hp (by omega) (by omega); omega) | (have h9 := mulb (a := b) (b := Int.tmod ((y : Int) - (x : Int) + p) p) hp (by omega) (by omega); omega)⟩)).q) (lt_dec rfl) ?_
                            refine WQ_cons rfl rfl rfl ((p_add rfl rfl (by exact ⟨by first | (have h9 := mulb (a := a) (b := Int.tmod ((y : Int) - (x : Int) + p) p) hp (by omega) (by omega); omega) | (have h9 := mulb (a := b) (b := Int.tmod ((y : Int) - (x : Int) + p) p) hp (by omega) (by omega); omega), by first | (have h9 := mulb (a := a) (b := Int.tmod ((y : Int) - (x : Int) + p) p) hp (by omega) (by omega); omega) | (have h9 := mulb (a := b) (b := Int.tmod ((y : Int) - (x : Int) + p) p) hp (by omega) (by omega); omega)⟩)).q) (lt_dec rfl) ?_
                            refine WQ_cons rfl rfl rfl ((p_move rfl).q) (lt_dec rfl) ?_
                            refine WQ_cons rfl rfl rfl ((p_rem_t rfl rfl (qP_ne hp)).q) (lt_dec rfl) ?_
                            refine WQ_cons rfl rfl rfl ((p_conv rfl rfl rfl (by exact ⟨by omega, by omega⟩)).q) (lt_dec rfl) ?_
                            refine WQ_cons rfl rfl rfl ((p_fieldAddr rfl rfl rfl rfl rfl rfl).q) (lt_dec rfl) ?_
                            refine WQ_cons rfl rfl rfl ((p_ixN 10 _ rfl rfl rfl rfl rfl rfl (by first | (first | omega | (dsimp only; omega)) | exact Fin.isLt _)).q) (lt_dec rfl) ?_
                            first | refine WQ_cons rfl rfl rfl ((p_ix1 _ rfl rfl rfl rfl rfl rfl (by first | (first | omega | (dsimp only; omega)) | exact Fin.isLt _)).q) (lt_dec rfl) ?_ | refine WQ_cons rfl rfl rfl ((p_ix1s _ rfl rfl rfl rfl rfl rfl (by first | (first | omega | (dsimp only; omega)) | exact Fin.isLt _)).q) (lt_dec rfl) ?_
                            refine WQ_nil ?_
                            refine RA_one 13 rfl rfl (by kernel_rfl) (x_store rfl rfl rfl rfl rfl HpRep.head rfl (by first | trivial | (exact ⟨by omega, by omega, by omega⟩)) ?_)
                            refine RA_done (by kernel_rfl) ?_
                            refine W_region ?_
                            refine Ops_p (p_move rfl) (lt_dec rfl) ?_
                            refine Ops_p (p_add rfl rfl (by exact ⟨(by first | omega | (dsimp only; omega)), (by first | omega | (dsimp only; omega))⟩)) (lt_dec rfl) ?_
                            refine Ops_p (p_assign rfl) (lt_dec rfl) ?_
                            refine Ops_nil ?_
                            refine Exists.intro (y + 1) (And.intro ?_ (And.intro ?_ ?_))
                            · show _ ≤ _; omega
                            · show _ < _; omega
                            · exact Wk.intro (.cons rfl (by first | rfl | exact veq_int (by first | omega | (dsimp only; omega))) (.cons rfl (by first | rfl | exact veq_int (by first | omega | (dsimp only; omega))) (.cons rfl (by first | rfl | exact veq_int (by first | omega | (dsimp only; omega))) (.cons rfl (by first | rfl | exact veq_int (by first | omega | (dsimp only; omega))) (.cons rfl (by first | rfl | exact veq_int (by first | omega | (dsimp only; omega))) (.cons rfl (by first | rfl | exact veq_int (by first | omega | (dsimp only; omega))) (.cons rfl (by first | rfl | exact veq_int (by first | omega | (dsimp only; omega))) (.cons rfl (by first | rfl | exact veq_int (by first | omega | (dsimp only; omega))) (.cons rfl (by first | rfl | exact veq_int (by first | omega | (dsimp only; omega))) (.cons rfl (by first | rfl | exact veq_int (by first | omega | (dsimp only; omega))) (.cons rfl (by first | rfl | exact veq_int (by first | omega | (dsimp only; omega))) (.cons rfl (by first | rfl | exact veq_int (by first | omega | (dsimp only; omega))) (.cons rfl (by first | rfl | exact veq_int (by first | omega | (dsimp only; omega))) (.cons rfl (by first | rfl | exact veq_int (by first | omega | (dsimp only; omega))) (.cons rfl (by first | rfl | exact veq_int (by first | omega | (dsimp only; omega))) (.cons rfl (by first | rfl | exact veq_int (by first | omega | (dsimp only; omega))) (.cons rfl (by first | rfl | exact veq_int (by first | omega | (dsimp only; omega))) (.cons rfl (by first | rfl | exact veq_int (by first | omega | (dsimp only; omega))) (.cons rfl (by first | rfl | exact veq_int (by first | omega | (dsimp only; omega))) (.cons rfl (by first | rfl | exact veq_int (by first | omega | (dsimp only; omega))) (.cons rfl (by first | rfl | exact veq_int (by first | omega | (dsimp only; omega))) (.cons rfl (by first | rfl | exact veq_int (by first | omega | (dsimp only; omega))) (.cons rfl (by first | rfl | exact veq_int (by first | omega | (dsimp only; omega))) (.cons rfl (by first | rfl | exact veq_int (by first | omega | (dsimp only; omega))) (.cons rfl (by first | rfl | exact veq_int (by first | omega | (dsimp only; omega))) (.cons rfl (by first | rfl | exact veq_int (by first | omega | (dsimp only; omega))) (.cons rfl (by first | rfl | exact veq_int (by first | omega | (dsimp only; omega))) (.cons rfl (by first | rfl | exact veq_int (by first | omega | (dsimp only; omega))) (.cons rfl (by first | rfl | exact veq_int (by first | omega | (dsimp only; omega))) (.cons rfl (by first | rfl | exact veq_int (by first | omega | (dsimp only; omega))) (.cons rfl (by first | rfl | exact veq_int (by first | omega | (dsimp only; omega))) (.cons rfl (by first | rfl | exact veq_int (by first | omega | (dsimp only; omega))) (.cons rfl (by first | rfl | exact veq_int (by first | omega | (dsimp only; omega))) (.cons rfl (by first | rfl | exact veq_int (by first | omega | (dsimp only; omega))) (.cons rfl (by first | rfl | exact veq_int (by first | omega | (dsimp only; omega))) (.cons rfl (by first | rfl | exact veq_int (by first | omega | (dsimp only; omega))) (.cons rfl (by first | rfl | exact veq_int (by first | omega | (dsimp only; omega))) (.cons rfl (by first | rfl | exact veq_int (by first | omega | (dsimp only; omega))) (.cons rfl (by first | rfl | exact veq_int (by first | omega | (dsimp only; omega))) (.cons rfl (by first | rfl | exact veq_int (by first | omega | (dsimp only; omega))) (.cons rfl (by first | rfl | exact veq_int (by first | omega | (dsimp only; omega))) (.cons rfl (by first | rfl | exact veq_int (by first | omega | (dsimp only; omega))) .nil)))))))))))))))))))))))))))))))))))))))))) (.keep rfl rfl (imp_var (by exact ceq_cons rfl (ceq_cons (ceq_arr8 fun k _ => part_stepV (by unfold qg; rw [hqr]; rfl) (by omega) k) rfl)) rfl) (.keep rfl rfl (fun _ h => h) .nil))
                        · try simp only [bs] at h9
                          obtain rfl : y = p.toNat := (by omega)
                          refine W_exit ?_
                          refine W_region ?_
                          refine Ops_p (p_move rfl) (lt_dec rfl) ?_
                          refine Ops_p (p_add rfl rfl (by exact ⟨(by first | omega | (dsimp only; omega)), (by first | omega | (dsimp only; omega))⟩)) (lt_dec rfl) ?_
                          refine Ops_p (p_assign rfl) (lt_dec rfl) ?_
                          refine Ops_nil ?_
                          refine Exists.intro (x + 1) (And.intro ?_ (And.intro ?_ ?_))
                          · show _ ≤ _; omega
                          · show _ < _; omega
                          · exact Wk.intro (.cons rfl (by first | rfl | exact veq_int (by first | omega | (dsimp only; omega))) (.cons rfl (by first | rfl | exact veq_int (by first | omega | (dsimp only; omega))) (.cons rfl (by first | rfl | exact veq_int (by first | omega | (dsimp only; omega))) (.cons rfl (by first | rfl | exact veq_int (by first | omega | (dsimp only; omega))) (.cons rfl (by first | rfl | exact veq_int (by first | omega | (dsimp only; omega))) (.cons rfl (by first | rfl | exact veq_int (by first | omega | (dsimp only; omega))) (.cons rfl (by first | rfl | exact veq_int (by first | omega | (dsimp only; omega))) (.cons rfl (by first | rfl | exact veq_int (by first | omega | (dsimp only; omega))) (.cons rfl (by first | rfl | exact veq_int (by first | omega | (dsimp only; omega))) (.cons rfl (by first | rfl | exact veq_int (by first | omega | (dsimp only; omega))) (.cons rfl (by first | rfl | exact veq_int (by first | omega | (dsimp only; omega))) (.cons rfl (by first | rfl | exact veq_int (by first | omega | (dsimp only; omega))) (.cons rfl (by first | rfl | exact veq_int (by first | omega | (dsimp only; omega))) (.cons rfl (by first | rfl | exact veq_int (by first | omega | (dsimp only; omega))) (.cons rfl (by first | rfl | exact veq_int (by first | omega | (dsimp only; omega))) (.cons rfl (by first | rfl | exact veq_int (by first | omega | (dsimp only; omega))) (.cons rfl (by first | rfl | exact veq_int (by first | omega | (dsimp only; omega))) (.cons rfl (by first | rfl | exact veq_int (by first | omega | (dsimp only; omega))) (.cons rfl (by first | rfl | exact veq_int (by first | omega | (dsimp only; omega))) (.cons rfl (by first | rfl | exact veq_int (by first | omega | (dsimp only; omega))) (.cons rfl (by first | rfl | exact veq_int (by first | omega | (dsimp only; omega))) (.cons rfl (by first | rfl | exact veq_int (by first | omega | (dsimp only; omega))) (.cons rfl (by first | rfl | exact veq_int (by first | omega | (dsimp only; omega))) (.cons rfl (by first | rfl | exact veq_int (by first | omega | (dsimp only; omega))) (.cons rfl (by first | rfl | exact veq_int (by first | omega | (dsimp only; omega))) (.cons rfl (by first | rfl | exact veq_int (by first | omega | (dsimp only; omega))) (.cons rfl (by first | rfl | exact veq_int (by first | omega | (dsimp only; omega))) (.cons rfl (by first | rfl | exact veq_int (by first | omega | (dsimp only; omega))) (.cons rfl (by first | rfl | exact veq_int (by first | omega | (dsimp only; omega))) (.cons rfl (by first | rfl | exact veq_int (by first | omega | (dsimp only; omega))) (.cons rfl (by first | rfl | exact veq_int (by first | omega | (dsimp only; omega))) (.cons rfl (by first | rfl | exact veq_int (by first | omega | (dsimp only; omega))) (.cons rfl (by first | rfl | exact veq_int (by first | omega | (dsimp only; omega))) (.cons rfl (by first | rfl | exact veq_int (by first | omega | (dsimp only; omega))) (.cons rfl (by first | rfl | exact veq_int (by first | omega | (dsimp only; omega))) (.cons rfl (by first | rfl | exact veq_int (by first | omega | (dsimp only; omega))) (.cons rfl (by first | rfl | exact veq_int (by first | omega | (dsimp only; omega))) (.cons rfl (by first | rfl | exact veq_int (by first | omega | (dsimp only; omega))) (.cons rfl (by first | rfl | exact veq_int (by first | omega | (dsimp only; omega))) .nil))))))))))))))))))))))))))))))))))))))) (.keep rfl rfl (imp_var (by exact ceq_cons rfl (ceq_cons (ceq_arr8 fun k _ => part_row k) rfl)) rfl) (.keep rfl rfl (fun _ h => h) .nil))
                    · try simp only [bs] at h8
                      obtain rfl : x = p.toNat := (by omega)
                      refine W_exit ?_
                      refine W_seq ?_
                      refine W_region ?_
                      refine Ops_q (q_load rfl rfl m0 rfl (by first | trivial | (first | omega | (dsimp only; omega)) | exact Fin.isLt _ | (dsimp only; omega))) (lt_dec rfl) ?_
                      refine Ops_x rfl (x_store rfl rfl rfl rfl rfl ((HpRep.head).tail) rfl (by first | trivial | (first | (first | omega | (dsimp only; omega)) | exact Fin.isLt _)) ?_)
                      refine Ops_p (p_assign rfl) (lt_dec rfl) ?_
                      refine Ops_nil ?_
                      refine W_ret ?_
                      refine Exists.intro _ (And.intro (.cons (.cell rfl rfl m1 rfl trivial) (.cons (.tmp rfl) .nil)) ?_)
                      first | rfl | (refine veq_bool ?_; simp_all; done) | (refine veq_bool ?_; simp; omega) | (refine veq_bool ?_; rw [eq_comm, decide_eq_false_iff_not]; omega) | (refine veq_bool ?_; rw [eq_comm, decide_eq_true_iff]; omega) | (refine veq_int ?_; omega) | (refine veq_arr8 fun j hj => ?_; (try dsimp only); first | (simp; done) | (simp; omega) | ((repeat' split) <;> first | rfl | (exfalso; omega) | (congr 1; omega) | (simp_all; done))) | (rw [h0]; rfl) | (rw [h0, h1]; rfl)
              · try simp only [bs] at hg11
                refine Ops_guard_f rfl rfl rfl (lt_dec rfl) ?_
                refine Ops_guard_f rfl rfl rfl (lt_dec rfl) ?_
                refine Ops_guard_f rfl rfl rfl (lt_dec rfl) ?_
                refine Ops_p (p_pick_t rfl rfl) (lt_dec rfl) ?_
                refine Ops_nil ?_
                refine W_true rfl ?_
                refine W_seq ?_
                have h1 : qok p a b = false := (by rw [qok_eq hp ha hb]; simp_all)
                refine W_region ?_
                refine Ops_p (p_build rfl rfl rfl rfl (by first | trivial | (first | omega | (dsimp only; omega)) | exact Fin.isLt _ | (dsimp only; omega))) (lt_dec rfl) ?_
                refine Ops_x rfl (x_store rfl rfl rfl rfl rfl HpRep.head rfl (by first | trivial | (first | (first | omega | (dsimp only; omega)) | exact Fin.isLt _)) ?_)
                refine Ops_p (p_assign rfl) (lt_dec rfl) ?_
                refine Ops_nil ?_
                refine W_ret ?_
                refine Exists.intro _ (And.intro (.cons (.cell rfl rfl m0 rfl trivial) (.cons (.tmp rfl) .nil)) ?_)
                first | rfl | (refine veq_bool ?_; simp_all; done) | (refine veq_bool ?_; simp; omega) | (refine veq_bool ?_; rw [eq_comm, decide_eq_false_iff_not]; omega) | (refine veq_bool ?_; rw [eq_comm, decide_eq_true_iff]; omega) | (refine veq_int ?_; omega) | (refine veq_arr8 fun j hj => ?_; (try dsimp only); first | (simp; done) | (simp; omega) | ((repeat' split) <;> first | rfl | (exfalso; omega) | (congr 1; omega) | (simp_all; done))) | (rw [h0]; rfl) | (rw [h0, h1]; rfl)
            · try simp only [bs] at hg10
              refine Ops_guard_f rfl rfl rfl (lt_dec rfl) ?_
              refine Ops_guard_f rfl rfl rfl (lt_dec rfl) ?_
              refine Ops_guard_f rfl rfl rfl (lt_dec rfl) ?_
              refine Ops_p (p_pick_t rfl rfl) (lt_dec rfl) ?_
              refine Ops_p (p_move rfl) (lt_dec rfl) ?_
              refine Ops_guard_f rfl rfl rfl (lt_dec rfl) ?_
              refine Ops_guard_f rfl rfl rfl (lt_dec rfl) ?_
              refine Ops_guard_f rfl rfl rfl (lt_dec rfl) ?_
              refine Ops_guard_f rfl rfl rfl (lt_dec rfl) ?_
              refine Ops_p (p_pick_t rfl rfl) (lt_dec rfl) ?_
              refine Ops_nil ?_
              refine W_true rfl ?_
              refine W_seq ?_
              have h1 : qok p a b = false := (by rw [qok_eq hp ha hb]; simp_all)
              refine W_region ?_
              refine Ops_p (p_build rfl rfl rfl rfl (by first | trivial | (first | omega | (dsimp only; omega)) | exact Fin.isLt _ | (dsimp only; omega))) (lt_dec rfl) ?_
              refine Ops_x rfl (x_store rfl rfl rfl rfl rfl HpRep.head rfl (by first | trivial | (first | (first | omega | (dsimp only; omega)) | exact Fin.isLt _)) ?_)
              refine Ops_p (p_assign rfl) (lt_dec rfl) ?_
              refine Ops_nil ?_
              refine W_ret ?_
              refine Exists.intro _ (And.intro (.cons (.cell rfl rfl m0 rfl trivial) (.cons (.tmp rfl) .nil)) ?_)
              first | rfl | (refine veq_bool ?_; simp_all; done) | (refine veq_bool ?_; simp; omega) | (refine veq_bool ?_; rw [eq_comm, decide_eq_false_iff_not]; omega) | (refine veq_bool ?_; rw [eq_comm, decide_eq_true_iff]; omega) | (refine veq_int ?_; omega) | (refine veq_arr8 fun j hj => ?_; (try dsimp only); first | (simp; done) | (simp; omega) | ((repeat' split) <;> first | rfl | (exfalso; omega) | (congr 1; omega) | (simp_all; done))) | (rw [h0]; rfl) | (rw [h0, h1]; rfl)
          · try simp only [bs] at hg9
            refine Ops_guard_f rfl rfl rfl (lt_dec rfl) ?_
            refine Ops_p (p_pick_t rfl rfl) (lt_dec rfl) ?_
            refine Ops_p (p_move rfl) (lt_dec rfl) ?_
            refine Ops_guard_f rfl rfl rfl (lt_dec rfl) ?_
            refine Ops_guard_f rfl rfl rfl (lt_dec rfl) ?_
            refine Ops_guard_f rfl rfl rfl (lt_dec rfl) ?_
            refine Ops_guard_f rfl rfl rfl (lt_dec rfl) ?_
            refine Ops_p (p_pick_t rfl rfl) (lt_dec rfl) ?_
            refine Ops_p (p_move rfl) (lt_dec rfl) ?_
            refine Ops_guard_f rfl rfl rfl (lt_dec rfl) ?_
            refine Ops_guard_f rfl rfl rfl (lt_dec rfl) ?_
            refine Ops_guard_f rfl rfl rfl (lt_dec rfl) ?_
            refine Ops_guard_f rfl rfl rfl (lt_dec rfl) ?_
            refine Ops_p (p_pick_t rfl rfl) (lt_dec rfl) ?_
            refine Ops_nil ?_
            refine W_true rfl ?_
            refine W_seq ?_
            have h1 : qok p a b = false := (by rw [qok_eq hp ha hb]; simp_all)
            refine W_region ?_
            refine Ops_p (p_build rfl rfl rfl rfl (by first | trivial | (first | omega | (dsimp only; omega)) | exact Fin.isLt _ | (dsimp only; omega))) (lt_dec rfl) ?_
            refine Ops_x rfl (x_store rfl rfl rfl rfl rfl HpRep.head rfl (by first | trivial | (first | (first | omega | (dsimp only; omega)) | exact Fin.isLt _)) ?_)
            refine Ops_p (p_assign rfl) (lt_dec rfl) ?_
            refine Ops_nil ?_
            refine W_ret ?_
            refine Exists.intro _ (And.intro (.cons (.cell rfl rfl m0 rfl trivial) (.cons (.tmp rfl) .nil)) ?_)
            first | rfl | (refine veq_bool ?_; simp_all; done) | (refine veq_bool ?_; simp; omega) | (refine veq_bool ?_; rw [eq_comm, decide_eq_false_iff_not]; omega) | (refine veq_bool ?_; rw [eq_comm, decide_eq_true_iff]; omega) | (refine veq_int ?_; omega) | (refine veq_arr8 fun j hj => ?_; (try dsimp only); first | (simp; done) | (simp; omega) | ((repeat' split) <;> first | rfl | (exfalso; omega) | (congr 1; omega) | (simp_all; done))) | (rw [h0]; rfl) | (rw [h0, h1]; rfl)
      · try simp only [bs] at hg8
        refine Ops_guard_f rfl rfl rfl (lt_dec rfl) ?_
        refine Ops_guard_f rfl rfl rfl (lt_dec rfl) ?_
        refine Ops_guard_f rfl rfl rfl (lt_dec rfl) ?_
        refine Ops_guard_f rfl rfl rfl (lt_dec rfl) ?_
        refine Ops_p (p_pick_t rfl rfl) (lt_dec rfl) ?_
        refine Ops_nil ?_
        refine W_true rfl ?_
        refine W_seq ?_
        have h0 : qin p a b = false := qin_f (by omega)
        refine W_region ?_
        refine Ops_p (p_build rfl rfl rfl rfl (by first | trivial | (first | omega | (dsimp only; omega)) | exact Fin.isLt _ | (dsimp only; omega))) (lt_dec rfl) ?_
        refine Ops_x rfl (x_store rfl rfl rfl rfl rfl HpRep.head rfl (by first | trivial | (first | (first | omega | (dsimp only; omega)) | exact Fin.isLt _)) ?_)
        refine Ops_p (p_assign rfl) (lt_dec rfl) ?_
        refine Ops_nil ?_
        refine W_ret ?_
        refine Exists.intro _ (And.intro (.cons (.cell rfl rfl m0 rfl trivial) (.cons (.tmp rfl) .nil)) ?_)
        first | rfl | (refine veq_bool ?_; simp_all; done) | (refine veq_bool ?_; simp; omega) | (refine veq_bool ?_; rw [eq_comm, decide_eq_false_iff_not]; omega) | (refine veq_bool ?_; rw [eq_comm, decide_eq_true_iff]; omega) | (refine veq_int ?_; omega) | (refine veq_arr8 fun j hj => ?_; (try dsimp only); first | (simp; done) | (simp; omega) | ((repeat' split) <;> first | rfl | (exfalso; omega) | (congr 1; omega) | (simp_all; done))) | (rw [h0]; rfl) | (rw [h0, h1]; rfl)
  · try simp only [bs] at hg1
    refine Ops_guard_f rfl rfl rfl (lt_dec rfl) ?_
    refine Ops_p (p_pick_f rfl rfl) (lt_dec rfl) ?_
    refine Ops_p (p_move rfl) (lt_dec rfl) ?_
    refine Ops_guard_f rfl rfl rfl (lt_dec rfl) ?_
    refine Ops_guard_f rfl rfl rfl (lt_dec rfl) ?_
    refine Ops_p (p_pick_f rfl rfl) (lt_dec rfl) ?_
    refine Ops_p (p_move rfl) (lt_dec rfl) ?_
    refine Ops_guard_t rfl rfl (lt_dec rfl) ?_
    refine Ops_p (p_move rfl) (lt_dec rfl) ?_
    refine Ops_guard_t rfl rfl (lt_dec rfl) ?_
    refine Ops_p (p_move rfl) (lt_dec rfl) ?_
    refine Ops_guard_t rfl rfl (lt_dec rfl) ?_
    refine Ops_p (p_sub rfl rfl (by exact ⟨(by first | omega | (dsimp only; omega)), (by first | omega | (dsimp only; omega))⟩)) (lt_dec rfl) ?_
    refine Ops_guard_t rfl rfl (lt_dec rfl) ?_
    refine Ops_q (q_call en_spec_l01In rfl (w_spec_l01In) (View.none _)) (lt_dec rfl) ?_
    refine Ops_guard_t rfl rfl (lt_dec rfl) ?_
    refine Ops_p (p_not rfl) (lt_dec rfl) ?_
    refine Ops_p (p_pick_f rfl rfl) (lt_dec rfl) ?_
    refine Ops_p (p_move rfl) (lt_dec rfl) ?_
    refine Ops_guard rfl rfl (lt_dec rfl) (fun hg12 => ?_) (fun hg12 => ?_)
    · try simp only [bs] at hg12
      refine Ops_p (p_move rfl) (lt_dec rfl) ?_
      refine Ops_guard_t rfl rfl (lt_dec rfl) ?_
      refine Ops_p (p_move rfl) (lt_dec rfl) ?_
      refine Ops_guard_t rfl rfl (lt_dec rfl) ?_
      refine Ops_p (p_sub rfl rfl (by exact ⟨(by first | omega | (dsimp only; omega)), (by first | omega | (dsimp only; omega))⟩)) (lt_dec rfl) ?_
      refine Ops_guard_t rfl rfl (lt_dec rfl) ?_
      refine Ops_q (q_call en_spec_l01In rfl (w_spec_l01In) (View.none _)) (lt_dec rfl) ?_
      refine Ops_guard_t rfl rfl (lt_dec rfl) ?_
      refine Ops_p (p_not rfl) (lt_dec rfl) ?_
      refine Ops_p (p_pick_f rfl rfl) (lt_dec rfl) ?_
      refine Ops_nil ?_
      refine W_cond rfl (fun h11 => ?_) (fun h11 => ?_)
      · try simp only [bs] at h11
        refine W_seq ?_
        have h0 : qin p a b = false := qin_f (by omega)
        refine W_region ?_
        refine Ops_p (p_build rfl rfl rfl rfl (by first | trivial | (first | omega | (dsimp only; omega)) | exact Fin.isLt _ | (dsimp only; omega))) (lt_dec rfl) ?_
        refine Ops_x rfl (x_store rfl rfl rfl rfl rfl HpRep.head rfl (by first | trivial | (first | (first | omega | (dsimp only; omega)) | exact Fin.isLt _)) ?_)
        refine Ops_p (p_assign rfl) (lt_dec rfl) ?_
        refine Ops_nil ?_
        refine W_ret ?_
        refine Exists.intro _ (And.intro (.cons (.cell rfl rfl m0 rfl trivial) (.cons (.tmp rfl) .nil)) ?_)
        first | rfl | (refine veq_bool ?_; simp_all; done) | (refine veq_bool ?_; simp; omega) | (refine veq_bool ?_; rw [eq_comm, decide_eq_false_iff_not]; omega) | (refine veq_bool ?_; rw [eq_comm, decide_eq_true_iff]; omega) | (refine veq_int ?_; omega) | (refine veq_arr8 fun j hj => ?_; (try dsimp only); first | (simp; done) | (simp; omega) | ((repeat' split) <;> first | rfl | (exfalso; omega) | (congr 1; omega) | (simp_all; done))) | (rw [h0]; rfl) | (rw [h0, h1]; rfl)
      · try simp only [bs] at h11
        refine W_skip ?_
        refine W_seq ?_
        have hp : qP p := (by unfold qP; omega)
        have ha : 0 ≤ a ∧ a ≤ p - 1 := (by first | assumption | omega)
        have hb : 0 ≤ b ∧ b ≤ p - 1 := (by first | assumption | omega)
        have hpb := qP_b hp
        have h0 : qin p a b = true := qin_t hp ha hb
        have hm1 := mulb (a := a) (b := b) hp (by omega) (by omega)
        have hm2 := mulb (a := a - 1) (b := b - 1) hp (by omega) (by omega)
        refine W_draw (by kernel_rfl) ?_
        show RA _ _ 14 _ _ _
        refine RA_quiet (g := 0) [0, 1, 2, 3, 4, 5, 6, 7, 8, 9, 10, 11, 12, 13] (by kernel_rfl) (by kernel_rfl) (by kernel_rfl) (by kernel_rfl) ?_
        refine WQ_cons rfl rfl rfl ((p_move rfl).q) (lt_dec rfl) ?_
        refine WQ_cons rfl rfl rfl ((p_move rfl).q) (lt_dec rfl) ?_
        refine WQ_cons rfl rfl rfl ((p_mul rfl rfl (by exact ⟨(by first | omega | (dsimp only; omega)), (by first | omega | (dsimp only; omega))⟩)).q) (lt_dec rfl) ?_
        refine WQ_cons rfl rfl rfl ((p_move rfl).q) (lt_dec rfl) ?_
        refine WQ_cons rfl rfl rfl ((p_rem_t rfl rfl (qP_ne hp)).q) (lt_dec rfl) ?_
        refine WQ_cons rfl rfl rfl ((p_move rfl).q) (lt_dec rfl) ?_
        refine WQ_cons rfl rfl rfl ((p_sub rfl rfl (by exact ⟨(by first | omega | (dsimp only; omega)), (by first | omega | (dsimp only; omega))⟩)).q) (lt_dec rfl) ?_
        refine WQ_cons rfl rfl rfl ((p_move rfl).q) (lt_dec rfl) ?_
        refine WQ_cons rfl rfl rfl ((p_sub rfl rfl (by exact ⟨(by first | omega | (dsimp only; omega)), (by first | omega | (dsimp only; omega))⟩)).q) (lt_dec rfl) ?_
        refine WQ_cons rfl rfl rfl ((p_mul rfl rfl (by exact ⟨(by first | omega | (dsimp only; omega)), (by first | omega | (dsimp only; omega))⟩)).q) (lt_dec rfl) ?_
        refine WQ_cons rfl rfl rfl ((p_move rfl).q) (lt_dec rfl) ?_
        refine WQ_cons rfl rfl rfl ((p_rem_t rfl rfl (qP_ne hp)).q) (lt_dec rfl) ?_
        refine WQ_cons rfl rfl rfl ((p_assign rfl).q) (lt_dec rfl) ?_
        refine WQ_cons rfl rfl rfl ((p_assign rfl).q) (lt_dec rfl) ?_
        refine WQ_nil ?_
        refine RA_done (by kernel_rfl) ?_
        refine W_seq ?_
        refine W_seq ?_
        have ht1 := tmod_in (a := a * b) hp
        have ht2 := tmod_in (a := (a - 1) * (b - 1)) hp
        refine W_region ?_
        refine Ops_p (p_move rfl) (lt_dec rfl) ?_
        refine Ops_p (p_eql rfl rfl) (lt_dec rfl) ?_
        refine Ops_p (p_move rfl) (lt_dec rfl) ?_
        refine Ops_guard rfl rfl (lt_dec rfl) (fun hg13 => ?_) (fun hg13 => ?_)
        · try simp only [bs] at hg13
          refine Ops_p (p_move rfl) (lt_dec rfl) ?_
          refine Ops_guard_t rfl rfl (lt_dec rfl) ?_
          refine Ops_p (p_eql rfl rfl) (lt_dec rfl) ?_
          refine Ops_p (p_pick_f rfl rfl) (lt_dec rfl) ?_
          refine Ops_p (p_move rfl) (lt_dec rfl) ?_
          refine Ops_guard rfl rfl (lt_dec rfl) (fun hg14 => ?_) (fun hg14 => ?_)
          · try simp only [bs] at hg14
            refine Ops_p (p_move rfl) (lt_dec rfl) ?_
            refine Ops_guard_t rfl rfl (lt_dec rfl) ?_
            refine Ops_p (p_move rfl) (lt_dec rfl) ?_
            refine Ops_guard_t rfl rfl (lt_dec rfl) ?_
            refine Ops_q (q_call en_spec_l08Residue rfl (w_spec_l08Residue hp (by omega)) (View.none _)) (lt_dec rfl) ?_
            refine Ops_guard_t rfl rfl (lt_dec rfl) ?_
            refine Ops_p (p_not rfl) (lt_dec rfl) ?_
            refine Ops_p (p_pick_f rfl rfl) (lt_dec rfl) ?_
            refine Ops_p (p_move rfl) (lt_dec rfl) ?_
            refine Ops_guard rfl rfl (lt_dec rfl) (fun hg15 => ?_) (fun hg15 => ?_)
            · try simp only [bs] at hg15
              refine Ops_p (p_move rfl) (lt_dec rfl) ?_
              refine Ops_guard_t rfl rfl (lt_dec rfl) ?_
              refine Ops_p (p_move rfl) (lt_dec rfl) ?_
              refine Ops_guard_t rfl rfl (lt_dec rfl) ?_
              refine Ops_q (q_call en_spec_l08Residue rfl (w_spec_l08Residue hp (by omega)) (View.none _)) (lt_dec rfl) ?_
              refine Ops_guard_t rfl rfl (lt_dec rfl) ?_
              refine Ops_p (p_not rfl) (lt_dec rfl) ?_
              refine Ops_p (p_pick_f rfl rfl) (lt_dec rfl) ?_
              refine Ops_nil ?_
              refine W_cond rfl (fun h12 => ?_) (fun h12 => ?_)
              · try simp only [bs] at h12
                refine W_seq ?_
                have h1 : qok p a b = false := (by rw [qok_eq hp ha hb]; simp_all)
                refine W_region ?_
                refine Ops_p (p_build rfl rfl rfl rfl (by first | trivial | (first | omega | (dsimp only; omega)) | exact Fin.isLt _ | (dsimp only; omega))) (lt_dec rfl) ?_
                refine Ops_x rfl (x_store rfl rfl rfl rfl rfl HpRep.head rfl (by first | trivial | (first | (first | omega | (dsimp only; omega)) | exact Fin.isLt _)) ?_)
                refine Ops_p (p_assign rfl) (lt_dec rfl) ?_
                refine Ops_nil ?_
                refine W_ret ?_
                refine Exists.intro _ (And.intro (.cons (.cell rfl rfl m0 rfl trivial) (.cons (.tmp rfl) .nil)) ?_)
                first | rfl | (refine veq_bool ?_; simp_all; done) | (refine veq_bool ?_; simp; omega) | (refine veq_bool ?_; rw [eq_comm, decide_eq_false_iff_not]; omega) | (refine veq_bool ?_; rw [eq_comm, decide_eq_true_iff]; omega) | (refine veq_int ?_; omega) | (refine veq_arr8 fun j hj => ?_; (try dsimp only); first | (simp; done) | (simp; omega) | ((repeat' split) <;> first | rfl | (exfalso; omega) | (congr 1; omega) | (simp_all; done))) | (rw [h0]; rfl) | (rw [h0, h1]; rfl)
              · try simp only [bs] at h12
                refine W_skip ?_
                refine W_seq ?_
                have h1 : qok p a b = true := (by rw [qok_eq hp ha hb]; simp_all)
                refine W_region ?_
                refine Ops_p (p_move rfl) (lt_dec rfl) ?_
                refine Ops_p (p_build rfl rfl rfl rfl (by first | trivial | (first | omega | (dsimp only; omega)) | exact Fin.isLt _ | (dsimp only; omega))) (lt_dec rfl) ?_
                refine Ops_x rfl (x_alloc rfl (lt_dec rfl) fun b10_3 => ?_)
                refine Ops_x rfl (x_store rfl rfl rfl rfl rfl HpRep.head rfl (by first | trivial | (first | (first | omega | (dsimp only; omega)) | exact Fin.isLt _)) ?_)
                refine Ops_nil ?_
                refine W_seq ?_
                refine W_seq ?_
                refine W_region ?_
                refine Ops_p (p_assign rfl) (lt_dec rfl) ?_
                refine Ops_nil ?_
                refine W_block ?_
                refine W_loop (α := Nat) (fun x => ⟨[(0, .int .i64 p), (1, .int .i64 a), (2, .int .i64 b), (6, .ptr b6_1 0 none), (7, .int .i64 0), (8, .int .i64 (Int.tmod (a * b) p)), (9, .int .i64 (Int.tmod ((a - 1) * (b - 1)) p)), (10, .ptr b10_3 0 none), (11, .int .i64 (x : Int)), (15, .int .i64 p), (26, .int .i64 a), (27, .int .i64 p), (28, .int .i64 (p - 1)), (33, .int .i64 b), (34, .int .i64 p), (35, .int .i64 (p - 1)), (40, .int .i64 a), (41, .int .i64 b), (42, .int .i64 (a * b)), (43, .int .i64 p), (44, .int .i64 (Int.tmod (a * b) p)), (45, .int .i64 a), (46, .int .i64 (a - 1)), (47, .int .i64 b), (48, .int .i64 (b - 1)), (49, .int .i64 ((a - 1) * (b - 1))), (50, .int .i64 p), (51, .int .i64 (Int.tmod ((a - 1) * (b - 1)) p)), (52, .int .i64 (Int.tmod (a * b) p)), (55, .int .i64 (Int.tmod ((a - 1) * (b - 1)) p)), (59, .int .i64 p), (60, .int .i64 (Int.tmod (a * b) p)), (61, .bool (qr (Int.tmod (a * b) p) p)), (65, .int .i64 p), (66, .int .i64 (Int.tmod ((a - 1) * (b - 1)) p)), (67, .bool (qr (Int.tmod ((a - 1) * (b - 1)) p) p)), (71, .int .i64 p), (72, .agg [.int .i64 p, .arr8 100 (fun _ => 0)])], [.var b10_3 (.agg [.int .i64 p, .arr8 100 (part p.toNat (qg p a b) x 0)]), .var b6_1 (.agg [.int .i64 0, .arr8 100 fun _ => 0])]⟩) (fun x => x ≤ p.toNat) (fun x => p.toNat - x) 0 ?_ ?_ ?_
                · show _ ≤ _; omega
                · exact Wk.intro (.cons rfl (by first | rfl | exact veq_int (by first | omega | (dsimp only; omega))) (.cons rfl (by first | rfl | exact veq_int (by first | omega | (dsimp only; omega))) (.cons rfl (by first | rfl | exact veq_int (by first | omega | (dsimp only; omega))) (.cons rfl (by first | rfl | exact veq_int (by first | omega | (dsimp only; omega))) (.cons rfl (by first | rfl | exact veq_int (by first | omega | (dsimp only; omega))) (.cons rfl (by first | rfl | exact veq_int (by first | omega | (dsimp only; omega))) (.cons rfl (by first | rfl | exact veq_int (by first | omega | (dsimp only; omega))) (.cons rfl (by first | rfl | exact veq_int (by first | omega | (dsimp only; omega))) (.cons rfl (by first | rfl | exact veq_int (by first | omega | (dsimp only; omega))) (.cons rfl (by first | rfl | exact veq_int (by first | omega | (dsimp only; omega))) (.cons rfl (by first | rfl | exact veq_int (by first | omega | (dsimp only; omega))) (.cons rfl (by first | rfl | exact veq_int (by first | omega | (dsimp only; omega))) (.cons rfl (by first | rfl | exact veq_int (by first | omega | (dsimp only; omega))) (.cons rfl (by first | rfl | exact veq_int (by first | omega | (dsimp only; omega))) (.cons rfl (by first | rfl | exact veq_int (by first | omega | (dsimp only; omega))) (.cons rfl (by first | rfl | exact veq_int (by first | omega | (dsimp only; omega))) (.cons rfl (by first | rfl | exact veq_int (by first | omega | (dsimp only; omega))) (.cons rfl (by first | rfl | exact veq_int (by first | omega | (dsimp only; omega))) (.cons rfl (by first | rfl | exact veq_int (by first | omega | (dsimp only; omega))) (.cons rfl (by first | rfl | exact veq_int (by first | omega | (dsimp only; omega))) (.cons rfl (by first | rfl | exact veq_int (by first | omega | (dsimp only; omega))) (.cons rfl (by first | rfl | exact veq_int (by first | omega | (dsimp only; omega))) (.cons rfl (by first | rfl | exact veq_int (by first | omega | (dsimp only; omega))) (.cons rfl (by first | rfl | exact veq_int (by first | omega | (dsimp only; omega))) (.cons rfl (by first | rfl | exact veq_int (by first | omega | (dsimp only; omega))) (.cons rfl (by first | rfl | exact veq_int (by first | omega | (dsimp only; omega))) (.cons rfl (by first | rfl | exact veq_int (by first | omega | (dsimp only; omega))) (.cons rfl (by first | rfl | exact veq_int (by first | omega | (dsimp only; omega))) (.cons rfl (by first | rfl | exact veq_int (by first | omega | (dsimp only; omega))) (.cons rfl (by first | rfl | exact veq_int (by first | omega | (dsimp only; omega))) (.cons rfl (by first | rfl | exact veq_int (by first | omega | (dsimp only; omega))) (.cons rfl (by first | rfl | exact veq_int (by first | omega | (dsimp only; omega))) (.cons rfl (by first | rfl | exact veq_int (by first | omega | (dsimp only; omega))) (.cons rfl (by first | rfl | exact veq_int (by first | omega | (dsimp only; omega))) (.cons rfl (by first | rfl | exact veq_int (by first | omega | (dsimp only; omega))) (.cons rfl (by first | rfl | exact veq_int (by first | omega | (dsimp only; omega))) (.cons rfl (by first | rfl | exact veq_int (by first | omega | (dsimp only; omega))) (.cons rfl (by first | rfl | exact veq_int (by first | omega | (dsimp only; omega))) .nil)))))))))))))))))))))))))))))))))))))) (.keep rfl rfl (imp_var (by exact ceq_cons rfl (ceq_cons (ceq_arr8 fun k _ => (part_zero k).symm) rfl)) rfl) (.keep rfl rfl (fun _ h => h) .nil))
                · rintro x hR
                  refine W_seq ?_
                  refine W_seq ?_
                  refine W_region ?_
                  refine Ops_p (p_move rfl) (lt_dec rfl) ?_
                  refine Ops_p (p_move rfl) (lt_dec rfl) ?_
                  refine Ops_p (p_lss rfl rfl) (lt_dec rfl) ?_
                  refine Ops_nil ?_
                  refine W_cond rfl (fun h13 => ?_) (fun h13 => ?_)
                  · try simp only [bs] at h13
                    refine W_skip ?_
                    refine W_seq ?_
                    refine W_block ?_
                    refine W_seq ?_
                    refine W_region ?_
                    refine Ops_p (p_assign rfl) (lt_dec rfl) ?_
                    refine Ops_nil ?_
                    refine W_block ?_
                    refine W_loop (α := Nat) (fun y => ⟨[(0, .int .i64 p), (1, .int .i64 a), (2, .int .i64 b), (6, .ptr b6_1 0 none), (7, .int .i64 0), (8, .int .i64 (Int.tmod (a * b) p)), (9, .int .i64 (Int.tmod ((a - 1) * (b - 1)) p)), (10, .ptr b10_3 0 none), (11, .int .i64 (x : Int)), (12, .int .i64 (y : Int)), (15, .int .i64 p), (26, .int .i64 a), (27, .int .i64 p), (28, .int .i64 (p - 1)), (33, .int .i64 b), (34, .int .i64 p), (35, .int .i64 (p - 1)), (40, .int .i64 a), (41, .int .i64 b), (42, .int .i64 (a * b)), (43, .int .i64 p), (44, .int .i64 (Int.tmod (a * b) p)), (45, .int .i64 a), (46, .int .i64 (a - 1)), (47, .int .i64 b), (48, .int .i64 (b - 1)), (49, .int .i64 ((a - 1) * (b - 1))), (50, .int .i64 p), (51, .int .i64 (Int.tmod ((a - 1) * (b - 1)) p)), (52, .int .i64 (Int.tmod (a * b) p)), (55, .int .i64 (Int.tmod ((a - 1) * (b - 1)) p)), (59, .int .i64 p), (60, .int .i64 (Int.tmod (a * b) p)), (61, .bool (qr (Int.tmod (a * b) p) p)), (65, .int .i64 p), (66, .int .i64 (Int.tmod ((a - 1) * (b - 1)) p)), (67, .bool (qr (Int.tmod ((a - 1) * (b - 1)) p) p)), (71, .int .i64 p), (72, .agg [.int .i64 p, .arr8 100 (fun _ => 0)]), (73, .int .i64 (x : Int)), (74, .int .i64 p)], [.var b10_3 (.agg [.int .i64 p, .arr8 100 (part p.toNat (qg p a b) x y)]), .var b6_1 (.agg [.int .i64 0, .arr8 100 fun _ => 0])]⟩) (fun y => y ≤ p.toNat) (fun y => p.toNat - y) 0 ?_ ?_ ?_
                    · show _ ≤ _; omega
                    · exact Wk.intro (.cons rfl (by first | rfl | exact veq_int (by first | omega | (dsimp only; omega))) (.cons rfl (by first | rfl | exact veq_int (by first | omega | (dsimp only; omega))) (.cons rfl (by first | rfl | exact veq_int (by first | omega | (dsimp only; omega))) (.cons rfl (by first | rfl | exact veq_int (by first | omega | (dsimp only; omega))) (.cons rfl (by first | rfl | exact veq_int (by first | omega | (dsimp only; omega))) (.cons rfl (by first | rfl | exact veq_int (by first | omega | (dsimp only; omega))) (.cons rfl (by first | rfl | exact veq_int (by first | omega | (dsimp only; omega))) (.cons rfl (by first | rfl | exact veq_int (by first | omega | (dsimp only; omega))) (.cons rfl (by first | rfl | exact veq_int (by first | omega | (dsimp only; omega))) (.cons rfl (by first | rfl | exact veq_int (by first | omega | (dsimp only; omega))) (.cons rfl (by first | rfl | exact veq_int (by first | omega | (dsimp only; omega))) (.cons rfl (by first | rfl | exact veq_int (by first | omega | (dsimp only; omega))) (.cons rfl (by first | rfl | exact veq_int (by first | omega | (dsimp only; omega))) (.cons rfl (by first | rfl | exact veq_int (by first | omega | (dsimp only; omega))) (.cons rfl (by first | rfl | exact veq_int (by first | omega | (dsimp only; omega))) (.cons rfl (by first | rfl | exact veq_int (by first | omega | (dsimp only; omega))) (.cons rfl (by first | rfl | exact veq_int (by first | omega | (dsimp only; omega))) (.cons rfl (by first | rfl | exact veq_int (by first | omega | (dsimp only; omega))) (.cons rfl (by first | rfl | exact veq_int (by first | omega | (dsimp only; omega))) (.cons rfl (by first | rfl | exact veq_int (by first | omega | (dsimp only; omega))) (.cons rfl (by first | rfl | exact veq_int (by first | omega | (dsimp only; omega))) (.cons rfl (by first | rfl | exact veq_int (by first | omega | (dsimp only; omega))) (.cons rfl (by first | rfl | exact veq_int (by first | omega | (dsimp only; omega))) (.cons rfl (by first | rfl | exact veq_int (by first | omega | (dsimp only; omega))) (.cons rfl (by first | rfl | exact veq_int (by first | omega | (dsimp only; omega))) (.cons rfl (by first | rfl | exact veq_int (by first | omega | (dsimp only; omega))) (.cons rfl (by first | rfl | exact veq_int (by first | omega | (dsimp only; omega))) (.cons rfl (by first | rfl | exact veq_int (by first | omega | (dsimp only; omega))) (.cons rfl (by first | rfl | exact veq_int (by first | omega | (dsimp only; omega))) (.cons rfl (by first | rfl | exact veq_int (by first | omega | (dsimp only; omega))) (.cons rfl (by first | rfl | exact veq_int (by first | omega | (dsimp only; omega))) (.cons rfl (by first | rfl | exact veq_int (by first | omega | (dsimp only; omega))) (.cons rfl (by first | rfl | exact veq_int (by first | omega | (dsimp only; omega))) (.cons rfl (by first | rfl | exact veq_int (by first | omega | (dsimp only; omega))) (.cons rfl (by first | rfl | exact veq_int (by first | omega | (dsimp only; omega))) (.cons rfl (by first | rfl | exact veq_int (by first | omega | (dsimp only; omega))) (.cons rfl (by first | rfl | exact veq_int (by first | omega | (dsimp only; omega))) (.cons rfl (by first | rfl | exact veq_int (by first | omega | (dsimp only; omega))) (.cons rfl (by first | rfl | exact veq_int (by first | omega | (dsimp only; omega))) (.cons rfl (by first | rfl | exact veq_int (by first | omega | (dsimp only; omega))) (.cons rfl (by first | rfl | exact veq_int (by first | omega | (dsimp only; omega))) .nil))))))))))))))))))))))))))))))))))))))))) (.keep rfl rfl (imp_var (by rfl) rfl) (.keep rfl rfl (fun _ h => h) .nil))
                    · rintro y hR
                      refine W_seq ?_
                      refine W_seq ?_
                      refine W_region ?_
                      refine Ops_p (p_move rfl) (lt_dec rfl) ?_
                      refine Ops_p (p_move rfl) (lt_dec rfl) ?_
                      refine Ops_p (p_lss rfl rfl) (lt_dec rfl) ?_
                      refine Ops_nil ?_
                      refine W_cond rfl (fun h14 => ?_) (fun h14 => ?_)
                      · try simp only [bs] at h14
                        refine W_skip ?_
                        refine W_seq ?_
                        refine W_block ?_
                        refine W_seq ?_
                        refine W_draw (by kernel_rfl) ?_
                        show RA _ _ 10 _ _ _
                        refine RA_quiet (g := 0) [0, 1, 2, 3, 4, 5, 6, 7, 8, 9] (by kernel_rfl) (by kernel_rfl) (by kernel_rfl) (by kernel_rfl) ?_
                        refine WQ_cons rfl rfl rfl ((p_move rfl).q) (lt_dec rfl) ?_
                        refine WQ_cons rfl rfl rfl ((p_move rfl).q) (lt_dec rfl) ?_
                        refine WQ_cons rfl rfl rfl ((p_move rfl).q) (lt_dec rfl) ?_
                        refine WQ_cons rfl rfl rfl ((p_sub rfl rfl (by exact ⟨(by first | omega | (dsimp only; omega)), (by first | omega | (dsimp only; omega))⟩)).q) (lt_dec rfl) ?_
                        refine WQ_cons rfl rfl rfl ((p_move rfl).q) (lt_dec rfl) ?_
                        refine WQ_cons rfl rfl rfl ((p_add rfl rfl (by exact ⟨(by first | omega | (dsimp only; omega)), (by first | omega | (dsimp only; omega))⟩)).q) (lt_dec rfl) ?_
                        refine WQ_cons rfl rfl rfl ((p_move rfl).q) (lt_dec rfl) ?_
                        refine WQ_cons rfl rfl rfl ((p_rem_t rfl rfl (qP_ne hp)).q) (lt_dec rfl) ?_
                        refine WQ_cons rfl rfl rfl ((p_assign rfl).q) (lt_dec rfl) ?_
                        refine WQ_cons rfl rfl rfl ((p_assign rfl).q) (lt_dec rfl) ?_
                        refine WQ_nil ?_
                        refine RA_done (by kernel_rfl) ?_
                        refine W_seq ?_
                        refine W_seq ?_
                        have hst := tmod_nn (a := (y : Int) - (x : Int) + p) (by omega) hp
                        refine W_region ?_
                        refine Ops_p (p_move rfl) (lt_dec rfl) ?_
                        refine Ops_p (p_move rfl) (lt_dec rfl) ?_
                        refine Ops_q (q_call en_spec_l08Residue rfl (w_spec_l08Residue hp (by omega)) (View.none _)) (lt_dec rfl) ?_
                        refine Ops_p (p_not rfl) (lt_dec rfl) ?_
                        refine Ops_nil ?_
                        refine W_cond rfl (fun h15 => ?_) (fun h15 => ?_)
                        · try simp only [bs] at h15
                          have hqr := h15
                          refine W_region ?_
                          refine Ops_p (p_move rfl) (lt_dec rfl) ?_
                          refine Ops_p (p_assign rfl) (lt_dec rfl) ?_
                          refine Ops_nil ?_
                          have hta := tmod_nn (a := (x : Int) + a * Int.tmod ((y : Int) - (x : Int) + p) p) (p := p) (Int.add_nonneg (Int.natCast_nonneg x) (Int.mul_nonneg ha.1 hst.1)) hp
                          have htb := tmod_nn (a := (x : Int) + b * Int.tmod ((y : Int) - (x : Int) + p) p) (p := p) (Int.add_nonneg (Int.natCast_nonneg x) (Int.mul_nonneg hb.1 hst.1)) hp
                          refine W_draw (by kernel_rfl) ?_
                          show RA _ _ 14 _ _ _
                          refine RA_quiet (g := 1) [0, 1, 2, 3, 4, 5, 6, 7, 8, 9, 10, 11, 12] (by kernel_rfl) (by kernel_rfl) (by kernel_rfl) (by kernel_rfl) ?_
                          refine WQ_cons rfl rfl rfl ((p_move rfl).q) (lt_dec rfl) ?_
                          refine WQ_cons rfl rfl rfl ((p_move rfl).q) (lt_dec rfl) ?_
                          refine WQ_cons rfl rfl rfl ((p_move rfl).q) (lt_dec rfl) ?_
                          refine WQ_cons rfl rfl rfl ((p_move rfl).q) (lt_dec rfl) ?_
                          refine WQ_cons rfl rfl rfl ((p_move rfl).q) (lt_dec rfl) ?_
                          refine WQ_cons rfl rfl rfl ((p_mul rfl rfl (by exact ⟨by first | (have h9 := mulb (a := a) (b := Int.tmod ((y : Int) - (x : Int) + p) p) hp (by omega) (by omega); omega) | (have h9 := mulb (a := b) (b := Int.tmod ((y : Int) - (x : Int) + p) p) hp (by omega) (by omega); omega), by first | (have h9 := mulb (a := a) (b := Int.tmod ((y : Int) - (x : Int) + p) p) hp (by omega) (by omega); omega) | (have h9 := mulb (a := b) (b := Int.tmod ((y : Int) - (x : Int) + p) p) hp (by omega) (by omega); omega)⟩)).q) (lt_dec rfl) ?_
                          refine WQ_cons rfl rfl rfl ((p_add rfl rfl (by exact ⟨by first | (have h9 := mulb (a := a) (b := Int.tmod ((y : Int) - (x : Int) + p) p) hp (by omega) (by omega); omega) | (have h9 := mulb (a := b) (b := Int.tmod ((y : Int) - (x : Int) + p) p) hp (by omega) (by omega); omega), by first | (have h9 := mulb (a := a) (b := Int.tmod ((y : Int) - (x : Int) + p) p) hp (by omega) (by omega); omega) | (have h9 := mulb (a := b) (b := Int.tmod ((y : Int) - (x : Int) + p) p) hp (by omega) (by omega); omega)⟩)).q) (lt_dec rfl) ?_
                          refine WQ_cons rfl rfl rfl ((p_move rfl).q) (lt_dec rfl) ?_
                          refine WQ_cons rfl rfl rfl ((p_rem_t rfl rfl (qP_ne hp)).q) (lt_dec rfl) ?_
                          refine WQ_cons rfl rfl rfl ((p_conv rfl rfl rfl (by exact ⟨by omega, by omega⟩)).q) (lt_dec rfl) ?_
                          refine WQ_cons rfl rfl rfl ((p_fieldAddr rfl rfl rfl rfl rfl rfl).q) (lt_dec rfl) ?_
                          refine WQ_cons rfl rfl rfl ((p_ixN 10 _ rfl rfl rfl rfl rfl rfl (by first | (first | omega | (dsimp only; omega)) | exact Fin.isLt _)).q) (lt_dec rfl) ?_
                          first | refine WQ_cons rfl rfl rfl ((p_ix1 _ rfl rfl rfl rfl rfl rfl (by first | (first | omega | (dsimp only; omega)) | exact Fin.isLt _)).q) (lt_dec rfl) ?_ | refine WQ_cons rfl rfl rfl ((p_ix1s _ rfl rfl rfl rfl rfl rfl (by first | (first | omega | (dsimp only; omega)) | exact Fin.isLt _)).q) (lt_dec rfl) ?_
                          refine WQ_nil ?_
                          refine RA_one 13 rfl rfl (by kernel_rfl) (x_store rfl rfl rfl rfl rfl HpRep.head rfl (by first | trivial | (exact ⟨by omega, by omega, by omega⟩)) ?_)
                          refine RA_done (by kernel_rfl) ?_
                          refine W_region ?_
                          refine Ops_p (p_move rfl) (lt_dec rfl) ?_
                          refine Ops_p (p_add rfl rfl (by exact ⟨(by first | omega | (dsimp only; omega)), (by first | omega | (dsimp only; omega))⟩)) (lt_dec rfl) ?_
                          refine Ops_p (p_assign rfl) (lt_dec rfl) ?_
                          refine Ops_nil ?_
                          refine Exists.intro (y + 1) (And.intro ?_ (And.intro ?_ ?_))
                          · show _ ≤ _; omega
                          · show _ < _; omega
                          · exact Wk.intro (.cons rfl (by first | rfl | exact veq_int (by first | omega | (dsimp only; omega))) (.cons rfl (by first | rfl | exact veq_int (by first | omega | (dsimp only; omega))) (.cons rfl (by first | rfl | exact veq_int (by first | omega | (dsimp only; omega))) (.cons rfl (by first | rfl | exact veq_int (by first | omega | (dsimp only; omega))) (.cons rfl (by first | rfl | exact veq_int (by first | omega | (dsimp only; omega))) (.cons rfl (by first | rfl | exact veq_int (by first | omega | (dsimp only; omega))) (.cons rfl (by first | rfl | exact veq_int (by first | omega | (dsimp only; omega))) (.cons rfl (by first | rfl | exact veq_int (by first | omega | (dsimp only; omega))) (.cons rfl (by first | rfl | exact veq_int (by first | omega | (dsimp only; omega))) (.cons rfl (by first | rfl | exact veq_int (by first | omega | (dsimp only; omega))) (.cons rfl (by first | rfl | exact veq_int (by first | omega | (dsimp only; omega))) (.cons rfl (by first | rfl | exact veq_int (by first | omega | (dsimp only; omega))) (.cons rfl (by first | rfl | exact veq_int (by first | omega | (dsimp only; omega))) (.cons rfl (by first | rfl | exact veq_int (by first | omega | (dsimp only; omega))) (.cons rfl (by first | rfl | exact veq_int (by first | omega | (dsimp only; omega))) (.cons rfl (by first | rfl | exact veq_int (by first | omega | (dsimp only; omega))) (.cons rfl (by first | rfl | exact veq_int (by first | omega | (dsimp only; omega))) (.cons rfl (by first | rfl | exact veq_int (by first | omega | (dsimp only; omega))) (.cons rfl (by first | rfl | exact veq_int (by first | omega | (dsimp only; omega))) (.cons rfl (by first | rfl | exact veq_int (by first | omega | (dsimp only; omega))) (.cons rfl (by first | rfl | exact veq_int (by first | omega | (dsimp only; omega))) (.cons rfl (by first | rfl | exact veq_int (by first | omega | (dsimp only; omega))) (.cons rfl (by first | rfl | exact veq_int (by first | omega | (dsimp only; omega))) (.cons rfl (by first | rfl | exact veq_int (by first | omega | (dsimp only; omega))) (.cons rfl (by first | rfl | exact veq_int (by first | omega | (dsimp only; omega))) (.cons rfl (by first | rfl | exact veq_int (by first | omega | (dsimp only; omega))) (.cons rfl (by first | rfl | exact veq_int (by first | omega | (dsimp only; omega))) (.cons rfl (by first | rfl | exact veq_int (by first | omega | (dsimp only; omega))) (.cons rfl (by first | rfl | exact veq_int (by first | omega | (dsimp only; omega))) (.cons rfl (by first | rfl | exact veq_int (by first | omega | (dsimp only; omega))) (.cons rfl (by first | rfl | exact veq_int (by first | omega | (dsimp only; omega))) (.cons rfl (by first | rfl | exact veq_int (by first | omega | (dsimp only; omega))) (.cons rfl (by first | rfl | exact veq_int (by first | omega | (dsimp only; omega))) (.cons rfl (by first | rfl | exact veq_int (by first | omega | (dsimp only; omega))) (.cons rfl (by first | rfl | exact veq_int (by first | omega | (dsimp only; omega))) (.cons rfl (by first | rfl | exact veq_int (by first | omega | (dsimp only; omega))) (.cons rfl (by first | rfl | exact veq_int (by first | omega | (dsimp only; omega))) (.cons rfl (by first | rfl | exact veq_int (by first | omega | (dsimp only; omega))) (.cons rfl (by first | rfl | exact veq_int (by first | omega | (dsimp only; omega))) (.cons rfl (by first | rfl | exact veq_int (by first | omega | (dsimp only; omega))) (.cons rfl (by first | rfl | exact veq_int (by first | omega | (dsimp only; omega))) .nil))))))))))))))))))))))))))))))))))))))))) (.keep rfl rfl (imp_var (by exact ceq_cons rfl (ceq_cons (ceq_arr8 fun k _ => part_stepV (by unfold qg; rw [hqr]; rfl) (by omega) k) rfl)) rfl) (.keep rfl rfl (fun _ h => h) .nil))
                        · try simp only [bs] at h15
                          have hqr := h15
                          refine W_skip ?_
                          have hta := tmod_nn (a := (x : Int) + a * Int.tmod ((y : Int) - (x : Int) + p) p) (p := p) (Int.add_nonneg (Int.natCast_nonneg x) (Int.mul_nonneg ha.1 hst.1)) hp
                          have htb := tmod_nn (a := (x : Int) + b * Int.tmod ((y : Int) - (x : Int) + p) p) (p := p) (Int.add_nonneg (Int.natCast_nonneg x) (Int.mul_nonneg hb.1 hst.1)) hp
                          refine W_draw (by kernel_rfl) ?_
                          show RA _ _ 14 _ _ _
                          refine RA_quiet (g := 1) [0, 1, 2, 3, 4, 5, 6, 7, 8, 9, 10, 11, 12] (by kernel_rfl) (by kernel_rfl) (by kernel_rfl) (by kernel_rfl) ?_
                          refine WQ_cons rfl rfl rfl ((p_move rfl).q) (lt_dec rfl) ?_
                          refine WQ_cons rfl rfl rfl ((p_move rfl).q) (lt_dec rfl) ?_
                          refine WQ_cons rfl rfl rfl ((p_move rfl).q) (lt_dec rfl) ?_
                          refine WQ_cons rfl rfl rfl ((p_move rfl).q) (lt_dec rfl) ?_
                          refine WQ_cons rfl rfl rfl ((p_move rfl).q) (lt_dec rfl) ?_
                          refine WQ_cons rfl rfl rfl ((p_mul rfl rfl (by exact ⟨by first | (have h9 := mulb (a := a) (b := Int.tmod ((y : Int) - (x : Int) + p) p) hp (by omega) (by omega); omega) | (have h9 := mulb (a := b) (b := Int.tmod ((y : Int) - (x : Int) + p) p) hp (by omega) (by omega); omega), by first | (have h9 := mulb (a := a) (b := Int.tmod ((y : Int) - (x : Int) + p) p) hp (by omega) (by omega); omega) | (have h9 := mulb (a := b) (b := Int.tmod ((y : Int) - (x : Int) + p) p) hp (by omega) (by omega); omega)⟩)).q) (lt_dec rfl) ?_
                          refine WQ_cons rfl rfl rfl ((p_add rfl rfl (by exact ⟨by first | (have h9 := mulb (a := a) (b := Int.tmod ((y : Int) - (x : Int) + p) p) hp (by omega) (by omega); omega) | (have h9 := mulb (a := b) (b := Int.tmod ((y : Int) - (x : Int) + p) p) hp (by omega) (by omega); omega), by first | (have h9 := mulb (a := a) (b := Int.tmod ((y : Int) - (x : Int) + p) p) hp (by omega) (by omega); omega) | (have h9 := mulb (a := b) (b := Int.tmod ((y : Int) - (x : Int) + p) p) hp (by omega) (by omega); omega)⟩)).q) (lt_dec rfl) ?_
                          refine WQ_cons rfl rfl rfl ((p_move rfl).q) (lt_dec rfl) ?_
                          refine WQ_cons rfl rfl rfl ((p_rem_t rfl rfl (qP_ne hp)).q) (lt_dec rfl) ?_
                          refine WQ_cons rfl rfl rfl ((p_conv rfl rfl rfl (by exact ⟨by omega, by omega⟩)).q) (lt_dec rfl) ?_
                          refine WQ_cons rfl rfl rfl ((p_fieldAddr rfl rfl rfl rfl rfl rfl).q) (lt_dec rfl) ?_
                          refine WQ_cons rfl rfl rfl ((p_ixN 10 _ rfl rfl rfl rfl rfl rfl (by first | (first | omega | (dsimp only; omega)) | exact Fin.isLt _)).q) (lt_dec rfl) ?_
                          first | refine WQ_cons rfl rfl rfl ((p_ix1 _ rfl rfl rfl rfl rfl rfl (by first | (first | omega | (dsimp only; omega)) | exact Fin.isLt _)).q) (lt_dec rfl) ?_ | refine WQ_cons rfl rfl rfl ((p_ix1s _ rfl rfl rfl rfl rfl rfl (by first | (first | omega | (dsimp only; omega)) | exact Fin.isLt _)).q) (lt_dec rfl) ?_
                          refine WQ_nil ?_
                          refine RA_one 13 rfl rfl (by kernel_rfl) (x_store rfl rfl rfl rfl rfl HpRep.head rfl (by first | trivial | (exact ⟨by omega, by omega, by omega⟩)) ?_)
                          refine RA_done (by kernel_rfl) ?_
                          refine W_region ?_
                          refine Ops_p (p_move rfl) (lt_dec rfl) ?_
                          refine Ops_p (p_add rfl rfl (by exact ⟨(by first | omega | (dsimp only; omega)), (by first | omega | (dsimp only; omega))⟩)) (lt_dec rfl) ?_
                          refine Ops_p (p_assign rfl) (lt_dec rfl) ?_
                          refine Ops_nil ?_
                          refine Exists.intro (y + 1) (And.intro ?_ (And.intro ?_ ?_))
                          · show _ ≤ _; omega
                          · show _ < _; omega
                          · exact Wk.intro (.cons rfl (by first | rfl | exact veq_int (by first | omega | (dsimp only; omega))) (.cons rfl (by first | rfl | exact veq_int (by first | omega | (dsimp only; omega))) (.cons rfl (by first | rfl | exact veq_int (by first | omega | (dsimp only; omega))) (.cons rfl (by first | rfl | exact veq_int (by first | omega | (dsimp only; omega))) (.cons rfl (by first | rfl | exact veq_int (by first | omega | (dsimp only; omega))) (.cons rfl (by first | rfl | exact veq_int (by first | omega | (dsimp only; omega))) (.cons rfl (by first | rfl | exact veq_int (by first | omega | (dsimp only; omega))) (.cons rfl (by first | rfl | exact veq_int (by first | omega | (dsimp only; omega))) (.cons rfl (by first | rfl | exact veq_int (by first | omega | (dsimp only; omega))) (.cons rfl (by first | rfl | exact veq_int (by first | omega | (dsimp only; omega))) (.cons rfl (by first | rfl | exact veq_int (by first | omega | (dsimp only; omega))) (.cons rfl (by first | rfl | exact veq_int (by first | omega | (dsimp only; omega))) (.cons rfl (by first | rfl | exact veq_int (by first | omega | (dsimp only; omega))) (.cons rfl (by first | rfl | exact veq_int (by first | omega | (dsimp only; omega))) (.cons rfl (by first | rfl | exact veq_int (by first | omega | (dsimp only; omega))) (.cons rfl (by first | rfl | exact veq_int (by first | omega | (dsimp only; omega))) (.cons rfl (by first | rfl | exact veq_int (by first | omega | (dsimp only; omega))) (.cons rfl (by first | rfl | exact veq_int (by first | omega | (dsimp only; omega))) (.cons rfl (by first | rfl | exact veq_int (by first | omega | (dsimp only; omega))) (.cons rfl (by first | rfl | exact veq_int (by first | omega | (dsimp only; omega))) (.cons rfl (by first | rfl | exact veq_int (by first | omega | (dsimp only; omega))) (.cons rfl (by first | rfl | exact veq_int (by first | omega | (dsimp only; omega))) (.cons rfl (by first | rfl | exact veq_int (by first | omega | (dsimp only; omega))) (.cons rfl (by first | rfl | exact veq_int (by first | omega | (dsimp only; omega))) (.cons rfl (by first | rfl | exact veq_int (by first | omega | (dsimp only; omega))) (.cons rfl (by first | rfl | exact veq_int (by first | omega | (dsimp only; omega))) (.cons rfl (by first | rfl | exact veq_int (by first | omega | (dsimp only; omega))) (.cons rfl (by first | rfl | exact veq_int (by first | omega | (dsimp only; omega))) (.cons rfl (by first | rfl | exact veq_int (by first | omega | (dsimp only; omega))) (.cons rfl (by first | rfl | exact veq_int (by first | omega | (dsimp only; omega))) (.cons rfl (by first | rfl | exact veq_int (by first | omega | (dsimp only; omega))) (.cons rfl (by first | rfl | exact veq_int (by first | omega | (dsimp only; omega))) (.cons rfl (by first | rfl | exact veq_int (by first | omega | (dsimp only; omega))) (.cons rfl (by first | rfl | exact veq_int (by first | omega | (dsimp only; omega))) (.cons rfl (by first | rfl | exact veq_int (by first | omega | (dsimp only; omega))) (.cons rfl (by first | rfl | exact veq_int (by first | omega | (dsimp only; omega))) (.cons rfl (by first | rfl | exact veq_int (by first | omega | (dsimp only; omega))) (.cons rfl (by first | rfl | exact veq_int (by first | omega | (dsimp only; omega))) (.cons rfl (by first | rfl | exact veq_int (by first | omega | (dsimp only; omega))) (.cons rfl (by first | rfl | exact veq_int (by first | omega | (dsimp only; omega))) (.cons rfl (by first | rfl | exact veq_int (by first | omega | (dsimp only; omega))) .nil))))))))))))))))))))))))))))))))))))))))) (.keep rfl rfl (imp_var (by exact ceq_cons rfl (ceq_cons (ceq_arr8 fun k _ => part_stepV (by unfold qg; rw [hqr]; rfl) (by omega) k) rfl)) rfl) (.keep rfl rfl (fun _ h => h) .nil))
                      · try simp only [bs] at h14
                        obtain rfl : y = p.toNat := (by omega)
                        refine W_exit ?_
                        refine W_region ?_
                        refine Ops_p (p_move rfl) (lt_dec rfl) ?_
                        refine Ops_p (p_add rfl rfl (by exact ⟨(by first | omega | (dsimp only; omega)), (by first | omega | (dsimp only; omega))⟩)) (lt_dec rfl) ?_
                        refine Ops_p (p_assign rfl) (lt_dec rfl) ?_
                        refine Ops_nil ?_
                        refine Exists.intro (x + 1) (And.intro ?_ (And.intro ?_ ?_))
                        · show _ ≤ _; omega
                        · show _ < _; omega
                        · exact Wk.intro (.cons rfl (by first | rfl | exact veq_int (by first | omega | (dsimp only; omega))) (.cons rfl (by first | rfl | exact veq_int (by first | omega | (dsimp only; omega))) (.cons rfl (by first | rfl | exact veq_int (by first | omega | (dsimp only; omega))) (.cons rfl (by first | rfl | exact veq_int (by first | omega | (dsimp only; omega))) (.cons rfl (by first | rfl | exact veq_int (by first | omega | (dsimp only; omega))) (.cons rfl (by first | rfl | exact veq_int (by first | omega | (dsimp only; omega))) (.cons rfl (by first | rfl | exact veq_int (by first | omega | (dsimp only; omega))) (.cons rfl (by first | rfl | exact veq_int (by first | omega | (dsimp only; omega))) (.cons rfl (by first | rfl | exact veq_int (by first | omega | (dsimp only; omega))) (.cons rfl (by first | rfl | exact veq_int (by first | omega | (dsimp only; omega))) (.cons rfl (by first | rfl | exact veq_int (by first | omega | (dsimp only; omega))) (.cons rfl (by first | rfl | exact veq_int (by first | omega | (dsimp only; omega))) (.cons rfl (by first | rfl | exact veq_int (by first | omega | (dsimp only; omega))) (.cons rfl (by first | rfl | exact veq_int (by first | omega | (dsimp only; omega))) (.cons rfl (by first | rfl | exact veq_int (by first | omega | (dsimp only; omega))) (.cons rfl (by first | rfl | exact veq_int (by first | omega | (dsimp only; omega))) (.cons rfl (by first | rfl | exact veq_int (by first | omega | (dsimp only; omega))) (.cons rfl (by first | rfl | exact veq_int (by first | omega | (dsimp only; omega))) (.cons rfl (by first | rfl | exact veq_int (by first | omega | (dsimp only; omega))) (.cons rfl (by first | rfl | exact veq_int (by first | omega | (dsimp only; omega))) (.cons rfl (by first | rfl | exact veq_int (by first | omega | (dsimp only; omega))) (.cons rfl (by first | rfl | exact veq_int (by first | omega | (dsimp only; omega))) (.cons rfl (by first | rfl | exact veq_int (by first | omega | (dsimp only; omega))) (.cons rfl (by first | rfl | exact veq_int (by first | omega | (dsimp only; omega))) (.cons rfl (by first | rfl | exact veq_int (by first | omega | (dsimp only; omega))) (.cons rfl (by first | rfl | exact veq_int (by first | omega | (dsimp only; omega))) (.cons rfl (by first | rfl | exact veq_int (by first | omega | (dsimp only; omega))) (.cons rfl (by first | rfl | exact veq_int (by first | omega | (dsimp only; omega))) (.cons rfl (by first | rfl | exact veq_int (by first | omega | (dsimp only; omega))) (.cons rfl (by first | rfl | exact veq_int (by first | omega | (dsimp only; omega))) (.cons rfl (by first | rfl | exact veq_int (by first | omega | (dsimp only; omega))) (.cons rfl (by first | rfl | exact veq_int (by first | omega | (dsimp only; omega))) (.cons rfl (by first | rfl | exact veq_int (by first | omega | (dsimp only; omega))) (.cons rfl (by first | rfl | exact veq_int (by first | omega | (dsimp only; omega))) (.cons rfl (by first | rfl | exact veq_int (by first | omega | (dsimp only; omega))) (.cons rfl (by first | rfl | exact veq_int (by first | omega | (dsimp only; omega))) (.cons rfl (by first | rfl | exact veq_int (by first | omega | (dsimp only; omega))) (.cons rfl (by first | rfl | exact veq_int (by first | omega | (dsimp only; omega))) .nil)))))))))))))))))))))))))))))))))))))) (.keep rfl rfl (imp_var (by exact ceq_cons rfl (ceq_cons (ceq_arr8 fun k _ => part_row k) rfl)) rfl) (.keep rfl rfl (fun _ h => h) .nil))
                  · try simp only [bs] at h13
                    obtain rfl : x = p.toNat := (by omega)
                    refine W_exit ?_
                    refine W_seq ?_
                    refine W_region ?_
                    refine Ops_q (q_load rfl rfl m0 rfl (by first | trivial | (first | omega | (dsimp only; omega)) | exact Fin.isLt _ | (dsimp only; omega))) (lt_dec rfl) ?_
                    refine Ops_x rfl (x_store rfl rfl rfl rfl rfl ((HpRep.head).tail) rfl (by first | trivial | (first | (first | omega | (dsimp only; omega)) | exact Fin.isLt _)) ?_)
                    refine Ops_p (p_assign rfl) (lt_dec rfl) ?_
                    refine Ops_nil ?_
                    refine W_ret ?_
                    refine Exists.intro _ (And.intro (.cons (.cell rfl rfl m1 rfl trivial) (.cons (.tmp rfl) .nil)) ?_)
                    first | rfl | (refine veq_bool ?_; simp_all; done) | (refine veq_bool ?_; simp; omega) | (refine veq_bool ?_; rw [eq_comm, decide_eq_false_iff_not]; omega) | (refine veq_bool ?_; rw [eq_comm, decide_eq_true_iff]; omega) | (refine veq_int ?_; omega) | (refine veq_arr8 fun j hj => ?_; (try dsimp only); first | (simp; done) | (simp; omega) | ((repeat' split) <;> first | rfl | (exfalso; omega) | (congr 1; omega) | (simp_all; done))) | (rw [h0]; rfl) | (rw [h0, h1]; rfl)
            · try simp only [bs] at hg15
              refine Ops_guard_f rfl rfl rfl (lt_dec rfl) ?_
              refine Ops_guard_f rfl rfl rfl (lt_dec rfl) ?_
              refine Ops_guard_f rfl rfl rfl (lt_dec rfl) ?_
              refine Ops_p (p_pick_t rfl rfl) (lt_dec rfl) ?_
              refine Ops_nil ?_
              refine W_true rfl ?_
              refine W_seq ?_
              have h1 : qok p a b = false := (by rw [qok_eq hp ha hb]; simp_all)
              refine W_region ?_
              refine Ops_p (p_build rfl rfl rfl rfl (by first | trivial | (first | omega | (dsimp only; omega)) | exact Fin.isLt _ | (dsimp only; omega))) (lt_dec rfl) ?_
              refine Ops_x rfl (x_store rfl rfl rfl rfl rfl HpRep.head rfl (by first | trivial | (first | (first | omega | (dsimp only; omega)) | exact Fin.isLt _)) ?_)
              refine Ops_p (p_assign rfl) (lt_dec rfl) ?_
              refine Ops_nil ?_
              refine W_ret ?_
              refine Exists.intro _ (And.intro (.cons (.cell rfl rfl m0 rfl trivial) (.cons (.tmp rfl) .nil)) ?_)
              first | rfl | (refine veq_bool ?_; simp_all; done) | (refine veq_bool ?_; simp; omega) | (refine veq_bool ?_; rw [eq_comm, decide_eq_false_iff_not]; omega) | (refine veq_bool ?_; rw [eq_comm, decide_eq_true_iff]; omega) | (refine veq_int ?_; omega) | (refine veq_arr8 fun j hj => ?_; (try dsimp only); first | (simp; done) | (simp; omega) | ((repeat' split) <;> first | rfl | (exfalso; omega) | (congr 1; omega) | (simp_all; done))) | (rw [h0]; rfl) | (rw [h0, h1]; rfl)
          · try simp only [bs] at hg14
            refine Ops_guard_f rfl rfl rfl (lt_dec rfl) ?_
            refine Ops_guard_f rfl rfl rfl (lt_dec rfl) ?_
            refine Ops_guard_f rfl rfl rfl (lt_dec rfl) ?_
            refine Ops_p (p_pick_t rfl rfl) (lt_dec rfl) ?_
            refine Ops_p (p_move rfl) (lt_dec rfl) ?_
            refine Ops_guard_f rfl rfl rfl (lt_dec rfl) ?_
            refine Ops_guard_f rfl rfl rfl (lt_dec rfl) ?_
            refine Ops_guard_f rfl rfl rfl (lt_dec rfl) ?_
            refine Ops_guard_f rfl rfl rfl (lt_dec rfl) ?_
            refine Ops_p (p_pick_t rfl rfl) (lt_dec rfl) ?_
            refine Ops_nil ?_
            refine W_true rfl ?_
            refine W_seq ?_
            have h1 : qok p a b = false := (by rw [qok_eq hp ha hb]; simp_all)
            refine W_region ?_
            refine Ops_p (p_build rfl rfl rfl rfl (by first | trivial | (first | omega | (dsimp only; omega)) | exact Fin.isLt _ | (dsimp only; omega))) (lt_dec rfl) ?_
            refine Ops_x rfl (x_store rfl rfl rfl rfl rfl HpRep.head rfl (by first | trivial | (first | (first | omega | (dsimp only; omega)) | exact Fin.isLt _)) ?_)
            refine Ops_p (p_assign rfl) (lt_dec rfl) ?_
            refine Ops_nil ?_
            refine W_ret ?_
            refine Exists.intro _ (And.intro (.cons (.cell rfl rfl m0 rfl trivial) (.cons (.tmp rfl) .nil)) ?_)
            first | rfl | (refine veq_bool ?_; simp_all; done) | (refine veq_bool ?_; simp; omega) | (refine veq_bool ?_; rw [eq_comm, decide_eq_false_iff_not]; omega) | (refine veq_bool ?_; rw [eq_comm, decide_eq_true_iff]; omega) | (refine veq_int ?_; omega) | (refine veq_arr8 fun j hj => ?_; (try dsimp only); first | (simp; done) | (simp; omega) | ((repeat' split) <;> first | rfl | (exfalso; omega) | (congr 1; omega) | (simp_all; done))) | (rw [h0]; rfl) | (rw [h0, h1]; rfl)
        · try simp only [bs] at hg13
          refine Ops_guard_f rfl rfl rfl (lt_dec rfl) ?_
          refine Ops_p (p_pick_t rfl rfl) (lt_dec rfl) ?_
          refine Ops_p (p_move rfl) (lt_dec rfl) ?_
          refine Ops_guard_f rfl rfl rfl (lt_dec rfl) ?_
          refine Ops_guard_f rfl rfl rfl (lt_dec rfl) ?_
          refine Ops_guard_f rfl rfl rfl (lt_dec rfl) ?_
          refine Ops_guard_f rfl rfl rfl (lt_dec rfl) ?_
          refine Ops_p (p_pick_t rfl rfl) (lt_dec rfl) ?_
          refine Ops_p (p_move rfl) (lt_dec rfl) ?_
          refine Ops_guard_f rfl rfl rfl (lt_dec rfl) ?_
          refine Ops_guard_f rfl rfl rfl (lt_dec rfl) ?_
          refine Ops_guard_f rfl rfl rfl (lt_dec rfl) ?_
          refine Ops_guard_f rfl rfl rfl (lt_dec rfl) ?_
          refine Ops_p (p_pick_t rfl rfl) (lt_dec rfl) ?_
          refine Ops_nil ?_
          refine W_true rfl ?_
          refine W_seq ?_
          have h1 : qok p a b = false := (by rw [qok_eq hp ha hb]; simp_all)
          refine W_region ?_
          refine Ops_p (p_build rfl rfl rfl rfl (by first | trivial | (first | omega | (dsimp only; omega)) | exact Fin.isLt _ | (dsimp only; omega))) (lt_dec rfl) ?_
          refine Ops_x rfl (x_store rfl rfl rfl rfl rfl HpRep.head rfl (by first | trivial | (first | (first | omega | (dsimp only; omega)) | exact Fin.isLt _)) ?_)
          refine Ops_p (p_assign rfl) (lt_dec rfl) ?_
          refine Ops_nil ?_
          refine W_ret ?_
          refine Exists.intro _ (And.intro (.cons (.cell rfl rfl m0 rfl trivial) (.cons (.tmp rfl) .nil)) ?_)
          first | rfl | (refine veq_bool ?_; simp_all; done) | (refine veq_bool ?_; simp; omega) | (refine veq_bool ?_; rw [eq_comm, decide_eq_false_iff_not]; omega) | (refine veq_bool ?_; rw [eq_comm, decide_eq_true_iff]; omega) | (refine veq_int ?_; omega) | (refine veq_arr8 fun j hj => ?_; (try dsimp only); first | (simp; done) | (simp; omega) | ((repeat' split) <;> first | rfl | (exfalso; omega) | (congr 1; omega) | (simp_all; done))) | (rw [h0]; rfl) | (rw [h0, h1]; rfl)
    · try simp only [bs] at hg12
      refine Ops_guard_f rfl rfl rfl (lt_dec rfl) ?_
      refine Ops_guard_f rfl rfl rfl (lt_dec rfl) ?_
      refine Ops_guard_f rfl rfl rfl (lt_dec rfl) ?_
      refine Ops_guard_f rfl rfl rfl (lt_dec rfl) ?_
      refine Ops_p (p_pick_t rfl rfl) (lt_dec rfl) ?_
      refine Ops_nil ?_
      refine W_true rfl ?_
      refine W_seq ?_
      have h0 : qin p a b = false := qin_f (by omega)
      refine W_region ?_
      refine Ops_p (p_build rfl rfl rfl rfl (by first | trivial | (first | omega | (dsimp only; omega)) | exact Fin.isLt _ | (dsimp only; omega))) (lt_dec rfl) ?_
      refine Ops_x rfl (x_store rfl rfl rfl rfl rfl HpRep.head rfl (by first | trivial | (first | (first | omega | (dsimp only; omega)) | exact Fin.isLt _)) ?_)
      refine Ops_p (p_assign rfl) (lt_dec rfl) ?_
      refine Ops_nil ?_
      refine W_ret ?_
      refine Exists.intro _ (And.intro (.cons (.cell rfl rfl m0 rfl trivial) (.cons (.tmp rfl) .nil)) ?_)
      first | rfl | (refine veq_bool ?_; simp_all; done) | (refine veq_bool ?_; simp; omega) | (refine veq_bool ?_; rw [eq_comm, decide_eq_false_iff_not]; omega) | (refine veq_bool ?_; rw [eq_comm, decide_eq_true_iff]; omega) | (refine veq_int ?_; omega) | (refine veq_arr8 fun j hj => ?_; (try dsimp only); first | (simp; done) | (simp; omega) | ((repeat' split) <;> first | rfl | (exfalso; omega) | (congr 1; omega) | (simp_all; done))) | (rw [h0]; rfl) | (rw [h0, h1]; rfl)
end Go.Proofs.Ytebcapplclgaeaa
