/- What the Go function impl.QuadraticSquare$1 does, shown of its loaded text; its conditions stand in the statement. -/
import Derived.Test.YtebcapplclgaeaaTy
import Derived.Test.YtebcapplclgaeaaFimplisSquareOf
import Derived.Test.YtebcapplclgaeaaM12
namespace Go.Proofs.Ytebcapplclgaeaa
open Go Gx
set_option linter.unusedVariables false
theorem en_impl_QuadraticSquareX1 : Enters Try.prog 73 := enters_of Try.func73 (by kernel_rfl) (by kernel_rfl)
set_option maxRecDepth 100000 in
theorem w_impl_QuadraticSquareX1 {p a b : Int} {x y bb bp ba : Nat} (hp : qP p) (ha : 0 ≤ a ∧ a ≤ p - 1) (hb : 0 ≤ b ∧ b ≤ p - 1) (hx : (x : Int) < p) (hy : (y : Int) < p) : CR Try.prog 73 (vals [.int .u8 (x : Int), .int .u8 (y : Int), .ptr bb 0 none, .ptr bp 0 none, .ptr ba 0 none]) [.rvar bb (.int .i64 b), .rvar bp (.int .i64 p), .rvar ba (.int .i64 a)] (.u8 (qg p a b x y)) := by
  refine CR_intro (rs := [.tmp 7]) tt tok Try.func73 rfl rfl rfl (by first | rfl | assumption) fun w => ?_
  have hpb := qP_b hp
  refine W_seq ?_
  refine W_region ?_
  refine Ops_p (p_assign rfl) (lt_dec rfl) ?_
  refine Ops_nil ?_
  refine W_seq ?_
  refine W_draw (by kernel_rfl) ?_
  show RA _ _ 8 _ _ _
  refine RA_quiet (g := 0) [0, 1, 2, 3, 4, 5, 6, 7] (by kernel_rfl) (by kernel_rfl) (by kernel_rfl) (by kernel_rfl) ?_
  refine WQ_cons rfl rfl rfl ((p_move rfl).q) (lt_dec rfl) ?_
  first | refine WQ_cons rfl rfl rfl ((p_conv8 rfl rfl rfl (by decide)).q) (lt_dec rfl) ?_ | refine WQ_cons rfl rfl rfl ((p_conv rfl rfl rfl (by exact ⟨(by first | omega | (dsimp only; omega)), (by first | omega | (dsimp only; omega))⟩)).q) (lt_dec rfl) ?_
  refine WQ_cons rfl rfl rfl ((p_move rfl).q) (lt_dec rfl) ?_
  first | refine WQ_cons rfl rfl rfl ((p_conv8 rfl rfl rfl (by decide)).q) (lt_dec rfl) ?_ | refine WQ_cons rfl rfl rfl ((p_conv rfl rfl rfl (by exact ⟨(by first | omega | (dsimp only; omega)), (by first | omega | (dsimp only; omega))⟩)).q) (lt_dec rfl) ?_
  refine WQ_cons rfl rfl rfl ((p_sub rfl rfl (by exact ⟨(by first | omega | (dsimp only; omega)), (by first | omega | (dsimp only; omega))⟩)).q) (lt_dec rfl) ?_
  refine WQ_cons rfl rfl rfl ((q_load_r rfl rfl m0 rfl (by first | trivial | (first | omega | (dsimp only; omega)) | exact Fin.isLt _ | (dsimp only; omega)))) (lt_dec rfl) ?_
  refine WQ_cons rfl rfl rfl ((p_assign rfl).q) (lt_dec rfl) ?_
  refine WQ_cons rfl rfl rfl ((p_assign rfl).q) (lt_dec rfl) ?_
  refine WQ_nil ?_
  refine RA_done (by kernel_rfl) ?_
  refine W_seq ?_
  refine W_seq ?_
  refine W_region ?_
  refine Ops_p (p_move rfl) (lt_dec rfl) ?_
  refine Ops_q (q_load_r rfl rfl m1 rfl (by first | trivial | (first | omega | (dsimp only; omega)) | exact Fin.isLt _ | (dsimp only; omega))) (lt_dec rfl) ?_
  refine Ops_q (q_call en_impl_isSquareOf rfl (w_impl_isSquareOf hp (by omega)) (View.none _)) (lt_dec rfl) ?_
  refine Ops_nil ?_
  refine W_cond rfl (fun h1 => ?_) (fun h1 => ?_)
  · try simp only [bs] at h1
    refine W_region ?_
    refine Ops_q (q_load_r rfl rfl m2 rfl (by first | trivial | (first | omega | (dsimp only; omega)) | exact Fin.isLt _ | (dsimp only; omega))) (lt_dec rfl) ?_
    refine Ops_p (p_assign rfl) (lt_dec rfl) ?_
    refine Ops_nil ?_
    refine W_seq ?_
    have hma := mulb (a := a) (b := (y : Int) - (x : Int)) hp (by omega) (by omega)
    have hmb := mulb (a := b) (b := (y : Int) - (x : Int)) hp (by omega) (by omega)
    have hta := tmod_in (a := (x : Int) + a * ((y : Int) - (x : Int))) hp
    have htb := tmod_in (a := (x : Int) + b * ((y : Int) - (x : Int))) hp
    have hua := tmod_nn (a := Int.tmod ((x : Int) + a * ((y : Int) - (x : Int))) p + p) (p := p)
    have hub := tmod_nn (a := Int.tmod ((x : Int) + b * ((y : Int) - (x : Int))) p + p) (p := p)
    have ge := qg_eq hp ha hb hx hy
    refine W_draw (by kernel_rfl) ?_
    show RA _ _ 14 _ _ _
    refine RA_quiet (g := 0) [0, 1, 2, 3, 4, 5, 6, 7, 8, 9, 10, 11, 12, 13] (by kernel_rfl) (by kernel_rfl) (by kernel_rfl) (by kernel_rfl) ?_
    refine WQ_cons rfl rfl rfl ((p_move rfl).q) (lt_dec rfl) ?_
    first | refine WQ_cons rfl rfl rfl ((p_conv8 rfl rfl rfl (by decide)).q) (lt_dec rfl) ?_ | refine WQ_cons rfl rfl rfl ((p_conv rfl rfl rfl (by exact ⟨(by first | omega | (dsimp only; omega)), (by first | omega | (dsimp only; omega))⟩)).q) (lt_dec rfl) ?_
    refine WQ_cons rfl rfl rfl ((p_move rfl).q) (lt_dec rfl) ?_
    refine WQ_cons rfl rfl rfl ((p_move rfl).q) (lt_dec rfl) ?_
    refine WQ_cons rfl rfl rfl ((p_mul rfl rfl (by exact ⟨(by first | omega | (dsimp only; omega)), (by first | omega | (dsimp only; omega))⟩)).q) (lt_dec rfl) ?_
    refine WQ_cons rfl rfl rfl ((p_add rfl rfl (by exact ⟨(by first | omega | (dsimp only; omega)), (by first | omega | (dsimp only; omega))⟩)).q) (lt_dec rfl) ?_
    refine WQ_cons rfl rfl rfl ((q_load_r rfl rfl m1 rfl (by first | trivial | (first | omega | (dsimp only; omega)) | exact Fin.isLt _ | (dsimp only; omega)))) (lt_dec rfl) ?_
    refine WQ_cons rfl rfl rfl ((p_rem_t rfl rfl (qP_ne hp)).q) (lt_dec rfl) ?_
    refine WQ_cons rfl rfl rfl ((q_load_r rfl rfl m1 rfl (by first | trivial | (first | omega | (dsimp only; omega)) | exact Fin.isLt _ | (dsimp only; omega)))) (lt_dec rfl) ?_
    refine WQ_cons rfl rfl rfl ((p_add rfl rfl (by exact ⟨(by first | omega | (dsimp only; omega)), (by first | omega | (dsimp only; omega))⟩)).q) (lt_dec rfl) ?_
    refine WQ_cons rfl rfl rfl ((q_load_r rfl rfl m1 rfl (by first | trivial | (first | omega | (dsimp only; omega)) | exact Fin.isLt _ | (dsimp only; omega)))) (lt_dec rfl) ?_
    refine WQ_cons rfl rfl rfl ((p_rem_t rfl rfl (qP_ne hp)).q) (lt_dec rfl) ?_
    refine WQ_cons rfl rfl rfl ((p_conv rfl rfl rfl (by first | (have h9 := hua (tm_ge hp) hp; exact ⟨by omega, by omega⟩) | (have h9 := hub (tm_ge hp) hp; exact ⟨by omega, by omega⟩))).q) (lt_dec rfl) ?_
    refine WQ_cons rfl rfl rfl ((p_assign rfl).q) (lt_dec rfl) ?_
    refine WQ_nil ?_
    refine RA_done (by kernel_rfl) ?_
    refine W_ret ?_
    refine Exists.intro _ (And.intro (.cons (.tmp rfl) .nil) ?_)
    first | rfl | (refine veq_bool ?_; simp_all; done) | (refine veq_bool ?_; simp; omega) | (refine veq_bool ?_; rw [eq_comm, decide_eq_false_iff_not]; omega) | (refine veq_bool ?_; rw [eq_comm, decide_eq_true_iff]; omega) | (refine veq_int ?_; omega) | (refine veq_arr8 fun j hj => ?_; (try dsimp only); first | (simp; done) | (simp; omega) | ((repeat' split) <;> first | rfl | (exfalso; omega) | (congr 1; omega) | (simp_all; done))) | ((rw [h1] at ge; have h9 := hua (tm_ge hp) hp; exact (veq_byteI h9.1 (by omega)).trans (veq_u8 (by unfold qg; rw [← ge]; rfl)))) | ((rw [h1] at ge; have h9 := hub (tm_ge hp) hp; exact (veq_byteI h9.1 (by omega)).trans (veq_u8 (by unfold qg; rw [← ge]; rfl))))
  · try simp only [bs] at h1
    refine W_skip ?_
    refine W_seq ?_
    have hma := mulb (a := a) (b := (y : Int) - (x : Int)) hp (by omega) (by omega)
    have hmb := mulb (a := b) (b := (y : Int) - (x : Int)) hp (by omega) (by omega)
    have hta := tmod_in (a := (x : Int) + a * ((y : Int) - (x : Int))) hp
    have htb := tmod_in (a := (x : Int) + b * ((y : Int) - (x : Int))) hp
    have hua := tmod_nn (a := Int.tmod ((x : Int) + a * ((y : Int) - (x : Int))) p + p) (p := p)
    have hub := tmod_nn (a := Int.tmod ((x : Int) + b * ((y : Int) - (x : Int))) p + p) (p := p)
    have ge := qg_eq hp ha hb hx hy
    refine W_draw (by kernel_rfl) ?_
    show RA _ _ 14 _ _ _
    refine RA_quiet (g := 0) [0, 1, 2, 3, 4, 5, 6, 7, 8, 9, 10, 11, 12, 13] (by kernel_rfl) (by kernel_rfl) (by kernel_rfl) (by kernel_rfl) ?_
    refine WQ_cons rfl rfl rfl ((p_move rfl).q) (lt_dec rfl) ?_
    first | refine WQ_cons rfl rfl rfl ((p_conv8 rfl rfl rfl (by decide)).q) (lt_dec rfl) ?_ | refine WQ_cons rfl rfl rfl ((p_conv rfl rfl rfl (by exact ⟨(by first | omega | (dsimp only; omega)), (by first | omega | (dsimp only; omega))⟩)).q) (lt_dec rfl) ?_
    refine WQ_cons rfl rfl rfl ((p_move rfl).q) (lt_dec rfl) ?_
    refine WQ_cons rfl rfl rfl ((p_move rfl).q) (lt_dec rfl) ?_
    refine WQ_cons rfl rfl rfl ((p_mul rfl rfl (by exact ⟨(by first | omega | (dsimp only; omega)), (by first | omega | (dsimp only; omega))⟩)).q) (lt_dec rfl) ?_
    refine WQ_cons rfl rfl rfl ((p_add rfl rfl (by exact ⟨(by first | omega | (dsimp only; omega)), (by first | omega | (dsimp only; omega))⟩)).q) (lt_dec rfl) ?_
    refine WQ_cons rfl rfl rfl ((q_load_r rfl rfl m1 rfl (by first | trivial | (first | omega | (dsimp only; omega)) | exact Fin.isLt _ | (dsimp only; omega)))) (lt_dec rfl) ?_
    refine WQ_cons rfl rfl rfl ((p_rem_t rfl rfl (qP_ne hp)).q) (lt_dec rfl) ?_
    refine WQ_cons rfl rfl rfl ((q_load_r rfl rfl m1 rfl (by first | trivial | (first | omega | (dsimp only; omega)) | exact Fin.isLt _ | (dsimp only; omega)))) (lt_dec rfl) ?_
    refine WQ_cons rfl rfl rfl ((p_add rfl rfl (by exact ⟨(by first | omega | (dsimp only; omega)), (by first | omega | (dsimp only; omega))⟩)).q) (lt_dec rfl) ?_
    refine WQ_cons rfl rfl rfl ((q_load_r rfl rfl m1 rfl (by first | trivial | (first | omega | (dsimp only; omega)) | exact Fin.isLt _ | (dsimp only; omega)))) (lt_dec rfl) ?_
    refine WQ_cons rfl rfl rfl ((p_rem_t rfl rfl (qP_ne hp)).q) (lt_dec rfl) ?_
    refine WQ_cons rfl rfl rfl ((p_conv rfl rfl rfl (by first | (have h9 := hua (tm_ge hp) hp; exact ⟨by omega, by omega⟩) | (have h9 := hub (tm_ge hp) hp; exact ⟨by omega, by omega⟩))).q) (lt_dec rfl) ?_
    refine WQ_cons rfl rfl rfl ((p_assign rfl).q) (lt_dec rfl) ?_
    refine WQ_nil ?_
    refine RA_done (by kernel_rfl) ?_
    refine W_ret ?_
    refine Exists.intro _ (And.intro (.cons (.tmp rfl) .nil) ?_)
    first | rfl | (refine veq_bool ?_; simp_all; done) | (refine veq_bool ?_; simp; omega) | (refine veq_bool ?_; rw [eq_comm, decide_eq_false_iff_not]; omega) | (refine veq_bool ?_; rw [eq_comm, decide_eq_true_iff]; omega) | (refine veq_int ?_; omega) | (refine veq_arr8 fun j hj => ?_; (try dsimp only); first | (simp; done) | (simp; omega) | ((repeat' split) <;> first | rfl | (exfalso; omega) | (congr 1; omega) | (simp_all; done))) | ((rw [h1] at ge; have h9 := hua (tm_ge hp) hp; exact (veq_byteI h9.1 (by omega)).trans (veq_u8 (by unfold qg; rw [← ge]; rfl)))) | ((rw [h1] at ge; have h9 := hub (tm_ge hp) hp; exact (veq_byteI h9.1 (by omega)).trans (veq_u8 (by unfold qg; rw [← ge]; rfl))))
end Go.Proofs.Ytebcapplclgaeaa
