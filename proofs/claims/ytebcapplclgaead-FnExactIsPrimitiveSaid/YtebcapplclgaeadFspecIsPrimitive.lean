/- What the Go function spec.IsPrimitive does, shown of its loaded text; its conditions stand in the statement. -/
import Derived.Test.YtebcapplclgaeadTy
import Derived.Test.YtebcapplclgaeadFspecl04Block
import Derived.Test.YtebcapplclgaeadFspecl04Code
import Derived.Test.YtebcapplclgaeadFspecl04Orbits
import Derived.Test.YtebcapplclgaeadGx12
import Derived.Test.YtebcapplclgaeadGx20
import Derived.Test.YtebcapplclgaeadGx25
import Derived.Test.YtebcapplclgaeadGx26
import Derived.Test.YtebcapplclgaeadM29
import Derived.Test.YtebcapplclgaeadM30
import Derived.Test.YtebcapplclgaeadM31
namespace Go.Proofs.Ytebcapplclgaead
open Go Gx
set_option linter.unusedVariables false
theorem en_spec_IsPrimitive : Enters Try.prog 55 := enters_of Try.func55 (by kernel_rfl) (by kernel_rfl)
set_option maxRecDepth 100000 in
theorem w_spec_IsPrimitive {a : Value} {ha : a.oneCell' = true} {l : List (Nat → Fin 256)} {n : Int} (hl : l.length ≤ 1048576) : CR Try.prog 55 (vals [.raw a ha, .int .i64 n]) [rd a (.arrs 10 l)] (.tup [.bool (prB l n), .int .i64 (psC l n)]) := by
  refine CR_intro (rs := [.tmp 4, .tmp 5]) tt tok Try.func55 rfl rfl rfl (by first | rfl | assumption) fun w => ?_
  refine W_seq ?_
  refine W_region ?_
  refine Ops_p (p_assign rfl) (lt_dec rfl) ?_
  refine Ops_p (p_assign rfl) (lt_dec rfl) ?_
  refine Ops_nil ?_
  refine W_seq ?_
  refine W_seq ?_
  refine W_region ?_
  refine Ops_p (p_move rfl) (lt_dec rfl) ?_
  refine Ops_p (p_move rfl) (lt_dec rfl) ?_
  refine Ops_q (q_call en_spec_l04Code rfl (w_spec_l04Code (by first | assumption | (first | omega | (dsimp only; omega)) | (simp; done) | decide)) (Vw.rd m0).v) (lt_dec rfl) ?_
  refine Ops_p (p_assign rfl) (lt_dec rfl) ?_
  refine Ops_nil ?_
  refine W_seq ?_
  refine W_region ?_
  refine Ops_p (p_move rfl) (lt_dec rfl) ?_
  refine Ops_p (p_neq rfl rfl) (lt_dec rfl) ?_
  refine Ops_nil ?_
  refine W_cond rfl (fun h1 => ?_) (fun h1 => ?_)
  · try simp only [bs] at h1
    refine W_seq ?_
    refine W_region ?_
    refine Ops_p (p_move rfl) (lt_dec rfl) ?_
    refine Ops_p (p_assign rfl) (lt_dec rfl) ?_
    refine Ops_p (p_assign rfl) (lt_dec rfl) ?_
    refine Ops_nil ?_
    refine W_ret ?_
    refine Exists.intro _ (And.intro (.cons (.tmp rfl) (.cons (.tmp rfl) .nil)) ?_)
    first | rfl | (refine veq_bool ?_; simp_all; done) | (refine veq_bool ?_; simp; omega) | (refine veq_bool ?_; rw [eq_comm, decide_eq_false_iff_not]; omega) | (refine veq_bool ?_; rw [eq_comm, decide_eq_true_iff]; omega) | (refine veq_int ?_; omega) | (refine veq_arr8 fun j hj => ?_; (try dsimp only); first | (simp; done) | (simp; omega) | ((repeat' split) <;> first | rfl | (exfalso; omega) | (congr 1; omega) | (simp_all; done))) | (exact veq_tup2 (veq_bool (prB_c (by assumption))) rfl) | (exact veq_tup2 (veq_bool (prB_o h0 hx1 (by omega))) (veq_int h0.symm)) | (exact veq_tup2 (veq_bool (prB_b (y := y) (by omega) (by omega) (by assumption))) (veq_int h0.symm)) | (exact veq_tup2 (veq_bool (prB_all h0 hx1 (by omega) hY)) (veq_int h0.symm))
  · try simp only [bs] at h1
    have h0 : psC l n = 0 := (by omega); have hp := (psC_ok h0).1; have hl40 := (psC_ok h0).2; have hn := hp.1
    refine W_skip ?_
    refine W_seq ?_
    refine W_seq ?_
    refine W_region ?_
    refine Ops_p (p_move rfl) (lt_dec rfl) ?_
    refine Ops_p (p_move rfl) (lt_dec rfl) ?_
    refine Ops_x rfl (x_callT en_spec_l04Orbits rfl (w_spec_l04Orbits hp hl40) HpDels.nil (Vw.rd m0) (fun _ => (HpDels.cons HpDel.head HpDels.nil)) (lt_dec rfl) fun x16_1 hx1 => ?_)
    refine Ops_q (q_lenO rfl rfl rfl (Rds.ossO m0)) (lt_dec rfl) ?_
    refine Ops_p (p_gtr rfl rfl) (lt_dec rfl) ?_
    refine Ops_nil ?_
    refine W_cond rfl (fun h2 => ?_) (fun h2 => ?_)
    · try simp only [bs] at h2
      refine W_seq ?_
      refine W_region ?_
      refine Ops_p (p_assign rfl) (lt_dec rfl) ?_
      refine Ops_p (p_assign rfl) (lt_dec rfl) ?_
      refine Ops_nil ?_
      refine W_ret ?_
      refine Exists.intro _ (And.intro (.cons (.tmp rfl) (.cons (.tmp rfl) .nil)) ?_)
      first | rfl | (refine veq_bool ?_; simp_all; done) | (refine veq_bool ?_; simp; omega) | (refine veq_bool ?_; rw [eq_comm, decide_eq_false_iff_not]; omega) | (refine veq_bool ?_; rw [eq_comm, decide_eq_true_iff]; omega) | (refine veq_int ?_; omega) | (refine veq_arr8 fun j hj => ?_; (try dsimp only); first | (simp; done) | (simp; omega) | ((repeat' split) <;> first | rfl | (exfalso; omega) | (congr 1; omega) | (simp_all; done))) | (exact veq_tup2 (veq_bool (prB_c (by assumption))) rfl) | (exact veq_tup2 (veq_bool (prB_o h0 hx1 (by omega))) (veq_int h0.symm)) | (exact veq_tup2 (veq_bool (prB_b (y := y) (by omega) (by omega) (by assumption))) (veq_int h0.symm)) | (exact veq_tup2 (veq_bool (prB_all h0 hx1 (by omega) hY)) (veq_int h0.symm))
    · try simp only [bs] at h2
      refine W_skip ?_
      refine W_seq ?_
      refine W_seq ?_
      refine W_region ?_
      refine Ops_p (p_assign rfl) (lt_dec rfl) ?_
      refine Ops_nil ?_
      refine W_block ?_
      refine W_loop (α := Nat) (fun y => ⟨[(0, .raw a ha), (1, .int .i64 n), (6, .int .i64 (psC l n)), (7, .int .i64 (y : Int)), (8, .raw a ha), (9, .int .i64 n), (10, .int .i64 (psC l n)), (11, .int .i64 (psC l n)), (14, .raw a ha), (15, .int .i64 n), (16, .raw x16_1.1.1 x16_1.1.2), (17, .int .i64 ((x16_1.2.length : Nat) : Int))], [oss x16_1.1.1 38 2 x16_1.2, rd a (.arrs 10 l)]⟩) (fun y => y ≤ n.toNat ∧ 1 ≤ y ∧ ∀ z : Nat, 1 ≤ z → z < y → ¬ (((bkL l n.toNat 0 z).length : Nat) : Int) < n) (fun y => n.toNat - y) 1 ?_ ?_ ?_
      · exact ⟨by omega, Nat.le_refl _, fun z h1 h2 => by omega⟩
      · exact Wk.intro (.cons rfl (by first | rfl | exact veq_int (by first | omega | (dsimp only; omega))) (.cons rfl (by first | rfl | exact veq_int (by first | omega | (dsimp only; omega))) (.cons rfl (by first | rfl | exact veq_int (by first | omega | (dsimp only; omega))) (.cons rfl (by first | rfl | exact veq_int (by first | omega | (dsimp only; omega))) (.cons rfl (by first | rfl | exact veq_int (by first | omega | (dsimp only; omega))) (.cons rfl (by first | rfl | exact veq_int (by first | omega | (dsimp only; omega))) (.cons rfl (by first | rfl | exact veq_int (by first | omega | (dsimp only; omega))) (.cons rfl (by first | rfl | exact veq_int (by first | omega | (dsimp only; omega))) (.cons rfl (by first | rfl | exact veq_int (by first | omega | (dsimp only; omega))) (.cons rfl (by first | rfl | exact veq_int (by first | omega | (dsimp only; omega))) (.cons rfl (by first | rfl | exact veq_int (by first | omega | (dsimp only; omega))) (.cons rfl (by first | rfl | exact veq_int (by first | omega | (dsimp only; omega))) .nil)))))))))))) (.keep rfl rfl (fun _ h => h) (.keep rfl rfl (fun _ h => h) .nil))
      · rintro y ⟨hyn, hy1, hY⟩
        refine W_seq ?_
        refine W_seq ?_
        refine W_region ?_
        refine Ops_p (p_move rfl) (lt_dec rfl) ?_
        refine Ops_p (p_move rfl) (lt_dec rfl) ?_
        refine Ops_p (p_lss rfl rfl) (lt_dec rfl) ?_
        refine Ops_nil ?_
        refine W_cond rfl (fun h3 => ?_) (fun h3 => ?_)
        · try simp only [bs] at h3
          refine W_skip ?_
          refine W_seq ?_
          refine W_block ?_
          refine W_seq ?_
          refine W_region ?_
          refine Ops_p (p_move rfl) (lt_dec rfl) ?_
          refine Ops_p (p_move rfl) (lt_dec rfl) ?_
          refine Ops_p (p_move rfl) (lt_dec rfl) ?_
          refine Ops_x rfl (x_callT en_spec_l04Block rfl (w_spec_l04Block (x0 := 0) (y0 := y) hp hl40 (by omega) (by omega)) HpDels.nil (Vw.rd m1) (fun _ => (HpDels.cons HpDel.head HpDels.nil)) (lt_dec rfl) fun x27_1 _ => ?_)
          refine Ops_q ((q_lenR rfl rfl rfl (Rds.own m0)).eq (d' := .int .i64 (((bkL l n.toNat 0 y).length : Nat) : Int)) rfl) (lt_dec rfl) ?_
          refine Ops_p (p_move rfl) (lt_dec rfl) ?_
          refine Ops_p (p_lss rfl rfl) (lt_dec rfl) ?_
          refine Ops_nil ?_
          refine W_cond rfl (fun h4 => ?_) (fun h4 => ?_)
          · try simp only [bs] at h4
            refine W_seq ?_
            refine W_region ?_
            refine Ops_p (p_assign rfl) (lt_dec rfl) ?_
            refine Ops_p (p_assign rfl) (lt_dec rfl) ?_
            refine Ops_nil ?_
            refine W_ret ?_
            refine Exists.intro _ (And.intro (.cons (.tmp rfl) (.cons (.tmp rfl) .nil)) ?_)
            first | rfl | (refine veq_bool ?_; simp_all; done) | (refine veq_bool ?_; simp; omega) | (refine veq_bool ?_; rw [eq_comm, decide_eq_false_iff_not]; omega) | (refine veq_bool ?_; rw [eq_comm, decide_eq_true_iff]; omega) | (refine veq_int ?_; omega) | (refine veq_arr8 fun j hj => ?_; (try dsimp only); first | (simp; done) | (simp; omega) | ((repeat' split) <;> first | rfl | (exfalso; omega) | (congr 1; omega) | (simp_all; done))) | (exact veq_tup2 (veq_bool (prB_c (by assumption))) rfl) | (exact veq_tup2 (veq_bool (prB_o h0 hx1 (by omega))) (veq_int h0.symm)) | (exact veq_tup2 (veq_bool (prB_b (y := y) (by omega) (by omega) (by assumption))) (veq_int h0.symm)) | (exact veq_tup2 (veq_bool (prB_all h0 hx1 (by omega) hY)) (veq_int h0.symm))
          · try simp only [bs] at h4
            refine W_skip ?_
            refine W_region ?_
            refine Ops_p (p_move rfl) (lt_dec rfl) ?_
            refine Ops_p (p_add rfl rfl (by exact ⟨(by first | omega | (dsimp only; omega)), (by first | omega | (dsimp only; omega))⟩)) (lt_dec rfl) ?_
            refine Ops_p (p_assign rfl) (lt_dec rfl) ?_
            refine Ops_nil ?_
            refine Exists.intro (y + 1) (And.intro ?_ (And.intro ?_ ?_))
            · exact ⟨by omega, by omega, fun z h1 h2 => if e : z = y then by subst e; omega else hY z h1 (by omega)⟩
            · show _ < _; omega
            · exact Wk.intro (.cons rfl (by first | rfl | exact veq_int (by first | omega | (dsimp only; omega))) (.cons rfl (by first | rfl | exact veq_int (by first | omega | (dsimp only; omega))) (.cons rfl (by first | rfl | exact veq_int (by first | omega | (dsimp only; omega))) (.cons rfl (by first | rfl | exact veq_int (by first | omega | (dsimp only; omega))) (.cons rfl (by first | rfl | exact veq_int (by first | omega | (dsimp only; omega))) (.cons rfl (by first | rfl | exact veq_int (by first | omega | (dsimp only; omega))) (.cons rfl (by first | rfl | exact veq_int (by first | omega | (dsimp only; omega))) (.cons rfl (by first | rfl | exact veq_int (by first | omega | (dsimp only; omega))) (.cons rfl (by first | rfl | exact veq_int (by first | omega | (dsimp only; omega))) (.cons rfl (by first | rfl | exact veq_int (by first | omega | (dsimp only; omega))) (.cons rfl (by first | rfl | exact veq_int (by first | omega | (dsimp only; omega))) (.cons rfl (by first | rfl | exact veq_int (by first | omega | (dsimp only; omega))) .nil)))))))))))) (.drop (.keep rfl rfl (fun _ h => h) (.keep rfl rfl (fun _ h => h) .nil)))
        · try simp only [bs] at h3
          obtain rfl : y = n.toNat := (by omega)
          refine W_exit ?_
          refine W_seq ?_
          refine W_region ?_
          refine Ops_p (p_assign rfl) (lt_dec rfl) ?_
          refine Ops_p (p_assign rfl) (lt_dec rfl) ?_
          refine Ops_nil ?_
          refine W_ret ?_
          refine Exists.intro _ (And.intro (.cons (.tmp rfl) (.cons (.tmp rfl) .nil)) ?_)
          first | rfl | (refine veq_bool ?_; simp_all; done) | (refine veq_bool ?_; simp; omega) | (refine veq_bool ?_; rw [eq_comm, decide_eq_false_iff_not]; omega) | (refine veq_bool ?_; rw [eq_comm, decide_eq_true_iff]; omega) | (refine veq_int ?_; omega) | (refine veq_arr8 fun j hj => ?_; (try dsimp only); first | (simp; done) | (simp; omega) | ((repeat' split) <;> first | rfl | (exfalso; omega) | (congr 1; omega) | (simp_all; done))) | (exact veq_tup2 (veq_bool (prB_c (by assumption))) rfl) | (exact veq_tup2 (veq_bool (prB_o h0 hx1 (by omega))) (veq_int h0.symm)) | (exact veq_tup2 (veq_bool (prB_b (y := y) (by omega) (by omega) (by assumption))) (veq_int h0.symm)) | (exact veq_tup2 (veq_bool (prB_all h0 hx1 (by omega) hY)) (veq_int h0.symm))
end Go.Proofs.Ytebcapplclgaead
