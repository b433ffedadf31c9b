/- What the Go function spec.l09Is does, shown of its loaded text; its conditions stand in the statement. -/
import Derived.Test.YtdcpggdbjllmpabTy
import Derived.Test.YtdcpggdbjllmpabFspecl01In
import Derived.Test.YtdcpggdbjllmpabGx12
import Derived.Test.YtdcpggdbjllmpabGx20
import Derived.Test.YtdcpggdbjllmpabM24
namespace Go.Proofs.Ytdcpggdbjllmpab
open Go Gx
set_option linter.unusedVariables false
theorem en_spec_l09Is : Enters Try.prog 54 := enters_of Try.func54 (by kernel_rfl) (by kernel_rfl)
set_option maxRecDepth 100000 in
set_option maxHeartbeats 1000000 in
theorem w_spec_l09Is {a : Value} {ha : a.oneCell' = true} {L : SL}  : CR Try.prog 54 (vals [.raw a ha]) [rss a L] (.bool (isPar L)) := by
  refine CR_intro (rs := [.tmp 2]) tt tok Try.func54 rfl rfl rfl (by first | rfl | assumption) fun w => ?_
  refine W_seq ?_
  refine W_region ?_
  refine Ops_p (p_assign rfl) (lt_dec rfl) ?_
  refine Ops_nil ?_
  refine W_seq ?_
  refine W_region ?_
  refine Ops_p (p_move rfl) (lt_dec rfl) ?_
  refine Ops_q (q_lenO rfl rfl rfl (Rds.rssO m0)) (lt_dec rfl) ?_
  refine Ops_p (p_assign rfl) (lt_dec rfl) ?_
  refine Ops_nil ?_
  refine W_seq ?_
  refine W_seq ?_
  refine W_region ?_
  refine Ops_p (p_move rfl) (lt_dec rfl) ?_
  refine Ops_p (p_lss rfl rfl) (lt_dec rfl) ?_
  refine Ops_p (p_move rfl) (lt_dec rfl) ?_
  refine Ops_guard rfl rfl (lt_dec rfl) (fun hg1 => ?_) (fun hg1 => ?_)
  · try simp only [bs] at hg1
    refine Ops_p (p_move rfl) (lt_dec rfl) ?_
    refine Ops_guard_t rfl rfl (lt_dec rfl) ?_
    refine Ops_p (p_gtr rfl rfl) (lt_dec rfl) ?_
    refine Ops_p (p_pick_f rfl rfl) (lt_dec rfl) ?_
    refine Ops_nil ?_
    refine W_cond rfl (fun h1 => ?_) (fun h1 => ?_)
    · try simp only [bs] at h1
      refine W_seq ?_
      refine W_region ?_
      refine Ops_p (p_assign rfl) (lt_dec rfl) ?_
      refine Ops_nil ?_
      refine W_ret ?_
      refine Exists.intro _ (And.intro (.cons (.tmp rfl) .nil) ?_)
      first | rfl | (refine veq_bool ?_; simp_all; done) | (refine veq_bool ?_; simp; omega) | (refine veq_bool ?_; rw [eq_comm, decide_eq_false_iff_not]; omega) | (refine veq_bool ?_; rw [eq_comm, decide_eq_true_iff]; omega) | (refine veq_int ?_; omega) | (refine veq_arr8 fun j hj => ?_; (try dsimp only); first | (simp; done) | (simp; omega) | ((repeat' split) <;> first | rfl | (exfalso; omega) | (congr 1; omega) | (simp_all; done))) | (exact veq_bool (isPar_n (by omega))) | (exact veq_bool (isPar_l (i := i) (by omega) (by unfold ln2; omega))) | (exact veq_bool (isPar_r (i := i) (j := j) (by omega) (by omega) (by assumption))) | (exact veq_bool (isPar_d (i := i2) (j := j2) (k := k) (by omega) (by omega) (by omega) (by unfold nd2 at2; omega))) | (exact veq_bool (isPar_t ⟨by omega, fun a h => (hR1 a h).1, fun a b ha hb => (hR1 a ha).2 b hb, fun a b c ha hb hc => hR3 a b c ha hb hc⟩))
    · try simp only [bs] at h1
      refine W_skip ?_
      refine W_seq ?_
      refine W_seq ?_
      refine W_region ?_
      refine Ops_p (p_assign rfl) (lt_dec rfl) ?_
      refine Ops_nil ?_
      refine W_block ?_
      refine W_loop (α := Nat) (fun i => ⟨[(0, .raw a ha), (3, .int .i64 ((L.length : Nat) : Int)), (4, .int .i64 (i : Int)), (9, .raw a ha), (10, .int .i64 ((L.length : Nat) : Int)), (11, .int .i64 ((L.length : Nat) : Int)), (14, .int .i64 ((L.length : Nat) : Int))], [rss a L]⟩) (fun i => i ≤ L.length ∧ ∀ a, a < i → ln2 L a = L.length ∧ ∀ b, b < L.length → -1 ≤ at2 L a b ∧ at2 L a b ≤ (L.length : Int) - 1) (fun i => L.length - i) 0 ?_ ?_ ?_
      · exact ⟨by omega, fun a h => by omega⟩
      · exact Wk.intro (.cons rfl (by first | rfl | exact veq_int (by first | omega | (dsimp only; omega))) (.cons rfl (by first | rfl | exact veq_int (by first | omega | (dsimp only; omega))) (.cons rfl (by first | rfl | exact veq_int (by first | omega | (dsimp only; omega))) (.cons rfl (by first | rfl | exact veq_int (by first | omega | (dsimp only; omega))) (.cons rfl (by first | rfl | exact veq_int (by first | omega | (dsimp only; omega))) (.cons rfl (by first | rfl | exact veq_int (by first | omega | (dsimp only; omega))) (.cons rfl (by first | rfl | exact veq_int (by first | omega | (dsimp only; omega))) .nil))))))) (.keep rfl rfl (fun _ h => h) .nil)
      · rintro i ⟨hi, hR1⟩
        refine W_seq ?_
        refine W_seq ?_
        refine W_region ?_
        refine Ops_p (p_move rfl) (lt_dec rfl) ?_
        refine Ops_p (p_move rfl) (lt_dec rfl) ?_
        refine Ops_p (p_lss rfl rfl) (lt_dec rfl) ?_
        refine Ops_nil ?_
        refine W_cond rfl (fun h2 => ?_) (fun h2 => ?_)
        · try simp only [bs] at h2
          refine W_skip ?_
          refine W_seq ?_
          refine W_block ?_
          refine W_seq ?_
          refine W_seq ?_
          refine W_region ?_
          refine Ops_p (p_move rfl) (lt_dec rfl) ?_
          refine Ops_p (p_move rfl) (lt_dec rfl) ?_
          refine Ops_q (q_ixR (i) rfl rfl rfl (Rds.rssO m0) rfl rfl (by rw [valsR_len]; first | omega | (dsimp only; omega)) rfl) (lt_dec rfl) ?_
          refine Ops_q (q_loadI (j := i) rfl rfl (Rds.rssO m0) rfl (by first | omega | assumption) rfl rfl) (lt_dec rfl) ?_
          refine Ops_q ((q_lenR rfl rfl rfl (Rds.rssI (j := i) m0 (by first | omega | assumption))).eq (d' := .int .i64 (((L.getD i sd).2.length : Nat) : Int)) rfl) (lt_dec rfl) ?_
          refine Ops_p (p_move rfl) (lt_dec rfl) ?_
          refine Ops_p (p_neq rfl rfl) (lt_dec rfl) ?_
          refine Ops_nil ?_
          refine W_cond rfl (fun h3 => ?_) (fun h3 => ?_)
          · try simp only [bs] at h3
            refine W_seq ?_
            refine W_region ?_
            refine Ops_p (p_assign rfl) (lt_dec rfl) ?_
            refine Ops_nil ?_
            refine W_ret ?_
            refine Exists.intro _ (And.intro (.cons (.tmp rfl) .nil) ?_)
            first | rfl | (refine veq_bool ?_; simp_all; done) | (refine veq_bool ?_; simp; omega) | (refine veq_bool ?_; rw [eq_comm, decide_eq_false_iff_not]; omega) | (refine veq_bool ?_; rw [eq_comm, decide_eq_true_iff]; omega) | (refine veq_int ?_; omega) | (refine veq_arr8 fun j hj => ?_; (try dsimp only); first | (simp; done) | (simp; omega) | ((repeat' split) <;> first | rfl | (exfalso; omega) | (congr 1; omega) | (simp_all; done))) | (exact veq_bool (isPar_n (by omega))) | (exact veq_bool (isPar_l (i := i) (by omega) (by unfold ln2; omega))) | (exact veq_bool (isPar_r (i := i) (j := j) (by omega) (by omega) (by assumption))) | (exact veq_bool (isPar_d (i := i2) (j := j2) (k := k) (by omega) (by omega) (by omega) (by unfold nd2 at2; omega))) | (exact veq_bool (isPar_t ⟨by omega, fun a h => (hR1 a h).1, fun a b ha hb => (hR1 a ha).2 b hb, fun a b c ha hb hc => hR3 a b c ha hb hc⟩))
          · try simp only [bs] at h3
            have hln : (L.getD i sd).2.length = L.length := (by omega)
            refine W_skip ?_
            refine W_seq ?_
            refine W_region ?_
            refine Ops_p (p_assign rfl) (lt_dec rfl) ?_
            refine Ops_nil ?_
            refine W_block ?_
            refine W_loop (α := Nat) (fun j => ⟨[(0, .raw a ha), (3, .int .i64 ((L.length : Nat) : Int)), (4, .int .i64 (i : Int)), (5, .int .i64 (j : Int)), (9, .raw a ha), (10, .int .i64 ((L.length : Nat) : Int)), (11, .int .i64 ((L.length : Nat) : Int)), (14, .int .i64 ((L.length : Nat) : Int)), (17, .int .i64 (i : Int)), (18, .int .i64 ((L.length : Nat) : Int)), (22, .raw a ha), (23, .int .i64 (i : Int)), (25, .raw (L.getD i sd).1.1 (L.getD i sd).1.2), (26, .int .i64 (((L.getD i sd).2.length : Nat) : Int)), (27, .int .i64 ((L.length : Nat) : Int))], [rss a L]⟩) (fun j => j ≤ L.length ∧ ∀ b, b < j → -1 ≤ at2 L i b ∧ at2 L i b ≤ (L.length : Int) - 1) (fun j => L.length - j) 0 ?_ ?_ ?_
            · exact ⟨by omega, fun a h => by omega⟩
            · exact Wk.intro (.cons rfl (by first | rfl | exact veq_int (by first | omega | (dsimp only; omega))) (.cons rfl (by first | rfl | exact veq_int (by first | omega | (dsimp only; omega))) (.cons rfl (by first | rfl | exact veq_int (by first | omega | (dsimp only; omega))) (.cons rfl (by first | rfl | exact veq_int (by first | omega | (dsimp only; omega))) (.cons rfl (by first | rfl | exact veq_int (by first | omega | (dsimp only; omega))) (.cons rfl (by first | rfl | exact veq_int (by first | omega | (dsimp only; omega))) (.cons rfl (by first | rfl | exact veq_int (by first | omega | (dsimp only; omega))) (.cons rfl (by first | rfl | exact veq_int (by first | omega | (dsimp only; omega))) (.cons rfl (by first | rfl | exact veq_int (by first | omega | (dsimp only; omega))) (.cons rfl (by first | rfl | exact veq_int (by first | omega | (dsimp only; omega))) (.cons rfl (by first | rfl | exact veq_int (by first | omega | (dsimp only; omega))) (.cons rfl (by first | rfl | exact veq_int (by first | omega | (dsimp only; omega))) (.cons rfl (by first | rfl | exact veq_int (by first | omega | (dsimp only; omega))) (.cons rfl (by first | rfl | exact veq_int (by first | omega | (dsimp only; omega))) (.cons rfl (by first | rfl | exact veq_int (by first | omega | (dsimp only; omega))) .nil))))))))))))))) (.keep rfl rfl (fun _ h => h) .nil)
            · rintro j ⟨hj, hR2⟩
              refine W_seq ?_
              refine W_seq ?_
              refine W_region ?_
              refine Ops_p (p_move rfl) (lt_dec rfl) ?_
              refine Ops_p (p_move rfl) (lt_dec rfl) ?_
              refine Ops_p (p_lss rfl rfl) (lt_dec rfl) ?_
              refine Ops_nil ?_
              refine W_cond rfl (fun h4 => ?_) (fun h4 => ?_)
              · try simp only [bs] at h4
                refine W_skip ?_
                refine W_seq ?_
                refine W_block ?_
                refine W_seq ?_
                refine W_region ?_
                refine Ops_p (p_move rfl) (lt_dec rfl) ?_
                refine Ops_p (p_move rfl) (lt_dec rfl) ?_
                refine Ops_q (q_ixR (i) rfl rfl rfl (Rds.rssO m0) rfl rfl (by rw [valsR_len]; first | omega | (dsimp only; omega)) rfl) (lt_dec rfl) ?_
                refine Ops_q (q_loadI (j := i) rfl rfl (Rds.rssO m0) rfl (by first | omega | assumption) rfl rfl) (lt_dec rfl) ?_
                refine Ops_p (p_move rfl) (lt_dec rfl) ?_
                refine Ops_q (q_ixR (j) rfl rfl rfl (Rds.rssI (j := i) m0 (by first | omega | assumption)) rfl rfl (by show _ < List.length _; first | omega | (dsimp only; omega)) rfl) (lt_dec rfl) ?_
                refine Ops_q (q_loadR rfl rfl (Rds.rssI (j := i) m0 (by first | omega | assumption)) rfl rfl (by first | omega | (dsimp only; omega)) rfl rfl rfl) (lt_dec rfl) ?_
                refine Ops_p (p_move rfl) (lt_dec rfl) ?_
                refine Ops_p (p_sub rfl rfl (by exact ⟨(by first | omega | (dsimp only; omega)), (by first | omega | (dsimp only; omega))⟩)) (lt_dec rfl) ?_
                refine Ops_q (q_call en_spec_l01In rfl (w_spec_l01In) (View.none _)) (lt_dec rfl) ?_
                refine Ops_p (p_not rfl) (lt_dec rfl) ?_
                refine Ops_nil ?_
                refine W_cond rfl (fun h5 => ?_) (fun h5 => ?_)
                · try simp only [bs] at h5
                  refine W_seq ?_
                  refine W_region ?_
                  refine Ops_p (p_assign rfl) (lt_dec rfl) ?_
                  refine Ops_nil ?_
                  refine W_ret ?_
                  refine Exists.intro _ (And.intro (.cons (.tmp rfl) .nil) ?_)
                  first | rfl | (refine veq_bool ?_; simp_all; done) | (refine veq_bool ?_; simp; omega) | (refine veq_bool ?_; rw [eq_comm, decide_eq_false_iff_not]; omega) | (refine veq_bool ?_; rw [eq_comm, decide_eq_true_iff]; omega) | (refine veq_int ?_; omega) | (refine veq_arr8 fun j hj => ?_; (try dsimp only); first | (simp; done) | (simp; omega) | ((repeat' split) <;> first | rfl | (exfalso; omega) | (congr 1; omega) | (simp_all; done))) | (exact veq_bool (isPar_n (by omega))) | (exact veq_bool (isPar_l (i := i) (by omega) (by unfold ln2; omega))) | (exact veq_bool (isPar_r (i := i) (j := j) (by omega) (by omega) (by assumption))) | (exact veq_bool (isPar_d (i := i2) (j := j2) (k := k) (by omega) (by omega) (by omega) (by unfold nd2 at2; omega))) | (exact veq_bool (isPar_t ⟨by omega, fun a h => (hR1 a h).1, fun a b ha hb => (hR1 a ha).2 b hb, fun a b c ha hb hc => hR3 a b c ha hb hc⟩))
                · try simp only [bs] at h5
                  refine W_skip ?_
                  refine W_region ?_
                  refine Ops_p (p_move rfl) (lt_dec rfl) ?_
                  refine Ops_p (p_add rfl rfl (by exact ⟨(by first | omega | (dsimp only; omega)), (by first | omega | (dsimp only; omega))⟩)) (lt_dec rfl) ?_
                  refine Ops_p (p_assign rfl) (lt_dec rfl) ?_
                  refine Ops_nil ?_
                  refine Exists.intro (j + 1) (And.intro ?_ (And.intro ?_ ?_))
                  · exact ⟨by omega, fun b h => if e : b = j then by subst e; assumption else hR2 b (by omega)⟩
                  · show _ < _; omega
                  · exact Wk.intro (.cons rfl (by first | rfl | exact veq_int (by first | omega | (dsimp only; omega))) (.cons rfl (by first | rfl | exact veq_int (by first | omega | (dsimp only; omega))) (.cons rfl (by first | rfl | exact veq_int (by first | omega | (dsimp only; omega))) (.cons rfl (by first | rfl | exact veq_int (by first | omega | (dsimp only; omega))) (.cons rfl (by first | rfl | exact veq_int (by first | omega | (dsimp only; omega))) (.cons rfl (by first | rfl | exact veq_int (by first | omega | (dsimp only; omega))) (.cons rfl (by first | rfl | exact veq_int (by first | omega | (dsimp only; omega))) (.cons rfl (by first | rfl | exact veq_int (by first | omega | (dsimp only; omega))) (.cons rfl (by first | rfl | exact veq_int (by first | omega | (dsimp only; omega))) (.cons rfl (by first | rfl | exact veq_int (by first | omega | (dsimp only; omega))) (.cons rfl (by first | rfl | exact veq_int (by first | omega | (dsimp only; omega))) (.cons rfl (by first | rfl | exact veq_int (by first | omega | (dsimp only; omega))) (.cons rfl (by first | rfl | exact veq_int (by first | omega | (dsimp only; omega))) (.cons rfl (by first | rfl | exact veq_int (by first | omega | (dsimp only; omega))) (.cons rfl (by first | rfl | exact veq_int (by first | omega | (dsimp only; omega))) .nil))))))))))))))) (.keep rfl rfl (fun _ h => h) .nil)
              · try simp only [bs] at h4
                obtain rfl : j = L.length := (by omega)
                refine W_exit ?_
                refine W_region ?_
                refine Ops_p (p_move rfl) (lt_dec rfl) ?_
                refine Ops_p (p_add rfl rfl (by exact ⟨(by first | omega | (dsimp only; omega)), (by first | omega | (dsimp only; omega))⟩)) (lt_dec rfl) ?_
                refine Ops_p (p_assign rfl) (lt_dec rfl) ?_
                refine Ops_nil ?_
                refine Exists.intro (i + 1) (And.intro ?_ (And.intro ?_ ?_))
                · exact ⟨by omega, fun a h => if e : a = i then by subst e; exact ⟨hln, hR2⟩ else hR1 a (by omega)⟩
                · show _ < _; omega
                · exact Wk.intro (.cons rfl (by first | rfl | exact veq_int (by first | omega | (dsimp only; omega))) (.cons rfl (by first | rfl | exact veq_int (by first | omega | (dsimp only; omega))) (.cons rfl (by first | rfl | exact veq_int (by first | omega | (dsimp only; omega))) (.cons rfl (by first | rfl | exact veq_int (by first | omega | (dsimp only; omega))) (.cons rfl (by first | rfl | exact veq_int (by first | omega | (dsimp only; omega))) (.cons rfl (by first | rfl | exact veq_int (by first | omega | (dsimp only; omega))) (.cons rfl (by first | rfl | exact veq_int (by first | omega | (dsimp only; omega))) .nil))))))) (.keep rfl rfl (fun _ h => h) .nil)
        · try simp only [bs] at h2
          obtain rfl : i = L.length := (by omega)
          refine W_exit ?_
          refine W_seq ?_
          refine W_seq ?_
          refine W_region ?_
          refine Ops_p (p_assign rfl) (lt_dec rfl) ?_
          refine Ops_nil ?_
          refine W_block ?_
          refine W_loop (α := Nat) (fun i2 => ⟨[(0, .raw a ha), (3, .int .i64 ((L.length : Nat) : Int)), (4, .int .i64 (L.length : Int)), (6, .int .i64 (i2 : Int)), (9, .raw a ha), (10, .int .i64 ((L.length : Nat) : Int)), (11, .int .i64 ((L.length : Nat) : Int)), (14, .int .i64 ((L.length : Nat) : Int)), (17, .int .i64 (L.length : Int)), (18, .int .i64 ((L.length : Nat) : Int))], [rss a L]⟩) (fun i2 => i2 ≤ L.length ∧ ∀ a b c, a < i2 → b < L.length → c < b → nd2 L a b c) (fun i2 => L.length - i2) 0 ?_ ?_ ?_
          · exact ⟨by omega, fun a b c h => by omega⟩
          · exact Wk.intro (.cons rfl (by first | rfl | exact veq_int (by first | omega | (dsimp only; omega))) (.cons rfl (by first | rfl | exact veq_int (by first | omega | (dsimp only; omega))) (.cons rfl (by first | rfl | exact veq_int (by first | omega | (dsimp only; omega))) (.cons rfl (by first | rfl | exact veq_int (by first | omega | (dsimp only; omega))) (.cons rfl (by first | rfl | exact veq_int (by first | omega | (dsimp only; omega))) (.cons rfl (by first | rfl | exact veq_int (by first | omega | (dsimp only; omega))) (.cons rfl (by first | rfl | exact veq_int (by first | omega | (dsimp only; omega))) (.cons rfl (by first | rfl | exact veq_int (by first | omega | (dsimp only; omega))) (.cons rfl (by first | rfl | exact veq_int (by first | omega | (dsimp only; omega))) (.cons rfl (by first | rfl | exact veq_int (by first | omega | (dsimp only; omega))) .nil)))))))))) (.keep rfl rfl (fun _ h => h) .nil)
          · rintro i2 ⟨hi2, hR3⟩
            refine W_seq ?_
            refine W_seq ?_
            refine W_region ?_
            refine Ops_p (p_move rfl) (lt_dec rfl) ?_
            refine Ops_p (p_move rfl) (lt_dec rfl) ?_
            refine Ops_p (p_lss rfl rfl) (lt_dec rfl) ?_
            refine Ops_nil ?_
            refine W_cond rfl (fun h6 => ?_) (fun h6 => ?_)
            · try simp only [bs] at h6
              refine W_skip ?_
              refine W_seq ?_
              refine W_block ?_
              refine W_seq ?_
              refine W_region ?_
              refine Ops_p (p_assign rfl) (lt_dec rfl) ?_
              refine Ops_nil ?_
              refine W_block ?_
              refine W_loop (α := Nat) (fun j2 => ⟨[(0, .raw a ha), (3, .int .i64 ((L.length : Nat) : Int)), (4, .int .i64 (L.length : Int)), (6, .int .i64 (i2 : Int)), (7, .int .i64 (j2 : Int)), (9, .raw a ha), (10, .int .i64 ((L.length : Nat) : Int)), (11, .int .i64 ((L.length : Nat) : Int)), (14, .int .i64 ((L.length : Nat) : Int)), (17, .int .i64 (L.length : Int)), (18, .int .i64 ((L.length : Nat) : Int)), (45, .int .i64 (i2 : Int)), (46, .int .i64 ((L.length : Nat) : Int))], [rss a L]⟩) (fun j2 => j2 ≤ L.length ∧ ∀ b c, b < j2 → c < b → nd2 L i2 b c) (fun j2 => L.length - j2) 0 ?_ ?_ ?_
              · exact ⟨by omega, fun b c h => by omega⟩
              · exact Wk.intro (.cons rfl (by first | rfl | exact veq_int (by first | omega | (dsimp only; omega))) (.cons rfl (by first | rfl | exact veq_int (by first | omega | (dsimp only; omega))) (.cons rfl (by first | rfl | exact veq_int (by first | omega | (dsimp only; omega))) (.cons rfl (by first | rfl | exact veq_int (by first | omega | (dsimp only; omega))) (.cons rfl (by first | rfl | exact veq_int (by first | omega | (dsimp only; omega))) (.cons rfl (by first | rfl | exact veq_int (by first | omega | (dsimp only; omega))) (.cons rfl (by first | rfl | exact veq_int (by first | omega | (dsimp only; omega))) (.cons rfl (by first | rfl | exact veq_int (by first | omega | (dsimp only; omega))) (.cons rfl (by first | rfl | exact veq_int (by first | omega | (dsimp only; omega))) (.cons rfl (by first | rfl | exact veq_int (by first | omega | (dsimp only; omega))) (.cons rfl (by first | rfl | exact veq_int (by first | omega | (dsimp only; omega))) (.cons rfl (by first | rfl | exact veq_int (by first | omega | (dsimp only; omega))) (.cons rfl (by first | rfl | exact veq_int (by first | omega | (dsimp only; omega))) .nil))))))))))))) (.keep rfl rfl (fun _ h => h) .nil)
              · rintro j2 ⟨hj2, hR4⟩
                refine W_seq ?_
                refine W_seq ?_
                refine W_region ?_
                refine Ops_p (p_move rfl) (lt_dec rfl) ?_
                refine Ops_p (p_move rfl) (lt_dec rfl) ?_
                refine Ops_p (p_lss rfl rfl) (lt_dec rfl) ?_
                refine Ops_nil ?_
                refine W_cond rfl (fun h7 => ?_) (fun h7 => ?_)
                · try simp only [bs] at h7
                  refine W_skip ?_
                  refine W_seq ?_
                  refine W_block ?_
                  refine W_seq ?_
                  refine W_region ?_
                  refine Ops_p (p_assign rfl) (lt_dec rfl) ?_
                  refine Ops_nil ?_
                  refine W_block ?_
                  refine W_loop (α := Nat) (fun k => ⟨[(0, .raw a ha), (3, .int .i64 ((L.length : Nat) : Int)), (4, .int .i64 (L.length : Int)), (6, .int .i64 (i2 : Int)), (7, .int .i64 (j2 : Int)), (8, .int .i64 (k : Int)), (9, .raw a ha), (10, .int .i64 ((L.length : Nat) : Int)), (11, .int .i64 ((L.length : Nat) : Int)), (14, .int .i64 ((L.length : Nat) : Int)), (17, .int .i64 (L.length : Int)), (18, .int .i64 ((L.length : Nat) : Int)), (45, .int .i64 (i2 : Int)), (46, .int .i64 ((L.length : Nat) : Int)), (50, .int .i64 (j2 : Int)), (51, .int .i64 ((L.length : Nat) : Int))], [rss a L]⟩) (fun k => k ≤ j2 ∧ ∀ c, c < k → nd2 L i2 j2 c) (fun k => j2 - k) 0 ?_ ?_ ?_
                  · exact ⟨by omega, fun c h => by omega⟩
                  · exact Wk.intro (.cons rfl (by first | rfl | exact veq_int (by first | omega | (dsimp only; omega))) (.cons rfl (by first | rfl | exact veq_int (by first | omega | (dsimp only; omega))) (.cons rfl (by first | rfl | exact veq_int (by first | omega | (dsimp only; omega))) (.cons rfl (by first | rfl | exact veq_int (by first | omega | (dsimp only; omega))) (.cons rfl (by first | rfl | exact veq_int (by first | omega | (dsimp only; omega))) (.cons rfl (by first | rfl | exact veq_int (by first | omega | (dsimp only; omega))) (.cons rfl (by first | rfl | exact veq_int (by first | omega | (dsimp only; omega))) (.cons rfl (by first | rfl | exact veq_int (by first | omega | (dsimp only; omega))) (.cons rfl (by first | rfl | exact veq_int (by first | omega | (dsimp only; omega))) (.cons rfl (by first | rfl | exact veq_int (by first | omega | (dsimp only; omega))) (.cons rfl (by first | rfl | exact veq_int (by first | omega | (dsimp only; omega))) (.cons rfl (by first | rfl | exact veq_int (by first | omega | (dsimp only; omega))) (.cons rfl (by first | rfl | exact veq_int (by first | omega | (dsimp only; omega))) (.cons rfl (by first | rfl | exact veq_int (by first | omega | (dsimp only; omega))) (.cons rfl (by first | rfl | exact veq_int (by first | omega | (dsimp only; omega))) (.cons rfl (by first | rfl | exact veq_int (by first | omega | (dsimp only; omega))) .nil)))))))))))))))) (.keep rfl rfl (fun _ h => h) .nil)
                  · rintro k ⟨hk, hR5⟩
                    refine W_seq ?_
                    refine W_seq ?_
                    refine W_region ?_
                    refine Ops_p (p_move rfl) (lt_dec rfl) ?_
                    refine Ops_p (p_move rfl) (lt_dec rfl) ?_
                    refine Ops_p (p_lss rfl rfl) (lt_dec rfl) ?_
                    refine Ops_nil ?_
                    refine W_cond rfl (fun h8 => ?_) (fun h8 => ?_)
                    · try simp only [bs] at h8
                      refine W_skip ?_
                      refine W_seq ?_
                      refine W_block ?_
                      refine W_seq ?_
                      have hlk : (L.getD k sd).2.length = L.length := (hR1 k (by omega)).1
                      have hli : (L.getD i2 sd).2.length = L.length := (hR1 i2 (by omega)).1
                      have hlj : (L.getD j2 sd).2.length = L.length := (hR1 j2 (by omega)).1
                      refine W_draw (by kernel_rfl) ?_
                      show RA _ _ 52 _ _ _
                      refine RA_quietF [0, 1, 2, 3, 4, 5, 6, 7, 8, 9, 10, 11, 12, 13, 14, 15, 16, 17, 18, 19, 20, 21, 22, 23, 24, 25, 26, 27, 28, 29, 30, 31, 32, 33, 34, 35, 36, 37, 38, 39, 40, 41, 42, 43, 44, 45, 46, 47, 48, 49, 50, 51] rfl rfl rfl (by kernel_rfl) (by kernel_rfl) ?_
                      refine WQ_cons rfl rfl rfl ((p_move rfl).q) (lt_dec rfl) ?_
                      refine WQ_cons rfl rfl rfl ((p_move rfl).q) (lt_dec rfl) ?_
                      refine WQ_cons rfl rfl rfl ((q_ixR (i2) rfl rfl rfl (Rds.rssO m0) rfl rfl (by rw [valsR_len]; first | omega | (dsimp only; omega)) rfl)) (lt_dec rfl) ?_
                      refine WQ_cons rfl rfl rfl ((q_loadI (j := i2) rfl rfl (Rds.rssO m0) rfl (by first | omega | assumption) rfl rfl)) (lt_dec rfl) ?_
                      refine WQ_cons rfl rfl rfl ((p_move rfl).q) (lt_dec rfl) ?_
                      refine WQ_cons rfl rfl rfl ((q_ixR (j2) rfl rfl rfl (Rds.rssI (j := i2) m0 (by first | omega | assumption)) rfl rfl (by show _ < List.length _; first | omega | (dsimp only; omega)) rfl)) (lt_dec rfl) ?_
                      refine WQ_cons rfl rfl rfl ((q_loadR rfl rfl (Rds.rssI (j := i2) m0 (by first | omega | assumption)) rfl rfl (by first | omega | (dsimp only; omega)) rfl rfl rfl)) (lt_dec rfl) ?_
                      refine WQ_cons rfl rfl rfl ((p_geq rfl rfl).q) (lt_dec rfl) ?_
                      refine WQ_cons rfl rfl rfl ((p_move rfl).q) (lt_dec rfl) ?_
                      first | refine WQ_guard rfl rfl rfl (lt_dec rfl) (fun hg2 => ⟨_, (p_move rfl).q, ?_⟩) (fun hg2 => ?_)
                      · try simp only [bs] at hg2
                        first | refine WQ_guard rfl rfl rfl (lt_dec rfl) (fun _ => ⟨_, (p_move rfl).q, ?_⟩) (fun h => by cases h)
                        first | refine WQ_guard rfl rfl rfl (lt_dec rfl) (fun _ => ⟨_, (q_ixR (i2) rfl rfl rfl (Rds.rssO m0) rfl rfl (by rw [valsR_len]; first | omega | (dsimp only; omega)) rfl), ?_⟩) (fun h => by cases h)
                        first | refine WQ_guard rfl rfl rfl (lt_dec rfl) (fun _ => ⟨_, (q_loadI (j := i2) rfl rfl (Rds.rssO m0) rfl (by first | omega | assumption) rfl rfl), ?_⟩) (fun h => by cases h)
                        first | refine WQ_guard rfl rfl rfl (lt_dec rfl) (fun _ => ⟨_, (p_move rfl).q, ?_⟩) (fun h => by cases h)
                        first | refine WQ_guard rfl rfl rfl (lt_dec rfl) (fun _ => ⟨_, (q_ixR (j2) rfl rfl rfl (Rds.rssI (j := i2) m0 (by first | omega | assumption)) rfl rfl (by show _ < List.length _; first | omega | (dsimp only; omega)) rfl), ?_⟩) (fun h => by cases h)
                        first | refine WQ_guard rfl rfl rfl (lt_dec rfl) (fun _ => ⟨_, (q_loadR rfl rfl (Rds.rssI (j := i2) m0 (by first | omega | assumption)) rfl rfl (by first | omega | (dsimp only; omega)) rfl rfl rfl), ?_⟩) (fun h => by cases h)
                        first | refine WQ_guard rfl rfl rfl (lt_dec rfl) (fun _ => ⟨_, (p_move rfl).q, ?_⟩) (fun h => by cases h)
                        first | refine WQ_guard rfl rfl rfl (lt_dec rfl) (fun _ => ⟨_, (p_move rfl).q, ?_⟩) (fun h => by cases h)
                        first | refine WQ_guard rfl rfl rfl (lt_dec rfl) (fun _ => ⟨_, (q_ixR (i2) rfl rfl rfl (Rds.rssO m0) rfl rfl (by rw [valsR_len]; first | omega | (dsimp only; omega)) rfl), ?_⟩) (fun h => by cases h)
                        first | refine WQ_guard rfl rfl rfl (lt_dec rfl) (fun _ => ⟨_, (q_loadI (j := i2) rfl rfl (Rds.rssO m0) rfl (by first | omega | assumption) rfl rfl), ?_⟩) (fun h => by cases h)
                        first | refine WQ_guard rfl rfl rfl (lt_dec rfl) (fun _ => ⟨_, (p_move rfl).q, ?_⟩) (fun h => by cases h)
                        first | refine WQ_guard rfl rfl rfl (lt_dec rfl) (fun _ => ⟨_, (q_ixR (k) rfl rfl rfl (Rds.rssI (j := i2) m0 (by first | omega | assumption)) rfl rfl (by show _ < List.length _; first | omega | (dsimp only; omega)) rfl), ?_⟩) (fun h => by cases h)
                        first | refine WQ_guard rfl rfl rfl (lt_dec rfl) (fun _ => ⟨_, (q_loadR rfl rfl (Rds.rssI (j := i2) m0 (by first | omega | assumption)) rfl rfl (by first | omega | (dsimp only; omega)) rfl rfl rfl), ?_⟩) (fun h => by cases h)
                        first | refine WQ_guard rfl rfl rfl (lt_dec rfl) (fun _ => ⟨_, (p_eql rfl rfl).q, ?_⟩) (fun h => by cases h)
                        refine WQ_cons rfl rfl rfl ((p_pick_t rfl rfl).q) (lt_dec rfl) ?_
                        refine WQ_cons rfl rfl rfl ((p_move rfl).q) (lt_dec rfl) ?_
                        first | refine WQ_guard rfl rfl rfl (lt_dec rfl) (fun hg17 => ⟨_, (p_move rfl).q, ?_⟩) (fun hg17 => ?_)
                        · try simp only [bs] at hg17
                          first | refine WQ_guard rfl rfl rfl (lt_dec rfl) (fun _ => ⟨_, (p_move rfl).q, ?_⟩) (fun h => by cases h)
                          first | refine WQ_guard rfl rfl rfl (lt_dec rfl) (fun _ => ⟨_, (q_ixR (j2) rfl rfl rfl (Rds.rssO m0) rfl rfl (by rw [valsR_len]; first | omega | (dsimp only; omega)) rfl), ?_⟩) (fun h => by cases h)
                          first | refine WQ_guard rfl rfl rfl (lt_dec rfl) (fun _ => ⟨_, (q_loadI (j := j2) rfl rfl (Rds.rssO m0) rfl (by first | omega | assumption) rfl rfl), ?_⟩) (fun h => by cases h)
                          first | refine WQ_guard rfl rfl rfl (lt_dec rfl) (fun _ => ⟨_, (p_move rfl).q, ?_⟩) (fun h => by cases h)
                          first | refine WQ_guard rfl rfl rfl (lt_dec rfl) (fun _ => ⟨_, (q_ixR (i2) rfl rfl rfl (Rds.rssI (j := j2) m0 (by first | omega | assumption)) rfl rfl (by show _ < List.length _; first | omega | (dsimp only; omega)) rfl), ?_⟩) (fun h => by cases h)
                          first | refine WQ_guard rfl rfl rfl (lt_dec rfl) (fun _ => ⟨_, (q_loadR rfl rfl (Rds.rssI (j := j2) m0 (by first | omega | assumption)) rfl rfl (by first | omega | (dsimp only; omega)) rfl rfl rfl), ?_⟩) (fun h => by cases h)
                          first | refine WQ_guard rfl rfl rfl (lt_dec rfl) (fun _ => ⟨_, (p_geq rfl rfl).q, ?_⟩) (fun h => by cases h)
                          first | refine WQ_guard rfl rfl rfl (lt_dec rfl) (fun _ => ⟨_, (p_move rfl).q, ?_⟩) (fun h => by cases h)
                          first | refine WQ_guard rfl rfl rfl (lt_dec rfl) (fun hg26 => ⟨_, (p_move rfl).q, ?_⟩) (fun hg26 => ?_)
                          · try simp only [bs] at hg26
                            first | refine WQ_guard rfl rfl rfl (lt_dec rfl) (fun _ => ⟨_, (p_move rfl).q, ?_⟩) (fun h => by cases h)
                            first | refine WQ_guard rfl rfl rfl (lt_dec rfl) (fun _ => ⟨_, (q_ixR (j2) rfl rfl rfl (Rds.rssO m0) rfl rfl (by rw [valsR_len]; first | omega | (dsimp only; omega)) rfl), ?_⟩) (fun h => by cases h)
                            first | refine WQ_guard rfl rfl rfl (lt_dec rfl) (fun _ => ⟨_, (q_loadI (j := j2) rfl rfl (Rds.rssO m0) rfl (by first | omega | assumption) rfl rfl), ?_⟩) (fun h => by cases h)
                            first | refine WQ_guard rfl rfl rfl (lt_dec rfl) (fun _ => ⟨_, (p_move rfl).q, ?_⟩) (fun h => by cases h)
                            first | refine WQ_guard rfl rfl rfl (lt_dec rfl) (fun _ => ⟨_, (q_ixR (i2) rfl rfl rfl (Rds.rssI (j := j2) m0 (by first | omega | assumption)) rfl rfl (by show _ < List.length _; first | omega | (dsimp only; omega)) rfl), ?_⟩) (fun h => by cases h)
                            first | refine WQ_guard rfl rfl rfl (lt_dec rfl) (fun _ => ⟨_, (q_loadR rfl rfl (Rds.rssI (j := j2) m0 (by first | omega | assumption)) rfl rfl (by first | omega | (dsimp only; omega)) rfl rfl rfl), ?_⟩) (fun h => by cases h)
                            first | refine WQ_guard rfl rfl rfl (lt_dec rfl) (fun _ => ⟨_, (p_move rfl).q, ?_⟩) (fun h => by cases h)
                            first | refine WQ_guard rfl rfl rfl (lt_dec rfl) (fun _ => ⟨_, (p_move rfl).q, ?_⟩) (fun h => by cases h)
                            first | refine WQ_guard rfl rfl rfl (lt_dec rfl) (fun _ => ⟨_, (q_ixR (k) rfl rfl rfl (Rds.rssO m0) rfl rfl (by rw [valsR_len]; first | omega | (dsimp only; omega)) rfl), ?_⟩) (fun h => by cases h)
                            first | refine WQ_guard rfl rfl rfl (lt_dec rfl) (fun _ => ⟨_, (q_loadI (j := k) rfl rfl (Rds.rssO m0) rfl (by first | omega | assumption) rfl rfl), ?_⟩) (fun h => by cases h)
                            first | refine WQ_guard rfl rfl rfl (lt_dec rfl) (fun _ => ⟨_, (p_move rfl).q, ?_⟩) (fun h => by cases h)
                            first | refine WQ_guard rfl rfl rfl (lt_dec rfl) (fun _ => ⟨_, (q_ixR (i2) rfl rfl rfl (Rds.rssI (j := k) m0 (by first | omega | assumption)) rfl rfl (by show _ < List.length _; first | omega | (dsimp only; omega)) rfl), ?_⟩) (fun h => by cases h)
                            first | refine WQ_guard rfl rfl rfl (lt_dec rfl) (fun _ => ⟨_, (q_loadR rfl rfl (Rds.rssI (j := k) m0 (by first | omega | assumption)) rfl rfl (by first | omega | (dsimp only; omega)) rfl rfl rfl), ?_⟩) (fun h => by cases h)
                            first | refine WQ_guard rfl rfl rfl (lt_dec rfl) (fun _ => ⟨_, (p_eql rfl rfl).q, ?_⟩) (fun h => by cases h)
                            first | refine WQ_guard rfl rfl rfl (lt_dec rfl) (fun _ => ⟨_, (p_pick_t rfl rfl).q, ?_⟩) (fun h => by cases h)
                            refine WQ_cons rfl rfl rfl ((p_pick_f rfl rfl).q) (lt_dec rfl) ?_
                            refine WQ_nil ?_
                            refine W_cond rfl (fun h9 => ?_) (fun h9 => ?_)
                            · try simp only [bs] at h9
                              refine W_seq ?_
                              refine W_region ?_
                              refine Ops_p (p_assign rfl) (lt_dec rfl) ?_
                              refine Ops_nil ?_
                              refine W_ret ?_
                              refine Exists.intro _ (And.intro (.cons (.tmp rfl) .nil) ?_)
                              first | rfl | (refine veq_bool ?_; simp_all; done) | (refine veq_bool ?_; simp; omega) | (refine veq_bool ?_; rw [eq_comm, decide_eq_false_iff_not]; omega) | (refine veq_bool ?_; rw [eq_comm, decide_eq_true_iff]; omega) | (refine veq_int ?_; omega) | (refine veq_arr8 fun j hj => ?_; (try dsimp only); first | (simp; done) | (simp; omega) | ((repeat' split) <;> first | rfl | (exfalso; omega) | (congr 1; omega) | (simp_all; done))) | (exact veq_bool (isPar_n (by omega))) | (exact veq_bool (isPar_l (i := i) (by omega) (by unfold ln2; omega))) | (exact veq_bool (isPar_r (i := i) (j := j) (by omega) (by omega) (by assumption))) | (exact veq_bool (isPar_d (i := i2) (j := j2) (k := k) (by omega) (by omega) (by omega) (by unfold nd2 at2; omega))) | (exact veq_bool (isPar_t ⟨by omega, fun a h => (hR1 a h).1, fun a b ha hb => (hR1 a ha).2 b hb, fun a b c ha hb hc => hR3 a b c ha hb hc⟩))
                            · try simp only [bs] at h9
                              refine W_skip ?_
                              refine W_region ?_
                              refine Ops_p (p_move rfl) (lt_dec rfl) ?_
                              refine Ops_p (p_add rfl rfl (by exact ⟨(by first | omega | (dsimp only; omega)), (by first | omega | (dsimp only; omega))⟩)) (lt_dec rfl) ?_
                              refine Ops_p (p_assign rfl) (lt_dec rfl) ?_
                              refine Ops_nil ?_
                              refine Exists.intro (k + 1) (And.intro ?_ (And.intro ?_ ?_))
                              · exact ⟨by omega, fun c h => if e : c = k then by subst e; unfold nd2 at2; omega else hR5 c (by omega)⟩
                              · show _ < _; omega
                              · exact Wk.intro (.cons rfl (by first | rfl | exact veq_int (by first | omega | (dsimp only; omega))) (.cons rfl (by first | rfl | exact veq_int (by first | omega | (dsimp only; omega))) (.cons rfl (by first | rfl | exact veq_int (by first | omega | (dsimp only; omega))) (.cons rfl (by first | rfl | exact veq_int (by first | omega | (dsimp only; omega))) (.cons rfl (by first | rfl | exact veq_int (by first | omega | (dsimp only; omega))) (.cons rfl (by first | rfl | exact veq_int (by first | omega | (dsimp only; omega))) (.cons rfl (by first | rfl | exact veq_int (by first | omega | (dsimp only; omega))) (.cons rfl (by first | rfl | exact veq_int (by first | omega | (dsimp only; omega))) (.cons rfl (by first | rfl | exact veq_int (by first | omega | (dsimp only; omega))) (.cons rfl (by first | rfl | exact veq_int (by first | omega | (dsimp only; omega))) (.cons rfl (by first | rfl | exact veq_int (by first | omega | (dsimp only; omega))) (.cons rfl (by first | rfl | exact veq_int (by first | omega | (dsimp only; omega))) (.cons rfl (by first | rfl | exact veq_int (by first | omega | (dsimp only; omega))) (.cons rfl (by first | rfl | exact veq_int (by first | omega | (dsimp only; omega))) (.cons rfl (by first | rfl | exact veq_int (by first | omega | (dsimp only; omega))) (.cons rfl (by first | rfl | exact veq_int (by first | omega | (dsimp only; omega))) .nil)))))))))))))))) (.keep rfl rfl (fun _ h => h) .nil)
                          · try simp only [bs] at hg26
                            refine WQ_guard rfl rfl rfl (lt_dec rfl) (fun h => by cases h) (fun _ => ?_)
                            refine WQ_guard rfl rfl rfl (lt_dec rfl) (fun h => by cases h) (fun _ => ?_)
                            refine WQ_guard rfl rfl rfl (lt_dec rfl) (fun h => by cases h) (fun _ => ?_)
                            refine WQ_guard rfl rfl rfl (lt_dec rfl) (fun h => by cases h) (fun _ => ?_)
                            refine WQ_guard rfl rfl rfl (lt_dec rfl) (fun h => by cases h) (fun _ => ?_)
                            refine WQ_guard rfl rfl rfl (lt_dec rfl) (fun h => by cases h) (fun _ => ?_)
                            refine WQ_guard rfl rfl rfl (lt_dec rfl) (fun h => by cases h) (fun _ => ?_)
                            refine WQ_guard rfl rfl rfl (lt_dec rfl) (fun h => by cases h) (fun _ => ?_)
                            refine WQ_guard rfl rfl rfl (lt_dec rfl) (fun h => by cases h) (fun _ => ?_)
                            refine WQ_guard rfl rfl rfl (lt_dec rfl) (fun h => by cases h) (fun _ => ?_)
                            refine WQ_guard rfl rfl rfl (lt_dec rfl) (fun h => by cases h) (fun _ => ?_)
                            refine WQ_guard rfl rfl rfl (lt_dec rfl) (fun h => by cases h) (fun _ => ?_)
                            refine WQ_guard rfl rfl rfl (lt_dec rfl) (fun h => by cases h) (fun _ => ?_)
                            refine WQ_guard rfl rfl rfl (lt_dec rfl) (fun h => by cases h) (fun _ => ?_)
                            first | refine WQ_guard rfl rfl rfl (lt_dec rfl) (fun _ => ⟨_, (p_pick_f rfl rfl).q, ?_⟩) (fun h => by cases h)
                            refine WQ_cons rfl rfl rfl ((p_pick_f rfl rfl).q) (lt_dec rfl) ?_
                            refine WQ_nil ?_
                            refine W_false rfl ?_
                            refine W_skip ?_
                            refine W_region ?_
                            refine Ops_p (p_move rfl) (lt_dec rfl) ?_
                            refine Ops_p (p_add rfl rfl (by exact ⟨(by first | omega | (dsimp only; omega)), (by first | omega | (dsimp only; omega))⟩)) (lt_dec rfl) ?_
                            refine Ops_p (p_assign rfl) (lt_dec rfl) ?_
                            refine Ops_nil ?_
                            refine Exists.intro (k + 1) (And.intro ?_ (And.intro ?_ ?_))
                            · exact ⟨by omega, fun c h => if e : c = k then by subst e; unfold nd2 at2; omega else hR5 c (by omega)⟩
                            · show _ < _; omega
                            · exact Wk.intro (.cons rfl (by first | rfl | exact veq_int (by first | omega | (dsimp only; omega))) (.cons rfl (by first | rfl | exact veq_int (by first | omega | (dsimp only; omega))) (.cons rfl (by first | rfl | exact veq_int (by first | omega | (dsimp only; omega))) (.cons rfl (by first | rfl | exact veq_int (by first | omega | (dsimp only; omega))) (.cons rfl (by first | rfl | exact veq_int (by first | omega | (dsimp only; omega))) (.cons rfl (by first | rfl | exact veq_int (by first | omega | (dsimp only; omega))) (.cons rfl (by first | rfl | exact veq_int (by first | omega | (dsimp only; omega))) (.cons rfl (by first | rfl | exact veq_int (by first | omega | (dsimp only; omega))) (.cons rfl (by first | rfl | exact veq_int (by first | omega | (dsimp only; omega))) (.cons rfl (by first | rfl | exact veq_int (by first | omega | (dsimp only; omega))) (.cons rfl (by first | rfl | exact veq_int (by first | omega | (dsimp only; omega))) (.cons rfl (by first | rfl | exact veq_int (by first | omega | (dsimp only; omega))) (.cons rfl (by first | rfl | exact veq_int (by first | omega | (dsimp only; omega))) (.cons rfl (by first | rfl | exact veq_int (by first | omega | (dsimp only; omega))) (.cons rfl (by first | rfl | exact veq_int (by first | omega | (dsimp only; omega))) (.cons rfl (by first | rfl | exact veq_int (by first | omega | (dsimp only; omega))) .nil)))))))))))))))) (.keep rfl rfl (fun _ h => h) .nil)
                        · try simp only [bs] at hg17
                          refine WQ_guard rfl rfl rfl (lt_dec rfl) (fun h => by cases h) (fun _ => ?_)
                          refine WQ_guard rfl rfl rfl (lt_dec rfl) (fun h => by cases h) (fun _ => ?_)
                          refine WQ_guard rfl rfl rfl (lt_dec rfl) (fun h => by cases h) (fun _ => ?_)
                          refine WQ_guard rfl rfl rfl (lt_dec rfl) (fun h => by cases h) (fun _ => ?_)
                          refine WQ_guard rfl rfl rfl (lt_dec rfl) (fun h => by cases h) (fun _ => ?_)
                          refine WQ_guard rfl rfl rfl (lt_dec rfl) (fun h => by cases h) (fun _ => ?_)
                          refine WQ_guard rfl rfl rfl (lt_dec rfl) (fun h => by cases h) (fun _ => ?_)
                          refine WQ_guard rfl rfl rfl (lt_dec rfl) (fun h => by cases h) (fun _ => ?_)
                          refine WQ_guard_u rfl rfl rfl (lt_dec rfl) ?_
                          refine WQ_guard_u rfl rfl rfl (lt_dec rfl) ?_
                          refine WQ_guard_u rfl rfl rfl (lt_dec rfl) ?_
                          refine WQ_guard_u rfl rfl rfl (lt_dec rfl) ?_
                          refine WQ_guard_u rfl rfl rfl (lt_dec rfl) ?_
                          refine WQ_guard_u rfl rfl rfl (lt_dec rfl) ?_
                          refine WQ_guard_u rfl rfl rfl (lt_dec rfl) ?_
                          refine WQ_guard_u rfl rfl rfl (lt_dec rfl) ?_
                          refine WQ_guard_u rfl rfl rfl (lt_dec rfl) ?_
                          refine WQ_guard_u rfl rfl rfl (lt_dec rfl) ?_
                          refine WQ_guard_u rfl rfl rfl (lt_dec rfl) ?_
                          refine WQ_guard_u rfl rfl rfl (lt_dec rfl) ?_
                          refine WQ_guard_u rfl rfl rfl (lt_dec rfl) ?_
                          refine WQ_guard_u rfl rfl rfl (lt_dec rfl) ?_
                          refine WQ_guard_u rfl rfl rfl (lt_dec rfl) ?_
                          refine WQ_guard rfl rfl rfl (lt_dec rfl) (fun h => by cases h) (fun _ => ?_)
                          refine WQ_cons rfl rfl rfl ((p_pick_t rfl rfl).q) (lt_dec rfl) ?_
                          refine WQ_nil ?_
                          refine W_true rfl ?_
                          refine W_seq ?_
                          refine W_region ?_
                          refine Ops_p (p_assign rfl) (lt_dec rfl) ?_
                          refine Ops_nil ?_
                          refine W_ret ?_
                          refine Exists.intro _ (And.intro (.cons (.tmp rfl) .nil) ?_)
                          first | rfl | (refine veq_bool ?_; simp_all; done) | (refine veq_bool ?_; simp; omega) | (refine veq_bool ?_; rw [eq_comm, decide_eq_false_iff_not]; omega) | (refine veq_bool ?_; rw [eq_comm, decide_eq_true_iff]; omega) | (refine veq_int ?_; omega) | (refine veq_arr8 fun j hj => ?_; (try dsimp only); first | (simp; done) | (simp; omega) | ((repeat' split) <;> first | rfl | (exfalso; omega) | (congr 1; omega) | (simp_all; done))) | (exact veq_bool (isPar_n (by omega))) | (exact veq_bool (isPar_l (i := i) (by omega) (by unfold ln2; omega))) | (exact veq_bool (isPar_r (i := i) (j := j) (by omega) (by omega) (by assumption))) | (exact veq_bool (isPar_d (i := i2) (j := j2) (k := k) (by omega) (by omega) (by omega) (by unfold nd2 at2; omega))) | (exact veq_bool (isPar_t ⟨by omega, fun a h => (hR1 a h).1, fun a b ha hb => (hR1 a ha).2 b hb, fun a b c ha hb hc => hR3 a b c ha hb hc⟩))
                      · try simp only [bs] at hg2
                        refine WQ_guard rfl rfl rfl (lt_dec rfl) (fun h => by cases h) (fun _ => ?_)
                        refine WQ_guard rfl rfl rfl (lt_dec rfl) (fun h => by cases h) (fun _ => ?_)
                        refine WQ_guard rfl rfl rfl (lt_dec rfl) (fun h => by cases h) (fun _ => ?_)
                        refine WQ_guard rfl rfl rfl (lt_dec rfl) (fun h => by cases h) (fun _ => ?_)
                        refine WQ_guard rfl rfl rfl (lt_dec rfl) (fun h => by cases h) (fun _ => ?_)
                        refine WQ_guard rfl rfl rfl (lt_dec rfl) (fun h => by cases h) (fun _ => ?_)
                        refine WQ_guard rfl rfl rfl (lt_dec rfl) (fun h => by cases h) (fun _ => ?_)
                        refine WQ_guard rfl rfl rfl (lt_dec rfl) (fun h => by cases h) (fun _ => ?_)
                        refine WQ_guard rfl rfl rfl (lt_dec rfl) (fun h => by cases h) (fun _ => ?_)
                        refine WQ_guard rfl rfl rfl (lt_dec rfl) (fun h => by cases h) (fun _ => ?_)
                        refine WQ_guard rfl rfl rfl (lt_dec rfl) (fun h => by cases h) (fun _ => ?_)
                        refine WQ_guard rfl rfl rfl (lt_dec rfl) (fun h => by cases h) (fun _ => ?_)
                        refine WQ_guard rfl rfl rfl (lt_dec rfl) (fun h => by cases h) (fun _ => ?_)
                        refine WQ_guard rfl rfl rfl (lt_dec rfl) (fun h => by cases h) (fun _ => ?_)
                        refine WQ_cons rfl rfl rfl ((p_pick_f rfl rfl).q) (lt_dec rfl) ?_
                        refine WQ_cons rfl rfl rfl ((p_move rfl).q) (lt_dec rfl) ?_
                        first | refine WQ_guard rfl rfl rfl (lt_dec rfl) (fun _ => ⟨_, (p_move rfl).q, ?_⟩) (fun h => by cases h)
                        first | refine WQ_guard rfl rfl rfl (lt_dec rfl) (fun _ => ⟨_, (p_move rfl).q, ?_⟩) (fun h => by cases h)
                        first | refine WQ_guard rfl rfl rfl (lt_dec rfl) (fun _ => ⟨_, (q_ixR (j2) rfl rfl rfl (Rds.rssO m0) rfl rfl (by rw [valsR_len]; first | omega | (dsimp only; omega)) rfl), ?_⟩) (fun h => by cases h)
                        first | refine WQ_guard rfl rfl rfl (lt_dec rfl) (fun _ => ⟨_, (q_loadI (j := j2) rfl rfl (Rds.rssO m0) rfl (by first | omega | assumption) rfl rfl), ?_⟩) (fun h => by cases h)
                        first | refine WQ_guard rfl rfl rfl (lt_dec rfl) (fun _ => ⟨_, (p_move rfl).q, ?_⟩) (fun h => by cases h)
                        first | refine WQ_guard rfl rfl rfl (lt_dec rfl) (fun _ => ⟨_, (q_ixR (i2) rfl rfl rfl (Rds.rssI (j := j2) m0 (by first | omega | assumption)) rfl rfl (by show _ < List.length _; first | omega | (dsimp only; omega)) rfl), ?_⟩) (fun h => by cases h)
                        first | refine WQ_guard rfl rfl rfl (lt_dec rfl) (fun _ => ⟨_, (q_loadR rfl rfl (Rds.rssI (j := j2) m0 (by first | omega | assumption)) rfl rfl (by first | omega | (dsimp only; omega)) rfl rfl rfl), ?_⟩) (fun h => by cases h)
                        first | refine WQ_guard rfl rfl rfl (lt_dec rfl) (fun _ => ⟨_, (p_geq rfl rfl).q, ?_⟩) (fun h => by cases h)
                        first | refine WQ_guard rfl rfl rfl (lt_dec rfl) (fun _ => ⟨_, (p_move rfl).q, ?_⟩) (fun h => by cases h)
                        first | refine WQ_guard rfl rfl rfl (lt_dec rfl) (fun hg104 => ⟨_, (p_move rfl).q, ?_⟩) (fun hg104 => ?_)
                        · try simp only [bs] at hg104
                          first | refine WQ_guard rfl rfl rfl (lt_dec rfl) (fun _ => ⟨_, (p_move rfl).q, ?_⟩) (fun h => by cases h)
                          first | refine WQ_guard rfl rfl rfl (lt_dec rfl) (fun _ => ⟨_, (q_ixR (j2) rfl rfl rfl (Rds.rssO m0) rfl rfl (by rw [valsR_len]; first | omega | (dsimp only; omega)) rfl), ?_⟩) (fun h => by cases h)
                          first | refine WQ_guard rfl rfl rfl (lt_dec rfl) (fun _ => ⟨_, (q_loadI (j := j2) rfl rfl (Rds.rssO m0) rfl (by first | omega | assumption) rfl rfl), ?_⟩) (fun h => by cases h)
                          first | refine WQ_guard rfl rfl rfl (lt_dec rfl) (fun _ => ⟨_, (p_move rfl).q, ?_⟩) (fun h => by cases h)
                          first | refine WQ_guard rfl rfl rfl (lt_dec rfl) (fun _ => ⟨_, (q_ixR (i2) rfl rfl rfl (Rds.rssI (j := j2) m0 (by first | omega | assumption)) rfl rfl (by show _ < List.length _; first | omega | (dsimp only; omega)) rfl), ?_⟩) (fun h => by cases h)
                          first | refine WQ_guard rfl rfl rfl (lt_dec rfl) (fun _ => ⟨_, (q_loadR rfl rfl (Rds.rssI (j := j2) m0 (by first | omega | assumption)) rfl rfl (by first | omega | (dsimp only; omega)) rfl rfl rfl), ?_⟩) (fun h => by cases h)
                          first | refine WQ_guard rfl rfl rfl (lt_dec rfl) (fun _ => ⟨_, (p_move rfl).q, ?_⟩) (fun h => by cases h)
                          first | refine WQ_guard rfl rfl rfl (lt_dec rfl) (fun _ => ⟨_, (p_move rfl).q, ?_⟩) (fun h => by cases h)
                          first | refine WQ_guard rfl rfl rfl (lt_dec rfl) (fun _ => ⟨_, (q_ixR (k) rfl rfl rfl (Rds.rssO m0) rfl rfl (by rw [valsR_len]; first | omega | (dsimp only; omega)) rfl), ?_⟩) (fun h => by cases h)
                          first | refine WQ_guard rfl rfl rfl (lt_dec rfl) (fun _ => ⟨_, (q_loadI (j := k) rfl rfl (Rds.rssO m0) rfl (by first | omega | assumption) rfl rfl), ?_⟩) (fun h => by cases h)
                          first | refine WQ_guard rfl rfl rfl (lt_dec rfl) (fun _ => ⟨_, (p_move rfl).q, ?_⟩) (fun h => by cases h)
                          first | refine WQ_guard rfl rfl rfl (lt_dec rfl) (fun _ => ⟨_, (q_ixR (i2) rfl rfl rfl (Rds.rssI (j := k) m0 (by first | omega | assumption)) rfl rfl (by show _ < List.length _; first | omega | (dsimp only; omega)) rfl), ?_⟩) (fun h => by cases h)
                          first | refine WQ_guard rfl rfl rfl (lt_dec rfl) (fun _ => ⟨_, (q_loadR rfl rfl (Rds.rssI (j := k) m0 (by first | omega | assumption)) rfl rfl (by first | omega | (dsimp only; omega)) rfl rfl rfl), ?_⟩) (fun h => by cases h)
                          first | refine WQ_guard rfl rfl rfl (lt_dec rfl) (fun _ => ⟨_, (p_eql rfl rfl).q, ?_⟩) (fun h => by cases h)
                          first | refine WQ_guard rfl rfl rfl (lt_dec rfl) (fun _ => ⟨_, (p_pick_t rfl rfl).q, ?_⟩) (fun h => by cases h)
                          refine WQ_cons rfl rfl rfl ((p_pick_f rfl rfl).q) (lt_dec rfl) ?_
                          refine WQ_nil ?_
                          refine W_cond rfl (fun h10 => ?_) (fun h10 => ?_)
                          · try simp only [bs] at h10
                            refine W_seq ?_
                            refine W_region ?_
                            refine Ops_p (p_assign rfl) (lt_dec rfl) ?_
                            refine Ops_nil ?_
                            refine W_ret ?_
                            refine Exists.intro _ (And.intro (.cons (.tmp rfl) .nil) ?_)
                            first | rfl | (refine veq_bool ?_; simp_all; done) | (refine veq_bool ?_; simp; omega) | (refine veq_bool ?_; rw [eq_comm, decide_eq_false_iff_not]; omega) | (refine veq_bool ?_; rw [eq_comm, decide_eq_true_iff]; omega) | (refine veq_int ?_; omega) | (refine veq_arr8 fun j hj => ?_; (try dsimp only); first | (simp; done) | (simp; omega) | ((repeat' split) <;> first | rfl | (exfalso; omega) | (congr 1; omega) | (simp_all; done))) | (exact veq_bool (isPar_n (by omega))) | (exact veq_bool (isPar_l (i := i) (by omega) (by unfold ln2; omega))) | (exact veq_bool (isPar_r (i := i) (j := j) (by omega) (by omega) (by assumption))) | (exact veq_bool (isPar_d (i := i2) (j := j2) (k := k) (by omega) (by omega) (by omega) (by unfold nd2 at2; omega))) | (exact veq_bool (isPar_t ⟨by omega, fun a h => (hR1 a h).1, fun a b ha hb => (hR1 a ha).2 b hb, fun a b c ha hb hc => hR3 a b c ha hb hc⟩))
                          · try simp only [bs] at h10
                            refine W_skip ?_
                            refine W_region ?_
                            refine Ops_p (p_move rfl) (lt_dec rfl) ?_
                            refine Ops_p (p_add rfl rfl (by exact ⟨(by first | omega | (dsimp only; omega)), (by first | omega | (dsimp only; omega))⟩)) (lt_dec rfl) ?_
                            refine Ops_p (p_assign rfl) (lt_dec rfl) ?_
                            refine Ops_nil ?_
                            refine Exists.intro (k + 1) (And.intro ?_ (And.intro ?_ ?_))
                            · exact ⟨by omega, fun c h => if e : c = k then by subst e; unfold nd2 at2; omega else hR5 c (by omega)⟩
                            · show _ < _; omega
                            · exact Wk.intro (.cons rfl (by first | rfl | exact veq_int (by first | omega | (dsimp only; omega))) (.cons rfl (by first | rfl | exact veq_int (by first | omega | (dsimp only; omega))) (.cons rfl (by first | rfl | exact veq_int (by first | omega | (dsimp only; omega))) (.cons rfl (by first | rfl | exact veq_int (by first | omega | (dsimp only; omega))) (.cons rfl (by first | rfl | exact veq_int (by first | omega | (dsimp only; omega))) (.cons rfl (by first | rfl | exact veq_int (by first | omega | (dsimp only; omega))) (.cons rfl (by first | rfl | exact veq_int (by first | omega | (dsimp only; omega))) (.cons rfl (by first | rfl | exact veq_int (by first | omega | (dsimp only; omega))) (.cons rfl (by first | rfl | exact veq_int (by first | omega | (dsimp only; omega))) (.cons rfl (by first | rfl | exact veq_int (by first | omega | (dsimp only; omega))) (.cons rfl (by first | rfl | exact veq_int (by first | omega | (dsimp only; omega))) (.cons rfl (by first | rfl | exact veq_int (by first | omega | (dsimp only; omega))) (.cons rfl (by first | rfl | exact veq_int (by first | omega | (dsimp only; omega))) (.cons rfl (by first | rfl | exact veq_int (by first | omega | (dsimp only; omega))) (.cons rfl (by first | rfl | exact veq_int (by first | omega | (dsimp only; omega))) (.cons rfl (by first | rfl | exact veq_int (by first | omega | (dsimp only; omega))) .nil)))))))))))))))) (.keep rfl rfl (fun _ h => h) .nil)
                        · try simp only [bs] at hg104
                          refine WQ_guard rfl rfl rfl (lt_dec rfl) (fun h => by cases h) (fun _ => ?_)
                          refine WQ_guard rfl rfl rfl (lt_dec rfl) (fun h => by cases h) (fun _ => ?_)
                          refine WQ_guard rfl rfl rfl (lt_dec rfl) (fun h => by cases h) (fun _ => ?_)
                          refine WQ_guard rfl rfl rfl (lt_dec rfl) (fun h => by cases h) (fun _ => ?_)
                          refine WQ_guard rfl rfl rfl (lt_dec rfl) (fun h => by cases h) (fun _ => ?_)
                          refine WQ_guard rfl rfl rfl (lt_dec rfl) (fun h => by cases h) (fun _ => ?_)
                          refine WQ_guard rfl rfl rfl (lt_dec rfl) (fun h => by cases h) (fun _ => ?_)
                          refine WQ_guard rfl rfl rfl (lt_dec rfl) (fun h => by cases h) (fun _ => ?_)
                          refine WQ_guard rfl rfl rfl (lt_dec rfl) (fun h => by cases h) (fun _ => ?_)
                          refine WQ_guard rfl rfl rfl (lt_dec rfl) (fun h => by cases h) (fun _ => ?_)
                          refine WQ_guard rfl rfl rfl (lt_dec rfl) (fun h => by cases h) (fun _ => ?_)
                          refine WQ_guard rfl rfl rfl (lt_dec rfl) (fun h => by cases h) (fun _ => ?_)
                          refine WQ_guard rfl rfl rfl (lt_dec rfl) (fun h => by cases h) (fun _ => ?_)
                          refine WQ_guard rfl rfl rfl (lt_dec rfl) (fun h => by cases h) (fun _ => ?_)
                          first | refine WQ_guard rfl rfl rfl (lt_dec rfl) (fun _ => ⟨_, (p_pick_f rfl rfl).q, ?_⟩) (fun h => by cases h)
                          refine WQ_cons rfl rfl rfl ((p_pick_f rfl rfl).q) (lt_dec rfl) ?_
                          refine WQ_nil ?_
                          refine W_false rfl ?_
                          refine W_skip ?_
                          refine W_region ?_
                          refine Ops_p (p_move rfl) (lt_dec rfl) ?_
                          refine Ops_p (p_add rfl rfl (by exact ⟨(by first | omega | (dsimp only; omega)), (by first | omega | (dsimp only; omega))⟩)) (lt_dec rfl) ?_
                          refine Ops_p (p_assign rfl) (lt_dec rfl) ?_
                          refine Ops_nil ?_
                          refine Exists.intro (k + 1) (And.intro ?_ (And.intro ?_ ?_))
                          · exact ⟨by omega, fun c h => if e : c = k then by subst e; unfold nd2 at2; omega else hR5 c (by omega)⟩
                          · show _ < _; omega
                          · exact Wk.intro (.cons rfl (by first | rfl | exact veq_int (by first | omega | (dsimp only; omega))) (.cons rfl (by first | rfl | exact veq_int (by first | omega | (dsimp only; omega))) (.cons rfl (by first | rfl | exact veq_int (by first | omega | (dsimp only; omega))) (.cons rfl (by first | rfl | exact veq_int (by first | omega | (dsimp only; omega))) (.cons rfl (by first | rfl | exact veq_int (by first | omega | (dsimp only; omega))) (.cons rfl (by first | rfl | exact veq_int (by first | omega | (dsimp only; omega))) (.cons rfl (by first | rfl | exact veq_int (by first | omega | (dsimp only; omega))) (.cons rfl (by first | rfl | exact veq_int (by first | omega | (dsimp only; omega))) (.cons rfl (by first | rfl | exact veq_int (by first | omega | (dsimp only; omega))) (.cons rfl (by first | rfl | exact veq_int (by first | omega | (dsimp only; omega))) (.cons rfl (by first | rfl | exact veq_int (by first | omega | (dsimp only; omega))) (.cons rfl (by first | rfl | exact veq_int (by first | omega | (dsimp only; omega))) (.cons rfl (by first | rfl | exact veq_int (by first | omega | (dsimp only; omega))) (.cons rfl (by first | rfl | exact veq_int (by first | omega | (dsimp only; omega))) (.cons rfl (by first | rfl | exact veq_int (by first | omega | (dsimp only; omega))) (.cons rfl (by first | rfl | exact veq_int (by first | omega | (dsimp only; omega))) .nil)))))))))))))))) (.keep rfl rfl (fun _ h => h) .nil)
                    · try simp only [bs] at h8
                      obtain rfl : j2 = k := (by omega)
                      refine W_exit ?_
                      refine W_region ?_
                      refine Ops_p (p_move rfl) (lt_dec rfl) ?_
                      refine Ops_p (p_add rfl rfl (by exact ⟨(by first | omega | (dsimp only; omega)), (by first | omega | (dsimp only; omega))⟩)) (lt_dec rfl) ?_
                      refine Ops_p (p_assign rfl) (lt_dec rfl) ?_
                      refine Ops_nil ?_
                      refine Exists.intro (j2 + 1) (And.intro ?_ (And.intro ?_ ?_))
                      · exact ⟨by omega, fun b c h hc => if e : b = j2 then by subst e; exact hR5 c hc else hR4 b c (by omega) hc⟩
                      · show _ < _; omega
                      · exact Wk.intro (.cons rfl (by first | rfl | exact veq_int (by first | omega | (dsimp only; omega))) (.cons rfl (by first | rfl | exact veq_int (by first | omega | (dsimp only; omega))) (.cons rfl (by first | rfl | exact veq_int (by first | omega | (dsimp only; omega))) (.cons rfl (by first | rfl | exact veq_int (by first | omega | (dsimp only; omega))) (.cons rfl (by first | rfl | exact veq_int (by first | omega | (dsimp only; omega))) (.cons rfl (by first | rfl | exact veq_int (by first | omega | (dsimp only; omega))) (.cons rfl (by first | rfl | exact veq_int (by first | omega | (dsimp only; omega))) (.cons rfl (by first | rfl | exact veq_int (by first | omega | (dsimp only; omega))) (.cons rfl (by first | rfl | exact veq_int (by first | omega | (dsimp only; omega))) (.cons rfl (by first | rfl | exact veq_int (by first | omega | (dsimp only; omega))) (.cons rfl (by first | rfl | exact veq_int (by first | omega | (dsimp only; omega))) (.cons rfl (by first | rfl | exact veq_int (by first | omega | (dsimp only; omega))) (.cons rfl (by first | rfl | exact veq_int (by first | omega | (dsimp only; omega))) .nil))))))))))))) (.keep rfl rfl (fun _ h => h) .nil)
                · try simp only [bs] at h7
                  obtain rfl : j2 = L.length := (by omega)
                  refine W_exit ?_
                  refine W_region ?_
                  refine Ops_p (p_move rfl) (lt_dec rfl) ?_
                  refine Ops_p (p_add rfl rfl (by exact ⟨(by first | omega | (dsimp only; omega)), (by first | omega | (dsimp only; omega))⟩)) (lt_dec rfl) ?_
                  refine Ops_p (p_assign rfl) (lt_dec rfl) ?_
                  refine Ops_nil ?_
                  refine Exists.intro (i2 + 1) (And.intro ?_ (And.intro ?_ ?_))
                  · exact ⟨by omega, fun a b c h hb hc => if e : a = i2 then by subst e; exact hR4 b c hb hc else hR3 a b c (by omega) hb hc⟩
                  · show _ < _; omega
                  · exact Wk.intro (.cons rfl (by first | rfl | exact veq_int (by first | omega | (dsimp only; omega))) (.cons rfl (by first | rfl | exact veq_int (by first | omega | (dsimp only; omega))) (.cons rfl (by first | rfl | exact veq_int (by first | omega | (dsimp only; omega))) (.cons rfl (by first | rfl | exact veq_int (by first | omega | (dsimp only; omega))) (.cons rfl (by first | rfl | exact veq_int (by first | omega | (dsimp only; omega))) (.cons rfl (by first | rfl | exact veq_int (by first | omega | (dsimp only; omega))) (.cons rfl (by first | rfl | exact veq_int (by first | omega | (dsimp only; omega))) (.cons rfl (by first | rfl | exact veq_int (by first | omega | (dsimp only; omega))) (.cons rfl (by first | rfl | exact veq_int (by first | omega | (dsimp only; omega))) (.cons rfl (by first | rfl | exact veq_int (by first | omega | (dsimp only; omega))) .nil)))))))))) (.keep rfl rfl (fun _ h => h) .nil)
            · try simp only [bs] at h6
              obtain rfl : i2 = L.length := (by omega)
              refine W_exit ?_
              refine W_seq ?_
              refine W_region ?_
              refine Ops_p (p_assign rfl) (lt_dec rfl) ?_
              refine Ops_nil ?_
              refine W_ret ?_
              refine Exists.intro _ (And.intro (.cons (.tmp rfl) .nil) ?_)
              first | rfl | (refine veq_bool ?_; simp_all; done) | (refine veq_bool ?_; simp; omega) | (refine veq_bool ?_; rw [eq_comm, decide_eq_false_iff_not]; omega) | (refine veq_bool ?_; rw [eq_comm, decide_eq_true_iff]; omega) | (refine veq_int ?_; omega) | (refine veq_arr8 fun j hj => ?_; (try dsimp only); first | (simp; done) | (simp; omega) | ((repeat' split) <;> first | rfl | (exfalso; omega) | (congr 1; omega) | (simp_all; done))) | (exact veq_bool (isPar_n (by omega))) | (exact veq_bool (isPar_l (i := i) (by omega) (by unfold ln2; omega))) | (exact veq_bool (isPar_r (i := i) (j := j) (by omega) (by omega) (by assumption))) | (exact veq_bool (isPar_d (i := i2) (j := j2) (k := k) (by omega) (by omega) (by omega) (by unfold nd2 at2; omega))) | (exact veq_bool (isPar_t ⟨by omega, fun a h => (hR1 a h).1, fun a b ha hb => (hR1 a ha).2 b hb, fun a b c ha hb hc => hR3 a b c ha hb hc⟩))
  · try simp only [bs] at hg1
    refine Ops_guard_f rfl rfl rfl (lt_dec rfl) ?_
    refine Ops_p (p_pick_t rfl rfl) (lt_dec rfl) ?_
    refine Ops_nil ?_
    refine W_true rfl ?_
    refine W_seq ?_
    refine W_region ?_
    refine Ops_p (p_assign rfl) (lt_dec rfl) ?_
    refine Ops_nil ?_
    refine W_ret ?_
    refine Exists.intro _ (And.intro (.cons (.tmp rfl) .nil) ?_)
    first | rfl | (refine veq_bool ?_; simp_all; done) | (refine veq_bool ?_; simp; omega) | (refine veq_bool ?_; rw [eq_comm, decide_eq_false_iff_not]; omega) | (refine veq_bool ?_; rw [eq_comm, decide_eq_true_iff]; omega) | (refine veq_int ?_; omega) | (refine veq_arr8 fun j hj => ?_; (try dsimp only); first | (simp; done) | (simp; omega) | ((repeat' split) <;> first | rfl | (exfalso; omega) | (congr 1; omega) | (simp_all; done))) | (exact veq_bool (isPar_n (by omega))) | (exact veq_bool (isPar_l (i := i) (by omega) (by unfold ln2; omega))) | (exact veq_bool (isPar_r (i := i) (j := j) (by omega) (by omega) (by assumption))) | (exact veq_bool (isPar_d (i := i2) (j := j2) (k := k) (by omega) (by omega) (by omega) (by unfold nd2 at2; omega))) | (exact veq_bool (isPar_t ⟨by omega, fun a h => (hR1 a h).1, fun a b ha hb => (hR1 a ha).2 b hb, fun a b c ha hb hc => hR3 a b c ha hb hc⟩))
end Go.Proofs.Ytdcpggdbjllmpab
