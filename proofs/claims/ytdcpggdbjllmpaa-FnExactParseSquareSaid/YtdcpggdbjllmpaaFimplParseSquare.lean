/- What the Go function impl.ParseSquare does, shown of its loaded text; its conditions stand in the statement. -/
import Derived.Test.YtdcpggdbjllmpaaTy
import Derived.Test.YtdcpggdbjllmpaaFimplIsSquare
import Derived.Test.YtdcpggdbjllmpaaFimplParseSquareX1
import Derived.Test.YtdcpggdbjllmpaaFimplmade
import Derived.Test.YtdcpggdbjllmpaaFimplsquareText
import Derived.Test.YtdcpggdbjllmpaaGx12
import Derived.Test.YtdcpggdbjllmpaaGx14
import Derived.Test.YtdcpggdbjllmpaaGx27
import Derived.Test.YtdcpggdbjllmpaaGx31
import Derived.Test.YtdcpggdbjllmpaaM39
namespace Go.Proofs.Ytdcpggdbjllmpaa
open Go Gx
set_option linter.unusedVariables false
theorem en_impl_ParseSquare : Enters Try.prog 26 := enters_of Try.func26 (by kernel_rfl) (by kernel_rfl)
set_option maxRecDepth 100000 in
set_option maxHeartbeats 1000000 in
theorem w_impl_ParseSquare {s : List (Fin 256)} (hs : s.length ≤ 1048576) : CR Try.prog 26 (vals [.raw (.string (strB s)) rfl]) [] (.tup [.agg [.int .i64 (psR s).1, .arr8 100 (psR s).2], .int .i64 (psK s)]) := by
  refine CR_intro (rs := [.cell 2 45, .tmp 3]) tt tok Try.func26 rfl rfl rfl (by first | rfl | assumption) fun w => ?_
  refine W_seq ?_
  refine W_region ?_
  refine Ops_x rfl (x_box rfl rfl (lt_dec rfl) fun b1_1 => ?_)
  refine Ops_x rfl (x_alloc rfl (lt_dec rfl) fun b2_1 => ?_)
  refine Ops_p (p_assign rfl) (lt_dec rfl) ?_
  refine Ops_nil ?_
  refine W_seq ?_
  refine W_seq ?_
  refine W_region ?_
  refine Ops_x rfl (x_alloc rfl (lt_dec rfl) fun b4_1 => ?_)
  refine Ops_x rfl (x_store rfl rfl rfl rfl rfl HpRep.head rfl (by first | trivial | (first | (first | omega | (dsimp only; omega)) | exact Fin.isLt _)) ?_)
  refine Ops_nil ?_
  refine W_block ?_
  refine W_loop (α := Nat × Nat) (fun zz0 => ⟨[(0, .raw (.string (strB s)) rfl), (1, .ptr b1_1 0 none), (2, .ptr b2_1 0 none), (4, .ptr (zz0.2) 0 none)], [.var (zz0.2) (.int .i64 ((zz0.1) : Int)), .var b2_1 (.agg [.int .i64 0, .arr8 100 fun _ => 0]), .var b1_1 (.raw (.string (strB s)) rfl)]⟩) (fun zz0 => (1 ≤ (zz0.1) ∧ (zz0.1) ≤ 11) ∧ ∀ (k : Nat) t, 1 ≤ k → k < (zz0.1) → ¬ TxOk s ((k : Int), t)) (fun zz0 => 11 - (zz0.1)) (1, b4_1) ?_ ?_ ?_
  · exact ⟨⟨by omega, by omega⟩, fun k t h1 h2 => by omega⟩
  · exact Wk.intro (.cons rfl (by first | rfl | exact veq_int (by first | omega | (dsimp only; omega))) (.cons rfl (by first | rfl | exact veq_int (by first | omega | (dsimp only; omega))) (.cons rfl (by first | rfl | exact veq_int (by first | omega | (dsimp only; omega))) (.cons rfl (by first | rfl | exact veq_int (by first | omega | (dsimp only; omega))) .nil)))) (.keep rfl rfl (imp_var rfl rfl) (.keep rfl rfl (fun _ h => h) (.keep rfl rfl (fun _ h => h) .nil)))
  · rintro ⟨m, bb⟩ ⟨hm, hR⟩
    try dsimp only at *
    refine W_seq ?_
    refine W_seq ?_
    refine W_region ?_
    refine Ops_q (q_load rfl rfl m0 rfl (by first | exact True.intro | trivial | (first | omega | (dsimp only; omega)) | exact Fin.isLt _ | (dsimp only; omega))) (lt_dec rfl) ?_
    refine Ops_p (p_leq rfl rfl) (lt_dec rfl) ?_
    refine Ops_nil ?_
    refine W_cond rfl (fun h1 => ?_) (fun h1 => ?_)
    · try simp only [bs] at h1
      refine W_skip ?_
      refine W_seq ?_
      refine W_block ?_
      refine W_seq ?_
      refine W_seq ?_
      have hmm := ps_mul (m := m) (by omega)
      refine W_region ?_
      refine Ops_q (q_load rfl rfl m2 rfl (by first | exact True.intro | trivial | (first | omega | (dsimp only; omega)) | exact Fin.isLt _ | (dsimp only; omega))) (lt_dec rfl) ?_
      refine Ops_p (p_len_B rfl rfl rfl) (lt_dec rfl) ?_
      refine Ops_q (q_load rfl rfl m0 rfl (by first | exact True.intro | trivial | (first | omega | (dsimp only; omega)) | exact Fin.isLt _ | (dsimp only; omega))) (lt_dec rfl) ?_
      refine Ops_q (q_load rfl rfl m0 rfl (by first | exact True.intro | trivial | (first | omega | (dsimp only; omega)) | exact Fin.isLt _ | (dsimp only; omega))) (lt_dec rfl) ?_
      refine Ops_p (p_add rfl rfl (by exact ⟨(by first | omega | (dsimp only; omega)), (by first | omega | (dsimp only; omega))⟩)) (lt_dec rfl) ?_
      refine Ops_p (p_mul rfl rfl (by exact ⟨by omega, by omega⟩)) (lt_dec rfl) ?_
      refine Ops_p (p_sub rfl rfl (by exact ⟨(by first | omega | (dsimp only; omega)), (by first | omega | (dsimp only; omega))⟩)) (lt_dec rfl) ?_
      refine Ops_p (p_neq rfl rfl) (lt_dec rfl) ?_
      refine Ops_nil ?_
      refine W_cond rfl (fun h2 => ?_) (fun h2 => ?_)
      · try simp only [bs] at h2
        have hno := fun t => ps_len (s := s) (n := (m : Int)) (by omega) (by omega) t
        refine W_exit ?_
        refine W_seq ?_
        refine W_seq ?_
        refine W_region ?_
        refine Ops_q (q_load rfl rfl m0 rfl (by first | exact True.intro | trivial | (first | omega | (dsimp only; omega)) | exact Fin.isLt _ | (dsimp only; omega))) (lt_dec rfl) ?_
        refine Ops_nil ?_
        refine W_region ?_
        refine Ops_x rfl (x_alloc rfl (lt_dec rfl) fun b4_2 => ?_)
        refine Ops_x rfl (x_store rfl rfl rfl rfl rfl HpRep.head rfl (by first | trivial | (first | (first | omega | (dsimp only; omega)) | exact Fin.isLt _)) ?_)
        refine Ops_nil ?_
        refine W_region ?_
        refine Ops_q (q_load rfl rfl m0 rfl (by first | exact True.intro | trivial | (first | omega | (dsimp only; omega)) | exact Fin.isLt _ | (dsimp only; omega))) (lt_dec rfl) ?_
        refine Ops_p (p_add rfl rfl (by exact ⟨(by first | omega | (dsimp only; omega)), (by first | omega | (dsimp only; omega))⟩)) (lt_dec rfl) ?_
        refine Ops_x rfl (x_store rfl rfl rfl rfl rfl HpRep.head rfl (by first | trivial | (first | (first | omega | (dsimp only; omega)) | exact Fin.isLt _)) ?_)
        refine Ops_nil ?_
        refine Exists.intro (m + 1, b4_2) (And.intro ?_ (And.intro ?_ ?_))
        · first | exact ⟨⟨by show 1 ≤ m + 1; omega, by show m + 1 ≤ 11; omega⟩, fun k t h1 h2 => if e : k = m then e ▸ hno t else hR k t h1 (by have h2 : k < m + 1 := h2; omega)⟩ | exact ⟨⟨by show 1 ≤ m + 1; omega, by show m + 1 ≤ 11; omega⟩, fun k t h1 h2 => if e : k = m then e ▸ ps_try (n := (m : Int)) (fun hh => absurd (hh.1.symm.trans hg1) (by decide)) t else hR k t h1 (by have h2 : k < m + 1 := h2; omega)⟩
        · show _ < _; omega
        · exact Wk.intro (.cons rfl (by first | rfl | exact veq_int (by first | omega | (dsimp only; omega))) (.cons rfl (by first | rfl | exact veq_int (by first | omega | (dsimp only; omega))) (.cons rfl (by first | rfl | exact veq_int (by first | omega | (dsimp only; omega))) (.cons rfl (by first | rfl | exact veq_int (by first | omega | (dsimp only; omega))) .nil)))) (.keep rfl rfl (imp_var rfl rfl) (.drop (.keep rfl rfl (fun _ h => h) (.keep rfl rfl (fun _ h => h) .nil))))
      · try simp only [bs] at h2
        refine W_skip ?_
        refine W_seq ?_
        have hlN : s.length + 1 = m * (m + 1) := (by omega)
        refine W_region ?_
        refine Ops_q (q_load rfl rfl m0 rfl (by first | exact True.intro | trivial | (first | omega | (dsimp only; omega)) | exact Fin.isLt _ | (dsimp only; omega))) (lt_dec rfl) ?_
        refine Ops_p (p_makeFunc rfl rfl) (lt_dec rfl) ?_
        refine Ops_q (q_call en_impl_made rfl (w_impl_made (need := [.rvar b1_1 (.raw (.string (strB s)) rfl), .rvar bb (.int .i64 (m : Int))]) (n := (m : Int)) (g := fun x y => sub48 (s.getD (x * (m + 1) + y) 0)) (by omega) en_impl_ParseSquareX1 rfl (fun x y hx hy => w_impl_ParseSquareX1 (bs_ := b1_1) (bn := bb) hs (by omega) hlN (by omega) (by omega))) (View.cons (View.var m2) (View.var m0) rfl rfl)) (lt_dec rfl) ?_
        refine Ops_x rfl (x_alloc rfl (lt_dec rfl) fun b5_1 => ?_)
        refine Ops_x rfl (x_store rfl rfl rfl rfl rfl HpRep.head rfl (by first | trivial | (first | (first | omega | (dsimp only; omega)) | exact Fin.isLt _)) ?_)
        refine Ops_nil ?_
        refine W_seq ?_
        refine W_draw (by kernel_rfl) ?_
        show RA _ _ 8 _ _ _
        refine RA_quietF [0, 1, 2, 3, 4, 5, 6, 7] rfl rfl rfl (by kernel_rfl) (by kernel_rfl) ?_
        refine WQ_cons rfl rfl rfl ((q_load rfl rfl m0 rfl (by first | exact True.intro | trivial | (first | omega | (dsimp only; omega)) | exact Fin.isLt _ | (dsimp only; omega)))) (lt_dec rfl) ?_
        refine WQ_cons rfl rfl rfl ((q_call en_impl_IsSquare rfl (w_impl_IsSquare) (View.none _))) (lt_dec rfl) ?_
        refine WQ_cons rfl rfl rfl ((p_move rfl).q) (lt_dec rfl) ?_
        first | refine WQ_guard rfl rfl rfl (lt_dec rfl) (fun hg1 => ⟨_, (q_load rfl rfl m0 rfl (by first | exact True.intro | trivial | (first | omega | (dsimp only; omega)) | exact Fin.isLt _ | (dsimp only; omega))), ?_⟩) (fun hg1 => ?_)
        · try simp only [bs] at hg1
          first | refine WQ_guard rfl rfl rfl (lt_dec rfl) (fun _ => ⟨_, (q_call en_impl_squareText rfl (w_impl_squareText (of_isSq hg1)) (View.none _)), ?_⟩) (fun h => by cases h)
          first | refine WQ_guard rfl rfl rfl (lt_dec rfl) (fun _ => ⟨_, (q_load rfl rfl m3 rfl (by first | exact True.intro | trivial | (first | omega | (dsimp only; omega)) | exact Fin.isLt _ | (dsimp only; omega))), ?_⟩) (fun h => by cases h)
          first | refine WQ_guard rfl rfl rfl (lt_dec rfl) (fun _ => ⟨_, (p_eql_s rfl rfl).q, ?_⟩) (fun h => by cases h)
          refine WQ_cons rfl rfl rfl ((p_pick_t rfl rfl).q) (lt_dec rfl) ?_
          refine WQ_nil ?_
          refine W_cond rfl (fun h3 => ?_) (fun h3 => ?_)
          · try simp only [bs] at h3
            have hyes : TxOk s ((m : Int), sq48 s m) := ps_hit (n := (m : Int)) hg1 h3
            refine W_seq ?_
            refine W_region ?_
            refine Ops_q (q_load rfl rfl m0 rfl (by first | exact True.intro | trivial | (first | omega | (dsimp only; omega)) | exact Fin.isLt _ | (dsimp only; omega))) (lt_dec rfl) ?_
            refine Ops_x rfl (x_store rfl rfl rfl rfl rfl (((HpRep.head).tail).tail) rfl (by first | trivial | (first | (first | omega | (dsimp only; omega)) | exact Fin.isLt _)) ?_)
            refine Ops_p (p_assign rfl) (lt_dec rfl) ?_
            refine Ops_nil ?_
            refine W_ret ?_
            refine Exists.intro _ (And.intro (.cons (.cell rfl rfl m2 rfl trivial) (.cons (.tmp rfl) .nil)) ?_)
            first | rfl | (refine veq_bool ?_; simp_all; done) | (refine veq_bool ?_; simp; omega) | (refine veq_bool ?_; rw [eq_comm, decide_eq_false_iff_not]; omega) | (refine veq_bool ?_; rw [eq_comm, decide_eq_true_iff]; omega) | (refine veq_int ?_; omega) | (refine veq_arr8 fun j hj => ?_; (try dsimp only); first | (simp; done) | (simp; omega) | ((repeat' split) <;> first | rfl | (exfalso; omega) | (congr 1; omega) | (simp_all; done))) | (exact psq_t hyes) | (exact psq_f hpb)
          · try simp only [bs] at h3
            have hno := fun t => ps_try (s := s) (n := (m : Int)) (fun hh => h3 hh.2) t
            refine W_skip ?_
            refine W_seq ?_
            refine W_seq ?_
            refine W_region ?_
            refine Ops_q (q_load rfl rfl m1 rfl (by first | exact True.intro | trivial | (first | omega | (dsimp only; omega)) | exact Fin.isLt _ | (dsimp only; omega))) (lt_dec rfl) ?_
            refine Ops_nil ?_
            refine W_region ?_
            refine Ops_x rfl (x_alloc rfl (lt_dec rfl) fun b4_3 => ?_)
            refine Ops_x rfl (x_store rfl rfl rfl rfl rfl HpRep.head rfl (by first | trivial | (first | (first | omega | (dsimp only; omega)) | exact Fin.isLt _)) ?_)
            refine Ops_nil ?_
            refine W_region ?_
            refine Ops_q (q_load rfl rfl m0 rfl (by first | exact True.intro | trivial | (first | omega | (dsimp only; omega)) | exact Fin.isLt _ | (dsimp only; omega))) (lt_dec rfl) ?_
            refine Ops_p (p_add rfl rfl (by exact ⟨(by first | omega | (dsimp only; omega)), (by first | omega | (dsimp only; omega))⟩)) (lt_dec rfl) ?_
            refine Ops_x rfl (x_store rfl rfl rfl rfl rfl HpRep.head rfl (by first | trivial | (first | (first | omega | (dsimp only; omega)) | exact Fin.isLt _)) ?_)
            refine Ops_nil ?_
            refine Exists.intro (m + 1, b4_3) (And.intro ?_ (And.intro ?_ ?_))
            · first | exact ⟨⟨by show 1 ≤ m + 1; omega, by show m + 1 ≤ 11; omega⟩, fun k t h1 h2 => if e : k = m then e ▸ hno t else hR k t h1 (by have h2 : k < m + 1 := h2; omega)⟩ | exact ⟨⟨by show 1 ≤ m + 1; omega, by show m + 1 ≤ 11; omega⟩, fun k t h1 h2 => if e : k = m then e ▸ ps_try (n := (m : Int)) (fun hh => absurd (hh.1.symm.trans hg1) (by decide)) t else hR k t h1 (by have h2 : k < m + 1 := h2; omega)⟩
            · show _ < _; omega
            · exact Wk.intro (.cons rfl (by first | rfl | exact veq_int (by first | omega | (dsimp only; omega))) (.cons rfl (by first | rfl | exact veq_int (by first | omega | (dsimp only; omega))) (.cons rfl (by first | rfl | exact veq_int (by first | omega | (dsimp only; omega))) (.cons rfl (by first | rfl | exact veq_int (by first | omega | (dsimp only; omega))) .nil)))) (.keep rfl rfl (imp_var rfl rfl) (.drop (.drop (.keep rfl rfl (fun _ h => h) (.keep rfl rfl (fun _ h => h) .nil)))))
        · try simp only [bs] at hg1
          refine WQ_guard rfl rfl rfl (lt_dec rfl) (fun h => by cases h) (fun _ => ?_)
          refine WQ_guard rfl rfl rfl (lt_dec rfl) (fun h => by cases h) (fun _ => ?_)
          refine WQ_guard rfl rfl rfl (lt_dec rfl) (fun h => by cases h) (fun _ => ?_)
          refine WQ_cons rfl rfl rfl ((p_pick_f rfl rfl).q) (lt_dec rfl) ?_
          refine WQ_nil ?_
          refine W_false rfl ?_
          refine W_skip ?_
          refine W_seq ?_
          refine W_seq ?_
          refine W_region ?_
          refine Ops_q (q_load rfl rfl m1 rfl (by first | exact True.intro | trivial | (first | omega | (dsimp only; omega)) | exact Fin.isLt _ | (dsimp only; omega))) (lt_dec rfl) ?_
          refine Ops_nil ?_
          refine W_region ?_
          refine Ops_x rfl (x_alloc rfl (lt_dec rfl) fun b4_4 => ?_)
          refine Ops_x rfl (x_store rfl rfl rfl rfl rfl HpRep.head rfl (by first | trivial | (first | (first | omega | (dsimp only; omega)) | exact Fin.isLt _)) ?_)
          refine Ops_nil ?_
          refine W_region ?_
          refine Ops_q (q_load rfl rfl m0 rfl (by first | exact True.intro | trivial | (first | omega | (dsimp only; omega)) | exact Fin.isLt _ | (dsimp only; omega))) (lt_dec rfl) ?_
          refine Ops_p (p_add rfl rfl (by exact ⟨(by first | omega | (dsimp only; omega)), (by first | omega | (dsimp only; omega))⟩)) (lt_dec rfl) ?_
          refine Ops_x rfl (x_store rfl rfl rfl rfl rfl HpRep.head rfl (by first | trivial | (first | (first | omega | (dsimp only; omega)) | exact Fin.isLt _)) ?_)
          refine Ops_nil ?_
          refine Exists.intro (m + 1, b4_4) (And.intro ?_ (And.intro ?_ ?_))
          · first | exact ⟨⟨by show 1 ≤ m + 1; omega, by show m + 1 ≤ 11; omega⟩, fun k t h1 h2 => if e : k = m then e ▸ hno t else hR k t h1 (by have h2 : k < m + 1 := h2; omega)⟩ | exact ⟨⟨by show 1 ≤ m + 1; omega, by show m + 1 ≤ 11; omega⟩, fun k t h1 h2 => if e : k = m then e ▸ ps_try (n := (m : Int)) (fun hh => absurd (hh.1.symm.trans hg1) (by decide)) t else hR k t h1 (by have h2 : k < m + 1 := h2; omega)⟩
          · show _ < _; omega
          · exact Wk.intro (.cons rfl (by first | rfl | exact veq_int (by first | omega | (dsimp only; omega))) (.cons rfl (by first | rfl | exact veq_int (by first | omega | (dsimp only; omega))) (.cons rfl (by first | rfl | exact veq_int (by first | omega | (dsimp only; omega))) (.cons rfl (by first | rfl | exact veq_int (by first | omega | (dsimp only; omega))) .nil)))) (.keep rfl rfl (imp_var rfl rfl) (.drop (.drop (.keep rfl rfl (fun _ h => h) (.keep rfl rfl (fun _ h => h) .nil)))))
    · try simp only [bs] at h1
      have hpb : psB s = false := ps_none (fun n t h1 h2 => by have := hR n.toNat t (by omega) (by omega); rwa [Int.toNat_of_nonneg (by omega)] at this)
      refine W_exit ?_
      refine W_seq ?_
      refine W_region ?_
      refine Ops_p (p_build rfl rfl rfl rfl (by first | exact True.intro | trivial | (first | omega | (dsimp only; omega)) | exact Fin.isLt _ | (dsimp only; omega))) (lt_dec rfl) ?_
      refine Ops_x rfl (x_store rfl rfl rfl rfl rfl ((HpRep.head).tail) rfl (by first | trivial | (first | (first | omega | (dsimp only; omega)) | exact Fin.isLt _)) ?_)
      refine Ops_p (p_assign rfl) (lt_dec rfl) ?_
      refine Ops_nil ?_
      refine W_ret ?_
      refine Exists.intro _ (And.intro (.cons (.cell rfl rfl m1 rfl trivial) (.cons (.tmp rfl) .nil)) ?_)
      first | rfl | (refine veq_bool ?_; simp_all; done) | (refine veq_bool ?_; simp; omega) | (refine veq_bool ?_; rw [eq_comm, decide_eq_false_iff_not]; omega) | (refine veq_bool ?_; rw [eq_comm, decide_eq_true_iff]; omega) | (refine veq_int ?_; omega) | (refine veq_arr8 fun j hj => ?_; (try dsimp only); first | (simp; done) | (simp; omega) | ((repeat' split) <;> first | rfl | (exfalso; omega) | (congr 1; omega) | (simp_all; done))) | (exact psq_t hyes) | (exact psq_f hpb)
end Go.Proofs.Ytdcpggdbjllmpaa
