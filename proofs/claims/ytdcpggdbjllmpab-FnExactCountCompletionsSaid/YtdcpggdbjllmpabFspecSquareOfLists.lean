/- What the Go function spec.SquareOfLists does, shown of its loaded text; its conditions stand in the statement. -/
import Derived.Test.YtdcpggdbjllmpabTy
import Derived.Test.YtdcpggdbjllmpabFspecl01In
import Derived.Test.YtdcpggdbjllmpabFspecl01Is
import Derived.Test.YtdcpggdbjllmpabGx12
import Derived.Test.YtdcpggdbjllmpabGx20
import Derived.Test.YtdcpggdbjllmpabGx28
import Derived.Test.YtdcpggdbjllmpabM24
import Derived.Test.YtdcpggdbjllmpabM34
namespace Go.Proofs.Ytdcpggdbjllmpab
open Go Gx
set_option linter.unusedVariables false
theorem en_spec_SquareOfLists : Enters Try.prog 92 := enters_of Try.func92 (by kernel_rfl) (by kernel_rfl)
set_option maxRecDepth 100000 in
theorem w_spec_SquareOfLists {a : Value} {ha : a.oneCell' = true} {L : SL} (hP : ParL L) (hF : FullL L) : CR Try.prog 92 (vals [.raw a ha]) [rss a L] (.tup [.agg [.int .i64 ((L.length : Nat) : Int), .arr8 100 (cT L)], .int .i64 0]) := by
  refine CR_intro (rs := [.cell 2 45, .tmp 3]) tt tok Try.func92 rfl rfl rfl (by first | rfl | assumption) fun w => ?_
  have hn := hP.1
  have hln : ∀ i, i < L.length → (L.getD i sd).2.length = L.length := hP.2.1
  refine W_seq ?_
  refine W_region ?_
  refine Ops_x rfl (x_alloc rfl (lt_dec rfl) fun b2_1 => ?_)
  refine Ops_p (p_assign rfl) (lt_dec rfl) ?_
  refine Ops_nil ?_
  refine W_seq ?_
  refine W_region ?_
  refine Ops_p (p_move rfl) (lt_dec rfl) ?_
  refine Ops_q (q_lenO rfl rfl rfl (Rds.rssO m1)) (lt_dec rfl) ?_
  refine Ops_p (p_assign rfl) (lt_dec rfl) ?_
  refine Ops_nil ?_
  refine W_seq ?_
  refine W_seq ?_
  refine W_region ?_
  refine Ops_p (p_move rfl) (lt_dec rfl) ?_
  refine Ops_q (q_call en_spec_l01In rfl (w_spec_l01In) (View.none _)) (lt_dec rfl) ?_
  refine Ops_p (p_not rfl) (lt_dec rfl) ?_
  refine Ops_nil ?_
  refine W_cond rfl (fun h1 => ?_) (fun h1 => ?_)
  · try simp only [bs] at h1
    exfalso; omega
  · try simp only [bs] at h1
    refine W_skip ?_
    refine W_seq ?_
    refine W_region ?_
    refine Ops_p (p_move rfl) (lt_dec rfl) ?_
    refine Ops_p (p_build rfl rfl rfl rfl (by first | trivial | (first | omega | (dsimp only; omega)) | exact Fin.isLt _ | (dsimp only; omega))) (lt_dec rfl) ?_
    refine Ops_x rfl (x_alloc rfl (lt_dec rfl) fun b5_1 => ?_)
    refine Ops_x rfl (x_store rfl rfl rfl rfl rfl HpRep.head rfl (by first | trivial | (first | (first | omega | (dsimp only; omega)) | exact Fin.isLt _)) ?_)
    refine Ops_nil ?_
    refine W_seq ?_
    refine W_seq ?_
    refine W_region ?_
    refine Ops_p (p_assign rfl) (lt_dec rfl) ?_
    refine Ops_nil ?_
    refine W_block ?_
    refine W_loop (α := Nat) (fun i => ⟨[(0, .raw a ha), (2, .ptr b2_1 0 none), (4, .int .i64 ((L.length : Nat) : Int)), (5, .ptr b5_1 0 none), (6, .int .i64 (i : Int)), (8, .raw a ha), (9, .int .i64 ((L.length : Nat) : Int)), (10, .int .i64 ((L.length : Nat) : Int)), (14, .int .i64 ((L.length : Nat) : Int)), (15, .agg [.int .i64 ((L.length : Nat) : Int), .arr8 100 (fun _ => 0)])], [.var b5_1 (.agg [.int .i64 ((L.length : Nat) : Int), .arr8 100 (part L.length (gC L) i 0)]), .var b2_1 (.agg [.int .i64 0, .arr8 100 fun _ => 0]), rss a L]⟩) (fun i => i ≤ L.length) (fun i => L.length - i) 0 ?_ ?_ ?_
    · show _ ≤ _; omega
    · exact Wk.intro (.cons rfl (by first | rfl | exact veq_int (by first | omega | (dsimp only; omega))) (.cons rfl (by first | rfl | exact veq_int (by first | omega | (dsimp only; omega))) (.cons rfl (by first | rfl | exact veq_int (by first | omega | (dsimp only; omega))) (.cons rfl (by first | rfl | exact veq_int (by first | omega | (dsimp only; omega))) (.cons rfl (by first | rfl | exact veq_int (by first | omega | (dsimp only; omega))) (.cons rfl (by first | rfl | exact veq_int (by first | omega | (dsimp only; omega))) (.cons rfl (by first | rfl | exact veq_int (by first | omega | (dsimp only; omega))) (.cons rfl (by first | rfl | exact veq_int (by first | omega | (dsimp only; omega))) (.cons rfl (by first | rfl | exact veq_int (by first | omega | (dsimp only; omega))) (.cons rfl (by first | rfl | exact veq_int (by first | omega | (dsimp only; omega))) .nil)))))))))) (.keep rfl rfl (imp_var (by exact ceq_cons rfl (ceq_cons (ceq_arr8 fun k hk => (part_zero k).symm) rfl)) rfl) (.keep rfl rfl (fun _ h => h) (.keep rfl rfl (fun _ h => h) .nil)))
    · rintro i hR
      refine W_seq ?_
      refine W_seq ?_
      refine W_region ?_
      refine Ops_p (p_move rfl) (lt_dec rfl) ?_
      refine Ops_p (p_move rfl) (lt_dec rfl) ?_
      refine Ops_q (q_lenO rfl rfl rfl (Rds.rssO m2)) (lt_dec rfl) ?_
      refine Ops_p (p_lss rfl rfl) (lt_dec rfl) ?_
      refine Ops_nil ?_
      refine W_cond rfl (fun h2 => ?_) (fun h2 => ?_)
      · try simp only [bs] at h2
        refine W_skip ?_
        refine W_seq ?_
        refine W_block ?_
        refine W_seq ?_
        refine W_seq ?_
        have hli := hln i (by omega)
        refine W_region ?_
        refine Ops_p (p_move rfl) (lt_dec rfl) ?_
        refine Ops_p (p_move rfl) (lt_dec rfl) ?_
        refine Ops_q (q_ixR (i) rfl rfl rfl (Rds.rssO m2) rfl rfl (by rw [valsR_len]; first | omega | (dsimp only; omega)) rfl) (lt_dec rfl) ?_
        refine Ops_q (q_loadI (j := i) rfl rfl (Rds.rssO m2) rfl (by first | omega | assumption) rfl rfl) (lt_dec rfl) ?_
        refine Ops_q ((q_lenR rfl rfl rfl (Rds.rssI (j := i) m2 (by first | omega | assumption))).eq (d' := .int .i64 (((L.getD i sd).2.length : Nat) : Int)) rfl) (lt_dec rfl) ?_
        refine Ops_p (p_move rfl) (lt_dec rfl) ?_
        refine Ops_p (p_neq rfl rfl) (lt_dec rfl) ?_
        refine Ops_nil ?_
        refine W_cond rfl (fun h3 => ?_) (fun h3 => ?_)
        · try simp only [bs] at h3
          exfalso; omega
        · try simp only [bs] at h3
          refine W_skip ?_
          refine W_seq ?_
          have hli := hln i (by omega)
          refine W_region ?_
          refine Ops_p (p_assign rfl) (lt_dec rfl) ?_
          refine Ops_nil ?_
          refine W_block ?_
          refine W_loop (α := Nat) (fun j => ⟨[(0, .raw a ha), (2, .ptr b2_1 0 none), (4, .int .i64 ((L.length : Nat) : Int)), (5, .ptr b5_1 0 none), (6, .int .i64 (i : Int)), (7, .int .i64 (j : Int)), (8, .raw a ha), (9, .int .i64 ((L.length : Nat) : Int)), (10, .int .i64 ((L.length : Nat) : Int)), (14, .int .i64 ((L.length : Nat) : Int)), (15, .agg [.int .i64 ((L.length : Nat) : Int), .arr8 100 (fun _ => 0)]), (16, .int .i64 (i : Int)), (17, .raw a ha), (18, .int .i64 ((L.length : Nat) : Int)), (22, .raw a ha), (23, .int .i64 (i : Int)), (25, .raw (L.getD i sd).1.1 (L.getD i sd).1.2), (26, .int .i64 (((L.getD i sd).2.length : Nat) : Int)), (27, .int .i64 ((L.length : Nat) : Int))], [.var b5_1 (.agg [.int .i64 ((L.length : Nat) : Int), .arr8 100 (part L.length (gC L) i j)]), .var b2_1 (.agg [.int .i64 0, .arr8 100 fun _ => 0]), rss a L]⟩) (fun j => j ≤ L.length) (fun j => L.length - j) 0 ?_ ?_ ?_
          · show _ ≤ _; omega
          · exact Wk.intro (.cons rfl (by first | rfl | exact veq_int (by first | omega | (dsimp only; omega))) (.cons rfl (by first | rfl | exact veq_int (by first | omega | (dsimp only; omega))) (.cons rfl (by first | rfl | exact veq_int (by first | omega | (dsimp only; omega))) (.cons rfl (by first | rfl | exact veq_int (by first | omega | (dsimp only; omega))) (.cons rfl (by first | rfl | exact veq_int (by first | omega | (dsimp only; omega))) (.cons rfl (by first | rfl | exact veq_int (by first | omega | (dsimp only; omega))) (.cons rfl (by first | rfl | exact veq_int (by first | omega | (dsimp only; omega))) (.cons rfl (by first | rfl | exact veq_int (by first | omega | (dsimp only; omega))) (.cons rfl (by first | rfl | exact veq_int (by first | omega | (dsimp only; omega))) (.cons rfl (by first | rfl | exact veq_int (by first | omega | (dsimp only; omega))) (.cons rfl (by first | rfl | exact veq_int (by first | omega | (dsimp only; omega))) (.cons rfl (by first | rfl | exact veq_int (by first | omega | (dsimp only; omega))) (.cons rfl (by first | rfl | exact veq_int (by first | omega | (dsimp only; omega))) (.cons rfl (by first | rfl | exact veq_int (by first | omega | (dsimp only; omega))) (.cons rfl (by first | rfl | exact veq_int (by first | omega | (dsimp only; omega))) (.cons rfl (by first | rfl | exact veq_int (by first | omega | (dsimp only; omega))) (.cons rfl (by first | rfl | exact veq_int (by first | omega | (dsimp only; omega))) (.cons rfl (by first | rfl | exact veq_int (by first | omega | (dsimp only; omega))) (.cons rfl (by first | rfl | exact veq_int (by first | omega | (dsimp only; omega))) .nil))))))))))))))))))) (.keep rfl rfl (imp_var (by rfl) rfl) (.keep rfl rfl (fun _ h => h) (.keep rfl rfl (fun _ h => h) .nil)))
          · rintro j hR
            refine W_seq ?_
            refine W_seq ?_
            refine W_region ?_
            refine Ops_p (p_move rfl) (lt_dec rfl) ?_
            refine Ops_p (p_move rfl) (lt_dec rfl) ?_
            refine Ops_p (p_move rfl) (lt_dec rfl) ?_
            refine Ops_q (q_ixR (i) rfl rfl rfl (Rds.rssO m2) rfl rfl (by rw [valsR_len]; first | omega | (dsimp only; omega)) rfl) (lt_dec rfl) ?_
            refine Ops_q (q_loadI (j := i) rfl rfl (Rds.rssO m2) rfl (by first | omega | assumption) rfl rfl) (lt_dec rfl) ?_
            refine Ops_q ((q_lenR rfl rfl rfl (Rds.rssI (j := i) m2 (by first | omega | assumption))).eq (d' := .int .i64 (((L.getD i sd).2.length : Nat) : Int)) rfl) (lt_dec rfl) ?_
            refine Ops_p (p_lss rfl rfl) (lt_dec rfl) ?_
            refine Ops_nil ?_
            refine W_cond rfl (fun h4 => ?_) (fun h4 => ?_)
            · try simp only [bs] at h4
              refine W_skip ?_
              refine W_seq ?_
              refine W_block ?_
              refine W_seq ?_
              refine W_seq ?_
              have hat : 0 ≤ (L.getD i sd).2.getD j 0 := hF i j (by omega) (by omega)
              have hrg : -1 ≤ (L.getD i sd).2.getD j 0 ∧ (L.getD i sd).2.getD j 0 ≤ (L.length : Int) - 1 := hP.2.2.1 i j (by omega) (by omega)
              refine W_region ?_
              refine Ops_p (p_move rfl) (lt_dec rfl) ?_
              refine Ops_p (p_move rfl) (lt_dec rfl) ?_
              refine Ops_q (q_ixR (i) rfl rfl rfl (Rds.rssO m2) rfl rfl (by rw [valsR_len]; first | omega | (dsimp only; omega)) rfl) (lt_dec rfl) ?_
              refine Ops_q (q_loadI (j := i) rfl rfl (Rds.rssO m2) rfl (by first | omega | assumption) rfl rfl) (lt_dec rfl) ?_
              refine Ops_p (p_move rfl) (lt_dec rfl) ?_
              refine Ops_q (q_ixR (j) rfl rfl rfl (Rds.rssI (j := i) m2 (by first | omega | assumption)) rfl rfl (by show _ < List.length _; first | omega | (dsimp only; omega)) rfl) (lt_dec rfl) ?_
              refine Ops_q (q_loadR rfl rfl (Rds.rssI (j := i) m2 (by first | omega | assumption)) rfl rfl (by first | omega | (dsimp only; omega)) rfl rfl rfl) (lt_dec rfl) ?_
              refine Ops_p (p_move rfl) (lt_dec rfl) ?_
              refine Ops_p (p_sub rfl rfl (by exact ⟨(by first | omega | (dsimp only; omega)), (by first | omega | (dsimp only; omega))⟩)) (lt_dec rfl) ?_
              refine Ops_q (q_call en_spec_l01In rfl (w_spec_l01In) (View.none _)) (lt_dec rfl) ?_
              refine Ops_p (p_not rfl) (lt_dec rfl) ?_
              refine Ops_nil ?_
              refine W_cond rfl (fun h5 => ?_) (fun h5 => ?_)
              · try simp only [bs] at h5
                exfalso; omega
              · try simp only [bs] at h5
                refine W_skip ?_
                refine W_draw (by kernel_rfl) ?_
                show RA _ _ 14 _ _ _
                refine RA_quiet (g := 1) [0, 1, 2, 3, 4, 5, 6, 7, 8, 9, 10, 11, 12] (by kernel_rfl) (by kernel_rfl) (by kernel_rfl) (by kernel_rfl) ?_
                refine WQ_cons rfl rfl rfl ((p_move rfl).q) (lt_dec rfl) ?_
                refine WQ_cons rfl rfl rfl ((p_move rfl).q) (lt_dec rfl) ?_
                refine WQ_cons rfl rfl rfl ((p_move rfl).q) (lt_dec rfl) ?_
                refine WQ_cons rfl rfl rfl ((p_move rfl).q) (lt_dec rfl) ?_
                refine WQ_cons rfl rfl rfl ((q_ixR (i) rfl rfl rfl (Rds.rssO m2) rfl rfl (by rw [valsR_len]; first | omega | (dsimp only; omega)) rfl)) (lt_dec rfl) ?_
                refine WQ_cons rfl rfl rfl ((q_loadI (j := i) rfl rfl (Rds.rssO m2) rfl (by first | omega | assumption) rfl rfl)) (lt_dec rfl) ?_
                refine WQ_cons rfl rfl rfl ((p_move rfl).q) (lt_dec rfl) ?_
                refine WQ_cons rfl rfl rfl ((q_ixR (j) rfl rfl rfl (Rds.rssI (j := i) m2 (by first | omega | assumption)) rfl rfl (by show _ < List.length _; first | omega | (dsimp only; omega)) rfl)) (lt_dec rfl) ?_
                refine WQ_cons rfl rfl rfl ((q_loadR rfl rfl (Rds.rssI (j := i) m2 (by first | omega | assumption)) rfl rfl (by first | omega | (dsimp only; omega)) rfl rfl rfl)) (lt_dec rfl) ?_
                refine WQ_cons rfl rfl rfl (((p_conv rfl rfl rfl (by exact ⟨by omega, by omega⟩)).eq (veq_byteI (by omega) (by omega))).q) (lt_dec rfl) ?_
                refine WQ_cons rfl rfl rfl ((p_fieldAddr rfl rfl rfl rfl rfl rfl).q) (lt_dec rfl) ?_
                refine WQ_cons rfl rfl rfl ((p_ixN 10 _ rfl rfl rfl rfl rfl rfl (by first | (first | omega | (dsimp only; omega)) | exact Fin.isLt _)).q) (lt_dec rfl) ?_
                first | refine WQ_cons rfl rfl rfl ((p_ix1 _ rfl rfl rfl rfl rfl rfl (by first | (first | omega | (dsimp only; omega)) | exact Fin.isLt _)).q) (lt_dec rfl) ?_ | refine WQ_cons rfl rfl rfl ((p_ix1s _ rfl rfl rfl rfl rfl rfl (by first | (first | omega | (dsimp only; omega)) | exact Fin.isLt _)).q) (lt_dec rfl) ?_
                refine WQ_nil ?_
                refine RA_one 13 rfl rfl (by kernel_rfl) (x_store rfl rfl rfl rfl rfl HpRep.head rfl (by first | trivial | (first | (first | omega | (dsimp only; omega)) | exact Fin.isLt _)) ?_)
                refine RA_done (by kernel_rfl) ?_
                refine W_region ?_
                refine Ops_p (p_move rfl) (lt_dec rfl) ?_
                refine Ops_p (p_add rfl rfl (by exact ⟨(by first | omega | (dsimp only; omega)), (by first | omega | (dsimp only; omega))⟩)) (lt_dec rfl) ?_
                refine Ops_p (p_assign rfl) (lt_dec rfl) ?_
                refine Ops_nil ?_
                refine Exists.intro (j + 1) (And.intro ?_ (And.intro ?_ ?_))
                · show _ ≤ _; omega
                · show _ < _; omega
                · exact Wk.intro (.cons rfl (by first | rfl | exact veq_int (by first | omega | (dsimp only; omega))) (.cons rfl (by first | rfl | exact veq_int (by first | omega | (dsimp only; omega))) (.cons rfl (by first | rfl | exact veq_int (by first | omega | (dsimp only; omega))) (.cons rfl (by first | rfl | exact veq_int (by first | omega | (dsimp only; omega))) (.cons rfl (by first | rfl | exact veq_int (by first | omega | (dsimp only; omega))) (.cons rfl (by first | rfl | exact veq_int (by first | omega | (dsimp only; omega))) (.cons rfl (by first | rfl | exact veq_int (by first | omega | (dsimp only; omega))) (.cons rfl (by first | rfl | exact veq_int (by first | omega | (dsimp only; omega))) (.cons rfl (by first | rfl | exact veq_int (by first | omega | (dsimp only; omega))) (.cons rfl (by first | rfl | exact veq_int (by first | omega | (dsimp only; omega))) (.cons rfl (by first | rfl | exact veq_int (by first | omega | (dsimp only; omega))) (.cons rfl (by first | rfl | exact veq_int (by first | omega | (dsimp only; omega))) (.cons rfl (by first | rfl | exact veq_int (by first | omega | (dsimp only; omega))) (.cons rfl (by first | rfl | exact veq_int (by first | omega | (dsimp only; omega))) (.cons rfl (by first | rfl | exact veq_int (by first | omega | (dsimp only; omega))) (.cons rfl (by first | rfl | exact veq_int (by first | omega | (dsimp only; omega))) (.cons rfl (by first | rfl | exact veq_int (by first | omega | (dsimp only; omega))) (.cons rfl (by first | rfl | exact veq_int (by first | omega | (dsimp only; omega))) (.cons rfl (by first | rfl | exact veq_int (by first | omega | (dsimp only; omega))) .nil))))))))))))))))))) (.keep rfl rfl (imp_var (by exact ceq_cons rfl (ceq_cons (ceq_arr8 fun k hk => part_stepV (gC_full hat).symm (by omega) k) rfl)) rfl) (.keep rfl rfl (fun _ h => h) (.keep rfl rfl (fun _ h => h) .nil)))
            · try simp only [bs] at h4
              obtain rfl : j = L.length := (by omega)
              refine W_exit ?_
              refine W_region ?_
              refine Ops_p (p_move rfl) (lt_dec rfl) ?_
              refine Ops_p (p_add rfl rfl (by exact ⟨(by first | omega | (dsimp only; omega)), (by first | omega | (dsimp only; omega))⟩)) (lt_dec rfl) ?_
              refine Ops_p (p_assign rfl) (lt_dec rfl) ?_
              refine Ops_nil ?_
              refine Exists.intro (i + 1) (And.intro ?_ (And.intro ?_ ?_))
              · show _ ≤ _; omega
              · show _ < _; omega
              · exact Wk.intro (.cons rfl (by first | rfl | exact veq_int (by first | omega | (dsimp only; omega))) (.cons rfl (by first | rfl | exact veq_int (by first | omega | (dsimp only; omega))) (.cons rfl (by first | rfl | exact veq_int (by first | omega | (dsimp only; omega))) (.cons rfl (by first | rfl | exact veq_int (by first | omega | (dsimp only; omega))) (.cons rfl (by first | rfl | exact veq_int (by first | omega | (dsimp only; omega))) (.cons rfl (by first | rfl | exact veq_int (by first | omega | (dsimp only; omega))) (.cons rfl (by first | rfl | exact veq_int (by first | omega | (dsimp only; omega))) (.cons rfl (by first | rfl | exact veq_int (by first | omega | (dsimp only; omega))) (.cons rfl (by first | rfl | exact veq_int (by first | omega | (dsimp only; omega))) (.cons rfl (by first | rfl | exact veq_int (by first | omega | (dsimp only; omega))) .nil)))))))))) (.keep rfl rfl (imp_var (by exact ceq_cons rfl (ceq_cons (ceq_arr8 fun k hk => part_row k) rfl)) rfl) (.keep rfl rfl (fun _ h => h) (.keep rfl rfl (fun _ h => h) .nil)))
      · try simp only [bs] at h2
        obtain rfl : i = L.length := (by omega)
        refine W_exit ?_
        refine W_seq ?_
        refine W_seq ?_
        refine W_region ?_
        refine Ops_q (q_load rfl rfl m0 rfl (by first | trivial | (first | omega | (dsimp only; omega)) | exact Fin.isLt _ | (dsimp only; omega))) (lt_dec rfl) ?_
        refine Ops_q (q_call en_spec_l01Is rfl (w_spec_l01Is) (View.none _)) (lt_dec rfl) ?_
        refine Ops_p (p_not rfl) (lt_dec rfl) ?_
        refine Ops_nil ?_
        refine W_cond rfl (fun h6 => ?_) (fun h6 => ?_)
        · try simp only [bs] at h6
          exfalso; exact absurd ((full_sq hP hF).symm.trans h6) (by decide)
        · try simp only [bs] at h6
          refine W_skip ?_
          refine W_seq ?_
          refine W_region ?_
          refine Ops_q (q_load rfl rfl m0 rfl (by first | trivial | (first | omega | (dsimp only; omega)) | exact Fin.isLt _ | (dsimp only; omega))) (lt_dec rfl) ?_
          refine Ops_x rfl (x_store rfl rfl rfl rfl rfl ((HpRep.head).tail) rfl (by first | trivial | (first | (first | omega | (dsimp only; omega)) | exact Fin.isLt _)) ?_)
          refine Ops_p (p_assign rfl) (lt_dec rfl) ?_
          refine Ops_nil ?_
          refine W_ret ?_
          refine Exists.intro _ (And.intro (.cons (.cell rfl rfl m1 rfl trivial) (.cons (.tmp rfl) .nil)) ?_)
          rfl
end Go.Proofs.Ytdcpggdbjllmpab
