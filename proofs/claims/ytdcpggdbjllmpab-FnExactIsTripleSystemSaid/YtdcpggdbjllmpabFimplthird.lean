/- What the Go function impl.third does, shown of its loaded text; its conditions stand in the statement. -/
import Derived.Test.YtdcpggdbjllmpabTy
import Derived.Test.YtdcpggdbjllmpabFimplwithin
import Derived.Test.YtdcpggdbjllmpabFslicesCompareGSint64int64
import Derived.Test.YtdcpggdbjllmpabGx12
import Derived.Test.YtdcpggdbjllmpabGx20
import Derived.Test.YtdcpggdbjllmpabGx28
import Derived.Test.YtdcpggdbjllmpabM38
namespace Go.Proofs.Ytdcpggdbjllmpab
open Go Gx
set_option linter.unusedVariables false
theorem en_impl_third : Enters Try.prog 66 := enters_of Try.func66 (by kernel_rfl) (by kernel_rfl)
set_option maxRecDepth 100000 in
set_option maxHeartbeats 2000000 in
theorem w_impl_third {a : Value} {ha : a.oneCell' = true} {T : SL} {v : Int} (hl : T.length ≤ 1048576) : CT (X := Nat → Fin 256) Try.prog 66 (vals [.int .i64 v, .raw a ha]) [] [rss a T] (fun x => True) (fun x => .tup [.arr8 81 x, .bool (tsB T v)]) (fun x => []) := by
  refine CT_intro (rs := [.cell 4 94, .tmp 5]) tt tok Try.func66 rfl rfl rfl (by first | rfl | assumption) fun w => ?_
  show W _ _ _ ⟨tmOf 0 [.int .i64 v, .raw a ha], [rss a T]⟩
  refine W_seq ?_
  refine W_region ?_
  refine Ops_x rfl (x_alloc rfl (lt_dec rfl) fun b4_1 => ?_)
  refine Ops_p (p_assign rfl) (lt_dec rfl) ?_
  refine Ops_nil ?_
  refine W_seq ?_
  refine W_region ?_
  refine Ops_p (p_build_arr rfl rfl rfl rfl (by first | exact True.intro | trivial | (first | omega | (dsimp only; omega)) | exact Fin.isLt _ | (dsimp only; omega))) (lt_dec rfl) ?_
  refine Ops_x rfl (x_alloc rfl (lt_dec rfl) fun b6_1 => ?_)
  refine Ops_x rfl (x_store rfl rfl rfl rfl rfl HpRep.head rfl (by first | trivial | (first | (first | omega | (dsimp only; omega)) | exact Fin.isLt _)) ?_)
  refine Ops_nil ?_
  refine W_seq ?_
  refine W_seq ?_
  refine W_region ?_
  refine Ops_p (p_move rfl) (lt_dec rfl) ?_
  refine Ops_q (q_call en_impl_within rfl (w_impl_within) (View.none _)) (lt_dec rfl) ?_
  refine Ops_p (p_not rfl) (lt_dec rfl) ?_
  refine Ops_nil ?_
  refine W_cond rfl (fun h1 => ?_) (fun h1 => ?_)
  · try simp only [bs] at h1
    have hts : false = tsB T v := (by first | exact ts_n (by simp_all; omega) | exact ts_n (by simp_all))
    refine W_seq ?_
    refine W_region ?_
    refine Ops_q (q_load rfl rfl m0 rfl (by first | exact True.intro | trivial | (first | omega | (dsimp only; omega)) | exact Fin.isLt _ | (dsimp only; omega))) (lt_dec rfl) ?_
    refine Ops_x rfl (x_store rfl rfl rfl rfl rfl ((HpRep.head).tail) rfl (by first | trivial | (first | (first | omega | (dsimp only; omega)) | exact Fin.isLt _)) ?_)
    refine Ops_p (p_assign rfl) (lt_dec rfl) ?_
    refine Ops_nil ?_
    refine W_ret ?_
    refine Exists.intro _ (And.intro (.cons (.cell rfl rfl m1 rfl trivial) (.cons (.tmp rfl) .nil)) (Exists.intro (fun _ => 0) (And.intro ?_ (And.intro ?_ (And.intro .nil rfl)))))
    · trivial
    · first | exact veq_tup2 rfl (veq_bool hts) | exact veq_tup2 rfl (veq_bool (ts_v (i := i) (by omega) (fun hV => by have h1 := hV.len; have h2 := hV.a0; have h3 := hV.a1; have h4 := hV.a2; have h5 := hV.a3; unfold at2 at h2 h3 h4 h5; omega)))
  · try simp only [bs] at h1
    have hv : 1 ≤ v ∧ v ≤ 9 := (by simp_all)
    refine W_skip ?_
    refine W_seq ?_
    refine W_region ?_
    refine Ops_p (p_build_arr rfl rfl rfl rfl (by first | exact True.intro | trivial | (first | omega | (dsimp only; omega)) | exact Fin.isLt _ | (dsimp only; omega))) (lt_dec rfl) ?_
    refine Ops_x rfl (x_alloc rfl (lt_dec rfl) fun b7_1 => ?_)
    refine Ops_x rfl (x_store rfl rfl rfl rfl rfl HpRep.head rfl (by first | trivial | (first | (first | omega | (dsimp only; omega)) | exact Fin.isLt _)) ?_)
    refine Ops_nil ?_
    refine W_seq ?_
    refine W_seq ?_
    refine W_region ?_
    refine Ops_p (p_move rfl) (lt_dec rfl) ?_
    refine Ops_q (q_lenO rfl rfl rfl (Rds.rssO m3)) (lt_dec rfl) ?_
    refine Ops_p (p_move rfl) (lt_dec rfl) ?_
    refine Ops_nil ?_
    refine W_block ?_
    refine W_loop (α := Nat × (Nat → Fin 256) × (Nat → Bool)) (fun zz0 => ⟨[(0, .int .i64 v), (1, .raw a ha), (4, .ptr b4_1 0 none), (6, .ptr b6_1 0 none), (7, .ptr b7_1 0 none), (16, .arr8 81 fun _ => 0), (17, .int .i64 v), (21, .barr 81 fun _ => false), (22, .raw a ha), (23, .int .i64 ((T.length : Nat) : Int)), (24, .int .i64 ((zz0.1) : Int))], [.var b7_1 (.barr 81 (zz0.2.2)), .var b6_1 (.arr8 81 (zz0.2.1)), .var b4_1 (.arr8 81 fun _ => 0), rss a T]⟩) (fun zz0 => (zz0.1) ≤ T.length ∧ (∀ j, j < (zz0.1) → VT T v j ∧ fr T j) ∧ MkB T (zz0.1) 0 (zz0.2.2)) (fun zz0 => T.length - (zz0.1)) (0, fun _ => 0, fun _ => false) ?_ ?_ ?_
    · exact ⟨by omega, fun j h => by omega, MkB.start (fun z hz => rfl)⟩
    · exact Wk.intro (.cons rfl (by first | rfl | exact veq_int (by first | omega | (dsimp only; omega))) (.cons rfl (by first | rfl | exact veq_int (by first | omega | (dsimp only; omega))) (.cons rfl (by first | rfl | exact veq_int (by first | omega | (dsimp only; omega))) (.cons rfl (by first | rfl | exact veq_int (by first | omega | (dsimp only; omega))) (.cons rfl (by first | rfl | exact veq_int (by first | omega | (dsimp only; omega))) (.cons rfl (by first | rfl | exact veq_int (by first | omega | (dsimp only; omega))) (.cons rfl (by first | rfl | exact veq_int (by first | omega | (dsimp only; omega))) (.cons rfl (by first | rfl | exact veq_int (by first | omega | (dsimp only; omega))) (.cons rfl (by first | rfl | exact veq_int (by first | omega | (dsimp only; omega))) (.cons rfl (by first | rfl | exact veq_int (by first | omega | (dsimp only; omega))) (.cons rfl (by first | rfl | exact veq_int (by first | omega | (dsimp only; omega))) .nil))))))))))) (.keep rfl rfl (fun _ h => h) (.keep rfl rfl (fun _ h => h) (.keep rfl rfl (fun _ h => h) (.keep rfl rfl (fun _ h => h) .nil))))
    · rintro ⟨i, f, g⟩ ⟨hi, hA, hM⟩
      try dsimp only at *
      refine W_seq ?_
      refine W_region ?_
      refine Ops_p (p_lss rfl rfl) (lt_dec rfl) ?_
      refine Ops_nil ?_
      refine W_seq ?_
      refine W_cond rfl (fun h2 => ?_) (fun h2 => ?_)
      · try simp only [bs] at h2
        refine W_skip ?_
        refine W_seq ?_
        refine W_block ?_
        refine W_cut2 (fun E s' => (VT T v i) ∧ Wk E s' ⟨[(0, .int .i64 v), (1, .raw a ha), (4, .ptr b4_1 0 none), (6, .ptr b6_1 0 none), (7, .ptr b7_1 0 none), (9, .raw (T.getD i sd).1.1 (T.getD i sd).1.2), (16, .arr8 81 fun _ => 0), (17, .int .i64 v), (21, .barr 81 fun _ => false), (22, .raw a ha), (23, .int .i64 ((T.length : Nat) : Int)), (24, .int .i64 (i : Int))], [.var b7_1 (.barr 81 g), .var b6_1 (.arr8 81 f), .var b4_1 (.arr8 81 fun _ => 0), rss a T]⟩) ?_ ?_
        · refine W_region ?_
          refine Ops_p (p_move rfl) (lt_dec rfl) ?_
          refine Ops_q (q_ixR (i) rfl rfl rfl (Rds.rssO m3) rfl rfl (by rw [valsR_len]; first | omega | (dsimp only; omega)) rfl) (lt_dec rfl) ?_
          refine Ops_q (q_loadI (j := i) rfl rfl (Rds.rssO m3) rfl (by first | omega | assumption) rfl rfl) (lt_dec rfl) ?_
          refine Ops_p (p_assign rfl) (lt_dec rfl) ?_
          refine Ops_p (p_assign rfl) (lt_dec rfl) ?_
          refine Ops_nil ?_
          refine W_seq ?_
          refine W_draw (by kernel_rfl) ?_
          show RA _ _ 48 _ _ _
          refine RA_quietF [0, 1, 2, 3, 4, 5, 6, 7, 8, 9, 10, 11, 12, 13, 14, 15, 16, 17, 18, 19, 20, 21, 22, 23, 24, 25, 26, 27, 28, 29, 30, 31, 32, 33, 34, 35, 36, 37, 38, 39, 40, 41, 42, 43, 44, 45, 46, 47] rfl rfl rfl (by kernel_rfl) (by kernel_rfl) ?_
          refine WQ_cons rfl rfl rfl ((p_move rfl).q) (lt_dec rfl) ?_
          refine WQ_cons rfl rfl rfl (((q_lenR rfl rfl rfl (Rds.rssI (j := i) m3 (by first | omega | assumption))).eq (d' := .int .i64 (((T.getD i sd).2.length : Nat) : Int)) rfl)) (lt_dec rfl) ?_
          refine WQ_cons rfl rfl rfl ((p_neq rfl rfl).q) (lt_dec rfl) ?_
          refine WQ_cons rfl rfl rfl ((p_move rfl).q) (lt_dec rfl) ?_
          first | refine WQ_guard rfl rfl rfl (lt_dec rfl) (fun hg1 => ⟨_, (p_move rfl).q, ?_⟩) (fun hg1 => ?_)
          · try simp only [bs] at hg1
            first | refine WQ_guard rfl rfl rfl (lt_dec rfl) (fun _ => ⟨_, (q_ixR (0) rfl rfl rfl (Rds.rssI (j := i) m3 (by first | omega | assumption)) rfl rfl (by show _ < List.length _; first | omega | (dsimp only; omega)) rfl), ?_⟩) (fun h => by cases h)
            first | refine WQ_guard rfl rfl rfl (lt_dec rfl) (fun _ => ⟨_, (q_loadR rfl rfl (Rds.rssI (j := i) m3 (by first | omega | assumption)) rfl rfl (by first | omega | (dsimp only; omega)) rfl rfl rfl), ?_⟩) (fun h => by cases h)
            first | refine WQ_guard rfl rfl rfl (lt_dec rfl) (fun _ => ⟨_, (p_lss rfl rfl).q, ?_⟩) (fun h => by cases h)
            refine WQ_cons rfl rfl rfl ((p_pick_f rfl rfl).q) (lt_dec rfl) ?_
            refine WQ_cons rfl rfl rfl ((p_move rfl).q) (lt_dec rfl) ?_
            first | refine WQ_guard rfl rfl rfl (lt_dec rfl) (fun hg5 => ⟨_, (p_move rfl).q, ?_⟩) (fun hg5 => ?_)
            · try simp only [bs] at hg5
              first | refine WQ_guard rfl rfl rfl (lt_dec rfl) (fun _ => ⟨_, (q_ixR (0) rfl rfl rfl (Rds.rssI (j := i) m3 (by first | omega | assumption)) rfl rfl (by show _ < List.length _; first | omega | (dsimp only; omega)) rfl), ?_⟩) (fun h => by cases h)
              first | refine WQ_guard rfl rfl rfl (lt_dec rfl) (fun _ => ⟨_, (q_loadR rfl rfl (Rds.rssI (j := i) m3 (by first | omega | assumption)) rfl rfl (by first | omega | (dsimp only; omega)) rfl rfl rfl), ?_⟩) (fun h => by cases h)
              first | refine WQ_guard rfl rfl rfl (lt_dec rfl) (fun _ => ⟨_, (p_move rfl).q, ?_⟩) (fun h => by cases h)
              first | refine WQ_guard rfl rfl rfl (lt_dec rfl) (fun _ => ⟨_, (q_ixR (1) rfl rfl rfl (Rds.rssI (j := i) m3 (by first | omega | assumption)) rfl rfl (by show _ < List.length _; first | omega | (dsimp only; omega)) rfl), ?_⟩) (fun h => by cases h)
              first | refine WQ_guard rfl rfl rfl (lt_dec rfl) (fun _ => ⟨_, (q_loadR rfl rfl (Rds.rssI (j := i) m3 (by first | omega | assumption)) rfl rfl (by first | omega | (dsimp only; omega)) rfl rfl rfl), ?_⟩) (fun h => by cases h)
              first | refine WQ_guard rfl rfl rfl (lt_dec rfl) (fun _ => ⟨_, (p_geq rfl rfl).q, ?_⟩) (fun h => by cases h)
              refine WQ_cons rfl rfl rfl ((p_pick_f rfl rfl).q) (lt_dec rfl) ?_
              refine WQ_cons rfl rfl rfl ((p_move rfl).q) (lt_dec rfl) ?_
              first | refine WQ_guard rfl rfl rfl (lt_dec rfl) (fun hg12 => ⟨_, (p_move rfl).q, ?_⟩) (fun hg12 => ?_)
              · try simp only [bs] at hg12
                first | refine WQ_guard rfl rfl rfl (lt_dec rfl) (fun _ => ⟨_, (q_ixR (1) rfl rfl rfl (Rds.rssI (j := i) m3 (by first | omega | assumption)) rfl rfl (by show _ < List.length _; first | omega | (dsimp only; omega)) rfl), ?_⟩) (fun h => by cases h)
                first | refine WQ_guard rfl rfl rfl (lt_dec rfl) (fun _ => ⟨_, (q_loadR rfl rfl (Rds.rssI (j := i) m3 (by first | omega | assumption)) rfl rfl (by first | omega | (dsimp only; omega)) rfl rfl rfl), ?_⟩) (fun h => by cases h)
                first | refine WQ_guard rfl rfl rfl (lt_dec rfl) (fun _ => ⟨_, (p_move rfl).q, ?_⟩) (fun h => by cases h)
                first | refine WQ_guard rfl rfl rfl (lt_dec rfl) (fun _ => ⟨_, (q_ixR (2) rfl rfl rfl (Rds.rssI (j := i) m3 (by first | omega | assumption)) rfl rfl (by show _ < List.length _; first | omega | (dsimp only; omega)) rfl), ?_⟩) (fun h => by cases h)
                first | refine WQ_guard rfl rfl rfl (lt_dec rfl) (fun _ => ⟨_, (q_loadR rfl rfl (Rds.rssI (j := i) m3 (by first | omega | assumption)) rfl rfl (by first | omega | (dsimp only; omega)) rfl rfl rfl), ?_⟩) (fun h => by cases h)
                first | refine WQ_guard rfl rfl rfl (lt_dec rfl) (fun _ => ⟨_, (p_geq rfl rfl).q, ?_⟩) (fun h => by cases h)
                refine WQ_cons rfl rfl rfl ((p_pick_f rfl rfl).q) (lt_dec rfl) ?_
                refine WQ_cons rfl rfl rfl ((p_move rfl).q) (lt_dec rfl) ?_
                first | refine WQ_guard rfl rfl rfl (lt_dec rfl) (fun hg19 => ⟨_, (p_move rfl).q, ?_⟩) (fun hg19 => ?_)
                · try simp only [bs] at hg19
                  first | refine WQ_guard rfl rfl rfl (lt_dec rfl) (fun _ => ⟨_, (q_ixR (2) rfl rfl rfl (Rds.rssI (j := i) m3 (by first | omega | assumption)) rfl rfl (by show _ < List.length _; first | omega | (dsimp only; omega)) rfl), ?_⟩) (fun h => by cases h)
                  first | refine WQ_guard rfl rfl rfl (lt_dec rfl) (fun _ => ⟨_, (q_loadR rfl rfl (Rds.rssI (j := i) m3 (by first | omega | assumption)) rfl rfl (by first | omega | (dsimp only; omega)) rfl rfl rfl), ?_⟩) (fun h => by cases h)
                  first | refine WQ_guard rfl rfl rfl (lt_dec rfl) (fun _ => ⟨_, (p_move rfl).q, ?_⟩) (fun h => by cases h)
                  first | refine WQ_guard rfl rfl rfl (lt_dec rfl) (fun _ => ⟨_, (p_geq rfl rfl).q, ?_⟩) (fun h => by cases h)
                  refine WQ_cons rfl rfl rfl ((p_pick_f rfl rfl).q) (lt_dec rfl) ?_
                  refine WQ_cons rfl rfl rfl ((p_move rfl).q) (lt_dec rfl) ?_
                  first | refine WQ_guard rfl rfl rfl (lt_dec rfl) (fun hg24 => ⟨_, (p_move rfl).q, ?_⟩) (fun hg24 => ?_)
                  · try simp only [bs] at hg24
                    first | refine WQ_guard rfl rfl rfl (lt_dec rfl) (fun _ => ⟨_, (p_gtr rfl rfl).q, ?_⟩) (fun h => by cases h)
                    first | refine WQ_guard rfl rfl rfl (lt_dec rfl) (fun _ => ⟨_, (p_move rfl).q, ?_⟩) (fun h => by cases h)
                    first | refine WQ_guard rfl rfl rfl (lt_dec rfl) (fun hg27 => ⟨_, (p_move rfl).q, ?_⟩) (fun hg27 => ?_)
                    · try simp only [bs] at hg27
                      first | refine WQ_guard rfl rfl rfl (lt_dec rfl) (fun _ => ⟨_, (p_move rfl).q, ?_⟩) (fun h => by cases h)
                      first | refine WQ_guard rfl rfl rfl (lt_dec rfl) (fun _ => ⟨_, (p_sub rfl rfl (by exact ⟨(by first | omega | (dsimp only; omega)), (by first | omega | (dsimp only; omega))⟩)).q, ?_⟩) (fun h => by cases h)
                      first | refine WQ_guard rfl rfl rfl (lt_dec rfl) (fun _ => ⟨_, (q_ixR ((i - 1)) rfl rfl rfl (Rds.rssO m3) rfl (by omega) (by rw [valsR_len]; first | omega | (dsimp only; omega)) rfl), ?_⟩) (fun h => by cases h)
                      first | refine WQ_guard rfl rfl rfl (lt_dec rfl) (fun _ => ⟨_, (q_loadI (j := (i - 1)) rfl rfl (Rds.rssO m3) rfl (by first | omega | assumption) rfl rfl), ?_⟩) (fun h => by cases h)
                      first | refine WQ_guard rfl rfl rfl (lt_dec rfl) (fun _ => ⟨_, (p_move rfl).q, ?_⟩) (fun h => by cases h)
                      first | refine WQ_guard rfl rfl rfl (lt_dec rfl) (fun _ => ⟨_, (q_call en_slices_CompareGSint64int64 rfl (w_slices_CompareGSint64int64 (hA (i - 1) (by omega)).1.len (by omega)) (View.cons (Vw.rdI (j := i - 1) m3 (by omega) rfl).v (Vw.rdI (j := i) m3 (by omega) rfl).v rfl rfl)), ?_⟩) (fun h => by cases h)
                      first | refine WQ_guard rfl rfl rfl (lt_dec rfl) (fun _ => ⟨_, (p_geq rfl rfl).q, ?_⟩) (fun h => by cases h)
                      first | refine WQ_guard rfl rfl rfl (lt_dec rfl) (fun _ => ⟨_, (p_pick_t rfl rfl).q, ?_⟩) (fun h => by cases h)
                      refine WQ_cons rfl rfl rfl ((p_pick_f rfl rfl).q) (lt_dec rfl) ?_
                      refine WQ_nil ?_
                      refine W_cond rfl (fun h3 => ?_) (fun h3 => ?_)
                      · try simp only [bs] at h3
                        have hts : false = tsB T v := ts_v (i := i) (by omega) (fun hV => cmp3_neg.2 (hV.ord (by omega)) (by omega))
                        refine W_seq ?_
                        refine W_region ?_
                        refine Ops_q (q_load rfl rfl m1 rfl (by first | exact True.intro | trivial | (first | omega | (dsimp only; omega)) | exact Fin.isLt _ | (dsimp only; omega))) (lt_dec rfl) ?_
                        refine Ops_x rfl (x_store rfl rfl rfl rfl rfl (((HpRep.head).tail).tail) rfl (by first | trivial | (first | (first | omega | (dsimp only; omega)) | exact Fin.isLt _)) ?_)
                        refine Ops_p (p_assign rfl) (lt_dec rfl) ?_
                        refine Ops_nil ?_
                        refine W_ret ?_
                        refine Exists.intro _ (And.intro (.cons (.cell rfl rfl m2 rfl trivial) (.cons (.tmp rfl) .nil)) (Exists.intro (f) (And.intro ?_ (And.intro ?_ (And.intro .nil rfl)))))
                        · trivial
                        · first | exact veq_tup2 rfl (veq_bool hts) | exact veq_tup2 rfl (veq_bool (ts_v (i := i) (by omega) (fun hV => by have h1 := hV.len; have h2 := hV.a0; have h3 := hV.a1; have h4 := hV.a2; have h5 := hV.a3; unfold at2 at h2 h3 h4 h5; omega)))
                      · try simp only [bs] at h3
                        refine W_skip ?_
                        refine ⟨?_, ?_⟩
                        · exact ⟨by omega, by show 0 ≤ List.getD _ _ _; omega, by show List.getD _ _ _ < List.getD _ _ _; omega, by show List.getD _ _ _ < List.getD _ _ _; omega, by show List.getD _ _ _ < v; omega, fun h => by first | omega | exact cmp3_neg.1 (by omega) | simp_all⟩
                        · exact Wk.intro (.cons rfl (by first | rfl | exact veq_int (by first | omega | (dsimp only; omega))) (.cons rfl (by first | rfl | exact veq_int (by first | omega | (dsimp only; omega))) (.cons rfl (by first | rfl | exact veq_int (by first | omega | (dsimp only; omega))) (.cons rfl (by first | rfl | exact veq_int (by first | omega | (dsimp only; omega))) (.cons rfl (by first | rfl | exact veq_int (by first | omega | (dsimp only; omega))) (.cons rfl (by first | rfl | exact veq_int (by first | omega | (dsimp only; omega))) (.cons rfl (by first | rfl | exact veq_int (by first | omega | (dsimp only; omega))) (.cons rfl (by first | rfl | exact veq_int (by first | omega | (dsimp only; omega))) (.cons rfl (by first | rfl | exact veq_int (by first | omega | (dsimp only; omega))) (.cons rfl (by first | rfl | exact veq_int (by first | omega | (dsimp only; omega))) (.cons rfl (by first | rfl | exact veq_int (by first | omega | (dsimp only; omega))) (.cons rfl (by first | rfl | exact veq_int (by first | omega | (dsimp only; omega))) .nil)))))))))))) (.keep rfl rfl (fun _ h => h) (.keep rfl rfl (fun _ h => h) (.keep rfl rfl (fun _ h => h) (.keep rfl rfl (fun _ h => h) .nil))))
                    · try simp only [bs] at hg27
                      refine WQ_guard rfl rfl rfl (lt_dec rfl) (fun h => by cases h) (fun _ => ?_)
                      refine WQ_guard rfl rfl rfl (lt_dec rfl) (fun h => by cases h) (fun _ => ?_)
                      refine WQ_guard rfl rfl rfl (lt_dec rfl) (fun h => by cases h) (fun _ => ?_)
                      refine WQ_guard rfl rfl rfl (lt_dec rfl) (fun h => by cases h) (fun _ => ?_)
                      refine WQ_guard rfl rfl rfl (lt_dec rfl) (fun h => by cases h) (fun _ => ?_)
                      refine WQ_guard rfl rfl rfl (lt_dec rfl) (fun h => by cases h) (fun _ => ?_)
                      refine WQ_guard rfl rfl rfl (lt_dec rfl) (fun h => by cases h) (fun _ => ?_)
                      first | refine WQ_guard rfl rfl rfl (lt_dec rfl) (fun _ => ⟨_, (p_pick_f rfl rfl).q, ?_⟩) (fun h => by cases h)
                      refine WQ_cons rfl rfl rfl ((p_pick_f rfl rfl).q) (lt_dec rfl) ?_
                      refine WQ_nil ?_
                      refine W_false rfl ?_
                      refine W_skip ?_
                      refine ⟨?_, ?_⟩
                      · exact ⟨by omega, by show 0 ≤ List.getD _ _ _; omega, by show List.getD _ _ _ < List.getD _ _ _; omega, by show List.getD _ _ _ < List.getD _ _ _; omega, by show List.getD _ _ _ < v; omega, fun h => by first | omega | exact cmp3_neg.1 (by omega) | simp_all⟩
                      · exact Wk.intro (.cons rfl (by first | rfl | exact veq_int (by first | omega | (dsimp only; omega))) (.cons rfl (by first | rfl | exact veq_int (by first | omega | (dsimp only; omega))) (.cons rfl (by first | rfl | exact veq_int (by first | omega | (dsimp only; omega))) (.cons rfl (by first | rfl | exact veq_int (by first | omega | (dsimp only; omega))) (.cons rfl (by first | rfl | exact veq_int (by first | omega | (dsimp only; omega))) (.cons rfl (by first | rfl | exact veq_int (by first | omega | (dsimp only; omega))) (.cons rfl (by first | rfl | exact veq_int (by first | omega | (dsimp only; omega))) (.cons rfl (by first | rfl | exact veq_int (by first | omega | (dsimp only; omega))) (.cons rfl (by first | rfl | exact veq_int (by first | omega | (dsimp only; omega))) (.cons rfl (by first | rfl | exact veq_int (by first | omega | (dsimp only; omega))) (.cons rfl (by first | rfl | exact veq_int (by first | omega | (dsimp only; omega))) (.cons rfl (by first | rfl | exact veq_int (by first | omega | (dsimp only; omega))) .nil)))))))))))) (.keep rfl rfl (fun _ h => h) (.keep rfl rfl (fun _ h => h) (.keep rfl rfl (fun _ h => h) (.keep rfl rfl (fun _ h => h) .nil))))
                  · try simp only [bs] at hg24
                    refine WQ_guard rfl rfl rfl (lt_dec rfl) (fun h => by cases h) (fun _ => ?_)
                    refine WQ_guard rfl rfl rfl (lt_dec rfl) (fun h => by cases h) (fun _ => ?_)
                    refine WQ_guard_u rfl rfl rfl (lt_dec rfl) ?_
                    refine WQ_guard_u rfl rfl rfl (lt_dec rfl) ?_
                    refine WQ_guard_u rfl rfl rfl (lt_dec rfl) ?_
                    refine WQ_guard_u rfl rfl rfl (lt_dec rfl) ?_
                    refine WQ_guard_u rfl rfl rfl (lt_dec rfl) ?_
                    refine WQ_guard_u rfl rfl rfl (lt_dec rfl) ?_
                    refine WQ_guard_u rfl rfl rfl (lt_dec rfl) ?_
                    refine WQ_guard_u rfl rfl rfl (lt_dec rfl) ?_
                    refine WQ_guard rfl rfl rfl (lt_dec rfl) (fun h => by cases h) (fun _ => ?_)
                    refine WQ_cons rfl rfl rfl ((p_pick_t rfl rfl).q) (lt_dec rfl) ?_
                    refine WQ_nil ?_
                    refine W_true rfl ?_
                    refine W_seq ?_
                    refine W_region ?_
                    refine Ops_q (q_load rfl rfl m1 rfl (by first | exact True.intro | trivial | (first | omega | (dsimp only; omega)) | exact Fin.isLt _ | (dsimp only; omega))) (lt_dec rfl) ?_
                    refine Ops_x rfl (x_store rfl rfl rfl rfl rfl (((HpRep.head).tail).tail) rfl (by first | trivial | (first | (first | omega | (dsimp only; omega)) | exact Fin.isLt _)) ?_)
                    refine Ops_p (p_assign rfl) (lt_dec rfl) ?_
                    refine Ops_nil ?_
                    refine W_ret ?_
                    refine Exists.intro _ (And.intro (.cons (.cell rfl rfl m2 rfl trivial) (.cons (.tmp rfl) .nil)) (Exists.intro (f) (And.intro ?_ (And.intro ?_ (And.intro .nil rfl)))))
                    · trivial
                    · first | exact veq_tup2 rfl (veq_bool hts) | exact veq_tup2 rfl (veq_bool (ts_v (i := i) (by omega) (fun hV => by have h1 := hV.len; have h2 := hV.a0; have h3 := hV.a1; have h4 := hV.a2; have h5 := hV.a3; unfold at2 at h2 h3 h4 h5; omega)))
                · try simp only [bs] at hg19
                  refine WQ_guard rfl rfl rfl (lt_dec rfl) (fun h => by cases h) (fun _ => ?_)
                  refine WQ_guard rfl rfl rfl (lt_dec rfl) (fun h => by cases h) (fun _ => ?_)
                  refine WQ_guard rfl rfl rfl (lt_dec rfl) (fun h => by cases h) (fun _ => ?_)
                  refine WQ_guard rfl rfl rfl (lt_dec rfl) (fun h => by cases h) (fun _ => ?_)
                  refine WQ_cons rfl rfl rfl ((p_pick_t rfl rfl).q) (lt_dec rfl) ?_
                  refine WQ_cons rfl rfl rfl ((p_move rfl).q) (lt_dec rfl) ?_
                  refine WQ_guard rfl rfl rfl (lt_dec rfl) (fun h => by cases h) (fun _ => ?_)
                  refine WQ_guard rfl rfl rfl (lt_dec rfl) (fun h => by cases h) (fun _ => ?_)
                  refine WQ_guard rfl rfl rfl (lt_dec rfl) (fun h => by cases h) (fun _ => ?_)
                  refine WQ_guard_u rfl rfl rfl (lt_dec rfl) ?_
                  refine WQ_guard_u rfl rfl rfl (lt_dec rfl) ?_
                  refine WQ_guard_u rfl rfl rfl (lt_dec rfl) ?_
                  refine WQ_guard_u rfl rfl rfl (lt_dec rfl) ?_
                  refine WQ_guard_u rfl rfl rfl (lt_dec rfl) ?_
                  refine WQ_guard_u rfl rfl rfl (lt_dec rfl) ?_
                  refine WQ_guard_u rfl rfl rfl (lt_dec rfl) ?_
                  refine WQ_guard_u rfl rfl rfl (lt_dec rfl) ?_
                  refine WQ_guard rfl rfl rfl (lt_dec rfl) (fun h => by cases h) (fun _ => ?_)
                  refine WQ_cons rfl rfl rfl ((p_pick_t rfl rfl).q) (lt_dec rfl) ?_
                  refine WQ_nil ?_
                  refine W_true rfl ?_
                  refine W_seq ?_
                  refine W_region ?_
                  refine Ops_q (q_load rfl rfl m1 rfl (by first | exact True.intro | trivial | (first | omega | (dsimp only; omega)) | exact Fin.isLt _ | (dsimp only; omega))) (lt_dec rfl) ?_
                  refine Ops_x rfl (x_store rfl rfl rfl rfl rfl (((HpRep.head).tail).tail) rfl (by first | trivial | (first | (first | omega | (dsimp only; omega)) | exact Fin.isLt _)) ?_)
                  refine Ops_p (p_assign rfl) (lt_dec rfl) ?_
                  refine Ops_nil ?_
                  refine W_ret ?_
                  refine Exists.intro _ (And.intro (.cons (.cell rfl rfl m2 rfl trivial) (.cons (.tmp rfl) .nil)) (Exists.intro (f) (And.intro ?_ (And.intro ?_ (And.intro .nil rfl)))))
                  · trivial
                  · first | exact veq_tup2 rfl (veq_bool hts) | exact veq_tup2 rfl (veq_bool (ts_v (i := i) (by omega) (fun hV => by have h1 := hV.len; have h2 := hV.a0; have h3 := hV.a1; have h4 := hV.a2; have h5 := hV.a3; unfold at2 at h2 h3 h4 h5; omega)))
              · try simp only [bs] at hg12
                refine WQ_guard rfl rfl rfl (lt_dec rfl) (fun h => by cases h) (fun _ => ?_)
                refine WQ_guard rfl rfl rfl (lt_dec rfl) (fun h => by cases h) (fun _ => ?_)
                refine WQ_guard rfl rfl rfl (lt_dec rfl) (fun h => by cases h) (fun _ => ?_)
                refine WQ_guard rfl rfl rfl (lt_dec rfl) (fun h => by cases h) (fun _ => ?_)
                refine WQ_guard rfl rfl rfl (lt_dec rfl) (fun h => by cases h) (fun _ => ?_)
                refine WQ_guard rfl rfl rfl (lt_dec rfl) (fun h => by cases h) (fun _ => ?_)
                refine WQ_cons rfl rfl rfl ((p_pick_t rfl rfl).q) (lt_dec rfl) ?_
                refine WQ_cons rfl rfl rfl ((p_move rfl).q) (lt_dec rfl) ?_
                refine WQ_guard rfl rfl rfl (lt_dec rfl) (fun h => by cases h) (fun _ => ?_)
                refine WQ_guard rfl rfl rfl (lt_dec rfl) (fun h => by cases h) (fun _ => ?_)
                refine WQ_guard rfl rfl rfl (lt_dec rfl) (fun h => by cases h) (fun _ => ?_)
                refine WQ_guard rfl rfl rfl (lt_dec rfl) (fun h => by cases h) (fun _ => ?_)
                refine WQ_guard rfl rfl rfl (lt_dec rfl) (fun h => by cases h) (fun _ => ?_)
                refine WQ_cons rfl rfl rfl ((p_pick_t rfl rfl).q) (lt_dec rfl) ?_
                refine WQ_cons rfl rfl rfl ((p_move rfl).q) (lt_dec rfl) ?_
                refine WQ_guard rfl rfl rfl (lt_dec rfl) (fun h => by cases h) (fun _ => ?_)
                refine WQ_guard rfl rfl rfl (lt_dec rfl) (fun h => by cases h) (fun _ => ?_)
                refine WQ_guard rfl rfl rfl (lt_dec rfl) (fun h => by cases h) (fun _ => ?_)
                refine WQ_guard_u rfl rfl rfl (lt_dec rfl) ?_
                refine WQ_guard_u rfl rfl rfl (lt_dec rfl) ?_
                refine WQ_guard_u rfl rfl rfl (lt_dec rfl) ?_
                refine WQ_guard_u rfl rfl rfl (lt_dec rfl) ?_
                refine WQ_guard_u rfl rfl rfl (lt_dec rfl) ?_
                refine WQ_guard_u rfl rfl rfl (lt_dec rfl) ?_
                refine WQ_guard_u rfl rfl rfl (lt_dec rfl) ?_
                refine WQ_guard_u rfl rfl rfl (lt_dec rfl) ?_
                refine WQ_guard rfl rfl rfl (lt_dec rfl) (fun h => by cases h) (fun _ => ?_)
                refine WQ_cons rfl rfl rfl ((p_pick_t rfl rfl).q) (lt_dec rfl) ?_
                refine WQ_nil ?_
                refine W_true rfl ?_
                refine W_seq ?_
                refine W_region ?_
                refine Ops_q (q_load rfl rfl m1 rfl (by first | exact True.intro | trivial | (first | omega | (dsimp only; omega)) | exact Fin.isLt _ | (dsimp only; omega))) (lt_dec rfl) ?_
                refine Ops_x rfl (x_store rfl rfl rfl rfl rfl (((HpRep.head).tail).tail) rfl (by first | trivial | (first | (first | omega | (dsimp only; omega)) | exact Fin.isLt _)) ?_)
                refine Ops_p (p_assign rfl) (lt_dec rfl) ?_
                refine Ops_nil ?_
                refine W_ret ?_
                refine Exists.intro _ (And.intro (.cons (.cell rfl rfl m2 rfl trivial) (.cons (.tmp rfl) .nil)) (Exists.intro (f) (And.intro ?_ (And.intro ?_ (And.intro .nil rfl)))))
                · trivial
                · first | exact veq_tup2 rfl (veq_bool hts) | exact veq_tup2 rfl (veq_bool (ts_v (i := i) (by omega) (fun hV => by have h1 := hV.len; have h2 := hV.a0; have h3 := hV.a1; have h4 := hV.a2; have h5 := hV.a3; unfold at2 at h2 h3 h4 h5; omega)))
            · try simp only [bs] at hg5
              refine WQ_guard rfl rfl rfl (lt_dec rfl) (fun h => by cases h) (fun _ => ?_)
              refine WQ_guard rfl rfl rfl (lt_dec rfl) (fun h => by cases h) (fun _ => ?_)
              refine WQ_guard rfl rfl rfl (lt_dec rfl) (fun h => by cases h) (fun _ => ?_)
              refine WQ_guard rfl rfl rfl (lt_dec rfl) (fun h => by cases h) (fun _ => ?_)
              refine WQ_guard rfl rfl rfl (lt_dec rfl) (fun h => by cases h) (fun _ => ?_)
              refine WQ_guard rfl rfl rfl (lt_dec rfl) (fun h => by cases h) (fun _ => ?_)
              refine WQ_cons rfl rfl rfl ((p_pick_t rfl rfl).q) (lt_dec rfl) ?_
              refine WQ_cons rfl rfl rfl ((p_move rfl).q) (lt_dec rfl) ?_
              refine WQ_guard rfl rfl rfl (lt_dec rfl) (fun h => by cases h) (fun _ => ?_)
              refine WQ_guard rfl rfl rfl (lt_dec rfl) (fun h => by cases h) (fun _ => ?_)
              refine WQ_guard rfl rfl rfl (lt_dec rfl) (fun h => by cases h) (fun _ => ?_)
              refine WQ_guard rfl rfl rfl (lt_dec rfl) (fun h => by cases h) (fun _ => ?_)
              refine WQ_guard rfl rfl rfl (lt_dec rfl) (fun h => by cases h) (fun _ => ?_)
              refine WQ_guard rfl rfl rfl (lt_dec rfl) (fun h => by cases h) (fun _ => ?_)
              refine WQ_guard rfl rfl rfl (lt_dec rfl) (fun h => by cases h) (fun _ => ?_)
              refine WQ_cons rfl rfl rfl ((p_pick_t rfl rfl).q) (lt_dec rfl) ?_
              refine WQ_cons rfl rfl rfl ((p_move rfl).q) (lt_dec rfl) ?_
              refine WQ_guard rfl rfl rfl (lt_dec rfl) (fun h => by cases h) (fun _ => ?_)
              refine WQ_guard rfl rfl rfl (lt_dec rfl) (fun h => by cases h) (fun _ => ?_)
              refine WQ_guard rfl rfl rfl (lt_dec rfl) (fun h => by cases h) (fun _ => ?_)
              refine WQ_guard rfl rfl rfl (lt_dec rfl) (fun h => by cases h) (fun _ => ?_)
              refine WQ_guard rfl rfl rfl (lt_dec rfl) (fun h => by cases h) (fun _ => ?_)
              refine WQ_cons rfl rfl rfl ((p_pick_t rfl rfl).q) (lt_dec rfl) ?_
              refine WQ_cons rfl rfl rfl ((p_move rfl).q) (lt_dec rfl) ?_
              refine WQ_guard rfl rfl rfl (lt_dec rfl) (fun h => by cases h) (fun _ => ?_)
              refine WQ_guard rfl rfl rfl (lt_dec rfl) (fun h => by cases h) (fun _ => ?_)
              refine WQ_guard rfl rfl rfl (lt_dec rfl) (fun h => by cases h) (fun _ => ?_)
              refine WQ_guard_u rfl rfl rfl (lt_dec rfl) ?_
              refine WQ_guard_u rfl rfl rfl (lt_dec rfl) ?_
              refine WQ_guard_u rfl rfl rfl (lt_dec rfl) ?_
              refine WQ_guard_u rfl rfl rfl (lt_dec rfl) ?_
              refine WQ_guard_u rfl rfl rfl (lt_dec rfl) ?_
              refine WQ_guard_u rfl rfl rfl (lt_dec rfl) ?_
              refine WQ_guard_u rfl rfl rfl (lt_dec rfl) ?_
              refine WQ_guard_u rfl rfl rfl (lt_dec rfl) ?_
              refine WQ_guard rfl rfl rfl (lt_dec rfl) (fun h => by cases h) (fun _ => ?_)
              refine WQ_cons rfl rfl rfl ((p_pick_t rfl rfl).q) (lt_dec rfl) ?_
              refine WQ_nil ?_
              refine W_true rfl ?_
              refine W_seq ?_
              refine W_region ?_
              refine Ops_q (q_load rfl rfl m1 rfl (by first | exact True.intro | trivial | (first | omega | (dsimp only; omega)) | exact Fin.isLt _ | (dsimp only; omega))) (lt_dec rfl) ?_
              refine Ops_x rfl (x_store rfl rfl rfl rfl rfl (((HpRep.head).tail).tail) rfl (by first | trivial | (first | (first | omega | (dsimp only; omega)) | exact Fin.isLt _)) ?_)
              refine Ops_p (p_assign rfl) (lt_dec rfl) ?_
              refine Ops_nil ?_
              refine W_ret ?_
              refine Exists.intro _ (And.intro (.cons (.cell rfl rfl m2 rfl trivial) (.cons (.tmp rfl) .nil)) (Exists.intro (f) (And.intro ?_ (And.intro ?_ (And.intro .nil rfl)))))
              · trivial
              · first | exact veq_tup2 rfl (veq_bool hts) | exact veq_tup2 rfl (veq_bool (ts_v (i := i) (by omega) (fun hV => by have h1 := hV.len; have h2 := hV.a0; have h3 := hV.a1; have h4 := hV.a2; have h5 := hV.a3; unfold at2 at h2 h3 h4 h5; omega)))
          · try simp only [bs] at hg1
            refine WQ_guard rfl rfl rfl (lt_dec rfl) (fun h => by cases h) (fun _ => ?_)
            refine WQ_guard rfl rfl rfl (lt_dec rfl) (fun h => by cases h) (fun _ => ?_)
            refine WQ_guard rfl rfl rfl (lt_dec rfl) (fun h => by cases h) (fun _ => ?_)
            refine WQ_cons rfl rfl rfl ((p_pick_t rfl rfl).q) (lt_dec rfl) ?_
            refine WQ_cons rfl rfl rfl ((p_move rfl).q) (lt_dec rfl) ?_
            refine WQ_guard rfl rfl rfl (lt_dec rfl) (fun h => by cases h) (fun _ => ?_)
            refine WQ_guard rfl rfl rfl (lt_dec rfl) (fun h => by cases h) (fun _ => ?_)
            refine WQ_guard rfl rfl rfl (lt_dec rfl) (fun h => by cases h) (fun _ => ?_)
            refine WQ_guard rfl rfl rfl (lt_dec rfl) (fun h => by cases h) (fun _ => ?_)
            refine WQ_guard rfl rfl rfl (lt_dec rfl) (fun h => by cases h) (fun _ => ?_)
            refine WQ_guard rfl rfl rfl (lt_dec rfl) (fun h => by cases h) (fun _ => ?_)
            refine WQ_guard rfl rfl rfl (lt_dec rfl) (fun h => by cases h) (fun _ => ?_)
            refine WQ_cons rfl rfl rfl ((p_pick_t rfl rfl).q) (lt_dec rfl) ?_
            refine WQ_cons rfl rfl rfl ((p_move rfl).q) (lt_dec rfl) ?_
            refine WQ_guard rfl rfl rfl (lt_dec rfl) (fun h => by cases h) (fun _ => ?_)
            refine WQ_guard rfl rfl rfl (lt_dec rfl) (fun h => by cases h) (fun _ => ?_)
            refine WQ_guard rfl rfl rfl (lt_dec rfl) (fun h => by cases h) (fun _ => ?_)
            refine WQ_guard rfl rfl rfl (lt_dec rfl) (fun h => by cases h) (fun _ => ?_)
            refine WQ_guard rfl rfl rfl (lt_dec rfl) (fun h => by cases h) (fun _ => ?_)
            refine WQ_guard rfl rfl rfl (lt_dec rfl) (fun h => by cases h) (fun _ => ?_)
            refine WQ_guard rfl rfl rfl (lt_dec rfl) (fun h => by cases h) (fun _ => ?_)
            refine WQ_cons rfl rfl rfl ((p_pick_t rfl rfl).q) (lt_dec rfl) ?_
            refine WQ_cons rfl rfl rfl ((p_move rfl).q) (lt_dec rfl) ?_
            refine WQ_guard rfl rfl rfl (lt_dec rfl) (fun h => by cases h) (fun _ => ?_)
            refine WQ_guard rfl rfl rfl (lt_dec rfl) (fun h => by cases h) (fun _ => ?_)
            refine WQ_guard rfl rfl rfl (lt_dec rfl) (fun h => by cases h) (fun _ => ?_)
            refine WQ_guard rfl rfl rfl (lt_dec rfl) (fun h => by cases h) (fun _ => ?_)
            refine WQ_guard rfl rfl rfl (lt_dec rfl) (fun h => by cases h) (fun _ => ?_)
            refine WQ_cons rfl rfl rfl ((p_pick_t rfl rfl).q) (lt_dec rfl) ?_
            refine WQ_cons rfl rfl rfl ((p_move rfl).q) (lt_dec rfl) ?_
            refine WQ_guard rfl rfl rfl (lt_dec rfl) (fun h => by cases h) (fun _ => ?_)
            refine WQ_guard rfl rfl rfl (lt_dec rfl) (fun h => by cases h) (fun _ => ?_)
            refine WQ_guard rfl rfl rfl (lt_dec rfl) (fun h => by cases h) (fun _ => ?_)
            refine WQ_guard_u rfl rfl rfl (lt_dec rfl) ?_
            refine WQ_guard_u rfl rfl rfl (lt_dec rfl) ?_
            refine WQ_guard_u rfl rfl rfl (lt_dec rfl) ?_
            refine WQ_guard_u rfl rfl rfl (lt_dec rfl) ?_
            refine WQ_guard_u rfl rfl rfl (lt_dec rfl) ?_
            refine WQ_guard_u rfl rfl rfl (lt_dec rfl) ?_
            refine WQ_guard_u rfl rfl rfl (lt_dec rfl) ?_
            refine WQ_guard_u rfl rfl rfl (lt_dec rfl) ?_
            refine WQ_guard rfl rfl rfl (lt_dec rfl) (fun h => by cases h) (fun _ => ?_)
            refine WQ_cons rfl rfl rfl ((p_pick_t rfl rfl).q) (lt_dec rfl) ?_
            refine WQ_nil ?_
            refine W_true rfl ?_
            refine W_seq ?_
            refine W_region ?_
            refine Ops_q (q_load rfl rfl m1 rfl (by first | exact True.intro | trivial | (first | omega | (dsimp only; omega)) | exact Fin.isLt _ | (dsimp only; omega))) (lt_dec rfl) ?_
            refine Ops_x rfl (x_store rfl rfl rfl rfl rfl (((HpRep.head).tail).tail) rfl (by first | trivial | (first | (first | omega | (dsimp only; omega)) | exact Fin.isLt _)) ?_)
            refine Ops_p (p_assign rfl) (lt_dec rfl) ?_
            refine Ops_nil ?_
            refine W_ret ?_
            refine Exists.intro _ (And.intro (.cons (.cell rfl rfl m2 rfl trivial) (.cons (.tmp rfl) .nil)) (Exists.intro (f) (And.intro ?_ (And.intro ?_ (And.intro .nil rfl)))))
            · trivial
            · first | exact veq_tup2 rfl (veq_bool hts) | exact veq_tup2 rfl (veq_bool (ts_v (i := i) (by omega) (fun hV => by have h1 := hV.len; have h2 := hV.a0; have h3 := hV.a1; have h4 := hV.a2; have h5 := hV.a3; unfold at2 at h2 h3 h4 h5; omega)))
        · rintro s' ⟨hV, hw⟩
          refine W_wk hw ?_
          clear hw s'
          refine W_seq ?_
          refine W_region ?_
          refine Ops_p (p_move rfl) (lt_dec rfl) ?_
          refine Ops_nil ?_
          refine W_block ?_
          refine W_loop (α := Nat × (Nat → Fin 256) × (Nat → Bool)) (fun zz1 => ⟨[(0, .int .i64 v), (1, .raw a ha), (4, .ptr b4_1 0 none), (6, .ptr b6_1 0 none), (7, .ptr b7_1 0 none), (9, .raw (T.getD i sd).1.1 (T.getD i sd).1.2), (16, .arr8 81 fun _ => 0), (17, .int .i64 v), (21, .barr 81 fun _ => false), (22, .raw a ha), (23, .int .i64 ((T.length : Nat) : Int)), (24, .int .i64 (i : Int)), (78, .int .i64 ((zz1.1) : Int))], [.var b7_1 (.barr 81 (zz1.2.2)), .var b6_1 (.arr8 81 (zz1.2.1)), .var b4_1 (.arr8 81 fun _ => 0), rss a T]⟩) (fun zz1 => (zz1.1) ≤ 3 ∧ MkB T i (zz1.1) (zz1.2.2) ∧ ∀ u, u < (zz1.1) → ¬ us T i (at2 T i u) (at2 T i ((u + 1) % 3))) (fun zz1 => 3 - (zz1.1)) (0, f, g) ?_ ?_ ?_
          · exact ⟨by omega, hM, fun u h => by omega⟩
          · exact Wk.intro (.cons rfl (by first | rfl | exact veq_int (by first | omega | (dsimp only; omega))) (.cons rfl (by first | rfl | exact veq_int (by first | omega | (dsimp only; omega))) (.cons rfl (by first | rfl | exact veq_int (by first | omega | (dsimp only; omega))) (.cons rfl (by first | rfl | exact veq_int (by first | omega | (dsimp only; omega))) (.cons rfl (by first | rfl | exact veq_int (by first | omega | (dsimp only; omega))) (.cons rfl (by first | rfl | exact veq_int (by first | omega | (dsimp only; omega))) (.cons rfl (by first | rfl | exact veq_int (by first | omega | (dsimp only; omega))) (.cons rfl (by first | rfl | exact veq_int (by first | omega | (dsimp only; omega))) (.cons rfl (by first | rfl | exact veq_int (by first | omega | (dsimp only; omega))) (.cons rfl (by first | rfl | exact veq_int (by first | omega | (dsimp only; omega))) (.cons rfl (by first | rfl | exact veq_int (by first | omega | (dsimp only; omega))) (.cons rfl (by first | rfl | exact veq_int (by first | omega | (dsimp only; omega))) (.cons rfl (by first | rfl | exact veq_int (by first | omega | (dsimp only; omega))) .nil))))))))))))) (.keep rfl rfl (fun _ h => h) (.keep rfl rfl (fun _ h => h) (.keep rfl rfl (fun _ h => h) (.keep rfl rfl (fun _ h => h) .nil))))
          · rintro ⟨k, f2, g2⟩ ⟨hk, hM2, hU2⟩
            try dsimp only at *
            refine W_seq ?_
            refine W_region ?_
            refine Ops_p (p_lss rfl rfl) (lt_dec rfl) ?_
            refine Ops_nil ?_
            refine W_seq ?_
            refine W_cond rfl (fun h4 => ?_) (fun h4 => ?_)
            · try simp only [bs] at h4
              refine W_skip ?_
              refine W_seq ?_
              refine W_block ?_
              refine W_seq ?_
              have hln : (T.getD i sd).2.length = 3 := hV.len
              have hr0 := hV.rng (a := k) (by omega)
              have hr1 := hV.rng (a := ((k + 1) % 3)) (by omega)
              have hr2 := hV.rng (a := ((k + 2) % 3)) (by omega)
              have hr3 : 0 ≤ (List.getD T i sd).2.getD ((k + 2) % 3) 0 ∧ (List.getD T i sd).2.getD ((k + 2) % 3) 0 < v := hr2
              refine W_region ?_
              refine Ops_p (p_move rfl) (lt_dec rfl) ?_
              refine Ops_p (p_assign rfl) (lt_dec rfl) ?_
              refine Ops_nil ?_
              refine W_seq ?_
              refine W_draw (by kernel_rfl) ?_
              show RA _ _ 19 _ _ _
              refine RA_quietF [0, 1, 2, 3, 4, 5, 6, 7, 8, 9, 10, 11, 12, 13, 14, 15, 16, 17, 18] rfl rfl rfl (by kernel_rfl) (by kernel_rfl) ?_
              refine WQ_cons rfl rfl rfl ((p_move rfl).q) (lt_dec rfl) ?_
              refine WQ_cons rfl rfl rfl ((p_move rfl).q) (lt_dec rfl) ?_
              refine WQ_cons rfl rfl rfl ((q_ixR (k) rfl rfl rfl (Rds.rssI (j := i) m3 (by first | omega | assumption)) rfl rfl (by show _ < List.length _; first | omega | (dsimp only; omega)) rfl)) (lt_dec rfl) ?_
              refine WQ_cons rfl rfl rfl ((q_loadR rfl rfl (Rds.rssI (j := i) m3 (by first | omega | assumption)) rfl rfl (by first | omega | (dsimp only; omega)) rfl rfl rfl)) (lt_dec rfl) ?_
              refine WQ_cons rfl rfl rfl ((p_move rfl).q) (lt_dec rfl) ?_
              refine WQ_cons rfl rfl rfl ((p_move rfl).q) (lt_dec rfl) ?_
              refine WQ_cons rfl rfl rfl ((p_add rfl rfl (by exact ⟨(by first | omega | (dsimp only; omega)), (by first | omega | (dsimp only; omega))⟩)).q) (lt_dec rfl) ?_
              refine WQ_cons rfl rfl rfl (((p_rem rfl rfl (by omega) (by omega)).eq (d' := .int .i64 ((((k + 1) % 3) : Nat) : Int)) (veq_int (by omega))).q) (lt_dec rfl) ?_
              refine WQ_cons rfl rfl rfl ((q_ixR (((k + 1) % 3)) rfl rfl rfl (Rds.rssI (j := i) m3 (by first | omega | assumption)) rfl rfl (by show _ < List.length _; first | omega | (dsimp only; omega)) rfl)) (lt_dec rfl) ?_
              refine WQ_cons rfl rfl rfl ((q_loadR rfl rfl (Rds.rssI (j := i) m3 (by first | omega | assumption)) rfl rfl (by first | omega | (dsimp only; omega)) rfl rfl rfl)) (lt_dec rfl) ?_
              refine WQ_cons rfl rfl rfl ((p_move rfl).q) (lt_dec rfl) ?_
              refine WQ_cons rfl rfl rfl ((p_move rfl).q) (lt_dec rfl) ?_
              refine WQ_cons rfl rfl rfl ((p_add rfl rfl (by exact ⟨(by first | omega | (dsimp only; omega)), (by first | omega | (dsimp only; omega))⟩)).q) (lt_dec rfl) ?_
              refine WQ_cons rfl rfl rfl (((p_rem rfl rfl (by omega) (by omega)).eq (d' := .int .i64 ((((k + 2) % 3) : Nat) : Int)) (veq_int (by omega))).q) (lt_dec rfl) ?_
              refine WQ_cons rfl rfl rfl ((q_ixR (((k + 2) % 3)) rfl rfl rfl (Rds.rssI (j := i) m3 (by first | omega | assumption)) rfl rfl (by show _ < List.length _; first | omega | (dsimp only; omega)) rfl)) (lt_dec rfl) ?_
              refine WQ_cons rfl rfl rfl ((q_loadR rfl rfl (Rds.rssI (j := i) m3 (by first | omega | assumption)) rfl rfl (by first | omega | (dsimp only; omega)) rfl rfl rfl)) (lt_dec rfl) ?_
              refine WQ_cons rfl rfl rfl ((p_assign rfl).q) (lt_dec rfl) ?_
              refine WQ_cons rfl rfl rfl ((p_assign rfl).q) (lt_dec rfl) ?_
              refine WQ_cons rfl rfl rfl ((p_assign rfl).q) (lt_dec rfl) ?_
              refine WQ_nil ?_
              refine W_seq ?_
              refine W_seq ?_
              refine W_region ?_
              refine Ops_p (p_move rfl) (lt_dec rfl) ?_
              refine Ops_p (p_move rfl) (lt_dec rfl) ?_
              refine Ops_p (p_ixN 9 (at2 T i k).toNat rfl rfl rfl rfl rfl (show at2 T i k = _ by omega) (by first | (first | omega | (dsimp only; omega)) | exact Fin.isLt _)) (lt_dec rfl) ?_
              first | refine Ops_p (p_ix1 (at2 T i ((k + 1) % 3)).toNat rfl rfl rfl rfl rfl (show at2 T i ((k + 1) % 3) = _ by omega) (by first | (first | omega | (dsimp only; omega)) | exact Fin.isLt _)) (lt_dec rfl) ?_ | refine Ops_p (p_ix1s (at2 T i ((k + 1) % 3)).toNat rfl rfl rfl rfl rfl (show at2 T i ((k + 1) % 3) = _ by omega) (by first | (first | omega | (dsimp only; omega)) | exact Fin.isLt _)) (lt_dec rfl) ?_
              refine Ops_q (q_load rfl rfl m0 rfl (by first | exact True.intro | trivial | (first | omega | (dsimp only; omega)) | exact Fin.isLt _ | (dsimp only; omega))) (lt_dec rfl) ?_
              refine Ops_nil ?_
              refine W_cond rfl (fun h5 => ?_) (fun h5 => ?_)
              · try simp only [bs] at h5
                have hts : false = tsB T v := ts_u (i := i) (by omega) (by omega) (by omega) (by omega) (hM2.hit hv.2 hV (by omega) h5)
                refine W_seq ?_
                refine W_region ?_
                refine Ops_q (q_load rfl rfl m1 rfl (by first | exact True.intro | trivial | (first | omega | (dsimp only; omega)) | exact Fin.isLt _ | (dsimp only; omega))) (lt_dec rfl) ?_
                refine Ops_x rfl (x_store rfl rfl rfl rfl rfl (((HpRep.head).tail).tail) rfl (by first | trivial | (first | (first | omega | (dsimp only; omega)) | exact Fin.isLt _)) ?_)
                refine Ops_p (p_assign rfl) (lt_dec rfl) ?_
                refine Ops_nil ?_
                refine W_ret ?_
                refine Exists.intro _ (And.intro (.cons (.cell rfl rfl m2 rfl trivial) (.cons (.tmp rfl) .nil)) (Exists.intro (f2) (And.intro ?_ (And.intro ?_ (And.intro .nil rfl)))))
                · trivial
                · first | exact veq_tup2 rfl (veq_bool hts) | exact veq_tup2 rfl (veq_bool (ts_v (i := i) (by omega) (fun hV => by have h1 := hV.len; have h2 := hV.a0; have h3 := hV.a1; have h4 := hV.a2; have h5 := hV.a3; unfold at2 at h2 h3 h4 h5; omega)))
              · try simp only [bs] at h5
                have hmi := hM2.miss hv.2 hV (by omega) h5
                refine W_skip ?_
                refine W_seq ?_
                refine W_draw (by kernel_rfl) ?_
                show RA _ _ 10 _ _ _
                first | refine RA_take 2 rfl rfl rfl (by kernel_rfl) (by kernel_rfl) (by kernel_rfl) (p_move rfl) (lt_dec rfl) ?_
                first | refine RA_take 3 rfl rfl rfl (by kernel_rfl) (by kernel_rfl) (by kernel_rfl) (p_move rfl) (lt_dec rfl) ?_
                first | refine RA_take 7 rfl rfl rfl (by kernel_rfl) (by kernel_rfl) (by kernel_rfl) (p_ixN 9 (at2 T i ((k + 1) % 3)).toNat rfl rfl rfl rfl rfl (show at2 T i ((k + 1) % 3) = _ by omega) (by first | (first | omega | (dsimp only; omega)) | exact Fin.isLt _)) (lt_dec rfl) ?_
                refine RA_quiet (g := 3) [0, 1, 4, 5] (by kernel_rfl) (by kernel_rfl) (by kernel_rfl) (by kernel_rfl) ?_
                refine WQ_cons rfl rfl rfl ((p_move rfl).q) (lt_dec rfl) ?_
                refine WQ_cons rfl rfl rfl ((p_move rfl).q) (lt_dec rfl) ?_
                refine WQ_cons rfl rfl rfl ((p_ixN 9 (at2 T i k).toNat rfl rfl rfl rfl rfl (show at2 T i k = _ by omega) (by first | (first | omega | (dsimp only; omega)) | exact Fin.isLt _)).q) (lt_dec rfl) ?_
                first | refine WQ_cons rfl rfl rfl ((p_ix1 (at2 T i ((k + 1) % 3)).toNat rfl rfl rfl rfl rfl (show at2 T i ((k + 1) % 3) = _ by omega) (by first | (first | omega | (dsimp only; omega)) | exact Fin.isLt _)).q) (lt_dec rfl) ?_ | refine WQ_cons rfl rfl rfl ((p_ix1s (at2 T i ((k + 1) % 3)).toNat rfl rfl rfl rfl rfl (show at2 T i ((k + 1) % 3) = _ by omega) (by first | (first | omega | (dsimp only; omega)) | exact Fin.isLt _)).q) (lt_dec rfl) ?_
                refine WQ_nil ?_
                refine RA_one 6 rfl rfl (by kernel_rfl) (x_store rfl rfl rfl rfl rfl HpRep.head rfl (by first | trivial | (first | (first | omega | (dsimp only; omega)) | exact Fin.isLt _)) ?_)
                refine RA_quiet (g := 1) [8] (by kernel_rfl) (by kernel_rfl) (by kernel_rfl) (by kernel_rfl) ?_
                first | refine WQ_cons rfl rfl rfl ((p_ix1 (at2 T i k).toNat rfl rfl rfl rfl rfl (show at2 T i k = _ by omega) (by first | (first | omega | (dsimp only; omega)) | exact Fin.isLt _)).q) (lt_dec rfl) ?_ | refine WQ_cons rfl rfl rfl ((p_ix1s (at2 T i k).toNat rfl rfl rfl rfl rfl (show at2 T i k = _ by omega) (by first | (first | omega | (dsimp only; omega)) | exact Fin.isLt _)).q) (lt_dec rfl) ?_
                refine WQ_nil ?_
                refine RA_one 9 rfl rfl (by kernel_rfl) (x_store rfl rfl rfl rfl rfl HpRep.head rfl (by first | trivial | (first | (first | omega | (dsimp only; omega)) | exact Fin.isLt _)) ?_)
                refine RA_done (by kernel_rfl) ?_
                refine W_draw (by kernel_rfl) ?_
                show RA _ _ 14 _ _ _
                first | refine RA_take 2 rfl rfl rfl (by kernel_rfl) (by kernel_rfl) (by kernel_rfl) (p_move rfl) (lt_dec rfl) ?_
                first | refine RA_take 3 rfl rfl rfl (by kernel_rfl) (by kernel_rfl) (by kernel_rfl) (p_move rfl) (lt_dec rfl) ?_
                first | refine RA_take 6 rfl rfl rfl (by kernel_rfl) (by kernel_rfl) (by kernel_rfl) (p_move rfl) (lt_dec rfl) ?_
                first | refine RA_take 7 rfl rfl rfl (by kernel_rfl) (by kernel_rfl) (by kernel_rfl) ((p_conv rfl rfl rfl (by exact ⟨by omega, by omega⟩)).eq (d' := .u8 (Fin.ofNat 256 (at2 T i ((k + 2) % 3)).toNat)) (veq_byteI hr3.1 (by omega))) (lt_dec rfl) ?_
                first | refine RA_take 11 rfl rfl rfl (by kernel_rfl) (by kernel_rfl) (by kernel_rfl) (p_ixN 9 (at2 T i ((k + 1) % 3)).toNat rfl rfl rfl rfl rfl (show at2 T i ((k + 1) % 3) = _ by omega) (by first | (first | omega | (dsimp only; omega)) | exact Fin.isLt _)) (lt_dec rfl) ?_
                refine RA_quiet (g := 3) [0, 1, 4, 5, 8, 9] (by kernel_rfl) (by kernel_rfl) (by kernel_rfl) (by kernel_rfl) ?_
                refine WQ_cons rfl rfl rfl ((p_move rfl).q) (lt_dec rfl) ?_
                refine WQ_cons rfl rfl rfl ((p_move rfl).q) (lt_dec rfl) ?_
                refine WQ_cons rfl rfl rfl ((p_move rfl).q) (lt_dec rfl) ?_
                refine WQ_cons rfl rfl rfl (((p_conv rfl rfl rfl (by exact ⟨by omega, by omega⟩)).eq (d' := .u8 (Fin.ofNat 256 (at2 T i ((k + 2) % 3)).toNat)) (veq_byteI hr3.1 (by omega))).q) (lt_dec rfl) ?_
                refine WQ_cons rfl rfl rfl ((p_ixN 9 (at2 T i k).toNat rfl rfl rfl rfl rfl (show at2 T i k = _ by omega) (by first | (first | omega | (dsimp only; omega)) | exact Fin.isLt _)).q) (lt_dec rfl) ?_
                first | refine WQ_cons rfl rfl rfl ((p_ix1 (at2 T i ((k + 1) % 3)).toNat rfl rfl rfl rfl rfl (show at2 T i ((k + 1) % 3) = _ by omega) (by first | (first | omega | (dsimp only; omega)) | exact Fin.isLt _)).q) (lt_dec rfl) ?_ | refine WQ_cons rfl rfl rfl ((p_ix1s (at2 T i ((k + 1) % 3)).toNat rfl rfl rfl rfl rfl (show at2 T i ((k + 1) % 3) = _ by omega) (by first | (first | omega | (dsimp only; omega)) | exact Fin.isLt _)).q) (lt_dec rfl) ?_
                refine WQ_nil ?_
                refine RA_one 10 rfl rfl (by kernel_rfl) (x_store rfl rfl rfl rfl rfl ((HpRep.head).tail) rfl (by first | trivial | (first | (first | omega | (dsimp only; omega)) | exact Fin.isLt _)) ?_)
                refine RA_quiet (g := 1) [12] (by kernel_rfl) (by kernel_rfl) (by kernel_rfl) (by kernel_rfl) ?_
                first | refine WQ_cons rfl rfl rfl ((p_ix1 (at2 T i k).toNat rfl rfl rfl rfl rfl (show at2 T i k = _ by omega) (by first | (first | omega | (dsimp only; omega)) | exact Fin.isLt _)).q) (lt_dec rfl) ?_ | refine WQ_cons rfl rfl rfl ((p_ix1s (at2 T i k).toNat rfl rfl rfl rfl rfl (show at2 T i k = _ by omega) (by first | (first | omega | (dsimp only; omega)) | exact Fin.isLt _)).q) (lt_dec rfl) ?_
                refine WQ_nil ?_
                refine RA_one 13 rfl rfl (by kernel_rfl) (x_store rfl rfl rfl rfl rfl ((HpRep.head).tail) rfl (by first | trivial | (first | (first | omega | (dsimp only; omega)) | exact Fin.isLt _)) ?_)
                refine RA_done (by kernel_rfl) ?_
                refine W_region ?_
                refine Ops_p (p_add rfl rfl (by exact ⟨(by first | omega | (dsimp only; omega)), (by first | omega | (dsimp only; omega))⟩)) (lt_dec rfl) ?_
                refine Ops_p (p_move rfl) (lt_dec rfl) ?_
                refine Ops_nil ?_
                refine Exists.intro (k + 1, (fun x => if x = 9 * (at2 T i ((k + 1) % 3)).toNat + (at2 T i k).toNat then Fin.ofNat 256 (at2 T i ((k + 2) % 3)).toNat else if x = 9 * (at2 T i k).toNat + (at2 T i ((k + 1) % 3)).toNat then Fin.ofNat 256 (at2 T i ((k + 2) % 3)).toNat else f2 x), (fun x => if x = 9 * (at2 T i ((k + 1) % 3)).toNat + (at2 T i k).toNat then true else if x = 9 * (at2 T i k).toNat + (at2 T i ((k + 1) % 3)).toNat then true else g2 x)) (And.intro ?_ (And.intro ?_ ?_))
                · exact ⟨by show _ ≤ _; omega, hM2.set hv.2 hV (by omega), fun u h => if e : u = k then e ▸ hmi else hU2 u (by have h : u < k + 1 := h; omega)⟩
                · show _ < _; omega
                · exact Wk.intro (.cons rfl (by first | rfl | exact veq_int (by first | omega | (dsimp only; omega))) (.cons rfl (by first | rfl | exact veq_int (by first | omega | (dsimp only; omega))) (.cons rfl (by first | rfl | exact veq_int (by first | omega | (dsimp only; omega))) (.cons rfl (by first | rfl | exact veq_int (by first | omega | (dsimp only; omega))) (.cons rfl (by first | rfl | exact veq_int (by first | omega | (dsimp only; omega))) (.cons rfl (by first | rfl | exact veq_int (by first | omega | (dsimp only; omega))) (.cons rfl (by first | rfl | exact veq_int (by first | omega | (dsimp only; omega))) (.cons rfl (by first | rfl | exact veq_int (by first | omega | (dsimp only; omega))) (.cons rfl (by first | rfl | exact veq_int (by first | omega | (dsimp only; omega))) (.cons rfl (by first | rfl | exact veq_int (by first | omega | (dsimp only; omega))) (.cons rfl (by first | rfl | exact veq_int (by first | omega | (dsimp only; omega))) (.cons rfl (by first | rfl | exact veq_int (by first | omega | (dsimp only; omega))) (.cons rfl (by first | rfl | exact veq_int (by first | omega | (dsimp only; omega))) .nil))))))))))))) (.keep rfl rfl (imp_var rfl rfl) (.keep rfl rfl (imp_var rfl rfl) (.keep rfl rfl (fun _ h => h) (.keep rfl rfl (fun _ h => h) .nil))))
            · try simp only [bs] at h4
              obtain rfl : k = 3 := (by omega)
              refine W_exit ?_
              refine W_region ?_
              refine Ops_p (p_add rfl rfl (by exact ⟨(by first | omega | (dsimp only; omega)), (by first | omega | (dsimp only; omega))⟩)) (lt_dec rfl) ?_
              refine Ops_p (p_move rfl) (lt_dec rfl) ?_
              refine Ops_nil ?_
              refine Exists.intro (i + 1, f2, g2) (And.intro ?_ (And.intro ?_ ?_))
              · exact ⟨by show _ ≤ _; omega, fun j hj => if e : j = i then e ▸ ⟨hV, fr_of3 hU2⟩ else hA j (by have hj : j < i + 1 := hj; omega), hM2.next⟩
              · show _ < _; omega
              · exact Wk.intro (.cons rfl (by first | rfl | exact veq_int (by first | omega | (dsimp only; omega))) (.cons rfl (by first | rfl | exact veq_int (by first | omega | (dsimp only; omega))) (.cons rfl (by first | rfl | exact veq_int (by first | omega | (dsimp only; omega))) (.cons rfl (by first | rfl | exact veq_int (by first | omega | (dsimp only; omega))) (.cons rfl (by first | rfl | exact veq_int (by first | omega | (dsimp only; omega))) (.cons rfl (by first | rfl | exact veq_int (by first | omega | (dsimp only; omega))) (.cons rfl (by first | rfl | exact veq_int (by first | omega | (dsimp only; omega))) (.cons rfl (by first | rfl | exact veq_int (by first | omega | (dsimp only; omega))) (.cons rfl (by first | rfl | exact veq_int (by first | omega | (dsimp only; omega))) (.cons rfl (by first | rfl | exact veq_int (by first | omega | (dsimp only; omega))) (.cons rfl (by first | rfl | exact veq_int (by first | omega | (dsimp only; omega))) .nil))))))))))) (.keep rfl rfl (fun _ h => h) (.keep rfl rfl (fun _ h => h) (.keep rfl rfl (fun _ h => h) (.keep rfl rfl (fun _ h => h) .nil))))
      · try simp only [bs] at h2
        obtain rfl : i = T.length := (by omega)
        refine W_exit ?_
        refine W_seq ?_
        refine W_seq ?_
        refine W_region ?_
        refine Ops_p (p_move rfl) (lt_dec rfl) ?_
        refine Ops_p (p_move rfl) (lt_dec rfl) ?_
        refine Ops_nil ?_
        refine W_block ?_
        refine W_loop (α := Nat) (fun x => ⟨[(0, .int .i64 v), (1, .raw a ha), (4, .ptr b4_1 0 none), (6, .ptr b6_1 0 none), (7, .ptr b7_1 0 none), (16, .arr8 81 fun _ => 0), (17, .int .i64 v), (21, .barr 81 fun _ => false), (22, .raw a ha), (23, .int .i64 ((T.length : Nat) : Int)), (24, .int .i64 (T.length : Int)), (125, .int .i64 v), (126, .int .i64 (x : Int))], [.var b7_1 (.barr 81 g), .var b6_1 (.arr8 81 f), .var b4_1 (.arr8 81 fun _ => 0), rss a T]⟩) (fun x => x ≤ v.toNat ∧ ∀ a b, a < x → b < v.toNat → a ≠ b → us T T.length a b) (fun x => v.toNat - x) 0 ?_ ?_ ?_
        · exact ⟨by omega, fun a b h => by omega⟩
        · exact Wk.intro (.cons rfl (by first | rfl | exact veq_int (by first | omega | (dsimp only; omega))) (.cons rfl (by first | rfl | exact veq_int (by first | omega | (dsimp only; omega))) (.cons rfl (by first | rfl | exact veq_int (by first | omega | (dsimp only; omega))) (.cons rfl (by first | rfl | exact veq_int (by first | omega | (dsimp only; omega))) (.cons rfl (by first | rfl | exact veq_int (by first | omega | (dsimp only; omega))) (.cons rfl (by first | rfl | exact veq_int (by first | omega | (dsimp only; omega))) (.cons rfl (by first | rfl | exact veq_int (by first | omega | (dsimp only; omega))) (.cons rfl (by first | rfl | exact veq_int (by first | omega | (dsimp only; omega))) (.cons rfl (by first | rfl | exact veq_int (by first | omega | (dsimp only; omega))) (.cons rfl (by first | rfl | exact veq_int (by first | omega | (dsimp only; omega))) (.cons rfl (by first | rfl | exact veq_int (by first | omega | (dsimp only; omega))) (.cons rfl (by first | rfl | exact veq_int (by first | omega | (dsimp only; omega))) (.cons rfl (by first | rfl | exact veq_int (by first | omega | (dsimp only; omega))) .nil))))))))))))) (.keep rfl rfl (fun _ h => h) (.keep rfl rfl (fun _ h => h) (.keep rfl rfl (fun _ h => h) (.keep rfl rfl (fun _ h => h) .nil))))
        · rintro x ⟨hx, hC⟩
          refine W_seq ?_
          refine W_region ?_
          refine Ops_p (p_lss rfl rfl) (lt_dec rfl) ?_
          refine Ops_nil ?_
          refine W_seq ?_
          refine W_cond rfl (fun h6 => ?_) (fun h6 => ?_)
          · try simp only [bs] at h6
            refine W_skip ?_
            refine W_seq ?_
            refine W_block ?_
            refine W_seq ?_
            refine W_region ?_
            refine Ops_p (p_move rfl) (lt_dec rfl) ?_
            refine Ops_p (p_assign rfl) (lt_dec rfl) ?_
            refine Ops_nil ?_
            refine W_seq ?_
            refine W_region ?_
            refine Ops_p (p_move rfl) (lt_dec rfl) ?_
            refine Ops_p (p_move rfl) (lt_dec rfl) ?_
            refine Ops_nil ?_
            refine W_block ?_
            refine W_loop (α := Nat) (fun y => ⟨[(0, .int .i64 v), (1, .raw a ha), (4, .ptr b4_1 0 none), (6, .ptr b6_1 0 none), (7, .ptr b7_1 0 none), (14, .int .i64 (x : Int)), (16, .arr8 81 fun _ => 0), (17, .int .i64 v), (21, .barr 81 fun _ => false), (22, .raw a ha), (23, .int .i64 ((T.length : Nat) : Int)), (24, .int .i64 (T.length : Int)), (125, .int .i64 v), (126, .int .i64 (x : Int)), (128, .int .i64 (x : Int)), (129, .int .i64 v), (130, .int .i64 (y : Int))], [.var b7_1 (.barr 81 g), .var b6_1 (.arr8 81 f), .var b4_1 (.arr8 81 fun _ => 0), rss a T]⟩) (fun y => y ≤ v.toNat ∧ ∀ b, b < y → x ≠ b → us T T.length x b) (fun y => v.toNat - y) 0 ?_ ?_ ?_
            · exact ⟨by omega, fun b h => by omega⟩
            · exact Wk.intro (.cons rfl (by first | rfl | exact veq_int (by first | omega | (dsimp only; omega))) (.cons rfl (by first | rfl | exact veq_int (by first | omega | (dsimp only; omega))) (.cons rfl (by first | rfl | exact veq_int (by first | omega | (dsimp only; omega))) (.cons rfl (by first | rfl | exact veq_int (by first | omega | (dsimp only; omega))) (.cons rfl (by first | rfl | exact veq_int (by first | omega | (dsimp only; omega))) (.cons rfl (by first | rfl | exact veq_int (by first | omega | (dsimp only; omega))) (.cons rfl (by first | rfl | exact veq_int (by first | omega | (dsimp only; omega))) (.cons rfl (by first | rfl | exact veq_int (by first | omega | (dsimp only; omega))) (.cons rfl (by first | rfl | exact veq_int (by first | omega | (dsimp only; omega))) (.cons rfl (by first | rfl | exact veq_int (by first | omega | (dsimp only; omega))) (.cons rfl (by first | rfl | exact veq_int (by first | omega | (dsimp only; omega))) (.cons rfl (by first | rfl | exact veq_int (by first | omega | (dsimp only; omega))) (.cons rfl (by first | rfl | exact veq_int (by first | omega | (dsimp only; omega))) (.cons rfl (by first | rfl | exact veq_int (by first | omega | (dsimp only; omega))) (.cons rfl (by first | rfl | exact veq_int (by first | omega | (dsimp only; omega))) (.cons rfl (by first | rfl | exact veq_int (by first | omega | (dsimp only; omega))) (.cons rfl (by first | rfl | exact veq_int (by first | omega | (dsimp only; omega))) .nil))))))))))))))))) (.keep rfl rfl (fun _ h => h) (.keep rfl rfl (fun _ h => h) (.keep rfl rfl (fun _ h => h) (.keep rfl rfl (fun _ h => h) .nil))))
            · rintro y ⟨hy, hD⟩
              refine W_seq ?_
              refine W_region ?_
              refine Ops_p (p_lss rfl rfl) (lt_dec rfl) ?_
              refine Ops_nil ?_
              refine W_seq ?_
              refine W_cond rfl (fun h7 => ?_) (fun h7 => ?_)
              · try simp only [bs] at h7
                refine W_skip ?_
                refine W_seq ?_
                refine W_block ?_
                refine W_seq ?_
                refine W_region ?_
                refine Ops_p (p_move rfl) (lt_dec rfl) ?_
                refine Ops_p (p_assign rfl) (lt_dec rfl) ?_
                refine Ops_nil ?_
                refine W_seq ?_
                refine W_region ?_
                refine Ops_p (p_move rfl) (lt_dec rfl) ?_
                refine Ops_p (p_move rfl) (lt_dec rfl) ?_
                refine Ops_p (p_neq rfl rfl) (lt_dec rfl) ?_
                refine Ops_p (p_move rfl) (lt_dec rfl) ?_
                refine Ops_guard rfl rfl (lt_dec rfl) (fun hg158 => ?_) (fun hg158 => ?_)
                · try simp only [bs] at hg158
                  refine Ops_p (p_move rfl) (lt_dec rfl) ?_
                  refine Ops_guard_t rfl rfl (lt_dec rfl) ?_
                  refine Ops_p (p_move rfl) (lt_dec rfl) ?_
                  refine Ops_guard_t rfl rfl (lt_dec rfl) ?_
                  refine Ops_p (p_ixN 9 _ rfl rfl rfl rfl rfl rfl (by first | (first | omega | (dsimp only; omega)) | exact Fin.isLt _)) (lt_dec rfl) ?_
                  refine Ops_guard_t rfl rfl (lt_dec rfl) ?_
                  first | refine Ops_p (p_ix1 _ rfl rfl rfl rfl rfl rfl (by first | (first | omega | (dsimp only; omega)) | exact Fin.isLt _)) (lt_dec rfl) ?_ | refine Ops_p (p_ix1s _ rfl rfl rfl rfl rfl rfl (by first | (first | omega | (dsimp only; omega)) | exact Fin.isLt _)) (lt_dec rfl) ?_
                  refine Ops_guard_t rfl rfl (lt_dec rfl) ?_
                  refine Ops_q (q_load rfl rfl m0 rfl (by first | exact True.intro | trivial | (first | omega | (dsimp only; omega)) | exact Fin.isLt _ | (dsimp only; omega))) (lt_dec rfl) ?_
                  refine Ops_guard_t rfl rfl (lt_dec rfl) ?_
                  refine Ops_p (p_not rfl) (lt_dec rfl) ?_
                  refine Ops_p (p_pick_t rfl rfl) (lt_dec rfl) ?_
                  refine Ops_nil ?_
                  refine W_cond rfl (fun h8 => ?_) (fun h8 => ?_)
                  · try simp only [bs] at h8
                    have hts : false = tsB T v := ts_c (x := x) (y := y) (by omega) (by omega) (by omega) (fun hu => by have := (hM.end (x := x) (y := y) (by omega) (by omega)).2 hu; simp_all)
                    refine W_seq ?_
                    refine W_region ?_
                    refine Ops_q (q_load rfl rfl m1 rfl (by first | exact True.intro | trivial | (first | omega | (dsimp only; omega)) | exact Fin.isLt _ | (dsimp only; omega))) (lt_dec rfl) ?_
                    refine Ops_x rfl (x_store rfl rfl rfl rfl rfl (((HpRep.head).tail).tail) rfl (by first | trivial | (first | (first | omega | (dsimp only; omega)) | exact Fin.isLt _)) ?_)
                    refine Ops_p (p_assign rfl) (lt_dec rfl) ?_
                    refine Ops_nil ?_
                    refine W_ret ?_
                    refine Exists.intro _ (And.intro (.cons (.cell rfl rfl m2 rfl trivial) (.cons (.tmp rfl) .nil)) (Exists.intro (f) (And.intro ?_ (And.intro ?_ (And.intro .nil rfl)))))
                    · trivial
                    · first | exact veq_tup2 rfl (veq_bool hts) | exact veq_tup2 rfl (veq_bool (ts_v (i := i) (by omega) (fun hV => by have h1 := hV.len; have h2 := hV.a0; have h3 := hV.a1; have h4 := hV.a2; have h5 := hV.a3; unfold at2 at h2 h3 h4 h5; omega)))
                  · try simp only [bs] at h8
                    have hcov := (hM.end (x := x) (y := y) (by omega) (by omega)).1 (by simp_all)
                    refine W_skip ?_
                    refine W_region ?_
                    refine Ops_p (p_add rfl rfl (by exact ⟨(by first | omega | (dsimp only; omega)), (by first | omega | (dsimp only; omega))⟩)) (lt_dec rfl) ?_
                    refine Ops_p (p_move rfl) (lt_dec rfl) ?_
                    refine Ops_nil ?_
                    refine Exists.intro (y + 1) (And.intro ?_ (And.intro ?_ ?_))
                    · exact ⟨by omega, fun b h h1 => if e : b = y then by subst e; first | exact hcov | exact absurd (by omega) h1 else hD b (by omega) h1⟩
                    · show _ < _; omega
                    · exact Wk.intro (.cons rfl (by first | rfl | exact veq_int (by first | omega | (dsimp only; omega))) (.cons rfl (by first | rfl | exact veq_int (by first | omega | (dsimp only; omega))) (.cons rfl (by first | rfl | exact veq_int (by first | omega | (dsimp only; omega))) (.cons rfl (by first | rfl | exact veq_int (by first | omega | (dsimp only; omega))) (.cons rfl (by first | rfl | exact veq_int (by first | omega | (dsimp only; omega))) (.cons rfl (by first | rfl | exact veq_int (by first | omega | (dsimp only; omega))) (.cons rfl (by first | rfl | exact veq_int (by first | omega | (dsimp only; omega))) (.cons rfl (by first | rfl | exact veq_int (by first | omega | (dsimp only; omega))) (.cons rfl (by first | rfl | exact veq_int (by first | omega | (dsimp only; omega))) (.cons rfl (by first | rfl | exact veq_int (by first | omega | (dsimp only; omega))) (.cons rfl (by first | rfl | exact veq_int (by first | omega | (dsimp only; omega))) (.cons rfl (by first | rfl | exact veq_int (by first | omega | (dsimp only; omega))) (.cons rfl (by first | rfl | exact veq_int (by first | omega | (dsimp only; omega))) (.cons rfl (by first | rfl | exact veq_int (by first | omega | (dsimp only; omega))) (.cons rfl (by first | rfl | exact veq_int (by first | omega | (dsimp only; omega))) (.cons rfl (by first | rfl | exact veq_int (by first | omega | (dsimp only; omega))) (.cons rfl (by first | rfl | exact veq_int (by first | omega | (dsimp only; omega))) .nil))))))))))))))))) (.keep rfl rfl (fun _ h => h) (.keep rfl rfl (fun _ h => h) (.keep rfl rfl (fun _ h => h) (.keep rfl rfl (fun _ h => h) .nil))))
                · try simp only [bs] at hg158
                  refine Ops_guard_f rfl rfl rfl (lt_dec rfl) ?_
                  refine Ops_guard_f rfl rfl rfl (lt_dec rfl) ?_
                  refine Ops_guard_f rfl rfl rfl (lt_dec rfl) ?_
                  refine Ops_guard_f rfl rfl rfl (lt_dec rfl) ?_
                  refine Ops_guard_f rfl rfl rfl (lt_dec rfl) ?_
                  refine Ops_p (p_pick_f rfl rfl) (lt_dec rfl) ?_
                  refine Ops_nil ?_
                  refine W_false rfl ?_
                  refine W_skip ?_
                  refine W_region ?_
                  refine Ops_p (p_add rfl rfl (by exact ⟨(by first | omega | (dsimp only; omega)), (by first | omega | (dsimp only; omega))⟩)) (lt_dec rfl) ?_
                  refine Ops_p (p_move rfl) (lt_dec rfl) ?_
                  refine Ops_nil ?_
                  refine Exists.intro (y + 1) (And.intro ?_ (And.intro ?_ ?_))
                  · exact ⟨by omega, fun b h h1 => if e : b = y then by subst e; first | exact hcov | exact absurd (by omega) h1 else hD b (by omega) h1⟩
                  · show _ < _; omega
                  · exact Wk.intro (.cons rfl (by first | rfl | exact veq_int (by first | omega | (dsimp only; omega))) (.cons rfl (by first | rfl | exact veq_int (by first | omega | (dsimp only; omega))) (.cons rfl (by first | rfl | exact veq_int (by first | omega | (dsimp only; omega))) (.cons rfl (by first | rfl | exact veq_int (by first | omega | (dsimp only; omega))) (.cons rfl (by first | rfl | exact veq_int (by first | omega | (dsimp only; omega))) (.cons rfl (by first | rfl | exact veq_int (by first | omega | (dsimp only; omega))) (.cons rfl (by first | rfl | exact veq_int (by first | omega | (dsimp only; omega))) (.cons rfl (by first | rfl | exact veq_int (by first | omega | (dsimp only; omega))) (.cons rfl (by first | rfl | exact veq_int (by first | omega | (dsimp only; omega))) (.cons rfl (by first | rfl | exact veq_int (by first | omega | (dsimp only; omega))) (.cons rfl (by first | rfl | exact veq_int (by first | omega | (dsimp only; omega))) (.cons rfl (by first | rfl | exact veq_int (by first | omega | (dsimp only; omega))) (.cons rfl (by first | rfl | exact veq_int (by first | omega | (dsimp only; omega))) (.cons rfl (by first | rfl | exact veq_int (by first | omega | (dsimp only; omega))) (.cons rfl (by first | rfl | exact veq_int (by first | omega | (dsimp only; omega))) (.cons rfl (by first | rfl | exact veq_int (by first | omega | (dsimp only; omega))) (.cons rfl (by first | rfl | exact veq_int (by first | omega | (dsimp only; omega))) .nil))))))))))))))))) (.keep rfl rfl (fun _ h => h) (.keep rfl rfl (fun _ h => h) (.keep rfl rfl (fun _ h => h) (.keep rfl rfl (fun _ h => h) .nil))))
              · try simp only [bs] at h7
                obtain rfl : y = v.toNat := (by omega)
                refine W_exit ?_
                refine W_region ?_
                refine Ops_p (p_add rfl rfl (by exact ⟨(by first | omega | (dsimp only; omega)), (by first | omega | (dsimp only; omega))⟩)) (lt_dec rfl) ?_
                refine Ops_p (p_move rfl) (lt_dec rfl) ?_
                refine Ops_nil ?_
                refine Exists.intro (x + 1) (And.intro ?_ (And.intro ?_ ?_))
                · exact ⟨by omega, fun a b h h1 h2 => if e : a = x then e ▸ hD b h1 (e ▸ h2) else hC a b (by omega) h1 h2⟩
                · show _ < _; omega
                · exact Wk.intro (.cons rfl (by first | rfl | exact veq_int (by first | omega | (dsimp only; omega))) (.cons rfl (by first | rfl | exact veq_int (by first | omega | (dsimp only; omega))) (.cons rfl (by first | rfl | exact veq_int (by first | omega | (dsimp only; omega))) (.cons rfl (by first | rfl | exact veq_int (by first | omega | (dsimp only; omega))) (.cons rfl (by first | rfl | exact veq_int (by first | omega | (dsimp only; omega))) (.cons rfl (by first | rfl | exact veq_int (by first | omega | (dsimp only; omega))) (.cons rfl (by first | rfl | exact veq_int (by first | omega | (dsimp only; omega))) (.cons rfl (by first | rfl | exact veq_int (by first | omega | (dsimp only; omega))) (.cons rfl (by first | rfl | exact veq_int (by first | omega | (dsimp only; omega))) (.cons rfl (by first | rfl | exact veq_int (by first | omega | (dsimp only; omega))) (.cons rfl (by first | rfl | exact veq_int (by first | omega | (dsimp only; omega))) (.cons rfl (by first | rfl | exact veq_int (by first | omega | (dsimp only; omega))) (.cons rfl (by first | rfl | exact veq_int (by first | omega | (dsimp only; omega))) .nil))))))))))))) (.keep rfl rfl (fun _ h => h) (.keep rfl rfl (fun _ h => h) (.keep rfl rfl (fun _ h => h) (.keep rfl rfl (fun _ h => h) .nil))))
          · try simp only [bs] at h6
            obtain rfl : x = v.toNat := (by omega)
            have hts := ts_t (TSys.of hv hA hC)
            refine W_exit ?_
            refine W_seq ?_
            refine W_region ?_
            refine Ops_q (q_load rfl rfl m1 rfl (by first | exact True.intro | trivial | (first | omega | (dsimp only; omega)) | exact Fin.isLt _ | (dsimp only; omega))) (lt_dec rfl) ?_
            refine Ops_x rfl (x_store rfl rfl rfl rfl rfl (((HpRep.head).tail).tail) rfl (by first | trivial | (first | (first | omega | (dsimp only; omega)) | exact Fin.isLt _)) ?_)
            refine Ops_p (p_assign rfl) (lt_dec rfl) ?_
            refine Ops_nil ?_
            refine W_ret ?_
            refine Exists.intro _ (And.intro (.cons (.cell rfl rfl m2 rfl trivial) (.cons (.tmp rfl) .nil)) (Exists.intro (f) (And.intro ?_ (And.intro ?_ (And.intro .nil rfl)))))
            · trivial
            · first | exact veq_tup2 rfl (veq_bool hts) | exact veq_tup2 rfl (veq_bool (ts_v (i := i) (by omega) (fun hV => by have h1 := hV.len; have h2 := hV.a0; have h3 := hV.a1; have h4 := hV.a2; have h5 := hV.a3; unfold at2 at h2 h3 h4 h5; omega)))
end Go.Proofs.Ytdcpggdbjllmpab
