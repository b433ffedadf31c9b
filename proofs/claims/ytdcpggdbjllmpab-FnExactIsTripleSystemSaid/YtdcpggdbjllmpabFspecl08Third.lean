/- What the Go function spec.l08Third does, shown of its loaded text; its conditions stand in the statement. -/
import Derived.Test.YtdcpggdbjllmpabTy
import Derived.Test.YtdcpggdbjllmpabFspecl01In
import Derived.Test.YtdcpggdbjllmpabFspecl06Ahead
import Derived.Test.YtdcpggdbjllmpabGx12
import Derived.Test.YtdcpggdbjllmpabGx20
import Derived.Test.YtdcpggdbjllmpabGx28
import Derived.Test.YtdcpggdbjllmpabM38
namespace Go.Proofs.Ytdcpggdbjllmpab
open Go Gx
set_option linter.unusedVariables false
theorem en_spec_l08Third : Enters Try.prog 65 := enters_of Try.func65 (by kernel_rfl) (by kernel_rfl)
set_option maxRecDepth 100000 in
set_option maxHeartbeats 2000000 in
theorem w_spec_l08Third {a : Value} {ha : a.oneCell' = true} {T : SL} {v : Int} (hl : T.length ≤ 1048576) : CT (X := Nat → Int) Try.prog 65 (vals [.int .i64 v, .raw a ha]) [] [rss a T] (fun x => True) (fun x => .tup [.arr .i64 81 x, .bool (tsB T v)]) (fun x => []) := by
  refine CT_intro (rs := [.cell 4 90, .tmp 5]) tt tok Try.func65 rfl rfl rfl (by first | rfl | assumption) fun w => ?_
  show W _ _ _ ⟨tmOf 0 [.int .i64 v, .raw a ha], [rss a T]⟩
  refine W_seq ?_
  refine W_region ?_
  refine Ops_x rfl (x_alloc rfl (lt_dec rfl) fun b4_1 => ?_)
  refine Ops_p (p_assign rfl) (lt_dec rfl) ?_
  refine Ops_nil ?_
  refine W_seq ?_
  refine W_region ?_
  refine Ops_p (p_build_arr rfl rfl rfl rfl (by first | exact True.intro | trivial | (first | omega | (dsimp only; omega)) | exact Fin.isLt _ | (dsimp only; omega))) (lt_dec rfl) ?_
  refine Ops_x rfl (x_alloc rfl (lt_dec rfl) fun b6_1 => ?_)
  refine Ops_x rfl (x_store rfl rfl rfl rfl rfl HpRep.head rfl (by first | trivial | (first | (first | omega | (dsimp only; omega)) | exact Fin.isLt _)) ?_)
  refine Ops_nil ?_
  refine W_seq ?_
  refine W_seq ?_
  refine W_region ?_
  refine Ops_p (p_assign rfl) (lt_dec rfl) ?_
  refine Ops_nil ?_
  refine W_block ?_
  refine W_loop (α := Nat × (Nat → Int)) (fun zz0 => ⟨[(0, .int .i64 v), (1, .raw a ha), (4, .ptr b4_1 0 none), (5, .bool false), (6, .ptr b6_1 0 none), (7, .int .i64 ((zz0.1) : Int)), (15, .arr .i64 81 fun _ => 0)], [.var b6_1 (.arr .i64 81 (zz0.2)), .var b4_1 (.arr .i64 81 fun _ => 0), rss a T]⟩) (fun zz0 => (zz0.1) ≤ 9 ∧ ∀ z, z < 9 * (zz0.1) → (zz0.2) z = -1) (fun zz0 => 9 - (zz0.1)) (0, fun _ => 0) ?_ ?_ ?_
  · exact ⟨by omega, fun z h => by omega⟩
  · exact Wk.intro (.cons rfl (by first | rfl | exact veq_int (by first | omega | (dsimp only; omega))) (.cons rfl (by first | rfl | exact veq_int (by first | omega | (dsimp only; omega))) (.cons rfl (by first | rfl | exact veq_int (by first | omega | (dsimp only; omega))) (.cons rfl (by first | rfl | exact veq_int (by first | omega | (dsimp only; omega))) (.cons rfl (by first | rfl | exact veq_int (by first | omega | (dsimp only; omega))) (.cons rfl (by first | rfl | exact veq_int (by first | omega | (dsimp only; omega))) (.cons rfl (by first | rfl | exact veq_int (by first | omega | (dsimp only; omega))) .nil))))))) (.keep rfl rfl (fun _ h => h) (.keep rfl rfl (fun _ h => h) (.keep rfl rfl (fun _ h => h) .nil)))
  · rintro ⟨k, f1⟩ ⟨hk, hf1⟩
    try dsimp only at *
    refine W_seq ?_
    refine W_seq ?_
    refine W_region ?_
    refine Ops_p (p_move rfl) (lt_dec rfl) ?_
    refine Ops_p (p_lss rfl rfl) (lt_dec rfl) ?_
    refine Ops_nil ?_
    refine W_cond rfl (fun h1 => ?_) (fun h1 => ?_)
    · try simp only [bs] at h1
      refine W_skip ?_
      refine W_seq ?_
      refine W_block ?_
      refine W_seq ?_
      refine W_region ?_
      refine Ops_p (p_assign rfl) (lt_dec rfl) ?_
      refine Ops_nil ?_
      refine W_block ?_
      refine W_loop (α := Nat × (Nat → Int)) (fun zz1 => ⟨[(0, .int .i64 v), (1, .raw a ha), (4, .ptr b4_1 0 none), (5, .bool false), (6, .ptr b6_1 0 none), (7, .int .i64 (k : Int)), (8, .int .i64 ((zz1.1) : Int)), (15, .arr .i64 81 fun _ => 0), (16, .int .i64 (k : Int))], [.var b6_1 (.arr .i64 81 (zz1.2)), .var b4_1 (.arr .i64 81 fun _ => 0), rss a T]⟩) (fun zz1 => (zz1.1) ≤ 9 ∧ ∀ z, z < 9 * k + (zz1.1) → (zz1.2) z = -1) (fun zz1 => 9 - (zz1.1)) (0, f1) ?_ ?_ ?_
      · exact ⟨by omega, fun z h => hf1 z h⟩
      · exact Wk.intro (.cons rfl (by first | rfl | exact veq_int (by first | omega | (dsimp only; omega))) (.cons rfl (by first | rfl | exact veq_int (by first | omega | (dsimp only; omega))) (.cons rfl (by first | rfl | exact veq_int (by first | omega | (dsimp only; omega))) (.cons rfl (by first | rfl | exact veq_int (by first | omega | (dsimp only; omega))) (.cons rfl (by first | rfl | exact veq_int (by first | omega | (dsimp only; omega))) (.cons rfl (by first | rfl | exact veq_int (by first | omega | (dsimp only; omega))) (.cons rfl (by first | rfl | exact veq_int (by first | omega | (dsimp only; omega))) (.cons rfl (by first | rfl | exact veq_int (by first | omega | (dsimp only; omega))) (.cons rfl (by first | rfl | exact veq_int (by first | omega | (dsimp only; omega))) .nil))))))))) (.keep rfl rfl (fun _ h => h) (.keep rfl rfl (fun _ h => h) (.keep rfl rfl (fun _ h => h) .nil)))
      · rintro ⟨j, f2⟩ ⟨hj, hf2⟩
        try dsimp only at *
        refine W_seq ?_
        refine W_seq ?_
        refine W_region ?_
        refine Ops_p (p_move rfl) (lt_dec rfl) ?_
        refine Ops_p (p_lss rfl rfl) (lt_dec rfl) ?_
        refine Ops_nil ?_
        refine W_cond rfl (fun h2 => ?_) (fun h2 => ?_)
        · try simp only [bs] at h2
          refine W_skip ?_
          refine W_seq ?_
          refine W_block ?_
          refine W_region ?_
          refine Ops_p (p_move rfl) (lt_dec rfl) ?_
          refine Ops_p (p_move rfl) (lt_dec rfl) ?_
          refine Ops_p (p_ixN 9 _ rfl rfl rfl rfl rfl rfl (by first | (first | omega | (dsimp only; omega)) | exact Fin.isLt _)) (lt_dec rfl) ?_
          first | refine Ops_p (p_ix1 _ rfl rfl rfl rfl rfl rfl (by first | (first | omega | (dsimp only; omega)) | exact Fin.isLt _)) (lt_dec rfl) ?_ | refine Ops_p (p_ix1s _ rfl rfl rfl rfl rfl rfl (by first | (first | omega | (dsimp only; omega)) | exact Fin.isLt _)) (lt_dec rfl) ?_
          refine Ops_x rfl (x_store rfl rfl rfl rfl rfl HpRep.head rfl (by first | trivial | (first | (first | omega | (dsimp only; omega)) | exact Fin.isLt _)) ?_)
          refine Ops_nil ?_
          refine W_region ?_
          refine Ops_p (p_move rfl) (lt_dec rfl) ?_
          refine Ops_p (p_add rfl rfl (by exact ⟨(by first | omega | (dsimp only; omega)), (by first | omega | (dsimp only; omega))⟩)) (lt_dec rfl) ?_
          refine Ops_p (p_assign rfl) (lt_dec rfl) ?_
          refine Ops_nil ?_
          refine Exists.intro (j + 1, fun x => if x = 9 * k + j then -1 else f2 x) (And.intro ?_ (And.intro ?_ ?_))
          · exact ⟨by show _ ≤ _; omega, fun z h => by have h : z < 9 * k + (j + 1) := h; show (if z = 9 * k + j then (-1 : Int) else f2 z) = -1; split; rfl; exact hf2 z (by omega)⟩
          · show _ < _; omega
          · exact Wk.intro (.cons rfl (by first | rfl | exact veq_int (by first | omega | (dsimp only; omega))) (.cons rfl (by first | rfl | exact veq_int (by first | omega | (dsimp only; omega))) (.cons rfl (by first | rfl | exact veq_int (by first | omega | (dsimp only; omega))) (.cons rfl (by first | rfl | exact veq_int (by first | omega | (dsimp only; omega))) (.cons rfl (by first | rfl | exact veq_int (by first | omega | (dsimp only; omega))) (.cons rfl (by first | rfl | exact veq_int (by first | omega | (dsimp only; omega))) (.cons rfl (by first | rfl | exact veq_int (by first | omega | (dsimp only; omega))) (.cons rfl (by first | rfl | exact veq_int (by first | omega | (dsimp only; omega))) (.cons rfl (by first | rfl | exact veq_int (by first | omega | (dsimp only; omega))) .nil))))))))) (.keep rfl rfl (imp_var rfl rfl) (.keep rfl rfl (fun _ h => h) (.keep rfl rfl (fun _ h => h) .nil)))
        · try simp only [bs] at h2
          obtain rfl : j = 9 := (by omega)
          refine W_exit ?_
          refine W_region ?_
          refine Ops_p (p_move rfl) (lt_dec rfl) ?_
          refine Ops_p (p_add rfl rfl (by exact ⟨(by first | omega | (dsimp only; omega)), (by first | omega | (dsimp only; omega))⟩)) (lt_dec rfl) ?_
          refine Ops_p (p_assign rfl) (lt_dec rfl) ?_
          refine Ops_nil ?_
          refine Exists.intro (k + 1, f2) (And.intro ?_ (And.intro ?_ ?_))
          · exact ⟨by show _ ≤ _; omega, fun z h => hf2 z (by have h : z < 9 * (k + 1) := h; omega)⟩
          · show _ < _; omega
          · exact Wk.intro (.cons rfl (by first | rfl | exact veq_int (by first | omega | (dsimp only; omega))) (.cons rfl (by first | rfl | exact veq_int (by first | omega | (dsimp only; omega))) (.cons rfl (by first | rfl | exact veq_int (by first | omega | (dsimp only; omega))) (.cons rfl (by first | rfl | exact veq_int (by first | omega | (dsimp only; omega))) (.cons rfl (by first | rfl | exact veq_int (by first | omega | (dsimp only; omega))) (.cons rfl (by first | rfl | exact veq_int (by first | omega | (dsimp only; omega))) (.cons rfl (by first | rfl | exact veq_int (by first | omega | (dsimp only; omega))) .nil))))))) (.keep rfl rfl (fun _ h => h) (.keep rfl rfl (fun _ h => h) (.keep rfl rfl (fun _ h => h) .nil)))
    · try simp only [bs] at h1
      obtain rfl : k = 9 := (by omega)
      refine W_exit ?_
      refine W_seq ?_
      refine W_seq ?_
      refine W_region ?_
      refine Ops_p (p_move rfl) (lt_dec rfl) ?_
      refine Ops_q (q_call en_spec_l01In rfl (w_spec_l01In) (View.none _)) (lt_dec rfl) ?_
      refine Ops_p (p_not rfl) (lt_dec rfl) ?_
      refine Ops_p (p_move rfl) (lt_dec rfl) ?_
      refine Ops_guard rfl rfl (lt_dec rfl) (fun hg1 => ?_) (fun hg1 => ?_)
      · try simp only [bs] at hg1
        refine Ops_p (p_move rfl) (lt_dec rfl) ?_
        refine Ops_guard_t rfl rfl (lt_dec rfl) ?_
        refine Ops_q (q_lenO rfl rfl rfl (Rds.rssO m2)) (lt_dec rfl) ?_
        refine Ops_guard_t rfl rfl (lt_dec rfl) ?_
        refine Ops_p (p_gtr rfl rfl) (lt_dec rfl) ?_
        refine Ops_p (p_pick_f rfl rfl) (lt_dec rfl) ?_
        refine Ops_nil ?_
        refine W_cond rfl (fun h3 => ?_) (fun h3 => ?_)
        · try simp only [bs] at h3
          have hts : false = tsB T v := (by first | exact ts_n (by simp_all; omega) | exact ts_12 (by omega))
          refine W_seq ?_
          refine W_region ?_
          refine Ops_q (q_load rfl rfl m0 rfl (by first | exact True.intro | trivial | (first | omega | (dsimp only; omega)) | exact Fin.isLt _ | (dsimp only; omega))) (lt_dec rfl) ?_
          refine Ops_x rfl (x_store rfl rfl rfl rfl rfl ((HpRep.head).tail) rfl (by first | trivial | (first | (first | omega | (dsimp only; omega)) | exact Fin.isLt _)) ?_)
          refine Ops_p (p_assign rfl) (lt_dec rfl) ?_
          refine Ops_nil ?_
          refine W_ret ?_
          refine Exists.intro _ (And.intro (.cons (.cell rfl rfl m1 rfl trivial) (.cons (.tmp rfl) .nil)) (Exists.intro f1 (And.intro ?_ (And.intro ?_ (And.intro .nil rfl)))))
          · trivial
          · first | exact veq_tup2 rfl (veq_bool hts) | exact veq_tup2 rfl (veq_bool (ts_n (by omega))) | exact veq_tup2 rfl (veq_bool (ts_v (i := i) (by omega) (fun hV => by have h1 := hV.len; have h2 := hV.a0; have h3 := hV.a1; have h4 := hV.a2; have h5 := hV.a3; unfold at2 at h2 h3 h4 h5; omega)))
        · try simp only [bs] at h3
          have hv : 1 ≤ v ∧ v ≤ 9 := (by simp_all)
          refine W_skip ?_
          refine W_seq ?_
          refine W_seq ?_
          refine W_region ?_
          refine Ops_p (p_assign rfl) (lt_dec rfl) ?_
          refine Ops_nil ?_
          refine W_block ?_
          refine W_loop (α := Nat × (Nat → Int)) (fun zz2 => ⟨[(0, .int .i64 v), (1, .raw a ha), (4, .ptr b4_1 0 none), (6, .ptr b6_1 0 none), (7, .int .i64 (9 : Int)), (9, .int .i64 ((zz2.1) : Int)), (15, .arr .i64 81 fun _ => 0), (16, .int .i64 (9 : Int)), (28, .int .i64 v), (32, .raw a ha), (33, .int .i64 ((T.length : Nat) : Int))], [.var b6_1 (.arr .i64 81 (zz2.2)), .var b4_1 (.arr .i64 81 fun _ => 0), rss a T]⟩) (fun zz2 => (zz2.1) ≤ T.length ∧ (∀ j, j < (zz2.1) → VT T v j ∧ fr T j) ∧ MkS T (zz2.1) 0 0 (zz2.2)) (fun zz2 => T.length - (zz2.1)) (0, f1) ?_ ?_ ?_
          · exact ⟨by omega, fun j h => by omega, MkS.start (fun z hz => hf1 z (by omega))⟩
          · exact Wk.intro (.cons rfl (by first | rfl | exact veq_int (by first | omega | (dsimp only; omega))) (.cons rfl (by first | rfl | exact veq_int (by first | omega | (dsimp only; omega))) (.cons rfl (by first | rfl | exact veq_int (by first | omega | (dsimp only; omega))) (.cons rfl (by first | rfl | exact veq_int (by first | omega | (dsimp only; omega))) (.cons rfl (by first | rfl | exact veq_int (by first | omega | (dsimp only; omega))) (.cons rfl (by first | rfl | exact veq_int (by first | omega | (dsimp only; omega))) (.cons rfl (by first | rfl | exact veq_int (by first | omega | (dsimp only; omega))) (.cons rfl (by first | rfl | exact veq_int (by first | omega | (dsimp only; omega))) (.cons rfl (by first | rfl | exact veq_int (by first | omega | (dsimp only; omega))) (.cons rfl (by first | rfl | exact veq_int (by first | omega | (dsimp only; omega))) (.cons rfl (by first | rfl | exact veq_int (by first | omega | (dsimp only; omega))) .nil))))))))))) (.keep rfl rfl (fun _ h => h) (.keep rfl rfl (fun _ h => h) (.keep rfl rfl (fun _ h => h) .nil)))
          · rintro ⟨i, f⟩ ⟨hi, hA, hM⟩
            try dsimp only at *
            refine W_seq ?_
            refine W_seq ?_
            refine W_region ?_
            refine Ops_p (p_move rfl) (lt_dec rfl) ?_
            refine Ops_p (p_move rfl) (lt_dec rfl) ?_
            refine Ops_q (q_lenO rfl rfl rfl (Rds.rssO m2)) (lt_dec rfl) ?_
            refine Ops_p (p_lss rfl rfl) (lt_dec rfl) ?_
            refine Ops_nil ?_
            refine W_cond rfl (fun h4 => ?_) (fun h4 => ?_)
            · try simp only [bs] at h4
              refine W_skip ?_
              refine W_seq ?_
              refine W_block ?_
              refine W_cut2 (fun E s' => (VT T v i) ∧ Wk E s' ⟨[(0, .int .i64 v), (1, .raw a ha), (4, .ptr b4_1 0 none), (6, .ptr b6_1 0 none), (7, .int .i64 (9 : Int)), (9, .int .i64 (i : Int)), (10, .raw (T.getD i sd).1.1 (T.getD i sd).1.2), (15, .arr .i64 81 fun _ => 0), (16, .int .i64 (9 : Int)), (28, .int .i64 v), (32, .raw a ha), (33, .int .i64 ((T.length : Nat) : Int)), (37, .int .i64 (i : Int)), (38, .raw a ha), (39, .int .i64 ((T.length : Nat) : Int))], [.var b6_1 (.arr .i64 81 f), .var b4_1 (.arr .i64 81 fun _ => 0), rss a T]⟩) ?_ ?_
              · refine W_region ?_
                refine Ops_p (p_move rfl) (lt_dec rfl) ?_
                refine Ops_p (p_move rfl) (lt_dec rfl) ?_
                refine Ops_q (q_ixR (i) rfl rfl rfl (Rds.rssO m2) rfl rfl (by rw [valsR_len]; first | omega | (dsimp only; omega)) rfl) (lt_dec rfl) ?_
                refine Ops_q (q_loadI (j := i) rfl rfl (Rds.rssO m2) rfl (by first | omega | assumption) rfl rfl) (lt_dec rfl) ?_
                refine Ops_p (p_assign rfl) (lt_dec rfl) ?_
                refine Ops_nil ?_
                refine W_seq ?_
                refine W_draw (by kernel_rfl) ?_
                show RA _ _ 48 _ _ _
                refine RA_quietF [0, 1, 2, 3, 4, 5, 6, 7, 8, 9, 10, 11, 12, 13, 14, 15, 16, 17, 18, 19, 20, 21, 22, 23, 24, 25, 26, 27, 28, 29, 30, 31, 32, 33, 34, 35, 36, 37, 38, 39, 40, 41, 42, 43, 44, 45, 46, 47] rfl rfl rfl (by kernel_rfl) (by kernel_rfl) ?_
                refine WQ_cons rfl rfl rfl ((p_move rfl).q) (lt_dec rfl) ?_
                refine WQ_cons rfl rfl rfl (((q_lenR rfl rfl rfl (Rds.rssI (j := i) m2 (by first | omega | assumption))).eq (d' := .int .i64 (((T.getD i sd).2.length : Nat) : Int)) rfl)) (lt_dec rfl) ?_
                refine WQ_cons rfl rfl rfl ((p_neq rfl rfl).q) (lt_dec rfl) ?_
                refine WQ_cons rfl rfl rfl ((p_move rfl).q) (lt_dec rfl) ?_
                first | refine WQ_guard rfl rfl rfl (lt_dec rfl) (fun hg2 => ⟨_, (p_move rfl).q, ?_⟩) (fun hg2 => ?_)
                · try simp only [bs] at hg2
                  first | refine WQ_guard rfl rfl rfl (lt_dec rfl) (fun _ => ⟨_, (q_ixR (0) rfl rfl rfl (Rds.rssI (j := i) m2 (by first | omega | assumption)) rfl rfl (by show _ < List.length _; first | omega | (dsimp only; omega)) rfl), ?_⟩) (fun h => by cases h)
                  first | refine WQ_guard rfl rfl rfl (lt_dec rfl) (fun _ => ⟨_, (q_loadR rfl rfl (Rds.rssI (j := i) m2 (by first | omega | assumption)) rfl rfl (by first | omega | (dsimp only; omega)) rfl rfl rfl), ?_⟩) (fun h => by cases h)
                  first | refine WQ_guard rfl rfl rfl (lt_dec rfl) (fun _ => ⟨_, (p_lss rfl rfl).q, ?_⟩) (fun h => by cases h)
                  refine WQ_cons rfl rfl rfl ((p_pick_f rfl rfl).q) (lt_dec rfl) ?_
                  refine WQ_cons rfl rfl rfl ((p_move rfl).q) (lt_dec rfl) ?_
                  first | refine WQ_guard rfl rfl rfl (lt_dec rfl) (fun hg6 => ⟨_, (p_move rfl).q, ?_⟩) (fun hg6 => ?_)
                  · try simp only [bs] at hg6
                    first | refine WQ_guard rfl rfl rfl (lt_dec rfl) (fun _ => ⟨_, (q_ixR (0) rfl rfl rfl (Rds.rssI (j := i) m2 (by first | omega | assumption)) rfl rfl (by show _ < List.length _; first | omega | (dsimp only; omega)) rfl), ?_⟩) (fun h => by cases h)
                    first | refine WQ_guard rfl rfl rfl (lt_dec rfl) (fun _ => ⟨_, (q_loadR rfl rfl (Rds.rssI (j := i) m2 (by first | omega | assumption)) rfl rfl (by first | omega | (dsimp only; omega)) rfl rfl rfl), ?_⟩) (fun h => by cases h)
                    first | refine WQ_guard rfl rfl rfl (lt_dec rfl) (fun _ => ⟨_, (p_move rfl).q, ?_⟩) (fun h => by cases h)
                    first | refine WQ_guard rfl rfl rfl (lt_dec rfl) (fun _ => ⟨_, (q_ixR (1) rfl rfl rfl (Rds.rssI (j := i) m2 (by first | omega | assumption)) rfl rfl (by show _ < List.length _; first | omega | (dsimp only; omega)) rfl), ?_⟩) (fun h => by cases h)
                    first | refine WQ_guard rfl rfl rfl (lt_dec rfl) (fun _ => ⟨_, (q_loadR rfl rfl (Rds.rssI (j := i) m2 (by first | omega | assumption)) rfl rfl (by first | omega | (dsimp only; omega)) rfl rfl rfl), ?_⟩) (fun h => by cases h)
                    first | refine WQ_guard rfl rfl rfl (lt_dec rfl) (fun _ => ⟨_, (p_geq rfl rfl).q, ?_⟩) (fun h => by cases h)
                    refine WQ_cons rfl rfl rfl ((p_pick_f rfl rfl).q) (lt_dec rfl) ?_
                    refine WQ_cons rfl rfl rfl ((p_move rfl).q) (lt_dec rfl) ?_
                    first | refine WQ_guard rfl rfl rfl (lt_dec rfl) (fun hg13 => ⟨_, (p_move rfl).q, ?_⟩) (fun hg13 => ?_)
                    · try simp only [bs] at hg13
                      first | refine WQ_guard rfl rfl rfl (lt_dec rfl) (fun _ => ⟨_, (q_ixR (1) rfl rfl rfl (Rds.rssI (j := i) m2 (by first | omega | assumption)) rfl rfl (by show _ < List.length _; first | omega | (dsimp only; omega)) rfl), ?_⟩) (fun h => by cases h)
                      first | refine WQ_guard rfl rfl rfl (lt_dec rfl) (fun _ => ⟨_, (q_loadR rfl rfl (Rds.rssI (j := i) m2 (by first | omega | assumption)) rfl rfl (by first | omega | (dsimp only; omega)) rfl rfl rfl), ?_⟩) (fun h => by cases h)
                      first | refine WQ_guard rfl rfl rfl (lt_dec rfl) (fun _ => ⟨_, (p_move rfl).q, ?_⟩) (fun h => by cases h)
                      first | refine WQ_guard rfl rfl rfl (lt_dec rfl) (fun _ => ⟨_, (q_ixR (2) rfl rfl rfl (Rds.rssI (j := i) m2 (by first | omega | assumption)) rfl rfl (by show _ < List.length _; first | omega | (dsimp only; omega)) rfl), ?_⟩) (fun h => by cases h)
                      first | refine WQ_guard rfl rfl rfl (lt_dec rfl) (fun _ => ⟨_, (q_loadR rfl rfl (Rds.rssI (j := i) m2 (by first | omega | assumption)) rfl rfl (by first | omega | (dsimp only; omega)) rfl rfl rfl), ?_⟩) (fun h => by cases h)
                      first | refine WQ_guard rfl rfl rfl (lt_dec rfl) (fun _ => ⟨_, (p_geq rfl rfl).q, ?_⟩) (fun h => by cases h)
                      refine WQ_cons rfl rfl rfl ((p_pick_f rfl rfl).q) (lt_dec rfl) ?_
                      refine WQ_cons rfl rfl rfl ((p_move rfl).q) (lt_dec rfl) ?_
                      first | refine WQ_guard rfl rfl rfl (lt_dec rfl) (fun hg20 => ⟨_, (p_move rfl).q, ?_⟩) (fun hg20 => ?_)
                      · try simp only [bs] at hg20
                        first | refine WQ_guard rfl rfl rfl (lt_dec rfl) (fun _ => ⟨_, (q_ixR (2) rfl rfl rfl (Rds.rssI (j := i) m2 (by first | omega | assumption)) rfl rfl (by show _ < List.length _; first | omega | (dsimp only; omega)) rfl), ?_⟩) (fun h => by cases h)
                        first | refine WQ_guard rfl rfl rfl (lt_dec rfl) (fun _ => ⟨_, (q_loadR rfl rfl (Rds.rssI (j := i) m2 (by first | omega | assumption)) rfl rfl (by first | omega | (dsimp only; omega)) rfl rfl rfl), ?_⟩) (fun h => by cases h)
                        first | refine WQ_guard rfl rfl rfl (lt_dec rfl) (fun _ => ⟨_, (p_move rfl).q, ?_⟩) (fun h => by cases h)
                        first | refine WQ_guard rfl rfl rfl (lt_dec rfl) (fun _ => ⟨_, (p_geq rfl rfl).q, ?_⟩) (fun h => by cases h)
                        refine WQ_cons rfl rfl rfl ((p_pick_f rfl rfl).q) (lt_dec rfl) ?_
                        refine WQ_cons rfl rfl rfl ((p_move rfl).q) (lt_dec rfl) ?_
                        first | refine WQ_guard rfl rfl rfl (lt_dec rfl) (fun hg25 => ⟨_, (p_move rfl).q, ?_⟩) (fun hg25 => ?_)
                        · try simp only [bs] at hg25
                          first | refine WQ_guard rfl rfl rfl (lt_dec rfl) (fun _ => ⟨_, (p_gtr rfl rfl).q, ?_⟩) (fun h => by cases h)
                          first | refine WQ_guard rfl rfl rfl (lt_dec rfl) (fun _ => ⟨_, (p_move rfl).q, ?_⟩) (fun h => by cases h)
                          first | refine WQ_guard rfl rfl rfl (lt_dec rfl) (fun hg28 => ⟨_, (p_move rfl).q, ?_⟩) (fun hg28 => ?_)
                          · try simp only [bs] at hg28
                            first | refine WQ_guard rfl rfl rfl (lt_dec rfl) (fun _ => ⟨_, (p_move rfl).q, ?_⟩) (fun h => by cases h)
                            first | refine WQ_guard rfl rfl rfl (lt_dec rfl) (fun _ => ⟨_, (p_sub rfl rfl (by exact ⟨(by first | omega | (dsimp only; omega)), (by first | omega | (dsimp only; omega))⟩)).q, ?_⟩) (fun h => by cases h)
                            first | refine WQ_guard rfl rfl rfl (lt_dec rfl) (fun _ => ⟨_, (q_ixR ((i - 1)) rfl rfl rfl (Rds.rssO m2) rfl (by omega) (by rw [valsR_len]; first | omega | (dsimp only; omega)) rfl), ?_⟩) (fun h => by cases h)
                            first | refine WQ_guard rfl rfl rfl (lt_dec rfl) (fun _ => ⟨_, (q_loadI (j := (i - 1)) rfl rfl (Rds.rssO m2) rfl (by first | omega | assumption) rfl rfl), ?_⟩) (fun h => by cases h)
                            first | refine WQ_guard rfl rfl rfl (lt_dec rfl) (fun _ => ⟨_, (p_move rfl).q, ?_⟩) (fun h => by cases h)
                            first | refine WQ_guard rfl rfl rfl (lt_dec rfl) (fun _ => ⟨_, (q_call en_spec_l06Ahead rfl (w_spec_l06Ahead (hA (i - 1) (by omega)).1.len (by omega)) (View.cons (Vw.rdI (j := i - 1) m2 (by omega) rfl).v (Vw.rdI (j := i) m2 (by omega) rfl).v rfl rfl)), ?_⟩) (fun h => by cases h)
                            first | refine WQ_guard rfl rfl rfl (lt_dec rfl) (fun _ => ⟨_, (p_not rfl).q, ?_⟩) (fun h => by cases h)
                            first | refine WQ_guard rfl rfl rfl (lt_dec rfl) (fun _ => ⟨_, (p_pick_t rfl rfl).q, ?_⟩) (fun h => by cases h)
                            refine WQ_cons rfl rfl rfl ((p_pick_f rfl rfl).q) (lt_dec rfl) ?_
                            refine WQ_nil ?_
                            refine W_cond rfl (fun h5 => ?_) (fun h5 => ?_)
                            · try simp only [bs] at h5
                              have hts : false = tsB T v := ts_v (i := i) (by omega) (fun hV => by have h9 := hV.ord; simp_all)
                              refine W_seq ?_
                              refine W_region ?_
                              refine Ops_q (q_load rfl rfl m0 rfl (by first | exact True.intro | trivial | (first | omega | (dsimp only; omega)) | exact Fin.isLt _ | (dsimp only; omega))) (lt_dec rfl) ?_
                              refine Ops_x rfl (x_store rfl rfl rfl rfl rfl ((HpRep.head).tail) rfl (by first | trivial | (first | (first | omega | (dsimp only; omega)) | exact Fin.isLt _)) ?_)
                              refine Ops_p (p_assign rfl) (lt_dec rfl) ?_
                              refine Ops_nil ?_
                              refine W_ret ?_
                              refine Exists.intro _ (And.intro (.cons (.cell rfl rfl m1 rfl trivial) (.cons (.tmp rfl) .nil)) (Exists.intro f (And.intro ?_ (And.intro ?_ (And.intro .nil rfl)))))
                              · trivial
                              · first | exact veq_tup2 rfl (veq_bool hts) | exact veq_tup2 rfl (veq_bool (ts_n (by omega))) | exact veq_tup2 rfl (veq_bool (ts_v (i := i) (by omega) (fun hV => by have h1 := hV.len; have h2 := hV.a0; have h3 := hV.a1; have h4 := hV.a2; have h5 := hV.a3; unfold at2 at h2 h3 h4 h5; omega)))
                            · try simp only [bs] at h5
                              refine W_skip ?_
                              refine ⟨?_, ?_⟩
                              · exact ⟨by omega, by show 0 ≤ List.getD _ _ _; omega, by show List.getD _ _ _ < List.getD _ _ _; omega, by show List.getD _ _ _ < List.getD _ _ _; omega, by show List.getD _ _ _ < v; omega, fun h => by simp_all⟩
                              · exact Wk.intro (.cons rfl (by first | rfl | exact veq_int (by first | omega | (dsimp only; omega))) (.cons rfl (by first | rfl | exact veq_int (by first | omega | (dsimp only; omega))) (.cons rfl (by first | rfl | exact veq_int (by first | omega | (dsimp only; omega))) (.cons rfl (by first | rfl | exact veq_int (by first | omega | (dsimp only; omega))) (.cons rfl (by first | rfl | exact veq_int (by first | omega | (dsimp only; omega))) (.cons rfl (by first | rfl | exact veq_int (by first | omega | (dsimp only; omega))) (.cons rfl (by first | rfl | exact veq_int (by first | omega | (dsimp only; omega))) (.cons rfl (by first | rfl | exact veq_int (by first | omega | (dsimp only; omega))) (.cons rfl (by first | rfl | exact veq_int (by first | omega | (dsimp only; omega))) (.cons rfl (by first | rfl | exact veq_int (by first | omega | (dsimp only; omega))) (.cons rfl (by first | rfl | exact veq_int (by first | omega | (dsimp only; omega))) (.cons rfl (by first | rfl | exact veq_int (by first | omega | (dsimp only; omega))) (.cons rfl (by first | rfl | exact veq_int (by first | omega | (dsimp only; omega))) (.cons rfl (by first | rfl | exact veq_int (by first | omega | (dsimp only; omega))) (.cons rfl (by first | rfl | exact veq_int (by first | omega | (dsimp only; omega))) .nil))))))))))))))) (.keep rfl rfl (fun _ h => h) (.keep rfl rfl (fun _ h => h) (.keep rfl rfl (fun _ h => h) .nil)))
                          · try simp only [bs] at hg28
                            refine WQ_guard rfl rfl rfl (lt_dec rfl) (fun h => by cases h) (fun _ => ?_)
                            refine WQ_guard rfl rfl rfl (lt_dec rfl) (fun h => by cases h) (fun _ => ?_)
                            refine WQ_guard rfl rfl rfl (lt_dec rfl) (fun h => by cases h) (fun _ => ?_)
                            refine WQ_guard rfl rfl rfl (lt_dec rfl) (fun h => by cases h) (fun _ => ?_)
                            refine WQ_guard rfl rfl rfl (lt_dec rfl) (fun h => by cases h) (fun _ => ?_)
                            refine WQ_guard rfl rfl rfl (lt_dec rfl) (fun h => by cases h) (fun _ => ?_)
                            refine WQ_guard rfl rfl rfl (lt_dec rfl) (fun h => by cases h) (fun _ => ?_)
                            first | refine WQ_guard rfl rfl rfl (lt_dec rfl) (fun _ => ⟨_, (p_pick_f rfl rfl).q, ?_⟩) (fun h => by cases h)
                            refine WQ_cons rfl rfl rfl ((p_pick_f rfl rfl).q) (lt_dec rfl) ?_
                            refine WQ_nil ?_
                            refine W_false rfl ?_
                            refine W_skip ?_
                            refine ⟨?_, ?_⟩
                            · exact ⟨by omega, by show 0 ≤ List.getD _ _ _; omega, by show List.getD _ _ _ < List.getD _ _ _; omega, by show List.getD _ _ _ < List.getD _ _ _; omega, by show List.getD _ _ _ < v; omega, fun h => by simp_all⟩
                            · exact Wk.intro (.cons rfl (by first | rfl | exact veq_int (by first | omega | (dsimp only; omega))) (.cons rfl (by first | rfl | exact veq_int (by first | omega | (dsimp only; omega))) (.cons rfl (by first | rfl | exact veq_int (by first | omega | (dsimp only; omega))) (.cons rfl (by first | rfl | exact veq_int (by first | omega | (dsimp only; omega))) (.cons rfl (by first | rfl | exact veq_int (by first | omega | (dsimp only; omega))) (.cons rfl (by first | rfl | exact veq_int (by first | omega | (dsimp only; omega))) (.cons rfl (by first | rfl | exact veq_int (by first | omega | (dsimp only; omega))) (.cons rfl (by first | rfl | exact veq_int (by first | omega | (dsimp only; omega))) (.cons rfl (by first | rfl | exact veq_int (by first | omega | (dsimp only; omega))) (.cons rfl (by first | rfl | exact veq_int (by first | omega | (dsimp only; omega))) (.cons rfl (by first | rfl | exact veq_int (by first | omega | (dsimp only; omega))) (.cons rfl (by first | rfl | exact veq_int (by first | omega | (dsimp only; omega))) (.cons rfl (by first | rfl | exact veq_int (by first | omega | (dsimp only; omega))) (.cons rfl (by first | rfl | exact veq_int (by first | omega | (dsimp only; omega))) (.cons rfl (by first | rfl | exact veq_int (by first | omega | (dsimp only; omega))) .nil))))))))))))))) (.keep rfl rfl (fun _ h => h) (.keep rfl rfl (fun _ h => h) (.keep rfl rfl (fun _ h => h) .nil)))
                        · try simp only [bs] at hg25
                          refine WQ_guard rfl rfl rfl (lt_dec rfl) (fun h => by cases h) (fun _ => ?_)
                          refine WQ_guard rfl rfl rfl (lt_dec rfl) (fun h => by cases h) (fun _ => ?_)
                          refine WQ_guard_u rfl rfl rfl (lt_dec rfl) ?_
                          refine WQ_guard_u rfl rfl rfl (lt_dec rfl) ?_
                          refine WQ_guard_u rfl rfl rfl (lt_dec rfl) ?_
                          refine WQ_guard_u rfl rfl rfl (lt_dec rfl) ?_
                          refine WQ_guard_u rfl rfl rfl (lt_dec rfl) ?_
                          refine WQ_guard_u rfl rfl rfl (lt_dec rfl) ?_
                          refine WQ_guard_u rfl rfl rfl (lt_dec rfl) ?_
                          refine WQ_guard_u rfl rfl rfl (lt_dec rfl) ?_
                          refine WQ_guard rfl rfl rfl (lt_dec rfl) (fun h => by cases h) (fun _ => ?_)
                          refine WQ_cons rfl rfl rfl ((p_pick_t rfl rfl).q) (lt_dec rfl) ?_
                          refine WQ_nil ?_
                          refine W_true rfl ?_
                          refine W_seq ?_
                          refine W_region ?_
                          refine Ops_q (q_load rfl rfl m0 rfl (by first | exact True.intro | trivial | (first | omega | (dsimp only; omega)) | exact Fin.isLt _ | (dsimp only; omega))) (lt_dec rfl) ?_
                          refine Ops_x rfl (x_store rfl rfl rfl rfl rfl ((HpRep.head).tail) rfl (by first | trivial | (first | (first | omega | (dsimp only; omega)) | exact Fin.isLt _)) ?_)
                          refine Ops_p (p_assign rfl) (lt_dec rfl) ?_
                          refine Ops_nil ?_
                          refine W_ret ?_
                          refine Exists.intro _ (And.intro (.cons (.cell rfl rfl m1 rfl trivial) (.cons (.tmp rfl) .nil)) (Exists.intro f (And.intro ?_ (And.intro ?_ (And.intro .nil rfl)))))
                          · trivial
                          · first | exact veq_tup2 rfl (veq_bool hts) | exact veq_tup2 rfl (veq_bool (ts_n (by omega))) | exact veq_tup2 rfl (veq_bool (ts_v (i := i) (by omega) (fun hV => by have h1 := hV.len; have h2 := hV.a0; have h3 := hV.a1; have h4 := hV.a2; have h5 := hV.a3; unfold at2 at h2 h3 h4 h5; omega)))
                      · try simp only [bs] at hg20
                        refine WQ_guard rfl rfl rfl (lt_dec rfl) (fun h => by cases h) (fun _ => ?_)
                        refine WQ_guard rfl rfl rfl (lt_dec rfl) (fun h => by cases h) (fun _ => ?_)
                        refine WQ_guard rfl rfl rfl (lt_dec rfl) (fun h => by cases h) (fun _ => ?_)
                        refine WQ_guard rfl rfl rfl (lt_dec rfl) (fun h => by cases h) (fun _ => ?_)
                        refine WQ_cons rfl rfl rfl ((p_pick_t rfl rfl).q) (lt_dec rfl) ?_
                        refine WQ_cons rfl rfl rfl ((p_move rfl).q) (lt_dec rfl) ?_
                        refine WQ_guard rfl rfl rfl (lt_dec rfl) (fun h => by cases h) (fun _ => ?_)
                        refine WQ_guard rfl rfl rfl (lt_dec rfl) (fun h => by cases h) (fun _ => ?_)
                        refine WQ_guard rfl rfl rfl (lt_dec rfl) (fun h => by cases h) (fun _ => ?_)
                        refine WQ_guard_u rfl rfl rfl (lt_dec rfl) ?_
                        refine WQ_guard_u rfl rfl rfl (lt_dec rfl) ?_
                        refine WQ_guard_u rfl rfl rfl (lt_dec rfl) ?_
                        refine WQ_guard_u rfl rfl rfl (lt_dec rfl) ?_
                        refine WQ_guard_u rfl rfl rfl (lt_dec rfl) ?_
                        refine WQ_guard_u rfl rfl rfl (lt_dec rfl) ?_
                        refine WQ_guard_u rfl rfl rfl (lt_dec rfl) ?_
                        refine WQ_guard_u rfl rfl rfl (lt_dec rfl) ?_
                        refine WQ_guard rfl rfl rfl (lt_dec rfl) (fun h => by cases h) (fun _ => ?_)
                        refine WQ_cons rfl rfl rfl ((p_pick_t rfl rfl).q) (lt_dec rfl) ?_
                        refine WQ_nil ?_
                        refine W_true rfl ?_
                        refine W_seq ?_
                        refine W_region ?_
                        refine Ops_q (q_load rfl rfl m0 rfl (by first | exact True.intro | trivial | (first | omega | (dsimp only; omega)) | exact Fin.isLt _ | (dsimp only; omega))) (lt_dec rfl) ?_
                        refine Ops_x rfl (x_store rfl rfl rfl rfl rfl ((HpRep.head).tail) rfl (by first | trivial | (first | (first | omega | (dsimp only; omega)) | exact Fin.isLt _)) ?_)
                        refine Ops_p (p_assign rfl) (lt_dec rfl) ?_
                        refine Ops_nil ?_
                        refine W_ret ?_
                        refine Exists.intro _ (And.intro (.cons (.cell rfl rfl m1 rfl trivial) (.cons (.tmp rfl) .nil)) (Exists.intro f (And.intro ?_ (And.intro ?_ (And.intro .nil rfl)))))
                        · trivial
                        · first | exact veq_tup2 rfl (veq_bool hts) | exact veq_tup2 rfl (veq_bool (ts_n (by omega))) | exact veq_tup2 rfl (veq_bool (ts_v (i := i) (by omega) (fun hV => by have h1 := hV.len; have h2 := hV.a0; have h3 := hV.a1; have h4 := hV.a2; have h5 := hV.a3; unfold at2 at h2 h3 h4 h5; omega)))
                    · try simp only [bs] at hg13
                      refine WQ_guard rfl rfl rfl (lt_dec rfl) (fun h => by cases h) (fun _ => ?_)
                      refine WQ_guard rfl rfl rfl (lt_dec rfl) (fun h => by cases h) (fun _ => ?_)
                      refine WQ_guard rfl rfl rfl (lt_dec rfl) (fun h => by cases h) (fun _ => ?_)
                      refine WQ_guard rfl rfl rfl (lt_dec rfl) (fun h => by cases h) (fun _ => ?_)
                      refine WQ_guard rfl rfl rfl (lt_dec rfl) (fun h => by cases h) (fun _ => ?_)
                      refine WQ_guard rfl rfl rfl (lt_dec rfl) (fun h => by cases h) (fun _ => ?_)
                      refine WQ_cons rfl rfl rfl ((p_pick_t rfl rfl).q) (lt_dec rfl) ?_
                      refine WQ_cons rfl rfl rfl ((p_move rfl).q) (lt_dec rfl) ?_
                      refine WQ_guard rfl rfl rfl (lt_dec rfl) (fun h => by cases h) (fun _ => ?_)
                      refine WQ_guard rfl rfl rfl (lt_dec rfl) (fun h => by cases h) (fun _ => ?_)
                      refine WQ_guard rfl rfl rfl (lt_dec rfl) (fun h => by cases h) (fun _ => ?_)
                      refine WQ_guard rfl rfl rfl (lt_dec rfl) (fun h => by cases h) (fun _ => ?_)
                      refine WQ_guard rfl rfl rfl (lt_dec rfl) (fun h => by cases h) (fun _ => ?_)
                      refine WQ_cons rfl rfl rfl ((p_pick_t rfl rfl).q) (lt_dec rfl) ?_
                      refine WQ_cons rfl rfl rfl ((p_move rfl).q) (lt_dec rfl) ?_
                      refine WQ_guard rfl rfl rfl (lt_dec rfl) (fun h => by cases h) (fun _ => ?_)
                      refine WQ_guard rfl rfl rfl (lt_dec rfl) (fun h => by cases h) (fun _ => ?_)
                      refine WQ_guard rfl rfl rfl (lt_dec rfl) (fun h => by cases h) (fun _ => ?_)
                      refine WQ_guard_u rfl rfl rfl (lt_dec rfl) ?_
                      refine WQ_guard_u rfl rfl rfl (lt_dec rfl) ?_
                      refine WQ_guard_u rfl rfl rfl (lt_dec rfl) ?_
                      refine WQ_guard_u rfl rfl rfl (lt_dec rfl) ?_
                      refine WQ_guard_u rfl rfl rfl (lt_dec rfl) ?_
                      refine WQ_guard_u rfl rfl rfl (lt_dec rfl) ?_
                      refine WQ_guard_u rfl rfl rfl (lt_dec rfl) ?_
                      refine WQ_guard_u rfl rfl rfl (lt_dec rfl) ?_
                      refine WQ_guard rfl rfl rfl (lt_dec rfl) (fun h => by cases h) (fun _ => ?_)
                      refine WQ_cons rfl rfl rfl ((p_pick_t rfl rfl).q) (lt_dec rfl) ?_
                      refine WQ_nil ?_
                      refine W_true rfl ?_
                      refine W_seq ?_
                      refine W_region ?_
                      refine Ops_q (q_load rfl rfl m0 rfl (by first | exact True.intro | trivial | (first | omega | (dsimp only; omega)) | exact Fin.isLt _ | (dsimp only; omega))) (lt_dec rfl) ?_
                      refine Ops_x rfl (x_store rfl rfl rfl rfl rfl ((HpRep.head).tail) rfl (by first | trivial | (first | (first | omega | (dsimp only; omega)) | exact Fin.isLt _)) ?_)
                      refine Ops_p (p_assign rfl) (lt_dec rfl) ?_
                      refine Ops_nil ?_
                      refine W_ret ?_
                      refine Exists.intro _ (And.intro (.cons (.cell rfl rfl m1 rfl trivial) (.cons (.tmp rfl) .nil)) (Exists.intro f (And.intro ?_ (And.intro ?_ (And.intro .nil rfl)))))
                      · trivial
                      · first | exact veq_tup2 rfl (veq_bool hts) | exact veq_tup2 rfl (veq_bool (ts_n (by omega))) | exact veq_tup2 rfl (veq_bool (ts_v (i := i) (by omega) (fun hV => by have h1 := hV.len; have h2 := hV.a0; have h3 := hV.a1; have h4 := hV.a2; have h5 := hV.a3; unfold at2 at h2 h3 h4 h5; omega)))
                  · try simp only [bs] at hg6
                    refine WQ_guard rfl rfl rfl (lt_dec rfl) (fun h => by cases h) (fun _ => ?_)
                    refine WQ_guard rfl rfl rfl (lt_dec rfl) (fun h => by cases h) (fun _ => ?_)
                    refine WQ_guard rfl rfl rfl (lt_dec rfl) (fun h => by cases h) (fun _ => ?_)
                    refine WQ_guard rfl rfl rfl (lt_dec rfl) (fun h => by cases h) (fun _ => ?_)
                    refine WQ_guard rfl rfl rfl (lt_dec rfl) (fun h => by cases h) (fun _ => ?_)
                    refine WQ_guard rfl rfl rfl (lt_dec rfl) (fun h => by cases h) (fun _ => ?_)
                    refine WQ_cons rfl rfl rfl ((p_pick_t rfl rfl).q) (lt_dec rfl) ?_
                    refine WQ_cons rfl rfl rfl ((p_move rfl).q) (lt_dec rfl) ?_
                    refine WQ_guard rfl rfl rfl (lt_dec rfl) (fun h => by cases h) (fun _ => ?_)
                    refine WQ_guard rfl rfl rfl (lt_dec rfl) (fun h => by cases h) (fun _ => ?_)
                    refine WQ_guard rfl rfl rfl (lt_dec rfl) (fun h => by cases h) (fun _ => ?_)
                    refine WQ_guard rfl rfl rfl (lt_dec rfl) (fun h => by cases h) (fun _ => ?_)
                    refine WQ_guard rfl rfl rfl (lt_dec rfl) (fun h => by cases h) (fun _ => ?_)
                    refine WQ_guard rfl rfl rfl (lt_dec rfl) (fun h => by cases h) (fun _ => ?_)
                    refine WQ_guard rfl rfl rfl (lt_dec rfl) (fun h => by cases h) (fun _ => ?_)
                    refine WQ_cons rfl rfl rfl ((p_pick_t rfl rfl).q) (lt_dec rfl) ?_
                    refine WQ_cons rfl rfl rfl ((p_move rfl).q) (lt_dec rfl) ?_
                    refine WQ_guard rfl rfl rfl (lt_dec rfl) (fun h => by cases h) (fun _ => ?_)
                    refine WQ_guard rfl rfl rfl (lt_dec rfl) (fun h => by cases h) (fun _ => ?_)
                    refine WQ_guard rfl rfl rfl (lt_dec rfl) (fun h => by cases h) (fun _ => ?_)
                    refine WQ_guard rfl rfl rfl (lt_dec rfl) (fun h => by cases h) (fun _ => ?_)
                    refine WQ_guard rfl rfl rfl (lt_dec rfl) (fun h => by cases h) (fun _ => ?_)
                    refine WQ_cons rfl rfl rfl ((p_pick_t rfl rfl).q) (lt_dec rfl) ?_
                    refine WQ_cons rfl rfl rfl ((p_move rfl).q) (lt_dec rfl) ?_
                    refine WQ_guard rfl rfl rfl (lt_dec rfl) (fun h => by cases h) (fun _ => ?_)
                    refine WQ_guard rfl rfl rfl (lt_dec rfl) (fun h => by cases h) (fun _ => ?_)
                    refine WQ_guard rfl rfl rfl (lt_dec rfl) (fun h => by cases h) (fun _ => ?_)
                    refine WQ_guard_u rfl rfl rfl (lt_dec rfl) ?_
                    refine WQ_guard_u rfl rfl rfl (lt_dec rfl) ?_
                    refine WQ_guard_u rfl rfl rfl (lt_dec rfl) ?_
                    refine WQ_guard_u rfl rfl rfl (lt_dec rfl) ?_
                    refine WQ_guard_u rfl rfl rfl (lt_dec rfl) ?_
                    refine WQ_guard_u rfl rfl rfl (lt_dec rfl) ?_
                    refine WQ_guard_u rfl rfl rfl (lt_dec rfl) ?_
                    refine WQ_guard_u rfl rfl rfl (lt_dec rfl) ?_
                    refine WQ_guard rfl rfl rfl (lt_dec rfl) (fun h => by cases h) (fun _ => ?_)
                    refine WQ_cons rfl rfl rfl ((p_pick_t rfl rfl).q) (lt_dec rfl) ?_
                    refine WQ_nil ?_
                    refine W_true rfl ?_
                    refine W_seq ?_
                    refine W_region ?_
                    refine Ops_q (q_load rfl rfl m0 rfl (by first | exact True.intro | trivial | (first | omega | (dsimp only; omega)) | exact Fin.isLt _ | (dsimp only; omega))) (lt_dec rfl) ?_
                    refine Ops_x rfl (x_store rfl rfl rfl rfl rfl ((HpRep.head).tail) rfl (by first | trivial | (first | (first | omega | (dsimp only; omega)) | exact Fin.isLt _)) ?_)
                    refine Ops_p (p_assign rfl) (lt_dec rfl) ?_
                    refine Ops_nil ?_
                    refine W_ret ?_
                    refine Exists.intro _ (And.intro (.cons (.cell rfl rfl m1 rfl trivial) (.cons (.tmp rfl) .nil)) (Exists.intro f (And.intro ?_ (And.intro ?_ (And.intro .nil rfl)))))
                    · trivial
                    · first | exact veq_tup2 rfl (veq_bool hts) | exact veq_tup2 rfl (veq_bool (ts_n (by omega))) | exact veq_tup2 rfl (veq_bool (ts_v (i := i) (by omega) (fun hV => by have h1 := hV.len; have h2 := hV.a0; have h3 := hV.a1; have h4 := hV.a2; have h5 := hV.a3; unfold at2 at h2 h3 h4 h5; omega)))
                · try simp only [bs] at hg2
                  refine WQ_guard rfl rfl rfl (lt_dec rfl) (fun h => by cases h) (fun _ => ?_)
                  refine WQ_guard rfl rfl rfl (lt_dec rfl) (fun h => by cases h) (fun _ => ?_)
                  refine WQ_guard rfl rfl rfl (lt_dec rfl) (fun h => by cases h) (fun _ => ?_)
                  refine WQ_cons rfl rfl rfl ((p_pick_t rfl rfl).q) (lt_dec rfl) ?_
                  refine WQ_cons rfl rfl rfl ((p_move rfl).q) (lt_dec rfl) ?_
                  refine WQ_guard rfl rfl rfl (lt_dec rfl) (fun h => by cases h) (fun _ => ?_)
                  refine WQ_guard rfl rfl rfl (lt_dec rfl) (fun h => by cases h) (fun _ => ?_)
                  refine WQ_guard rfl rfl rfl (lt_dec rfl) (fun h => by cases h) (fun _ => ?_)
                  refine WQ_guard rfl rfl rfl (lt_dec rfl) (fun h => by cases h) (fun _ => ?_)
                  refine WQ_guard rfl rfl rfl (lt_dec rfl) (fun h => by cases h) (fun _ => ?_)
                  refine WQ_guard rfl rfl rfl (lt_dec rfl) (fun h => by cases h) (fun _ => ?_)
                  refine WQ_guard rfl rfl rfl (lt_dec rfl) (fun h => by cases h) (fun _ => ?_)
                  refine WQ_cons rfl rfl rfl ((p_pick_t rfl rfl).q) (lt_dec rfl) ?_
                  refine WQ_cons rfl rfl rfl ((p_move rfl).q) (lt_dec rfl) ?_
                  refine WQ_guard rfl rfl rfl (lt_dec rfl) (fun h => by cases h) (fun _ => ?_)
                  refine WQ_guard rfl rfl rfl (lt_dec rfl) (fun h => by cases h) (fun _ => ?_)
                  refine WQ_guard rfl rfl rfl (lt_dec rfl) (fun h => by cases h) (fun _ => ?_)
                  refine WQ_guard rfl rfl rfl (lt_dec rfl) (fun h => by cases h) (fun _ => ?_)
                  refine WQ_guard rfl rfl rfl (lt_dec rfl) (fun h => by cases h) (fun _ => ?_)
                  refine WQ_guard rfl rfl rfl (lt_dec rfl) (fun h => by cases h) (fun _ => ?_)
                  refine WQ_guard rfl rfl rfl (lt_dec rfl) (fun h => by cases h) (fun _ => ?_)
                  refine WQ_cons rfl rfl rfl ((p_pick_t rfl rfl).q) (lt_dec rfl) ?_
                  refine WQ_cons rfl rfl rfl ((p_move rfl).q) (lt_dec rfl) ?_
                  refine WQ_guard rfl rfl rfl (lt_dec rfl) (fun h => by cases h) (fun _ => ?_)
                  refine WQ_guard rfl rfl rfl (lt_dec rfl) (fun h => by cases h) (fun _ => ?_)
                  refine WQ_guard rfl rfl rfl (lt_dec rfl) (fun h => by cases h) (fun _ => ?_)
                  refine WQ_guard rfl rfl rfl (lt_dec rfl) (fun h => by cases h) (fun _ => ?_)
                  refine WQ_guard rfl rfl rfl (lt_dec rfl) (fun h => by cases h) (fun _ => ?_)
                  refine WQ_cons rfl rfl rfl ((p_pick_t rfl rfl).q) (lt_dec rfl) ?_
                  refine WQ_cons rfl rfl rfl ((p_move rfl).q) (lt_dec rfl) ?_
                  refine WQ_guard rfl rfl rfl (lt_dec rfl) (fun h => by cases h) (fun _ => ?_)
                  refine WQ_guard rfl rfl rfl (lt_dec rfl) (fun h => by cases h) (fun _ => ?_)
                  refine WQ_guard rfl rfl rfl (lt_dec rfl) (fun h => by cases h) (fun _ => ?_)
                  refine WQ_guard_u rfl rfl rfl (lt_dec rfl) ?_
                  refine WQ_guard_u rfl rfl rfl (lt_dec rfl) ?_
                  refine WQ_guard_u rfl rfl rfl (lt_dec rfl) ?_
                  refine WQ_guard_u rfl rfl rfl (lt_dec rfl) ?_
                  refine WQ_guard_u rfl rfl rfl (lt_dec rfl) ?_
                  refine WQ_guard_u rfl rfl rfl (lt_dec rfl) ?_
                  refine WQ_guard_u rfl rfl rfl (lt_dec rfl) ?_
                  refine WQ_guard_u rfl rfl rfl (lt_dec rfl) ?_
                  refine WQ_guard rfl rfl rfl (lt_dec rfl) (fun h => by cases h) (fun _ => ?_)
                  refine WQ_cons rfl rfl rfl ((p_pick_t rfl rfl).q) (lt_dec rfl) ?_
                  refine WQ_nil ?_
                  refine W_true rfl ?_
                  refine W_seq ?_
                  refine W_region ?_
                  refine Ops_q (q_load rfl rfl m0 rfl (by first | exact True.intro | trivial | (first | omega | (dsimp only; omega)) | exact Fin.isLt _ | (dsimp only; omega))) (lt_dec rfl) ?_
                  refine Ops_x rfl (x_store rfl rfl rfl rfl rfl ((HpRep.head).tail) rfl (by first | trivial | (first | (first | omega | (dsimp only; omega)) | exact Fin.isLt _)) ?_)
                  refine Ops_p (p_assign rfl) (lt_dec rfl) ?_
                  refine Ops_nil ?_
                  refine W_ret ?_
                  refine Exists.intro _ (And.intro (.cons (.cell rfl rfl m1 rfl trivial) (.cons (.tmp rfl) .nil)) (Exists.intro f (And.intro ?_ (And.intro ?_ (And.intro .nil rfl)))))
                  · trivial
                  · first | exact veq_tup2 rfl (veq_bool hts) | exact veq_tup2 rfl (veq_bool (ts_n (by omega))) | exact veq_tup2 rfl (veq_bool (ts_v (i := i) (by omega) (fun hV => by have h1 := hV.len; have h2 := hV.a0; have h3 := hV.a1; have h4 := hV.a2; have h5 := hV.a3; unfold at2 at h2 h3 h4 h5; omega)))
              · rintro s' ⟨hV, hw⟩
                refine W_wk hw ?_
                clear hw s'
                refine W_seq ?_
                refine W_region ?_
                refine Ops_p (p_assign rfl) (lt_dec rfl) ?_
                refine Ops_nil ?_
                refine W_block ?_
                refine W_loop (α := Nat × (Nat → Int)) (fun zz3 => ⟨[(0, .int .i64 v), (1, .raw a ha), (4, .ptr b4_1 0 none), (6, .ptr b6_1 0 none), (7, .int .i64 (9 : Int)), (9, .int .i64 (i : Int)), (10, .raw (T.getD i sd).1.1 (T.getD i sd).1.2), (11, .int .i64 ((zz3.1) : Int)), (15, .arr .i64 81 fun _ => 0), (16, .int .i64 (9 : Int)), (28, .int .i64 v), (32, .raw a ha), (33, .int .i64 ((T.length : Nat) : Int)), (37, .int .i64 (i : Int)), (38, .raw a ha), (39, .int .i64 ((T.length : Nat) : Int))], [.var b6_1 (.arr .i64 81 (zz3.2)), .var b4_1 (.arr .i64 81 fun _ => 0), rss a T]⟩) (fun zz3 => (zz3.1) ≤ 3 ∧ MkS T i (zz3.1) 0 (zz3.2) ∧ FrU T i (zz3.1) 0) (fun zz3 => 3 - (zz3.1)) (0, f) ?_ ?_ ?_
                · exact ⟨by omega, hM, FrU.start⟩
                · exact Wk.intro (.cons rfl (by first | rfl | exact veq_int (by first | omega | (dsimp only; omega))) (.cons rfl (by first | rfl | exact veq_int (by first | omega | (dsimp only; omega))) (.cons rfl (by first | rfl | exact veq_int (by first | omega | (dsimp only; omega))) (.cons rfl (by first | rfl | exact veq_int (by first | omega | (dsimp only; omega))) (.cons rfl (by first | rfl | exact veq_int (by first | omega | (dsimp only; omega))) (.cons rfl (by first | rfl | exact veq_int (by first | omega | (dsimp only; omega))) (.cons rfl (by first | rfl | exact veq_int (by first | omega | (dsimp only; omega))) (.cons rfl (by first | rfl | exact veq_int (by first | omega | (dsimp only; omega))) (.cons rfl (by first | rfl | exact veq_int (by first | omega | (dsimp only; omega))) (.cons rfl (by first | rfl | exact veq_int (by first | omega | (dsimp only; omega))) (.cons rfl (by first | rfl | exact veq_int (by first | omega | (dsimp only; omega))) (.cons rfl (by first | rfl | exact veq_int (by first | omega | (dsimp only; omega))) (.cons rfl (by first | rfl | exact veq_int (by first | omega | (dsimp only; omega))) (.cons rfl (by first | rfl | exact veq_int (by first | omega | (dsimp only; omega))) (.cons rfl (by first | rfl | exact veq_int (by first | omega | (dsimp only; omega))) (.cons rfl (by first | rfl | exact veq_int (by first | omega | (dsimp only; omega))) .nil)))))))))))))))) (.keep rfl rfl (fun _ h => h) (.keep rfl rfl (fun _ h => h) (.keep rfl rfl (fun _ h => h) .nil)))
                · rintro ⟨p, f2⟩ ⟨hp, hM2, hU2⟩
                  try dsimp only at *
                  refine W_seq ?_
                  refine W_seq ?_
                  refine W_region ?_
                  refine Ops_p (p_move rfl) (lt_dec rfl) ?_
                  refine Ops_p (p_lss rfl rfl) (lt_dec rfl) ?_
                  refine Ops_nil ?_
                  refine W_cond rfl (fun h6 => ?_) (fun h6 => ?_)
                  · try simp only [bs] at h6
                    refine W_skip ?_
                    refine W_seq ?_
                    refine W_block ?_
                    refine W_seq ?_
                    refine W_region ?_
                    refine Ops_p (p_assign rfl) (lt_dec rfl) ?_
                    refine Ops_nil ?_
                    refine W_block ?_
                    refine W_loop (α := Nat × (Nat → Int)) (fun zz4 => ⟨[(0, .int .i64 v), (1, .raw a ha), (4, .ptr b4_1 0 none), (6, .ptr b6_1 0 none), (7, .int .i64 (9 : Int)), (9, .int .i64 (i : Int)), (10, .raw (T.getD i sd).1.1 (T.getD i sd).1.2), (11, .int .i64 (p : Int)), (12, .int .i64 ((zz4.1) : Int)), (15, .arr .i64 81 fun _ => 0), (16, .int .i64 (9 : Int)), (28, .int .i64 v), (32, .raw a ha), (33, .int .i64 ((T.length : Nat) : Int)), (37, .int .i64 (i : Int)), (38, .raw a ha), (39, .int .i64 ((T.length : Nat) : Int)), (96, .int .i64 (p : Int))], [.var b6_1 (.arr .i64 81 (zz4.2)), .var b4_1 (.arr .i64 81 fun _ => 0), rss a T]⟩) (fun zz4 => (zz4.1) ≤ 3 ∧ MkS T i p (zz4.1) (zz4.2) ∧ FrU T i p (zz4.1)) (fun zz4 => 3 - (zz4.1)) (0, f2) ?_ ?_ ?_
                    · exact ⟨by omega, hM2, hU2⟩
                    · exact Wk.intro (.cons rfl (by first | rfl | exact veq_int (by first | omega | (dsimp only; omega))) (.cons rfl (by first | rfl | exact veq_int (by first | omega | (dsimp only; omega))) (.cons rfl (by first | rfl | exact veq_int (by first | omega | (dsimp only; omega))) (.cons rfl (by first | rfl | exact veq_int (by first | omega | (dsimp only; omega))) (.cons rfl (by first | rfl | exact veq_int (by first | omega | (dsimp only; omega))) (.cons rfl (by first | rfl | exact veq_int (by first | omega | (dsimp only; omega))) (.cons rfl (by first | rfl | exact veq_int (by first | omega | (dsimp only; omega))) (.cons rfl (by first | rfl | exact veq_int (by first | omega | (dsimp only; omega))) (.cons rfl (by first | rfl | exact veq_int (by first | omega | (dsimp only; omega))) (.cons rfl (by first | rfl | exact veq_int (by first | omega | (dsimp only; omega))) (.cons rfl (by first | rfl | exact veq_int (by first | omega | (dsimp only; omega))) (.cons rfl (by first | rfl | exact veq_int (by first | omega | (dsimp only; omega))) (.cons rfl (by first | rfl | exact veq_int (by first | omega | (dsimp only; omega))) (.cons rfl (by first | rfl | exact veq_int (by first | omega | (dsimp only; omega))) (.cons rfl (by first | rfl | exact veq_int (by first | omega | (dsimp only; omega))) (.cons rfl (by first | rfl | exact veq_int (by first | omega | (dsimp only; omega))) (.cons rfl (by first | rfl | exact veq_int (by first | omega | (dsimp only; omega))) (.cons rfl (by first | rfl | exact veq_int (by first | omega | (dsimp only; omega))) .nil)))))))))))))))))) (.keep rfl rfl (fun _ h => h) (.keep rfl rfl (fun _ h => h) (.keep rfl rfl (fun _ h => h) .nil)))
                    · rintro ⟨q, f3⟩ ⟨hq, hM3, hU3⟩
                      try dsimp only at *
                      refine W_seq ?_
                      refine W_seq ?_
                      refine W_region ?_
                      refine Ops_p (p_move rfl) (lt_dec rfl) ?_
                      refine Ops_p (p_lss rfl rfl) (lt_dec rfl) ?_
                      refine Ops_nil ?_
                      refine W_cond rfl (fun h7 => ?_) (fun h7 => ?_)
                      · try simp only [bs] at h7
                        refine W_skip ?_
                        refine W_seq ?_
                        refine W_block ?_
                        refine W_seq ?_
                        refine W_seq ?_
                        refine W_region ?_
                        refine Ops_p (p_move rfl) (lt_dec rfl) ?_
                        refine Ops_p (p_move rfl) (lt_dec rfl) ?_
                        refine Ops_p (p_eql rfl rfl) (lt_dec rfl) ?_
                        refine Ops_nil ?_
                        refine W_cond rfl (fun h8 => ?_) (fun h8 => ?_)
                        · try simp only [bs] at h8
                          refine W_exit ?_
                          refine W_region ?_
                          refine Ops_p (p_move rfl) (lt_dec rfl) ?_
                          refine Ops_p (p_add rfl rfl (by exact ⟨(by first | omega | (dsimp only; omega)), (by first | omega | (dsimp only; omega))⟩)) (lt_dec rfl) ?_
                          refine Ops_p (p_assign rfl) (lt_dec rfl) ?_
                          refine Ops_nil ?_
                          refine Exists.intro (q + 1, f3) (And.intro ?_ (And.intro ?_ ?_))
                          · first | (have hqp : q = p := (by omega); subst hqp; exact ⟨by show _ ≤ _; omega, hM3.diag, hU3.diag⟩) | exact ⟨by show _ ≤ _; omega, hM3.set hv.2 hV (by omega) (by omega) (by omega) (hV.rng (by omega)).1, hU3.step hmi⟩
                          · show _ < _; omega
                          · exact Wk.intro (.cons rfl (by first | rfl | exact veq_int (by first | omega | (dsimp only; omega))) (.cons rfl (by first | rfl | exact veq_int (by first | omega | (dsimp only; omega))) (.cons rfl (by first | rfl | exact veq_int (by first | omega | (dsimp only; omega))) (.cons rfl (by first | rfl | exact veq_int (by first | omega | (dsimp only; omega))) (.cons rfl (by first | rfl | exact veq_int (by first | omega | (dsimp only; omega))) (.cons rfl (by first | rfl | exact veq_int (by first | omega | (dsimp only; omega))) (.cons rfl (by first | rfl | exact veq_int (by first | omega | (dsimp only; omega))) (.cons rfl (by first | rfl | exact veq_int (by first | omega | (dsimp only; omega))) (.cons rfl (by first | rfl | exact veq_int (by first | omega | (dsimp only; omega))) (.cons rfl (by first | rfl | exact veq_int (by first | omega | (dsimp only; omega))) (.cons rfl (by first | rfl | exact veq_int (by first | omega | (dsimp only; omega))) (.cons rfl (by first | rfl | exact veq_int (by first | omega | (dsimp only; omega))) (.cons rfl (by first | rfl | exact veq_int (by first | omega | (dsimp only; omega))) (.cons rfl (by first | rfl | exact veq_int (by first | omega | (dsimp only; omega))) (.cons rfl (by first | rfl | exact veq_int (by first | omega | (dsimp only; omega))) (.cons rfl (by first | rfl | exact veq_int (by first | omega | (dsimp only; omega))) (.cons rfl (by first | rfl | exact veq_int (by first | omega | (dsimp only; omega))) (.cons rfl (by first | rfl | exact veq_int (by first | omega | (dsimp only; omega))) .nil)))))))))))))))))) (.keep rfl rfl (imp_var rfl rfl) (.keep rfl rfl (fun _ h => h) (.keep rfl rfl (fun _ h => h) .nil)))
                        · try simp only [bs] at h8
                          refine W_skip ?_
                          refine W_seq ?_
                          refine W_seq ?_
                          have hln : (T.getD i sd).2.length = 3 := hV.len
                          have hrp := hV.rng (a := p) (by omega)
                          have hrq := hV.rng (a := q) (by omega)
                          refine W_draw (by kernel_rfl) ?_
                          show RA _ _ 12 _ _ _
                          refine RA_quietF [0, 1, 2, 3, 4, 5, 6, 7, 8, 9, 10, 11] rfl rfl rfl (by kernel_rfl) (by kernel_rfl) ?_
                          refine WQ_cons rfl rfl rfl ((p_move rfl).q) (lt_dec rfl) ?_
                          refine WQ_cons rfl rfl rfl ((p_move rfl).q) (lt_dec rfl) ?_
                          refine WQ_cons rfl rfl rfl ((q_ixR (p) rfl rfl rfl (Rds.rssI (j := i) m2 (by first | omega | assumption)) rfl rfl (by show _ < List.length _; first | omega | (dsimp only; omega)) rfl)) (lt_dec rfl) ?_
                          refine WQ_cons rfl rfl rfl ((q_loadR rfl rfl (Rds.rssI (j := i) m2 (by first | omega | assumption)) rfl rfl (by first | omega | (dsimp only; omega)) rfl rfl rfl)) (lt_dec rfl) ?_
                          refine WQ_cons rfl rfl rfl ((p_move rfl).q) (lt_dec rfl) ?_
                          refine WQ_cons rfl rfl rfl ((p_move rfl).q) (lt_dec rfl) ?_
                          refine WQ_cons rfl rfl rfl ((q_ixR (q) rfl rfl rfl (Rds.rssI (j := i) m2 (by first | omega | assumption)) rfl rfl (by show _ < List.length _; first | omega | (dsimp only; omega)) rfl)) (lt_dec rfl) ?_
                          refine WQ_cons rfl rfl rfl ((q_loadR rfl rfl (Rds.rssI (j := i) m2 (by first | omega | assumption)) rfl rfl (by first | omega | (dsimp only; omega)) rfl rfl rfl)) (lt_dec rfl) ?_
                          refine WQ_cons rfl rfl rfl ((p_ixN 9 (at2 T i p).toNat rfl rfl rfl rfl rfl (show at2 T i p = _ by omega) (by first | (first | omega | (dsimp only; omega)) | exact Fin.isLt _)).q) (lt_dec rfl) ?_
                          first | refine WQ_cons rfl rfl rfl ((p_ix1 (at2 T i q).toNat rfl rfl rfl rfl rfl (show at2 T i q = _ by omega) (by first | (first | omega | (dsimp only; omega)) | exact Fin.isLt _)).q) (lt_dec rfl) ?_ | refine WQ_cons rfl rfl rfl ((p_ix1s (at2 T i q).toNat rfl rfl rfl rfl rfl (show at2 T i q = _ by omega) (by first | (first | omega | (dsimp only; omega)) | exact Fin.isLt _)).q) (lt_dec rfl) ?_
                          refine WQ_cons rfl rfl rfl ((q_load rfl rfl m0 rfl (by first | exact True.intro | trivial | (first | omega | (dsimp only; omega)) | exact Fin.isLt _ | (dsimp only; omega)))) (lt_dec rfl) ?_
                          refine WQ_cons rfl rfl rfl ((p_geq rfl rfl).q) (lt_dec rfl) ?_
                          refine WQ_nil ?_
                          refine W_cond rfl (fun h9 => ?_) (fun h9 => ?_)
                          · try simp only [bs] at h9
                            have hts : false = tsB T v := ts_u (i := i) (by omega) (by omega) (by omega) (by omega) (hM3.hit hv.2 hV (by omega) (by omega) h9)
                            refine W_seq ?_
                            refine W_region ?_
                            refine Ops_q (q_load rfl rfl m0 rfl (by first | exact True.intro | trivial | (first | omega | (dsimp only; omega)) | exact Fin.isLt _ | (dsimp only; omega))) (lt_dec rfl) ?_
                            refine Ops_x rfl (x_store rfl rfl rfl rfl rfl ((HpRep.head).tail) rfl (by first | trivial | (first | (first | omega | (dsimp only; omega)) | exact Fin.isLt _)) ?_)
                            refine Ops_p (p_assign rfl) (lt_dec rfl) ?_
                            refine Ops_nil ?_
                            refine W_ret ?_
                            refine Exists.intro _ (And.intro (.cons (.cell rfl rfl m1 rfl trivial) (.cons (.tmp rfl) .nil)) (Exists.intro f3 (And.intro ?_ (And.intro ?_ (And.intro .nil rfl)))))
                            · trivial
                            · first | exact veq_tup2 rfl (veq_bool hts) | exact veq_tup2 rfl (veq_bool (ts_n (by omega))) | exact veq_tup2 rfl (veq_bool (ts_v (i := i) (by omega) (fun hV => by have h1 := hV.len; have h2 := hV.a0; have h3 := hV.a1; have h4 := hV.a2; have h5 := hV.a3; unfold at2 at h2 h3 h4 h5; omega)))
                          · try simp only [bs] at h9
                            have hmi := hM3.miss hv.2 hV (by omega) (by omega) (by omega)
                            refine W_skip ?_
                            refine W_draw (by kernel_rfl) ?_
                            show RA _ _ 18 _ _ _
                            refine RA_quiet (g := 1) [0, 1, 2, 3, 4, 5, 6, 7, 8, 9, 10, 11, 12, 13, 14, 15, 16] (by kernel_rfl) (by kernel_rfl) (by kernel_rfl) (by kernel_rfl) ?_
                            refine WQ_cons rfl rfl rfl ((p_move rfl).q) (lt_dec rfl) ?_
                            refine WQ_cons rfl rfl rfl ((p_move rfl).q) (lt_dec rfl) ?_
                            refine WQ_cons rfl rfl rfl ((q_ixR (p) rfl rfl rfl (Rds.rssI (j := i) m2 (by first | omega | assumption)) rfl rfl (by show _ < List.length _; first | omega | (dsimp only; omega)) rfl)) (lt_dec rfl) ?_
                            refine WQ_cons rfl rfl rfl ((q_loadR rfl rfl (Rds.rssI (j := i) m2 (by first | omega | assumption)) rfl rfl (by first | omega | (dsimp only; omega)) rfl rfl rfl)) (lt_dec rfl) ?_
                            refine WQ_cons rfl rfl rfl ((p_move rfl).q) (lt_dec rfl) ?_
                            refine WQ_cons rfl rfl rfl ((p_move rfl).q) (lt_dec rfl) ?_
                            refine WQ_cons rfl rfl rfl ((q_ixR (q) rfl rfl rfl (Rds.rssI (j := i) m2 (by first | omega | assumption)) rfl rfl (by show _ < List.length _; first | omega | (dsimp only; omega)) rfl)) (lt_dec rfl) ?_
                            refine WQ_cons rfl rfl rfl ((q_loadR rfl rfl (Rds.rssI (j := i) m2 (by first | omega | assumption)) rfl rfl (by first | omega | (dsimp only; omega)) rfl rfl rfl)) (lt_dec rfl) ?_
                            refine WQ_cons rfl rfl rfl ((p_move rfl).q) (lt_dec rfl) ?_
                            refine WQ_cons rfl rfl rfl ((p_move rfl).q) (lt_dec rfl) ?_
                            refine WQ_cons rfl rfl rfl ((p_sub rfl rfl (by exact ⟨(by first | omega | (dsimp only; omega)), (by first | omega | (dsimp only; omega))⟩)).q) (lt_dec rfl) ?_
                            refine WQ_cons rfl rfl rfl ((p_move rfl).q) (lt_dec rfl) ?_
                            refine WQ_cons rfl rfl rfl ((p_sub rfl rfl (by exact ⟨(by first | omega | (dsimp only; omega)), (by first | omega | (dsimp only; omega))⟩)).q) (lt_dec rfl) ?_
                            refine WQ_cons rfl rfl rfl ((q_ixR ((3 - p - q)) rfl rfl rfl (Rds.rssI (j := i) m2 (by first | omega | assumption)) rfl (by omega) (by show _ < List.length _; first | omega | (dsimp only; omega)) rfl)) (lt_dec rfl) ?_
                            refine WQ_cons rfl rfl rfl ((q_loadR rfl rfl (Rds.rssI (j := i) m2 (by first | omega | assumption)) rfl rfl (by first | omega | (dsimp only; omega)) rfl rfl rfl)) (lt_dec rfl) ?_
                            refine WQ_cons rfl rfl rfl ((p_ixN 9 (at2 T i p).toNat rfl rfl rfl rfl rfl (show at2 T i p = _ by omega) (by first | (first | omega | (dsimp only; omega)) | exact Fin.isLt _)).q) (lt_dec rfl) ?_
                            first | refine WQ_cons rfl rfl rfl ((p_ix1 (at2 T i q).toNat rfl rfl rfl rfl rfl (show at2 T i q = _ by omega) (by first | (first | omega | (dsimp only; omega)) | exact Fin.isLt _)).q) (lt_dec rfl) ?_ | refine WQ_cons rfl rfl rfl ((p_ix1s (at2 T i q).toNat rfl rfl rfl rfl rfl (show at2 T i q = _ by omega) (by first | (first | omega | (dsimp only; omega)) | exact Fin.isLt _)).q) (lt_dec rfl) ?_
                            refine WQ_nil ?_
                            refine RA_one 17 rfl rfl (by kernel_rfl) (x_store rfl rfl rfl rfl rfl HpRep.head rfl (by first | trivial | (first | (first | omega | (dsimp only; omega)) | exact Fin.isLt _)) ?_)
                            refine RA_done (by kernel_rfl) ?_
                            refine W_region ?_
                            refine Ops_p (p_move rfl) (lt_dec rfl) ?_
                            refine Ops_p (p_add rfl rfl (by exact ⟨(by first | omega | (dsimp only; omega)), (by first | omega | (dsimp only; omega))⟩)) (lt_dec rfl) ?_
                            refine Ops_p (p_assign rfl) (lt_dec rfl) ?_
                            refine Ops_nil ?_
                            refine Exists.intro (q + 1, (fun x => if x = 9 * (at2 T i p).toNat + (at2 T i q).toNat then at2 T i (3 - p - q) else f3 x)) (And.intro ?_ (And.intro ?_ ?_))
                            · first | (have hqp : q = p := (by omega); subst hqp; exact ⟨by show _ ≤ _; omega, hM3.diag, hU3.diag⟩) | exact ⟨by show _ ≤ _; omega, hM3.set hv.2 hV (by omega) (by omega) (by omega) (hV.rng (by omega)).1, hU3.step hmi⟩
                            · show _ < _; omega
                            · exact Wk.intro (.cons rfl (by first | rfl | exact veq_int (by first | omega | (dsimp only; omega))) (.cons rfl (by first | rfl | exact veq_int (by first | omega | (dsimp only; omega))) (.cons rfl (by first | rfl | exact veq_int (by first | omega | (dsimp only; omega))) (.cons rfl (by first | rfl | exact veq_int (by first | omega | (dsimp only; omega))) (.cons rfl (by first | rfl | exact veq_int (by first | omega | (dsimp only; omega))) (.cons rfl (by first | rfl | exact veq_int (by first | omega | (dsimp only; omega))) (.cons rfl (by first | rfl | exact veq_int (by first | omega | (dsimp only; omega))) (.cons rfl (by first | rfl | exact veq_int (by first | omega | (dsimp only; omega))) (.cons rfl (by first | rfl | exact veq_int (by first | omega | (dsimp only; omega))) (.cons rfl (by first | rfl | exact veq_int (by first | omega | (dsimp only; omega))) (.cons rfl (by first | rfl | exact veq_int (by first | omega | (dsimp only; omega))) (.cons rfl (by first | rfl | exact veq_int (by first | omega | (dsimp only; omega))) (.cons rfl (by first | rfl | exact veq_int (by first | omega | (dsimp only; omega))) (.cons rfl (by first | rfl | exact veq_int (by first | omega | (dsimp only; omega))) (.cons rfl (by first | rfl | exact veq_int (by first | omega | (dsimp only; omega))) (.cons rfl (by first | rfl | exact veq_int (by first | omega | (dsimp only; omega))) (.cons rfl (by first | rfl | exact veq_int (by first | omega | (dsimp only; omega))) (.cons rfl (by first | rfl | exact veq_int (by first | omega | (dsimp only; omega))) .nil)))))))))))))))))) (.keep rfl rfl (imp_var rfl rfl) (.keep rfl rfl (fun _ h => h) (.keep rfl rfl (fun _ h => h) .nil)))
                      · try simp only [bs] at h7
                        obtain rfl : q = 3 := (by omega)
                        refine W_exit ?_
                        refine W_region ?_
                        refine Ops_p (p_move rfl) (lt_dec rfl) ?_
                        refine Ops_p (p_add rfl rfl (by exact ⟨(by first | omega | (dsimp only; omega)), (by first | omega | (dsimp only; omega))⟩)) (lt_dec rfl) ?_
                        refine Ops_p (p_assign rfl) (lt_dec rfl) ?_
                        refine Ops_nil ?_
                        refine Exists.intro (p + 1, f3) (And.intro ?_ (And.intro ?_ ?_))
                        · exact ⟨by show _ ≤ _; omega, hM3.row, hU3.row⟩
                        · show _ < _; omega
                        · exact Wk.intro (.cons rfl (by first | rfl | exact veq_int (by first | omega | (dsimp only; omega))) (.cons rfl (by first | rfl | exact veq_int (by first | omega | (dsimp only; omega))) (.cons rfl (by first | rfl | exact veq_int (by first | omega | (dsimp only; omega))) (.cons rfl (by first | rfl | exact veq_int (by first | omega | (dsimp only; omega))) (.cons rfl (by first | rfl | exact veq_int (by first | omega | (dsimp only; omega))) (.cons rfl (by first | rfl | exact veq_int (by first | omega | (dsimp only; omega))) (.cons rfl (by first | rfl | exact veq_int (by first | omega | (dsimp only; omega))) (.cons rfl (by first | rfl | exact veq_int (by first | omega | (dsimp only; omega))) (.cons rfl (by first | rfl | exact veq_int (by first | omega | (dsimp only; omega))) (.cons rfl (by first | rfl | exact veq_int (by first | omega | (dsimp only; omega))) (.cons rfl (by first | rfl | exact veq_int (by first | omega | (dsimp only; omega))) (.cons rfl (by first | rfl | exact veq_int (by first | omega | (dsimp only; omega))) (.cons rfl (by first | rfl | exact veq_int (by first | omega | (dsimp only; omega))) (.cons rfl (by first | rfl | exact veq_int (by first | omega | (dsimp only; omega))) (.cons rfl (by first | rfl | exact veq_int (by first | omega | (dsimp only; omega))) (.cons rfl (by first | rfl | exact veq_int (by first | omega | (dsimp only; omega))) .nil)))))))))))))))) (.keep rfl rfl (fun _ h => h) (.keep rfl rfl (fun _ h => h) (.keep rfl rfl (fun _ h => h) .nil)))
                  · try simp only [bs] at h6
                    obtain rfl : p = 3 := (by omega)
                    refine W_exit ?_
                    refine W_region ?_
                    refine Ops_p (p_move rfl) (lt_dec rfl) ?_
                    refine Ops_p (p_add rfl rfl (by exact ⟨(by first | omega | (dsimp only; omega)), (by first | omega | (dsimp only; omega))⟩)) (lt_dec rfl) ?_
                    refine Ops_p (p_assign rfl) (lt_dec rfl) ?_
                    refine Ops_nil ?_
                    refine Exists.intro (i + 1, f2) (And.intro ?_ (And.intro ?_ ?_))
                    · exact ⟨by show _ ≤ _; omega, fun j hj => if e : j = i then e ▸ ⟨hV, hU2.all⟩ else hA j (by have hj : j < i + 1 := hj; omega), hM2.next⟩
                    · show _ < _; omega
                    · exact Wk.intro (.cons rfl (by first | rfl | exact veq_int (by first | omega | (dsimp only; omega))) (.cons rfl (by first | rfl | exact veq_int (by first | omega | (dsimp only; omega))) (.cons rfl (by first | rfl | exact veq_int (by first | omega | (dsimp only; omega))) (.cons rfl (by first | rfl | exact veq_int (by first | omega | (dsimp only; omega))) (.cons rfl (by first | rfl | exact veq_int (by first | omega | (dsimp only; omega))) (.cons rfl (by first | rfl | exact veq_int (by first | omega | (dsimp only; omega))) (.cons rfl (by first | rfl | exact veq_int (by first | omega | (dsimp only; omega))) (.cons rfl (by first | rfl | exact veq_int (by first | omega | (dsimp only; omega))) (.cons rfl (by first | rfl | exact veq_int (by first | omega | (dsimp only; omega))) (.cons rfl (by first | rfl | exact veq_int (by first | omega | (dsimp only; omega))) (.cons rfl (by first | rfl | exact veq_int (by first | omega | (dsimp only; omega))) .nil))))))))))) (.keep rfl rfl (fun _ h => h) (.keep rfl rfl (fun _ h => h) (.keep rfl rfl (fun _ h => h) .nil)))
            · try simp only [bs] at h4
              obtain rfl : i = T.length := (by omega)
              refine W_exit ?_
              refine W_seq ?_
              refine W_seq ?_
              refine W_region ?_
              refine Ops_p (p_assign rfl) (lt_dec rfl) ?_
              refine Ops_nil ?_
              refine W_block ?_
              refine W_loop (α := Nat) (fun x => ⟨[(0, .int .i64 v), (1, .raw a ha), (4, .ptr b4_1 0 none), (6, .ptr b6_1 0 none), (7, .int .i64 (9 : Int)), (9, .int .i64 (T.length : Int)), (13, .int .i64 (x : Int)), (15, .arr .i64 81 fun _ => 0), (16, .int .i64 (9 : Int)), (28, .int .i64 v), (32, .raw a ha), (33, .int .i64 ((T.length : Nat) : Int)), (37, .int .i64 (T.length : Int)), (38, .raw a ha), (39, .int .i64 ((T.length : Nat) : Int))], [.var b6_1 (.arr .i64 81 f), .var b4_1 (.arr .i64 81 fun _ => 0), rss a T]⟩) (fun x => x ≤ v.toNat ∧ ∀ a b, a < x → b < v.toNat → a ≠ b → us T T.length a b) (fun x => v.toNat - x) 0 ?_ ?_ ?_
              · exact ⟨by omega, fun a b h => by omega⟩
              · exact Wk.intro (.cons rfl (by first | rfl | exact veq_int (by first | omega | (dsimp only; omega))) (.cons rfl (by first | rfl | exact veq_int (by first | omega | (dsimp only; omega))) (.cons rfl (by first | rfl | exact veq_int (by first | omega | (dsimp only; omega))) (.cons rfl (by first | rfl | exact veq_int (by first | omega | (dsimp only; omega))) (.cons rfl (by first | rfl | exact veq_int (by first | omega | (dsimp only; omega))) (.cons rfl (by first | rfl | exact veq_int (by first | omega | (dsimp only; omega))) (.cons rfl (by first | rfl | exact veq_int (by first | omega | (dsimp only; omega))) (.cons rfl (by first | rfl | exact veq_int (by first | omega | (dsimp only; omega))) (.cons rfl (by first | rfl | exact veq_int (by first | omega | (dsimp only; omega))) (.cons rfl (by first | rfl | exact veq_int (by first | omega | (dsimp only; omega))) (.cons rfl (by first | rfl | exact veq_int (by first | omega | (dsimp only; omega))) (.cons rfl (by first | rfl | exact veq_int (by first | omega | (dsimp only; omega))) (.cons rfl (by first | rfl | exact veq_int (by first | omega | (dsimp only; omega))) (.cons rfl (by first | rfl | exact veq_int (by first | omega | (dsimp only; omega))) (.cons rfl (by first | rfl | exact veq_int (by first | omega | (dsimp only; omega))) .nil))))))))))))))) (.keep rfl rfl (fun _ h => h) (.keep rfl rfl (fun _ h => h) (.keep rfl rfl (fun _ h => h) .nil)))
              · rintro x ⟨hx, hC⟩
                refine W_seq ?_
                refine W_seq ?_
                refine W_region ?_
                refine Ops_p (p_move rfl) (lt_dec rfl) ?_
                refine Ops_p (p_move rfl) (lt_dec rfl) ?_
                refine Ops_p (p_lss rfl rfl) (lt_dec rfl) ?_
                refine Ops_nil ?_
                refine W_cond rfl (fun h10 => ?_) (fun h10 => ?_)
                · try simp only [bs] at h10
                  refine W_skip ?_
                  refine W_seq ?_
                  refine W_block ?_
                  refine W_seq ?_
                  refine W_region ?_
                  refine Ops_p (p_assign rfl) (lt_dec rfl) ?_
                  refine Ops_nil ?_
                  refine W_block ?_
                  refine W_loop (α := Nat) (fun y => ⟨[(0, .int .i64 v), (1, .raw a ha), (4, .ptr b4_1 0 none), (6, .ptr b6_1 0 none), (7, .int .i64 (9 : Int)), (9, .int .i64 (T.length : Int)), (13, .int .i64 (x : Int)), (14, .int .i64 (y : Int)), (15, .arr .i64 81 fun _ => 0), (16, .int .i64 (9 : Int)), (28, .int .i64 v), (32, .raw a ha), (33, .int .i64 ((T.length : Nat) : Int)), (37, .int .i64 (T.length : Int)), (38, .raw a ha), (39, .int .i64 ((T.length : Nat) : Int)), (137, .int .i64 (x : Int)), (138, .int .i64 v)], [.var b6_1 (.arr .i64 81 f), .var b4_1 (.arr .i64 81 fun _ => 0), rss a T]⟩) (fun y => y ≤ v.toNat ∧ ∀ b, b < y → x ≠ b → us T T.length x b) (fun y => v.toNat - y) 0 ?_ ?_ ?_
                  · exact ⟨by omega, fun b h => by omega⟩
                  · exact Wk.intro (.cons rfl (by first | rfl | exact veq_int (by first | omega | (dsimp only; omega))) (.cons rfl (by first | rfl | exact veq_int (by first | omega | (dsimp only; omega))) (.cons rfl (by first | rfl | exact veq_int (by first | omega | (dsimp only; omega))) (.cons rfl (by first | rfl | exact veq_int (by first | omega | (dsimp only; omega))) (.cons rfl (by first | rfl | exact veq_int (by first | omega | (dsimp only; omega))) (.cons rfl (by first | rfl | exact veq_int (by first | omega | (dsimp only; omega))) (.cons rfl (by first | rfl | exact veq_int (by first | omega | (dsimp only; omega))) (.cons rfl (by first | rfl | exact veq_int (by first | omega | (dsimp only; omega))) (.cons rfl (by first | rfl | exact veq_int (by first | omega | (dsimp only; omega))) (.cons rfl (by first | rfl | exact veq_int (by first | omega | (dsimp only; omega))) (.cons rfl (by first | rfl | exact veq_int (by first | omega | (dsimp only; omega))) (.cons rfl (by first | rfl | exact veq_int (by first | omega | (dsimp only; omega))) (.cons rfl (by first | rfl | exact veq_int (by first | omega | (dsimp only; omega))) (.cons rfl (by first | rfl | exact veq_int (by first | omega | (dsimp only; omega))) (.cons rfl (by first | rfl | exact veq_int (by first | omega | (dsimp only; omega))) (.cons rfl (by first | rfl | exact veq_int (by first | omega | (dsimp only; omega))) (.cons rfl (by first | rfl | exact veq_int (by first | omega | (dsimp only; omega))) (.cons rfl (by first | rfl | exact veq_int (by first | omega | (dsimp only; omega))) .nil)))))))))))))))))) (.keep rfl rfl (fun _ h => h) (.keep rfl rfl (fun _ h => h) (.keep rfl rfl (fun _ h => h) .nil)))
                  · rintro y ⟨hy, hD⟩
                    refine W_seq ?_
                    refine W_seq ?_
                    refine W_region ?_
                    refine Ops_p (p_move rfl) (lt_dec rfl) ?_
                    refine Ops_p (p_move rfl) (lt_dec rfl) ?_
                    refine Ops_p (p_lss rfl rfl) (lt_dec rfl) ?_
                    refine Ops_nil ?_
                    refine W_cond rfl (fun h11 => ?_) (fun h11 => ?_)
                    · try simp only [bs] at h11
                      refine W_skip ?_
                      refine W_seq ?_
                      refine W_block ?_
                      refine W_seq ?_
                      refine W_region ?_
                      refine Ops_p (p_move rfl) (lt_dec rfl) ?_
                      refine Ops_p (p_move rfl) (lt_dec rfl) ?_
                      refine Ops_p (p_neq rfl rfl) (lt_dec rfl) ?_
                      refine Ops_p (p_move rfl) (lt_dec rfl) ?_
                      refine Ops_guard rfl rfl (lt_dec rfl) (fun hg159 => ?_) (fun hg159 => ?_)
                      · try simp only [bs] at hg159
                        refine Ops_p (p_move rfl) (lt_dec rfl) ?_
                        refine Ops_guard_t rfl rfl (lt_dec rfl) ?_
                        refine Ops_p (p_move rfl) (lt_dec rfl) ?_
                        refine Ops_guard_t rfl rfl (lt_dec rfl) ?_
                        refine Ops_p (p_ixN 9 _ rfl rfl rfl rfl rfl rfl (by first | (first | omega | (dsimp only; omega)) | exact Fin.isLt _)) (lt_dec rfl) ?_
                        refine Ops_guard_t rfl rfl (lt_dec rfl) ?_
                        first | refine Ops_p (p_ix1 _ rfl rfl rfl rfl rfl rfl (by first | (first | omega | (dsimp only; omega)) | exact Fin.isLt _)) (lt_dec rfl) ?_ | refine Ops_p (p_ix1s _ rfl rfl rfl rfl rfl rfl (by first | (first | omega | (dsimp only; omega)) | exact Fin.isLt _)) (lt_dec rfl) ?_
                        refine Ops_guard_t rfl rfl (lt_dec rfl) ?_
                        refine Ops_q (q_load rfl rfl m0 rfl (by first | exact True.intro | trivial | (first | omega | (dsimp only; omega)) | exact Fin.isLt _ | (dsimp only; omega))) (lt_dec rfl) ?_
                        refine Ops_guard_t rfl rfl (lt_dec rfl) ?_
                        refine Ops_p (p_lss rfl rfl) (lt_dec rfl) ?_
                        refine Ops_p (p_pick_t rfl rfl) (lt_dec rfl) ?_
                        refine Ops_nil ?_
                        refine W_cond rfl (fun h12 => ?_) (fun h12 => ?_)
                        · try simp only [bs] at h12
                          have hts : false = tsB T v := ts_c (x := x) (y := y) (by omega) (by omega) (by omega) (fun hu => by have := (hM.end (by omega) (by omega)).2 hu; omega)
                          refine W_seq ?_
                          refine W_region ?_
                          refine Ops_q (q_load rfl rfl m0 rfl (by first | exact True.intro | trivial | (first | omega | (dsimp only; omega)) | exact Fin.isLt _ | (dsimp only; omega))) (lt_dec rfl) ?_
                          refine Ops_x rfl (x_store rfl rfl rfl rfl rfl ((HpRep.head).tail) rfl (by first | trivial | (first | (first | omega | (dsimp only; omega)) | exact Fin.isLt _)) ?_)
                          refine Ops_p (p_assign rfl) (lt_dec rfl) ?_
                          refine Ops_nil ?_
                          refine W_ret ?_
                          refine Exists.intro _ (And.intro (.cons (.cell rfl rfl m1 rfl trivial) (.cons (.tmp rfl) .nil)) (Exists.intro f (And.intro ?_ (And.intro ?_ (And.intro .nil rfl)))))
                          · trivial
                          · first | exact veq_tup2 rfl (veq_bool hts) | exact veq_tup2 rfl (veq_bool (ts_n (by omega))) | exact veq_tup2 rfl (veq_bool (ts_v (i := i) (by omega) (fun hV => by have h1 := hV.len; have h2 := hV.a0; have h3 := hV.a1; have h4 := hV.a2; have h5 := hV.a3; unfold at2 at h2 h3 h4 h5; omega)))
                        · try simp only [bs] at h12
                          have hcov := (hM.end (x := x) (y := y) (by omega) (by omega)).1 (by omega)
                          refine W_skip ?_
                          refine W_region ?_
                          refine Ops_p (p_move rfl) (lt_dec rfl) ?_
                          refine Ops_p (p_add rfl rfl (by exact ⟨(by first | omega | (dsimp only; omega)), (by first | omega | (dsimp only; omega))⟩)) (lt_dec rfl) ?_
                          refine Ops_p (p_assign rfl) (lt_dec rfl) ?_
                          refine Ops_nil ?_
                          refine Exists.intro (y + 1) (And.intro ?_ (And.intro ?_ ?_))
                          · exact ⟨by omega, fun b h h1 => if e : b = y then by subst e; first | exact hcov | exact absurd (by omega) h1 else hD b (by omega) h1⟩
                          · show _ < _; omega
                          · exact Wk.intro (.cons rfl (by first | rfl | exact veq_int (by first | omega | (dsimp only; omega))) (.cons rfl (by first | rfl | exact veq_int (by first | omega | (dsimp only; omega))) (.cons rfl (by first | rfl | exact veq_int (by first | omega | (dsimp only; omega))) (.cons rfl (by first | rfl | exact veq_int (by first | omega | (dsimp only; omega))) (.cons rfl (by first | rfl | exact veq_int (by first | omega | (dsimp only; omega))) (.cons rfl (by first | rfl | exact veq_int (by first | omega | (dsimp only; omega))) (.cons rfl (by first | rfl | exact veq_int (by first | omega | (dsimp only; omega))) (.cons rfl (by first | rfl | exact veq_int (by first | omega | (dsimp only; omega))) (.cons rfl (by first | rfl | exact veq_int (by first | omega | (dsimp only; omega))) (.cons rfl (by first | rfl | exact veq_int (by first | omega | (dsimp only; omega))) (.cons rfl (by first | rfl | exact veq_int (by first | omega | (dsimp only; omega))) (.cons rfl (by first | rfl | exact veq_int (by first | omega | (dsimp only; omega))) (.cons rfl (by first | rfl | exact veq_int (by first | omega | (dsimp only; omega))) (.cons rfl (by first | rfl | exact veq_int (by first | omega | (dsimp only; omega))) (.cons rfl (by first | rfl | exact veq_int (by first | omega | (dsimp only; omega))) (.cons rfl (by first | rfl | exact veq_int (by first | omega | (dsimp only; omega))) (.cons rfl (by first | rfl | exact veq_int (by first | omega | (dsimp only; omega))) (.cons rfl (by first | rfl | exact veq_int (by first | omega | (dsimp only; omega))) .nil)))))))))))))))))) (.keep rfl rfl (fun _ h => h) (.keep rfl rfl (fun _ h => h) (.keep rfl rfl (fun _ h => h) .nil)))
                      · try simp only [bs] at hg159
                        refine Ops_guard_f rfl rfl rfl (lt_dec rfl) ?_
                        refine Ops_guard_f rfl rfl rfl (lt_dec rfl) ?_
                        refine Ops_guard_f rfl rfl rfl (lt_dec rfl) ?_
                        refine Ops_guard_f rfl rfl rfl (lt_dec rfl) ?_
                        refine Ops_guard_f rfl rfl rfl (lt_dec rfl) ?_
                        refine Ops_p (p_pick_f rfl rfl) (lt_dec rfl) ?_
                        refine Ops_nil ?_
                        refine W_false rfl ?_
                        refine W_skip ?_
                        refine W_region ?_
                        refine Ops_p (p_move rfl) (lt_dec rfl) ?_
                        refine Ops_p (p_add rfl rfl (by exact ⟨(by first | omega | (dsimp only; omega)), (by first | omega | (dsimp only; omega))⟩)) (lt_dec rfl) ?_
                        refine Ops_p (p_assign rfl) (lt_dec rfl) ?_
                        refine Ops_nil ?_
                        refine Exists.intro (y + 1) (And.intro ?_ (And.intro ?_ ?_))
                        · exact ⟨by omega, fun b h h1 => if e : b = y then by subst e; first | exact hcov | exact absurd (by omega) h1 else hD b (by omega) h1⟩
                        · show _ < _; omega
                        · exact Wk.intro (.cons rfl (by first | rfl | exact veq_int (by first | omega | (dsimp only; omega))) (.cons rfl (by first | rfl | exact veq_int (by first | omega | (dsimp only; omega))) (.cons rfl (by first | rfl | exact veq_int (by first | omega | (dsimp only; omega))) (.cons rfl (by first | rfl | exact veq_int (by first | omega | (dsimp only; omega))) (.cons rfl (by first | rfl | exact veq_int (by first | omega | (dsimp only; omega))) (.cons rfl (by first | rfl | exact veq_int (by first | omega | (dsimp only; omega))) (.cons rfl (by first | rfl | exact veq_int (by first | omega | (dsimp only; omega))) (.cons rfl (by first | rfl | exact veq_int (by first | omega | (dsimp only; omega))) (.cons rfl (by first | rfl | exact veq_int (by first | omega | (dsimp only; omega))) (.cons rfl (by first | rfl | exact veq_int (by first | omega | (dsimp only; omega))) (.cons rfl (by first | rfl | exact veq_int (by first | omega | (dsimp only; omega))) (.cons rfl (by first | rfl | exact veq_int (by first | omega | (dsimp only; omega))) (.cons rfl (by first | rfl | exact veq_int (by first | omega | (dsimp only; omega))) (.cons rfl (by first | rfl | exact veq_int (by first | omega | (dsimp only; omega))) (.cons rfl (by first | rfl | exact veq_int (by first | omega | (dsimp only; omega))) (.cons rfl (by first | rfl | exact veq_int (by first | omega | (dsimp only; omega))) (.cons rfl (by first | rfl | exact veq_int (by first | omega | (dsimp only; omega))) (.cons rfl (by first | rfl | exact veq_int (by first | omega | (dsimp only; omega))) .nil)))))))))))))))))) (.keep rfl rfl (fun _ h => h) (.keep rfl rfl (fun _ h => h) (.keep rfl rfl (fun _ h => h) .nil)))
                    · try simp only [bs] at h11
                      obtain rfl : y = v.toNat := (by omega)
                      refine W_exit ?_
                      refine W_region ?_
                      refine Ops_p (p_move rfl) (lt_dec rfl) ?_
                      refine Ops_p (p_add rfl rfl (by exact ⟨(by first | omega | (dsimp only; omega)), (by first | omega | (dsimp only; omega))⟩)) (lt_dec rfl) ?_
                      refine Ops_p (p_assign rfl) (lt_dec rfl) ?_
                      refine Ops_nil ?_
                      refine Exists.intro (x + 1) (And.intro ?_ (And.intro ?_ ?_))
                      · exact ⟨by omega, fun a b h h1 h2 => if e : a = x then e ▸ hD b h1 (e ▸ h2) else hC a b (by omega) h1 h2⟩
                      · show _ < _; omega
                      · exact Wk.intro (.cons rfl (by first | rfl | exact veq_int (by first | omega | (dsimp only; omega))) (.cons rfl (by first | rfl | exact veq_int (by first | omega | (dsimp only; omega))) (.cons rfl (by first | rfl | exact veq_int (by first | omega | (dsimp only; omega))) (.cons rfl (by first | rfl | exact veq_int (by first | omega | (dsimp only; omega))) (.cons rfl (by first | rfl | exact veq_int (by first | omega | (dsimp only; omega))) (.cons rfl (by first | rfl | exact veq_int (by first | omega | (dsimp only; omega))) (.cons rfl (by first | rfl | exact veq_int (by first | omega | (dsimp only; omega))) (.cons rfl (by first | rfl | exact veq_int (by first | omega | (dsimp only; omega))) (.cons rfl (by first | rfl | exact veq_int (by first | omega | (dsimp only; omega))) (.cons rfl (by first | rfl | exact veq_int (by first | omega | (dsimp only; omega))) (.cons rfl (by first | rfl | exact veq_int (by first | omega | (dsimp only; omega))) (.cons rfl (by first | rfl | exact veq_int (by first | omega | (dsimp only; omega))) (.cons rfl (by first | rfl | exact veq_int (by first | omega | (dsimp only; omega))) (.cons rfl (by first | rfl | exact veq_int (by first | omega | (dsimp only; omega))) (.cons rfl (by first | rfl | exact veq_int (by first | omega | (dsimp only; omega))) .nil))))))))))))))) (.keep rfl rfl (fun _ h => h) (.keep rfl rfl (fun _ h => h) (.keep rfl rfl (fun _ h => h) .nil)))
                · try simp only [bs] at h10
                  obtain rfl : x = v.toNat := (by omega)
                  have hts := ts_t (TSys.of hv hA hC)
                  refine W_exit ?_
                  refine W_seq ?_
                  refine W_region ?_
                  refine Ops_q (q_load rfl rfl m0 rfl (by first | exact True.intro | trivial | (first | omega | (dsimp only; omega)) | exact Fin.isLt _ | (dsimp only; omega))) (lt_dec rfl) ?_
                  refine Ops_x rfl (x_store rfl rfl rfl rfl rfl ((HpRep.head).tail) rfl (by first | trivial | (first | (first | omega | (dsimp only; omega)) | exact Fin.isLt _)) ?_)
                  refine Ops_p (p_assign rfl) (lt_dec rfl) ?_
                  refine Ops_nil ?_
                  refine W_ret ?_
                  refine Exists.intro _ (And.intro (.cons (.cell rfl rfl m1 rfl trivial) (.cons (.tmp rfl) .nil)) (Exists.intro f (And.intro ?_ (And.intro ?_ (And.intro .nil rfl)))))
                  · trivial
                  · first | exact veq_tup2 rfl (veq_bool hts) | exact veq_tup2 rfl (veq_bool (ts_n (by omega))) | exact veq_tup2 rfl (veq_bool (ts_v (i := i) (by omega) (fun hV => by have h1 := hV.len; have h2 := hV.a0; have h3 := hV.a1; have h4 := hV.a2; have h5 := hV.a3; unfold at2 at h2 h3 h4 h5; omega)))
      · try simp only [bs] at hg1
        refine Ops_guard_f rfl rfl rfl (lt_dec rfl) ?_
        refine Ops_guard_f rfl rfl rfl (lt_dec rfl) ?_
        refine Ops_p (p_pick_t rfl rfl) (lt_dec rfl) ?_
        refine Ops_nil ?_
        refine W_true rfl ?_
        refine W_seq ?_
        refine W_region ?_
        refine Ops_q (q_load rfl rfl m0 rfl (by first | exact True.intro | trivial | (first | omega | (dsimp only; omega)) | exact Fin.isLt _ | (dsimp only; omega))) (lt_dec rfl) ?_
        refine Ops_x rfl (x_store rfl rfl rfl rfl rfl ((HpRep.head).tail) rfl (by first | trivial | (first | (first | omega | (dsimp only; omega)) | exact Fin.isLt _)) ?_)
        refine Ops_p (p_assign rfl) (lt_dec rfl) ?_
        refine Ops_nil ?_
        refine W_ret ?_
        refine Exists.intro _ (And.intro (.cons (.cell rfl rfl m1 rfl trivial) (.cons (.tmp rfl) .nil)) (Exists.intro f1 (And.intro ?_ (And.intro ?_ (And.intro .nil rfl)))))
        · trivial
        · first | exact veq_tup2 rfl (veq_bool hts) | exact veq_tup2 rfl (veq_bool (ts_n (by omega))) | exact veq_tup2 rfl (veq_bool (ts_v (i := i) (by omega) (fun hV => by have h1 := hV.len; have h2 := hV.a0; have h3 := hV.a1; have h4 := hV.a2; have h5 := hV.a3; unfold at2 at h2 h3 h4 h5; omega)))
end Go.Proofs.Ytdcpggdbjllmpab
