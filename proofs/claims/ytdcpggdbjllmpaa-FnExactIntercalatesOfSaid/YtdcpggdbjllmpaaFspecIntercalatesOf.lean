/- What the Go function spec.IntercalatesOf does, shown of its loaded text; its conditions stand in the statement. -/
import Derived.Test.YtdcpggdbjllmpaaTy
import Derived.Test.YtdcpggdbjllmpaaFspecl01Is
import Derived.Test.YtdcpggdbjllmpaaFspecl09Square
import Derived.Test.YtdcpggdbjllmpaaGx12
import Derived.Test.YtdcpggdbjllmpaaGx20
import Derived.Test.YtdcpggdbjllmpaaGx28
import Derived.Test.YtdcpggdbjllmpaaM17
import Derived.Test.YtdcpggdbjllmpaaM35
namespace Go.Proofs.Ytdcpggdbjllmpaa
open Go Gx
set_option linter.unusedVariables false
theorem en_spec_IntercalatesOf : Enters Try.prog 28 := enters_of Try.func28 (by kernel_rfl) (by kernel_rfl)
set_option maxRecDepth 100000 in
set_option maxHeartbeats 1000000 in
theorem w_spec_IntercalatesOf {t : Nat → Fin 256} {n : Int}  : CT (X := V1 × SL) Try.prog 28 (vals [.agg [.int .i64 n, .arr8 100 t]]) [] [] (fun x => x.2.map (·.2) = icS n t) (fun x => .tup [.raw x.1.1 x.1.2, .int .i64 (bif isSq n t then 0 else 1)]) (fun x => [oss x.1.1 74 2 x.2]) := by
  refine CT_intro (rs := [.tmp 2, .tmp 3]) tt tok Try.func28 rfl rfl rfl (by first | rfl | assumption) fun w => ?_
  show W _ _ _ ⟨tmOf 0 [.agg [.int .i64 n, .arr8 100 t]], []⟩
  refine W_seq ?_
  refine W_region ?_
  refine Ops_x rfl (x_box rfl rfl (lt_dec rfl) fun b1_1 => ?_)
  refine Ops_p (p_assign rfl) (lt_dec rfl) ?_
  refine Ops_p (p_assign rfl) (lt_dec rfl) ?_
  refine Ops_nil ?_
  refine W_seq ?_
  refine W_seq ?_
  refine W_region ?_
  refine Ops_q (q_load rfl rfl m0 rfl (by first | trivial | (first | omega | (dsimp only; omega)) | exact Fin.isLt _ | (dsimp only; omega))) (lt_dec rfl) ?_
  refine Ops_q (q_call en_spec_l01Is rfl (w_spec_l01Is) (View.none _)) (lt_dec rfl) ?_
  refine Ops_p (p_not rfl) (lt_dec rfl) ?_
  refine Ops_nil ?_
  refine W_cond rfl (fun h1 => ?_) (fun h1 => ?_)
  · try simp only [bs] at h1
    have hp := h1
    refine W_seq ?_
    refine W_region ?_
    refine Ops_p (p_assign rfl) (lt_dec rfl) ?_
    refine Ops_p (p_assign rfl) (lt_dec rfl) ?_
    refine Ops_nil ?_
    refine W_ret ?_
    refine Exists.intro _ (And.intro (.cons (.tmp rfl) (.cons (.tmp rfl) .nil)) (Exists.intro (⟨.slice none 0 0, rfl⟩, []) (And.intro ?_ (And.intro ?_ (And.intro (.free rfl oss_nil .nil) rfl)))))
    · rw [icS_f hp]; rfl
    · rw [hp]; rfl
  · try simp only [bs] at h1
    have hp := h1; have hs := of_isSq hp; have hn := hs.1
    refine W_skip ?_
    refine W_cutE (fun E s' => ∃ b13 : Nat, (True) ∧ Wk E s' ⟨[(1, .ptr b1_1 0 none), (4, .raw (slv b13 0 0).1 (slv b13 0 0).2), (5, .int .i64 n)], [oss (slv b13 0 0).1 74 2 [], .var b1_1 (.agg [.int .i64 n, .arr8 100 t])]⟩) ?_ ?_
    · refine W_draw (by kernel_rfl) ?_
      show RA _ _ 5 _ _ _
      first | refine RA_take 1 rfl rfl rfl (by kernel_rfl) (by kernel_rfl) (by kernel_rfl) (p_fieldAddr rfl rfl rfl rfl rfl rfl) (lt_dec rfl) ?_
      refine RA_two 0 2 rfl rfl rfl rfl (by kernel_rfl) ?_ ?_
      · refine x_buildSlice rfl rfl rfl rfl rfl rfl rfl rfl (Nat.le_of_ble_eq_true rfl) (lt_dec rfl) fun b13_1 => ?_
        refine RA_quiet (g := 0) [2, 3, 4] (by kernel_rfl) (by kernel_rfl) (by kernel_rfl) (by kernel_rfl) ?_
        refine WQ_cons rfl rfl rfl ((q_load rfl rfl m1 rfl (by first | trivial | (first | omega | (dsimp only; omega)) | exact Fin.isLt _ | (dsimp only; omega)))) (lt_dec rfl) ?_
        refine WQ_cons rfl rfl rfl ((p_assign rfl).q) (lt_dec rfl) ?_
        refine WQ_cons rfl rfl rfl ((p_assign rfl).q) (lt_dec rfl) ?_
        refine WQ_nil ?_
        refine RA_done (by kernel_rfl) ?_
        refine ⟨b13_1, ?_, ?_⟩
        · trivial
        · exact Wk.intro (.cons rfl (by first | rfl | exact veq_int (by first | omega | (dsimp only; omega))) (.cons rfl (by first | rfl | exact veq_int (by first | omega | (dsimp only; omega))) (.cons rfl (by first | rfl | exact veq_int (by first | omega | (dsimp only; omega))) .nil))) (.keep rfl rfl (oss_of_row) (.keep rfl rfl (fun _ h => h) .nil))
      · refine Xt_of_Qt rfl (lt_dec rfl) ((q_load rfl rfl m0 rfl (by first | trivial | (first | omega | (dsimp only; omega)) | exact Fin.isLt _ | (dsimp only; omega)))) ?_
        refine RA_one 0 rfl rfl (by kernel_rfl) (x_buildSlice rfl rfl rfl rfl rfl rfl rfl rfl (Nat.le_of_ble_eq_true rfl) (lt_dec rfl) fun b13_2 => ?_)
        refine RA_quiet (g := 0) [3, 4] (by kernel_rfl) (by kernel_rfl) (by kernel_rfl) (by kernel_rfl) ?_
        refine WQ_cons rfl rfl rfl ((p_assign rfl).q) (lt_dec rfl) ?_
        refine WQ_cons rfl rfl rfl ((p_assign rfl).q) (lt_dec rfl) ?_
        refine WQ_nil ?_
        refine RA_done (by kernel_rfl) ?_
        refine ⟨b13_2, ?_, ?_⟩
        · trivial
        · exact Wk.intro (.cons rfl (by first | rfl | exact veq_int (by first | omega | (dsimp only; omega))) (.cons rfl (by first | rfl | exact veq_int (by first | omega | (dsimp only; omega))) (.cons rfl (by first | rfl | exact veq_int (by first | omega | (dsimp only; omega))) .nil))) (.keep rfl rfl (oss_of_row) (.keep rfl rfl (fun _ h => h) .nil))
    · rintro s' ⟨b13, _, hw⟩
      refine W_wk hw ?_
      clear hw s'
      refine W_seq ?_
      refine W_seq ?_
      refine W_region ?_
      refine Ops_p (p_assign rfl) (lt_dec rfl) ?_
      refine Ops_nil ?_
      refine W_block ?_
      refine W_loop (α := Nat × V1 × SL) (fun zz0 => ⟨[(1, .ptr b1_1 0 none), (4, .raw (zz0.2.1).1 (zz0.2.1).2), (5, .int .i64 n), (6, .int .i64 ((zz0.1) : Int))], [oss (zz0.2.1).1 74 2 (zz0.2.2), .var b1_1 (.agg [.int .i64 n, .arr8 100 t])]⟩) (fun zz0 => (zz0.1) ≤ n.toNat ∧ (zz0.2.2).map (·.2) = icP t n.toNat (zz0.1) 0 0 0) (fun zz0 => n.toNat - (zz0.1)) (0, slv b13 0 0, []) ?_ ?_ ?_
      · exact ⟨Nat.zero_le _, rfl⟩
      · exact Wk.intro (.cons rfl (by first | rfl | exact veq_int (by first | omega | (dsimp only; omega))) (.cons rfl (by first | rfl | exact veq_int (by first | omega | (dsimp only; omega))) (.cons rfl (by first | rfl | exact veq_int (by first | omega | (dsimp only; omega))) (.cons rfl (by first | rfl | exact veq_int (by first | omega | (dsimp only; omega))) .nil)))) (.keep rfl rfl (oss_eq rfl) (.keep rfl rfl (fun _ h => h) .nil))
      · rintro ⟨i, v1, D1⟩ ⟨hi, hD1⟩
        try dsimp only at *
        refine W_seq ?_
        refine W_seq ?_
        refine W_region ?_
        refine Ops_p (p_move rfl) (lt_dec rfl) ?_
        refine Ops_p (p_move rfl) (lt_dec rfl) ?_
        refine Ops_p (p_lss rfl rfl) (lt_dec rfl) ?_
        refine Ops_nil ?_
        refine W_cond rfl (fun h2 => ?_) (fun h2 => ?_)
        · try simp only [bs] at h2
          refine W_skip ?_
          refine W_seq ?_
          refine W_block ?_
          refine W_seq ?_
          refine W_region ?_
          refine Ops_p (p_move rfl) (lt_dec rfl) ?_
          refine Ops_p (p_add rfl rfl (by exact ⟨(by first | omega | (dsimp only; omega)), (by first | omega | (dsimp only; omega))⟩)) (lt_dec rfl) ?_
          refine Ops_p (p_assign rfl) (lt_dec rfl) ?_
          refine Ops_nil ?_
          refine W_block ?_
          refine W_loop (α := Nat × V1 × SL) (fun zz1 => ⟨[(1, .ptr b1_1 0 none), (4, .raw (zz1.2.1).1 (zz1.2.1).2), (5, .int .i64 n), (6, .int .i64 (i : Int)), (7, .int .i64 ((zz1.1) : Int)), (16, .int .i64 (i : Int)), (17, .int .i64 n), (21, .int .i64 (i : Int)), (22, .int .i64 ((i : Int) + 1))], [oss (zz1.2.1).1 74 2 (zz1.2.2), .var b1_1 (.agg [.int .i64 n, .arr8 100 t])]⟩) (fun zz1 => (i < (zz1.1) ∧ (zz1.1) ≤ n.toNat) ∧ (zz1.2.2).map (·.2) = icP t n.toNat i (zz1.1) 0 0) (fun zz1 => n.toNat - (zz1.1)) (i + 1, v1, D1) ?_ ?_ ?_
          · exact ⟨⟨Nat.lt_succ_self _, by show i + 1 ≤ _; omega⟩, hD1.trans icP_b1.symm⟩
          · exact Wk.intro (.cons rfl (by first | rfl | exact veq_int (by first | omega | (dsimp only; omega))) (.cons rfl (by first | rfl | exact veq_int (by first | omega | (dsimp only; omega))) (.cons rfl (by first | rfl | exact veq_int (by first | omega | (dsimp only; omega))) (.cons rfl (by first | rfl | exact veq_int (by first | omega | (dsimp only; omega))) (.cons rfl (by first | rfl | exact veq_int (by first | omega | (dsimp only; omega))) (.cons rfl (by first | rfl | exact veq_int (by first | omega | (dsimp only; omega))) (.cons rfl (by first | rfl | exact veq_int (by first | omega | (dsimp only; omega))) (.cons rfl (by first | rfl | exact veq_int (by first | omega | (dsimp only; omega))) (.cons rfl (by first | rfl | exact veq_int (by first | omega | (dsimp only; omega))) .nil))))))))) (.keep rfl rfl (oss_eq rfl) (.keep rfl rfl (fun _ h => h) .nil))
          · rintro ⟨j, v2, D2⟩ ⟨⟨hij, hj⟩, hD2⟩
            try dsimp only at *
            refine W_seq ?_
            refine W_seq ?_
            refine W_region ?_
            refine Ops_p (p_move rfl) (lt_dec rfl) ?_
            refine Ops_p (p_move rfl) (lt_dec rfl) ?_
            refine Ops_p (p_lss rfl rfl) (lt_dec rfl) ?_
            refine Ops_nil ?_
            refine W_cond rfl (fun h3 => ?_) (fun h3 => ?_)
            · try simp only [bs] at h3
              refine W_skip ?_
              refine W_seq ?_
              refine W_block ?_
              refine W_seq ?_
              refine W_region ?_
              refine Ops_p (p_assign rfl) (lt_dec rfl) ?_
              refine Ops_nil ?_
              refine W_block ?_
              refine W_loop (α := Nat × V1 × SL) (fun zz2 => ⟨[(1, .ptr b1_1 0 none), (4, .raw (zz2.2.1).1 (zz2.2.1).2), (5, .int .i64 n), (6, .int .i64 (i : Int)), (7, .int .i64 (j : Int)), (8, .int .i64 ((zz2.1) : Int)), (16, .int .i64 (i : Int)), (17, .int .i64 n), (21, .int .i64 (i : Int)), (22, .int .i64 ((i : Int) + 1)), (23, .int .i64 (j : Int)), (24, .int .i64 n)], [oss (zz2.2.1).1 74 2 (zz2.2.2), .var b1_1 (.agg [.int .i64 n, .arr8 100 t])]⟩) (fun zz2 => (zz2.1) ≤ n.toNat ∧ (zz2.2.2).map (·.2) = icP t n.toNat i j (zz2.1) 0) (fun zz2 => n.toNat - (zz2.1)) (0, v2, D2) ?_ ?_ ?_
              · exact ⟨Nat.zero_le _, hD2⟩
              · exact Wk.intro (.cons rfl (by first | rfl | exact veq_int (by first | omega | (dsimp only; omega))) (.cons rfl (by first | rfl | exact veq_int (by first | omega | (dsimp only; omega))) (.cons rfl (by first | rfl | exact veq_int (by first | omega | (dsimp only; omega))) (.cons rfl (by first | rfl | exact veq_int (by first | omega | (dsimp only; omega))) (.cons rfl (by first | rfl | exact veq_int (by first | omega | (dsimp only; omega))) (.cons rfl (by first | rfl | exact veq_int (by first | omega | (dsimp only; omega))) (.cons rfl (by first | rfl | exact veq_int (by first | omega | (dsimp only; omega))) (.cons rfl (by first | rfl | exact veq_int (by first | omega | (dsimp only; omega))) (.cons rfl (by first | rfl | exact veq_int (by first | omega | (dsimp only; omega))) (.cons rfl (by first | rfl | exact veq_int (by first | omega | (dsimp only; omega))) (.cons rfl (by first | rfl | exact veq_int (by first | omega | (dsimp only; omega))) (.cons rfl (by first | rfl | exact veq_int (by first | omega | (dsimp only; omega))) .nil)))))))))))) (.keep rfl rfl (oss_eq rfl) (.keep rfl rfl (fun _ h => h) .nil))
              · rintro ⟨k, v3, D3⟩ ⟨hk, hD3⟩
                try dsimp only at *
                refine W_seq ?_
                refine W_seq ?_
                refine W_region ?_
                refine Ops_p (p_move rfl) (lt_dec rfl) ?_
                refine Ops_p (p_move rfl) (lt_dec rfl) ?_
                refine Ops_p (p_lss rfl rfl) (lt_dec rfl) ?_
                refine Ops_nil ?_
                refine W_cond rfl (fun h4 => ?_) (fun h4 => ?_)
                · try simp only [bs] at h4
                  refine W_skip ?_
                  refine W_seq ?_
                  refine W_block ?_
                  refine W_seq ?_
                  refine W_region ?_
                  refine Ops_p (p_move rfl) (lt_dec rfl) ?_
                  refine Ops_p (p_add rfl rfl (by exact ⟨(by first | omega | (dsimp only; omega)), (by first | omega | (dsimp only; omega))⟩)) (lt_dec rfl) ?_
                  refine Ops_p (p_assign rfl) (lt_dec rfl) ?_
                  refine Ops_nil ?_
                  refine W_block ?_
                  refine W_loop (α := Nat × V1 × SL) (fun zz3 => ⟨[(1, .ptr b1_1 0 none), (4, .raw (zz3.2.1).1 (zz3.2.1).2), (5, .int .i64 n), (6, .int .i64 (i : Int)), (7, .int .i64 (j : Int)), (8, .int .i64 (k : Int)), (9, .int .i64 ((zz3.1) : Int)), (16, .int .i64 (i : Int)), (17, .int .i64 n), (21, .int .i64 (i : Int)), (22, .int .i64 ((i : Int) + 1)), (23, .int .i64 (j : Int)), (24, .int .i64 n), (28, .int .i64 (k : Int)), (29, .int .i64 n), (33, .int .i64 (k : Int)), (34, .int .i64 ((k : Int) + 1))], [oss (zz3.2.1).1 74 2 (zz3.2.2), .var b1_1 (.agg [.int .i64 n, .arr8 100 t])]⟩) (fun zz3 => (k < (zz3.1) ∧ (zz3.1) ≤ n.toNat) ∧ (zz3.2.2).map (·.2) = icP t n.toNat i j k (zz3.1)) (fun zz3 => n.toNat - (zz3.1)) (k + 1, v3, D3) ?_ ?_ ?_
                  · exact ⟨⟨Nat.lt_succ_self _, by show k + 1 ≤ _; omega⟩, hD3.trans icP_d1.symm⟩
                  · exact Wk.intro (.cons rfl (by first | rfl | exact veq_int (by first | omega | (dsimp only; omega))) (.cons rfl (by first | rfl | exact veq_int (by first | omega | (dsimp only; omega))) (.cons rfl (by first | rfl | exact veq_int (by first | omega | (dsimp only; omega))) (.cons rfl (by first | rfl | exact veq_int (by first | omega | (dsimp only; omega))) (.cons rfl (by first | rfl | exact veq_int (by first | omega | (dsimp only; omega))) (.cons rfl (by first | rfl | exact veq_int (by first | omega | (dsimp only; omega))) (.cons rfl (by first | rfl | exact veq_int (by first | omega | (dsimp only; omega))) (.cons rfl (by first | rfl | exact veq_int (by first | omega | (dsimp only; omega))) (.cons rfl (by first | rfl | exact veq_int (by first | omega | (dsimp only; omega))) (.cons rfl (by first | rfl | exact veq_int (by first | omega | (dsimp only; omega))) (.cons rfl (by first | rfl | exact veq_int (by first | omega | (dsimp only; omega))) (.cons rfl (by first | rfl | exact veq_int (by first | omega | (dsimp only; omega))) (.cons rfl (by first | rfl | exact veq_int (by first | omega | (dsimp only; omega))) (.cons rfl (by first | rfl | exact veq_int (by first | omega | (dsimp only; omega))) (.cons rfl (by first | rfl | exact veq_int (by first | omega | (dsimp only; omega))) (.cons rfl (by first | rfl | exact veq_int (by first | omega | (dsimp only; omega))) (.cons rfl (by first | rfl | exact veq_int (by first | omega | (dsimp only; omega))) .nil))))))))))))))))) (.keep rfl rfl (oss_eq rfl) (.keep rfl rfl (fun _ h => h) .nil))
                  · rintro ⟨q, v4, D4⟩ ⟨⟨hkq, hq⟩, hD4⟩
                    try dsimp only at *
                    refine W_seq ?_
                    refine W_seq ?_
                    refine W_region ?_
                    refine Ops_p (p_move rfl) (lt_dec rfl) ?_
                    refine Ops_p (p_move rfl) (lt_dec rfl) ?_
                    refine Ops_p (p_lss rfl rfl) (lt_dec rfl) ?_
                    refine Ops_nil ?_
                    refine W_cond rfl (fun h5 => ?_) (fun h5 => ?_)
                    · try simp only [bs] at h5
                      refine W_skip ?_
                      refine W_seq ?_
                      refine W_block ?_
                      refine W_seq ?_
                      refine W_region ?_
                      refine Ops_q (q_load rfl rfl m1 rfl (by first | trivial | (first | omega | (dsimp only; omega)) | exact Fin.isLt _ | (dsimp only; omega))) (lt_dec rfl) ?_
                      refine Ops_p (p_move rfl) (lt_dec rfl) ?_
                      refine Ops_p (p_move rfl) (lt_dec rfl) ?_
                      refine Ops_p (p_move rfl) (lt_dec rfl) ?_
                      refine Ops_p (p_move rfl) (lt_dec rfl) ?_
                      refine Ops_q (q_call en_spec_l09Square rfl (w_spec_l09Square (by omega) (by omega) (by omega) (by omega)) (View.none _)) (lt_dec rfl) ?_
                      refine Ops_nil ?_
                      refine W_cond rfl (fun h6 => ?_) (fun h6 => ?_)
                      · try simp only [bs] at h6
                        have hic := h6
                        refine W_region ?_
                        refine Ops_p (p_move rfl) (lt_dec rfl) ?_
                        refine Ops_p (p_move rfl) (lt_dec rfl) ?_
                        refine Ops_p (p_move rfl) (lt_dec rfl) ?_
                        refine Ops_p (p_move rfl) (lt_dec rfl) ?_
                        refine Ops_p (p_move rfl) (lt_dec rfl) ?_
                        refine Ops_x rfl (x_buildSlice rfl rfl rfl rfl rfl rfl rfl rfl (Nat.le_of_ble_eq_true rfl) (lt_dec rfl) fun b51_1 => ?_)
                        refine Ops_x rfl (x_buildSlice rfl rfl rfl rfl rfl rfl rfl rfl (Nat.le_of_ble_eq_true rfl) (lt_dec rfl) fun b52_1 => ?_)
                        refine Ops_x rfl (x_appendSS (u := (slv b51_1 4 4)) (li := [(i : Int), (j : Int), (k : Int), (q : Int)]) rfl rfl rfl rfl rfl rfl m0 (HpDels.cons ((HpDel.head).tail).tail (HpDels.cons (HpDel.head).tail HpDels.nil)) rfl rfl (own_of_row rfl rfl) (fun _ => (HpDels.cons (HpDel.head).tail HpDels.nil)) (by have h9 := icP_len (t := t) (m := n.toNat) (a := i) (b := j) (c := k) (d := q) (by omega) (by omega) (by omega) (by omega) (by omega); have h8 := congrArg List.length hD4; rw [List.length_map] at h8; first | omega | (dsimp only; omega)) (by have h9 := icP_len (t := t) (m := n.toNat) (a := i) (b := j) (c := k) (d := q) (by omega) (by omega) (by omega) (by omega) (by omega); have h8 := congrArg List.length hD4; rw [List.length_map] at h8; first | omega | (dsimp only; omega)) (lt_dec rfl) fun v53 => ?_)
                        refine Ops_p (p_assign rfl) (lt_dec rfl) ?_
                        refine Ops_nil ?_
                        refine W_region ?_
                        refine Ops_p (p_move rfl) (lt_dec rfl) ?_
                        refine Ops_p (p_add rfl rfl (by exact ⟨(by first | omega | (dsimp only; omega)), (by first | omega | (dsimp only; omega))⟩)) (lt_dec rfl) ?_
                        refine Ops_p (p_assign rfl) (lt_dec rfl) ?_
                        refine Ops_nil ?_
                        refine Exists.intro (q + 1, v53, (D4 ++ [((slv b51_1 4 4), [(i : Int), (j : Int), (k : Int), (q : Int)])])) (And.intro ?_ (And.intro ?_ ?_))
                        · first | exact ⟨⟨by show _ < _; omega, by show _ ≤ _; omega⟩, by rw [List.map_append, hD4]; exact (icP_y hkq hic).symm⟩ | exact ⟨⟨by show _ < _; omega, by show _ ≤ _; omega⟩, hD4.trans (icP_n (fun hh => by rw [hh.2] at hic; cases hic)).symm⟩
                        · show _ < _; omega
                        · exact Wk.intro (.cons rfl (by first | rfl | exact veq_int (by first | omega | (dsimp only; omega))) (.cons rfl (by first | rfl | exact veq_int (by first | omega | (dsimp only; omega))) (.cons rfl (by first | rfl | exact veq_int (by first | omega | (dsimp only; omega))) (.cons rfl (by first | rfl | exact veq_int (by first | omega | (dsimp only; omega))) (.cons rfl (by first | rfl | exact veq_int (by first | omega | (dsimp only; omega))) (.cons rfl (by first | rfl | exact veq_int (by first | omega | (dsimp only; omega))) (.cons rfl (by first | rfl | exact veq_int (by first | omega | (dsimp only; omega))) (.cons rfl (by first | rfl | exact veq_int (by first | omega | (dsimp only; omega))) (.cons rfl (by first | rfl | exact veq_int (by first | omega | (dsimp only; omega))) (.cons rfl (by first | rfl | exact veq_int (by first | omega | (dsimp only; omega))) (.cons rfl (by first | rfl | exact veq_int (by first | omega | (dsimp only; omega))) (.cons rfl (by first | rfl | exact veq_int (by first | omega | (dsimp only; omega))) (.cons rfl (by first | rfl | exact veq_int (by first | omega | (dsimp only; omega))) (.cons rfl (by first | rfl | exact veq_int (by first | omega | (dsimp only; omega))) (.cons rfl (by first | rfl | exact veq_int (by first | omega | (dsimp only; omega))) (.cons rfl (by first | rfl | exact veq_int (by first | omega | (dsimp only; omega))) (.cons rfl (by first | rfl | exact veq_int (by first | omega | (dsimp only; omega))) .nil))))))))))))))))) (.drop (.keep rfl rfl (oss_eq rfl) (.keep rfl rfl (fun _ h => h) .nil)))
                      · try simp only [bs] at h6
                        have hic := h6
                        refine W_skip ?_
                        refine W_region ?_
                        refine Ops_p (p_move rfl) (lt_dec rfl) ?_
                        refine Ops_p (p_add rfl rfl (by exact ⟨(by first | omega | (dsimp only; omega)), (by first | omega | (dsimp only; omega))⟩)) (lt_dec rfl) ?_
                        refine Ops_p (p_assign rfl) (lt_dec rfl) ?_
                        refine Ops_nil ?_
                        refine Exists.intro (q + 1, v4, D4) (And.intro ?_ (And.intro ?_ ?_))
                        · first | exact ⟨⟨by show _ < _; omega, by show _ ≤ _; omega⟩, by rw [List.map_append, hD4]; exact (icP_y hkq hic).symm⟩ | exact ⟨⟨by show _ < _; omega, by show _ ≤ _; omega⟩, hD4.trans (icP_n (fun hh => by rw [hh.2] at hic; cases hic)).symm⟩
                        · show _ < _; omega
                        · exact Wk.intro (.cons rfl (by first | rfl | exact veq_int (by first | omega | (dsimp only; omega))) (.cons rfl (by first | rfl | exact veq_int (by first | omega | (dsimp only; omega))) (.cons rfl (by first | rfl | exact veq_int (by first | omega | (dsimp only; omega))) (.cons rfl (by first | rfl | exact veq_int (by first | omega | (dsimp only; omega))) (.cons rfl (by first | rfl | exact veq_int (by first | omega | (dsimp only; omega))) (.cons rfl (by first | rfl | exact veq_int (by first | omega | (dsimp only; omega))) (.cons rfl (by first | rfl | exact veq_int (by first | omega | (dsimp only; omega))) (.cons rfl (by first | rfl | exact veq_int (by first | omega | (dsimp only; omega))) (.cons rfl (by first | rfl | exact veq_int (by first | omega | (dsimp only; omega))) (.cons rfl (by first | rfl | exact veq_int (by first | omega | (dsimp only; omega))) (.cons rfl (by first | rfl | exact veq_int (by first | omega | (dsimp only; omega))) (.cons rfl (by first | rfl | exact veq_int (by first | omega | (dsimp only; omega))) (.cons rfl (by first | rfl | exact veq_int (by first | omega | (dsimp only; omega))) (.cons rfl (by first | rfl | exact veq_int (by first | omega | (dsimp only; omega))) (.cons rfl (by first | rfl | exact veq_int (by first | omega | (dsimp only; omega))) (.cons rfl (by first | rfl | exact veq_int (by first | omega | (dsimp only; omega))) (.cons rfl (by first | rfl | exact veq_int (by first | omega | (dsimp only; omega))) .nil))))))))))))))))) (.keep rfl rfl (oss_eq rfl) (.keep rfl rfl (fun _ h => h) .nil))
                    · try simp only [bs] at h5
                      obtain rfl : q = n.toNat := (by omega)
                      refine W_exit ?_
                      refine W_region ?_
                      refine Ops_p (p_move rfl) (lt_dec rfl) ?_
                      refine Ops_p (p_add rfl rfl (by exact ⟨(by first | omega | (dsimp only; omega)), (by first | omega | (dsimp only; omega))⟩)) (lt_dec rfl) ?_
                      refine Ops_p (p_assign rfl) (lt_dec rfl) ?_
                      refine Ops_nil ?_
                      refine Exists.intro (k + 1, v4, D4) (And.intro ?_ (And.intro ?_ ?_))
                      · exact ⟨by show _ ≤ _; omega, hD4.trans icP_d.symm⟩
                      · show _ < _; omega
                      · exact Wk.intro (.cons rfl (by first | rfl | exact veq_int (by first | omega | (dsimp only; omega))) (.cons rfl (by first | rfl | exact veq_int (by first | omega | (dsimp only; omega))) (.cons rfl (by first | rfl | exact veq_int (by first | omega | (dsimp only; omega))) (.cons rfl (by first | rfl | exact veq_int (by first | omega | (dsimp only; omega))) (.cons rfl (by first | rfl | exact veq_int (by first | omega | (dsimp only; omega))) (.cons rfl (by first | rfl | exact veq_int (by first | omega | (dsimp only; omega))) (.cons rfl (by first | rfl | exact veq_int (by first | omega | (dsimp only; omega))) (.cons rfl (by first | rfl | exact veq_int (by first | omega | (dsimp only; omega))) (.cons rfl (by first | rfl | exact veq_int (by first | omega | (dsimp only; omega))) (.cons rfl (by first | rfl | exact veq_int (by first | omega | (dsimp only; omega))) (.cons rfl (by first | rfl | exact veq_int (by first | omega | (dsimp only; omega))) (.cons rfl (by first | rfl | exact veq_int (by first | omega | (dsimp only; omega))) .nil)))))))))))) (.keep rfl rfl (oss_eq rfl) (.keep rfl rfl (fun _ h => h) .nil))
                · try simp only [bs] at h4
                  obtain rfl : k = n.toNat := (by omega)
                  refine W_exit ?_
                  refine W_region ?_
                  refine Ops_p (p_move rfl) (lt_dec rfl) ?_
                  refine Ops_p (p_add rfl rfl (by exact ⟨(by first | omega | (dsimp only; omega)), (by first | omega | (dsimp only; omega))⟩)) (lt_dec rfl) ?_
                  refine Ops_p (p_assign rfl) (lt_dec rfl) ?_
                  refine Ops_nil ?_
                  refine Exists.intro (j + 1, v3, D3) (And.intro ?_ (And.intro ?_ ?_))
                  · exact ⟨⟨by show _ < _; omega, by show _ ≤ _; omega⟩, hD3.trans (icP_c hij).symm⟩
                  · show _ < _; omega
                  · exact Wk.intro (.cons rfl (by first | rfl | exact veq_int (by first | omega | (dsimp only; omega))) (.cons rfl (by first | rfl | exact veq_int (by first | omega | (dsimp only; omega))) (.cons rfl (by first | rfl | exact veq_int (by first | omega | (dsimp only; omega))) (.cons rfl (by first | rfl | exact veq_int (by first | omega | (dsimp only; omega))) (.cons rfl (by first | rfl | exact veq_int (by first | omega | (dsimp only; omega))) (.cons rfl (by first | rfl | exact veq_int (by first | omega | (dsimp only; omega))) (.cons rfl (by first | rfl | exact veq_int (by first | omega | (dsimp only; omega))) (.cons rfl (by first | rfl | exact veq_int (by first | omega | (dsimp only; omega))) (.cons rfl (by first | rfl | exact veq_int (by first | omega | (dsimp only; omega))) .nil))))))))) (.keep rfl rfl (oss_eq rfl) (.keep rfl rfl (fun _ h => h) .nil))
            · try simp only [bs] at h3
              obtain rfl : j = n.toNat := (by omega)
              refine W_exit ?_
              refine W_region ?_
              refine Ops_p (p_move rfl) (lt_dec rfl) ?_
              refine Ops_p (p_add rfl rfl (by exact ⟨(by first | omega | (dsimp only; omega)), (by first | omega | (dsimp only; omega))⟩)) (lt_dec rfl) ?_
              refine Ops_p (p_assign rfl) (lt_dec rfl) ?_
              refine Ops_nil ?_
              refine Exists.intro (i + 1, v2, D2) (And.intro ?_ (And.intro ?_ ?_))
              · exact ⟨by show _ ≤ _; omega, hD2.trans icP_b.symm⟩
              · show _ < _; omega
              · exact Wk.intro (.cons rfl (by first | rfl | exact veq_int (by first | omega | (dsimp only; omega))) (.cons rfl (by first | rfl | exact veq_int (by first | omega | (dsimp only; omega))) (.cons rfl (by first | rfl | exact veq_int (by first | omega | (dsimp only; omega))) (.cons rfl (by first | rfl | exact veq_int (by first | omega | (dsimp only; omega))) .nil)))) (.keep rfl rfl (oss_eq rfl) (.keep rfl rfl (fun _ h => h) .nil))
        · try simp only [bs] at h2
          obtain rfl : i = n.toNat := (by omega)
          refine W_exit ?_
          refine W_seq ?_
          refine W_region ?_
          refine Ops_p (p_move rfl) (lt_dec rfl) ?_
          refine Ops_p (p_assign rfl) (lt_dec rfl) ?_
          refine Ops_p (p_assign rfl) (lt_dec rfl) ?_
          refine Ops_nil ?_
          refine W_ret ?_
          refine Exists.intro _ (And.intro (.cons (.tmp rfl) (.cons (.tmp rfl) .nil)) (Exists.intro (v1, D1) (And.intro ?_ (And.intro ?_ (And.intro (.cons HpDel.head rfl (oss_eq rfl) .nil) rfl)))))
          · rw [icS_t hp]; exact hD1.trans icP_end
          · rw [hp]; rfl
end Go.Proofs.Ytdcpggdbjllmpaa
