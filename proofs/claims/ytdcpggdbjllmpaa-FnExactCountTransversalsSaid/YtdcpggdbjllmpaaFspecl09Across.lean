/- What the Go function spec.l09Across does, shown of its loaded text; its conditions stand in the statement. -/
import Derived.Test.YtdcpggdbjllmpaaTy
import Derived.Test.YtdcpggdbjllmpaaGx12
import Derived.Test.YtdcpggdbjllmpaaGx27
import Derived.Test.YtdcpggdbjllmpaaGx28
import Derived.Test.YtdcpggdbjllmpaaM36
namespace Go.Proofs.Ytdcpggdbjllmpaa
open Go Gx
set_option linter.unusedVariables false
theorem en_spec_l09Across : Enters Try.prog 93 := enters_of Try.func93 (by kernel_rfl) (by kernel_rfl)
set_option maxRecDepth 100000 in
set_option maxHeartbeats 4000000 in
theorem w_spec_l09Across_all {t : Nat → Fin 256} {n : Int} : ∀ (mm : Nat) (x : Nat) (pp : Nat → Fin 256) (c e : Nat → Bool) (v : Value) (hv : v.oneCell' = true) (l : List (Nat → Fin 256)), (SqP n t) → (x ≤ n.toNat) → (((l.length + (tvX t n.toNat x c e) : Nat) : Int) ≤ 999999) → n.toNat - x < mm → CT (X := V1 × List (Nat → Fin 256)) Try.prog 93 (vals [.agg [.int .i64 n, .arr8 100 t], .arr8 10 pp, .int .i64 (x : Int), .barr 10 c, .barr 10 e, .int .i64 1000000, .raw v hv]) [own v 84 (.arrs 10 l)] [] (fun z => z.2.length = l.length + (tvX t n.toNat x c e)) (fun z => .raw z.1.1 z.1.2) (fun z => [own z.1.1 84 (.arrs 10 z.2)]) := by
  intro mm
  induction mm with
  | zero => intro x pp c e v hv l hs hx hb hmm; exact absurd hmm (Nat.not_lt_zero _)
  | succ mm ih =>
  intro x pp c e v hv l hs hx hb hmm
  refine CT_intro (rs := [.tmp 14]) tt tok Try.func93 rfl rfl rfl (by first | rfl | assumption) fun w => ?_
  show W _ _ _ ⟨tmOf 0 [.agg [.int .i64 n, .arr8 100 t], .arr8 10 pp, .int .i64 (x : Int), .barr 10 c, .barr 10 e, .int .i64 1000000, .raw v hv], [own v 84 (.arrs 10 l)]⟩
  have hn := hs.1
  refine W_seq ?_
  refine W_region ?_
  refine Ops_x rfl (x_box rfl rfl (lt_dec rfl) fun b7_1 => ?_)
  refine Ops_x rfl (x_box rfl rfl (lt_dec rfl) fun b8_1 => ?_)
  refine Ops_x rfl (x_box rfl rfl (lt_dec rfl) fun b10_1 => ?_)
  refine Ops_x rfl (x_box rfl rfl (lt_dec rfl) fun b11_1 => ?_)
  refine Ops_p (p_assign rfl) (lt_dec rfl) ?_
  refine Ops_nil ?_
  refine W_seq ?_
  refine W_seq ?_
  refine W_region ?_
  refine Ops_p (p_move rfl) (lt_dec rfl) ?_
  refine Ops_p (p_fieldAddr rfl rfl rfl rfl rfl rfl) (lt_dec rfl) ?_
  refine Ops_q (q_load rfl rfl m3 rfl (by first | exact True.intro | trivial | (first | omega | (dsimp only; omega)) | exact Fin.isLt _ | (dsimp only; omega))) (lt_dec rfl) ?_
  refine Ops_p (p_eql rfl rfl) (lt_dec rfl) ?_
  refine Ops_nil ?_
  refine W_cond rfl (fun h1 => ?_) (fun h1 => ?_)
  · try simp only [bs] at h1
    obtain rfl : x = n.toNat := (by omega)
    refine W_seq ?_
    refine W_region ?_
    refine Ops_p (p_move rfl) (lt_dec rfl) ?_
    refine Ops_q (q_load rfl rfl m2 rfl (by first | exact True.intro | trivial | (first | omega | (dsimp only; omega)) | exact Fin.isLt _ | (dsimp only; omega))) (lt_dec rfl) ?_
    refine Ops_x rfl (x_buildSlice rfl rfl rfl rfl rfl rfl rfl rfl (Nat.le_of_ble_eq_true rfl) (lt_dec rfl) fun b25_1 => ?_)
    refine Ops_x rfl (x_appendO (r := .arrs 10 l) (r2 := .arrs 10 [pp]) (q := .arrs 10 (l ++ [pp])) rfl rfl rfl rfl rfl rfl (Rds.row m0 rfl) rfl (by show 0 < 1; omega) rfl (HpDels.cons (((((HpDel.head).tail).tail).tail).tail).tail HpDels.nil) (fun _ => (HpDels.cons (((((HpDel.head).tail).tail).tail).tail).tail HpDels.nil)) (by dsimp only; have h9 : (Rw.arrs 10 l).len = l.length := rfl; rw [h9]; show (l.length + 1) * _ ≤ _; omega) (by have h9 : (Rw.arrs 10 l).len = l.length := rfl; rw [h9]; show l.length + 1 ≤ _; omega) (lt_dec rfl) fun v26 => ?_)
    refine Ops_p (p_assign rfl) (lt_dec rfl) ?_
    refine Ops_nil ?_
    refine W_ret ?_
    refine Exists.intro _ (And.intro (.cons (.tmp rfl) .nil) (Exists.intro (v26, l ++ [pp]) (And.intro ?_ (And.intro ?_ (And.intro (.cons (((((HpDel.head).tail).tail).tail).tail).tail rfl (own_eq rfl) .nil) rfl)))))
    · rw [tvX_end]; simp
    · rfl
  · try simp only [bs] at h1
    have hxl : x < n.toNat := (by omega)
    refine W_skip ?_
    refine W_seq ?_
    refine W_seq ?_
    refine W_region ?_
    refine Ops_p (p_assign rfl) (lt_dec rfl) ?_
    refine Ops_nil ?_
    refine W_block ?_
    refine W_loop (α := Nat × V1 × List (Nat → Fin 256) × (Nat → Fin 256)) (fun zz0 => ⟨[(2, .int .i64 (x : Int)), (5, .int .i64 1000000), (6, .raw (zz0.2.1).1 (zz0.2.1).2), (7, .ptr b7_1 0 none), (8, .ptr b8_1 0 none), (10, .ptr b10_1 0 none), (11, .ptr b11_1 0 none), (15, .int .i64 ((zz0.1) : Int))], [.var b11_1 (.barr 10 e), .var b10_1 (.barr 10 c), .var b8_1 (.arr8 10 (zz0.2.2.2)), .var b7_1 (.agg [.int .i64 n, .arr8 100 t]), own (zz0.2.1).1 84 (.arrs 10 (zz0.2.2.1))]⟩) (fun zz0 => (zz0.1) ≤ n.toNat ∧ (zz0.2.2.1).length = l.length + sumN (tvG t n.toNat x c e) (zz0.1)) (fun zz0 => n.toNat - (zz0.1)) (0, ⟨v, hv⟩, l, pp) ?_ ?_ ?_
    · exact ⟨Nat.zero_le _, rfl⟩
    · exact Wk.intro (.cons rfl (by first | rfl | exact veq_int (by first | omega | (dsimp only; omega))) (.cons rfl (by first | rfl | exact veq_int (by first | omega | (dsimp only; omega))) (.cons rfl (by first | rfl | exact veq_int (by first | omega | (dsimp only; omega))) (.cons rfl (by first | rfl | exact veq_int (by first | omega | (dsimp only; omega))) (.cons rfl (by first | rfl | exact veq_int (by first | omega | (dsimp only; omega))) (.cons rfl (by first | rfl | exact veq_int (by first | omega | (dsimp only; omega))) (.cons rfl (by first | rfl | exact veq_int (by first | omega | (dsimp only; omega))) (.cons rfl (by first | rfl | exact veq_int (by first | omega | (dsimp only; omega))) .nil)))))))) (.keep rfl rfl (fun _ h => h) (.keep rfl rfl (fun _ h => h) (.keep rfl rfl (imp_var rfl rfl) (.keep rfl rfl (fun _ h => h) (.keep rfl rfl (own_eq rfl) .nil)))))
    · rintro ⟨y, vv, ll, pq⟩ ⟨hy, hll⟩
      try dsimp only at *
      refine W_seq ?_
      refine W_seq ?_
      have htv := tvX_step (t := t) (c := c) (e := e) hxl
      have hsm := Int.ofNat_le.2 (sumN_le (tvG t n.toNat x c e) (m := y) (k := n.toNat) hy)
      refine W_region ?_
      refine Ops_p (p_move rfl) (lt_dec rfl) ?_
      refine Ops_p (p_fieldAddr rfl rfl rfl rfl rfl rfl) (lt_dec rfl) ?_
      refine Ops_q (q_load rfl rfl m3 rfl (by first | exact True.intro | trivial | (first | omega | (dsimp only; omega)) | exact Fin.isLt _ | (dsimp only; omega))) (lt_dec rfl) ?_
      refine Ops_p (p_lss rfl rfl) (lt_dec rfl) ?_
      refine Ops_p (p_move rfl) (lt_dec rfl) ?_
      refine Ops_guard rfl rfl (lt_dec rfl) (fun hg1 => ?_) (fun hg1 => ?_)
      · try simp only [bs] at hg1
        refine Ops_p (p_move rfl) (lt_dec rfl) ?_
        refine Ops_guard_t rfl rfl (lt_dec rfl) ?_
        refine Ops_q ((q_lenR rfl rfl rfl (Rds.own m4)).eq (d' := .int .i64 ((ll.length : Nat) : Int)) rfl) (lt_dec rfl) ?_
        refine Ops_guard_t rfl rfl (lt_dec rfl) ?_
        refine Ops_p (p_move rfl) (lt_dec rfl) ?_
        refine Ops_guard_t rfl rfl (lt_dec rfl) ?_
        refine Ops_p (p_lss rfl rfl) (lt_dec rfl) ?_
        refine Ops_p (p_pick_t rfl rfl) (lt_dec rfl) ?_
        refine Ops_nil ?_
        refine W_cond rfl (fun h2 => ?_) (fun h2 => ?_)
        · try simp only [bs] at h2
          replace h2 : (ll.length : Int) ≤ 999999 := (by omega)
          refine W_skip ?_
          refine W_seq ?_
          refine W_block ?_
          refine W_seq ?_
          have hsl := Int.ofNat_le.2 (sumN_at (tvG t n.toNat x c e) (y := y) (m := n.toNat) (by omega))
          have hvl := sq_lt hs (x := x) (y := y) (by omega) (by omega)
          refine W_region ?_
          refine Ops_p (p_move rfl) (lt_dec rfl) ?_
          refine Ops_p (p_move rfl) (lt_dec rfl) ?_
          refine Ops_p (p_fieldAddr rfl rfl rfl rfl rfl rfl) (lt_dec rfl) ?_
          refine Ops_p (p_ixN 10 _ rfl rfl rfl rfl rfl rfl (by first | (first | omega | (dsimp only; omega)) | exact Fin.isLt _)) (lt_dec rfl) ?_
          first | refine Ops_p (p_ix1 _ rfl rfl rfl rfl rfl rfl (by first | (first | omega | (dsimp only; omega)) | exact Fin.isLt _)) (lt_dec rfl) ?_ | refine Ops_p (p_ix1s _ rfl rfl rfl rfl rfl rfl (by first | (first | omega | (dsimp only; omega)) | exact Fin.isLt _)) (lt_dec rfl) ?_
          refine Ops_q (q_load rfl rfl m3 rfl (by first | exact True.intro | trivial | (first | omega | (dsimp only; omega)) | exact Fin.isLt _ | (dsimp only; omega))) (lt_dec rfl) ?_
          refine Ops_p (p_assign rfl) (lt_dec rfl) ?_
          refine Ops_nil ?_
          refine W_seq ?_
          refine W_seq ?_
          refine W_region ?_
          refine Ops_p (p_move rfl) (lt_dec rfl) ?_
          first | refine Ops_p (p_ix1 _ rfl rfl rfl rfl rfl rfl (by first | (first | omega | (dsimp only; omega)) | exact Fin.isLt _)) (lt_dec rfl) ?_ | refine Ops_p (p_ix1s _ rfl rfl rfl rfl rfl rfl (by first | (first | omega | (dsimp only; omega)) | exact Fin.isLt _)) (lt_dec rfl) ?_
          refine Ops_q (q_load rfl rfl m1 rfl (by first | exact True.intro | trivial | (first | omega | (dsimp only; omega)) | exact Fin.isLt _ | (dsimp only; omega))) (lt_dec rfl) ?_
          refine Ops_p (p_move rfl) (lt_dec rfl) ?_
          refine Ops_guard rfl rfl (lt_dec rfl) (fun hg2 => ?_) (fun hg2 => ?_)
          · try simp only [bs] at hg2
            refine Ops_p (p_move rfl) (lt_dec rfl) ?_
            refine Ops_guard_t rfl rfl (lt_dec rfl) ?_
            first | refine Ops_p (p_ix1 (t (10 * x + y)).val rfl rfl rfl rfl rfl rfl (by first | (first | omega | (dsimp only; omega)) | exact Fin.isLt _)) (lt_dec rfl) ?_ | refine Ops_p (p_ix1s (t (10 * x + y)).val rfl rfl rfl rfl rfl rfl (by first | (first | omega | (dsimp only; omega)) | exact Fin.isLt _)) (lt_dec rfl) ?_
            refine Ops_guard_t rfl rfl (lt_dec rfl) ?_
            refine Ops_q (q_load rfl rfl m0 rfl (by first | exact True.intro | trivial | (first | omega | (dsimp only; omega)) | exact Fin.isLt _ | (dsimp only; omega))) (lt_dec rfl) ?_
            refine Ops_p (p_pick_f rfl rfl) (lt_dec rfl) ?_
            refine Ops_nil ?_
            refine W_cond rfl (fun h3 => ?_) (fun h3 => ?_)
            · try simp only [bs] at h3
              have hev := h3
              refine W_exit ?_
              refine W_region ?_
              refine Ops_p (p_move rfl) (lt_dec rfl) ?_
              refine Ops_p (p_add rfl rfl (by exact ⟨(by first | omega | (dsimp only; omega)), (by first | omega | (dsimp only; omega))⟩)) (lt_dec rfl) ?_
              refine Ops_p (p_assign rfl) (lt_dec rfl) ?_
              refine Ops_nil ?_
              refine Exists.intro (y + 1, vv, ll, pq) (And.intro ?_ (And.intro ?_ ?_))
              · first | exact ⟨by show _ ≤ _; omega, hz2.trans (by rw [hll, ← hgo]; show _ = _ + (sumN _ y + _); omega)⟩ | exact ⟨by show _ ≤ _; omega, hll.trans (by show _ = _ + (sumN _ y + _); rw [tvG_skip (by first | exact .inl (by assumption) | exact .inr (by assumption))]; rfl)⟩
              · show _ < _; omega
              · exact Wk.intro (.cons rfl (by first | rfl | exact veq_int (by first | omega | (dsimp only; omega))) (.cons rfl (by first | rfl | exact veq_int (by first | omega | (dsimp only; omega))) (.cons rfl (by first | rfl | exact veq_int (by first | omega | (dsimp only; omega))) (.cons rfl (by first | rfl | exact veq_int (by first | omega | (dsimp only; omega))) (.cons rfl (by first | rfl | exact veq_int (by first | omega | (dsimp only; omega))) (.cons rfl (by first | rfl | exact veq_int (by first | omega | (dsimp only; omega))) (.cons rfl (by first | rfl | exact veq_int (by first | omega | (dsimp only; omega))) (.cons rfl (by first | rfl | exact veq_int (by first | omega | (dsimp only; omega))) .nil)))))))) (.keep rfl rfl (fun _ h => h) (.keep rfl rfl (fun _ h => h) (.keep rfl rfl (imp_var rfl rfl) (.keep rfl rfl (fun _ h => h) (.keep rfl rfl (own_eq rfl) .nil)))))
            · try simp only [bs] at h3
              have hev := h3
              refine W_skip ?_
              refine W_cutE (fun E s' => ∃ a17 : Nat, ∃ a18 : Nat, (True) ∧ Wk E s' ⟨[(2, .int .i64 (x : Int)), (5, .int .i64 1000000), (6, .raw vv.1 vv.2), (7, .ptr b7_1 0 none), (8, .ptr b8_1 0 none), (10, .ptr b10_1 0 none), (11, .ptr b11_1 0 none), (15, .int .i64 (y : Int)), (16, .u8 (t (10 * x + y))), (17, .ptr a17 0 none), (18, .ptr a18 0 none)], [.var a17 (.barr 10 c), .var a18 (.barr 10 e), own vv.1 84 (.arrs 10 ll), .var b7_1 (.agg [.int .i64 n, .arr8 100 t]), .var b8_1 (.arr8 10 pq), .var b10_1 (.barr 10 c), .var b11_1 (.barr 10 e)]⟩) ?_ ?_
              · refine W_draw (by kernel_rfl) ?_
                show RA _ _ 6 _ _ _
                refine RA_four 0 1 2 3 rfl rfl rfl rfl rfl rfl rfl rfl (by kernel_rfl) ?_ ?_ ?_ ?_
                · refine Xt_of_Qt rfl (lt_dec rfl) ((q_load rfl rfl m1 rfl (by first | exact True.intro | trivial | (first | omega | (dsimp only; omega)) | exact Fin.isLt _ | (dsimp only; omega)))) ?_
                  refine RA_three 1 2 3 rfl rfl rfl rfl rfl rfl (by kernel_rfl) ?_ ?_ ?_
                  · refine Xt_of_Qt rfl (lt_dec rfl) ((q_load rfl rfl m0 rfl (by first | exact True.intro | trivial | (first | omega | (dsimp only; omega)) | exact Fin.isLt _ | (dsimp only; omega)))) ?_
                    refine RA_two 2 3 rfl rfl rfl rfl (by kernel_rfl) ?_ ?_
                    · refine x_alloc rfl (lt_dec rfl) fun b17_1 => ?_
                      refine RA_one 3 rfl rfl (by kernel_rfl) (x_alloc rfl (lt_dec rfl) fun b18_1 => ?_)
                      refine RA_one 4 rfl rfl (by kernel_rfl) (x_store rfl rfl rfl rfl rfl ((HpRep.head).tail) rfl (by first | trivial | (first | (first | omega | (dsimp only; omega)) | exact Fin.isLt _)) ?_)
                      refine RA_one 5 rfl rfl (by kernel_rfl) (x_store rfl rfl rfl rfl rfl HpRep.head rfl (by first | trivial | (first | (first | omega | (dsimp only; omega)) | exact Fin.isLt _)) ?_)
                      refine RA_done (by kernel_rfl) ?_
                      refine ⟨b17_1, b18_1, ?_, ?_⟩
                      · trivial
                      · exact Wk.pick (.cons rfl (by first | rfl | exact veq_int (by first | omega | (dsimp only; omega))) (.cons rfl (by first | rfl | exact veq_int (by first | omega | (dsimp only; omega))) (.cons rfl (by first | rfl | exact veq_int (by first | omega | (dsimp only; omega))) (.cons rfl (by first | rfl | exact veq_int (by first | omega | (dsimp only; omega))) (.cons rfl (by first | rfl | exact veq_int (by first | omega | (dsimp only; omega))) (.cons rfl (by first | rfl | exact veq_int (by first | omega | (dsimp only; omega))) (.cons rfl (by first | rfl | exact veq_int (by first | omega | (dsimp only; omega))) (.cons rfl (by first | rfl | exact veq_int (by first | omega | (dsimp only; omega))) (.cons rfl (by first | rfl | exact veq_int (by first | omega | (dsimp only; omega))) (.cons rfl (by first | rfl | exact veq_int (by first | omega | (dsimp only; omega))) (.cons rfl (by first | rfl | exact veq_int (by first | omega | (dsimp only; omega))) .nil))))))))))) (.cons (HpDel.head).tail rfl rfl (fun _ h => h) (.cons HpDel.head rfl rfl (fun _ h => h) (.cons ((((HpDel.head).tail).tail).tail).tail rfl rfl (fun _ h => h) (.cons (((HpDel.head).tail).tail).tail rfl rfl (fun _ h => h) (.cons ((HpDel.head).tail).tail rfl rfl (fun _ h => h) (.cons (HpDel.head).tail rfl rfl (fun _ h => h) (.cons HpDel.head rfl rfl (fun _ h => h) .nil)))))))
                    · refine x_alloc rfl (lt_dec rfl) fun b18_2 => ?_
                      refine RA_one 2 rfl rfl (by kernel_rfl) (x_alloc rfl (lt_dec rfl) fun b17_2 => ?_)
                      refine RA_one 4 rfl rfl (by kernel_rfl) (x_store rfl rfl rfl rfl rfl HpRep.head rfl (by first | trivial | (first | (first | omega | (dsimp only; omega)) | exact Fin.isLt _)) ?_)
                      refine RA_one 5 rfl rfl (by kernel_rfl) (x_store rfl rfl rfl rfl rfl ((HpRep.head).tail) rfl (by first | trivial | (first | (first | omega | (dsimp only; omega)) | exact Fin.isLt _)) ?_)
                      refine RA_done (by kernel_rfl) ?_
                      refine ⟨b17_2, b18_2, ?_, ?_⟩
                      · trivial
                      · exact Wk.pick (.cons rfl (by first | rfl | exact veq_int (by first | omega | (dsimp only; omega))) (.cons rfl (by first | rfl | exact veq_int (by first | omega | (dsimp only; omega))) (.cons rfl (by first | rfl | exact veq_int (by first | omega | (dsimp only; omega))) (.cons rfl (by first | rfl | exact veq_int (by first | omega | (dsimp only; omega))) (.cons rfl (by first | rfl | exact veq_int (by first | omega | (dsimp only; omega))) (.cons rfl (by first | rfl | exact veq_int (by first | omega | (dsimp only; omega))) (.cons rfl (by first | rfl | exact veq_int (by first | omega | (dsimp only; omega))) (.cons rfl (by first | rfl | exact veq_int (by first | omega | (dsimp only; omega))) (.cons rfl (by first | rfl | exact veq_int (by first | omega | (dsimp only; omega))) (.cons rfl (by first | rfl | exact veq_int (by first | omega | (dsimp only; omega))) (.cons rfl (by first | rfl | exact veq_int (by first | omega | (dsimp only; omega))) .nil))))))))))) (.cons HpDel.head rfl rfl (fun _ h => h) (.cons HpDel.head rfl rfl (fun _ h => h) (.cons ((((HpDel.head).tail).tail).tail).tail rfl rfl (fun _ h => h) (.cons (((HpDel.head).tail).tail).tail rfl rfl (fun _ h => h) (.cons ((HpDel.head).tail).tail rfl rfl (fun _ h => h) (.cons (HpDel.head).tail rfl rfl (fun _ h => h) (.cons HpDel.head rfl rfl (fun _ h => h) .nil)))))))
                  · refine x_alloc rfl (lt_dec rfl) fun b17_3 => ?_
                    refine RA_two 1 3 rfl rfl rfl rfl (by kernel_rfl) ?_ ?_
                    · refine Xt_of_Qt rfl (lt_dec rfl) ((q_load rfl rfl m1 rfl (by first | exact True.intro | trivial | (first | omega | (dsimp only; omega)) | exact Fin.isLt _ | (dsimp only; omega)))) ?_
                      refine RA_one 3 rfl rfl (by kernel_rfl) (x_alloc rfl (lt_dec rfl) fun b18_3 => ?_)
                      refine RA_one 4 rfl rfl (by kernel_rfl) (x_store rfl rfl rfl rfl rfl ((HpRep.head).tail) rfl (by first | trivial | (first | (first | omega | (dsimp only; omega)) | exact Fin.isLt _)) ?_)
                      refine RA_one 5 rfl rfl (by kernel_rfl) (x_store rfl rfl rfl rfl rfl HpRep.head rfl (by first | trivial | (first | (first | omega | (dsimp only; omega)) | exact Fin.isLt _)) ?_)
                      refine RA_done (by kernel_rfl) ?_
                      refine ⟨b17_3, b18_3, ?_, ?_⟩
                      · trivial
                      · exact Wk.pick (.cons rfl (by first | rfl | exact veq_int (by first | omega | (dsimp only; omega))) (.cons rfl (by first | rfl | exact veq_int (by first | omega | (dsimp only; omega))) (.cons rfl (by first | rfl | exact veq_int (by first | omega | (dsimp only; omega))) (.cons rfl (by first | rfl | exact veq_int (by first | omega | (dsimp only; omega))) (.cons rfl (by first | rfl | exact veq_int (by first | omega | (dsimp only; omega))) (.cons rfl (by first | rfl | exact veq_int (by first | omega | (dsimp only; omega))) (.cons rfl (by first | rfl | exact veq_int (by first | omega | (dsimp only; omega))) (.cons rfl (by first | rfl | exact veq_int (by first | omega | (dsimp only; omega))) (.cons rfl (by first | rfl | exact veq_int (by first | omega | (dsimp only; omega))) (.cons rfl (by first | rfl | exact veq_int (by first | omega | (dsimp only; omega))) (.cons rfl (by first | rfl | exact veq_int (by first | omega | (dsimp only; omega))) .nil))))))))))) (.cons (HpDel.head).tail rfl rfl (fun _ h => h) (.cons HpDel.head rfl rfl (fun _ h => h) (.cons ((((HpDel.head).tail).tail).tail).tail rfl rfl (fun _ h => h) (.cons (((HpDel.head).tail).tail).tail rfl rfl (fun _ h => h) (.cons ((HpDel.head).tail).tail rfl rfl (fun _ h => h) (.cons (HpDel.head).tail rfl rfl (fun _ h => h) (.cons HpDel.head rfl rfl (fun _ h => h) .nil)))))))
                    · refine x_alloc rfl (lt_dec rfl) fun b18_4 => ?_
                      refine RA_two 1 4 rfl rfl rfl rfl (by kernel_rfl) ?_ ?_
                      · refine Xt_of_Qt rfl (lt_dec rfl) ((q_load rfl rfl m2 rfl (by first | exact True.intro | trivial | (first | omega | (dsimp only; omega)) | exact Fin.isLt _ | (dsimp only; omega)))) ?_
                        refine RA_one 4 rfl rfl (by kernel_rfl) (x_store rfl rfl rfl rfl rfl ((HpRep.head).tail) rfl (by first | trivial | (first | (first | omega | (dsimp only; omega)) | exact Fin.isLt _)) ?_)
                        refine RA_one 5 rfl rfl (by kernel_rfl) (x_store rfl rfl rfl rfl rfl HpRep.head rfl (by first | trivial | (first | (first | omega | (dsimp only; omega)) | exact Fin.isLt _)) ?_)
                        refine RA_done (by kernel_rfl) ?_
                        refine ⟨b17_3, b18_4, ?_, ?_⟩
                        · trivial
                        · exact Wk.pick (.cons rfl (by first | rfl | exact veq_int (by first | omega | (dsimp only; omega))) (.cons rfl (by first | rfl | exact veq_int (by first | omega | (dsimp only; omega))) (.cons rfl (by first | rfl | exact veq_int (by first | omega | (dsimp only; omega))) (.cons rfl (by first | rfl | exact veq_int (by first | omega | (dsimp only; omega))) (.cons rfl (by first | rfl | exact veq_int (by first | omega | (dsimp only; omega))) (.cons rfl (by first | rfl | exact veq_int (by first | omega | (dsimp only; omega))) (.cons rfl (by first | rfl | exact veq_int (by first | omega | (dsimp only; omega))) (.cons rfl (by first | rfl | exact veq_int (by first | omega | (dsimp only; omega))) (.cons rfl (by first | rfl | exact veq_int (by first | omega | (dsimp only; omega))) (.cons rfl (by first | rfl | exact veq_int (by first | omega | (dsimp only; omega))) (.cons rfl (by first | rfl | exact veq_int (by first | omega | (dsimp only; omega))) .nil))))))))))) (.cons (HpDel.head).tail rfl rfl (fun _ h => h) (.cons HpDel.head rfl rfl (fun _ h => h) (.cons ((((HpDel.head).tail).tail).tail).tail rfl rfl (fun _ h => h) (.cons (((HpDel.head).tail).tail).tail rfl rfl (fun _ h => h) (.cons ((HpDel.head).tail).tail rfl rfl (fun _ h => h) (.cons (HpDel.head).tail rfl rfl (fun _ h => h) (.cons HpDel.head rfl rfl (fun _ h => h) .nil)))))))
                      · refine x_store rfl rfl rfl rfl rfl ((HpRep.head).tail) rfl (by first | trivial | (first | (first | omega | (dsimp only; omega)) | exact Fin.isLt _)) ?_
                        refine RA_quiet (g := 1) [1] (by kernel_rfl) (by kernel_rfl) (by kernel_rfl) (by kernel_rfl) ?_
                        refine WQ_cons rfl rfl rfl ((q_load rfl rfl m2 rfl (by first | exact True.intro | trivial | (first | omega | (dsimp only; omega)) | exact Fin.isLt _ | (dsimp only; omega)))) (lt_dec rfl) ?_
                        refine WQ_nil ?_
                        refine RA_one 5 rfl rfl (by kernel_rfl) (x_store rfl rfl rfl rfl rfl HpRep.head rfl (by first | trivial | (first | (first | omega | (dsimp only; omega)) | exact Fin.isLt _)) ?_)
                        refine RA_done (by kernel_rfl) ?_
                        refine ⟨b17_3, b18_4, ?_, ?_⟩
                        · trivial
                        · exact Wk.pick (.cons rfl (by first | rfl | exact veq_int (by first | omega | (dsimp only; omega))) (.cons rfl (by first | rfl | exact veq_int (by first | omega | (dsimp only; omega))) (.cons rfl (by first | rfl | exact veq_int (by first | omega | (dsimp only; omega))) (.cons rfl (by first | rfl | exact veq_int (by first | omega | (dsimp only; omega))) (.cons rfl (by first | rfl | exact veq_int (by first | omega | (dsimp only; omega))) (.cons rfl (by first | rfl | exact veq_int (by first | omega | (dsimp only; omega))) (.cons rfl (by first | rfl | exact veq_int (by first | omega | (dsimp only; omega))) (.cons rfl (by first | rfl | exact veq_int (by first | omega | (dsimp only; omega))) (.cons rfl (by first | rfl | exact veq_int (by first | omega | (dsimp only; omega))) (.cons rfl (by first | rfl | exact veq_int (by first | omega | (dsimp only; omega))) (.cons rfl (by first | rfl | exact veq_int (by first | omega | (dsimp only; omega))) .nil))))))))))) (.cons (HpDel.head).tail rfl rfl (fun _ h => h) (.cons HpDel.head rfl rfl (fun _ h => h) (.cons ((((HpDel.head).tail).tail).tail).tail rfl rfl (fun _ h => h) (.cons (((HpDel.head).tail).tail).tail rfl rfl (fun _ h => h) (.cons ((HpDel.head).tail).tail rfl rfl (fun _ h => h) (.cons (HpDel.head).tail rfl rfl (fun _ h => h) (.cons HpDel.head rfl rfl (fun _ h => h) .nil)))))))
                  · refine x_alloc rfl (lt_dec rfl) fun b18_5 => ?_
                    refine RA_two 1 2 rfl rfl rfl rfl (by kernel_rfl) ?_ ?_
                    · refine Xt_of_Qt rfl (lt_dec rfl) ((q_load rfl rfl m1 rfl (by first | exact True.intro | trivial | (first | omega | (dsimp only; omega)) | exact Fin.isLt _ | (dsimp only; omega)))) ?_
                      refine RA_one 2 rfl rfl (by kernel_rfl) (x_alloc rfl (lt_dec rfl) fun b17_4 => ?_)
                      refine RA_one 4 rfl rfl (by kernel_rfl) (x_store rfl rfl rfl rfl rfl HpRep.head rfl (by first | trivial | (first | (first | omega | (dsimp only; omega)) | exact Fin.isLt _)) ?_)
                      refine RA_one 5 rfl rfl (by kernel_rfl) (x_store rfl rfl rfl rfl rfl ((HpRep.head).tail) rfl (by first | trivial | (first | (first | omega | (dsimp only; omega)) | exact Fin.isLt _)) ?_)
                      refine RA_done (by kernel_rfl) ?_
                      refine ⟨b17_4, b18_5, ?_, ?_⟩
                      · trivial
                      · exact Wk.pick (.cons rfl (by first | rfl | exact veq_int (by first | omega | (dsimp only; omega))) (.cons rfl (by first | rfl | exact veq_int (by first | omega | (dsimp only; omega))) (.cons rfl (by first | rfl | exact veq_int (by first | omega | (dsimp only; omega))) (.cons rfl (by first | rfl | exact veq_int (by first | omega | (dsimp only; omega))) (.cons rfl (by first | rfl | exact veq_int (by first | omega | (dsimp only; omega))) (.cons rfl (by first | rfl | exact veq_int (by first | omega | (dsimp only; omega))) (.cons rfl (by first | rfl | exact veq_int (by first | omega | (dsimp only; omega))) (.cons rfl (by first | rfl | exact veq_int (by first | omega | (dsimp only; omega))) (.cons rfl (by first | rfl | exact veq_int (by first | omega | (dsimp only; omega))) (.cons rfl (by first | rfl | exact veq_int (by first | omega | (dsimp only; omega))) (.cons rfl (by first | rfl | exact veq_int (by first | omega | (dsimp only; omega))) .nil))))))))))) (.cons HpDel.head rfl rfl (fun _ h => h) (.cons HpDel.head rfl rfl (fun _ h => h) (.cons ((((HpDel.head).tail).tail).tail).tail rfl rfl (fun _ h => h) (.cons (((HpDel.head).tail).tail).tail rfl rfl (fun _ h => h) (.cons ((HpDel.head).tail).tail rfl rfl (fun _ h => h) (.cons (HpDel.head).tail rfl rfl (fun _ h => h) (.cons HpDel.head rfl rfl (fun _ h => h) .nil)))))))
                    · refine x_alloc rfl (lt_dec rfl) fun b17_5 => ?_
                      refine RA_two 1 4 rfl rfl rfl rfl (by kernel_rfl) ?_ ?_
                      · refine Xt_of_Qt rfl (lt_dec rfl) ((q_load rfl rfl m2 rfl (by first | exact True.intro | trivial | (first | omega | (dsimp only; omega)) | exact Fin.isLt _ | (dsimp only; omega)))) ?_
                        refine RA_one 4 rfl rfl (by kernel_rfl) (x_store rfl rfl rfl rfl rfl HpRep.head rfl (by first | trivial | (first | (first | omega | (dsimp only; omega)) | exact Fin.isLt _)) ?_)
                        refine RA_one 5 rfl rfl (by kernel_rfl) (x_store rfl rfl rfl rfl rfl ((HpRep.head).tail) rfl (by first | trivial | (first | (first | omega | (dsimp only; omega)) | exact Fin.isLt _)) ?_)
                        refine RA_done (by kernel_rfl) ?_
                        refine ⟨b17_5, b18_5, ?_, ?_⟩
                        · trivial
                        · exact Wk.pick (.cons rfl (by first | rfl | exact veq_int (by first | omega | (dsimp only; omega))) (.cons rfl (by first | rfl | exact veq_int (by first | omega | (dsimp only; omega))) (.cons rfl (by first | rfl | exact veq_int (by first | omega | (dsimp only; omega))) (.cons rfl (by first | rfl | exact veq_int (by first | omega | (dsimp only; omega))) (.cons rfl (by first | rfl | exact veq_int (by first | omega | (dsimp only; omega))) (.cons rfl (by first | rfl | exact veq_int (by first | omega | (dsimp only; omega))) (.cons rfl (by first | rfl | exact veq_int (by first | omega | (dsimp only; omega))) (.cons rfl (by first | rfl | exact veq_int (by first | omega | (dsimp only; omega))) (.cons rfl (by first | rfl | exact veq_int (by first | omega | (dsimp only; omega))) (.cons rfl (by first | rfl | exact veq_int (by first | omega | (dsimp only; omega))) (.cons rfl (by first | rfl | exact veq_int (by first | omega | (dsimp only; omega))) .nil))))))))))) (.cons HpDel.head rfl rfl (fun _ h => h) (.cons HpDel.head rfl rfl (fun _ h => h) (.cons ((((HpDel.head).tail).tail).tail).tail rfl rfl (fun _ h => h) (.cons (((HpDel.head).tail).tail).tail rfl rfl (fun _ h => h) (.cons ((HpDel.head).tail).tail rfl rfl (fun _ h => h) (.cons (HpDel.head).tail rfl rfl (fun _ h => h) (.cons HpDel.head rfl rfl (fun _ h => h) .nil)))))))
                      · refine x_store rfl rfl rfl rfl rfl HpRep.head rfl (by first | trivial | (first | (first | omega | (dsimp only; omega)) | exact Fin.isLt _)) ?_
                        refine RA_quiet (g := 1) [1] (by kernel_rfl) (by kernel_rfl) (by kernel_rfl) (by kernel_rfl) ?_
                        refine WQ_cons rfl rfl rfl ((q_load rfl rfl m2 rfl (by first | exact True.intro | trivial | (first | omega | (dsimp only; omega)) | exact Fin.isLt _ | (dsimp only; omega)))) (lt_dec rfl) ?_
                        refine WQ_nil ?_
                        refine RA_one 5 rfl rfl (by kernel_rfl) (x_store rfl rfl rfl rfl rfl ((HpRep.head).tail) rfl (by first | trivial | (first | (first | omega | (dsimp only; omega)) | exact Fin.isLt _)) ?_)
                        refine RA_done (by kernel_rfl) ?_
                        refine ⟨b17_5, b18_5, ?_, ?_⟩
                        · trivial
                        · exact Wk.pick (.cons rfl (by first | rfl | exact veq_int (by first | omega | (dsimp only; omega))) (.cons rfl (by first | rfl | exact veq_int (by first | omega | (dsimp only; omega))) (.cons rfl (by first | rfl | exact veq_int (by first | omega | (dsimp only; omega))) (.cons rfl (by first | rfl | exact veq_int (by first | omega | (dsimp only; omega))) (.cons rfl (by first | rfl | exact veq_int (by first | omega | (dsimp only; omega))) (.cons rfl (by first | rfl | exact veq_int (by first | omega | (dsimp only; omega))) (.cons rfl (by first | rfl | exact veq_int (by first | omega | (dsimp only; omega))) (.cons rfl (by first | rfl | exact veq_int (by first | omega | (dsimp only; omega))) (.cons rfl (by first | rfl | exact veq_int (by first | omega | (dsimp only; omega))) (.cons rfl (by first | rfl | exact veq_int (by first | omega | (dsimp only; omega))) (.cons rfl (by first | rfl | exact veq_int (by first | omega | (dsimp only; omega))) .nil))))))))))) (.cons HpDel.head rfl rfl (fun _ h => h) (.cons HpDel.head rfl rfl (fun _ h => h) (.cons ((((HpDel.head).tail).tail).tail).tail rfl rfl (fun _ h => h) (.cons (((HpDel.head).tail).tail).tail rfl rfl (fun _ h => h) (.cons ((HpDel.head).tail).tail rfl rfl (fun _ h => h) (.cons (HpDel.head).tail rfl rfl (fun _ h => h) (.cons HpDel.head rfl rfl (fun _ h => h) .nil)))))))
                · refine Xt_of_Qt rfl (lt_dec rfl) ((q_load rfl rfl m0 rfl (by first | exact True.intro | trivial | (first | omega | (dsimp only; omega)) | exact Fin.isLt _ | (dsimp only; omega)))) ?_
                  refine RA_three 0 2 3 rfl rfl rfl rfl rfl rfl (by kernel_rfl) ?_ ?_ ?_
                  · refine Xt_of_Qt rfl (lt_dec rfl) ((q_load rfl rfl m1 rfl (by first | exact True.intro | trivial | (first | omega | (dsimp only; omega)) | exact Fin.isLt _ | (dsimp only; omega)))) ?_
                    refine RA_two 2 3 rfl rfl rfl rfl (by kernel_rfl) ?_ ?_
                    · refine x_alloc rfl (lt_dec rfl) fun b17_6 => ?_
                      refine RA_one 3 rfl rfl (by kernel_rfl) (x_alloc rfl (lt_dec rfl) fun b18_6 => ?_)
                      refine RA_one 4 rfl rfl (by kernel_rfl) (x_store rfl rfl rfl rfl rfl ((HpRep.head).tail) rfl (by first | trivial | (first | (first | omega | (dsimp only; omega)) | exact Fin.isLt _)) ?_)
                      refine RA_one 5 rfl rfl (by kernel_rfl) (x_store rfl rfl rfl rfl rfl HpRep.head rfl (by first | trivial | (first | (first | omega | (dsimp only; omega)) | exact Fin.isLt _)) ?_)
                      refine RA_done (by kernel_rfl) ?_
                      refine ⟨b17_6, b18_6, ?_, ?_⟩
                      · trivial
                      · exact Wk.pick (.cons rfl (by first | rfl | exact veq_int (by first | omega | (dsimp only; omega))) (.cons rfl (by first | rfl | exact veq_int (by first | omega | (dsimp only; omega))) (.cons rfl (by first | rfl | exact veq_int (by first | omega | (dsimp only; omega))) (.cons rfl (by first | rfl | exact veq_int (by first | omega | (dsimp only; omega))) (.cons rfl (by first | rfl | exact veq_int (by first | omega | (dsimp only; omega))) (.cons rfl (by first | rfl | exact veq_int (by first | omega | (dsimp only; omega))) (.cons rfl (by first | rfl | exact veq_int (by first | omega | (dsimp only; omega))) (.cons rfl (by first | rfl | exact veq_int (by first | omega | (dsimp only; omega))) (.cons rfl (by first | rfl | exact veq_int (by first | omega | (dsimp only; omega))) (.cons rfl (by first | rfl | exact veq_int (by first | omega | (dsimp only; omega))) (.cons rfl (by first | rfl | exact veq_int (by first | omega | (dsimp only; omega))) .nil))))))))))) (.cons (HpDel.head).tail rfl rfl (fun _ h => h) (.cons HpDel.head rfl rfl (fun _ h => h) (.cons ((((HpDel.head).tail).tail).tail).tail rfl rfl (fun _ h => h) (.cons (((HpDel.head).tail).tail).tail rfl rfl (fun _ h => h) (.cons ((HpDel.head).tail).tail rfl rfl (fun _ h => h) (.cons (HpDel.head).tail rfl rfl (fun _ h => h) (.cons HpDel.head rfl rfl (fun _ h => h) .nil)))))))
                    · refine x_alloc rfl (lt_dec rfl) fun b18_7 => ?_
                      refine RA_one 2 rfl rfl (by kernel_rfl) (x_alloc rfl (lt_dec rfl) fun b17_7 => ?_)
                      refine RA_one 4 rfl rfl (by kernel_rfl) (x_store rfl rfl rfl rfl rfl HpRep.head rfl (by first | trivial | (first | (first | omega | (dsimp only; omega)) | exact Fin.isLt _)) ?_)
                      refine RA_one 5 rfl rfl (by kernel_rfl) (x_store rfl rfl rfl rfl rfl ((HpRep.head).tail) rfl (by first | trivial | (first | (first | omega | (dsimp only; omega)) | exact Fin.isLt _)) ?_)
                      refine RA_done (by kernel_rfl) ?_
                      refine ⟨b17_7, b18_7, ?_, ?_⟩
                      · trivial
                      · exact Wk.pick (.cons rfl (by first | rfl | exact veq_int (by first | omega | (dsimp only; omega))) (.cons rfl (by first | rfl | exact veq_int (by first | omega | (dsimp only; omega))) (.cons rfl (by first | rfl | exact veq_int (by first | omega | (dsimp only; omega))) (.cons rfl (by first | rfl | exact veq_int (by first | omega | (dsimp only; omega))) (.cons rfl (by first | rfl | exact veq_int (by first | omega | (dsimp only; omega))) (.cons rfl (by first | rfl | exact veq_int (by first | omega | (dsimp only; omega))) (.cons rfl (by first | rfl | exact veq_int (by first | omega | (dsimp only; omega))) (.cons rfl (by first | rfl | exact veq_int (by first | omega | (dsimp only; omega))) (.cons rfl (by first | rfl | exact veq_int (by first | omega | (dsimp only; omega))) (.cons rfl (by first | rfl | exact veq_int (by first | omega | (dsimp only; omega))) (.cons rfl (by first | rfl | exact veq_int (by first | omega | (dsimp only; omega))) .nil))))))))))) (.cons HpDel.head rfl rfl (fun _ h => h) (.cons HpDel.head rfl rfl (fun _ h => h) (.cons ((((HpDel.head).tail).tail).tail).tail rfl rfl (fun _ h => h) (.cons (((HpDel.head).tail).tail).tail rfl rfl (fun _ h => h) (.cons ((HpDel.head).tail).tail rfl rfl (fun _ h => h) (.cons (HpDel.head).tail rfl rfl (fun _ h => h) (.cons HpDel.head rfl rfl (fun _ h => h) .nil)))))))
                  · refine x_alloc rfl (lt_dec rfl) fun b17_8 => ?_
                    refine RA_quietA (g := 2) (hs := [0]) (ia := 3) rfl rfl (lt_dec rfl) (by kernel_rfl) ?_
                    refine SQ_cons rfl rfl rfl ((q_load rfl rfl m2 rfl (by first | exact True.intro | trivial | (first | omega | (dsimp only; omega)) | exact Fin.isLt _ | (dsimp only; omega)))) (lt_dec rfl) ?_
                    refine SQ_nil ?_
                    refine ⟨fun b18_8 => ?_, ?_⟩
                    · refine RA_one 4 rfl rfl (by kernel_rfl) (x_store rfl rfl rfl rfl rfl ((HpRep.head).tail) rfl (by first | trivial | (first | (first | omega | (dsimp only; omega)) | exact Fin.isLt _)) ?_)
                      refine RA_one 5 rfl rfl (by kernel_rfl) (x_store rfl rfl rfl rfl rfl HpRep.head rfl (by first | trivial | (first | (first | omega | (dsimp only; omega)) | exact Fin.isLt _)) ?_)
                      refine RA_done (by kernel_rfl) ?_
                      refine ⟨b17_8, b18_8, ?_, ?_⟩
                      · trivial
                      · exact Wk.pick (.cons rfl (by first | rfl | exact veq_int (by first | omega | (dsimp only; omega))) (.cons rfl (by first | rfl | exact veq_int (by first | omega | (dsimp only; omega))) (.cons rfl (by first | rfl | exact veq_int (by first | omega | (dsimp only; omega))) (.cons rfl (by first | rfl | exact veq_int (by first | omega | (dsimp only; omega))) (.cons rfl (by first | rfl | exact veq_int (by first | omega | (dsimp only; omega))) (.cons rfl (by first | rfl | exact veq_int (by first | omega | (dsimp only; omega))) (.cons rfl (by first | rfl | exact veq_int (by first | omega | (dsimp only; omega))) (.cons rfl (by first | rfl | exact veq_int (by first | omega | (dsimp only; omega))) (.cons rfl (by first | rfl | exact veq_int (by first | omega | (dsimp only; omega))) (.cons rfl (by first | rfl | exact veq_int (by first | omega | (dsimp only; omega))) (.cons rfl (by first | rfl | exact veq_int (by first | omega | (dsimp only; omega))) .nil))))))))))) (.cons (HpDel.head).tail rfl rfl (fun _ h => h) (.cons HpDel.head rfl rfl (fun _ h => h) (.cons ((((HpDel.head).tail).tail).tail).tail rfl rfl (fun _ h => h) (.cons (((HpDel.head).tail).tail).tail rfl rfl (fun _ h => h) (.cons ((HpDel.head).tail).tail rfl rfl (fun _ h => h) (.cons (HpDel.head).tail rfl rfl (fun _ h => h) (.cons HpDel.head rfl rfl (fun _ h => h) .nil)))))))
                    · refine RA_one 3 rfl rfl (by kernel_rfl) (x_alloc rfl (lt_dec rfl) fun b18_9 => ?_)
                      refine RA_one 4 rfl rfl (by kernel_rfl) (x_store rfl rfl rfl rfl rfl ((HpRep.head).tail) rfl (by first | trivial | (first | (first | omega | (dsimp only; omega)) | exact Fin.isLt _)) ?_)
                      refine RA_one 5 rfl rfl (by kernel_rfl) (x_store rfl rfl rfl rfl rfl HpRep.head rfl (by first | trivial | (first | (first | omega | (dsimp only; omega)) | exact Fin.isLt _)) ?_)
                      refine RA_done (by kernel_rfl) ?_
                      refine ⟨b17_8, b18_9, ?_, ?_⟩
                      · trivial
                      · exact Wk.pick (.cons rfl (by first | rfl | exact veq_int (by first | omega | (dsimp only; omega))) (.cons rfl (by first | rfl | exact veq_int (by first | omega | (dsimp only; omega))) (.cons rfl (by first | rfl | exact veq_int (by first | omega | (dsimp only; omega))) (.cons rfl (by first | rfl | exact veq_int (by first | omega | (dsimp only; omega))) (.cons rfl (by first | rfl | exact veq_int (by first | omega | (dsimp only; omega))) (.cons rfl (by first | rfl | exact veq_int (by first | omega | (dsimp only; omega))) (.cons rfl (by first | rfl | exact veq_int (by first | omega | (dsimp only; omega))) (.cons rfl (by first | rfl | exact veq_int (by first | omega | (dsimp only; omega))) (.cons rfl (by first | rfl | exact veq_int (by first | omega | (dsimp only; omega))) (.cons rfl (by first | rfl | exact veq_int (by first | omega | (dsimp only; omega))) (.cons rfl (by first | rfl | exact veq_int (by first | omega | (dsimp only; omega))) .nil))))))))))) (.cons (HpDel.head).tail rfl rfl (fun _ h => h) (.cons HpDel.head rfl rfl (fun _ h => h) (.cons ((((HpDel.head).tail).tail).tail).tail rfl rfl (fun _ h => h) (.cons (((HpDel.head).tail).tail).tail rfl rfl (fun _ h => h) (.cons ((HpDel.head).tail).tail rfl rfl (fun _ h => h) (.cons (HpDel.head).tail rfl rfl (fun _ h => h) (.cons HpDel.head rfl rfl (fun _ h => h) .nil)))))))
                  · refine x_alloc rfl (lt_dec rfl) fun b18_10 => ?_
                    refine RA_quietA (g := 2) (hs := [0]) (ia := 2) rfl rfl (lt_dec rfl) (by kernel_rfl) ?_
                    refine SQ_cons rfl rfl rfl ((q_load rfl rfl m2 rfl (by first | exact True.intro | trivial | (first | omega | (dsimp only; omega)) | exact Fin.isLt _ | (dsimp only; omega)))) (lt_dec rfl) ?_
                    refine SQ_nil ?_
                    refine ⟨fun b17_9 => ?_, ?_⟩
                    · refine RA_one 4 rfl rfl (by kernel_rfl) (x_store rfl rfl rfl rfl rfl HpRep.head rfl (by first | trivial | (first | (first | omega | (dsimp only; omega)) | exact Fin.isLt _)) ?_)
                      refine RA_one 5 rfl rfl (by kernel_rfl) (x_store rfl rfl rfl rfl rfl ((HpRep.head).tail) rfl (by first | trivial | (first | (first | omega | (dsimp only; omega)) | exact Fin.isLt _)) ?_)
                      refine RA_done (by kernel_rfl) ?_
                      refine ⟨b17_9, b18_10, ?_, ?_⟩
                      · trivial
                      · exact Wk.pick (.cons rfl (by first | rfl | exact veq_int (by first | omega | (dsimp only; omega))) (.cons rfl (by first | rfl | exact veq_int (by first | omega | (dsimp only; omega))) (.cons rfl (by first | rfl | exact veq_int (by first | omega | (dsimp only; omega))) (.cons rfl (by first | rfl | exact veq_int (by first | omega | (dsimp only; omega))) (.cons rfl (by first | rfl | exact veq_int (by first | omega | (dsimp only; omega))) (.cons rfl (by first | rfl | exact veq_int (by first | omega | (dsimp only; omega))) (.cons rfl (by first | rfl | exact veq_int (by first | omega | (dsimp only; omega))) (.cons rfl (by first | rfl | exact veq_int (by first | omega | (dsimp only; omega))) (.cons rfl (by first | rfl | exact veq_int (by first | omega | (dsimp only; omega))) (.cons rfl (by first | rfl | exact veq_int (by first | omega | (dsimp only; omega))) (.cons rfl (by first | rfl | exact veq_int (by first | omega | (dsimp only; omega))) .nil))))))))))) (.cons HpDel.head rfl rfl (fun _ h => h) (.cons HpDel.head rfl rfl (fun _ h => h) (.cons ((((HpDel.head).tail).tail).tail).tail rfl rfl (fun _ h => h) (.cons (((HpDel.head).tail).tail).tail rfl rfl (fun _ h => h) (.cons ((HpDel.head).tail).tail rfl rfl (fun _ h => h) (.cons (HpDel.head).tail rfl rfl (fun _ h => h) (.cons HpDel.head rfl rfl (fun _ h => h) .nil)))))))
                    · refine RA_one 2 rfl rfl (by kernel_rfl) (x_alloc rfl (lt_dec rfl) fun b17_10 => ?_)
                      refine RA_one 4 rfl rfl (by kernel_rfl) (x_store rfl rfl rfl rfl rfl HpRep.head rfl (by first | trivial | (first | (first | omega | (dsimp only; omega)) | exact Fin.isLt _)) ?_)
                      refine RA_one 5 rfl rfl (by kernel_rfl) (x_store rfl rfl rfl rfl rfl ((HpRep.head).tail) rfl (by first | trivial | (first | (first | omega | (dsimp only; omega)) | exact Fin.isLt _)) ?_)
                      refine RA_done (by kernel_rfl) ?_
                      refine ⟨b17_10, b18_10, ?_, ?_⟩
                      · trivial
                      · exact Wk.pick (.cons rfl (by first | rfl | exact veq_int (by first | omega | (dsimp only; omega))) (.cons rfl (by first | rfl | exact veq_int (by first | omega | (dsimp only; omega))) (.cons rfl (by first | rfl | exact veq_int (by first | omega | (dsimp only; omega))) (.cons rfl (by first | rfl | exact veq_int (by first | omega | (dsimp only; omega))) (.cons rfl (by first | rfl | exact veq_int (by first | omega | (dsimp only; omega))) (.cons rfl (by first | rfl | exact veq_int (by first | omega | (dsimp only; omega))) (.cons rfl (by first | rfl | exact veq_int (by first | omega | (dsimp only; omega))) (.cons rfl (by first | rfl | exact veq_int (by first | omega | (dsimp only; omega))) (.cons rfl (by first | rfl | exact veq_int (by first | omega | (dsimp only; omega))) (.cons rfl (by first | rfl | exact veq_int (by first | omega | (dsimp only; omega))) (.cons rfl (by first | rfl | exact veq_int (by first | omega | (dsimp only; omega))) .nil))))))))))) (.cons HpDel.head rfl rfl (fun _ h => h) (.cons HpDel.head rfl rfl (fun _ h => h) (.cons ((((HpDel.head).tail).tail).tail).tail rfl rfl (fun _ h => h) (.cons (((HpDel.head).tail).tail).tail rfl rfl (fun _ h => h) (.cons ((HpDel.head).tail).tail rfl rfl (fun _ h => h) (.cons (HpDel.head).tail rfl rfl (fun _ h => h) (.cons HpDel.head rfl rfl (fun _ h => h) .nil)))))))
                · refine x_alloc rfl (lt_dec rfl) fun b17_11 => ?_
                  refine RA_three 0 1 3 rfl rfl rfl rfl rfl rfl (by kernel_rfl) ?_ ?_ ?_
                  · refine Xt_of_Qt rfl (lt_dec rfl) ((q_load rfl rfl m2 rfl (by first | exact True.intro | trivial | (first | omega | (dsimp only; omega)) | exact Fin.isLt _ | (dsimp only; omega)))) ?_
                    refine RA_two 1 3 rfl rfl rfl rfl (by kernel_rfl) ?_ ?_
                    · refine Xt_of_Qt rfl (lt_dec rfl) ((q_load rfl rfl m1 rfl (by first | exact True.intro | trivial | (first | omega | (dsimp only; omega)) | exact Fin.isLt _ | (dsimp only; omega)))) ?_
                      refine RA_one 3 rfl rfl (by kernel_rfl) (x_alloc rfl (lt_dec rfl) fun b18_11 => ?_)
                      refine RA_one 4 rfl rfl (by kernel_rfl) (x_store rfl rfl rfl rfl rfl ((HpRep.head).tail) rfl (by first | trivial | (first | (first | omega | (dsimp only; omega)) | exact Fin.isLt _)) ?_)
                      refine RA_one 5 rfl rfl (by kernel_rfl) (x_store rfl rfl rfl rfl rfl HpRep.head rfl (by first | trivial | (first | (first | omega | (dsimp only; omega)) | exact Fin.isLt _)) ?_)
                      refine RA_done (by kernel_rfl) ?_
                      refine ⟨b17_11, b18_11, ?_, ?_⟩
                      · trivial
                      · exact Wk.pick (.cons rfl (by first | rfl | exact veq_int (by first | omega | (dsimp only; omega))) (.cons rfl (by first | rfl | exact veq_int (by first | omega | (dsimp only; omega))) (.cons rfl (by first | rfl | exact veq_int (by first | omega | (dsimp only; omega))) (.cons rfl (by first | rfl | exact veq_int (by first | omega | (dsimp only; omega))) (.cons rfl (by first | rfl | exact veq_int (by first | omega | (dsimp only; omega))) (.cons rfl (by first | rfl | exact veq_int (by first | omega | (dsimp only; omega))) (.cons rfl (by first | rfl | exact veq_int (by first | omega | (dsimp only; omega))) (.cons rfl (by first | rfl | exact veq_int (by first | omega | (dsimp only; omega))) (.cons rfl (by first | rfl | exact veq_int (by first | omega | (dsimp only; omega))) (.cons rfl (by first | rfl | exact veq_int (by first | omega | (dsimp only; omega))) (.cons rfl (by first | rfl | exact veq_int (by first | omega | (dsimp only; omega))) .nil))))))))))) (.cons (HpDel.head).tail rfl rfl (fun _ h => h) (.cons HpDel.head rfl rfl (fun _ h => h) (.cons ((((HpDel.head).tail).tail).tail).tail rfl rfl (fun _ h => h) (.cons (((HpDel.head).tail).tail).tail rfl rfl (fun _ h => h) (.cons ((HpDel.head).tail).tail rfl rfl (fun _ h => h) (.cons (HpDel.head).tail rfl rfl (fun _ h => h) (.cons HpDel.head rfl rfl (fun _ h => h) .nil)))))))
                    · refine x_alloc rfl (lt_dec rfl) fun b18_12 => ?_
                      refine RA_two 1 4 rfl rfl rfl rfl (by kernel_rfl) ?_ ?_
                      · refine Xt_of_Qt rfl (lt_dec rfl) ((q_load rfl rfl m2 rfl (by first | exact True.intro | trivial | (first | omega | (dsimp only; omega)) | exact Fin.isLt _ | (dsimp only; omega)))) ?_
                        refine RA_one 4 rfl rfl (by kernel_rfl) (x_store rfl rfl rfl rfl rfl ((HpRep.head).tail) rfl (by first | trivial | (first | (first | omega | (dsimp only; omega)) | exact Fin.isLt _)) ?_)
                        refine RA_one 5 rfl rfl (by kernel_rfl) (x_store rfl rfl rfl rfl rfl HpRep.head rfl (by first | trivial | (first | (first | omega | (dsimp only; omega)) | exact Fin.isLt _)) ?_)
                        refine RA_done (by kernel_rfl) ?_
                        refine ⟨b17_11, b18_12, ?_, ?_⟩
                        · trivial
                        · exact Wk.pick (.cons rfl (by first | rfl | exact veq_int (by first | omega | (dsimp only; omega))) (.cons rfl (by first | rfl | exact veq_int (by first | omega | (dsimp only; omega))) (.cons rfl (by first | rfl | exact veq_int (by first | omega | (dsimp only; omega))) (.cons rfl (by first | rfl | exact veq_int (by first | omega | (dsimp only; omega))) (.cons rfl (by first | rfl | exact veq_int (by first | omega | (dsimp only; omega))) (.cons rfl (by first | rfl | exact veq_int (by first | omega | (dsimp only; omega))) (.cons rfl (by first | rfl | exact veq_int (by first | omega | (dsimp only; omega))) (.cons rfl (by first | rfl | exact veq_int (by first | omega | (dsimp only; omega))) (.cons rfl (by first | rfl | exact veq_int (by first | omega | (dsimp only; omega))) (.cons rfl (by first | rfl | exact veq_int (by first | omega | (dsimp only; omega))) (.cons rfl (by first | rfl | exact veq_int (by first | omega | (dsimp only; omega))) .nil))))))))))) (.cons (HpDel.head).tail rfl rfl (fun _ h => h) (.cons HpDel.head rfl rfl (fun _ h => h) (.cons ((((HpDel.head).tail).tail).tail).tail rfl rfl (fun _ h => h) (.cons (((HpDel.head).tail).tail).tail rfl rfl (fun _ h => h) (.cons ((HpDel.head).tail).tail rfl rfl (fun _ h => h) (.cons (HpDel.head).tail rfl rfl (fun _ h => h) (.cons HpDel.head rfl rfl (fun _ h => h) .nil)))))))
                      · refine x_store rfl rfl rfl rfl rfl ((HpRep.head).tail) rfl (by first | trivial | (first | (first | omega | (dsimp only; omega)) | exact Fin.isLt _)) ?_
                        refine RA_quiet (g := 1) [1] (by kernel_rfl) (by kernel_rfl) (by kernel_rfl) (by kernel_rfl) ?_
                        refine WQ_cons rfl rfl rfl ((q_load rfl rfl m2 rfl (by first | exact True.intro | trivial | (first | omega | (dsimp only; omega)) | exact Fin.isLt _ | (dsimp only; omega)))) (lt_dec rfl) ?_
                        refine WQ_nil ?_
                        refine RA_one 5 rfl rfl (by kernel_rfl) (x_store rfl rfl rfl rfl rfl HpRep.head rfl (by first | trivial | (first | (first | omega | (dsimp only; omega)) | exact Fin.isLt _)) ?_)
                        refine RA_done (by kernel_rfl) ?_
                        refine ⟨b17_11, b18_12, ?_, ?_⟩
                        · trivial
                        · exact Wk.pick (.cons rfl (by first | rfl | exact veq_int (by first | omega | (dsimp only; omega))) (.cons rfl (by first | rfl | exact veq_int (by first | omega | (dsimp only; omega))) (.cons rfl (by first | rfl | exact veq_int (by first | omega | (dsimp only; omega))) (.cons rfl (by first | rfl | exact veq_int (by first | omega | (dsimp only; omega))) (.cons rfl (by first | rfl | exact veq_int (by first | omega | (dsimp only; omega))) (.cons rfl (by first | rfl | exact veq_int (by first | omega | (dsimp only; omega))) (.cons rfl (by first | rfl | exact veq_int (by first | omega | (dsimp only; omega))) (.cons rfl (by first | rfl | exact veq_int (by first | omega | (dsimp only; omega))) (.cons rfl (by first | rfl | exact veq_int (by first | omega | (dsimp only; omega))) (.cons rfl (by first | rfl | exact veq_int (by first | omega | (dsimp only; omega))) (.cons rfl (by first | rfl | exact veq_int (by first | omega | (dsimp only; omega))) .nil))))))))))) (.cons (HpDel.head).tail rfl rfl (fun _ h => h) (.cons HpDel.head rfl rfl (fun _ h => h) (.cons ((((HpDel.head).tail).tail).tail).tail rfl rfl (fun _ h => h) (.cons (((HpDel.head).tail).tail).tail rfl rfl (fun _ h => h) (.cons ((HpDel.head).tail).tail rfl rfl (fun _ h => h) (.cons (HpDel.head).tail rfl rfl (fun _ h => h) (.cons HpDel.head rfl rfl (fun _ h => h) .nil)))))))
                  · refine Xt_of_Qt rfl (lt_dec rfl) ((q_load rfl rfl m1 rfl (by first | exact True.intro | trivial | (first | omega | (dsimp only; omega)) | exact Fin.isLt _ | (dsimp only; omega)))) ?_
                    refine RA_quietA (g := 2) (hs := [0]) (ia := 3) rfl rfl (lt_dec rfl) (by kernel_rfl) ?_
                    refine SQ_cons rfl rfl rfl ((q_load rfl rfl m2 rfl (by first | exact True.intro | trivial | (first | omega | (dsimp only; omega)) | exact Fin.isLt _ | (dsimp only; omega)))) (lt_dec rfl) ?_
                    refine SQ_nil ?_
                    refine ⟨fun b18_13 => ?_, ?_⟩
                    · refine RA_one 4 rfl rfl (by kernel_rfl) (x_store rfl rfl rfl rfl rfl ((HpRep.head).tail) rfl (by first | trivial | (first | (first | omega | (dsimp only; omega)) | exact Fin.isLt _)) ?_)
                      refine RA_one 5 rfl rfl (by kernel_rfl) (x_store rfl rfl rfl rfl rfl HpRep.head rfl (by first | trivial | (first | (first | omega | (dsimp only; omega)) | exact Fin.isLt _)) ?_)
                      refine RA_done (by kernel_rfl) ?_
                      refine ⟨b17_11, b18_13, ?_, ?_⟩
                      · trivial
                      · exact Wk.pick (.cons rfl (by first | rfl | exact veq_int (by first | omega | (dsimp only; omega))) (.cons rfl (by first | rfl | exact veq_int (by first | omega | (dsimp only; omega))) (.cons rfl (by first | rfl | exact veq_int (by first | omega | (dsimp only; omega))) (.cons rfl (by first | rfl | exact veq_int (by first | omega | (dsimp only; omega))) (.cons rfl (by first | rfl | exact veq_int (by first | omega | (dsimp only; omega))) (.cons rfl (by first | rfl | exact veq_int (by first | omega | (dsimp only; omega))) (.cons rfl (by first | rfl | exact veq_int (by first | omega | (dsimp only; omega))) (.cons rfl (by first | rfl | exact veq_int (by first | omega | (dsimp only; omega))) (.cons rfl (by first | rfl | exact veq_int (by first | omega | (dsimp only; omega))) (.cons rfl (by first | rfl | exact veq_int (by first | omega | (dsimp only; omega))) (.cons rfl (by first | rfl | exact veq_int (by first | omega | (dsimp only; omega))) .nil))))))))))) (.cons (HpDel.head).tail rfl rfl (fun _ h => h) (.cons HpDel.head rfl rfl (fun _ h => h) (.cons ((((HpDel.head).tail).tail).tail).tail rfl rfl (fun _ h => h) (.cons (((HpDel.head).tail).tail).tail rfl rfl (fun _ h => h) (.cons ((HpDel.head).tail).tail rfl rfl (fun _ h => h) (.cons (HpDel.head).tail rfl rfl (fun _ h => h) (.cons HpDel.head rfl rfl (fun _ h => h) .nil)))))))
                    · refine RA_one 3 rfl rfl (by kernel_rfl) (x_alloc rfl (lt_dec rfl) fun b18_14 => ?_)
                      refine RA_one 4 rfl rfl (by kernel_rfl) (x_store rfl rfl rfl rfl rfl ((HpRep.head).tail) rfl (by first | trivial | (first | (first | omega | (dsimp only; omega)) | exact Fin.isLt _)) ?_)
                      refine RA_one 5 rfl rfl (by kernel_rfl) (x_store rfl rfl rfl rfl rfl HpRep.head rfl (by first | trivial | (first | (first | omega | (dsimp only; omega)) | exact Fin.isLt _)) ?_)
                      refine RA_done (by kernel_rfl) ?_
                      refine ⟨b17_11, b18_14, ?_, ?_⟩
                      · trivial
                      · exact Wk.pick (.cons rfl (by first | rfl | exact veq_int (by first | omega | (dsimp only; omega))) (.cons rfl (by first | rfl | exact veq_int (by first | omega | (dsimp only; omega))) (.cons rfl (by first | rfl | exact veq_int (by first | omega | (dsimp only; omega))) (.cons rfl (by first | rfl | exact veq_int (by first | omega | (dsimp only; omega))) (.cons rfl (by first | rfl | exact veq_int (by first | omega | (dsimp only; omega))) (.cons rfl (by first | rfl | exact veq_int (by first | omega | (dsimp only; omega))) (.cons rfl (by first | rfl | exact veq_int (by first | omega | (dsimp only; omega))) (.cons rfl (by first | rfl | exact veq_int (by first | omega | (dsimp only; omega))) (.cons rfl (by first | rfl | exact veq_int (by first | omega | (dsimp only; omega))) (.cons rfl (by first | rfl | exact veq_int (by first | omega | (dsimp only; omega))) (.cons rfl (by first | rfl | exact veq_int (by first | omega | (dsimp only; omega))) .nil))))))))))) (.cons (HpDel.head).tail rfl rfl (fun _ h => h) (.cons HpDel.head rfl rfl (fun _ h => h) (.cons ((((HpDel.head).tail).tail).tail).tail rfl rfl (fun _ h => h) (.cons (((HpDel.head).tail).tail).tail rfl rfl (fun _ h => h) (.cons ((HpDel.head).tail).tail rfl rfl (fun _ h => h) (.cons (HpDel.head).tail rfl rfl (fun _ h => h) (.cons HpDel.head rfl rfl (fun _ h => h) .nil)))))))
                  · refine x_alloc rfl (lt_dec rfl) fun b18_15 => ?_
                    refine RA_two 0 1 rfl rfl rfl rfl (by kernel_rfl) ?_ ?_
                    · refine Xt_of_Qt rfl (lt_dec rfl) ((q_load rfl rfl m3 rfl (by first | exact True.intro | trivial | (first | omega | (dsimp only; omega)) | exact Fin.isLt _ | (dsimp only; omega)))) ?_
                      refine RA_two 1 4 rfl rfl rfl rfl (by kernel_rfl) ?_ ?_
                      · refine Xt_of_Qt rfl (lt_dec rfl) ((q_load rfl rfl m2 rfl (by first | exact True.intro | trivial | (first | omega | (dsimp only; omega)) | exact Fin.isLt _ | (dsimp only; omega)))) ?_
                        refine RA_one 4 rfl rfl (by kernel_rfl) (x_store rfl rfl rfl rfl rfl ((HpRep.head).tail) rfl (by first | trivial | (first | (first | omega | (dsimp only; omega)) | exact Fin.isLt _)) ?_)
                        refine RA_one 5 rfl rfl (by kernel_rfl) (x_store rfl rfl rfl rfl rfl HpRep.head rfl (by first | trivial | (first | (first | omega | (dsimp only; omega)) | exact Fin.isLt _)) ?_)
                        refine RA_done (by kernel_rfl) ?_
                        refine ⟨b17_11, b18_15, ?_, ?_⟩
                        · trivial
                        · exact Wk.pick (.cons rfl (by first | rfl | exact veq_int (by first | omega | (dsimp only; omega))) (.cons rfl (by first | rfl | exact veq_int (by first | omega | (dsimp only; omega))) (.cons rfl (by first | rfl | exact veq_int (by first | omega | (dsimp only; omega))) (.cons rfl (by first | rfl | exact veq_int (by first | omega | (dsimp only; omega))) (.cons rfl (by first | rfl | exact veq_int (by first | omega | (dsimp only; omega))) (.cons rfl (by first | rfl | exact veq_int (by first | omega | (dsimp only; omega))) (.cons rfl (by first | rfl | exact veq_int (by first | omega | (dsimp only; omega))) (.cons rfl (by first | rfl | exact veq_int (by first | omega | (dsimp only; omega))) (.cons rfl (by first | rfl | exact veq_int (by first | omega | (dsimp only; omega))) (.cons rfl (by first | rfl | exact veq_int (by first | omega | (dsimp only; omega))) (.cons rfl (by first | rfl | exact veq_int (by first | omega | (dsimp only; omega))) .nil))))))))))) (.cons (HpDel.head).tail rfl rfl (fun _ h => h) (.cons HpDel.head rfl rfl (fun _ h => h) (.cons ((((HpDel.head).tail).tail).tail).tail rfl rfl (fun _ h => h) (.cons (((HpDel.head).tail).tail).tail rfl rfl (fun _ h => h) (.cons ((HpDel.head).tail).tail rfl rfl (fun _ h => h) (.cons (HpDel.head).tail rfl rfl (fun _ h => h) (.cons HpDel.head rfl rfl (fun _ h => h) .nil)))))))
                      · refine x_store rfl rfl rfl rfl rfl ((HpRep.head).tail) rfl (by first | trivial | (first | (first | omega | (dsimp only; omega)) | exact Fin.isLt _)) ?_
                        refine RA_quiet (g := 1) [1] (by kernel_rfl) (by kernel_rfl) (by kernel_rfl) (by kernel_rfl) ?_
                        refine WQ_cons rfl rfl rfl ((q_load rfl rfl m2 rfl (by first | exact True.intro | trivial | (first | omega | (dsimp only; omega)) | exact Fin.isLt _ | (dsimp only; omega)))) (lt_dec rfl) ?_
                        refine WQ_nil ?_
                        refine RA_one 5 rfl rfl (by kernel_rfl) (x_store rfl rfl rfl rfl rfl HpRep.head rfl (by first | trivial | (first | (first | omega | (dsimp only; omega)) | exact Fin.isLt _)) ?_)
                        refine RA_done (by kernel_rfl) ?_
                        refine ⟨b17_11, b18_15, ?_, ?_⟩
                        · trivial
                        · exact Wk.pick (.cons rfl (by first | rfl | exact veq_int (by first | omega | (dsimp only; omega))) (.cons rfl (by first | rfl | exact veq_int (by first | omega | (dsimp only; omega))) (.cons rfl (by first | rfl | exact veq_int (by first | omega | (dsimp only; omega))) (.cons rfl (by first | rfl | exact veq_int (by first | omega | (dsimp only; omega))) (.cons rfl (by first | rfl | exact veq_int (by first | omega | (dsimp only; omega))) (.cons rfl (by first | rfl | exact veq_int (by first | omega | (dsimp only; omega))) (.cons rfl (by first | rfl | exact veq_int (by first | omega | (dsimp only; omega))) (.cons rfl (by first | rfl | exact veq_int (by first | omega | (dsimp only; omega))) (.cons rfl (by first | rfl | exact veq_int (by first | omega | (dsimp only; omega))) (.cons rfl (by first | rfl | exact veq_int (by first | omega | (dsimp only; omega))) (.cons rfl (by first | rfl | exact veq_int (by first | omega | (dsimp only; omega))) .nil))))))))))) (.cons (HpDel.head).tail rfl rfl (fun _ h => h) (.cons HpDel.head rfl rfl (fun _ h => h) (.cons ((((HpDel.head).tail).tail).tail).tail rfl rfl (fun _ h => h) (.cons (((HpDel.head).tail).tail).tail rfl rfl (fun _ h => h) (.cons ((HpDel.head).tail).tail rfl rfl (fun _ h => h) (.cons (HpDel.head).tail rfl rfl (fun _ h => h) (.cons HpDel.head rfl rfl (fun _ h => h) .nil)))))))
                    · refine Xt_of_Qt rfl (lt_dec rfl) ((q_load rfl rfl m2 rfl (by first | exact True.intro | trivial | (first | omega | (dsimp only; omega)) | exact Fin.isLt _ | (dsimp only; omega)))) ?_
                      refine RA_quiet (g := 2) [0] (by kernel_rfl) (by kernel_rfl) (by kernel_rfl) (by kernel_rfl) ?_
                      refine WQ_cons rfl rfl rfl ((q_load rfl rfl m3 rfl (by first | exact True.intro | trivial | (first | omega | (dsimp only; omega)) | exact Fin.isLt _ | (dsimp only; omega)))) (lt_dec rfl) ?_
                      refine WQ_nil ?_
                      refine RA_one 4 rfl rfl (by kernel_rfl) (x_store rfl rfl rfl rfl rfl ((HpRep.head).tail) rfl (by first | trivial | (first | (first | omega | (dsimp only; omega)) | exact Fin.isLt _)) ?_)
                      refine RA_one 5 rfl rfl (by kernel_rfl) (x_store rfl rfl rfl rfl rfl HpRep.head rfl (by first | trivial | (first | (first | omega | (dsimp only; omega)) | exact Fin.isLt _)) ?_)
                      refine RA_done (by kernel_rfl) ?_
                      refine ⟨b17_11, b18_15, ?_, ?_⟩
                      · trivial
                      · exact Wk.pick (.cons rfl (by first | rfl | exact veq_int (by first | omega | (dsimp only; omega))) (.cons rfl (by first | rfl | exact veq_int (by first | omega | (dsimp only; omega))) (.cons rfl (by first | rfl | exact veq_int (by first | omega | (dsimp only; omega))) (.cons rfl (by first | rfl | exact veq_int (by first | omega | (dsimp only; omega))) (.cons rfl (by first | rfl | exact veq_int (by first | omega | (dsimp only; omega))) (.cons rfl (by first | rfl | exact veq_int (by first | omega | (dsimp only; omega))) (.cons rfl (by first | rfl | exact veq_int (by first | omega | (dsimp only; omega))) (.cons rfl (by first | rfl | exact veq_int (by first | omega | (dsimp only; omega))) (.cons rfl (by first | rfl | exact veq_int (by first | omega | (dsimp only; omega))) (.cons rfl (by first | rfl | exact veq_int (by first | omega | (dsimp only; omega))) (.cons rfl (by first | rfl | exact veq_int (by first | omega | (dsimp only; omega))) .nil))))))))))) (.cons (HpDel.head).tail rfl rfl (fun _ h => h) (.cons HpDel.head rfl rfl (fun _ h => h) (.cons ((((HpDel.head).tail).tail).tail).tail rfl rfl (fun _ h => h) (.cons (((HpDel.head).tail).tail).tail rfl rfl (fun _ h => h) (.cons ((HpDel.head).tail).tail rfl rfl (fun _ h => h) (.cons (HpDel.head).tail rfl rfl (fun _ h => h) (.cons HpDel.head rfl rfl (fun _ h => h) .nil)))))))
                · refine x_alloc rfl (lt_dec rfl) fun b18_16 => ?_
                  refine RA_three 0 1 2 rfl rfl rfl rfl rfl rfl (by kernel_rfl) ?_ ?_ ?_
                  · refine Xt_of_Qt rfl (lt_dec rfl) ((q_load rfl rfl m2 rfl (by first | exact True.intro | trivial | (first | omega | (dsimp only; omega)) | exact Fin.isLt _ | (dsimp only; omega)))) ?_
                    refine RA_two 1 2 rfl rfl rfl rfl (by kernel_rfl) ?_ ?_
                    · refine Xt_of_Qt rfl (lt_dec rfl) ((q_load rfl rfl m1 rfl (by first | exact True.intro | trivial | (first | omega | (dsimp only; omega)) | exact Fin.isLt _ | (dsimp only; omega)))) ?_
                      refine RA_one 2 rfl rfl (by kernel_rfl) (x_alloc rfl (lt_dec rfl) fun b17_12 => ?_)
                      refine RA_one 4 rfl rfl (by kernel_rfl) (x_store rfl rfl rfl rfl rfl HpRep.head rfl (by first | trivial | (first | (first | omega | (dsimp only; omega)) | exact Fin.isLt _)) ?_)
                      refine RA_one 5 rfl rfl (by kernel_rfl) (x_store rfl rfl rfl rfl rfl ((HpRep.head).tail) rfl (by first | trivial | (first | (first | omega | (dsimp only; omega)) | exact Fin.isLt _)) ?_)
                      refine RA_done (by kernel_rfl) ?_
                      refine ⟨b17_12, b18_16, ?_, ?_⟩
                      · trivial
                      · exact Wk.pick (.cons rfl (by first | rfl | exact veq_int (by first | omega | (dsimp only; omega))) (.cons rfl (by first | rfl | exact veq_int (by first | omega | (dsimp only; omega))) (.cons rfl (by first | rfl | exact veq_int (by first | omega | (dsimp only; omega))) (.cons rfl (by first | rfl | exact veq_int (by first | omega | (dsimp only; omega))) (.cons rfl (by first | rfl | exact veq_int (by first | omega | (dsimp only; omega))) (.cons rfl (by first | rfl | exact veq_int (by first | omega | (dsimp only; omega))) (.cons rfl (by first | rfl | exact veq_int (by first | omega | (dsimp only; omega))) (.cons rfl (by first | rfl | exact veq_int (by first | omega | (dsimp only; omega))) (.cons rfl (by first | rfl | exact veq_int (by first | omega | (dsimp only; omega))) (.cons rfl (by first | rfl | exact veq_int (by first | omega | (dsimp only; omega))) (.cons rfl (by first | rfl | exact veq_int (by first | omega | (dsimp only; omega))) .nil))))))))))) (.cons HpDel.head rfl rfl (fun _ h => h) (.cons HpDel.head rfl rfl (fun _ h => h) (.cons ((((HpDel.head).tail).tail).tail).tail rfl rfl (fun _ h => h) (.cons (((HpDel.head).tail).tail).tail rfl rfl (fun _ h => h) (.cons ((HpDel.head).tail).tail rfl rfl (fun _ h => h) (.cons (HpDel.head).tail rfl rfl (fun _ h => h) (.cons HpDel.head rfl rfl (fun _ h => h) .nil)))))))
                    · refine x_alloc rfl (lt_dec rfl) fun b17_13 => ?_
                      refine RA_two 1 4 rfl rfl rfl rfl (by kernel_rfl) ?_ ?_
                      · refine Xt_of_Qt rfl (lt_dec rfl) ((q_load rfl rfl m2 rfl (by first | exact True.intro | trivial | (first | omega | (dsimp only; omega)) | exact Fin.isLt _ | (dsimp only; omega)))) ?_
                        refine RA_one 4 rfl rfl (by kernel_rfl) (x_store rfl rfl rfl rfl rfl HpRep.head rfl (by first | trivial | (first | (first | omega | (dsimp only; omega)) | exact Fin.isLt _)) ?_)
                        refine RA_one 5 rfl rfl (by kernel_rfl) (x_store rfl rfl rfl rfl rfl ((HpRep.head).tail) rfl (by first | trivial | (first | (first | omega | (dsimp only; omega)) | exact Fin.isLt _)) ?_)
                        refine RA_done (by kernel_rfl) ?_
                        refine ⟨b17_13, b18_16, ?_, ?_⟩
                        · trivial
                        · exact Wk.pick (.cons rfl (by first | rfl | exact veq_int (by first | omega | (dsimp only; omega))) (.cons rfl (by first | rfl | exact veq_int (by first | omega | (dsimp only; omega))) (.cons rfl (by first | rfl | exact veq_int (by first | omega | (dsimp only; omega))) (.cons rfl (by first | rfl | exact veq_int (by first | omega | (dsimp only; omega))) (.cons rfl (by first | rfl | exact veq_int (by first | omega | (dsimp only; omega))) (.cons rfl (by first | rfl | exact veq_int (by first | omega | (dsimp only; omega))) (.cons rfl (by first | rfl | exact veq_int (by first | omega | (dsimp only; omega))) (.cons rfl (by first | rfl | exact veq_int (by first | omega | (dsimp only; omega))) (.cons rfl (by first | rfl | exact veq_int (by first | omega | (dsimp only; omega))) (.cons rfl (by first | rfl | exact veq_int (by first | omega | (dsimp only; omega))) (.cons rfl (by first | rfl | exact veq_int (by first | omega | (dsimp only; omega))) .nil))))))))))) (.cons HpDel.head rfl rfl (fun _ h => h) (.cons HpDel.head rfl rfl (fun _ h => h) (.cons ((((HpDel.head).tail).tail).tail).tail rfl rfl (fun _ h => h) (.cons (((HpDel.head).tail).tail).tail rfl rfl (fun _ h => h) (.cons ((HpDel.head).tail).tail rfl rfl (fun _ h => h) (.cons (HpDel.head).tail rfl rfl (fun _ h => h) (.cons HpDel.head rfl rfl (fun _ h => h) .nil)))))))
                      · refine x_store rfl rfl rfl rfl rfl HpRep.head rfl (by first | trivial | (first | (first | omega | (dsimp only; omega)) | exact Fin.isLt _)) ?_
                        refine RA_quiet (g := 1) [1] (by kernel_rfl) (by kernel_rfl) (by kernel_rfl) (by kernel_rfl) ?_
                        refine WQ_cons rfl rfl rfl ((q_load rfl rfl m2 rfl (by first | exact True.intro | trivial | (first | omega | (dsimp only; omega)) | exact Fin.isLt _ | (dsimp only; omega)))) (lt_dec rfl) ?_
                        refine WQ_nil ?_
                        refine RA_one 5 rfl rfl (by kernel_rfl) (x_store rfl rfl rfl rfl rfl ((HpRep.head).tail) rfl (by first | trivial | (first | (first | omega | (dsimp only; omega)) | exact Fin.isLt _)) ?_)
                        refine RA_done (by kernel_rfl) ?_
                        refine ⟨b17_13, b18_16, ?_, ?_⟩
                        · trivial
                        · exact Wk.pick (.cons rfl (by first | rfl | exact veq_int (by first | omega | (dsimp only; omega))) (.cons rfl (by first | rfl | exact veq_int (by first | omega | (dsimp only; omega))) (.cons rfl (by first | rfl | exact veq_int (by first | omega | (dsimp only; omega))) (.cons rfl (by first | rfl | exact veq_int (by first | omega | (dsimp only; omega))) (.cons rfl (by first | rfl | exact veq_int (by first | omega | (dsimp only; omega))) (.cons rfl (by first | rfl | exact veq_int (by first | omega | (dsimp only; omega))) (.cons rfl (by first | rfl | exact veq_int (by first | omega | (dsimp only; omega))) (.cons rfl (by first | rfl | exact veq_int (by first | omega | (dsimp only; omega))) (.cons rfl (by first | rfl | exact veq_int (by first | omega | (dsimp only; omega))) (.cons rfl (by first | rfl | exact veq_int (by first | omega | (dsimp only; omega))) (.cons rfl (by first | rfl | exact veq_int (by first | omega | (dsimp only; omega))) .nil))))))))))) (.cons HpDel.head rfl rfl (fun _ h => h) (.cons HpDel.head rfl rfl (fun _ h => h) (.cons ((((HpDel.head).tail).tail).tail).tail rfl rfl (fun _ h => h) (.cons (((HpDel.head).tail).tail).tail rfl rfl (fun _ h => h) (.cons ((HpDel.head).tail).tail rfl rfl (fun _ h => h) (.cons (HpDel.head).tail rfl rfl (fun _ h => h) (.cons HpDel.head rfl rfl (fun _ h => h) .nil)))))))
                  · refine Xt_of_Qt rfl (lt_dec rfl) ((q_load rfl rfl m1 rfl (by first | exact True.intro | trivial | (first | omega | (dsimp only; omega)) | exact Fin.isLt _ | (dsimp only; omega)))) ?_
                    refine RA_quietA (g := 2) (hs := [0]) (ia := 2) rfl rfl (lt_dec rfl) (by kernel_rfl) ?_
                    refine SQ_cons rfl rfl rfl ((q_load rfl rfl m2 rfl (by first | exact True.intro | trivial | (first | omega | (dsimp only; omega)) | exact Fin.isLt _ | (dsimp only; omega)))) (lt_dec rfl) ?_
                    refine SQ_nil ?_
                    refine ⟨fun b17_14 => ?_, ?_⟩
                    · refine RA_one 4 rfl rfl (by kernel_rfl) (x_store rfl rfl rfl rfl rfl HpRep.head rfl (by first | trivial | (first | (first | omega | (dsimp only; omega)) | exact Fin.isLt _)) ?_)
                      refine RA_one 5 rfl rfl (by kernel_rfl) (x_store rfl rfl rfl rfl rfl ((HpRep.head).tail) rfl (by first | trivial | (first | (first | omega | (dsimp only; omega)) | exact Fin.isLt _)) ?_)
                      refine RA_done (by kernel_rfl) ?_
                      refine ⟨b17_14, b18_16, ?_, ?_⟩
                      · trivial
                      · exact Wk.pick (.cons rfl (by first | rfl | exact veq_int (by first | omega | (dsimp only; omega))) (.cons rfl (by first | rfl | exact veq_int (by first | omega | (dsimp only; omega))) (.cons rfl (by first | rfl | exact veq_int (by first | omega | (dsimp only; omega))) (.cons rfl (by first | rfl | exact veq_int (by first | omega | (dsimp only; omega))) (.cons rfl (by first | rfl | exact veq_int (by first | omega | (dsimp only; omega))) (.cons rfl (by first | rfl | exact veq_int (by first | omega | (dsimp only; omega))) (.cons rfl (by first | rfl | exact veq_int (by first | omega | (dsimp only; omega))) (.cons rfl (by first | rfl | exact veq_int (by first | omega | (dsimp only; omega))) (.cons rfl (by first | rfl | exact veq_int (by first | omega | (dsimp only; omega))) (.cons rfl (by first | rfl | exact veq_int (by first | omega | (dsimp only; omega))) (.cons rfl (by first | rfl | exact veq_int (by first | omega | (dsimp only; omega))) .nil))))))))))) (.cons HpDel.head rfl rfl (fun _ h => h) (.cons HpDel.head rfl rfl (fun _ h => h) (.cons ((((HpDel.head).tail).tail).tail).tail rfl rfl (fun _ h => h) (.cons (((HpDel.head).tail).tail).tail rfl rfl (fun _ h => h) (.cons ((HpDel.head).tail).tail rfl rfl (fun _ h => h) (.cons (HpDel.head).tail rfl rfl (fun _ h => h) (.cons HpDel.head rfl rfl (fun _ h => h) .nil)))))))
                    · refine RA_one 2 rfl rfl (by kernel_rfl) (x_alloc rfl (lt_dec rfl) fun b17_15 => ?_)
                      refine RA_one 4 rfl rfl (by kernel_rfl) (x_store rfl rfl rfl rfl rfl HpRep.head rfl (by first | trivial | (first | (first | omega | (dsimp only; omega)) | exact Fin.isLt _)) ?_)
                      refine RA_one 5 rfl rfl (by kernel_rfl) (x_store rfl rfl rfl rfl rfl ((HpRep.head).tail) rfl (by first | trivial | (first | (first | omega | (dsimp only; omega)) | exact Fin.isLt _)) ?_)
                      refine RA_done (by kernel_rfl) ?_
                      refine ⟨b17_15, b18_16, ?_, ?_⟩
                      · trivial
                      · exact Wk.pick (.cons rfl (by first | rfl | exact veq_int (by first | omega | (dsimp only; omega))) (.cons rfl (by first | rfl | exact veq_int (by first | omega | (dsimp only; omega))) (.cons rfl (by first | rfl | exact veq_int (by first | omega | (dsimp only; omega))) (.cons rfl (by first | rfl | exact veq_int (by first | omega | (dsimp only; omega))) (.cons rfl (by first | rfl | exact veq_int (by first | omega | (dsimp only; omega))) (.cons rfl (by first | rfl | exact veq_int (by first | omega | (dsimp only; omega))) (.cons rfl (by first | rfl | exact veq_int (by first | omega | (dsimp only; omega))) (.cons rfl (by first | rfl | exact veq_int (by first | omega | (dsimp only; omega))) (.cons rfl (by first | rfl | exact veq_int (by first | omega | (dsimp only; omega))) (.cons rfl (by first | rfl | exact veq_int (by first | omega | (dsimp only; omega))) (.cons rfl (by first | rfl | exact veq_int (by first | omega | (dsimp only; omega))) .nil))))))))))) (.cons HpDel.head rfl rfl (fun _ h => h) (.cons HpDel.head rfl rfl (fun _ h => h) (.cons ((((HpDel.head).tail).tail).tail).tail rfl rfl (fun _ h => h) (.cons (((HpDel.head).tail).tail).tail rfl rfl (fun _ h => h) (.cons ((HpDel.head).tail).tail rfl rfl (fun _ h => h) (.cons (HpDel.head).tail rfl rfl (fun _ h => h) (.cons HpDel.head rfl rfl (fun _ h => h) .nil)))))))
                  · refine x_alloc rfl (lt_dec rfl) fun b17_16 => ?_
                    refine RA_two 0 1 rfl rfl rfl rfl (by kernel_rfl) ?_ ?_
                    · refine Xt_of_Qt rfl (lt_dec rfl) ((q_load rfl rfl m3 rfl (by first | exact True.intro | trivial | (first | omega | (dsimp only; omega)) | exact Fin.isLt _ | (dsimp only; omega)))) ?_
                      refine RA_two 1 4 rfl rfl rfl rfl (by kernel_rfl) ?_ ?_
                      · refine Xt_of_Qt rfl (lt_dec rfl) ((q_load rfl rfl m2 rfl (by first | exact True.intro | trivial | (first | omega | (dsimp only; omega)) | exact Fin.isLt _ | (dsimp only; omega)))) ?_
                        refine RA_one 4 rfl rfl (by kernel_rfl) (x_store rfl rfl rfl rfl rfl HpRep.head rfl (by first | trivial | (first | (first | omega | (dsimp only; omega)) | exact Fin.isLt _)) ?_)
                        refine RA_one 5 rfl rfl (by kernel_rfl) (x_store rfl rfl rfl rfl rfl ((HpRep.head).tail) rfl (by first | trivial | (first | (first | omega | (dsimp only; omega)) | exact Fin.isLt _)) ?_)
                        refine RA_done (by kernel_rfl) ?_
                        refine ⟨b17_16, b18_16, ?_, ?_⟩
                        · trivial
                        · exact Wk.pick (.cons rfl (by first | rfl | exact veq_int (by first | omega | (dsimp only; omega))) (.cons rfl (by first | rfl | exact veq_int (by first | omega | (dsimp only; omega))) (.cons rfl (by first | rfl | exact veq_int (by first | omega | (dsimp only; omega))) (.cons rfl (by first | rfl | exact veq_int (by first | omega | (dsimp only; omega))) (.cons rfl (by first | rfl | exact veq_int (by first | omega | (dsimp only; omega))) (.cons rfl (by first | rfl | exact veq_int (by first | omega | (dsimp only; omega))) (.cons rfl (by first | rfl | exact veq_int (by first | omega | (dsimp only; omega))) (.cons rfl (by first | rfl | exact veq_int (by first | omega | (dsimp only; omega))) (.cons rfl (by first | rfl | exact veq_int (by first | omega | (dsimp only; omega))) (.cons rfl (by first | rfl | exact veq_int (by first | omega | (dsimp only; omega))) (.cons rfl (by first | rfl | exact veq_int (by first | omega | (dsimp only; omega))) .nil))))))))))) (.cons HpDel.head rfl rfl (fun _ h => h) (.cons HpDel.head rfl rfl (fun _ h => h) (.cons ((((HpDel.head).tail).tail).tail).tail rfl rfl (fun _ h => h) (.cons (((HpDel.head).tail).tail).tail rfl rfl (fun _ h => h) (.cons ((HpDel.head).tail).tail rfl rfl (fun _ h => h) (.cons (HpDel.head).tail rfl rfl (fun _ h => h) (.cons HpDel.head rfl rfl (fun _ h => h) .nil)))))))
                      · refine x_store rfl rfl rfl rfl rfl HpRep.head rfl (by first | trivial | (first | (first | omega | (dsimp only; omega)) | exact Fin.isLt _)) ?_
                        refine RA_quiet (g := 1) [1] (by kernel_rfl) (by kernel_rfl) (by kernel_rfl) (by kernel_rfl) ?_
                        refine WQ_cons rfl rfl rfl ((q_load rfl rfl m2 rfl (by first | exact True.intro | trivial | (first | omega | (dsimp only; omega)) | exact Fin.isLt _ | (dsimp only; omega)))) (lt_dec rfl) ?_
                        refine WQ_nil ?_
                        refine RA_one 5 rfl rfl (by kernel_rfl) (x_store rfl rfl rfl rfl rfl ((HpRep.head).tail) rfl (by first | trivial | (first | (first | omega | (dsimp only; omega)) | exact Fin.isLt _)) ?_)
                        refine RA_done (by kernel_rfl) ?_
                        refine ⟨b17_16, b18_16, ?_, ?_⟩
                        · trivial
                        · exact Wk.pick (.cons rfl (by first | rfl | exact veq_int (by first | omega | (dsimp only; omega))) (.cons rfl (by first | rfl | exact veq_int (by first | omega | (dsimp only; omega))) (.cons rfl (by first | rfl | exact veq_int (by first | omega | (dsimp only; omega))) (.cons rfl (by first | rfl | exact veq_int (by first | omega | (dsimp only; omega))) (.cons rfl (by first | rfl | exact veq_int (by first | omega | (dsimp only; omega))) (.cons rfl (by first | rfl | exact veq_int (by first | omega | (dsimp only; omega))) (.cons rfl (by first | rfl | exact veq_int (by first | omega | (dsimp only; omega))) (.cons rfl (by first | rfl | exact veq_int (by first | omega | (dsimp only; omega))) (.cons rfl (by first | rfl | exact veq_int (by first | omega | (dsimp only; omega))) (.cons rfl (by first | rfl | exact veq_int (by first | omega | (dsimp only; omega))) (.cons rfl (by first | rfl | exact veq_int (by first | omega | (dsimp only; omega))) .nil))))))))))) (.cons HpDel.head rfl rfl (fun _ h => h) (.cons HpDel.head rfl rfl (fun _ h => h) (.cons ((((HpDel.head).tail).tail).tail).tail rfl rfl (fun _ h => h) (.cons (((HpDel.head).tail).tail).tail rfl rfl (fun _ h => h) (.cons ((HpDel.head).tail).tail rfl rfl (fun _ h => h) (.cons (HpDel.head).tail rfl rfl (fun _ h => h) (.cons HpDel.head rfl rfl (fun _ h => h) .nil)))))))
                    · refine Xt_of_Qt rfl (lt_dec rfl) ((q_load rfl rfl m2 rfl (by first | exact True.intro | trivial | (first | omega | (dsimp only; omega)) | exact Fin.isLt _ | (dsimp only; omega)))) ?_
                      refine RA_quiet (g := 2) [0] (by kernel_rfl) (by kernel_rfl) (by kernel_rfl) (by kernel_rfl) ?_
                      refine WQ_cons rfl rfl rfl ((q_load rfl rfl m3 rfl (by first | exact True.intro | trivial | (first | omega | (dsimp only; omega)) | exact Fin.isLt _ | (dsimp only; omega)))) (lt_dec rfl) ?_
                      refine WQ_nil ?_
                      refine RA_one 4 rfl rfl (by kernel_rfl) (x_store rfl rfl rfl rfl rfl HpRep.head rfl (by first | trivial | (first | (first | omega | (dsimp only; omega)) | exact Fin.isLt _)) ?_)
                      refine RA_one 5 rfl rfl (by kernel_rfl) (x_store rfl rfl rfl rfl rfl ((HpRep.head).tail) rfl (by first | trivial | (first | (first | omega | (dsimp only; omega)) | exact Fin.isLt _)) ?_)
                      refine RA_done (by kernel_rfl) ?_
                      refine ⟨b17_16, b18_16, ?_, ?_⟩
                      · trivial
                      · exact Wk.pick (.cons rfl (by first | rfl | exact veq_int (by first | omega | (dsimp only; omega))) (.cons rfl (by first | rfl | exact veq_int (by first | omega | (dsimp only; omega))) (.cons rfl (by first | rfl | exact veq_int (by first | omega | (dsimp only; omega))) (.cons rfl (by first | rfl | exact veq_int (by first | omega | (dsimp only; omega))) (.cons rfl (by first | rfl | exact veq_int (by first | omega | (dsimp only; omega))) (.cons rfl (by first | rfl | exact veq_int (by first | omega | (dsimp only; omega))) (.cons rfl (by first | rfl | exact veq_int (by first | omega | (dsimp only; omega))) (.cons rfl (by first | rfl | exact veq_int (by first | omega | (dsimp only; omega))) (.cons rfl (by first | rfl | exact veq_int (by first | omega | (dsimp only; omega))) (.cons rfl (by first | rfl | exact veq_int (by first | omega | (dsimp only; omega))) (.cons rfl (by first | rfl | exact veq_int (by first | omega | (dsimp only; omega))) .nil))))))))))) (.cons HpDel.head rfl rfl (fun _ h => h) (.cons HpDel.head rfl rfl (fun _ h => h) (.cons ((((HpDel.head).tail).tail).tail).tail rfl rfl (fun _ h => h) (.cons (((HpDel.head).tail).tail).tail rfl rfl (fun _ h => h) (.cons ((HpDel.head).tail).tail rfl rfl (fun _ h => h) (.cons (HpDel.head).tail rfl rfl (fun _ h => h) (.cons HpDel.head rfl rfl (fun _ h => h) .nil)))))))
              · rintro s' ⟨a17, a18, _, hw⟩
                refine W_wk hw ?_
                clear hw s'
                refine W_seq ?_
                refine W_region ?_
                refine Ops_p (p_move rfl) (lt_dec rfl) ?_
                first | refine Ops_p (p_ix1 _ rfl rfl rfl rfl rfl rfl (by first | (first | omega | (dsimp only; omega)) | exact Fin.isLt _)) (lt_dec rfl) ?_ | refine Ops_p (p_ix1s _ rfl rfl rfl rfl rfl rfl (by first | (first | omega | (dsimp only; omega)) | exact Fin.isLt _)) (lt_dec rfl) ?_
                refine Ops_x rfl (x_store rfl rfl rfl rfl rfl HpRep.head rfl (by first | trivial | (first | (first | omega | (dsimp only; omega)) | exact Fin.isLt _)) ?_)
                refine Ops_nil ?_
                refine W_seq ?_
                refine W_region ?_
                refine Ops_p (p_move rfl) (lt_dec rfl) ?_
                first | refine Ops_p (p_ix1 (t (10 * x + y)).val rfl rfl rfl rfl rfl rfl (by first | (first | omega | (dsimp only; omega)) | exact Fin.isLt _)) (lt_dec rfl) ?_ | refine Ops_p (p_ix1s (t (10 * x + y)).val rfl rfl rfl rfl rfl rfl (by first | (first | omega | (dsimp only; omega)) | exact Fin.isLt _)) (lt_dec rfl) ?_
                refine Ops_x rfl (x_store rfl rfl rfl rfl rfl ((HpRep.head).tail) rfl (by first | trivial | (first | (first | omega | (dsimp only; omega)) | exact Fin.isLt _)) ?_)
                refine Ops_nil ?_
                refine W_seq ?_
                refine W_region ?_
                refine Ops_p (p_move rfl) (lt_dec rfl) ?_
                refine Ops_p (p_move rfl) (lt_dec rfl) ?_
                refine Ops_p ((p_conv rfl rfl rfl (by exact ⟨by omega, by omega⟩)).eq (veq_byte (by omega))) (lt_dec rfl) ?_
                first | refine Ops_p (p_ix1 _ rfl rfl rfl rfl rfl rfl (by first | (first | omega | (dsimp only; omega)) | exact Fin.isLt _)) (lt_dec rfl) ?_ | refine Ops_p (p_ix1s _ rfl rfl rfl rfl rfl rfl (by first | (first | omega | (dsimp only; omega)) | exact Fin.isLt _)) (lt_dec rfl) ?_
                refine Ops_x rfl (x_store rfl rfl rfl rfl rfl (((((HpRep.head).tail).tail).tail).tail) rfl (by first | trivial | (first | (first | omega | (dsimp only; omega)) | exact Fin.isLt _)) ?_)
                refine Ops_nil ?_
                have hcy : c y = false := (by assumption)
                have hgo := tvG_go (t := t) (n := n.toNat) hcy hev
                refine W_region ?_
                refine Ops_q (q_load rfl rfl m3 rfl (by first | exact True.intro | trivial | (first | omega | (dsimp only; omega)) | exact Fin.isLt _ | (dsimp only; omega))) (lt_dec rfl) ?_
                refine Ops_q (q_load rfl rfl m4 rfl (by first | exact True.intro | trivial | (first | omega | (dsimp only; omega)) | exact Fin.isLt _ | (dsimp only; omega))) (lt_dec rfl) ?_
                refine Ops_p (p_move rfl) (lt_dec rfl) ?_
                refine Ops_p (p_add rfl rfl (by exact ⟨(by first | omega | (dsimp only; omega)), (by first | omega | (dsimp only; omega))⟩)) (lt_dec rfl) ?_
                refine Ops_q (q_load rfl rfl m0 rfl (by first | exact True.intro | trivial | (first | omega | (dsimp only; omega)) | exact Fin.isLt _ | (dsimp only; omega))) (lt_dec rfl) ?_
                refine Ops_q (q_load rfl rfl m1 rfl (by first | exact True.intro | trivial | (first | omega | (dsimp only; omega)) | exact Fin.isLt _ | (dsimp only; omega))) (lt_dec rfl) ?_
                refine Ops_p (p_move rfl) (lt_dec rfl) ?_
                refine Ops_p (p_move rfl) (lt_dec rfl) ?_
                refine Ops_x rfl (x_callT en_spec_l09Across rfl ((ih (x + 1) (fun j => if j = x then Fin.ofNat 256 y else pq j) (setB c y) (setB e (t (10 * x + y)).val) vv.1 vv.2 ll hs (by omega) (by rw [← hgo]; omega) (by omega))) (HpDels.cons ((HpDel.head).tail).tail HpDels.nil) (Vw.none _) (fun _ => (HpDels.cons ((HpDel.head).tail).tail HpDels.nil)) (lt_dec rfl) fun z2 hz2 => ?_)
                refine Ops_p (p_assign rfl) (lt_dec rfl) ?_
                refine Ops_nil ?_
                refine W_region ?_
                refine Ops_p (p_move rfl) (lt_dec rfl) ?_
                refine Ops_p (p_add rfl rfl (by exact ⟨(by first | omega | (dsimp only; omega)), (by first | omega | (dsimp only; omega))⟩)) (lt_dec rfl) ?_
                refine Ops_p (p_assign rfl) (lt_dec rfl) ?_
                refine Ops_nil ?_
                refine Exists.intro (y + 1, z2.1, z2.2, (fun j => if j = x then Fin.ofNat 256 y else pq j)) (And.intro ?_ (And.intro ?_ ?_))
                · first | exact ⟨by show _ ≤ _; omega, hz2.trans (by rw [hll, ← hgo]; show _ = _ + (sumN _ y + _); omega)⟩ | exact ⟨by show _ ≤ _; omega, hll.trans (by show _ = _ + (sumN _ y + _); rw [tvG_skip (by first | exact .inl (by assumption) | exact .inr (by assumption))]; rfl)⟩
                · show _ < _; omega
                · exact Wk.pick (.cons rfl (by first | rfl | exact veq_int (by first | omega | (dsimp only; omega))) (.cons rfl (by first | rfl | exact veq_int (by first | omega | (dsimp only; omega))) (.cons rfl (by first | rfl | exact veq_int (by first | omega | (dsimp only; omega))) (.cons rfl (by first | rfl | exact veq_int (by first | omega | (dsimp only; omega))) (.cons rfl (by first | rfl | exact veq_int (by first | omega | (dsimp only; omega))) (.cons rfl (by first | rfl | exact veq_int (by first | omega | (dsimp only; omega))) (.cons rfl (by first | rfl | exact veq_int (by first | omega | (dsimp only; omega))) (.cons rfl (by first | rfl | exact veq_int (by first | omega | (dsimp only; omega))) .nil)))))))) (.cons ((((((HpDel.head).tail).tail).tail).tail).tail).tail rfl rfl (fun _ h => h) (.cons (((((HpDel.head).tail).tail).tail).tail).tail rfl rfl (fun _ h => h) (.cons ((((HpDel.head).tail).tail).tail).tail rfl rfl (imp_var rfl rfl) (.cons (((HpDel.head).tail).tail).tail rfl rfl (fun _ h => h) (.cons ((HpDel.head).tail).tail rfl rfl (own_eq rfl) .nil)))))
          · try simp only [bs] at hg2
            refine Ops_guard_f rfl rfl rfl (lt_dec rfl) ?_
            refine Ops_guard_f rfl rfl rfl (lt_dec rfl) ?_
            refine Ops_p (p_pick_t rfl rfl) (lt_dec rfl) ?_
            refine Ops_nil ?_
            refine W_true rfl ?_
            refine W_exit ?_
            refine W_region ?_
            refine Ops_p (p_move rfl) (lt_dec rfl) ?_
            refine Ops_p (p_add rfl rfl (by exact ⟨(by first | omega | (dsimp only; omega)), (by first | omega | (dsimp only; omega))⟩)) (lt_dec rfl) ?_
            refine Ops_p (p_assign rfl) (lt_dec rfl) ?_
            refine Ops_nil ?_
            refine Exists.intro (y + 1, vv, ll, pq) (And.intro ?_ (And.intro ?_ ?_))
            · first | exact ⟨by show _ ≤ _; omega, hz2.trans (by rw [hll, ← hgo]; show _ = _ + (sumN _ y + _); omega)⟩ | exact ⟨by show _ ≤ _; omega, hll.trans (by show _ = _ + (sumN _ y + _); rw [tvG_skip (by first | exact .inl (by assumption) | exact .inr (by assumption))]; rfl)⟩
            · show _ < _; omega
            · exact Wk.intro (.cons rfl (by first | rfl | exact veq_int (by first | omega | (dsimp only; omega))) (.cons rfl (by first | rfl | exact veq_int (by first | omega | (dsimp only; omega))) (.cons rfl (by first | rfl | exact veq_int (by first | omega | (dsimp only; omega))) (.cons rfl (by first | rfl | exact veq_int (by first | omega | (dsimp only; omega))) (.cons rfl (by first | rfl | exact veq_int (by first | omega | (dsimp only; omega))) (.cons rfl (by first | rfl | exact veq_int (by first | omega | (dsimp only; omega))) (.cons rfl (by first | rfl | exact veq_int (by first | omega | (dsimp only; omega))) (.cons rfl (by first | rfl | exact veq_int (by first | omega | (dsimp only; omega))) .nil)))))))) (.keep rfl rfl (fun _ h => h) (.keep rfl rfl (fun _ h => h) (.keep rfl rfl (imp_var rfl rfl) (.keep rfl rfl (fun _ h => h) (.keep rfl rfl (own_eq rfl) .nil)))))
        · try simp only [bs] at h2
          exfalso; omega
      · try simp only [bs] at hg1
        refine Ops_guard_f rfl rfl rfl (lt_dec rfl) ?_
        refine Ops_guard_f rfl rfl rfl (lt_dec rfl) ?_
        refine Ops_guard_f rfl rfl rfl (lt_dec rfl) ?_
        refine Ops_p (p_pick_f rfl rfl) (lt_dec rfl) ?_
        refine Ops_nil ?_
        refine W_false rfl ?_
        refine W_exit ?_
        refine W_seq ?_
        refine W_region ?_
        refine Ops_p (p_move rfl) (lt_dec rfl) ?_
        refine Ops_p (p_assign rfl) (lt_dec rfl) ?_
        refine Ops_nil ?_
        refine W_ret ?_
        refine Exists.intro _ (And.intro (.cons (.tmp rfl) .nil) (Exists.intro (vv, ll) (And.intro ?_ (And.intro ?_ (And.intro (.cons ((((HpDel.head).tail).tail).tail).tail rfl (own_eq rfl) .nil) rfl)))))
        · rw [hll, htv, show y = n.toNat by omega]
        · rfl
theorem w_spec_l09Across {t : Nat → Fin 256} {n : Int} {x : Nat} {pp : Nat → Fin 256} {c e : Nat → Bool} {v : Value} {hv : v.oneCell' = true} {l : List (Nat → Fin 256)} (hs : SqP n t) (hx : x ≤ n.toNat) (hb : ((l.length + (tvX t n.toNat x c e) : Nat) : Int) ≤ 999999) : CT (X := V1 × List (Nat → Fin 256)) Try.prog 93 (vals [.agg [.int .i64 n, .arr8 100 t], .arr8 10 pp, .int .i64 (x : Int), .barr 10 c, .barr 10 e, .int .i64 1000000, .raw v hv]) [own v 84 (.arrs 10 l)] [] (fun z => z.2.length = l.length + (tvX t n.toNat x c e)) (fun z => .raw z.1.1 z.1.2) (fun z => [own z.1.1 84 (.arrs 10 z.2)]) := w_spec_l09Across_all (t := t) (n := n) _ x pp c e v hv l hs hx hb (Nat.lt_succ_self _)
end Go.Proofs.Ytdcpggdbjllmpaa
