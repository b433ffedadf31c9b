/- What the Go function (impl.classes).join does, shown of its loaded text; its conditions stand in the statement. -/
import Derived.Test.YtdcpggdbjllmpabTy
import Derived.Test.YtdcpggdbjllmpabGx12
import Derived.Test.YtdcpggdbjllmpabGx20
import Derived.Test.YtdcpggdbjllmpabM26
namespace Go.Proofs.Ytdcpggdbjllmpab
open Go Gx
set_option linter.unusedVariables false
theorem en_impl_classes_join : Enters Try.prog 88 := enters_of Try.func88 (by kernel_rfl) (by kernel_rfl)
set_option maxRecDepth 100000 in
theorem w_impl_classes_join {a : Value} {ha : a.oneCell' = true} {c : List Int} {x0 y0 : Nat} (hx : x0 < c.length) (hy : y0 < c.length) (hl : c.length ≤ 10) : CT (X := Unit) Try.prog 88 (vals [.raw a ha, .int .i64 (x0 : Int), .int .i64 (y0 : Int)]) [own a 2 (.ints .i64 c)] [] (fun x => True) (fun x => .bool (decide (c.getD x0 0 ≠ c.getD y0 0))) (fun x => [own a 2 (.ints .i64 (joinL c x0 y0))]) := by
  refine CT_intro (rs := [.tmp 6]) tt tok Try.func88 rfl rfl rfl (by first | rfl | assumption) fun w => ?_
  show W _ _ _ ⟨tmOf 0 [.raw a ha, .int .i64 (x0 : Int), .int .i64 (y0 : Int)], [own a 2 (.ints .i64 c)]⟩
  refine W_seq ?_
  refine W_region ?_
  refine Ops_p (p_assign rfl) (lt_dec rfl) ?_
  refine Ops_nil ?_
  refine W_seq ?_
  refine W_draw (by kernel_rfl) ?_
  show RA _ _ 10 _ _ _
  refine RA_quietF [0, 1, 2, 3, 4, 5, 6, 7, 8, 9] rfl rfl rfl (by kernel_rfl) (by kernel_rfl) ?_
  refine WQ_cons rfl rfl rfl ((p_move rfl).q) (lt_dec rfl) ?_
  refine WQ_cons rfl rfl rfl ((p_move rfl).q) (lt_dec rfl) ?_
  refine WQ_cons rfl rfl rfl ((q_ixR _ rfl rfl rfl (Rds.own m0) rfl rfl (by first | (show _ < List.length _; omega) | (show _ < List.length _; first | omega | (dsimp only; omega))) rfl)) (lt_dec rfl) ?_
  refine WQ_cons rfl rfl rfl ((q_loadR rfl rfl (Rds.own m0) rfl rfl (by first | (show _ < List.length _; omega) | (show _ < List.length _; first | omega | (dsimp only; omega))) rfl rfl rfl)) (lt_dec rfl) ?_
  refine WQ_cons rfl rfl rfl ((p_move rfl).q) (lt_dec rfl) ?_
  refine WQ_cons rfl rfl rfl ((p_move rfl).q) (lt_dec rfl) ?_
  refine WQ_cons rfl rfl rfl ((q_ixR _ rfl rfl rfl (Rds.own m0) rfl rfl (by first | (show _ < List.length _; omega) | (show _ < List.length _; first | omega | (dsimp only; omega))) rfl)) (lt_dec rfl) ?_
  refine WQ_cons rfl rfl rfl ((q_loadR rfl rfl (Rds.own m0) rfl rfl (by first | (show _ < List.length _; omega) | (show _ < List.length _; first | omega | (dsimp only; omega))) rfl rfl rfl)) (lt_dec rfl) ?_
  refine WQ_cons rfl rfl rfl ((p_assign rfl).q) (lt_dec rfl) ?_
  refine WQ_cons rfl rfl rfl ((p_assign rfl).q) (lt_dec rfl) ?_
  refine WQ_nil ?_
  refine W_seq ?_
  refine W_seq ?_
  refine W_region ?_
  refine Ops_p (p_move rfl) (lt_dec rfl) ?_
  refine Ops_q ((q_lenR rfl rfl rfl (Rds.own m0)).eq (d' := .int .i64 ((c.length : Nat) : Int)) rfl) (lt_dec rfl) ?_
  refine Ops_p (p_move rfl) (lt_dec rfl) ?_
  refine Ops_nil ?_
  refine W_block ?_
  refine W_loop (α := Nat) (fun z => ⟨[(0, .raw a ha), (1, .int .i64 (x0 : Int)), (2, .int .i64 (y0 : Int)), (6, .bool false), (7, .int .i64 (c.getD x0 0)), (8, .int .i64 (c.getD y0 0)), (10, .raw a ha), (11, .int .i64 (x0 : Int)), (13, .int .i64 (c.getD x0 0)), (14, .raw a ha), (15, .int .i64 (y0 : Int)), (17, .int .i64 (c.getD y0 0)), (18, .raw a ha), (19, .int .i64 (c.length : Int)), (20, .int .i64 (z : Int))], [own a 2 (.ints .i64 (jP c x0 y0 z))]⟩) (fun z => z ≤ c.length) (fun z => c.length - z) 0 ?_ ?_ ?_
  · show _ ≤ _; omega
  · exact Wk.intro (.cons rfl (by first | rfl | exact veq_int (by first | omega | (dsimp only; omega))) (.cons rfl (by first | rfl | exact veq_int (by first | omega | (dsimp only; omega))) (.cons rfl (by first | rfl | exact veq_int (by first | omega | (dsimp only; omega))) (.cons rfl (by first | rfl | exact veq_int (by first | omega | (dsimp only; omega))) (.cons rfl (by first | rfl | exact veq_int (by first | omega | (dsimp only; omega))) (.cons rfl (by first | rfl | exact veq_int (by first | omega | (dsimp only; omega))) (.cons rfl (by first | rfl | exact veq_int (by first | omega | (dsimp only; omega))) (.cons rfl (by first | rfl | exact veq_int (by first | omega | (dsimp only; omega))) (.cons rfl (by first | rfl | exact veq_int (by first | omega | (dsimp only; omega))) (.cons rfl (by first | rfl | exact veq_int (by first | omega | (dsimp only; omega))) (.cons rfl (by first | rfl | exact veq_int (by first | omega | (dsimp only; omega))) (.cons rfl (by first | rfl | exact veq_int (by first | omega | (dsimp only; omega))) (.cons rfl (by first | rfl | exact veq_int (by first | omega | (dsimp only; omega))) (.cons rfl (by first | rfl | exact veq_int (by first | omega | (dsimp only; omega))) (.cons rfl (by first | rfl | exact veq_int (by first | omega | (dsimp only; omega))) .nil))))))))))))))) (.keep rfl rfl (own_eq (by rw [jP_zero])) .nil)
  · rintro z hR
    refine W_seq ?_
    refine W_region ?_
    refine Ops_p (p_lss rfl rfl) (lt_dec rfl) ?_
    refine Ops_nil ?_
    refine W_seq ?_
    refine W_cond rfl (fun h1 => ?_) (fun h1 => ?_)
    · try simp only [bs] at h1
      refine W_skip ?_
      refine W_seq ?_
      refine W_block ?_
      refine W_seq ?_
      have hjl := jP_len (c := c) (x := x0) (y := y0) (z := z) (by omega)
      have hja := jP_at (c := c) (x := x0) (y := y0) (z := z) (by omega)
      refine W_region ?_
      refine Ops_p (p_move rfl) (lt_dec rfl) ?_
      refine Ops_p (p_assign rfl) (lt_dec rfl) ?_
      refine Ops_nil ?_
      refine W_seq ?_
      refine W_region ?_
      refine Ops_p (p_move rfl) (lt_dec rfl) ?_
      refine Ops_p (p_move rfl) (lt_dec rfl) ?_
      refine Ops_q (q_ixR _ rfl rfl rfl (Rds.own m0) rfl rfl (by show _ < List.length _; omega) rfl) (lt_dec rfl) ?_
      refine Ops_q (q_loadR rfl rfl (Rds.own m0) rfl rfl (by first | (show _ < List.length _; omega) | (show _ < List.length _; first | omega | (dsimp only; omega))) rfl rfl rfl) (lt_dec rfl) ?_
      refine Ops_p (p_move rfl) (lt_dec rfl) ?_
      refine Ops_p (p_move rfl) (lt_dec rfl) ?_
      refine Ops_p (p_max rfl rfl) (lt_dec rfl) ?_
      refine Ops_p (p_eql rfl rfl) (lt_dec rfl) ?_
      refine Ops_nil ?_
      refine W_cond rfl (fun h2 => ?_) (fun h2 => ?_)
      · try simp only [bs] at h2
        rw [hja] at h2
        refine W_region ?_
        refine Ops_p (p_move rfl) (lt_dec rfl) ?_
        refine Ops_p (p_move rfl) (lt_dec rfl) ?_
        refine Ops_p (p_move rfl) (lt_dec rfl) ?_
        refine Ops_p (p_move rfl) (lt_dec rfl) ?_
        refine Ops_p (p_min rfl rfl) (lt_dec rfl) ?_
        refine Ops_q (q_ixR _ rfl rfl rfl (Rds.own m0) rfl rfl (by show _ < List.length _; omega) rfl) (lt_dec rfl) ?_
        refine Ops_x rfl (x_setOi (i := z) rfl rfl rfl rfl rfl (by omega) HpRep.head ?_)
        refine Ops_nil ?_
        refine W_region ?_
        refine Ops_p (p_add rfl rfl (by exact ⟨(by first | omega | (dsimp only; omega)), (by first | omega | (dsimp only; omega))⟩)) (lt_dec rfl) ?_
        refine Ops_p (p_move rfl) (lt_dec rfl) ?_
        refine Ops_nil ?_
        refine Exists.intro (z + 1) (And.intro ?_ (And.intro ?_ ?_))
        · show _ ≤ _; omega
        · show _ < _; omega
        · exact Wk.intro (.cons rfl (by first | rfl | exact veq_int (by first | omega | (dsimp only; omega))) (.cons rfl (by first | rfl | exact veq_int (by first | omega | (dsimp only; omega))) (.cons rfl (by first | rfl | exact veq_int (by first | omega | (dsimp only; omega))) (.cons rfl (by first | rfl | exact veq_int (by first | omega | (dsimp only; omega))) (.cons rfl (by first | rfl | exact veq_int (by first | omega | (dsimp only; omega))) (.cons rfl (by first | rfl | exact veq_int (by first | omega | (dsimp only; omega))) (.cons rfl (by first | rfl | exact veq_int (by first | omega | (dsimp only; omega))) (.cons rfl (by first | rfl | exact veq_int (by first | omega | (dsimp only; omega))) (.cons rfl (by first | rfl | exact veq_int (by first | omega | (dsimp only; omega))) (.cons rfl (by first | rfl | exact veq_int (by first | omega | (dsimp only; omega))) (.cons rfl (by first | rfl | exact veq_int (by first | omega | (dsimp only; omega))) (.cons rfl (by first | rfl | exact veq_int (by first | omega | (dsimp only; omega))) (.cons rfl (by first | rfl | exact veq_int (by first | omega | (dsimp only; omega))) (.cons rfl (by first | rfl | exact veq_int (by first | omega | (dsimp only; omega))) (.cons rfl (by first | rfl | exact veq_int (by first | omega | (dsimp only; omega))) .nil))))))))))))))) (.keep rfl rfl (own_eq (by first | rw [jP_set (by omega) (by assumption)] | rw [← jP_same (by omega) (by assumption)])) .nil)
      · try simp only [bs] at h2
        rw [hja] at h2
        refine W_skip ?_
        refine W_region ?_
        refine Ops_p (p_add rfl rfl (by exact ⟨(by first | omega | (dsimp only; omega)), (by first | omega | (dsimp only; omega))⟩)) (lt_dec rfl) ?_
        refine Ops_p (p_move rfl) (lt_dec rfl) ?_
        refine Ops_nil ?_
        refine Exists.intro (z + 1) (And.intro ?_ (And.intro ?_ ?_))
        · show _ ≤ _; omega
        · show _ < _; omega
        · exact Wk.intro (.cons rfl (by first | rfl | exact veq_int (by first | omega | (dsimp only; omega))) (.cons rfl (by first | rfl | exact veq_int (by first | omega | (dsimp only; omega))) (.cons rfl (by first | rfl | exact veq_int (by first | omega | (dsimp only; omega))) (.cons rfl (by first | rfl | exact veq_int (by first | omega | (dsimp only; omega))) (.cons rfl (by first | rfl | exact veq_int (by first | omega | (dsimp only; omega))) (.cons rfl (by first | rfl | exact veq_int (by first | omega | (dsimp only; omega))) (.cons rfl (by first | rfl | exact veq_int (by first | omega | (dsimp only; omega))) (.cons rfl (by first | rfl | exact veq_int (by first | omega | (dsimp only; omega))) (.cons rfl (by first | rfl | exact veq_int (by first | omega | (dsimp only; omega))) (.cons rfl (by first | rfl | exact veq_int (by first | omega | (dsimp only; omega))) (.cons rfl (by first | rfl | exact veq_int (by first | omega | (dsimp only; omega))) (.cons rfl (by first | rfl | exact veq_int (by first | omega | (dsimp only; omega))) (.cons rfl (by first | rfl | exact veq_int (by first | omega | (dsimp only; omega))) (.cons rfl (by first | rfl | exact veq_int (by first | omega | (dsimp only; omega))) (.cons rfl (by first | rfl | exact veq_int (by first | omega | (dsimp only; omega))) .nil))))))))))))))) (.keep rfl rfl (own_eq (by first | rw [jP_set (by omega) (by assumption)] | rw [← jP_same (by omega) (by assumption)])) .nil)
    · try simp only [bs] at h1
      obtain rfl : z = c.length := (by omega)
      refine W_exit ?_
      refine W_seq ?_
      refine W_region ?_
      refine Ops_p (p_move rfl) (lt_dec rfl) ?_
      refine Ops_p (p_move rfl) (lt_dec rfl) ?_
      refine Ops_p (p_neq rfl rfl) (lt_dec rfl) ?_
      refine Ops_p (p_assign rfl) (lt_dec rfl) ?_
      refine Ops_nil ?_
      refine W_ret ?_
      refine Exists.intro _ (And.intro (.cons (.tmp rfl) .nil) (Exists.intro () (And.intro ?_ (And.intro ?_ (And.intro (.cons HpDel.head rfl (own_eq (by rw [jP_end])) .nil) rfl)))))
      · trivial
      · first | rfl | exact veq_bool (by simp)
end Go.Proofs.Ytdcpggdbjllmpab
