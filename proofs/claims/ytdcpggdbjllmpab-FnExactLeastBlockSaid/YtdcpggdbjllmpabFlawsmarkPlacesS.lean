/- What the Go function laws.markPlacesS does, shown of its loaded text; its conditions stand in the statement. -/
import Derived.Test.YtdcpggdbjllmpabTy
import Derived.Test.YtdcpggdbjllmpabGx12
import Derived.Test.YtdcpggdbjllmpabGx20
namespace Go.Proofs.Ytdcpggdbjllmpab
open Go Gx
set_option linter.unusedVariables false
theorem en_laws_markPlacesS : Enters Try.prog 16 := enters_of Try.func16 (by kernel_rfl) (by kernel_rfl)
set_option maxRecDepth 100000 in
theorem w_laws_markPlacesS {a : Value} {ha : a.oneCell' = true} {l : List (Nat → Fin 256)} {k : Nat} (hl : l.length ≤ 1100000) (hk : k ≤ 100) : CT (X := Unit) Try.prog 16 (vals [.raw a ha, .int .i64 (k : Int)]) [own a 54 (.arrs 10 l)] [] (fun x => True) (fun x => .int .i64 (((k + 10 * (List.length l) : Nat)) : Int)) (fun x => [own a 54 (.arrs 10 (marksP k (List.length l)))]) := by
  refine CT_intro (rs := [.tmp 4]) tt tok Try.func16 rfl rfl rfl (by first | rfl | assumption) fun w => ?_
  show W _ _ _ ⟨tmOf 0 [.raw a ha, .int .i64 (k : Int)], [own a 54 (.arrs 10 l)]⟩
  refine W_seq ?_
  refine W_region ?_
  refine Ops_p (p_assign rfl) (lt_dec rfl) ?_
  refine Ops_nil ?_
  refine W_seq ?_
  refine W_seq ?_
  refine W_region ?_
  refine Ops_p (p_assign rfl) (lt_dec rfl) ?_
  refine Ops_nil ?_
  refine W_block ?_
  refine W_loop (α := Nat) (fun i => ⟨[(0, .raw a ha), (1, .int .i64 (((k + 10 * i : Nat)) : Int)), (4, .int .i64 0), (5, .int .i64 (i : Int))], [own a 54 (.arrs 10 (marksP k i ++ l.drop i))]⟩) (fun i => i ≤ l.length) (fun i => l.length - i) 0 ?_ ?_ ?_
  · show _ ≤ _; omega
  · exact Wk.intro (.cons rfl (by first | rfl | exact veq_int (by first | omega | (dsimp only; omega))) (.cons rfl (by first | rfl | exact veq_int (by first | omega | (dsimp only; omega))) (.cons rfl (by first | rfl | exact veq_int (by first | omega | (dsimp only; omega))) (.cons rfl (by first | rfl | exact veq_int (by first | omega | (dsimp only; omega))) .nil)))) (.keep rfl rfl (own_eq rfl) .nil)
  · rintro i hR
    refine W_seq ?_
    refine W_seq ?_
    refine W_region ?_
    refine Ops_p (p_move rfl) (lt_dec rfl) ?_
    refine Ops_p (p_move rfl) (lt_dec rfl) ?_
    refine Ops_q ((q_lenR rfl rfl rfl (Rds.own m0)).eq (d' := .int .i64 ((l.length : Nat) : Int)) (veq_int (congrArg (fun x : Nat => (x : Int)) (show (Rw.arrs 10 (marksP k i ++ l.drop i)).len = l.length from marksP_drop hR)))) (lt_dec rfl) ?_
    refine Ops_p (p_lss rfl rfl) (lt_dec rfl) ?_
    refine Ops_nil ?_
    refine W_cond rfl (fun h1 => ?_) (fun h1 => ?_)
    · try simp only [bs] at h1
      refine W_skip ?_
      refine W_seq ?_
      refine W_block ?_
      refine W_seq ?_
      refine W_region ?_
      refine Ops_p (p_assign rfl) (lt_dec rfl) ?_
      refine Ops_nil ?_
      refine W_block ?_
      refine W_loop (α := Nat) (fun j => ⟨[(0, .raw a ha), (1, .int .i64 (((k + 10 * i + j : Nat)) : Int)), (4, .int .i64 0), (5, .int .i64 (i : Int)), (6, .int .i64 (j : Int)), (7, .int .i64 (i : Int)), (8, .raw a ha), (9, .int .i64 (l.length : Int))], [own a 54 (.arrs 10 (mid k l i j))]⟩) (fun j => j ≤ 10) (fun j => 10 - j) 0 ?_ ?_ ?_
      · show _ ≤ _; omega
      · exact Wk.intro (.cons rfl (by first | rfl | exact veq_int (by first | omega | (dsimp only; omega))) (.cons rfl (by first | rfl | exact veq_int (by first | omega | (dsimp only; omega))) (.cons rfl (by first | rfl | exact veq_int (by first | omega | (dsimp only; omega))) (.cons rfl (by first | rfl | exact veq_int (by first | omega | (dsimp only; omega))) (.cons rfl (by first | rfl | exact veq_int (by first | omega | (dsimp only; omega))) (.cons rfl (by first | rfl | exact veq_int (by first | omega | (dsimp only; omega))) (.cons rfl (by first | rfl | exact veq_int (by first | omega | (dsimp only; omega))) (.cons rfl (by first | rfl | exact veq_int (by first | omega | (dsimp only; omega))) .nil)))))))) (.keep rfl rfl (own_eq (by rw [mid_zero (by omega)])) .nil)
      · rintro j hR
        refine W_seq ?_
        refine W_seq ?_
        refine W_region ?_
        refine Ops_p (p_move rfl) (lt_dec rfl) ?_
        refine Ops_p (p_lss rfl rfl) (lt_dec rfl) ?_
        refine Ops_nil ?_
        refine W_cond rfl (fun h2 => ?_) (fun h2 => ?_)
        · try simp only [bs] at h2
          refine W_skip ?_
          refine W_seq ?_
          refine W_block ?_
          refine W_seq ?_
          refine W_region ?_
          refine Ops_p (p_move rfl) (lt_dec rfl) ?_
          refine Ops_p (p_move rfl) (lt_dec rfl) ?_
          refine Ops_p (p_move rfl) (lt_dec rfl) ?_
          refine Ops_p (p_move rfl) (lt_dec rfl) ?_
          refine Ops_p ((p_conv_w rfl rfl rfl).eq veq_wrap8) (lt_dec rfl) ?_
          refine Ops_q (q_ixR _ rfl rfl rfl (Rds.own m0) rfl rfl (by show _ < List.length _; rw [mid_len (by omega)]; omega) rfl) (lt_dec rfl) ?_
          refine Ops_q (q_ixA j rfl rfl rfl rfl (Rds.own m0) (by show 0 < List.length _; rw [mid_len (by omega)]; omega) rfl rfl (by omega)) (lt_dec rfl) ?_
          refine Ops_x rfl (x_setOa (m := 10) (i := i) (j := j) rfl rfl rfl rfl rfl (by rw [mid_len (by omega)]; omega) (by omega) HpRep.head ?_)
          refine Ops_nil ?_
          refine W_region ?_
          refine Ops_p (p_move rfl) (lt_dec rfl) ?_
          refine Ops_p (p_add rfl rfl (by exact ⟨(by first | omega | (dsimp only; omega)), (by first | omega | (dsimp only; omega))⟩)) (lt_dec rfl) ?_
          refine Ops_p (p_assign rfl) (lt_dec rfl) ?_
          refine Ops_nil ?_
          refine W_region ?_
          refine Ops_p (p_move rfl) (lt_dec rfl) ?_
          refine Ops_p (p_add rfl rfl (by exact ⟨(by first | omega | (dsimp only; omega)), (by first | omega | (dsimp only; omega))⟩)) (lt_dec rfl) ?_
          refine Ops_p (p_assign rfl) (lt_dec rfl) ?_
          refine Ops_nil ?_
          refine Exists.intro (j + 1) (And.intro ?_ (And.intro ?_ ?_))
          · show _ ≤ _; omega
          · show _ < _; omega
          · exact Wk.intro (.cons rfl (by first | rfl | exact veq_int (by first | omega | (dsimp only; omega))) (.cons rfl (by first | rfl | exact veq_int (by first | omega | (dsimp only; omega))) (.cons rfl (by first | rfl | exact veq_int (by first | omega | (dsimp only; omega))) (.cons rfl (by first | rfl | exact veq_int (by first | omega | (dsimp only; omega))) (.cons rfl (by first | rfl | exact veq_int (by first | omega | (dsimp only; omega))) (.cons rfl (by first | rfl | exact veq_int (by first | omega | (dsimp only; omega))) (.cons rfl (by first | rfl | exact veq_int (by first | omega | (dsimp only; omega))) (.cons rfl (by first | rfl | exact veq_int (by first | omega | (dsimp only; omega))) .nil)))))))) (.keep rfl rfl (own_eq (by rw [mid_set])) .nil)
        · try simp only [bs] at h2
          obtain rfl : j = 10 := (by omega)
          refine W_exit ?_
          refine W_region ?_
          refine Ops_p (p_move rfl) (lt_dec rfl) ?_
          refine Ops_p (p_add rfl rfl (by exact ⟨(by first | omega | (dsimp only; omega)), (by first | omega | (dsimp only; omega))⟩)) (lt_dec rfl) ?_
          refine Ops_p (p_assign rfl) (lt_dec rfl) ?_
          refine Ops_nil ?_
          refine Exists.intro (i + 1) (And.intro ?_ (And.intro ?_ ?_))
          · show _ ≤ _; omega
          · show _ < _; omega
          · exact Wk.intro (.cons rfl (by first | rfl | exact veq_int (by first | omega | (dsimp only; omega))) (.cons rfl (by first | rfl | exact veq_int (by first | omega | (dsimp only; omega))) (.cons rfl (by first | rfl | exact veq_int (by first | omega | (dsimp only; omega))) (.cons rfl (by first | rfl | exact veq_int (by first | omega | (dsimp only; omega))) .nil)))) (.keep rfl rfl (own_cast mid_ten (by show List.length _ = List.length _; rw [mid_len (by omega), marksP_drop (by omega)]) rfl) .nil)
    · try simp only [bs] at h1
      obtain rfl : i = l.length := (by omega)
      refine W_exit ?_
      refine W_seq ?_
      refine W_region ?_
      refine Ops_p (p_move rfl) (lt_dec rfl) ?_
      refine Ops_p (p_assign rfl) (lt_dec rfl) ?_
      refine Ops_nil ?_
      refine W_ret ?_
      refine Exists.intro _ (And.intro (.cons (.tmp rfl) .nil) (Exists.intro () (And.intro ?_ (And.intro ?_ (And.intro (.cons HpDel.head rfl (own_eq (by rw [List.drop_length, List.append_nil])) .nil) rfl)))))
      · trivial
      · rfl
end Go.Proofs.Ytdcpggdbjllmpab
