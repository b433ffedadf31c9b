/- What the Go function slices.Concat[[]byte,byte] does, shown of its loaded text; its conditions stand in the statement. -/
import Derived.Test.YtdcpggdbjllmpaaTy
import Derived.Test.YtdcpggdbjllmpaaFslicesGrowGSbytebyte
import Derived.Test.YtdcpggdbjllmpaaGx12
import Derived.Test.YtdcpggdbjllmpaaGx20
import Derived.Test.YtdcpggdbjllmpaaGx27
import Derived.Test.YtdcpggdbjllmpaaGx33
namespace Go.Proofs.Ytdcpggdbjllmpaa
open Go Gx
set_option linter.unusedVariables false
theorem en_slices_ConcatGSbytebyte : Enters Try.prog 81 := enters_of Try.func81 (by kernel_rfl) (by kernel_rfl)
set_option maxRecDepth 100000 in
theorem w_slices_ConcatGSbytebyte {a : Value} {ha : a.oneCell' = true} {S : SB} (h0 : 0 < S.length) (hS : S.length ≤ 10) (hB : ∀ p ∈ S, p.2.length ≤ 1000) (hP : ∀ p ∈ S, 1 ≤ p.2.length) : CT (X := V1) Try.prog 81 (vals [.raw a ha]) [] [rd a (valsB S), rpl S] (fun x => True) (fun x => .raw x.1 x.2) (fun x => [own x.1 5 (.u8s (catB S (List.length S)))]) := by
  refine CT_intro (rs := [.tmp 2]) tt tok Try.func81 rfl rfl rfl (by first | rfl | assumption) fun w => ?_
  show W _ _ _ ⟨tmOf 0 [.raw a ha], [rd a (valsB S), rpl S]⟩
  have hcl := catB_len hB
  refine W_seq ?_
  refine W_region ?_
  refine Ops_p (p_assign rfl) (lt_dec rfl) ?_
  refine Ops_nil ?_
  refine W_seq ?_
  refine W_region ?_
  refine Ops_p (p_assign rfl) (lt_dec rfl) ?_
  refine Ops_nil ?_
  refine W_seq ?_
  refine W_seq ?_
  refine W_region ?_
  refine Ops_p (p_move rfl) (lt_dec rfl) ?_
  refine Ops_q ((q_lenR rfl rfl rfl (Rds.rd m0)).eq (d' := .int .i64 ((S.length : Nat) : Int)) (veq_int (congrArg (fun x : Nat => (x : Int)) (valsB_len S)))) (lt_dec rfl) ?_
  refine Ops_p (p_move rfl) (lt_dec rfl) ?_
  refine Ops_nil ?_
  refine W_block ?_
  refine W_loop (α := Nat) (fun i => ⟨[(0, .raw a ha), (3, .int .i64 ((List.length (catB S i) : Nat) : Int)), (9, .raw a ha), (10, .int .i64 ((S.length : Nat) : Int)), (11, .int .i64 (i : Int))], [rd a (valsB S), rpl S]⟩) (fun i => i ≤ S.length) (fun i => S.length - i) 0 ?_ ?_ ?_
  · show _ ≤ _; omega
  · exact Wk.intro (.cons rfl (by first | rfl | exact veq_int (by first | omega | (dsimp only; omega))) (.cons rfl (by first | rfl | exact veq_int (by first | omega | (dsimp only; omega))) (.cons rfl (by first | rfl | exact veq_int (by first | omega | (dsimp only; omega))) (.cons rfl (by first | rfl | exact veq_int (by first | omega | (dsimp only; omega))) (.cons rfl (by first | rfl | exact veq_int (by first | omega | (dsimp only; omega))) .nil))))) (.keep rfl rfl (fun _ h => h) (.keep rfl rfl (fun _ h => h) .nil))
  · rintro i hR
    have hci := hcl i hR
    have hsu := @catB_succ S i
    have hpi := fun h => hB _ (bd_mem (l := S) (j := i) h)
    refine W_seq ?_
    refine W_region ?_
    refine Ops_p (p_lss rfl rfl) (lt_dec rfl) ?_
    refine Ops_nil ?_
    refine W_seq ?_
    refine W_cond rfl (fun h1 => ?_) (fun h1 => ?_)
    · try simp only [bs] at h1
      refine W_skip ?_
      refine W_seq ?_
      refine W_block ?_
      refine W_seq ?_
      refine W_region ?_
      refine Ops_q (q_ixR _ rfl rfl rfl (Rds.rd m0) rfl rfl (by rw [valsB_len]; omega) rfl) (lt_dec rfl) ?_
      refine Ops_q (q_load_rb (j := i) rfl rfl (Rds.rd m0) rfl (by omega) rfl rfl) (lt_dec rfl) ?_
      refine Ops_p (p_assign rfl) (lt_dec rfl) ?_
      refine Ops_nil ?_
      refine W_seq ?_
      refine W_region ?_
      refine Ops_p (p_move rfl) (lt_dec rfl) ?_
      refine Ops_p (p_move rfl) (lt_dec rfl) ?_
      refine Ops_q ((q_lenR rfl rfl rfl (Rds.rplI (j := i) m1 (by omega))).eq (d' := .int .i64 ((List.length (List.getD S i bd).2 : Nat) : Int)) rfl) (lt_dec rfl) ?_
      refine Ops_p (p_add rfl rfl (by exact ⟨(by first | omega | (dsimp only; omega)), (by first | omega | (dsimp only; omega))⟩)) (lt_dec rfl) ?_
      refine Ops_p (p_assign rfl) (lt_dec rfl) ?_
      refine Ops_nil ?_
      refine W_seq ?_
      refine W_region ?_
      refine Ops_p (p_move rfl) (lt_dec rfl) ?_
      refine Ops_p (p_lss rfl rfl) (lt_dec rfl) ?_
      refine Ops_nil ?_
      refine W_cond rfl (fun h2 => ?_) (fun h2 => ?_)
      · try simp only [bs] at h2
        exfalso; omega
      · try simp only [bs] at h2
        refine W_skip ?_
        refine W_region ?_
        refine Ops_p (p_add rfl rfl (by exact ⟨(by first | omega | (dsimp only; omega)), (by first | omega | (dsimp only; omega))⟩)) (lt_dec rfl) ?_
        refine Ops_p (p_move rfl) (lt_dec rfl) ?_
        refine Ops_nil ?_
        refine Exists.intro (i + 1) (And.intro ?_ (And.intro ?_ ?_))
        · show _ ≤ _; omega
        · show _ < _; omega
        · exact Wk.intro (.cons rfl (by first | rfl | exact veq_int (by first | omega | (dsimp only; omega))) (.cons rfl (veq_int (by rw [catB_succ (by omega), List.length_append]; omega)) (.cons rfl (by first | rfl | exact veq_int (by first | omega | (dsimp only; omega))) (.cons rfl (by first | rfl | exact veq_int (by first | omega | (dsimp only; omega))) (.cons rfl (by first | rfl | exact veq_int (by first | omega | (dsimp only; omega))) .nil))))) (.keep rfl rfl (fun _ h => h) (.keep rfl rfl (fun _ h => h) .nil))
    · try simp only [bs] at h1
      obtain rfl : i = S.length := (by omega)
      have hci := hcl S.length (Nat.le_refl _)
      have hpos : 0 < (catB S S.length).length := (by obtain ⟨q, hq⟩ : ∃ q, S.length = q + 1 := ⟨S.length - 1, by omega⟩; have h9 := hP _ (bd_mem (l := S) (j := q) (by omega)); rw [hq, catB_succ (by omega), List.length_append]; omega)
      refine W_exit ?_
      refine W_seq ?_
      refine W_region ?_
      refine Ops_p (p_move rfl) (lt_dec rfl) ?_
      refine Ops_x rfl (x_callT en_slices_GrowGSbytebyte rfl (w_slices_GrowGSbytebyte (n := (catB S S.length).length) (by omega) (by omega)) HpDels.nil (Vw.none _) (fun _ => (HpDels.cons HpDel.head HpDels.nil)) (lt_dec rfl) fun x24_1 _ => ?_)
      refine Ops_p (p_assign rfl) (lt_dec rfl) ?_
      refine Ops_nil ?_
      refine W_seq ?_
      refine W_seq ?_
      refine W_region ?_
      refine Ops_p (p_move rfl) (lt_dec rfl) ?_
      refine Ops_q ((q_lenR rfl rfl rfl (Rds.rd m1)).eq (d' := .int .i64 ((S.length : Nat) : Int)) (veq_int (congrArg (fun x : Nat => (x : Int)) (valsB_len S)))) (lt_dec rfl) ?_
      refine Ops_p (p_move rfl) (lt_dec rfl) ?_
      refine Ops_nil ?_
      refine W_block ?_
      refine W_loop (α := Nat × V1) (fun zz1 => ⟨[(0, .raw a ha), (3, .int .i64 ((List.length (catB S S.length) : Nat) : Int)), (6, .raw (zz1.2).1 (zz1.2).2), (9, .raw a ha), (10, .int .i64 ((S.length : Nat) : Int)), (11, .int .i64 (S.length : Int)), (23, .int .i64 ((List.length (catB S S.length) : Nat) : Int)), (24, .raw x24_1.1 x24_1.2), (25, .raw a ha), (26, .int .i64 ((S.length : Nat) : Int)), (27, .int .i64 ((zz1.1) : Int))], [own (zz1.2).1 5 (.u8s (catB S (zz1.1))), rd a (valsB S), rpl S]⟩) (fun zz1 => (zz1.1) ≤ S.length) (fun zz1 => S.length - (zz1.1)) (0, x24_1) ?_ ?_ ?_
      · show _ ≤ _; omega
      · exact Wk.intro (.cons rfl (by first | rfl | exact veq_int (by first | omega | (dsimp only; omega))) (.cons rfl (by first | rfl | exact veq_int (by first | omega | (dsimp only; omega))) (.cons rfl (by first | rfl | exact veq_int (by first | omega | (dsimp only; omega))) (.cons rfl (by first | rfl | exact veq_int (by first | omega | (dsimp only; omega))) (.cons rfl (by first | rfl | exact veq_int (by first | omega | (dsimp only; omega))) (.cons rfl (by first | rfl | exact veq_int (by first | omega | (dsimp only; omega))) (.cons rfl (by first | rfl | exact veq_int (by first | omega | (dsimp only; omega))) (.cons rfl (by first | rfl | exact veq_int (by first | omega | (dsimp only; omega))) (.cons rfl (by first | rfl | exact veq_int (by first | omega | (dsimp only; omega))) (.cons rfl (by first | rfl | exact veq_int (by first | omega | (dsimp only; omega))) (.cons rfl (by first | rfl | exact veq_int (by first | omega | (dsimp only; omega))) .nil))))))))))) (.keep rfl rfl (own_eq rfl) (.keep rfl rfl (fun _ h => h) (.keep rfl rfl (fun _ h => h) .nil)))
      · rintro ⟨i, vv⟩ hR
        try dsimp only at *
        have hci := hcl i hR
        have hpi := fun h => hB _ (bd_mem (l := S) (j := i) h)
        have hqi := fun h => hP _ (bd_mem (l := S) (j := i) h)
        refine W_seq ?_
        refine W_region ?_
        refine Ops_p (p_lss rfl rfl) (lt_dec rfl) ?_
        refine Ops_nil ?_
        refine W_seq ?_
        refine W_cond rfl (fun h3 => ?_) (fun h3 => ?_)
        · try simp only [bs] at h3
          refine W_skip ?_
          refine W_seq ?_
          refine W_block ?_
          refine W_seq ?_
          refine W_region ?_
          refine Ops_q (q_ixR _ rfl rfl rfl (Rds.rd m1) rfl rfl (by rw [valsB_len]; omega) rfl) (lt_dec rfl) ?_
          refine Ops_q (q_load_rb (j := i) rfl rfl (Rds.rd m1) rfl (by omega) rfl rfl) (lt_dec rfl) ?_
          refine Ops_p (p_assign rfl) (lt_dec rfl) ?_
          refine Ops_nil ?_
          refine W_region ?_
          refine Ops_p (p_move rfl) (lt_dec rfl) ?_
          refine Ops_p (p_move rfl) (lt_dec rfl) ?_
          refine Ops_x rfl (x_appendO (r := .u8s (catB S i)) (r2 := .u8s (Prod.snd (List.getD S i bd))) (q := .u8s ((catB S i) ++ (Prod.snd (List.getD S i bd)))) rfl rfl rfl rfl rfl rfl (Rds.rplI (j := i) m2 (by first | omega | assumption)) rfl (by show 0 < List.length _; omega) rfl (HpDels.cons HpDel.head HpDels.nil) (fun _ => (HpDels.cons HpDel.head HpDels.nil)) (by show (List.length _ + List.length _) * 1 ≤ _; omega) (by show List.length _ + List.length _ ≤ _; omega) (lt_dec rfl) fun v33 => ?_)
          refine Ops_p (p_assign rfl) (lt_dec rfl) ?_
          refine Ops_nil ?_
          refine W_region ?_
          refine Ops_p (p_add rfl rfl (by exact ⟨(by first | omega | (dsimp only; omega)), (by first | omega | (dsimp only; omega))⟩)) (lt_dec rfl) ?_
          refine Ops_p (p_move rfl) (lt_dec rfl) ?_
          refine Ops_nil ?_
          refine Exists.intro (i + 1, v33) (And.intro ?_ (And.intro ?_ ?_))
          · show _ ≤ _; omega
          · show _ < _; omega
          · exact Wk.intro (.cons rfl (by first | rfl | exact veq_int (by first | omega | (dsimp only; omega))) (.cons rfl (by first | rfl | exact veq_int (by first | omega | (dsimp only; omega))) (.cons rfl (by first | rfl | exact veq_int (by first | omega | (dsimp only; omega))) (.cons rfl (by first | rfl | exact veq_int (by first | omega | (dsimp only; omega))) (.cons rfl (by first | rfl | exact veq_int (by first | omega | (dsimp only; omega))) (.cons rfl (by first | rfl | exact veq_int (by first | omega | (dsimp only; omega))) (.cons rfl (by first | rfl | exact veq_int (by first | omega | (dsimp only; omega))) (.cons rfl (by first | rfl | exact veq_int (by first | omega | (dsimp only; omega))) (.cons rfl (by first | rfl | exact veq_int (by first | omega | (dsimp only; omega))) (.cons rfl (by first | rfl | exact veq_int (by first | omega | (dsimp only; omega))) (.cons rfl (by first | rfl | exact veq_int (by first | omega | (dsimp only; omega))) .nil))))))))))) (.keep rfl rfl (own_eq (by rw [catB_succ (by omega)])) (.keep rfl rfl (fun _ h => h) (.keep rfl rfl (fun _ h => h) .nil)))
        · try simp only [bs] at h3
          obtain rfl : i = S.length := (by omega)
          refine W_exit ?_
          refine W_seq ?_
          refine W_region ?_
          refine Ops_p (p_move rfl) (lt_dec rfl) ?_
          refine Ops_p (p_assign rfl) (lt_dec rfl) ?_
          refine Ops_nil ?_
          refine W_ret ?_
          refine Exists.intro _ (And.intro (.cons (.tmp rfl) .nil) (Exists.intro vv (And.intro ?_ (And.intro ?_ (And.intro (.cons HpDel.head rfl (own_eq rfl) .nil) rfl)))))
          · trivial
          · rfl
end Go.Proofs.Ytdcpggdbjllmpaa
