/- What the Go function spec.l03Operand does, shown of its loaded text; its conditions stand in the statement. -/
import Derived.Test.YtdcpggdbjllmpaaTy
import Derived.Test.YtdcpggdbjllmpaaFspecl03Side
import Derived.Test.YtdcpggdbjllmpaaGx12
import Derived.Test.YtdcpggdbjllmpaaGx14
import Derived.Test.YtdcpggdbjllmpaaGx24
import Derived.Test.YtdcpggdbjllmpaaGx27
import Derived.Test.YtdcpggdbjllmpaaGx28
import Derived.Test.YtdcpggdbjllmpaaGx34
import Derived.Test.YtdcpggdbjllmpaaM41
namespace Go.Proofs.Ytdcpggdbjllmpaa
open Go Gx
set_option linter.unusedVariables false
theorem en_spec_l03Operand : Enters Try.prog 97 := enters_of Try.func97 (by kernel_rfl) (by kernel_rfl)
set_option maxRecDepth 100000 in
set_option maxHeartbeats 1000000 in
theorem w_spec_l03Operand_all {s : List (Fin 256)} (hs : s.length ≤ 1000) : ∀ (mm : Nat) (k p : Nat), (p ≤ s.length) → (s.length < p + k) → k < mm → CT (X := V1) Try.prog 97 (vals [.raw (.string (strB s)) rfl, .int .i64 (p : Int)]) [] [] (fun x => True) (fun x => .tup [.raw x.1 x.2, .int .i64 (((opS s k p).2.1 : Nat) : Int), .bool (opS s k p).2.2]) (fun x => [own x.1 5 (.u8s (opS s k p).1)]) := by
  intro mm
  induction mm with
  | zero => intro k p hp hk hmm; exact absurd hmm (Nat.not_lt_zero _)
  | succ mm ih =>
  intro k p hp hk hmm
  refine CT_intro (rs := [.tmp 4, .tmp 5, .tmp 6]) tt tok Try.func97 rfl rfl rfl (by first | rfl | assumption) fun w => ?_
  show W _ _ _ ⟨tmOf 0 [.raw (.string (strB s)) rfl, .int .i64 (p : Int)], []⟩
  obtain ⟨k', rfl⟩ : ∃ q, k = q + 1 := ⟨k - 1, by omega⟩
  refine W_seq ?_
  refine W_region ?_
  refine Ops_p (p_assign rfl) (lt_dec rfl) ?_
  refine Ops_p (p_assign rfl) (lt_dec rfl) ?_
  refine Ops_p (p_assign rfl) (lt_dec rfl) ?_
  refine Ops_nil ?_
  refine W_seq ?_
  refine W_seq ?_
  refine W_region ?_
  refine Ops_p (p_move rfl) (lt_dec rfl) ?_
  refine Ops_p (p_move rfl) (lt_dec rfl) ?_
  refine Ops_p (p_len_B rfl rfl rfl) (lt_dec rfl) ?_
  refine Ops_p (p_geq rfl rfl) (lt_dec rfl) ?_
  refine Ops_nil ?_
  refine W_cond rfl (fun h1 => ?_) (fun h1 => ?_)
  · try simp only [bs] at h1
    have hos := op_end (s := s) (k := k') (p := p) (by omega)
    refine W_seq ?_
    refine W_region ?_
    refine Ops_p (p_move rfl) (lt_dec rfl) ?_
    refine Ops_p (p_assign rfl) (lt_dec rfl) ?_
    refine Ops_p (p_assign rfl) (lt_dec rfl) ?_
    refine Ops_p (p_assign rfl) (lt_dec rfl) ?_
    refine Ops_nil ?_
    refine W_ret ?_
    refine Exists.intro _ (And.intro (.cons (.tmp rfl) (.cons (.tmp rfl) (.cons (.tmp rfl) .nil))) (Exists.intro ⟨.slice none 0 0, rfl⟩ (And.intro ?_ (And.intro ?_ (And.intro (.free rfl (own_nil (by (first | rw [hos] | rw [(hbad (by first | exact .inl (by assumption) | exact .inr (.inl (by omega)) | exact .inr (.inr (.inl (by omega))) | exact .inr (.inr (.inr (by assumption)))))]) <;> rfl) (by (first | rw [hos] | rw [(hbad (by first | exact .inl (by assumption) | exact .inr (.inl (by omega)) | exact .inr (.inr (.inl (by omega))) | exact .inr (.inr (.inr (by assumption)))))]) <;> rfl)) .nil) rfl)))))
    · trivial
    · ((first | rw [hos] | rw [(hbad (by first | exact .inl (by assumption) | exact .inr (.inl (by omega)) | exact .inr (.inr (.inl (by omega))) | exact .inr (.inr (.inr (by assumption)))))]) <;> rfl)
  · try simp only [bs] at h1
    have hin : ¬ s.length ≤ p := (by omega)
    refine W_skip ?_
    refine W_seq ?_
    refine W_seq ?_
    refine W_region ?_
    refine Ops_p (p_move rfl) (lt_dec rfl) ?_
    refine Ops_p (p_move rfl) (lt_dec rfl) ?_
    refine Ops_p ((p_index_s p rfl rfl rfl rfl (by omega))) (lt_dec rfl) ?_
    refine Ops_nil ?_
    refine W_block ?_
    refine W_cutE (fun E s' => (True) ∧ Wk E s' ⟨[(0, .raw (.string (strB s)) rfl), (1, .int .i64 (p : Int)), (5, .int .i64 0), (6, .bool false), (10, .int .i64 (p : Int)), (11, .raw (.string (strB s)) rfl), (12, .int .i64 ((s.length : Nat) : Int)), (15, .raw (.string (strB s)) rfl), (16, .int .i64 (p : Int)), (17, .u8 (s.getD p 0)), (18, .bool (leafB (s.getD p 0)))], []⟩) ?_ ?_
    · refine W_seq ?_
      refine W_region ?_
      first | refine Ops_p (p_eql_8 rfl rfl) (lt_dec rfl) ?_ | refine Ops_p (p_eql rfl rfl) (lt_dec rfl) ?_
      refine Ops_p (p_assign rfl) (lt_dec rfl) ?_
      refine Ops_nil ?_
      refine W_cond rfl (fun h2 => ?_) (fun h2 => ?_)
      · try simp only [bs] at h2
        refine W_skip ?_
        refine ⟨?_, ?_⟩
        · trivial
        · exact Wk.intro (.cons rfl (by first | rfl | exact veq_int (by first | omega | (dsimp only; omega))) (.cons rfl (by first | rfl | exact veq_int (by first | omega | (dsimp only; omega))) (.cons rfl (by first | rfl | exact veq_int (by first | omega | (dsimp only; omega))) (.cons rfl (by first | rfl | exact veq_int (by first | omega | (dsimp only; omega))) (.cons rfl (by first | rfl | exact veq_int (by first | omega | (dsimp only; omega))) (.cons rfl (by first | rfl | exact veq_int (by first | omega | (dsimp only; omega))) (.cons rfl (by first | rfl | exact veq_int (by first | omega | (dsimp only; omega))) (.cons rfl (by first | rfl | exact veq_int (by first | omega | (dsimp only; omega))) (.cons rfl (by first | rfl | exact veq_int (by first | omega | (dsimp only; omega))) (.cons rfl (by first | rfl | exact veq_int (by first | omega | (dsimp only; omega))) (.cons rfl (veq_bool (by unfold leafB; rw [Bool.eq_iff_iff]; simp only [decide_eq_true_eq]; have q1 : ∀ n h, s.getD p 0 = (⟨n, h⟩ : Fin 256) ↔ (s.getD p 0).val = n := fun n h => Fin.ext_iff; simp only [q1] at *; omega)) .nil))))))))))) (.nil)
      · try simp only [bs] at h2
        refine W_seq ?_
        refine W_region ?_
        first | refine Ops_p (p_eql_8 rfl rfl) (lt_dec rfl) ?_ | refine Ops_p (p_eql rfl rfl) (lt_dec rfl) ?_
        refine Ops_p (p_assign rfl) (lt_dec rfl) ?_
        refine Ops_nil ?_
        refine W_cond rfl (fun h3 => ?_) (fun h3 => ?_)
        · try simp only [bs] at h3
          refine W_skip ?_
          refine ⟨?_, ?_⟩
          · trivial
          · exact Wk.intro (.cons rfl (by first | rfl | exact veq_int (by first | omega | (dsimp only; omega))) (.cons rfl (by first | rfl | exact veq_int (by first | omega | (dsimp only; omega))) (.cons rfl (by first | rfl | exact veq_int (by first | omega | (dsimp only; omega))) (.cons rfl (by first | rfl | exact veq_int (by first | omega | (dsimp only; omega))) (.cons rfl (by first | rfl | exact veq_int (by first | omega | (dsimp only; omega))) (.cons rfl (by first | rfl | exact veq_int (by first | omega | (dsimp only; omega))) (.cons rfl (by first | rfl | exact veq_int (by first | omega | (dsimp only; omega))) (.cons rfl (by first | rfl | exact veq_int (by first | omega | (dsimp only; omega))) (.cons rfl (by first | rfl | exact veq_int (by first | omega | (dsimp only; omega))) (.cons rfl (by first | rfl | exact veq_int (by first | omega | (dsimp only; omega))) (.cons rfl (veq_bool (by unfold leafB; rw [Bool.eq_iff_iff]; simp only [decide_eq_true_eq]; have q1 : ∀ n h, s.getD p 0 = (⟨n, h⟩ : Fin 256) ↔ (s.getD p 0).val = n := fun n h => Fin.ext_iff; simp only [q1] at *; omega)) .nil))))))))))) (.nil)
        · try simp only [bs] at h3
          refine W_seq ?_
          refine W_region ?_
          first | refine Ops_p (p_eql_8 rfl rfl) (lt_dec rfl) ?_ | refine Ops_p (p_eql rfl rfl) (lt_dec rfl) ?_
          refine Ops_p (p_assign rfl) (lt_dec rfl) ?_
          refine Ops_nil ?_
          refine W_cond rfl (fun h4 => ?_) (fun h4 => ?_)
          · try simp only [bs] at h4
            refine W_skip ?_
            refine ⟨?_, ?_⟩
            · trivial
            · exact Wk.intro (.cons rfl (by first | rfl | exact veq_int (by first | omega | (dsimp only; omega))) (.cons rfl (by first | rfl | exact veq_int (by first | omega | (dsimp only; omega))) (.cons rfl (by first | rfl | exact veq_int (by first | omega | (dsimp only; omega))) (.cons rfl (by first | rfl | exact veq_int (by first | omega | (dsimp only; omega))) (.cons rfl (by first | rfl | exact veq_int (by first | omega | (dsimp only; omega))) (.cons rfl (by first | rfl | exact veq_int (by first | omega | (dsimp only; omega))) (.cons rfl (by first | rfl | exact veq_int (by first | omega | (dsimp only; omega))) (.cons rfl (by first | rfl | exact veq_int (by first | omega | (dsimp only; omega))) (.cons rfl (by first | rfl | exact veq_int (by first | omega | (dsimp only; omega))) (.cons rfl (by first | rfl | exact veq_int (by first | omega | (dsimp only; omega))) (.cons rfl (veq_bool (by unfold leafB; rw [Bool.eq_iff_iff]; simp only [decide_eq_true_eq]; have q1 : ∀ n h, s.getD p 0 = (⟨n, h⟩ : Fin 256) ↔ (s.getD p 0).val = n := fun n h => Fin.ext_iff; simp only [q1] at *; omega)) .nil))))))))))) (.nil)
          · try simp only [bs] at h4
            refine W_region ?_
            first | refine Ops_p (p_eql_8 rfl rfl) (lt_dec rfl) ?_ | refine Ops_p (p_eql rfl rfl) (lt_dec rfl) ?_
            refine Ops_p (p_assign rfl) (lt_dec rfl) ?_
            refine Ops_nil ?_
            refine ⟨?_, ?_⟩
            · trivial
            · exact Wk.intro (.cons rfl (by first | rfl | exact veq_int (by first | omega | (dsimp only; omega))) (.cons rfl (by first | rfl | exact veq_int (by first | omega | (dsimp only; omega))) (.cons rfl (by first | rfl | exact veq_int (by first | omega | (dsimp only; omega))) (.cons rfl (by first | rfl | exact veq_int (by first | omega | (dsimp only; omega))) (.cons rfl (by first | rfl | exact veq_int (by first | omega | (dsimp only; omega))) (.cons rfl (by first | rfl | exact veq_int (by first | omega | (dsimp only; omega))) (.cons rfl (by first | rfl | exact veq_int (by first | omega | (dsimp only; omega))) (.cons rfl (by first | rfl | exact veq_int (by first | omega | (dsimp only; omega))) (.cons rfl (by first | rfl | exact veq_int (by first | omega | (dsimp only; omega))) (.cons rfl (by first | rfl | exact veq_int (by first | omega | (dsimp only; omega))) (.cons rfl (veq_bool (by unfold leafB; rw [Bool.eq_iff_iff]; simp only [decide_eq_true_eq]; have q1 : ∀ n h, s.getD p 0 = (⟨n, h⟩ : Fin 256) ↔ (s.getD p 0).val = n := fun n h => Fin.ext_iff; simp only [q1] at *; omega)) .nil))))))))))) (.nil)
    · rintro s' ⟨_, hw⟩
      refine W_wk hw ?_
      clear hw s'
      refine W_cond rfl (fun h5 => ?_) (fun h5 => ?_)
      · try simp only [bs] at h5
        refine W_seq ?_
        have hos := op_leaf (s := s) (k := k') (p := p) hin (by assumption)
        refine W_region ?_
        refine Ops_p (p_move rfl) (lt_dec rfl) ?_
        refine Ops_p (p_move rfl) (lt_dec rfl) ?_
        refine Ops_p ((p_index_s p rfl rfl rfl rfl (by omega))) (lt_dec rfl) ?_
        refine Ops_x rfl (x_buildSlice rfl rfl rfl rfl rfl rfl rfl rfl (Nat.le_of_ble_eq_true rfl) (lt_dec rfl) fun b26_1 => ?_)
        refine Ops_p (p_move rfl) (lt_dec rfl) ?_
        refine Ops_p ((p_add rfl rfl (by exact ⟨by omega, by omega⟩)).eq (d' := .int .i64 ((p + 1 : Nat) : Int)) (veq_int (by omega))) (lt_dec rfl) ?_
        refine Ops_p (p_assign rfl) (lt_dec rfl) ?_
        refine Ops_p (p_assign rfl) (lt_dec rfl) ?_
        refine Ops_p (p_assign rfl) (lt_dec rfl) ?_
        refine Ops_nil ?_
        refine W_ret ?_
        refine Exists.intro _ (And.intro (.cons (.tmp rfl) (.cons (.tmp rfl) (.cons (.tmp rfl) .nil))) (Exists.intro ⟨.slice (some ⟨b26_1, 0, none⟩) 1 1, rfl⟩ (And.intro ?_ (And.intro ?_ (And.intro (.cons HpDel.head rfl (own_of_row rfl (by rw [hos])) .nil) rfl)))))
        · trivial
        · (rw [hos]; rfl)
      · try simp only [bs] at h5
        refine W_seq ?_
        have hlf : leafB (s.getD p 0) = false := (by first | assumption | simp_all)
        refine W_region ?_
        first | refine Ops_p (p_eql_8 rfl rfl) (lt_dec rfl) ?_ | refine Ops_p (p_eql rfl rfl) (lt_dec rfl) ?_
        refine Ops_p (p_assign rfl) (lt_dec rfl) ?_
        refine Ops_nil ?_
        refine W_cond rfl (fun h6 => ?_) (fun h6 => ?_)
        · try simp only [bs] at h6
          have h40 : s.getD p 0 = 40 := h6
          refine W_seq ?_
          refine W_region ?_
          refine Ops_p (p_move rfl) (lt_dec rfl) ?_
          refine Ops_p (p_move rfl) (lt_dec rfl) ?_
          refine Ops_p ((p_add rfl rfl (by exact ⟨by omega, by omega⟩)).eq (d' := .int .i64 ((p + 1 : Nat) : Int)) (veq_int (by omega))) (lt_dec rfl) ?_
          refine Ops_x rfl (x_callT en_spec_l03Side rfl (w_spec_l03Side (s := s) (k := k') (p := p + 1) hs (by omega) (by omega) en_spec_l03Operand (fun q hq hkq => ih k' q hq hkq (by omega))) HpDels.nil (Vw.none _) (fun _ => (HpDels.cons HpDel.head HpDels.nil)) (lt_dec rfl) fun x35_1 _ => ?_)
          refine Ops_p (p_move rfl) (lt_dec rfl) ?_
          refine Ops_p (p_extract rfl rfl) (lt_dec rfl) ?_
          refine Ops_p (p_extract rfl rfl) (lt_dec rfl) ?_
          refine Ops_p (p_extract rfl rfl) (lt_dec rfl) ?_
          refine Ops_p (p_assign rfl) (lt_dec rfl) ?_
          refine Ops_p (p_assign rfl) (lt_dec rfl) ?_
          refine Ops_p (p_assign rfl) (lt_dec rfl) ?_
          refine Ops_nil ?_
          refine W_seq ?_
          refine W_seq ?_
          obtain ⟨f1, f2, f3, f4⟩ := sdS_fact (s := s) (op := opS s k') (fun q hq => opS_fact k' q hq) (p := p + 1) (by omega)
          have hbad := op_bad (s := s) (k := k') hin hlf h40
          refine W_region ?_
          refine Ops_p (p_move rfl) (lt_dec rfl) ?_
          refine Ops_p (p_not rfl) (lt_dec rfl) ?_
          refine Ops_p (p_move rfl) (lt_dec rfl) ?_
          refine Ops_guard rfl rfl (lt_dec rfl) (fun hg1 => ?_) (fun hg1 => ?_)
          · try simp only [bs] at hg1
            refine Ops_p (p_move rfl) (lt_dec rfl) ?_
            refine Ops_guard_t rfl rfl (lt_dec rfl) ?_
            refine Ops_q ((q_lenR rfl rfl rfl (Rds.own m0)).eq (d' := .int .i64 (((Prod.fst (sdS s (opS s k') (p + 1))).length : Nat) : Int)) rfl) (lt_dec rfl) ?_
            refine Ops_guard_t rfl rfl (lt_dec rfl) ?_
            refine Ops_p (p_eql rfl rfl) (lt_dec rfl) ?_
            refine Ops_p (p_pick_f rfl rfl) (lt_dec rfl) ?_
            refine Ops_p (p_move rfl) (lt_dec rfl) ?_
            refine Ops_guard rfl rfl (lt_dec rfl) (fun hg2 => ?_) (fun hg2 => ?_)
            · try simp only [bs] at hg2
              refine Ops_p (p_move rfl) (lt_dec rfl) ?_
              refine Ops_guard_t rfl rfl (lt_dec rfl) ?_
              refine Ops_p (p_move rfl) (lt_dec rfl) ?_
              refine Ops_guard_t rfl rfl (lt_dec rfl) ?_
              refine Ops_p (p_len_B rfl rfl rfl) (lt_dec rfl) ?_
              refine Ops_guard_t rfl rfl (lt_dec rfl) ?_
              refine Ops_p (p_geq rfl rfl) (lt_dec rfl) ?_
              refine Ops_p (p_pick_f rfl rfl) (lt_dec rfl) ?_
              refine Ops_p (p_move rfl) (lt_dec rfl) ?_
              refine Ops_guard rfl rfl (lt_dec rfl) (fun hg3 => ?_) (fun hg3 => ?_)
              · try simp only [bs] at hg3
                refine Ops_p (p_move rfl) (lt_dec rfl) ?_
                refine Ops_guard_t rfl rfl (lt_dec rfl) ?_
                refine Ops_p (p_move rfl) (lt_dec rfl) ?_
                refine Ops_guard_t rfl rfl (lt_dec rfl) ?_
                refine Ops_p ((p_index_s (Prod.fst (Prod.snd (sdS s (opS s k') (p + 1)))) rfl rfl rfl rfl (by omega))) (lt_dec rfl) ?_
                refine Ops_guard_t rfl rfl (lt_dec rfl) ?_
                first | refine Ops_p (p_neq_8 rfl rfl) (lt_dec rfl) ?_ | refine Ops_p (p_neq rfl rfl) (lt_dec rfl) ?_
                refine Ops_p (p_pick_f rfl rfl) (lt_dec rfl) ?_
                refine Ops_nil ?_
                refine W_cond rfl (fun h7 => ?_) (fun h7 => ?_)
                · try simp only [bs] at h7
                  have h41 : s.getD (Prod.fst (Prod.snd (sdS s (opS s k') (p + 1)))) 0 ≠ 41 := (fun e => h7 e)
                  refine W_seq ?_
                  refine W_region ?_
                  refine Ops_p (p_move rfl) (lt_dec rfl) ?_
                  refine Ops_p (p_assign rfl) (lt_dec rfl) ?_
                  refine Ops_p (p_assign rfl) (lt_dec rfl) ?_
                  refine Ops_p (p_assign rfl) (lt_dec rfl) ?_
                  refine Ops_nil ?_
                  refine W_ret ?_
                  refine Exists.intro _ (And.intro (.cons (.tmp rfl) (.cons (.tmp rfl) (.cons (.tmp rfl) .nil))) (Exists.intro ⟨.slice none 0 0, rfl⟩ (And.intro ?_ (And.intro ?_ (And.intro (.free rfl (own_nil (by (first | rw [hos] | rw [(hbad (by first | exact .inl (by assumption) | exact .inr (.inl (by omega)) | exact .inr (.inr (.inl (by omega))) | exact .inr (.inr (.inr (by assumption)))))]) <;> rfl) (by (first | rw [hos] | rw [(hbad (by first | exact .inl (by assumption) | exact .inr (.inl (by omega)) | exact .inr (.inr (.inl (by omega))) | exact .inr (.inr (.inr (by assumption)))))]) <;> rfl)) .nil) rfl)))))
                  · trivial
                  · ((first | rw [hos] | rw [(hbad (by first | exact .inl (by assumption) | exact .inr (.inl (by omega)) | exact .inr (.inr (.inl (by omega))) | exact .inr (.inr (.inr (by assumption)))))]) <;> rfl)
                · try simp only [bs] at h7
                  have hos := op_par (s := s) (k := k') hin hlf h40 (by rintro (h | h | h | h); simp_all; omega; omega; exact h h7)
                  refine W_skip ?_
                  refine W_seq ?_
                  refine W_region ?_
                  refine Ops_p (p_move rfl) (lt_dec rfl) ?_
                  refine Ops_p (p_move rfl) (lt_dec rfl) ?_
                  refine Ops_p ((p_add rfl rfl (by exact ⟨by omega, by omega⟩)).eq (d' := .int .i64 (((Prod.fst (Prod.snd (sdS s (opS s k') (p + 1)))) + 1 : Nat) : Int)) (veq_int (by omega))) (lt_dec rfl) ?_
                  refine Ops_p (p_assign rfl) (lt_dec rfl) ?_
                  refine Ops_p (p_assign rfl) (lt_dec rfl) ?_
                  refine Ops_p (p_assign rfl) (lt_dec rfl) ?_
                  refine Ops_nil ?_
                  refine W_ret ?_
                  refine Exists.intro _ (And.intro (.cons (.tmp rfl) (.cons (.tmp rfl) (.cons (.tmp rfl) .nil))) (Exists.intro x35_1 (And.intro ?_ (And.intro ?_ (And.intro (.cons HpDel.head rfl (own_eq (by rw [hos])) .nil) rfl)))))
                  · trivial
                  · (rw [hos]; rfl)
              · try simp only [bs] at hg3
                refine Ops_guard_f rfl rfl rfl (lt_dec rfl) ?_
                refine Ops_guard_f rfl rfl rfl (lt_dec rfl) ?_
                refine Ops_guard_f rfl rfl rfl (lt_dec rfl) ?_
                refine Ops_p (p_pick_t rfl rfl) (lt_dec rfl) ?_
                refine Ops_nil ?_
                refine W_true rfl ?_
                refine W_seq ?_
                refine W_region ?_
                refine Ops_p (p_move rfl) (lt_dec rfl) ?_
                refine Ops_p (p_assign rfl) (lt_dec rfl) ?_
                refine Ops_p (p_assign rfl) (lt_dec rfl) ?_
                refine Ops_p (p_assign rfl) (lt_dec rfl) ?_
                refine Ops_nil ?_
                refine W_ret ?_
                refine Exists.intro _ (And.intro (.cons (.tmp rfl) (.cons (.tmp rfl) (.cons (.tmp rfl) .nil))) (Exists.intro ⟨.slice none 0 0, rfl⟩ (And.intro ?_ (And.intro ?_ (And.intro (.free rfl (own_nil (by (first | rw [hos] | rw [(hbad (by first | exact .inl (by assumption) | exact .inr (.inl (by omega)) | exact .inr (.inr (.inl (by omega))) | exact .inr (.inr (.inr (by assumption)))))]) <;> rfl) (by (first | rw [hos] | rw [(hbad (by first | exact .inl (by assumption) | exact .inr (.inl (by omega)) | exact .inr (.inr (.inl (by omega))) | exact .inr (.inr (.inr (by assumption)))))]) <;> rfl)) .nil) rfl)))))
                · trivial
                · ((first | rw [hos] | rw [(hbad (by first | exact .inl (by assumption) | exact .inr (.inl (by omega)) | exact .inr (.inr (.inl (by omega))) | exact .inr (.inr (.inr (by assumption)))))]) <;> rfl)
            · try simp only [bs] at hg2
              refine Ops_guard_f rfl rfl rfl (lt_dec rfl) ?_
              refine Ops_guard_f rfl rfl rfl (lt_dec rfl) ?_
              refine Ops_guard_f rfl rfl rfl (lt_dec rfl) ?_
              refine Ops_p (p_pick_t rfl rfl) (lt_dec rfl) ?_
              refine Ops_p (p_move rfl) (lt_dec rfl) ?_
              refine Ops_guard_f rfl rfl rfl (lt_dec rfl) ?_
              refine Ops_guard_f rfl rfl rfl (lt_dec rfl) ?_
              refine Ops_guard_f rfl rfl rfl (lt_dec rfl) ?_
              refine Ops_guard_f rfl rfl rfl (lt_dec rfl) ?_
              refine Ops_p (p_pick_t rfl rfl) (lt_dec rfl) ?_
              refine Ops_nil ?_
              refine W_true rfl ?_
              refine W_seq ?_
              refine W_region ?_
              refine Ops_p (p_move rfl) (lt_dec rfl) ?_
              refine Ops_p (p_assign rfl) (lt_dec rfl) ?_
              refine Ops_p (p_assign rfl) (lt_dec rfl) ?_
              refine Ops_p (p_assign rfl) (lt_dec rfl) ?_
              refine Ops_nil ?_
              refine W_ret ?_
              refine Exists.intro _ (And.intro (.cons (.tmp rfl) (.cons (.tmp rfl) (.cons (.tmp rfl) .nil))) (Exists.intro ⟨.slice none 0 0, rfl⟩ (And.intro ?_ (And.intro ?_ (And.intro (.free rfl (own_nil (by (first | rw [hos] | rw [(hbad (by first | exact .inl (by assumption) | exact .inr (.inl (by omega)) | exact .inr (.inr (.inl (by omega))) | exact .inr (.inr (.inr (by assumption)))))]) <;> rfl) (by (first | rw [hos] | rw [(hbad (by first | exact .inl (by assumption) | exact .inr (.inl (by omega)) | exact .inr (.inr (.inl (by omega))) | exact .inr (.inr (.inr (by assumption)))))]) <;> rfl)) .nil) rfl)))))
              · trivial
              · ((first | rw [hos] | rw [(hbad (by first | exact .inl (by assumption) | exact .inr (.inl (by omega)) | exact .inr (.inr (.inl (by omega))) | exact .inr (.inr (.inr (by assumption)))))]) <;> rfl)
          · try simp only [bs] at hg1
            refine Ops_guard_f rfl rfl rfl (lt_dec rfl) ?_
            refine Ops_guard_f rfl rfl rfl (lt_dec rfl) ?_
            refine Ops_p (p_pick_t rfl rfl) (lt_dec rfl) ?_
            refine Ops_p (p_move rfl) (lt_dec rfl) ?_
            refine Ops_guard_f rfl rfl rfl (lt_dec rfl) ?_
            refine Ops_guard_f rfl rfl rfl (lt_dec rfl) ?_
            refine Ops_guard_f rfl rfl rfl (lt_dec rfl) ?_
            refine Ops_guard_f rfl rfl rfl (lt_dec rfl) ?_
            refine Ops_p (p_pick_t rfl rfl) (lt_dec rfl) ?_
            refine Ops_p (p_move rfl) (lt_dec rfl) ?_
            refine Ops_guard_f rfl rfl rfl (lt_dec rfl) ?_
            refine Ops_guard_f rfl rfl rfl (lt_dec rfl) ?_
            refine Ops_guard_f rfl rfl rfl (lt_dec rfl) ?_
            refine Ops_guard_f rfl rfl rfl (lt_dec rfl) ?_
            refine Ops_p (p_pick_t rfl rfl) (lt_dec rfl) ?_
            refine Ops_nil ?_
            refine W_true rfl ?_
            refine W_seq ?_
            refine W_region ?_
            refine Ops_p (p_move rfl) (lt_dec rfl) ?_
            refine Ops_p (p_assign rfl) (lt_dec rfl) ?_
            refine Ops_p (p_assign rfl) (lt_dec rfl) ?_
            refine Ops_p (p_assign rfl) (lt_dec rfl) ?_
            refine Ops_nil ?_
            refine W_ret ?_
            refine Exists.intro _ (And.intro (.cons (.tmp rfl) (.cons (.tmp rfl) (.cons (.tmp rfl) .nil))) (Exists.intro ⟨.slice none 0 0, rfl⟩ (And.intro ?_ (And.intro ?_ (And.intro (.free rfl (own_nil (by (first | rw [hos] | rw [(hbad (by first | exact .inl (by assumption) | exact .inr (.inl (by omega)) | exact .inr (.inr (.inl (by omega))) | exact .inr (.inr (.inr (by assumption)))))]) <;> rfl) (by (first | rw [hos] | rw [(hbad (by first | exact .inl (by assumption) | exact .inr (.inl (by omega)) | exact .inr (.inr (.inl (by omega))) | exact .inr (.inr (.inr (by assumption)))))]) <;> rfl)) .nil) rfl)))))
            · trivial
            · ((first | rw [hos] | rw [(hbad (by first | exact .inl (by assumption) | exact .inr (.inl (by omega)) | exact .inr (.inr (.inl (by omega))) | exact .inr (.inr (.inr (by assumption)))))]) <;> rfl)
        · try simp only [bs] at h6
          have hos := op_else (s := s) (k := k') (p := p) hin hlf (fun e => h6 e)
          refine W_skip ?_
          refine W_seq ?_
          refine W_region ?_
          refine Ops_p (p_move rfl) (lt_dec rfl) ?_
          refine Ops_p (p_assign rfl) (lt_dec rfl) ?_
          refine Ops_p (p_assign rfl) (lt_dec rfl) ?_
          refine Ops_p (p_assign rfl) (lt_dec rfl) ?_
          refine Ops_nil ?_
          refine W_ret ?_
          refine Exists.intro _ (And.intro (.cons (.tmp rfl) (.cons (.tmp rfl) (.cons (.tmp rfl) .nil))) (Exists.intro ⟨.slice none 0 0, rfl⟩ (And.intro ?_ (And.intro ?_ (And.intro (.free rfl (own_nil (by (first | rw [hos] | rw [(hbad (by first | exact .inl (by assumption) | exact .inr (.inl (by omega)) | exact .inr (.inr (.inl (by omega))) | exact .inr (.inr (.inr (by assumption)))))]) <;> rfl) (by (first | rw [hos] | rw [(hbad (by first | exact .inl (by assumption) | exact .inr (.inl (by omega)) | exact .inr (.inr (.inl (by omega))) | exact .inr (.inr (.inr (by assumption)))))]) <;> rfl)) .nil) rfl)))))
          · trivial
          · ((first | rw [hos] | rw [(hbad (by first | exact .inl (by assumption) | exact .inr (.inl (by omega)) | exact .inr (.inr (.inl (by omega))) | exact .inr (.inr (.inr (by assumption)))))]) <;> rfl)
theorem w_spec_l03Operand {s : List (Fin 256)} (hs : s.length ≤ 1000) {k p : Nat} (hp : p ≤ s.length) (hk : s.length < p + k) : CT (X := V1) Try.prog 97 (vals [.raw (.string (strB s)) rfl, .int .i64 (p : Int)]) [] [] (fun x => True) (fun x => .tup [.raw x.1 x.2, .int .i64 (((opS s k p).2.1 : Nat) : Int), .bool (opS s k p).2.2]) (fun x => [own x.1 5 (.u8s (opS s k p).1)]) := w_spec_l03Operand_all (s := s) (hs := hs) _ k p hp hk (Nat.lt_succ_self _)
end Go.Proofs.Ytdcpggdbjllmpaa
