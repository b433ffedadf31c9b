/- What the Go function (impl.classes).lists does, shown of its loaded text; its conditions stand in the statement. -/
import Derived.Test.YtdcpggdbjllmpabTy
import Derived.Test.YtdcpggdbjllmpabGx12
import Derived.Test.YtdcpggdbjllmpabGx20
import Derived.Test.YtdcpggdbjllmpabM26
namespace Go.Proofs.Ytdcpggdbjllmpab
open Go Gx
set_option linter.unusedVariables false
theorem en_impl_classes_lists : Enters Try.prog 89 := enters_of Try.func89 (by kernel_rfl) (by kernel_rfl)
set_option maxRecDepth 100000 in
set_option maxHeartbeats 1000000 in
theorem w_impl_classes_lists {a : Value} {ha : a.oneCell' = true} {c : List Int} (hl : c.length ≤ 10) : CT (X := V1 × SL) Try.prog 89 (vals [.raw a ha]) [] [rd a (.ints .i64 c)] (fun x => x.2.map (·.2) = clF c (List.length c) (List.length c)) (fun x => .raw x.1.1 x.1.2) (fun x => [oss x.1.1 24 2 x.2]) := by
  refine CT_intro (rs := [.tmp 2]) tt tok Try.func89 rfl rfl rfl (by first | rfl | assumption) fun w => ?_
  show W _ _ _ ⟨tmOf 0 [.raw a ha], [rd a (.ints .i64 c)]⟩
  refine W_seq ?_
  refine W_region ?_
  refine Ops_p (p_assign rfl) (lt_dec rfl) ?_
  refine Ops_nil ?_
  refine W_seq ?_
  refine W_region ?_
  refine Ops_x rfl (x_buildSlice rfl rfl rfl rfl rfl rfl rfl rfl (Nat.le_of_ble_eq_true rfl) (lt_dec rfl) fun b7_1 => ?_)
  refine Ops_p (p_assign rfl) (lt_dec rfl) ?_
  refine Ops_nil ?_
  refine W_seq ?_
  refine W_seq ?_
  refine W_region ?_
  refine Ops_p (p_move rfl) (lt_dec rfl) ?_
  refine Ops_q ((q_lenR rfl rfl rfl (Rds.rd m1)).eq (d' := .int .i64 ((c.length : Nat) : Int)) rfl) (lt_dec rfl) ?_
  refine Ops_p (p_move rfl) (lt_dec rfl) ?_
  refine Ops_nil ?_
  refine W_block ?_
  refine W_loop (α := Nat × V1 × SL) (fun zz0 => ⟨[(0, .raw a ha), (3, .raw (zz0.2.1).1 (zz0.2.1).2), (8, .raw a ha), (9, .int .i64 (c.length : Int)), (10, .int .i64 ((zz0.1) : Int))], [oss (zz0.2.1).1 24 2 (zz0.2.2), rd a (.ints .i64 c)]⟩) (fun zz0 => (zz0.1) ≤ c.length ∧ (zz0.2.2).map (·.2) = clF c c.length (zz0.1)) (fun zz0 => c.length - (zz0.1)) (0, slv b7_1 0 0, []) ?_ ?_ ?_
  · exact ⟨Nat.zero_le _, rfl⟩
  · exact Wk.intro (.cons rfl (by first | rfl | exact veq_int (by first | omega | (dsimp only; omega))) (.cons rfl (by first | rfl | exact veq_int (by first | omega | (dsimp only; omega))) (.cons rfl (by first | rfl | exact veq_int (by first | omega | (dsimp only; omega))) (.cons rfl (by first | rfl | exact veq_int (by first | omega | (dsimp only; omega))) (.cons rfl (by first | rfl | exact veq_int (by first | omega | (dsimp only; omega))) .nil))))) (.keep rfl rfl (oss_of_row) (.keep rfl rfl (fun _ h => h) .nil))
  · rintro ⟨k, vv, D⟩ ⟨hk, hD⟩
    try dsimp only at *
    refine W_seq ?_
    refine W_region ?_
    refine Ops_p (p_lss rfl rfl) (lt_dec rfl) ?_
    refine Ops_nil ?_
    refine W_seq ?_
    refine W_cond rfl (fun h1 => ?_) (fun h1 => ?_)
    · try simp only [bs] at h1
      refine W_skip ?_
      refine W_seq ?_
      refine W_block ?_
      refine W_seq ?_
      refine W_region ?_
      refine Ops_p (p_move rfl) (lt_dec rfl) ?_
      refine Ops_p (p_assign rfl) (lt_dec rfl) ?_
      refine Ops_nil ?_
      refine W_seq ?_
      refine W_region ?_
      refine Ops_x rfl (x_buildSlice rfl rfl rfl rfl rfl rfl rfl rfl (Nat.le_of_ble_eq_true rfl) (lt_dec rfl) fun b13_1 => ?_)
      refine Ops_p (p_assign rfl) (lt_dec rfl) ?_
      refine Ops_nil ?_
      refine W_seq ?_
      refine W_seq ?_
      refine W_region ?_
      refine Ops_p (p_move rfl) (lt_dec rfl) ?_
      refine Ops_q ((q_lenR rfl rfl rfl (Rds.rd m2)).eq (d' := .int .i64 ((c.length : Nat) : Int)) rfl) (lt_dec rfl) ?_
      refine Ops_p (p_move rfl) (lt_dec rfl) ?_
      refine Ops_nil ?_
      refine W_block ?_
      refine W_loop (α := Nat × Nat × Nat) (fun zz1 => ⟨[(0, .raw a ha), (3, .raw vv.1 vv.2), (4, .int .i64 (k : Int)), (5, .sl (zz1.2.1) 0 (List.length (filt (clP c k) (zz1.1))) (zz1.2.2)), (8, .raw a ha), (9, .int .i64 (c.length : Int)), (10, .int .i64 (k : Int)), (12, .int .i64 (k : Int)), (14, .raw a ha), (15, .int .i64 (c.length : Int)), (16, .int .i64 ((zz1.1) : Int))], [.row (zz1.2.1) (zz1.2.2) 2 (.ints .i64 (filt (clP c k) (zz1.1))), oss vv.1 24 2 D, rd a (.ints .i64 c)]⟩) (fun zz1 => (zz1.1) ≤ c.length) (fun zz1 => c.length - (zz1.1)) (0, b13_1, 0) ?_ ?_ ?_
      · show _ ≤ _; omega
      · exact Wk.intro (.cons rfl (by first | rfl | exact veq_int (by first | omega | (dsimp only; omega))) (.cons rfl (by first | rfl | exact veq_int (by first | omega | (dsimp only; omega))) (.cons rfl (by first | rfl | exact veq_int (by first | omega | (dsimp only; omega))) (.cons rfl (by first | rfl | exact veq_int (by first | omega | (dsimp only; omega))) (.cons rfl (by first | rfl | exact veq_int (by first | omega | (dsimp only; omega))) (.cons rfl (by first | rfl | exact veq_int (by first | omega | (dsimp only; omega))) (.cons rfl (by first | rfl | exact veq_int (by first | omega | (dsimp only; omega))) (.cons rfl (by first | rfl | exact veq_int (by first | omega | (dsimp only; omega))) (.cons rfl (by first | rfl | exact veq_int (by first | omega | (dsimp only; omega))) (.cons rfl (by first | rfl | exact veq_int (by first | omega | (dsimp only; omega))) (.cons rfl (by first | rfl | exact veq_int (by first | omega | (dsimp only; omega))) .nil))))))))))) (.keep rfl rfl (fun _ h => h) (.keep rfl rfl (fun _ h => h) (.keep rfl rfl (fun _ h => h) .nil)))
      · rintro ⟨y, bb, cbb⟩ hR
        try dsimp only at *
        have hfl := filt_len (P := clP c k) y
        refine W_seq ?_
        refine W_region ?_
        refine Ops_p (p_lss rfl rfl) (lt_dec rfl) ?_
        refine Ops_nil ?_
        refine W_seq ?_
        refine W_cond rfl (fun h2 => ?_) (fun h2 => ?_)
        · try simp only [bs] at h2
          refine W_skip ?_
          refine W_seq ?_
          refine W_block ?_
          refine W_seq ?_
          refine W_region ?_
          refine Ops_p (p_move rfl) (lt_dec rfl) ?_
          refine Ops_p (p_assign rfl) (lt_dec rfl) ?_
          refine Ops_nil ?_
          refine W_seq ?_
          refine W_region ?_
          refine Ops_p (p_move rfl) (lt_dec rfl) ?_
          refine Ops_p (p_move rfl) (lt_dec rfl) ?_
          refine Ops_q (q_ixR _ rfl rfl rfl (Rds.rd m2) rfl rfl (by first | (show _ < List.length _; omega) | (show _ < List.length _; first | omega | (dsimp only; omega))) rfl) (lt_dec rfl) ?_
          refine Ops_q (q_loadR rfl rfl (Rds.rd m2) rfl rfl (by first | (show _ < List.length _; omega) | (show _ < List.length _; first | omega | (dsimp only; omega))) rfl rfl rfl) (lt_dec rfl) ?_
          refine Ops_p (p_move rfl) (lt_dec rfl) ?_
          refine Ops_p (p_eql rfl rfl) (lt_dec rfl) ?_
          refine Ops_nil ?_
          refine W_cond rfl (fun h3 => ?_) (fun h3 => ?_)
          · try simp only [bs] at h3
            have h8 : clP c k y = true := decide_eq_true h3; clear h3
            refine W_region ?_
            refine Ops_p (p_move rfl) (lt_dec rfl) ?_
            refine Ops_p (p_move rfl) (lt_dec rfl) ?_
            refine Ops_x rfl (x_buildSlice rfl rfl rfl rfl rfl rfl rfl rfl (Nat.le_of_ble_eq_true rfl) (lt_dec rfl) fun b27_1 => ?_)
            refine Ops_x rfl (x_append rfl rfl rfl rfl rfl rfl (fun _ _ => (HpRep.head).tail) (.inl ⟨m0, rfl⟩) rfl (by first | rfl | exact elems_len.symm | simp [Rw.len]) rfl (by first | omega | (dsimp only; omega)) rfl (by first | omega | (dsimp only; omega)) (by first | omega | (dsimp only; omega)) (lt_dec rfl) fun b28_1 cb28_1 => ?_)
            refine Ops_p (p_assign rfl) (lt_dec rfl) ?_
            refine Ops_nil ?_
            refine W_region ?_
            refine Ops_p (p_add rfl rfl (by exact ⟨(by first | omega | (dsimp only; omega)), (by first | omega | (dsimp only; omega))⟩)) (lt_dec rfl) ?_
            refine Ops_p (p_move rfl) (lt_dec rfl) ?_
            refine Ops_nil ?_
            refine Exists.intro (y + 1, b28_1, cb28_1) (And.intro ?_ (And.intro ?_ ?_))
            · show _ ≤ _; omega
            · show _ < _; omega
            · exact Wk.intro (.cons rfl (by first | rfl | exact veq_int (by first | omega | (dsimp only; omega))) (.cons rfl (by first | rfl | exact veq_int (by first | omega | (dsimp only; omega))) (.cons rfl (by first | rfl | exact veq_int (by first | omega | (dsimp only; omega))) (.cons rfl (by first | exact veq_sl (by rw [← filt_t (by assumption)]; simp) | exact veq_sl (by rw [← filt_f (by assumption)])) (.cons rfl (by first | rfl | exact veq_int (by first | omega | (dsimp only; omega))) (.cons rfl (by first | rfl | exact veq_int (by first | omega | (dsimp only; omega))) (.cons rfl (by first | rfl | exact veq_int (by first | omega | (dsimp only; omega))) (.cons rfl (by first | rfl | exact veq_int (by first | omega | (dsimp only; omega))) (.cons rfl (by first | rfl | exact veq_int (by first | omega | (dsimp only; omega))) (.cons rfl (by first | rfl | exact veq_int (by first | omega | (dsimp only; omega))) (.cons rfl (by first | rfl | exact veq_int (by first | omega | (dsimp only; omega))) .nil))))))))))) (.drop (.keep rfl rfl (fun _ h => by first | (rw [← filt_t (by assumption)]; exact h) | (rw [← filt_f (by assumption)]; exact h)) (.keep rfl rfl (fun _ h => h) (.keep rfl rfl (fun _ h => h) .nil))))
          · try simp only [bs] at h3
            have h8 : clP c k y = false := decide_eq_false h3; clear h3
            refine W_skip ?_
            refine W_region ?_
            refine Ops_p (p_add rfl rfl (by exact ⟨(by first | omega | (dsimp only; omega)), (by first | omega | (dsimp only; omega))⟩)) (lt_dec rfl) ?_
            refine Ops_p (p_move rfl) (lt_dec rfl) ?_
            refine Ops_nil ?_
            refine Exists.intro (y + 1, bb, cbb) (And.intro ?_ (And.intro ?_ ?_))
            · show _ ≤ _; omega
            · show _ < _; omega
            · exact Wk.intro (.cons rfl (by first | rfl | exact veq_int (by first | omega | (dsimp only; omega))) (.cons rfl (by first | rfl | exact veq_int (by first | omega | (dsimp only; omega))) (.cons rfl (by first | rfl | exact veq_int (by first | omega | (dsimp only; omega))) (.cons rfl (by first | exact veq_sl (by rw [← filt_t (by assumption)]; simp) | exact veq_sl (by rw [← filt_f (by assumption)])) (.cons rfl (by first | rfl | exact veq_int (by first | omega | (dsimp only; omega))) (.cons rfl (by first | rfl | exact veq_int (by first | omega | (dsimp only; omega))) (.cons rfl (by first | rfl | exact veq_int (by first | omega | (dsimp only; omega))) (.cons rfl (by first | rfl | exact veq_int (by first | omega | (dsimp only; omega))) (.cons rfl (by first | rfl | exact veq_int (by first | omega | (dsimp only; omega))) (.cons rfl (by first | rfl | exact veq_int (by first | omega | (dsimp only; omega))) (.cons rfl (by first | rfl | exact veq_int (by first | omega | (dsimp only; omega))) .nil))))))))))) (.keep rfl rfl (fun _ h => by first | (rw [← filt_t (by assumption)]; exact h) | (rw [← filt_f (by assumption)]; exact h)) (.keep rfl rfl (fun _ h => h) (.keep rfl rfl (fun _ h => h) .nil)))
        · try simp only [bs] at h2
          obtain rfl : y = c.length := (by omega)
          refine W_exit ?_
          refine W_seq ?_
          refine W_region ?_
          refine Ops_p (p_move rfl) (lt_dec rfl) ?_
          refine Ops_p (p_len rfl rfl rfl) (lt_dec rfl) ?_
          refine Ops_p (p_gtr rfl rfl) (lt_dec rfl) ?_
          refine Ops_nil ?_
          refine W_cond rfl (fun h4 => ?_) (fun h4 => ?_)
          · try simp only [bs] at h4
            refine W_region ?_
            refine Ops_p (p_move rfl) (lt_dec rfl) ?_
            refine Ops_p (p_move rfl) (lt_dec rfl) ?_
            refine Ops_x rfl (x_buildSlice rfl rfl rfl rfl rfl rfl rfl rfl (Nat.le_of_ble_eq_true rfl) (lt_dec rfl) fun b35_1 => ?_)
            refine Ops_x rfl (x_appendSS (u := (slv bb (List.length (filt (clP c k) c.length)) cbb)) (li := (filt (clP c k) c.length)) rfl rfl rfl rfl rfl rfl m0 (HpDels.cons ((HpDel.head).tail).tail (HpDels.cons (HpDel.head).tail HpDels.nil)) rfl rfl (own_of_row rfl rfl) (fun _ => (HpDels.cons (HpDel.head).tail HpDels.nil)) (by dsimp only; have := clF_len (c := c) (n := c.length) k; have := congrArg List.length hD; simp at this; omega) (by have := clF_len (c := c) (n := c.length) k; have := congrArg List.length hD; simp at this; omega) (lt_dec rfl) fun v36 => ?_)
            refine Ops_p (p_assign rfl) (lt_dec rfl) ?_
            refine Ops_nil ?_
            refine W_region ?_
            refine Ops_p (p_add rfl rfl (by exact ⟨(by first | omega | (dsimp only; omega)), (by first | omega | (dsimp only; omega))⟩)) (lt_dec rfl) ?_
            refine Ops_p (p_move rfl) (lt_dec rfl) ?_
            refine Ops_nil ?_
            refine Exists.intro (k + 1, v36, (D ++ [((slv bb (List.length (filt (clP c k) c.length)) cbb), (filt (clP c k) c.length))])) (And.intro ?_ (And.intro ?_ ?_))
            · first | exact ⟨by show _ ≤ _; omega, by rw [List.map_append, hD]; exact clF_yes (by omega)⟩ | exact ⟨by show _ ≤ _; omega, by show List.map _ D = _; rw [hD]; exact clF_no (by omega)⟩
            · show _ < _; omega
            · exact Wk.intro (.cons rfl (by first | rfl | exact veq_int (by first | omega | (dsimp only; omega))) (.cons rfl (by first | rfl | exact veq_int (by first | omega | (dsimp only; omega))) (.cons rfl (by first | rfl | exact veq_int (by first | omega | (dsimp only; omega))) (.cons rfl (by first | rfl | exact veq_int (by first | omega | (dsimp only; omega))) (.cons rfl (by first | rfl | exact veq_int (by first | omega | (dsimp only; omega))) .nil))))) (.drop (.keep rfl rfl (oss_eq rfl) (.keep rfl rfl (fun _ h => h) .nil)))
          · try simp only [bs] at h4
            refine W_skip ?_
            refine W_region ?_
            refine Ops_p (p_add rfl rfl (by exact ⟨(by first | omega | (dsimp only; omega)), (by first | omega | (dsimp only; omega))⟩)) (lt_dec rfl) ?_
            refine Ops_p (p_move rfl) (lt_dec rfl) ?_
            refine Ops_nil ?_
            refine Exists.intro (k + 1, vv, D) (And.intro ?_ (And.intro ?_ ?_))
            · first | exact ⟨by show _ ≤ _; omega, by rw [List.map_append, hD]; exact clF_yes (by omega)⟩ | exact ⟨by show _ ≤ _; omega, by show List.map _ D = _; rw [hD]; exact clF_no (by omega)⟩
            · show _ < _; omega
            · exact Wk.intro (.cons rfl (by first | rfl | exact veq_int (by first | omega | (dsimp only; omega))) (.cons rfl (by first | rfl | exact veq_int (by first | omega | (dsimp only; omega))) (.cons rfl (by first | rfl | exact veq_int (by first | omega | (dsimp only; omega))) (.cons rfl (by first | rfl | exact veq_int (by first | omega | (dsimp only; omega))) (.cons rfl (by first | rfl | exact veq_int (by first | omega | (dsimp only; omega))) .nil))))) (.drop (.keep rfl rfl (oss_eq rfl) (.keep rfl rfl (fun _ h => h) .nil)))
    · try simp only [bs] at h1
      obtain rfl : k = c.length := (by omega)
      refine W_exit ?_
      refine W_seq ?_
      refine W_region ?_
      refine Ops_p (p_move rfl) (lt_dec rfl) ?_
      refine Ops_p (p_assign rfl) (lt_dec rfl) ?_
      refine Ops_nil ?_
      refine W_ret ?_
      refine Exists.intro _ (And.intro (.cons (.tmp rfl) .nil) (Exists.intro (vv, D) (And.intro ?_ (And.intro ?_ (And.intro (.cons HpDel.head rfl (oss_eq rfl) .nil) rfl)))))
      · exact hD
      · rfl
end Go.Proofs.Ytdcpggdbjllmpab
