/- What the Go function spec.l04Orbits does, shown of its loaded text; its conditions stand in the statement. -/
import Derived.Test.YtdcpggdbjllmpabTy
import Derived.Test.YtdcpggdbjllmpabFspecl04Orbit
import Derived.Test.YtdcpggdbjllmpabGx12
import Derived.Test.YtdcpggdbjllmpabGx20
import Derived.Test.YtdcpggdbjllmpabM26
namespace Go.Proofs.Ytdcpggdbjllmpab
open Go Gx
set_option linter.unusedVariables false
theorem en_spec_l04Orbits : Enters Try.prog 47 := enters_of Try.func47 (by kernel_rfl) (by kernel_rfl)
set_option maxRecDepth 100000 in
set_option maxHeartbeats 2000000 in
theorem w_spec_l04Orbits {a : Value} {ha : a.oneCell' = true} {l : List (Nat → Fin 256)} {n : Int} (hp : PsOk l n) (hl : l.length ≤ 40) : CT (X := V1 × SL) Try.prog 47 (vals [.raw a ha, .int .i64 n]) [] [rd a (.arrs 10 l)] (fun x => x.2.map (·.2) = oL (orbB l n.toNat) n.toNat n.toNat) (fun x => .raw x.1.1 x.1.2) (fun x => [oss x.1.1 24 2 x.2]) := by
  refine CT_intro (rs := [.tmp 4]) tt tok Try.func47 rfl rfl rfl (by first | rfl | assumption) fun w => ?_
  show W _ _ _ ⟨tmOf 0 [.raw a ha, .int .i64 n], [rd a (.arrs 10 l)]⟩
  have hn := hp.1
  refine W_seq ?_
  refine W_region ?_
  refine Ops_p (p_assign rfl) (lt_dec rfl) ?_
  refine Ops_nil ?_
  refine W_seq ?_
  refine W_region ?_
  refine Ops_x rfl (x_buildSlice rfl rfl rfl rfl rfl rfl rfl rfl (Nat.le_of_ble_eq_true rfl) (lt_dec rfl) fun b11_1 => ?_)
  refine Ops_p (p_build_arr rfl rfl rfl rfl (by first | trivial | (first | omega | (dsimp only; omega)) | exact Fin.isLt _ | (dsimp only; omega))) (lt_dec rfl) ?_
  refine Ops_x rfl (x_alloc rfl (lt_dec rfl) fun b6_1 => ?_)
  refine Ops_p (p_assign rfl) (lt_dec rfl) ?_
  refine Ops_x rfl (x_store rfl rfl rfl rfl rfl HpRep.head rfl (by first | trivial | (first | (first | omega | (dsimp only; omega)) | exact Fin.isLt _)) ?_)
  refine Ops_nil ?_
  refine W_seq ?_
  refine W_seq ?_
  refine W_region ?_
  refine Ops_p (p_assign rfl) (lt_dec rfl) ?_
  refine Ops_nil ?_
  refine W_block ?_
  refine W_loop (α := Nat × V1 × SL) (fun zz0 => ⟨[(0, .raw a ha), (1, .int .i64 n), (5, .raw (zz0.2.1).1 (zz0.2.1).2), (6, .ptr b6_1 0 none), (7, .int .i64 ((zz0.1) : Int)), (12, .barr 10 fun _ => false)], [.var b6_1 (.barr 10 (seenT (orbB l n.toNat) n.toNat (zz0.1))), oss (zz0.2.1).1 24 2 (zz0.2.2), rd a (.arrs 10 l)]⟩) (fun zz0 => (zz0.1) ≤ n.toNat ∧ (zz0.2.2).map (·.2) = oL (orbB l n.toNat) n.toNat (zz0.1)) (fun zz0 => n.toNat - (zz0.1)) (0, slv b11_1 0 0, []) ?_ ?_ ?_
  · exact ⟨Nat.zero_le _, rfl⟩
  · exact Wk.intro (.cons rfl (by first | rfl | exact veq_int (by first | omega | (dsimp only; omega))) (.cons rfl (by first | rfl | exact veq_int (by first | omega | (dsimp only; omega))) (.cons rfl (by first | rfl | exact veq_int (by first | omega | (dsimp only; omega))) (.cons rfl (by first | rfl | exact veq_int (by first | omega | (dsimp only; omega))) (.cons rfl (by first | rfl | exact veq_int (by first | omega | (dsimp only; omega))) (.cons rfl (by first | rfl | exact veq_int (by first | omega | (dsimp only; omega))) .nil)))))) (.keep rfl rfl (imp_var (by exact ceq_barr fun y _ => seenT_zero y) rfl) (.keep rfl rfl (oss_of_row) (.keep rfl rfl (fun _ h => h) .nil)))
  · rintro ⟨k, vv, D⟩ ⟨hk, hD⟩
    try dsimp only at *
    refine W_seq ?_
    refine W_seq ?_
    refine W_region ?_
    refine Ops_p (p_move rfl) (lt_dec rfl) ?_
    refine Ops_p (p_move rfl) (lt_dec rfl) ?_
    refine Ops_p (p_lss rfl rfl) (lt_dec rfl) ?_
    refine Ops_nil ?_
    refine W_cond rfl (fun h1 => ?_) (fun h1 => ?_)
    · try simp only [bs] at h1
      refine W_skip ?_
      refine W_seq ?_
      refine W_block ?_
      refine W_seq ?_
      refine W_seq ?_
      refine W_region ?_
      refine Ops_p (p_move rfl) (lt_dec rfl) ?_
      first | refine Ops_p (p_ix1 _ rfl rfl rfl rfl rfl rfl (by first | (first | omega | (dsimp only; omega)) | exact Fin.isLt _)) (lt_dec rfl) ?_ | refine Ops_p (p_ix1s _ rfl rfl rfl rfl rfl rfl (by first | (first | omega | (dsimp only; omega)) | exact Fin.isLt _)) (lt_dec rfl) ?_
      refine Ops_q (q_load rfl rfl m0 rfl (by first | trivial | (first | omega | (dsimp only; omega)) | exact Fin.isLt _ | (dsimp only; omega))) (lt_dec rfl) ?_
      refine Ops_nil ?_
      refine W_cond rfl (fun h2 => ?_) (fun h2 => ?_)
      · try simp only [bs] at h2
        have hsk := h2
        refine W_exit ?_
        refine W_region ?_
        refine Ops_p (p_move rfl) (lt_dec rfl) ?_
        refine Ops_p (p_add rfl rfl (by exact ⟨(by first | omega | (dsimp only; omega)), (by first | omega | (dsimp only; omega))⟩)) (lt_dec rfl) ?_
        refine Ops_p (p_assign rfl) (lt_dec rfl) ?_
        refine Ops_nil ?_
        refine Exists.intro (k + 1, vv, D) (And.intro ?_ (And.intro ?_ ?_))
        · first | exact ⟨by show _ ≤ _; omega, by show List.map _ D = _; rw [hD]; exact oL_t (by rw [← seenT_at (n := n.toNat) (by omega)]; exact hsk)⟩ | exact ⟨by show _ ≤ _; omega, by rw [List.map_append, hD]; exact oL_f (by rw [← seenT_at (n := n.toNat) (by omega)]; simpa using hsk)⟩
        · show _ < _; omega
        · exact Wk.intro (.cons rfl (by first | rfl | exact veq_int (by first | omega | (dsimp only; omega))) (.cons rfl (by first | rfl | exact veq_int (by first | omega | (dsimp only; omega))) (.cons rfl (by first | rfl | exact veq_int (by first | omega | (dsimp only; omega))) (.cons rfl (by first | rfl | exact veq_int (by first | omega | (dsimp only; omega))) (.cons rfl (by first | rfl | exact veq_int (by first | omega | (dsimp only; omega))) (.cons rfl (by first | rfl | exact veq_int (by first | omega | (dsimp only; omega))) .nil)))))) (.keep rfl rfl (imp_var (by first | exact ceq_barr fun y _ => seenT_same orbB_trans (by omega) hsk y | exact ceq_barr fun y _ => seenM_end y) rfl) (.keep rfl rfl (oss_eq rfl) (.keep rfl rfl (fun _ h => h) .nil)))
      · try simp only [bs] at h2
        have hsk := h2
        refine W_skip ?_
        refine W_seq ?_
        refine W_region ?_
        refine Ops_p (p_move rfl) (lt_dec rfl) ?_
        refine Ops_p (p_move rfl) (lt_dec rfl) ?_
        refine Ops_p (p_move rfl) (lt_dec rfl) ?_
        refine Ops_x rfl (x_callT en_spec_l04Orbit rfl (w_spec_l04Orbit hp hl (by omega)) HpDels.nil (Vw.rd m2) (fun _ => HpDels.nil) (lt_dec rfl) fun x24_1 hx1 => ?_)
        refine Ops_x rfl (x_buildSlice rfl rfl rfl rfl rfl rfl rfl rfl (Nat.le_of_ble_eq_true rfl) (lt_dec rfl) fun b25_1 => ?_)
        refine Ops_x rfl (x_alloc rfl (lt_dec rfl) fun b8_1 => ?_)
        refine Ops_x rfl (x_store rfl rfl rfl rfl rfl HpRep.head rfl (by first | trivial | (first | (first | omega | (dsimp only; omega)) | exact Fin.isLt _)) ?_)
        refine Ops_p (p_assign rfl) (lt_dec rfl) ?_
        refine Ops_nil ?_
        refine W_seq ?_
        refine W_seq ?_
        refine W_region ?_
        refine Ops_p (p_assign rfl) (lt_dec rfl) ?_
        refine Ops_nil ?_
        refine W_block ?_
        refine W_loop (α := Nat × Nat × Nat) (fun zz1 => ⟨[(0, .raw a ha), (1, .int .i64 n), (5, .raw vv.1 vv.2), (6, .ptr b6_1 0 none), (7, .int .i64 (k : Int)), (8, .ptr b8_1 0 none), (9, .sl (zz1.2.1) 0 (List.length (filt (orbB l n.toNat k) (zz1.1))) (zz1.2.2)), (10, .int .i64 ((zz1.1) : Int)), (12, .barr 10 fun _ => false), (13, .int .i64 (k : Int)), (14, .int .i64 n), (18, .int .i64 (k : Int)), (20, .bool (seenT (orbB l n.toNat) n.toNat k k)), (21, .int .i64 (k : Int)), (22, .raw a ha), (23, .int .i64 n), (24, .agg [.int .i64 (k : Int), .barr 10 x24_1.1, .arr8 100 x24_1.2])], [.var b8_1 (.agg [.int .i64 (k : Int), .barr 10 x24_1.1, .arr8 100 x24_1.2]), .row (zz1.2.1) (zz1.2.2) 2 (.ints .i64 (filt (orbB l n.toNat k) (zz1.1))), .var b6_1 (.barr 10 (seenM (orbB l n.toNat) n.toNat k (zz1.1))), oss vv.1 24 2 D, rd a (.arrs 10 l)]⟩) (fun zz1 => (zz1.1) ≤ n.toNat) (fun zz1 => n.toNat - (zz1.1)) (0, b25_1, 0) ?_ ?_ ?_
        · show _ ≤ _; omega
        · exact Wk.intro (.cons rfl (by first | rfl | exact veq_int (by first | omega | (dsimp only; omega))) (.cons rfl (by first | rfl | exact veq_int (by first | omega | (dsimp only; omega))) (.cons rfl (by first | rfl | exact veq_int (by first | omega | (dsimp only; omega))) (.cons rfl (by first | rfl | exact veq_int (by first | omega | (dsimp only; omega))) (.cons rfl (by first | rfl | exact veq_int (by first | omega | (dsimp only; omega))) (.cons rfl (by first | rfl | exact veq_int (by first | omega | (dsimp only; omega))) (.cons rfl (by first | rfl | exact veq_int (by first | omega | (dsimp only; omega))) (.cons rfl (by first | rfl | exact veq_int (by first | omega | (dsimp only; omega))) (.cons rfl (by first | rfl | exact veq_int (by first | omega | (dsimp only; omega))) (.cons rfl (by first | rfl | exact veq_int (by first | omega | (dsimp only; omega))) (.cons rfl (by first | rfl | exact veq_int (by first | omega | (dsimp only; omega))) (.cons rfl (by first | rfl | exact veq_int (by first | omega | (dsimp only; omega))) (.cons rfl (by first | rfl | exact veq_int (by first | omega | (dsimp only; omega))) (.cons rfl (by first | rfl | exact veq_int (by first | omega | (dsimp only; omega))) (.cons rfl (by first | rfl | exact veq_int (by first | omega | (dsimp only; omega))) (.cons rfl (by first | rfl | exact veq_int (by first | omega | (dsimp only; omega))) (.cons rfl (by first | rfl | exact veq_int (by first | omega | (dsimp only; omega))) .nil))))))))))))))))) (.keep rfl rfl (fun _ h => h) (.keep rfl rfl (fun _ h => h) (.keep rfl rfl (imp_var (by exact ceq_barr fun y _ => seenM_zero y) rfl) (.keep rfl rfl (fun _ h => h) (.keep rfl rfl (fun _ h => h) .nil)))))
        · rintro ⟨y, bb, cbb⟩ hR
          try dsimp only at *
          have hfl := filt_len (P := orbB l n.toNat k) y
          refine W_seq ?_
          refine W_seq ?_
          refine W_region ?_
          refine Ops_p (p_move rfl) (lt_dec rfl) ?_
          refine Ops_p (p_move rfl) (lt_dec rfl) ?_
          refine Ops_p (p_lss rfl rfl) (lt_dec rfl) ?_
          refine Ops_nil ?_
          refine W_cond rfl (fun h3 => ?_) (fun h3 => ?_)
          · try simp only [bs] at h3
            refine W_skip ?_
            refine W_seq ?_
            refine W_block ?_
            refine W_seq ?_
            refine W_region ?_
            refine Ops_p (p_move rfl) (lt_dec rfl) ?_
            refine Ops_p (p_fieldAddr rfl rfl rfl rfl rfl rfl) (lt_dec rfl) ?_
            first | refine Ops_p (p_ix1 _ rfl rfl rfl rfl rfl rfl (by first | (first | omega | (dsimp only; omega)) | exact Fin.isLt _)) (lt_dec rfl) ?_ | refine Ops_p (p_ix1s _ rfl rfl rfl rfl rfl rfl (by first | (first | omega | (dsimp only; omega)) | exact Fin.isLt _)) (lt_dec rfl) ?_
            refine Ops_q (q_load rfl rfl m0 rfl (by first | trivial | (first | omega | (dsimp only; omega)) | exact Fin.isLt _ | (dsimp only; omega))) (lt_dec rfl) ?_
            refine Ops_nil ?_
            refine W_cond rfl (fun h4 => ?_) (fun h4 => ?_)
            · try simp only [bs] at h4
              have hxy := (hx1 y (by omega)).symm.trans h4
              refine W_seq ?_
              refine W_region ?_
              refine Ops_p (p_move rfl) (lt_dec rfl) ?_
              first | refine Ops_p (p_ix1 _ rfl rfl rfl rfl rfl rfl (by first | (first | omega | (dsimp only; omega)) | exact Fin.isLt _)) (lt_dec rfl) ?_ | refine Ops_p (p_ix1s _ rfl rfl rfl rfl rfl rfl (by first | (first | omega | (dsimp only; omega)) | exact Fin.isLt _)) (lt_dec rfl) ?_
              refine Ops_x rfl (x_store rfl rfl rfl rfl rfl (((HpRep.head).tail).tail) rfl (by first | trivial | (first | (first | omega | (dsimp only; omega)) | exact Fin.isLt _)) ?_)
              refine Ops_nil ?_
              refine W_region ?_
              refine Ops_p (p_move rfl) (lt_dec rfl) ?_
              refine Ops_p (p_move rfl) (lt_dec rfl) ?_
              refine Ops_x rfl (x_buildSlice rfl rfl rfl rfl rfl rfl rfl rfl (Nat.le_of_ble_eq_true rfl) (lt_dec rfl) fun b39_1 => ?_)
              refine Ops_x rfl (x_append rfl rfl rfl rfl rfl rfl (fun _ _ => ((HpRep.head).tail).tail) (.inl ⟨m0, rfl⟩) rfl (by first | rfl | exact elems_len.symm | simp [Rw.len]) rfl (by first | omega | (dsimp only; omega)) rfl (by first | omega | (dsimp only; omega)) (by first | omega | (dsimp only; omega)) (lt_dec rfl) fun b40_1 cb40_1 => ?_)
              refine Ops_p (p_assign rfl) (lt_dec rfl) ?_
              refine Ops_nil ?_
              refine W_region ?_
              refine Ops_p (p_move rfl) (lt_dec rfl) ?_
              refine Ops_p (p_add rfl rfl (by exact ⟨(by first | omega | (dsimp only; omega)), (by first | omega | (dsimp only; omega))⟩)) (lt_dec rfl) ?_
              refine Ops_p (p_assign rfl) (lt_dec rfl) ?_
              refine Ops_nil ?_
              refine Exists.intro (y + 1, b40_1, cb40_1) (And.intro ?_ (And.intro ?_ ?_))
              · show _ ≤ _; omega
              · show _ < _; omega
              · exact Wk.intro (.cons rfl (by first | rfl | exact veq_int (by first | omega | (dsimp only; omega))) (.cons rfl (by first | rfl | exact veq_int (by first | omega | (dsimp only; omega))) (.cons rfl (by first | rfl | exact veq_int (by first | omega | (dsimp only; omega))) (.cons rfl (by first | rfl | exact veq_int (by first | omega | (dsimp only; omega))) (.cons rfl (by first | rfl | exact veq_int (by first | omega | (dsimp only; omega))) (.cons rfl (by first | rfl | exact veq_int (by first | omega | (dsimp only; omega))) (.cons rfl (by first | exact veq_sl (by rw [← filt_t hxy]; simp) | exact veq_sl (by rw [← filt_f hxy])) (.cons rfl (by first | rfl | exact veq_int (by first | omega | (dsimp only; omega))) (.cons rfl (by first | rfl | exact veq_int (by first | omega | (dsimp only; omega))) (.cons rfl (by first | rfl | exact veq_int (by first | omega | (dsimp only; omega))) (.cons rfl (by first | rfl | exact veq_int (by first | omega | (dsimp only; omega))) (.cons rfl (by first | rfl | exact veq_int (by first | omega | (dsimp only; omega))) (.cons rfl (by first | rfl | exact veq_int (by first | omega | (dsimp only; omega))) (.cons rfl (by first | rfl | exact veq_int (by first | omega | (dsimp only; omega))) (.cons rfl (by first | rfl | exact veq_int (by first | omega | (dsimp only; omega))) (.cons rfl (by first | rfl | exact veq_int (by first | omega | (dsimp only; omega))) (.cons rfl (by first | rfl | exact veq_int (by first | omega | (dsimp only; omega))) .nil))))))))))))))))) (.drop (.keep rfl rfl (fun _ h => h) (.keep rfl rfl (fun _ h => by first | (rw [← filt_t hxy]; exact h) | (rw [← filt_f hxy]; exact h)) (.keep rfl rfl (imp_var (by first | exact ceq_barr fun z _ => seenM_t hxy z | exact ceq_barr fun z _ => seenM_f hxy z) rfl) (.keep rfl rfl (fun _ h => h) (.keep rfl rfl (fun _ h => h) .nil))))))
            · try simp only [bs] at h4
              have hxy := (hx1 y (by omega)).symm.trans (by simpa using h4)
              refine W_skip ?_
              refine W_region ?_
              refine Ops_p (p_move rfl) (lt_dec rfl) ?_
              refine Ops_p (p_add rfl rfl (by exact ⟨(by first | omega | (dsimp only; omega)), (by first | omega | (dsimp only; omega))⟩)) (lt_dec rfl) ?_
              refine Ops_p (p_assign rfl) (lt_dec rfl) ?_
              refine Ops_nil ?_
              refine Exists.intro (y + 1, bb, cbb) (And.intro ?_ (And.intro ?_ ?_))
              · show _ ≤ _; omega
              · show _ < _; omega
              · exact Wk.intro (.cons rfl (by first | rfl | exact veq_int (by first | omega | (dsimp only; omega))) (.cons rfl (by first | rfl | exact veq_int (by first | omega | (dsimp only; omega))) (.cons rfl (by first | rfl | exact veq_int (by first | omega | (dsimp only; omega))) (.cons rfl (by first | rfl | exact veq_int (by first | omega | (dsimp only; omega))) (.cons rfl (by first | rfl | exact veq_int (by first | omega | (dsimp only; omega))) (.cons rfl (by first | rfl | exact veq_int (by first | omega | (dsimp only; omega))) (.cons rfl (by first | exact veq_sl (by rw [← filt_t hxy]; simp) | exact veq_sl (by rw [← filt_f hxy])) (.cons rfl (by first | rfl | exact veq_int (by first | omega | (dsimp only; omega))) (.cons rfl (by first | rfl | exact veq_int (by first | omega | (dsimp only; omega))) (.cons rfl (by first | rfl | exact veq_int (by first | omega | (dsimp only; omega))) (.cons rfl (by first | rfl | exact veq_int (by first | omega | (dsimp only; omega))) (.cons rfl (by first | rfl | exact veq_int (by first | omega | (dsimp only; omega))) (.cons rfl (by first | rfl | exact veq_int (by first | omega | (dsimp only; omega))) (.cons rfl (by first | rfl | exact veq_int (by first | omega | (dsimp only; omega))) (.cons rfl (by first | rfl | exact veq_int (by first | omega | (dsimp only; omega))) (.cons rfl (by first | rfl | exact veq_int (by first | omega | (dsimp only; omega))) (.cons rfl (by first | rfl | exact veq_int (by first | omega | (dsimp only; omega))) .nil))))))))))))))))) (.keep rfl rfl (fun _ h => h) (.keep rfl rfl (fun _ h => by first | (rw [← filt_t hxy]; exact h) | (rw [← filt_f hxy]; exact h)) (.keep rfl rfl (imp_var (by first | exact ceq_barr fun z _ => seenM_t hxy z | exact ceq_barr fun z _ => seenM_f hxy z) rfl) (.keep rfl rfl (fun _ h => h) (.keep rfl rfl (fun _ h => h) .nil)))))
          · try simp only [bs] at h3
            obtain rfl : y = n.toNat := (by omega)
            refine W_exit ?_
            refine W_region ?_
            refine Ops_p (p_move rfl) (lt_dec rfl) ?_
            refine Ops_p (p_move rfl) (lt_dec rfl) ?_
            refine Ops_x rfl (x_buildSlice rfl rfl rfl rfl rfl rfl rfl rfl (Nat.le_of_ble_eq_true rfl) (lt_dec rfl) fun b43_1 => ?_)
            refine Ops_x rfl (x_appendSS (u := (slv bb (List.length (filt (orbB l n.toNat k) n.toNat)) cbb)) (li := (filt (orbB l n.toNat k) n.toNat)) rfl rfl rfl rfl rfl rfl m0 (HpDels.cons ((((HpDel.head).tail).tail).tail).tail (HpDels.cons ((HpDel.head).tail).tail HpDels.nil)) rfl rfl (own_of_row rfl rfl) (fun _ => (HpDels.cons (((HpDel.head).tail).tail).tail HpDels.nil)) (by dsimp only; have := oL_len (R := (orbB l n.toNat)) (n := n.toNat) k; have := congrArg List.length hD; simp at this; omega) (by have := oL_len (R := (orbB l n.toNat)) (n := n.toNat) k; have := congrArg List.length hD; simp at this; omega) (lt_dec rfl) fun v44 => ?_)
            refine Ops_p (p_assign rfl) (lt_dec rfl) ?_
            refine Ops_nil ?_
            refine W_region ?_
            refine Ops_p (p_move rfl) (lt_dec rfl) ?_
            refine Ops_p (p_add rfl rfl (by exact ⟨(by first | omega | (dsimp only; omega)), (by first | omega | (dsimp only; omega))⟩)) (lt_dec rfl) ?_
            refine Ops_p (p_assign rfl) (lt_dec rfl) ?_
            refine Ops_nil ?_
            refine Exists.intro (k + 1, v44, (D ++ [((slv bb (List.length (filt (orbB l n.toNat k) n.toNat)) cbb), (filt (orbB l n.toNat k) n.toNat))])) (And.intro ?_ (And.intro ?_ ?_))
            · first | exact ⟨by show _ ≤ _; omega, by show List.map _ D = _; rw [hD]; exact oL_t (by rw [← seenT_at (n := n.toNat) (by omega)]; exact hsk)⟩ | exact ⟨by show _ ≤ _; omega, by rw [List.map_append, hD]; exact oL_f (by rw [← seenT_at (n := n.toNat) (by omega)]; simpa using hsk)⟩
            · show _ < _; omega
            · exact Wk.intro (.cons rfl (by first | rfl | exact veq_int (by first | omega | (dsimp only; omega))) (.cons rfl (by first | rfl | exact veq_int (by first | omega | (dsimp only; omega))) (.cons rfl (by first | rfl | exact veq_int (by first | omega | (dsimp only; omega))) (.cons rfl (by first | rfl | exact veq_int (by first | omega | (dsimp only; omega))) (.cons rfl (by first | rfl | exact veq_int (by first | omega | (dsimp only; omega))) (.cons rfl (by first | rfl | exact veq_int (by first | omega | (dsimp only; omega))) .nil)))))) (.drop (.drop (.keep rfl rfl (imp_var (by first | exact ceq_barr fun y _ => seenT_same orbB_trans (by omega) hsk y | exact ceq_barr fun y _ => seenM_end y) rfl) (.keep rfl rfl (oss_eq rfl) (.keep rfl rfl (fun _ h => h) .nil)))))
    · try simp only [bs] at h1
      obtain rfl : k = n.toNat := (by omega)
      refine W_exit ?_
      refine W_seq ?_
      refine W_region ?_
      refine Ops_p (p_move rfl) (lt_dec rfl) ?_
      refine Ops_p (p_assign rfl) (lt_dec rfl) ?_
      refine Ops_nil ?_
      refine W_ret ?_
      refine Exists.intro _ (And.intro (.cons (.tmp rfl) .nil) (Exists.intro (vv, D) (And.intro ?_ (And.intro ?_ (And.intro (.cons (HpDel.head).tail rfl (oss_eq rfl) .nil) rfl)))))
      · exact hD
      · rfl
end Go.Proofs.Ytdcpggdbjllmpab
