/- What the Go function spec.l04Orbit does, shown of its loaded text; its conditions stand in the statement. -/
import Derived.Test.YtdcpggdbjllmpabTy
import Derived.Test.YtdcpggdbjllmpabFspecl01Same
import Derived.Test.YtdcpggdbjllmpabFspecl01Then
import Derived.Test.YtdcpggdbjllmpabGx12
import Derived.Test.YtdcpggdbjllmpabGx20
import Derived.Test.YtdcpggdbjllmpabM26
namespace Go.Proofs.Ytdcpggdbjllmpab
open Go Gx
set_option linter.unusedVariables false
theorem en_spec_l04Orbit : Enters Try.prog 85 := enters_of Try.func85 (by kernel_rfl) (by kernel_rfl)
set_option maxRecDepth 100000 in
set_option maxHeartbeats 2000000 in
theorem w_spec_l04Orbit {a : Value} {ha : a.oneCell' = true} {l : List (Nat → Fin 256)} {n : Int} {x0 : Nat} (hp : PsOk l n) (hl : l.length ≤ 40) (hx : x0 < n.toNat) : CT (X := (Nat → Bool) × (Nat → Fin 256)) Try.prog 85 (vals [.int .i64 (x0 : Int), .raw a ha, .int .i64 n]) [] [rd a (.arrs 10 l)] (fun x => ∀ y, y < n.toNat → x.1 y = orbB l n.toNat x0 y) (fun x => .agg [.int .i64 (x0 : Int), .barr 10 x.1, .arr8 100 x.2]) (fun x => []) := by
  refine CT_intro (rs := [.cell 6 118]) tt tok Try.func85 rfl rfl rfl (by first | rfl | assumption) fun w => ?_
  show W _ _ _ ⟨tmOf 0 [.int .i64 (x0 : Int), .raw a ha, .int .i64 n], [rd a (.arrs 10 l)]⟩
  have hn := hp.1
  refine W_seq ?_
  refine W_region ?_
  refine Ops_x rfl (x_alloc rfl (lt_dec rfl) fun b6_1 => ?_)
  refine Ops_nil ?_
  refine W_seq ?_
  refine W_region ?_
  refine Ops_p (p_move rfl) (lt_dec rfl) ?_
  refine Ops_p (p_build rfl rfl rfl rfl (by first | trivial | (first | omega | (dsimp only; omega)) | exact Fin.isLt _ | (dsimp only; omega))) (lt_dec rfl) ?_
  refine Ops_x rfl (x_alloc rfl (lt_dec rfl) fun b7_1 => ?_)
  refine Ops_x rfl (x_store rfl rfl rfl rfl rfl HpRep.head rfl (by first | trivial | (first | (first | omega | (dsimp only; omega)) | exact Fin.isLt _)) ?_)
  refine Ops_nil ?_
  refine W_seq ?_
  refine W_region ?_
  refine Ops_p (p_move rfl) (lt_dec rfl) ?_
  refine Ops_p (p_fieldAddr rfl rfl rfl rfl rfl rfl) (lt_dec rfl) ?_
  first | refine Ops_p (p_ix1 x0 rfl rfl rfl rfl rfl rfl (by first | (first | omega | (dsimp only; omega)) | exact Fin.isLt _)) (lt_dec rfl) ?_ | refine Ops_p (p_ix1s x0 rfl rfl rfl rfl rfl rfl (by first | (first | omega | (dsimp only; omega)) | exact Fin.isLt _)) (lt_dec rfl) ?_
  refine Ops_x rfl (x_store rfl rfl rfl rfl rfl HpRep.head rfl (by first | trivial | (first | (first | omega | (dsimp only; omega)) | exact Fin.isLt _)) ?_)
  refine Ops_nil ?_
  refine W_seq ?_
  refine W_region ?_
  refine Ops_p (p_move rfl) (lt_dec rfl) ?_
  refine Ops_p (p_move rfl) (lt_dec rfl) ?_
  refine Ops_q (q_call en_spec_l01Same rfl (w_spec_l01Same hn) (View.none _)) (lt_dec rfl) ?_
  refine Ops_p (p_fieldAddr rfl rfl rfl rfl rfl rfl) (lt_dec rfl) ?_
  refine Ops_p (p_ixN 10 x0 rfl rfl rfl rfl rfl rfl (by first | (first | omega | (dsimp only; omega)) | exact Fin.isLt _)) (lt_dec rfl) ?_
  refine Ops_x rfl (x_store rfl rfl rfl rfl rfl HpRep.head rfl (by first | trivial | (first | (first | omega | (dsimp only; omega)) | exact Fin.isLt _)) ?_)
  refine Ops_nil ?_
  refine W_seq ?_
  refine W_region ?_
  refine Ops_p (p_move rfl) (lt_dec rfl) ?_
  refine Ops_x rfl (x_buildSlice rfl rfl rfl rfl rfl rfl rfl rfl (Nat.le_of_ble_eq_true rfl) (lt_dec rfl) fun b23_1 => ?_)
  refine Ops_p (p_assign rfl) (lt_dec rfl) ?_
  refine Ops_nil ?_
  refine W_seq ?_
  refine W_seq ?_
  refine W_region ?_
  refine Ops_p (p_assign rfl) (lt_dec rfl) ?_
  refine Ops_nil ?_
  refine W_block ?_
  refine W_loop (α := Nat × List Int × Nat × Nat × (Nat → Bool) × (Nat → Fin 256)) (fun zz0 => ⟨[(0, .int .i64 (x0 : Int)), (1, .raw a ha), (2, .int .i64 n), (6, .ptr b6_1 0 none), (7, .ptr b7_1 0 none), (8, .sl (zz0.2.2.1) 0 (zz0.2.1).length (zz0.2.2.2.1)), (9, .int .i64 ((zz0.1) : Int)), (12, .int .i64 (x0 : Int)), (13, .agg [.int .i64 (x0 : Int), .barr 10 (fun _ => false), .arr8 100 (fun _ => 0)]), (14, .int .i64 (x0 : Int)), (17, .int .i64 (x0 : Int)), (18, .int .i64 n), (19, .arr8 10 (idT n.toNat)), (22, .int .i64 (x0 : Int))], [.row (zz0.2.2.1) (zz0.2.2.2.1) 2 (.ints .i64 (zz0.2.1)), .var b7_1 (.agg [.int .i64 (x0 : Int), .barr 10 (zz0.2.2.2.2.1), .arr8 100 (zz0.2.2.2.2.2)]), .var b6_1 (.agg [.int .i64 0, .barr 10 fun _ => false, .arr8 100 fun _ => 0]), rd a (.arrs 10 l)]⟩) (fun zz0 => (zz0.1) ≤ (zz0.2.1).length ∧ Bfs l n.toNat x0 (zz0.1) 0 (zz0.2.1) (zz0.2.2.2.2.1) ∧ Tk (zz0.2.2.2.2.2) (zz0.2.2.2.2.1) n) (fun zz0 => n.toNat - (zz0.1)) (0, [(x0 : Int)], b23_1, 1, (fun y => if y = x0 then true else false), (fun j => if 10 * x0 ≤ j ∧ j < 10 * x0 + 10 then idT n.toNat (j - 10 * x0) else 0)) ?_ ?_ ?_
  · exact ⟨Nat.zero_le _, Bfs.zero hx, Tk.put (f := fun _ => 0) (h := fun _ => false) (idT_perm hn) Tk.none⟩
  · exact Wk.intro (.cons rfl (by first | rfl | exact veq_int (by first | omega | (dsimp only; omega))) (.cons rfl (by first | rfl | exact veq_int (by first | omega | (dsimp only; omega))) (.cons rfl (by first | rfl | exact veq_int (by first | omega | (dsimp only; omega))) (.cons rfl (by first | rfl | exact veq_int (by first | omega | (dsimp only; omega))) (.cons rfl (by first | rfl | exact veq_int (by first | omega | (dsimp only; omega))) (.cons rfl (by first | rfl | exact veq_int (by first | omega | (dsimp only; omega))) (.cons rfl (by first | rfl | exact veq_int (by first | omega | (dsimp only; omega))) (.cons rfl (by first | rfl | exact veq_int (by first | omega | (dsimp only; omega))) (.cons rfl (by first | rfl | exact veq_int (by first | omega | (dsimp only; omega))) (.cons rfl (by first | rfl | exact veq_int (by first | omega | (dsimp only; omega))) (.cons rfl (by first | rfl | exact veq_int (by first | omega | (dsimp only; omega))) (.cons rfl (by first | rfl | exact veq_int (by first | omega | (dsimp only; omega))) (.cons rfl (by first | rfl | exact veq_int (by first | omega | (dsimp only; omega))) (.cons rfl (by first | rfl | exact veq_int (by first | omega | (dsimp only; omega))) .nil)))))))))))))) (.keep rfl rfl (fun _ h => h) (.keep rfl rfl (imp_var (by first | rfl | (exact ceq_cons (by first | rfl | (refine ceq_int ?_; first | rfl | omega)) (ceq_cons (by first | rfl | (refine ceq_barr fun j hj => ?_; (try dsimp only); first | (simp; done) | ((repeat' split) <;> first | rfl | (exfalso; omega) | (congr 1; omega) | (simp_all; done) | omega))) (ceq_cons (by first | rfl | (refine ceq_arr8 fun j hj => ?_; (try dsimp only); first | (simp; done) | ((repeat' split) <;> first | rfl | (exfalso; omega) | (congr 1; omega) | (simp_all; done) | omega))) (rfl))))) rfl) (.keep rfl rfl (fun _ h => h) (.keep rfl rfl (fun _ h => h) .nil))))
  · rintro ⟨i, Q, bb, cbb, gg, f⟩ ⟨hi, hB, hT⟩
    try dsimp only at *
    have hlenQ := hB.len
    refine W_seq ?_
    refine W_seq ?_
    refine W_region ?_
    refine Ops_p (p_move rfl) (lt_dec rfl) ?_
    refine Ops_p (p_move rfl) (lt_dec rfl) ?_
    refine Ops_p (p_len rfl rfl rfl) (lt_dec rfl) ?_
    refine Ops_p (p_lss rfl rfl) (lt_dec rfl) ?_
    refine Ops_nil ?_
    refine W_cond rfl (fun h1 => ?_) (fun h1 => ?_)
    · try simp only [bs] at h1
      refine W_skip ?_
      refine W_seq ?_
      refine W_block ?_
      refine W_seq ?_
      refine W_region ?_
      refine Ops_p (p_assign rfl) (lt_dec rfl) ?_
      refine Ops_nil ?_
      refine W_block ?_
      refine W_loop (α := Nat × List Int × Nat × Nat × (Nat → Bool) × (Nat → Fin 256)) (fun zz1 => ⟨[(0, .int .i64 (x0 : Int)), (1, .raw a ha), (2, .int .i64 n), (6, .ptr b6_1 0 none), (7, .ptr b7_1 0 none), (8, .sl (zz1.2.2.1) 0 (zz1.2.1).length (zz1.2.2.2.1)), (9, .int .i64 (i : Int)), (10, .int .i64 ((zz1.1) : Int)), (12, .int .i64 (x0 : Int)), (13, .agg [.int .i64 (x0 : Int), .barr 10 (fun _ => false), .arr8 100 (fun _ => 0)]), (14, .int .i64 (x0 : Int)), (17, .int .i64 (x0 : Int)), (18, .int .i64 n), (19, .arr8 10 (idT n.toNat)), (22, .int .i64 (x0 : Int)), (24, .int .i64 (i : Int)), (25, .sl bb 0 Q.length cbb), (26, .int .i64 (Q.length : Int))], [.row (zz1.2.2.1) (zz1.2.2.2.1) 2 (.ints .i64 (zz1.2.1)), .var b7_1 (.agg [.int .i64 (x0 : Int), .barr 10 (zz1.2.2.2.2.1), .arr8 100 (zz1.2.2.2.2.2)]), .var b6_1 (.agg [.int .i64 0, .barr 10 fun _ => false, .arr8 100 fun _ => 0]), rd a (.arrs 10 l)]⟩) (fun zz1 => ((zz1.1) ≤ l.length ∧ i < (zz1.2.1).length) ∧ Bfs l n.toNat x0 i (zz1.1) (zz1.2.1) (zz1.2.2.2.2.1) ∧ Tk (zz1.2.2.2.2.2) (zz1.2.2.2.2.1) n) (fun zz1 => l.length - (zz1.1)) (0, Q, bb, cbb, gg, f) ?_ ?_ ?_
      · exact ⟨⟨Nat.zero_le _, by show i < Q.length; omega⟩, hB, hT⟩
      · exact Wk.intro (.cons rfl (by first | rfl | exact veq_int (by first | omega | (dsimp only; omega))) (.cons rfl (by first | rfl | exact veq_int (by first | omega | (dsimp only; omega))) (.cons rfl (by first | rfl | exact veq_int (by first | omega | (dsimp only; omega))) (.cons rfl (by first | rfl | exact veq_int (by first | omega | (dsimp only; omega))) (.cons rfl (by first | rfl | exact veq_int (by first | omega | (dsimp only; omega))) (.cons rfl (by first | rfl | exact veq_int (by first | omega | (dsimp only; omega))) (.cons rfl (by first | rfl | exact veq_int (by first | omega | (dsimp only; omega))) (.cons rfl (by first | rfl | exact veq_int (by first | omega | (dsimp only; omega))) (.cons rfl (by first | rfl | exact veq_int (by first | omega | (dsimp only; omega))) (.cons rfl (by first | rfl | exact veq_int (by first | omega | (dsimp only; omega))) (.cons rfl (by first | rfl | exact veq_int (by first | omega | (dsimp only; omega))) (.cons rfl (by first | rfl | exact veq_int (by first | omega | (dsimp only; omega))) (.cons rfl (by first | rfl | exact veq_int (by first | omega | (dsimp only; omega))) (.cons rfl (by first | rfl | exact veq_int (by first | omega | (dsimp only; omega))) (.cons rfl (by first | rfl | exact veq_int (by first | omega | (dsimp only; omega))) (.cons rfl (by first | rfl | exact veq_int (by first | omega | (dsimp only; omega))) (.cons rfl (by first | rfl | exact veq_int (by first | omega | (dsimp only; omega))) (.cons rfl (by first | rfl | exact veq_int (by first | omega | (dsimp only; omega))) .nil)))))))))))))))))) (.keep rfl rfl (fun _ h => h) (.keep rfl rfl (imp_var (by first | rfl | (exact ceq_cons (by first | rfl | (refine ceq_int ?_; first | rfl | omega)) (ceq_cons (by first | rfl | (refine ceq_barr fun j hj => ?_; (try dsimp only); first | (simp; done) | ((repeat' split) <;> first | rfl | (exfalso; omega) | (congr 1; omega) | (simp_all; done) | omega))) (ceq_cons (by first | rfl | (refine ceq_arr8 fun j hj => ?_; (try dsimp only); first | (simp; done) | ((repeat' split) <;> first | rfl | (exfalso; omega) | (congr 1; omega) | (simp_all; done) | omega))) (rfl))))) rfl) (.keep rfl rfl (fun _ h => h) (.keep rfl rfl (fun _ h => h) .nil))))
      · rintro ⟨k, Q2, b2, c2, gg2, f2⟩ ⟨hR2, hB2, hT2⟩
        try dsimp only at *
        have hlenQ2 := hB2.len
        refine W_seq ?_
        refine W_seq ?_
        refine W_region ?_
        refine Ops_p (p_move rfl) (lt_dec rfl) ?_
        refine Ops_p (p_move rfl) (lt_dec rfl) ?_
        refine Ops_q ((q_lenR rfl rfl rfl (Rds.rd m3)).eq (d' := .int .i64 ((l.length : Nat) : Int)) rfl) (lt_dec rfl) ?_
        refine Ops_p (p_lss rfl rfl) (lt_dec rfl) ?_
        refine Ops_nil ?_
        refine W_cond rfl (fun h2 => ?_) (fun h2 => ?_)
        · try simp only [bs] at h2
          refine W_skip ?_
          refine W_seq ?_
          refine W_block ?_
          refine W_seq ?_
          obtain ⟨u, hu, hun, hou⟩ := hB2.at hR2.2
          have hpk := hp.at (k := k) (by omega)
          have huk := perm_lt (i := u) hpk (by omega)
          have hhu := hB2.has hR2.2 hu (by omega)
          have hlen := hB2.len
          refine W_draw (by kernel_rfl) ?_
          show RA _ _ 11 _ _ _
          refine RA_quietF [0, 1, 2, 3, 4, 5, 6, 7, 8, 9, 10] rfl rfl rfl (by kernel_rfl) (by kernel_rfl) ?_
          refine WQ_cons rfl rfl rfl ((p_move rfl).q) (lt_dec rfl) ?_
          refine WQ_cons rfl rfl rfl ((p_move rfl).q) (lt_dec rfl) ?_
          refine WQ_cons rfl rfl rfl ((p_move rfl).q) (lt_dec rfl) ?_
          refine WQ_cons rfl rfl rfl ((p_move rfl).q) (lt_dec rfl) ?_
          refine WQ_cons rfl rfl rfl ((p_ixl1 _ rfl rfl rfl rfl rfl rfl (by first | (first | omega | (dsimp only; omega)) | exact Fin.isLt _)).q) (lt_dec rfl) ?_
          refine WQ_cons rfl rfl rfl ((q_load_row rfl rfl m0 rfl rfl (by first | omega | (dsimp only; omega)) rfl rfl)) (lt_dec rfl) ?_
          refine WQ_cons rfl rfl rfl ((q_ixR _ rfl rfl rfl (Rds.rd m3) rfl rfl (by first | (show _ < List.length _; omega) | (show _ < List.length _; first | omega | (dsimp only; omega))) rfl)) (lt_dec rfl) ?_
          refine WQ_cons rfl rfl rfl ((q_ixA u rfl rfl rfl rfl (Rds.rd m3) (by show 0 < List.length _; omega) rfl hu (by omega))) (lt_dec rfl) ?_
          refine WQ_cons rfl rfl rfl ((q_loadA (m := 10) (i := k) (j := u) rfl rfl (Rds.rd m3) rfl (by omega) (by omega) rfl rfl)) (lt_dec rfl) ?_
          first | refine WQ_cons rfl rfl rfl ((p_conv8 rfl rfl rfl (by decide)).q) (lt_dec rfl) ?_ | refine WQ_cons rfl rfl rfl ((p_conv rfl rfl rfl (by exact ⟨(by first | omega | (dsimp only; omega)), (by first | omega | (dsimp only; omega))⟩)).q) (lt_dec rfl) ?_
          refine WQ_cons rfl rfl rfl ((p_assign rfl).q) (lt_dec rfl) ?_
          refine WQ_nil ?_
          refine W_seq ?_
          refine W_region ?_
          refine Ops_p (p_move rfl) (lt_dec rfl) ?_
          refine Ops_p (p_fieldAddr rfl rfl rfl rfl rfl rfl) (lt_dec rfl) ?_
          first | refine Ops_p (p_ix1 ((l.getD k fun _ => 0) u).val rfl rfl rfl rfl rfl rfl (by first | (first | omega | (dsimp only; omega)) | exact Fin.isLt _)) (lt_dec rfl) ?_ | refine Ops_p (p_ix1s ((l.getD k fun _ => 0) u).val rfl rfl rfl rfl rfl rfl (by first | (first | omega | (dsimp only; omega)) | exact Fin.isLt _)) (lt_dec rfl) ?_
          refine Ops_q (q_load rfl rfl m1 rfl (by first | trivial | (first | omega | (dsimp only; omega)) | exact Fin.isLt _ | (dsimp only; omega))) (lt_dec rfl) ?_
          refine Ops_p (p_not rfl) (lt_dec rfl) ?_
          refine Ops_nil ?_
          refine W_cond rfl (fun h3 => ?_) (fun h3 => ?_)
          · try simp only [bs] at h3
            refine W_seq ?_
            refine W_region ?_
            refine Ops_p (p_move rfl) (lt_dec rfl) ?_
            refine Ops_p (p_fieldAddr rfl rfl rfl rfl rfl rfl) (lt_dec rfl) ?_
            first | refine Ops_p (p_ix1 ((l.getD k fun _ => 0) u).val rfl rfl rfl rfl rfl rfl (by first | (first | omega | (dsimp only; omega)) | exact Fin.isLt _)) (lt_dec rfl) ?_ | refine Ops_p (p_ix1s ((l.getD k fun _ => 0) u).val rfl rfl rfl rfl rfl rfl (by first | (first | omega | (dsimp only; omega)) | exact Fin.isLt _)) (lt_dec rfl) ?_
            refine Ops_x rfl (x_store rfl rfl rfl rfl rfl ((HpRep.head).tail) rfl (by first | trivial | (first | (first | omega | (dsimp only; omega)) | exact Fin.isLt _)) ?_)
            refine Ops_nil ?_
            refine W_seq ?_
            refine W_draw (by kernel_rfl) ?_
            show RA _ _ 17 _ _ _
            refine RA_quiet (g := 1) [0, 1, 2, 3, 4, 5, 6, 7, 8, 9, 10, 11, 12, 13, 14, 15] (by kernel_rfl) (by kernel_rfl) (by kernel_rfl) (by kernel_rfl) ?_
            refine WQ_cons rfl rfl rfl ((p_move rfl).q) (lt_dec rfl) ?_
            refine WQ_cons rfl rfl rfl ((p_move rfl).q) (lt_dec rfl) ?_
            refine WQ_cons rfl rfl rfl ((p_move rfl).q) (lt_dec rfl) ?_
            refine WQ_cons rfl rfl rfl ((p_ixl1 _ rfl rfl rfl rfl rfl rfl (by first | (first | omega | (dsimp only; omega)) | exact Fin.isLt _)).q) (lt_dec rfl) ?_
            refine WQ_cons rfl rfl rfl ((q_load_row rfl rfl m0 rfl rfl (by first | omega | (dsimp only; omega)) rfl rfl)) (lt_dec rfl) ?_
            refine WQ_cons rfl rfl rfl ((p_fieldAddr rfl rfl rfl rfl rfl rfl).q) (lt_dec rfl) ?_
            refine WQ_cons rfl rfl rfl ((p_ixN 10 u rfl rfl rfl rfl rfl hu (by first | (first | omega | (dsimp only; omega)) | exact Fin.isLt _)).q) (lt_dec rfl) ?_
            refine WQ_cons rfl rfl rfl ((q_load rfl rfl m1 rfl (by first | trivial | (first | omega | (dsimp only; omega)) | exact Fin.isLt _ | (dsimp only; omega)))) (lt_dec rfl) ?_
            refine WQ_cons rfl rfl rfl ((p_move rfl).q) (lt_dec rfl) ?_
            refine WQ_cons rfl rfl rfl ((p_move rfl).q) (lt_dec rfl) ?_
            refine WQ_cons rfl rfl rfl ((q_ixR _ rfl rfl rfl (Rds.rd m3) rfl rfl (by first | (show _ < List.length _; omega) | (show _ < List.length _; first | omega | (dsimp only; omega))) rfl)) (lt_dec rfl) ?_
            refine WQ_cons rfl rfl rfl ((q_loadR rfl rfl (Rds.rd m3) rfl rfl (by first | (show _ < List.length _; omega) | (show _ < List.length _; first | omega | (dsimp only; omega))) rfl rfl rfl)) (lt_dec rfl) ?_
            refine WQ_cons rfl rfl rfl ((p_move rfl).q) (lt_dec rfl) ?_
            refine WQ_cons rfl rfl rfl ((q_call en_spec_l01Then rfl (w_spec_l01Then (hT2 u hun hhu)) (View.none _))) (lt_dec rfl) ?_
            refine WQ_cons rfl rfl rfl ((p_fieldAddr rfl rfl rfl rfl rfl rfl).q) (lt_dec rfl) ?_
            refine WQ_cons rfl rfl rfl ((p_ixN 10 ((l.getD k fun _ => 0) u).val rfl rfl rfl rfl rfl rfl (by first | (first | omega | (dsimp only; omega)) | exact Fin.isLt _)).q) (lt_dec rfl) ?_
            refine WQ_nil ?_
            refine RA_one 16 rfl rfl (by kernel_rfl) (x_store rfl rfl rfl rfl rfl ((HpRep.head).tail) rfl (by first | trivial | (first | (first | omega | (dsimp only; omega)) | exact Fin.isLt _)) ?_)
            refine RA_done (by kernel_rfl) ?_
            refine W_region ?_
            refine Ops_p (p_move rfl) (lt_dec rfl) ?_
            refine Ops_p (p_move rfl) (lt_dec rfl) ?_
            refine Ops_x rfl (x_buildSlice rfl rfl rfl rfl rfl rfl rfl rfl (Nat.le_of_ble_eq_true rfl) (lt_dec rfl) fun b72_1 => ?_)
            refine Ops_x rfl (x_append rfl rfl rfl rfl rfl rfl (fun _ _ => (HpRep.head).tail) (.inl ⟨m0, rfl⟩) rfl rfl rfl (by first | omega | (dsimp only; omega)) rfl (by first | omega | (dsimp only; omega)) (by first | omega | (dsimp only; omega)) (lt_dec rfl) fun b73_1 cb73_1 => ?_)
            refine Ops_p (p_assign rfl) (lt_dec rfl) ?_
            refine Ops_nil ?_
            refine W_region ?_
            refine Ops_p (p_move rfl) (lt_dec rfl) ?_
            refine Ops_p (p_add rfl rfl (by exact ⟨(by first | omega | (dsimp only; omega)), (by first | omega | (dsimp only; omega))⟩)) (lt_dec rfl) ?_
            refine Ops_p (p_assign rfl) (lt_dec rfl) ?_
            refine Ops_nil ?_
            refine Exists.intro (k + 1, Q2 ++ [((((l.getD k fun _ => 0) u).val : Nat) : Int)], b73_1, cb73_1, (fun y => if y = ((l.getD k fun _ => 0) u).val then true else gg2 y), (fun j => if 10 * ((l.getD k fun _ => 0) u).val ≤ j ∧ j < 10 * ((l.getD k fun _ => 0) u).val + 10 then thenT (fun j => f2 (10 * u + j)) (l.getD k fun _ => 0) n.toNat (j - 10 * ((l.getD k fun _ => 0) u).val) else f2 j)) (And.intro ?_ (And.intro ?_ ?_))
            · first | exact ⟨⟨by show _ ≤ _; omega, hR2.2⟩, hB2.old hu (by simp_all), hT2⟩ | exact ⟨⟨by show _ ≤ _; omega, by show _ < List.length _; simp; omega⟩, Bfs.new hp hB2 hR2.2 (by omega) hu hun hou (by simp_all), Tk.put (thenT_perm (hT2 u hun hhu) hpk) hT2⟩
            · show _ < _; omega
            · exact Wk.intro (.cons rfl (by first | rfl | exact veq_int (by first | omega | (dsimp only; omega))) (.cons rfl (by first | rfl | exact veq_int (by first | omega | (dsimp only; omega))) (.cons rfl (by first | rfl | exact veq_int (by first | omega | (dsimp only; omega))) (.cons rfl (by first | rfl | exact veq_int (by first | omega | (dsimp only; omega))) (.cons rfl (by first | rfl | exact veq_int (by first | omega | (dsimp only; omega))) (.cons rfl (veq_sl (by first | rfl | simp)) (.cons rfl (by first | rfl | exact veq_int (by first | omega | (dsimp only; omega))) (.cons rfl (by first | rfl | exact veq_int (by first | omega | (dsimp only; omega))) (.cons rfl (by first | rfl | exact veq_int (by first | omega | (dsimp only; omega))) (.cons rfl (by first | rfl | exact veq_int (by first | omega | (dsimp only; omega))) (.cons rfl (by first | rfl | exact veq_int (by first | omega | (dsimp only; omega))) (.cons rfl (by first | rfl | exact veq_int (by first | omega | (dsimp only; omega))) (.cons rfl (by first | rfl | exact veq_int (by first | omega | (dsimp only; omega))) (.cons rfl (by first | rfl | exact veq_int (by first | omega | (dsimp only; omega))) (.cons rfl (by first | rfl | exact veq_int (by first | omega | (dsimp only; omega))) (.cons rfl (by first | rfl | exact veq_int (by first | omega | (dsimp only; omega))) (.cons rfl (by first | rfl | exact veq_int (by first | omega | (dsimp only; omega))) (.cons rfl (by first | rfl | exact veq_int (by first | omega | (dsimp only; omega))) .nil)))))))))))))))))) (.drop (.keep rfl rfl (fun _ h => h) (.keep rfl rfl (imp_var (by first | rfl | (exact ceq_cons (by first | rfl | (refine ceq_int ?_; first | rfl | omega)) (ceq_cons (by first | rfl | (refine ceq_barr fun j hj => ?_; (try dsimp only); first | (simp; done) | ((repeat' split) <;> first | rfl | (exfalso; omega) | (congr 1; omega) | (simp_all; done) | omega))) (ceq_cons (by first | rfl | (refine ceq_arr8 fun j hj => ?_; (try dsimp only); first | (simp; done) | ((repeat' split) <;> first | rfl | (exfalso; omega) | (congr 1; omega) | (simp_all; done) | omega))) (rfl))))) rfl) (.keep rfl rfl (fun _ h => h) (.keep rfl rfl (fun _ h => h) .nil)))))
          · try simp only [bs] at h3
            refine W_skip ?_
            refine W_region ?_
            refine Ops_p (p_move rfl) (lt_dec rfl) ?_
            refine Ops_p (p_add rfl rfl (by exact ⟨(by first | omega | (dsimp only; omega)), (by first | omega | (dsimp only; omega))⟩)) (lt_dec rfl) ?_
            refine Ops_p (p_assign rfl) (lt_dec rfl) ?_
            refine Ops_nil ?_
            refine Exists.intro (k + 1, Q2, b2, c2, gg2, f2) (And.intro ?_ (And.intro ?_ ?_))
            · first | exact ⟨⟨by show _ ≤ _; omega, hR2.2⟩, hB2.old hu (by simp_all), hT2⟩ | exact ⟨⟨by show _ ≤ _; omega, by show _ < List.length _; simp; omega⟩, Bfs.new hp hB2 hR2.2 (by omega) hu hun hou (by simp_all), Tk.put (thenT_perm (hT2 u hun hhu) hpk) hT2⟩
            · show _ < _; omega
            · exact Wk.intro (.cons rfl (by first | rfl | exact veq_int (by first | omega | (dsimp only; omega))) (.cons rfl (by first | rfl | exact veq_int (by first | omega | (dsimp only; omega))) (.cons rfl (by first | rfl | exact veq_int (by first | omega | (dsimp only; omega))) (.cons rfl (by first | rfl | exact veq_int (by first | omega | (dsimp only; omega))) (.cons rfl (by first | rfl | exact veq_int (by first | omega | (dsimp only; omega))) (.cons rfl (veq_sl (by first | rfl | simp)) (.cons rfl (by first | rfl | exact veq_int (by first | omega | (dsimp only; omega))) (.cons rfl (by first | rfl | exact veq_int (by first | omega | (dsimp only; omega))) (.cons rfl (by first | rfl | exact veq_int (by first | omega | (dsimp only; omega))) (.cons rfl (by first | rfl | exact veq_int (by first | omega | (dsimp only; omega))) (.cons rfl (by first | rfl | exact veq_int (by first | omega | (dsimp only; omega))) (.cons rfl (by first | rfl | exact veq_int (by first | omega | (dsimp only; omega))) (.cons rfl (by first | rfl | exact veq_int (by first | omega | (dsimp only; omega))) (.cons rfl (by first | rfl | exact veq_int (by first | omega | (dsimp only; omega))) (.cons rfl (by first | rfl | exact veq_int (by first | omega | (dsimp only; omega))) (.cons rfl (by first | rfl | exact veq_int (by first | omega | (dsimp only; omega))) (.cons rfl (by first | rfl | exact veq_int (by first | omega | (dsimp only; omega))) (.cons rfl (by first | rfl | exact veq_int (by first | omega | (dsimp only; omega))) .nil)))))))))))))))))) (.keep rfl rfl (fun _ h => h) (.keep rfl rfl (imp_var (by first | rfl | (exact ceq_cons (by first | rfl | (refine ceq_int ?_; first | rfl | omega)) (ceq_cons (by first | rfl | (refine ceq_barr fun j hj => ?_; (try dsimp only); first | (simp; done) | ((repeat' split) <;> first | rfl | (exfalso; omega) | (congr 1; omega) | (simp_all; done) | omega))) (ceq_cons (by first | rfl | (refine ceq_arr8 fun j hj => ?_; (try dsimp only); first | (simp; done) | ((repeat' split) <;> first | rfl | (exfalso; omega) | (congr 1; omega) | (simp_all; done) | omega))) (rfl))))) rfl) (.keep rfl rfl (fun _ h => h) (.keep rfl rfl (fun _ h => h) .nil))))
        · try simp only [bs] at h2
          obtain rfl : k = l.length := (by omega)
          refine W_exit ?_
          refine W_region ?_
          refine Ops_p (p_move rfl) (lt_dec rfl) ?_
          refine Ops_p (p_add rfl rfl (by exact ⟨(by first | omega | (dsimp only; omega)), (by first | omega | (dsimp only; omega))⟩)) (lt_dec rfl) ?_
          refine Ops_p (p_assign rfl) (lt_dec rfl) ?_
          refine Ops_nil ?_
          refine Exists.intro (i + 1, Q2, b2, c2, gg2, f2) (And.intro ?_ (And.intro ?_ ?_))
          · exact ⟨by show i + 1 ≤ Q2.length; omega, hB2.row, hT2⟩
          · show _ < _; omega
          · exact Wk.intro (.cons rfl (by first | rfl | exact veq_int (by first | omega | (dsimp only; omega))) (.cons rfl (by first | rfl | exact veq_int (by first | omega | (dsimp only; omega))) (.cons rfl (by first | rfl | exact veq_int (by first | omega | (dsimp only; omega))) (.cons rfl (by first | rfl | exact veq_int (by first | omega | (dsimp only; omega))) (.cons rfl (by first | rfl | exact veq_int (by first | omega | (dsimp only; omega))) (.cons rfl (veq_sl rfl) (.cons rfl (by first | rfl | exact veq_int (by first | omega | (dsimp only; omega))) (.cons rfl (by first | rfl | exact veq_int (by first | omega | (dsimp only; omega))) (.cons rfl (by first | rfl | exact veq_int (by first | omega | (dsimp only; omega))) (.cons rfl (by first | rfl | exact veq_int (by first | omega | (dsimp only; omega))) (.cons rfl (by first | rfl | exact veq_int (by first | omega | (dsimp only; omega))) (.cons rfl (by first | rfl | exact veq_int (by first | omega | (dsimp only; omega))) (.cons rfl (by first | rfl | exact veq_int (by first | omega | (dsimp only; omega))) (.cons rfl (by first | rfl | exact veq_int (by first | omega | (dsimp only; omega))) .nil)))))))))))))) (.keep rfl rfl (fun _ h => h) (.keep rfl rfl (imp_var (by first | rfl | (exact ceq_cons (by first | rfl | (refine ceq_int ?_; first | rfl | omega)) (ceq_cons (by first | rfl | (refine ceq_barr fun j hj => ?_; (try dsimp only); first | (simp; done) | ((repeat' split) <;> first | rfl | (exfalso; omega) | (congr 1; omega) | (simp_all; done) | omega))) (ceq_cons (by first | rfl | (refine ceq_arr8 fun j hj => ?_; (try dsimp only); first | (simp; done) | ((repeat' split) <;> first | rfl | (exfalso; omega) | (congr 1; omega) | (simp_all; done) | omega))) (rfl))))) rfl) (.keep rfl rfl (fun _ h => h) (.keep rfl rfl (fun _ h => h) .nil))))
    · try simp only [bs] at h1
      obtain rfl : i = Q.length := (by omega)
      refine W_exit ?_
      refine W_seq ?_
      refine W_region ?_
      refine Ops_q (q_load rfl rfl m1 rfl (by first | trivial | (first | omega | (dsimp only; omega)) | exact Fin.isLt _ | (dsimp only; omega))) (lt_dec rfl) ?_
      refine Ops_x rfl (x_store rfl rfl rfl rfl rfl (((HpRep.head).tail).tail) rfl (by first | trivial | (first | (first | omega | (dsimp only; omega)) | exact Fin.isLt _)) ?_)
      refine Ops_nil ?_
      refine W_ret ?_
      refine Exists.intro _ (And.intro (.cons (.cell rfl rfl m2 rfl trivial) .nil) (Exists.intro (gg, f) (And.intro ?_ (And.intro ?_ (And.intro .nil rfl)))))
      · exact fun y hy => hB.end hp hx hy
      · rfl
end Go.Proofs.Ytdcpggdbjllmpab
