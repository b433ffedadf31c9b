/- Texts of this claim put together, part 2: the frame, the plain law and what the functions do; the conditions stand in the statements. -/
import Derived.Test.YtjihhcjpbcmjaaaIG1
import Derived.Test.YtjihhcjpbcmjaaaTy
import Derived.Test.YtjihhcjpbcmjaaaGx12
import Derived.Test.YtjihhcjpbcmjaaaGx20
import Derived.Test.YtjihhcjpbcmjaaaM26
import Derived.Test.YtjihhcjpbcmjaaaM47
import Derived.Test.YtjihhcjpbcmjaaaGx38
import Derived.Test.YtjihhcjpbcmjaaaM7
import Derived.Test.YtjihhcjpbcmjaaaGx28
import Derived.Test.YtjihhcjpbcmjaaaGx27
import Derived.Test.YtjihhcjpbcmjaaaGx34
import Derived.Test.YtjihhcjpbcmjaaaM24
section
namespace Go.Proofs.Ytjihhcjpbcmjaaa
open Go Gx
set_option linter.unusedVariables false
theorem en_spec_l04Orbit : Enters Try.prog 65 := enters_of Try.func65 (by kernel_rfl) (by kernel_rfl)
set_option maxRecDepth 100000 in
set_option maxHeartbeats 2000000 in
theorem w_spec_l04Orbit {a : Value} {ha : a.oneCell' = true} {l : List (Nat → Fin 256)} {n : Int} {x0 : Nat} (hp : PsOk l n) (hl : l.length ≤ 1000) (hx : x0 < n.toNat) : CT (X := (Nat → Bool) × (Nat → Fin 256)) Try.prog 65 (vals [.int .i64 (x0 : Int), .raw a ha, .int .i64 n]) [] [rd a (.arrs 10 l)] (fun x => (∀ y, y < n.toNat → x.1 y = orbB l n.toNat x0 y) ∧ Tg l n x0 x.2 x.1) (fun x => .agg [.int .i64 (x0 : Int), .barr 10 x.1, .arr8 100 x.2]) (fun x => []) := by
  refine CT_intro (rs := [.cell 6 84]) tt tok Try.func65 rfl rfl rfl (by first | rfl | assumption) fun w => ?_
  show W _ _ _ ⟨tmOf 0 [.int .i64 (x0 : Int), .raw a ha, .int .i64 n], [rd a (.arrs 10 l)]⟩
  have hn := hp.1
  refine W_seq ?_
  refine W_region ?_
  refine Ops_x rfl (x_alloc rfl (lt_dec rfl) fun b6_1 => ?_)
  refine Ops_nil ?_
  refine W_seq ?_
  refine W_region ?_
  refine Ops_p (p_move rfl) (lt_dec rfl) ?_
  refine Ops_p (p_build rfl rfl rfl rfl (by first | exact True.intro | trivial | (first | omega | (dsimp only; omega)) | exact Fin.isLt _ | (dsimp only; omega))) (lt_dec rfl) ?_
  refine Ops_x rfl (x_alloc rfl (lt_dec rfl) fun b7_1 => ?_)
  refine Ops_x rfl (x_store rfl rfl rfl rfl rfl HpRep.head rfl (by first | trivial | (first | (first | omega | (dsimp only; omega)) | exact Fin.isLt _)) ?_)
  refine Ops_nil ?_
  refine W_seq ?_
  refine W_region ?_
  refine Ops_p (p_move rfl) (lt_dec rfl) ?_
  refine Ops_p (p_fieldAddr rfl rfl rfl rfl rfl rfl) (lt_dec rfl) ?_
  first | refine Ops_p (p_ix1 x0 rfl rfl rfl rfl rfl rfl (by first | (first | omega | (dsimp only; omega)) | exact Fin.isLt _)) (lt_dec rfl) ?_ | refine Ops_p (p_ix1s x0 rfl rfl rfl rfl rfl rfl (by first | (first | omega | (dsimp only; omega)) | exact Fin.isLt _)) (lt_dec rfl) ?_
  refine Ops_x rfl (x_store rfl rfl rfl rfl rfl HpRep.head rfl (by first | trivial | (first | (first | omega | (dsimp only; omega)) | exact Fin.isLt _)) ?_)
  refine Ops_nil ?_
  refine W_seq ?_
  refine W_region ?_
  refine Ops_p (p_move rfl) (lt_dec rfl) ?_
  refine Ops_p (p_move rfl) (lt_dec rfl) ?_
  refine Ops_q (q_call en_spec_l01Same rfl (w_spec_l01Same hn) (View.none _)) (lt_dec rfl) ?_
  refine Ops_p (p_fieldAddr rfl rfl rfl rfl rfl rfl) (lt_dec rfl) ?_
  refine Ops_p (p_ixN 10 x0 rfl rfl rfl rfl rfl rfl (by first | (first | omega | (dsimp only; omega)) | exact Fin.isLt _)) (lt_dec rfl) ?_
  refine Ops_x rfl (x_store rfl rfl rfl rfl rfl HpRep.head rfl (by first | trivial | (first | (first | omega | (dsimp only; omega)) | exact Fin.isLt _)) ?_)
  refine Ops_nil ?_
  refine W_seq ?_
  refine W_region ?_
  refine Ops_p (p_move rfl) (lt_dec rfl) ?_
  refine Ops_x rfl (x_buildSlice rfl rfl rfl rfl rfl rfl rfl rfl (Nat.le_of_ble_eq_true rfl) (lt_dec rfl) fun b23_1 => ?_)
  refine Ops_p (p_assign rfl) (lt_dec rfl) ?_
  refine Ops_nil ?_
  refine W_seq ?_
  refine W_seq ?_
  refine W_region ?_
  refine Ops_p (p_assign rfl) (lt_dec rfl) ?_
  refine Ops_nil ?_
  refine W_block ?_
  refine W_loop (α := Nat × List Int × Nat × Nat × (Nat → Bool) × (Nat → Fin 256)) (fun zz0 => ⟨[(0, .int .i64 (x0 : Int)), (1, .raw a ha), (2, .int .i64 n), (6, .ptr b6_1 0 none), (7, .ptr b7_1 0 none), (8, .sl (zz0.2.2.1) 0 (zz0.2.1).length (zz0.2.2.2.1)), (9, .int .i64 ((zz0.1) : Int)), (12, .int .i64 (x0 : Int)), (13, .agg [.int .i64 (x0 : Int), .barr 10 (fun _ => false), .arr8 100 (fun _ => 0)]), (14, .int .i64 (x0 : Int)), (17, .int .i64 (x0 : Int)), (18, .int .i64 n), (19, .arr8 10 (idT n.toNat)), (22, .int .i64 (x0 : Int)), (23, .sl b23_1 0 1 1)], [.row (zz0.2.2.1) (zz0.2.2.2.1) 2 (.ints .i64 (zz0.2.1)), .var b7_1 (.agg [.int .i64 (x0 : Int), .barr 10 (zz0.2.2.2.2.1), .arr8 100 (zz0.2.2.2.2.2)]), .var b6_1 (.agg [.int .i64 0, .barr 10 fun _ => false, .arr8 100 fun _ => 0]), rd a (.arrs 10 l)]⟩) (fun zz0 => (zz0.1) ≤ (zz0.2.1).length ∧ Bfs l n.toNat x0 (zz0.1) 0 (zz0.2.1) (zz0.2.2.2.2.1) ∧ Tg l n x0 (zz0.2.2.2.2.2) (zz0.2.2.2.2.1)) (fun zz0 => n.toNat - (zz0.1)) (0, [(x0 : Int)], b23_1, 1, (fun y => if y = x0 then true else false), (fun j => if 10 * x0 ≤ j ∧ j < 10 * x0 + 10 then idT n.toNat (j - 10 * x0) else 0)) ?_ ?_ ?_
  · exact ⟨Nat.zero_le _, Bfs.zero hx, Tg.start hn hx⟩
  · exact Wk.intro (.cons rfl (by first | rfl | exact veq_int (by first | omega | (dsimp only; omega))) (.cons rfl (by first | rfl | exact veq_int (by first | omega | (dsimp only; omega))) (.cons rfl (by first | rfl | exact veq_int (by first | omega | (dsimp only; omega))) (.cons rfl (by first | rfl | exact veq_int (by first | omega | (dsimp only; omega))) (.cons rfl (by first | rfl | exact veq_int (by first | omega | (dsimp only; omega))) (.cons rfl (by first | rfl | exact veq_int (by first | omega | (dsimp only; omega))) (.cons rfl (by first | rfl | exact veq_int (by first | omega | (dsimp only; omega))) (.cons rfl (by first | rfl | exact veq_int (by first | omega | (dsimp only; omega))) (.cons rfl (by first | rfl | exact veq_int (by first | omega | (dsimp only; omega))) (.cons rfl (by first | rfl | exact veq_int (by first | omega | (dsimp only; omega))) (.cons rfl (by first | rfl | exact veq_int (by first | omega | (dsimp only; omega))) (.cons rfl (by first | rfl | exact veq_int (by first | omega | (dsimp only; omega))) (.cons rfl (by first | rfl | exact veq_int (by first | omega | (dsimp only; omega))) (.cons rfl (by first | rfl | exact veq_int (by first | omega | (dsimp only; omega))) (.cons rfl (by first | rfl | exact veq_int (by first | omega | (dsimp only; omega))) .nil))))))))))))))) (.keep rfl rfl (fun _ h => h) (.keep rfl rfl (imp_var (by first | rfl | (exact ceq_cons (by first | rfl | (refine ceq_int ?_; first | rfl | omega)) (ceq_cons (by first | rfl | (refine ceq_barr fun j hj => ?_; (try dsimp only); first | (simp; done) | ((repeat' split) <;> first | rfl | (exfalso; omega) | (congr 1; omega) | (simp_all; done) | omega))) (ceq_cons (by first | rfl | (refine ceq_arr8 fun j hj => ?_; (try dsimp only); first | (simp; done) | ((repeat' split) <;> first | rfl | (exfalso; omega) | (congr 1; omega) | (simp_all; done) | omega))) (rfl))))) rfl) (.keep rfl rfl (fun _ h => h) (.keep rfl rfl (fun _ h => h) .nil))))
  · rintro ⟨i, Q, bb, cbb, gg, f⟩ ⟨hi, hB, hT⟩
    try dsimp only at *
    have hlenQ := hB.len
    refine W_seq ?_
    refine W_seq ?_
    refine W_region ?_
    refine Ops_p (p_move rfl) (lt_dec rfl) ?_
    refine Ops_p (p_move rfl) (lt_dec rfl) ?_
    refine Ops_p (p_len rfl rfl rfl) (lt_dec rfl) ?_
    refine Ops_p (p_lss rfl rfl) (lt_dec rfl) ?_
    refine Ops_nil ?_
    refine W_cond rfl (fun h1 => ?_) (fun h1 => ?_)
    · try simp only [bs] at h1
      refine W_skip ?_
      refine W_seq ?_
      refine W_block ?_
      refine W_seq ?_
      refine W_region ?_
      refine Ops_p (p_assign rfl) (lt_dec rfl) ?_
      refine Ops_nil ?_
      refine W_block ?_
      refine W_loop (α := Nat × List Int × Nat × Nat × (Nat → Bool) × (Nat → Fin 256)) (fun zz1 => ⟨[(0, .int .i64 (x0 : Int)), (1, .raw a ha), (2, .int .i64 n), (6, .ptr b6_1 0 none), (7, .ptr b7_1 0 none), (8, .sl (zz1.2.2.1) 0 (zz1.2.1).length (zz1.2.2.2.1)), (9, .int .i64 (i : Int)), (10, .int .i64 ((zz1.1) : Int)), (12, .int .i64 (x0 : Int)), (13, .agg [.int .i64 (x0 : Int), .barr 10 (fun _ => false), .arr8 100 (fun _ => 0)]), (14, .int .i64 (x0 : Int)), (17, .int .i64 (x0 : Int)), (18, .int .i64 n), (19, .arr8 10 (idT n.toNat)), (22, .int .i64 (x0 : Int)), (23, .sl b23_1 0 1 1), (24, .int .i64 (i : Int)), (25, .sl bb 0 Q.length cbb), (26, .int .i64 (Q.length : Int))], [.row (zz1.2.2.1) (zz1.2.2.2.1) 2 (.ints .i64 (zz1.2.1)), .var b7_1 (.agg [.int .i64 (x0 : Int), .barr 10 (zz1.2.2.2.2.1), .arr8 100 (zz1.2.2.2.2.2)]), .var b6_1 (.agg [.int .i64 0, .barr 10 fun _ => false, .arr8 100 fun _ => 0]), rd a (.arrs 10 l)]⟩) (fun zz1 => ((zz1.1) ≤ l.length ∧ i < (zz1.2.1).length) ∧ Bfs l n.toNat x0 i (zz1.1) (zz1.2.1) (zz1.2.2.2.2.1) ∧ Tg l n x0 (zz1.2.2.2.2.2) (zz1.2.2.2.2.1)) (fun zz1 => l.length - (zz1.1)) (0, Q, bb, cbb, gg, f) ?_ ?_ ?_
      · exact ⟨⟨Nat.zero_le _, by show i < Q.length; omega⟩, hB, hT⟩
      · exact Wk.intro (.cons rfl (by first | rfl | exact veq_int (by first | omega | (dsimp only; omega))) (.cons rfl (by first | rfl | exact veq_int (by first | omega | (dsimp only; omega))) (.cons rfl (by first | rfl | exact veq_int (by first | omega | (dsimp only; omega))) (.cons rfl (by first | rfl | exact veq_int (by first | omega | (dsimp only; omega))) (.cons rfl (by first | rfl | exact veq_int (by first | omega | (dsimp only; omega))) (.cons rfl (by first | rfl | exact veq_int (by first | omega | (dsimp only; omega))) (.cons rfl (by first | rfl | exact veq_int (by first | omega | (dsimp only; omega))) (.cons rfl (by first | rfl | exact veq_int (by first | omega | (dsimp only; omega))) (.cons rfl (by first | rfl | exact veq_int (by first | omega | (dsimp only; omega))) (.cons rfl (by first | rfl | exact veq_int (by first | omega | (dsimp only; omega))) (.cons rfl (by first | rfl | exact veq_int (by first | omega | (dsimp only; omega))) (.cons rfl (by first | rfl | exact veq_int (by first | omega | (dsimp only; omega))) (.cons rfl (by first | rfl | exact veq_int (by first | omega | (dsimp only; omega))) (.cons rfl (by first | rfl | exact veq_int (by first | omega | (dsimp only; omega))) (.cons rfl (by first | rfl | exact veq_int (by first | omega | (dsimp only; omega))) (.cons rfl (by first | rfl | exact veq_int (by first | omega | (dsimp only; omega))) (.cons rfl (by first | rfl | exact veq_int (by first | omega | (dsimp only; omega))) (.cons rfl (by first | rfl | exact veq_int (by first | omega | (dsimp only; omega))) (.cons rfl (by first | rfl | exact veq_int (by first | omega | (dsimp only; omega))) .nil))))))))))))))))))) (.keep rfl rfl (fun _ h => h) (.keep rfl rfl (imp_var (by first | rfl | (exact ceq_cons (by first | rfl | (refine ceq_int ?_; first | rfl | omega)) (ceq_cons (by first | rfl | (refine ceq_barr fun j hj => ?_; (try dsimp only); first | (simp; done) | ((repeat' split) <;> first | rfl | (exfalso; omega) | (congr 1; omega) | (simp_all; done) | omega))) (ceq_cons (by first | rfl | (refine ceq_arr8 fun j hj => ?_; (try dsimp only); first | (simp; done) | ((repeat' split) <;> first | rfl | (exfalso; omega) | (congr 1; omega) | (simp_all; done) | omega))) (rfl))))) rfl) (.keep rfl rfl (fun _ h => h) (.keep rfl rfl (fun _ h => h) .nil))))
      · rintro ⟨k, Q2, b2, c2, gg2, f2⟩ ⟨hR2, hB2, hT2⟩
        try dsimp only at *
        have hlenQ2 := hB2.len
        refine W_seq ?_
        refine W_seq ?_
        refine W_region ?_
        refine Ops_p (p_move rfl) (lt_dec rfl) ?_
        refine Ops_p (p_move rfl) (lt_dec rfl) ?_
        refine Ops_q ((q_lenR rfl rfl rfl (Rds.rd m3)).eq (d' := .int .i64 ((l.length : Nat) : Int)) rfl) (lt_dec rfl) ?_
        refine Ops_p (p_lss rfl rfl) (lt_dec rfl) ?_
        refine Ops_nil ?_
        refine W_cond rfl (fun h2 => ?_) (fun h2 => ?_)
        · try simp only [bs] at h2
          refine W_skip ?_
          refine W_seq ?_
          refine W_block ?_
          refine W_seq ?_
          obtain ⟨u, hu, hun, hou⟩ := hB2.at hR2.2
          have hpk := hp.at (k := k) (by omega)
          have huk := perm_lt (i := u) hpk (by omega)
          have hhu := hB2.has hR2.2 hu (by omega)
          have hlen := hB2.len
          refine W_draw (by kernel_rfl) ?_
          show RA _ _ 11 _ _ _
          refine RA_quietF [0, 1, 2, 3, 4, 5, 6, 7, 8, 9, 10] rfl rfl rfl (by kernel_rfl) (by kernel_rfl) ?_
          refine WQ_cons rfl rfl rfl ((p_move rfl).q) (lt_dec rfl) ?_
          refine WQ_cons rfl rfl rfl ((p_move rfl).q) (lt_dec rfl) ?_
          refine WQ_cons rfl rfl rfl ((p_move rfl).q) (lt_dec rfl) ?_
          refine WQ_cons rfl rfl rfl ((p_move rfl).q) (lt_dec rfl) ?_
          refine WQ_cons rfl rfl rfl ((p_ixl1 _ rfl rfl rfl rfl rfl rfl (by first | (first | omega | (dsimp only; omega)) | exact Fin.isLt _)).q) (lt_dec rfl) ?_
          refine WQ_cons rfl rfl rfl ((q_load_row rfl rfl m0 rfl rfl (by first | omega | (dsimp only; omega)) rfl rfl)) (lt_dec rfl) ?_
          refine WQ_cons rfl rfl rfl ((q_ixR _ rfl rfl rfl (Rds.rd m3) rfl rfl (by first | (show _ < List.length _; omega) | (show _ < List.length _; first | omega | (dsimp only; omega))) rfl)) (lt_dec rfl) ?_
          refine WQ_cons rfl rfl rfl ((q_ixA u rfl rfl rfl rfl (Rds.rd m3) (by show 0 < List.length _; omega) rfl hu (by omega))) (lt_dec rfl) ?_
          refine WQ_cons rfl rfl rfl ((q_loadA (m := 10) (i := k) (j := u) rfl rfl (Rds.rd m3) rfl (by omega) (by omega) rfl rfl)) (lt_dec rfl) ?_
          first | refine WQ_cons rfl rfl rfl ((p_conv8 rfl rfl rfl (by decide)).q) (lt_dec rfl) ?_ | refine WQ_cons rfl rfl rfl ((p_conv rfl rfl rfl (by exact ⟨(by first | omega | (dsimp only; omega)), (by first | omega | (dsimp only; omega))⟩)).q) (lt_dec rfl) ?_
          refine WQ_cons rfl rfl rfl ((p_assign rfl).q) (lt_dec rfl) ?_
          refine WQ_nil ?_
          refine W_seq ?_
          refine W_region ?_
          refine Ops_p (p_move rfl) (lt_dec rfl) ?_
          refine Ops_p (p_fieldAddr rfl rfl rfl rfl rfl rfl) (lt_dec rfl) ?_
          first | refine Ops_p (p_ix1 ((l.getD k fun _ => 0) u).val rfl rfl rfl rfl rfl rfl (by first | (first | omega | (dsimp only; omega)) | exact Fin.isLt _)) (lt_dec rfl) ?_ | refine Ops_p (p_ix1s ((l.getD k fun _ => 0) u).val rfl rfl rfl rfl rfl rfl (by first | (first | omega | (dsimp only; omega)) | exact Fin.isLt _)) (lt_dec rfl) ?_
          refine Ops_q (q_load rfl rfl m1 rfl (by first | exact True.intro | trivial | (first | omega | (dsimp only; omega)) | exact Fin.isLt _ | (dsimp only; omega))) (lt_dec rfl) ?_
          refine Ops_p (p_not rfl) (lt_dec rfl) ?_
          refine Ops_nil ?_
          refine W_cond rfl (fun h3 => ?_) (fun h3 => ?_)
          · try simp only [bs] at h3
            refine W_seq ?_
            refine W_region ?_
            refine Ops_p (p_move rfl) (lt_dec rfl) ?_
            refine Ops_p (p_fieldAddr rfl rfl rfl rfl rfl rfl) (lt_dec rfl) ?_
            first | refine Ops_p (p_ix1 ((l.getD k fun _ => 0) u).val rfl rfl rfl rfl rfl rfl (by first | (first | omega | (dsimp only; omega)) | exact Fin.isLt _)) (lt_dec rfl) ?_ | refine Ops_p (p_ix1s ((l.getD k fun _ => 0) u).val rfl rfl rfl rfl rfl rfl (by first | (first | omega | (dsimp only; omega)) | exact Fin.isLt _)) (lt_dec rfl) ?_
            refine Ops_x rfl (x_store rfl rfl rfl rfl rfl ((HpRep.head).tail) rfl (by first | trivial | (first | (first | omega | (dsimp only; omega)) | exact Fin.isLt _)) ?_)
            refine Ops_nil ?_
            refine W_seq ?_
            refine W_draw (by kernel_rfl) ?_
            show RA _ _ 17 _ _ _
            refine RA_quiet (g := 1) [0, 1, 2, 3, 4, 5, 6, 7, 8, 9, 10, 11, 12, 13, 14, 15] (by kernel_rfl) (by kernel_rfl) (by kernel_rfl) (by kernel_rfl) ?_
            refine WQ_cons rfl rfl rfl ((p_move rfl).q) (lt_dec rfl) ?_
            refine WQ_cons rfl rfl rfl ((p_move rfl).q) (lt_dec rfl) ?_
            refine WQ_cons rfl rfl rfl ((p_move rfl).q) (lt_dec rfl) ?_
            refine WQ_cons rfl rfl rfl ((p_ixl1 _ rfl rfl rfl rfl rfl rfl (by first | (first | omega | (dsimp only; omega)) | exact Fin.isLt _)).q) (lt_dec rfl) ?_
            refine WQ_cons rfl rfl rfl ((q_load_row rfl rfl m0 rfl rfl (by first | omega | (dsimp only; omega)) rfl rfl)) (lt_dec rfl) ?_
            refine WQ_cons rfl rfl rfl ((p_fieldAddr rfl rfl rfl rfl rfl rfl).q) (lt_dec rfl) ?_
            refine WQ_cons rfl rfl rfl ((p_ixN 10 u rfl rfl rfl rfl rfl hu (by first | (first | omega | (dsimp only; omega)) | exact Fin.isLt _)).q) (lt_dec rfl) ?_
            refine WQ_cons rfl rfl rfl ((q_load rfl rfl m1 rfl (by first | exact True.intro | trivial | (first | omega | (dsimp only; omega)) | exact Fin.isLt _ | (dsimp only; omega)))) (lt_dec rfl) ?_
            refine WQ_cons rfl rfl rfl ((p_move rfl).q) (lt_dec rfl) ?_
            refine WQ_cons rfl rfl rfl ((p_move rfl).q) (lt_dec rfl) ?_
            refine WQ_cons rfl rfl rfl ((q_ixR _ rfl rfl rfl (Rds.rd m3) rfl rfl (by first | (show _ < List.length _; omega) | (show _ < List.length _; first | omega | (dsimp only; omega))) rfl)) (lt_dec rfl) ?_
            refine WQ_cons rfl rfl rfl ((q_loadR rfl rfl (Rds.rd m3) rfl rfl (by first | (show _ < List.length _; omega) | (show _ < List.length _; first | omega | (dsimp only; omega))) rfl rfl rfl)) (lt_dec rfl) ?_
            refine WQ_cons rfl rfl rfl ((p_move rfl).q) (lt_dec rfl) ?_
            refine WQ_cons rfl rfl rfl ((q_call en_spec_l01Then rfl (w_spec_l01Then (hT2.perm u hun hhu)) (View.none _))) (lt_dec rfl) ?_
            refine WQ_cons rfl rfl rfl ((p_fieldAddr rfl rfl rfl rfl rfl rfl).q) (lt_dec rfl) ?_
            refine WQ_cons rfl rfl rfl ((p_ixN 10 ((l.getD k fun _ => 0) u).val rfl rfl rfl rfl rfl rfl (by first | (first | omega | (dsimp only; omega)) | exact Fin.isLt _)).q) (lt_dec rfl) ?_
            refine WQ_nil ?_
            refine RA_one 16 rfl rfl (by kernel_rfl) (x_store rfl rfl rfl rfl rfl ((HpRep.head).tail) rfl (by first | trivial | (first | (first | omega | (dsimp only; omega)) | exact Fin.isLt _)) ?_)
            refine RA_done (by kernel_rfl) ?_
            refine W_region ?_
            refine Ops_p (p_move rfl) (lt_dec rfl) ?_
            refine Ops_p (p_move rfl) (lt_dec rfl) ?_
            refine Ops_x rfl (x_buildSlice rfl rfl rfl rfl rfl rfl rfl rfl (Nat.le_of_ble_eq_true rfl) (lt_dec rfl) fun b72_1 => ?_)
            refine Ops_x rfl (x_append rfl rfl rfl rfl rfl rfl (fun _ _ => (HpRep.head).tail) (.inl ⟨m0, rfl⟩) rfl rfl rfl (by first | omega | (dsimp only; omega)) rfl (by first | omega | (dsimp only; omega)) (by first | omega | (dsimp only; omega)) (lt_dec rfl) fun b73_1 cb73_1 => ?_)
            refine Ops_p (p_assign rfl) (lt_dec rfl) ?_
            refine Ops_nil ?_
            refine W_region ?_
            refine Ops_p (p_move rfl) (lt_dec rfl) ?_
            refine Ops_p (p_add rfl rfl (by exact ⟨(by first | omega | (dsimp only; omega)), (by first | omega | (dsimp only; omega))⟩)) (lt_dec rfl) ?_
            refine Ops_p (p_assign rfl) (lt_dec rfl) ?_
            refine Ops_nil ?_
            refine Exists.intro (k + 1, Q2 ++ [((((l.getD k fun _ => 0) u).val : Nat) : Int)], b73_1, cb73_1, (fun y => if y = ((l.getD k fun _ => 0) u).val then true else gg2 y), (fun j => if 10 * ((l.getD k fun _ => 0) u).val ≤ j ∧ j < 10 * ((l.getD k fun _ => 0) u).val + 10 then thenT (fun j => f2 (10 * u + j)) (l.getD k fun _ => 0) n.toNat (j - 10 * ((l.getD k fun _ => 0) u).val) else f2 j)) (And.intro ?_ (And.intro ?_ ?_))
            · first | exact ⟨⟨by show _ ≤ _; omega, hR2.2⟩, hB2.old hu (by simp_all), hT2⟩ | exact ⟨⟨by show _ ≤ _; omega, by show _ < List.length _; simp; omega⟩, Bfs.new hp hB2 hR2.2 (by omega) hu hun hou (by simp_all), Tg.new hp hx hB2.start (by omega) hun hhu (by simp_all) hT2⟩
            · show _ < _; omega
            · exact Wk.intro (.cons rfl (by first | rfl | exact veq_int (by first | omega | (dsimp only; omega))) (.cons rfl (by first | rfl | exact veq_int (by first | omega | (dsimp only; omega))) (.cons rfl (by first | rfl | exact veq_int (by first | omega | (dsimp only; omega))) (.cons rfl (by first | rfl | exact veq_int (by first | omega | (dsimp only; omega))) (.cons rfl (by first | rfl | exact veq_int (by first | omega | (dsimp only; omega))) (.cons rfl (veq_sl (by first | rfl | simp)) (.cons rfl (by first | rfl | exact veq_int (by first | omega | (dsimp only; omega))) (.cons rfl (by first | rfl | exact veq_int (by first | omega | (dsimp only; omega))) (.cons rfl (by first | rfl | exact veq_int (by first | omega | (dsimp only; omega))) (.cons rfl (by first | rfl | exact veq_int (by first | omega | (dsimp only; omega))) (.cons rfl (by first | rfl | exact veq_int (by first | omega | (dsimp only; omega))) (.cons rfl (by first | rfl | exact veq_int (by first | omega | (dsimp only; omega))) (.cons rfl (by first | rfl | exact veq_int (by first | omega | (dsimp only; omega))) (.cons rfl (by first | rfl | exact veq_int (by first | omega | (dsimp only; omega))) (.cons rfl (by first | rfl | exact veq_int (by first | omega | (dsimp only; omega))) (.cons rfl (by first | rfl | exact veq_int (by first | omega | (dsimp only; omega))) (.cons rfl (by first | rfl | exact veq_int (by first | omega | (dsimp only; omega))) (.cons rfl (by first | rfl | exact veq_int (by first | omega | (dsimp only; omega))) (.cons rfl (by first | rfl | exact veq_int (by first | omega | (dsimp only; omega))) .nil))))))))))))))))))) (.drop (.keep rfl rfl (fun _ h => h) (.keep rfl rfl (imp_var (by first | rfl | (exact ceq_cons (by first | rfl | (refine ceq_int ?_; first | rfl | omega)) (ceq_cons (by first | rfl | (refine ceq_barr fun j hj => ?_; (try dsimp only); first | (simp; done) | ((repeat' split) <;> first | rfl | (exfalso; omega) | (congr 1; omega) | (simp_all; done) | omega))) (ceq_cons (by first | rfl | (refine ceq_arr8 fun j hj => ?_; (try dsimp only); first | (simp; done) | ((repeat' split) <;> first | rfl | (exfalso; omega) | (congr 1; omega) | (simp_all; done) | omega))) (rfl))))) rfl) (.keep rfl rfl (fun _ h => h) (.keep rfl rfl (fun _ h => h) .nil)))))
          · try simp only [bs] at h3
            refine W_skip ?_
            refine W_region ?_
            refine Ops_p (p_move rfl) (lt_dec rfl) ?_
            refine Ops_p (p_add rfl rfl (by exact ⟨(by first | omega | (dsimp only; omega)), (by first | omega | (dsimp only; omega))⟩)) (lt_dec rfl) ?_
            refine Ops_p (p_assign rfl) (lt_dec rfl) ?_
            refine Ops_nil ?_
            refine Exists.intro (k + 1, Q2, b2, c2, gg2, f2) (And.intro ?_ (And.intro ?_ ?_))
            · first | exact ⟨⟨by show _ ≤ _; omega, hR2.2⟩, hB2.old hu (by simp_all), hT2⟩ | exact ⟨⟨by show _ ≤ _; omega, by show _ < List.length _; simp; omega⟩, Bfs.new hp hB2 hR2.2 (by omega) hu hun hou (by simp_all), Tg.new hp hx hB2.start (by omega) hun hhu (by simp_all) hT2⟩
            · show _ < _; omega
            · exact Wk.intro (.cons rfl (by first | rfl | exact veq_int (by first | omega | (dsimp only; omega))) (.cons rfl (by first | rfl | exact veq_int (by first | omega | (dsimp only; omega))) (.cons rfl (by first | rfl | exact veq_int (by first | omega | (dsimp only; omega))) (.cons rfl (by first | rfl | exact veq_int (by first | omega | (dsimp only; omega))) (.cons rfl (by first | rfl | exact veq_int (by first | omega | (dsimp only; omega))) (.cons rfl (veq_sl (by first | rfl | simp)) (.cons rfl (by first | rfl | exact veq_int (by first | omega | (dsimp only; omega))) (.cons rfl (by first | rfl | exact veq_int (by first | omega | (dsimp only; omega))) (.cons rfl (by first | rfl | exact veq_int (by first | omega | (dsimp only; omega))) (.cons rfl (by first | rfl | exact veq_int (by first | omega | (dsimp only; omega))) (.cons rfl (by first | rfl | exact veq_int (by first | omega | (dsimp only; omega))) (.cons rfl (by first | rfl | exact veq_int (by first | omega | (dsimp only; omega))) (.cons rfl (by first | rfl | exact veq_int (by first | omega | (dsimp only; omega))) (.cons rfl (by first | rfl | exact veq_int (by first | omega | (dsimp only; omega))) (.cons rfl (by first | rfl | exact veq_int (by first | omega | (dsimp only; omega))) (.cons rfl (by first | rfl | exact veq_int (by first | omega | (dsimp only; omega))) (.cons rfl (by first | rfl | exact veq_int (by first | omega | (dsimp only; omega))) (.cons rfl (by first | rfl | exact veq_int (by first | omega | (dsimp only; omega))) (.cons rfl (by first | rfl | exact veq_int (by first | omega | (dsimp only; omega))) .nil))))))))))))))))))) (.keep rfl rfl (fun _ h => h) (.keep rfl rfl (imp_var (by first | rfl | (exact ceq_cons (by first | rfl | (refine ceq_int ?_; first | rfl | omega)) (ceq_cons (by first | rfl | (refine ceq_barr fun j hj => ?_; (try dsimp only); first | (simp; done) | ((repeat' split) <;> first | rfl | (exfalso; omega) | (congr 1; omega) | (simp_all; done) | omega))) (ceq_cons (by first | rfl | (refine ceq_arr8 fun j hj => ?_; (try dsimp only); first | (simp; done) | ((repeat' split) <;> first | rfl | (exfalso; omega) | (congr 1; omega) | (simp_all; done) | omega))) (rfl))))) rfl) (.keep rfl rfl (fun _ h => h) (.keep rfl rfl (fun _ h => h) .nil))))
        · try simp only [bs] at h2
          obtain rfl : k = l.length := (by omega)
          refine W_exit ?_
          refine W_region ?_
          refine Ops_p (p_move rfl) (lt_dec rfl) ?_
          refine Ops_p (p_add rfl rfl (by exact ⟨(by first | omega | (dsimp only; omega)), (by first | omega | (dsimp only; omega))⟩)) (lt_dec rfl) ?_
          refine Ops_p (p_assign rfl) (lt_dec rfl) ?_
          refine Ops_nil ?_
          refine Exists.intro (i + 1, Q2, b2, c2, gg2, f2) (And.intro ?_ (And.intro ?_ ?_))
          · exact ⟨by show i + 1 ≤ Q2.length; omega, hB2.row, hT2⟩
          · show _ < _; omega
          · exact Wk.intro (.cons rfl (by first | rfl | exact veq_int (by first | omega | (dsimp only; omega))) (.cons rfl (by first | rfl | exact veq_int (by first | omega | (dsimp only; omega))) (.cons rfl (by first | rfl | exact veq_int (by first | omega | (dsimp only; omega))) (.cons rfl (by first | rfl | exact veq_int (by first | omega | (dsimp only; omega))) (.cons rfl (by first | rfl | exact veq_int (by first | omega | (dsimp only; omega))) (.cons rfl (veq_sl rfl) (.cons rfl (by first | rfl | exact veq_int (by first | omega | (dsimp only; omega))) (.cons rfl (by first | rfl | exact veq_int (by first | omega | (dsimp only; omega))) (.cons rfl (by first | rfl | exact veq_int (by first | omega | (dsimp only; omega))) (.cons rfl (by first | rfl | exact veq_int (by first | omega | (dsimp only; omega))) (.cons rfl (by first | rfl | exact veq_int (by first | omega | (dsimp only; omega))) (.cons rfl (by first | rfl | exact veq_int (by first | omega | (dsimp only; omega))) (.cons rfl (by first | rfl | exact veq_int (by first | omega | (dsimp only; omega))) (.cons rfl (by first | rfl | exact veq_int (by first | omega | (dsimp only; omega))) (.cons rfl (by first | rfl | exact veq_int (by first | omega | (dsimp only; omega))) .nil))))))))))))))) (.keep rfl rfl (fun _ h => h) (.keep rfl rfl (imp_var (by first | rfl | (exact ceq_cons (by first | rfl | (refine ceq_int ?_; first | rfl | omega)) (ceq_cons (by first | rfl | (refine ceq_barr fun j hj => ?_; (try dsimp only); first | (simp; done) | ((repeat' split) <;> first | rfl | (exfalso; omega) | (congr 1; omega) | (simp_all; done) | omega))) (ceq_cons (by first | rfl | (refine ceq_arr8 fun j hj => ?_; (try dsimp only); first | (simp; done) | ((repeat' split) <;> first | rfl | (exfalso; omega) | (congr 1; omega) | (simp_all; done) | omega))) (rfl))))) rfl) (.keep rfl rfl (fun _ h => h) (.keep rfl rfl (fun _ h => h) .nil))))
    · try simp only [bs] at h1
      obtain rfl : i = Q.length := (by omega)
      refine W_exit ?_
      refine W_seq ?_
      refine W_region ?_
      refine Ops_q (q_load rfl rfl m1 rfl (by first | exact True.intro | trivial | (first | omega | (dsimp only; omega)) | exact Fin.isLt _ | (dsimp only; omega))) (lt_dec rfl) ?_
      refine Ops_x rfl (x_store rfl rfl rfl rfl rfl (((HpRep.head).tail).tail) rfl (by first | trivial | (first | (first | omega | (dsimp only; omega)) | exact Fin.isLt _)) ?_)
      refine Ops_nil ?_
      refine W_ret ?_
      refine Exists.intro _ (And.intro (.cons (.cell rfl rfl m2 rfl trivial) .nil) (Exists.intro (gg, f) (And.intro ?_ (And.intro ?_ (And.intro .nil rfl)))))
      · exact ⟨fun y hy => hB.end hp hx hy, hT⟩
      · rfl
end Go.Proofs.Ytjihhcjpbcmjaaa
end
section
namespace Go.Proofs.Ytjihhcjpbcmjaaa
open Go Gx
set_option linter.unusedVariables false
theorem en_spec_l04Build : Enters Try.prog 57 := enters_of Try.func57 (by kernel_rfl) (by kernel_rfl)
set_option maxRecDepth 100000 in
set_option maxHeartbeats 1000000 in
theorem w_spec_l04Build {a : Value} {ha : a.oneCell' = true} {l : List (Nat → Fin 256)} {n : Nat} (hp : PsOk l (n : Int)) (hl : l.length ≤ 1000) : CT (X := V1 × List Lv) Try.prog 57 (vals [.raw a ha, .int .i64 (n : Int)]) [] [rd a (.arrs 10 l)] (fun x => ChOk l n x.2) (fun x => .raw x.1.1 x.1.2) (fun x => [own x.1.1 84 (.levs x.2)]) := by
  refine CT_intro (rs := [.tmp 4]) tt tok Try.func57 rfl rfl rfl (by first | rfl | assumption) fun w => ?_
  show W _ _ _ ⟨tmOf 0 [.raw a ha, .int .i64 (n : Int)], [rd a (.arrs 10 l)]⟩
  have hn := hp.1
  refine W_seq ?_
  refine W_region ?_
  refine Ops_p (p_assign rfl) (lt_dec rfl) ?_
  refine Ops_nil ?_
  refine W_seq ?_
  refine W_region ?_
  refine Ops_x rfl (x_buildSlice rfl rfl rfl rfl rfl rfl rfl rfl (Nat.le_of_ble_eq_true rfl) (lt_dec rfl) fun b7_1 => ?_)
  refine Ops_p (p_assign rfl) (lt_dec rfl) ?_
  refine Ops_nil ?_
  refine W_seq ?_
  refine W_seq ?_
  refine W_region ?_
  refine Ops_p (p_assign rfl) (lt_dec rfl) ?_
  refine Ops_nil ?_
  refine W_block ?_
  refine W_loop (α := Nat × Nat × Nat × List Lv) (fun zz0 => ⟨[(0, .raw a ha), (1, .int .i64 (n : Int)), (5, .sl (zz0.2.1) 0 (List.length (zz0.2.2.2)) (zz0.2.2.1)), (6, .int .i64 ((zz0.1) : Int))], [.row (zz0.2.1) (zz0.2.2.1) 84 (.levs (zz0.2.2.2)), rd a (.arrs 10 l)]⟩) (fun zz0 => (zz0.1) ≤ n ∧ (zz0.2.2.2).length = (zz0.1) ∧ ∀ k, k < (zz0.1) → LvOk l n k ((zz0.2.2.2).getD k lv0)) (fun zz0 => n - (zz0.1)) (0, b7_1, 0, []) ?_ ?_ ?_
  · exact ⟨Nat.zero_le _, rfl, fun k hk => absurd hk (Nat.not_lt_zero _)⟩
  · exact Wk.intro (.cons rfl (by first | rfl | exact veq_int (by first | omega | (dsimp only; omega))) (.cons rfl (by first | rfl | exact veq_int (by first | omega | (dsimp only; omega))) (.cons rfl (by first | rfl | exact veq_int (by first | omega | (dsimp only; omega))) (.cons rfl (by first | rfl | exact veq_int (by first | omega | (dsimp only; omega))) .nil)))) (.keep rfl rfl (fun _ h => h) (.keep rfl rfl (fun _ h => h) .nil))
  · rintro ⟨i, bb, cbb, D⟩ ⟨hi, hDl, hD⟩
    try dsimp only at *
    refine W_seq ?_
    refine W_seq ?_
    refine W_region ?_
    refine Ops_p (p_move rfl) (lt_dec rfl) ?_
    refine Ops_p (p_move rfl) (lt_dec rfl) ?_
    refine Ops_p (p_lss rfl rfl) (lt_dec rfl) ?_
    refine Ops_nil ?_
    refine W_cond rfl (fun h1 => ?_) (fun h1 => ?_)
    · try simp only [bs] at h1
      refine W_skip ?_
      refine W_seq ?_
      refine W_block ?_
      have hkl : List.length (kp l i) ≤ l.length := kpI_len (l := l) (k := i) l.length
      refine W_region ?_
      refine Ops_p (p_move rfl) (lt_dec rfl) ?_
      refine Ops_p (p_move rfl) (lt_dec rfl) ?_
      refine Ops_p (p_move rfl) (lt_dec rfl) ?_
      refine Ops_p (p_move rfl) (lt_dec rfl) ?_
      refine Ops_x rfl (x_callRow en_spec_l04Keeping rfl (w_spec_l04Keeping (by omega) (by omega)) (Vw.rd m1).v rfl (lt_dec rfl) fun b17_1 cb17_1 => ?_)
      refine Ops_p (p_move rfl) (lt_dec rfl) ?_
      refine Ops_x rfl (x_callT en_spec_l04Orbit rfl (w_spec_l04Orbit (ha := rfl) (l := kp l i) (x0 := i) (kp_ok hp i) (by omega) (by omega)) HpDels.nil (Vw.rdW m0 rfl) (fun _ => HpDels.nil) (lt_dec rfl) fun x19_1 hx1 => ?_)
      refine Ops_x rfl (x_buildSlice rfl rfl rfl rfl rfl rfl rfl rfl (Nat.le_of_ble_eq_true rfl) (lt_dec rfl) fun b20_1 => ?_)
      refine Ops_x rfl (x_append rfl rfl rfl rfl rfl rfl (fun _ _ => ((HpRep.head).tail).tail) (.inl ⟨m0, rfl⟩) rfl rfl rfl (by first | omega | (dsimp only; omega)) rfl (by first | omega | (dsimp only; omega)) (by first | omega | (dsimp only; omega)) (lt_dec rfl) fun b21_1 cb21_1 => ?_)
      refine Ops_p (p_assign rfl) (lt_dec rfl) ?_
      refine Ops_nil ?_
      refine W_region ?_
      refine Ops_p (p_move rfl) (lt_dec rfl) ?_
      refine Ops_p (p_add rfl rfl (by exact ⟨(by first | omega | (dsimp only; omega)), (by first | omega | (dsimp only; omega))⟩)) (lt_dec rfl) ?_
      refine Ops_p (p_assign rfl) (lt_dec rfl) ?_
      refine Ops_nil ?_
      refine Exists.intro (i + 1, b21_1, cb21_1, D ++ [((i : Int), (x19_1.1, x19_1.2))]) (And.intro ?_ (And.intro ?_ ?_))
      · exact ⟨by show _ ≤ _; omega, by show List.length (D ++ [_]) = _; rw [List.length_append, hDl]; rfl, lv_snoc hDl hD ⟨rfl, hx1.1, hx1.2⟩⟩
      · show _ < _; omega
      · exact Wk.intro (.cons rfl (by first | rfl | exact veq_int (by first | omega | (dsimp only; omega))) (.cons rfl (by first | rfl | exact veq_int (by first | omega | (dsimp only; omega))) (.cons rfl (veq_sl (by simp)) (.cons rfl (by first | rfl | exact veq_int (by first | omega | (dsimp only; omega))) .nil)))) (.drop (.drop (.keep rfl rfl (fun _ h => h) (.keep rfl rfl (fun _ h => h) .nil))))
    · try simp only [bs] at h1
      obtain rfl : i = n := (by omega)
      refine W_exit ?_
      refine W_seq ?_
      refine W_region ?_
      refine Ops_p (p_move rfl) (lt_dec rfl) ?_
      refine Ops_p (p_assign rfl) (lt_dec rfl) ?_
      refine Ops_nil ?_
      refine W_ret ?_
      refine Exists.intro _ (And.intro (.cons (.tmp rfl) .nil) (Exists.intro (slv bb (List.length D) cbb, D) (And.intro ?_ (And.intro ?_ (And.intro (.cons HpDel.head rfl (own_of_row rfl rfl) .nil) rfl)))))
      · exact ⟨hDl, hD⟩
      · rfl
end Go.Proofs.Ytjihhcjpbcmjaaa
end
section
namespace Go.Proofs.Ytjihhcjpbcmjaaa
open Go Gx
set_option linter.unusedVariables false
theorem en_spec_l01Back : Enters Try.prog 56 := enters_of Try.func56 (by kernel_rfl) (by kernel_rfl)
set_option maxRecDepth 100000 in
theorem w_spec_l01Back {p : Nat → Fin 256} {n : Int} (hP : IsPerm p n) : CR Try.prog 56 (vals [.arr8 10 p, .int .i64 n]) [] (.arr8 10 (backT p n.toNat)) := by
  refine CR_intro (rs := [.cell 4 33]) tt tok Try.func56 rfl rfl rfl (by first | rfl | assumption) fun w => ?_
  refine W_seq ?_
  refine W_region ?_
  refine Ops_x rfl (x_box rfl rfl (lt_dec rfl) fun b2_1 => ?_)
  refine Ops_x rfl (x_alloc rfl (lt_dec rfl) fun b4_1 => ?_)
  refine Ops_nil ?_
  refine W_seq ?_
  refine W_region ?_
  refine Ops_p (p_build_arr rfl rfl rfl rfl (by first | exact True.intro | trivial | (first | omega | (dsimp only; omega)) | exact Fin.isLt _ | (dsimp only; omega))) (lt_dec rfl) ?_
  refine Ops_x rfl (x_alloc rfl (lt_dec rfl) fun b5_1 => ?_)
  refine Ops_x rfl (x_store rfl rfl rfl rfl rfl HpRep.head rfl (by first | trivial | (first | (first | omega | (dsimp only; omega)) | exact Fin.isLt _)) ?_)
  refine Ops_nil ?_
  refine W_seq ?_
  refine W_seq ?_
  refine W_region ?_
  refine Ops_p (p_assign rfl) (lt_dec rfl) ?_
  refine Ops_nil ?_
  refine W_block ?_
  refine W_loop (α := Nat) (fun i => ⟨[(0, .arr8 10 p), (1, .int .i64 n), (2, .ptr b2_1 0 none), (4, .ptr b4_1 0 none), (5, .ptr b5_1 0 none), (6, .int .i64 (i : Int)), (7, .arr8 10 fun _ => 0)], [.var b5_1 (.arr8 10 (backT p i)), .var b4_1 (.arr8 10 fun _ => 0), .var b2_1 (.arr8 10 p)]⟩) (fun i => i ≤ n.toNat) (fun i => n.toNat - i) 0 ?_ ?_ ?_
  · show _ ≤ _; omega
  · exact Wk.intro (.cons rfl (by first | rfl | exact veq_int (by first | omega | (dsimp only; omega))) (.cons rfl (by first | rfl | exact veq_int (by first | omega | (dsimp only; omega))) (.cons rfl (by first | rfl | exact veq_int (by first | omega | (dsimp only; omega))) (.cons rfl (by first | rfl | exact veq_int (by first | omega | (dsimp only; omega))) (.cons rfl (by first | rfl | exact veq_int (by first | omega | (dsimp only; omega))) (.cons rfl (by first | rfl | exact veq_int (by first | omega | (dsimp only; omega))) (.cons rfl (by first | rfl | exact veq_int (by first | omega | (dsimp only; omega))) .nil))))))) (.keep rfl rfl (imp_var (by rfl) rfl) (.keep rfl rfl (fun _ h => h) (.keep rfl rfl (fun _ h => h) .nil)))
  · rintro i hR
    refine W_seq ?_
    refine W_seq ?_
    refine W_region ?_
    refine Ops_p (p_move rfl) (lt_dec rfl) ?_
    refine Ops_p (p_move rfl) (lt_dec rfl) ?_
    refine Ops_p (p_lss rfl rfl) (lt_dec rfl) ?_
    refine Ops_nil ?_
    refine W_cond rfl (fun h1 => ?_) (fun h1 => ?_)
    · try simp only [bs] at h1
      have hpi := perm_lt hP h1
      refine W_skip ?_
      refine W_seq ?_
      refine W_block ?_
      refine W_region ?_
      refine Ops_p (p_move rfl) (lt_dec rfl) ?_
      first | refine Ops_p (p_ix1 _ rfl rfl rfl rfl rfl rfl (by first | (first | omega | (dsimp only; omega)) | exact Fin.isLt _)) (lt_dec rfl) ?_ | refine Ops_p (p_ix1s _ rfl rfl rfl rfl rfl rfl (by first | (first | omega | (dsimp only; omega)) | exact Fin.isLt _)) (lt_dec rfl) ?_
      refine Ops_q (q_load rfl rfl m2 rfl (by first | exact True.intro | trivial | (first | omega | (dsimp only; omega)) | exact Fin.isLt _ | (dsimp only; omega))) (lt_dec rfl) ?_
      refine Ops_p (p_move rfl) (lt_dec rfl) ?_
      refine Ops_p (p_conv rfl rfl rfl (by exact ⟨(by first | omega | (dsimp only; omega)), (by first | omega | (dsimp only; omega))⟩)) (lt_dec rfl) ?_
      first | refine Ops_p (p_ix1 _ rfl rfl rfl rfl rfl rfl (by first | (first | omega | (dsimp only; omega)) | exact Fin.isLt _)) (lt_dec rfl) ?_ | refine Ops_p (p_ix1s _ rfl rfl rfl rfl rfl rfl (by first | (first | omega | (dsimp only; omega)) | exact Fin.isLt _)) (lt_dec rfl) ?_
      refine Ops_x rfl (x_store rfl rfl rfl rfl rfl HpRep.head rfl (by first | trivial | (first | (first | omega | (dsimp only; omega)) | exact Fin.isLt _)) ?_)
      refine Ops_nil ?_
      refine W_region ?_
      refine Ops_p (p_move rfl) (lt_dec rfl) ?_
      refine Ops_p (p_add rfl rfl (by exact ⟨(by first | omega | (dsimp only; omega)), (by first | omega | (dsimp only; omega))⟩)) (lt_dec rfl) ?_
      refine Ops_p (p_assign rfl) (lt_dec rfl) ?_
      refine Ops_nil ?_
      refine Exists.intro (i + 1) (And.intro ?_ (And.intro ?_ ?_))
      · show _ ≤ _; omega
      · show _ < _; omega
      · exact Wk.intro (.cons rfl (by first | rfl | exact veq_int (by first | omega | (dsimp only; omega))) (.cons rfl (by first | rfl | exact veq_int (by first | omega | (dsimp only; omega))) (.cons rfl (by first | rfl | exact veq_int (by first | omega | (dsimp only; omega))) (.cons rfl (by first | rfl | exact veq_int (by first | omega | (dsimp only; omega))) (.cons rfl (by first | rfl | exact veq_int (by first | omega | (dsimp only; omega))) (.cons rfl (by first | rfl | exact veq_int (by first | omega | (dsimp only; omega))) (.cons rfl (by first | rfl | exact veq_int (by first | omega | (dsimp only; omega))) .nil))))))) (.keep rfl rfl (imp_var (by exact ceq_arr8 fun j hj => rfl) rfl) (.keep rfl rfl (fun _ h => h) (.keep rfl rfl (fun _ h => h) .nil)))
    · try simp only [bs] at h1
      refine W_exit ?_
      refine W_seq ?_
      refine W_region ?_
      refine Ops_q (q_load rfl rfl m0 rfl (by first | exact True.intro | trivial | (first | omega | (dsimp only; omega)) | exact Fin.isLt _ | (dsimp only; omega))) (lt_dec rfl) ?_
      refine Ops_x rfl (x_store rfl rfl rfl rfl rfl ((HpRep.head).tail) rfl (by first | trivial | (first | (first | omega | (dsimp only; omega)) | exact Fin.isLt _)) ?_)
      refine Ops_nil ?_
      refine W_ret ?_
      refine Exists.intro _ (And.intro (.cons (.cell rfl rfl m1 rfl trivial) .nil) ?_)
      first | rfl | (refine veq_bool ?_; simp_all; done) | (refine veq_bool ?_; simp; omega) | (refine veq_bool ?_; rw [eq_comm, decide_eq_false_iff_not]; omega) | (refine veq_bool ?_; rw [eq_comm, decide_eq_true_iff]; omega) | (refine veq_int ?_; omega) | (refine veq_arr8 fun j hj => ?_; (try dsimp only); first | (simp; done) | (simp; omega) | ((repeat' split) <;> first | rfl | (exfalso; omega) | (congr 1; omega) | (simp_all; done))) | (obtain rfl : i = n.toNat := (by omega); rfl)
end Go.Proofs.Ytjihhcjpbcmjaaa
end
section
namespace Go.Proofs.Ytjihhcjpbcmjaaa
open Go Gx
set_option linter.unusedVariables false
theorem en_spec_l04Sift : Enters Try.prog 35 := enters_of Try.func35 (by kernel_rfl) (by kernel_rfl)
set_option maxRecDepth 100000 in
theorem w_spec_l04Sift {a : Value} {ha : a.oneCell' = true} {C : List Lv} {l : List (Nat → Fin 256)} {n : Nat} {p : Nat → Fin 256} (hC : ChOk l n C) (hp : IsPerm p (n : Int)) : CR Try.prog 35 (vals [.raw a ha, .arr8 10 p, .int .i64 (n : Int)]) [rd a (.levs C)] (.tup [.arr8 10 (Prod.fst (sfP C n n 0 p)), .int .i64 ((Prod.snd (sfP C n n 0 p) : Nat) : Int)]) := by
  refine CR_intro (rs := [.cell 6 33, .tmp 7]) tt tok Try.func35 rfl rfl rfl (by first | rfl | assumption) fun w => ?_
  have hn := hp.2.1
  have hCl := hC.len
  refine W_seq ?_
  refine W_region ?_
  refine Ops_x rfl (x_box rfl rfl (lt_dec rfl) fun b4_1 => ?_)
  refine Ops_x rfl (x_alloc rfl (lt_dec rfl) fun b6_1 => ?_)
  refine Ops_p (p_assign rfl) (lt_dec rfl) ?_
  refine Ops_nil ?_
  refine W_seq ?_
  refine W_seq ?_
  refine W_region ?_
  refine Ops_p (p_assign rfl) (lt_dec rfl) ?_
  refine Ops_nil ?_
  refine W_block ?_
  refine W_loop (α := Nat × (Nat → Fin 256)) (fun zz0 => ⟨[(0, .raw a ha), (1, .arr8 10 p), (2, .int .i64 (n : Int)), (4, .ptr b4_1 0 none), (6, .ptr b6_1 0 none), (8, .int .i64 ((zz0.1) : Int))], [.var b6_1 (.arr8 10 fun _ => 0), .var b4_1 (.arr8 10 (zz0.2)), rd a (.levs C)]⟩) (fun zz0 => (zz0.1) ≤ n ∧ IsPerm (zz0.2) (n : Int) ∧ sfP C n n 0 p = sfP C n (n - (zz0.1)) (zz0.1) (zz0.2)) (fun zz0 => n - (zz0.1)) (0, p) ?_ ?_ ?_
  · exact ⟨Nat.zero_le _, hp, rfl⟩
  · exact Wk.intro (.cons rfl (by first | rfl | exact veq_int (by first | omega | (dsimp only; omega))) (.cons rfl (by first | rfl | exact veq_int (by first | omega | (dsimp only; omega))) (.cons rfl (by first | rfl | exact veq_int (by first | omega | (dsimp only; omega))) (.cons rfl (by first | rfl | exact veq_int (by first | omega | (dsimp only; omega))) (.cons rfl (by first | rfl | exact veq_int (by first | omega | (dsimp only; omega))) (.cons rfl (by first | rfl | exact veq_int (by first | omega | (dsimp only; omega))) .nil)))))) (.keep rfl rfl (fun _ h => h) (.keep rfl rfl (fun _ h => h) (.keep rfl rfl (fun _ h => h) .nil)))
  · rintro ⟨k, w⟩ ⟨hk, hW, hS⟩
    try dsimp only at *
    refine W_seq ?_
    refine W_seq ?_
    refine W_region ?_
    refine Ops_p (p_move rfl) (lt_dec rfl) ?_
    refine Ops_p (p_move rfl) (lt_dec rfl) ?_
    refine Ops_q ((q_lenR rfl rfl rfl (Rds.rd m2)).eq (d' := .int .i64 ((C.length : Nat) : Int)) rfl) (lt_dec rfl) ?_
    refine Ops_p (p_lss rfl rfl) (lt_dec rfl) ?_
    refine Ops_nil ?_
    refine W_cond rfl (fun h1 => ?_) (fun h1 => ?_)
    · try simp only [bs] at h1
      refine W_skip ?_
      refine W_seq ?_
      refine W_block ?_
      refine W_seq ?_
      have hwl := (perm_lt hW (i := k) (by omega)).1
      have hbk := (hC.lv k (by omega)).base
      refine W_region ?_
      refine Ops_p (p_move rfl) (lt_dec rfl) ?_
      refine Ops_p (p_move rfl) (lt_dec rfl) ?_
      refine Ops_q (q_ixLev k rfl rfl rfl rfl (Rds.rd m2) rfl rfl (by omega)) (lt_dec rfl) ?_
      refine Ops_q (q_fieldR rfl rfl rfl rfl rfl rfl (Rds.rd m2) (by show 0 < List.length _; omega)) (lt_dec rfl) ?_
      refine Ops_q ((q_levBase (k := k) rfl rfl (Rds.rd m2) (by omega) (by omega) rfl rfl).eq (d' := .int .i64 (k : Int)) (veq_int hbk)) (lt_dec rfl) ?_
      first | refine Ops_p (p_ix1 k rfl rfl rfl rfl rfl rfl (by first | (first | omega | (dsimp only; omega)) | exact Fin.isLt _)) (lt_dec rfl) ?_ | refine Ops_p (p_ix1s k rfl rfl rfl rfl rfl rfl (by first | (first | omega | (dsimp only; omega)) | exact Fin.isLt _)) (lt_dec rfl) ?_
      refine Ops_q (q_load rfl rfl m1 rfl (by first | exact True.intro | trivial | (first | omega | (dsimp only; omega)) | exact Fin.isLt _ | (dsimp only; omega))) (lt_dec rfl) ?_
      refine Ops_p (p_assign rfl) (lt_dec rfl) ?_
      refine Ops_nil ?_
      refine W_seq ?_
      refine W_seq ?_
      refine W_region ?_
      refine Ops_p (p_move rfl) (lt_dec rfl) ?_
      refine Ops_p (p_move rfl) (lt_dec rfl) ?_
      refine Ops_p (p_move rfl) (lt_dec rfl) ?_
      refine Ops_q (q_ixLev k rfl rfl rfl rfl (Rds.rd m2) rfl rfl (by omega)) (lt_dec rfl) ?_
      refine Ops_q (q_fieldR rfl rfl rfl rfl rfl rfl (Rds.rd m2) (by show 0 < List.length _; omega)) (lt_dec rfl) ?_
      refine Ops_q (q_ixAN 1 (w k).val rfl rfl rfl rfl (Rds.rd m2) (by show 0 < List.length _; omega) rfl rfl (by omega)) (lt_dec rfl) ?_
      refine Ops_q (q_levHas (k := k) (y := (w k).val) rfl rfl (Rds.rd m2) (by omega) (by omega) (by omega) rfl rfl) (lt_dec rfl) ?_
      refine Ops_p (p_not rfl) (lt_dec rfl) ?_
      refine Ops_nil ?_
      refine W_cond rfl (fun h2 => ?_) (fun h2 => ?_)
      · try simp only [bs] at h2
        have hh : (C.getD k lv0).2.1 (w k).val = false := (by simpa using h2)
        refine W_seq ?_
        refine W_region ?_
        refine Ops_q (q_load rfl rfl m1 rfl (by first | exact True.intro | trivial | (first | omega | (dsimp only; omega)) | exact Fin.isLt _ | (dsimp only; omega))) (lt_dec rfl) ?_
        refine Ops_p (p_move rfl) (lt_dec rfl) ?_
        refine Ops_x rfl (x_store rfl rfl rfl rfl rfl HpRep.head rfl (by first | trivial | (first | (first | omega | (dsimp only; omega)) | exact Fin.isLt _)) ?_)
        refine Ops_p (p_assign rfl) (lt_dec rfl) ?_
        refine Ops_nil ?_
        refine W_ret ?_
        refine Exists.intro _ (And.intro (.cons (.cell rfl rfl m0 rfl trivial) (.cons (.tmp rfl) .nil)) ?_)
        first | rfl | (refine veq_bool ?_; simp_all; done) | (refine veq_bool ?_; simp; omega) | (refine veq_bool ?_; rw [eq_comm, decide_eq_false_iff_not]; omega) | (refine veq_bool ?_; rw [eq_comm, decide_eq_true_iff]; omega) | (refine veq_int ?_; omega) | (refine veq_arr8 fun j hj => ?_; (try dsimp only); first | (simp; done) | (simp; omega) | ((repeat' split) <;> first | rfl | (exfalso; omega) | (congr 1; omega) | (simp_all; done))) | (exact veq_tup2 (by rw [hS, sfP_f (by omega) hh]) (by rw [hS, sfP_f (by omega) hh])) | (exact veq_tup2 (by rw [hS, sfP_end]) (by rw [hS, sfP_end, hCl]))
      · try simp only [bs] at h2
        have hh : (C.getD k lv0).2.1 (w k).val = true := (by simpa using h2)
        refine W_skip ?_
        refine W_draw (by kernel_rfl) ?_
        show RA _ _ 13 _ _ _
        refine RA_quiet (g := 1) [0, 1, 2, 3, 4, 5, 6, 7, 8, 9, 10, 11] (by kernel_rfl) (by kernel_rfl) (by kernel_rfl) (by kernel_rfl) ?_
        refine WQ_cons rfl rfl rfl ((q_load rfl rfl m1 rfl (by first | exact True.intro | trivial | (first | omega | (dsimp only; omega)) | exact Fin.isLt _ | (dsimp only; omega)))) (lt_dec rfl) ?_
        refine WQ_cons rfl rfl rfl ((p_move rfl).q) (lt_dec rfl) ?_
        refine WQ_cons rfl rfl rfl ((p_move rfl).q) (lt_dec rfl) ?_
        refine WQ_cons rfl rfl rfl ((p_move rfl).q) (lt_dec rfl) ?_
        refine WQ_cons rfl rfl rfl ((q_ixLev k rfl rfl rfl rfl (Rds.rd m2) rfl rfl (by omega))) (lt_dec rfl) ?_
        refine WQ_cons rfl rfl rfl ((q_fieldR rfl rfl rfl rfl rfl rfl (Rds.rd m2) (by show 0 < List.length _; omega))) (lt_dec rfl) ?_
        refine WQ_cons rfl rfl rfl ((q_ixAN 10 (w k).val rfl rfl rfl rfl (Rds.rd m2) (by show 0 < List.length _; omega) rfl rfl (by omega))) (lt_dec rfl) ?_
        refine WQ_cons rfl rfl rfl ((q_levRow (k := k) (y := (w k).val) rfl rfl (Rds.rd m2) (by omega) (by omega) (by omega) rfl rfl)) (lt_dec rfl) ?_
        refine WQ_cons rfl rfl rfl ((p_move rfl).q) (lt_dec rfl) ?_
        refine WQ_cons rfl rfl rfl ((q_call en_spec_l01Back rfl (w_spec_l01Back (hC.perm (by omega) (by omega) hh)) (View.none _))) (lt_dec rfl) ?_
        refine WQ_cons rfl rfl rfl ((p_move rfl).q) (lt_dec rfl) ?_
        refine WQ_cons rfl rfl rfl ((q_call en_spec_l01Then rfl (w_spec_l01Then hW) (View.none _))) (lt_dec rfl) ?_
        refine WQ_nil ?_
        refine RA_one 12 rfl rfl (by kernel_rfl) (x_store rfl rfl rfl rfl rfl ((HpRep.head).tail) rfl (by first | trivial | (first | (first | omega | (dsimp only; omega)) | exact Fin.isLt _)) ?_)
        refine RA_done (by kernel_rfl) ?_
        refine W_region ?_
        refine Ops_p (p_move rfl) (lt_dec rfl) ?_
        refine Ops_p (p_add rfl rfl (by exact ⟨(by first | omega | (dsimp only; omega)), (by first | omega | (dsimp only; omega))⟩)) (lt_dec rfl) ?_
        refine Ops_p (p_assign rfl) (lt_dec rfl) ?_
        refine Ops_nil ?_
        refine Exists.intro (k + 1, rstC C n k w) (And.intro ?_ (And.intro ?_ ?_))
        · exact ⟨by show _ ≤ _; omega, rst_perm hC hW (by omega) hh, hS.trans (sfP_t (by omega) hh)⟩
        · show _ < _; omega
        · exact Wk.intro (.cons rfl (by first | rfl | exact veq_int (by first | omega | (dsimp only; omega))) (.cons rfl (by first | rfl | exact veq_int (by first | omega | (dsimp only; omega))) (.cons rfl (by first | rfl | exact veq_int (by first | omega | (dsimp only; omega))) (.cons rfl (by first | rfl | exact veq_int (by first | omega | (dsimp only; omega))) (.cons rfl (by first | rfl | exact veq_int (by first | omega | (dsimp only; omega))) (.cons rfl (by first | rfl | exact veq_int (by first | omega | (dsimp only; omega))) .nil)))))) (.keep rfl rfl (fun _ h => h) (.keep rfl rfl (imp_var rfl rfl) (.keep rfl rfl (fun _ h => h) .nil)))
    · try simp only [bs] at h1
      obtain rfl : k = n := (by omega)
      refine W_exit ?_
      refine W_seq ?_
      refine W_region ?_
      refine Ops_q (q_load rfl rfl m1 rfl (by first | exact True.intro | trivial | (first | omega | (dsimp only; omega)) | exact Fin.isLt _ | (dsimp only; omega))) (lt_dec rfl) ?_
      refine Ops_p (p_move rfl) (lt_dec rfl) ?_
      refine Ops_q ((q_lenR rfl rfl rfl (Rds.rd m2)).eq (d' := .int .i64 ((C.length : Nat) : Int)) rfl) (lt_dec rfl) ?_
      refine Ops_x rfl (x_store rfl rfl rfl rfl rfl HpRep.head rfl (by first | trivial | (first | (first | omega | (dsimp only; omega)) | exact Fin.isLt _)) ?_)
      refine Ops_p (p_assign rfl) (lt_dec rfl) ?_
      refine Ops_nil ?_
      refine W_ret ?_
      refine Exists.intro _ (And.intro (.cons (.cell rfl rfl m0 rfl trivial) (.cons (.tmp rfl) .nil)) ?_)
      first | rfl | (refine veq_bool ?_; simp_all; done) | (refine veq_bool ?_; simp; omega) | (refine veq_bool ?_; rw [eq_comm, decide_eq_false_iff_not]; omega) | (refine veq_bool ?_; rw [eq_comm, decide_eq_true_iff]; omega) | (refine veq_int ?_; omega) | (refine veq_arr8 fun j hj => ?_; (try dsimp only); first | (simp; done) | (simp; omega) | ((repeat' split) <;> first | rfl | (exfalso; omega) | (congr 1; omega) | (simp_all; done))) | (exact veq_tup2 (by rw [hS, sfP_f (by omega) hh]) (by rw [hS, sfP_f (by omega) hh])) | (exact veq_tup2 (by rw [hS, sfP_end]) (by rw [hS, sfP_end, hCl]))
end Go.Proofs.Ytjihhcjpbcmjaaa
end
section
namespace Go.Proofs.Ytjihhcjpbcmjaaa
open Go Gx
set_option linter.unusedVariables false
theorem en_spec_l04Missing : Enters Try.prog 58 := enters_of Try.func58 (by kernel_rfl) (by kernel_rfl)
set_option maxRecDepth 100000 in
set_option maxHeartbeats 2000000 in
theorem w_spec_l04Missing {a : Value} {ha : a.oneCell' = true} {C : List Lv} {l : List (Nat → Fin 256)} {a2 : Value} {ha2 : a2.oneCell' = true} {n : Nat} (hC : ChOk l n C) (hp : PsOk l (n : Int)) (hl : l.length ≤ 1000) : CT (X := (Nat → Fin 256) × Bool) Try.prog 58 (vals [.raw a ha, .raw a2 ha2, .int .i64 (n : Int)]) [] [rd a (.levs C), rd a2 (.arrs 10 l)] (fun x => (Prod.snd x = false → ∀ j, j < n → ClC n l C j) ∧ (Prod.snd x = true → Miss l n C (Prod.fst x))) (fun x => .tup [.arr8 10 (Prod.fst x), .bool (Prod.snd x)]) (fun x => []) := by
  refine CT_intro (rs := [.cell 6 33, .tmp 7]) tt tok Try.func58 rfl rfl rfl (by first | rfl | assumption) fun w => ?_
  show W _ _ _ ⟨tmOf 0 [.raw a ha, .raw a2 ha2, .int .i64 (n : Int)], [rd a (.levs C), rd a2 (.arrs 10 l)]⟩
  have hn := hp.1
  have hCl := hC.len
  refine W_seq ?_
  refine W_region ?_
  refine Ops_x rfl (x_alloc rfl (lt_dec rfl) fun b6_1 => ?_)
  refine Ops_p (p_assign rfl) (lt_dec rfl) ?_
  refine Ops_nil ?_
  refine W_seq ?_
  refine W_seq ?_
  refine W_region ?_
  refine Ops_p (p_move rfl) (lt_dec rfl) ?_
  refine Ops_p (p_sub rfl rfl (by exact ⟨(by first | omega | (dsimp only; omega)), (by first | omega | (dsimp only; omega))⟩)) (lt_dec rfl) ?_
  refine Ops_p (p_assign rfl) (lt_dec rfl) ?_
  refine Ops_nil ?_
  refine W_block ?_
  refine W_loop (α := Nat) (fun b => ⟨[(0, .raw a ha), (1, .raw a2 ha2), (2, .int .i64 (n : Int)), (6, .ptr b6_1 0 none), (7, .bool false), (8, .int .i64 ((b : Int) - 1))], [.var b6_1 (.arr8 10 fun _ => 0), rd a (.levs C), rd a2 (.arrs 10 l)]⟩) (fun b => b ≤ n ∧ ∀ j, b ≤ j → j < n → ClC n l C j) (fun b => b) n ?_ ?_ ?_
  · exact ⟨Nat.le_refl _, fun j h1 h2 => by omega⟩
  · exact Wk.intro (.cons rfl (by first | rfl | exact veq_int (by first | omega | (dsimp only; omega))) (.cons rfl (by first | rfl | exact veq_int (by first | omega | (dsimp only; omega))) (.cons rfl (by first | rfl | exact veq_int (by first | omega | (dsimp only; omega))) (.cons rfl (by first | rfl | exact veq_int (by first | omega | (dsimp only; omega))) (.cons rfl (by first | rfl | exact veq_int (by first | omega | (dsimp only; omega))) (.cons rfl (by first | rfl | exact veq_int (by first | omega | (dsimp only; omega))) .nil)))))) (.keep rfl rfl (fun _ h => h) (.keep rfl rfl (fun _ h => h) (.keep rfl rfl (fun _ h => h) .nil)))
  · rintro b ⟨hb, hR⟩
    refine W_seq ?_
    refine W_seq ?_
    refine W_region ?_
    refine Ops_p (p_move rfl) (lt_dec rfl) ?_
    refine Ops_p (p_geq rfl rfl) (lt_dec rfl) ?_
    refine Ops_nil ?_
    refine W_cond rfl (fun h1 => ?_) (fun h1 => ?_)
    · try simp only [bs] at h1
      obtain ⟨k, hbk⟩ : ∃ k, b = k + 1 := ⟨b - 1, by omega⟩; have hkl : List.length (kp l k) ≤ l.length := kpI_len (l := l) (k := k) l.length
      refine W_skip ?_
      refine W_seq ?_
      refine W_block ?_
      refine W_cutE (fun E s' => ∃ vb : Nat, ∃ rb : Nat, ∃ rc : Nat, (True) ∧ Wk E s' ⟨[(0, .raw a ha), (1, .raw a2 ha2), (2, .int .i64 (n : Int)), (6, .ptr b6_1 0 none), (7, .bool false), (8, .int .i64 ((b : Int) - 1)), (9, .ptr vb 0 none), (10, .sl rb 0 (List.length (kp l k)) rc)], [.var vb (.agg [.int .i64 (Prod.fst (List.getD C k lv0)), .barr 10 (Prod.fst (Prod.snd (List.getD C k lv0))), .arr8 100 (Prod.snd (Prod.snd (List.getD C k lv0)))]), .row rb rc 33 (.arrs 10 (kp l k)), .var b6_1 (.arr8 10 fun _ => 0), rd a (.levs C), rd a2 (.arrs 10 l)]⟩) ?_ ?_
      · refine W_draw (by kernel_rfl) ?_
        show RA _ _ 10 _ _ _
        first | refine RA_take 0 rfl rfl rfl (by kernel_rfl) (by kernel_rfl) (by kernel_rfl) (p_move rfl) (lt_dec rfl) ?_
        first | refine RA_take 1 rfl rfl rfl (by kernel_rfl) (by kernel_rfl) (by kernel_rfl) ((p_move rfl).eq (d' := .int .i64 (k : Int)) (veq_int (by omega))) (lt_dec rfl) ?_
        first | refine RA_take 4 rfl rfl rfl (by kernel_rfl) (by kernel_rfl) (by kernel_rfl) (p_move rfl) (lt_dec rfl) ?_
        first | refine RA_take 5 rfl rfl rfl (by kernel_rfl) (by kernel_rfl) (by kernel_rfl) ((p_move rfl).eq (d' := .int .i64 (k : Int)) (veq_int (by omega))) (lt_dec rfl) ?_
        refine RA_three 2 6 7 rfl rfl rfl rfl rfl rfl (by kernel_rfl) ?_ ?_ ?_
        · refine Xt_of_Qt rfl (lt_dec rfl) ((q_ixLev k rfl rfl rfl rfl (Rds.rd m1) rfl rfl (by omega))) ?_
          refine RA_three 3 6 7 rfl rfl rfl rfl rfl rfl (by kernel_rfl) ?_ ?_ ?_
          · refine Xt_of_Qt rfl (lt_dec rfl) ((q_lev (k := k) rfl rfl (Rds.rd m1) rfl (by omega) rfl rfl)) ?_
            refine RA_two 6 7 rfl rfl rfl rfl (by kernel_rfl) ?_ ?_
            · refine x_callRow en_spec_l04Keeping rfl (w_spec_l04Keeping (by omega) (by omega)) (Vw.rd m2).v rfl (lt_dec rfl) fun b28_1 cb28_1 => ?_
              refine RA_one 7 rfl rfl (by kernel_rfl) (x_alloc rfl (lt_dec rfl) fun b9_1 => ?_)
              refine RA_one 8 rfl rfl (by kernel_rfl) (x_store rfl rfl rfl rfl rfl HpRep.head rfl (by first | trivial | (first | (first | omega | (dsimp only; omega)) | exact Fin.isLt _)) ?_)
              refine RA_quiet (g := 0) [9] (by kernel_rfl) (by kernel_rfl) (by kernel_rfl) (by kernel_rfl) ?_
              refine WQ_cons rfl rfl rfl ((p_assign rfl).q) (lt_dec rfl) ?_
              refine WQ_nil ?_
              refine RA_done (by kernel_rfl) ?_
              refine ⟨b9_1, b28_1, cb28_1, ?_, ?_⟩
              · trivial
              · exact Wk.intro (.cons rfl (by first | rfl | exact veq_int (by first | omega | (dsimp only; omega))) (.cons rfl (by first | rfl | exact veq_int (by first | omega | (dsimp only; omega))) (.cons rfl (by first | rfl | exact veq_int (by first | omega | (dsimp only; omega))) (.cons rfl (by first | rfl | exact veq_int (by first | omega | (dsimp only; omega))) (.cons rfl (by first | rfl | exact veq_int (by first | omega | (dsimp only; omega))) (.cons rfl (by first | rfl | exact veq_int (by first | omega | (dsimp only; omega))) (.cons rfl (by first | rfl | exact veq_int (by first | omega | (dsimp only; omega))) (.cons rfl (by first | rfl | exact veq_int (by first | omega | (dsimp only; omega))) .nil)))))))) (.keep rfl rfl (fun _ h => h) (.keep rfl rfl (fun _ h => h) (.keep rfl rfl (fun _ h => h) (.keep rfl rfl (fun _ h => h) (.keep rfl rfl (fun _ h => h) .nil)))))
            · refine x_alloc rfl (lt_dec rfl) fun b9_2 => ?_
              refine RA_one 6 rfl rfl (by kernel_rfl) (x_callRow en_spec_l04Keeping rfl (w_spec_l04Keeping (by omega) (by omega)) (Vw.rd m3).v rfl (lt_dec rfl) fun b28_2 cb28_2 => ?_)
              refine RA_one 8 rfl rfl (by kernel_rfl) (x_store rfl rfl rfl rfl rfl ((HpRep.head).tail) rfl (by first | trivial | (first | (first | omega | (dsimp only; omega)) | exact Fin.isLt _)) ?_)
              refine RA_quiet (g := 0) [9] (by kernel_rfl) (by kernel_rfl) (by kernel_rfl) (by kernel_rfl) ?_
              refine WQ_cons rfl rfl rfl ((p_assign rfl).q) (lt_dec rfl) ?_
              refine WQ_nil ?_
              refine RA_done (by kernel_rfl) ?_
              refine ⟨b9_2, b28_2, cb28_2, ?_, ?_⟩
              · trivial
              · exact Wk.pick (.cons rfl (by first | rfl | exact veq_int (by first | omega | (dsimp only; omega))) (.cons rfl (by first | rfl | exact veq_int (by first | omega | (dsimp only; omega))) (.cons rfl (by first | rfl | exact veq_int (by first | omega | (dsimp only; omega))) (.cons rfl (by first | rfl | exact veq_int (by first | omega | (dsimp only; omega))) (.cons rfl (by first | rfl | exact veq_int (by first | omega | (dsimp only; omega))) (.cons rfl (by first | rfl | exact veq_int (by first | omega | (dsimp only; omega))) (.cons rfl (by first | rfl | exact veq_int (by first | omega | (dsimp only; omega))) (.cons rfl (by first | rfl | exact veq_int (by first | omega | (dsimp only; omega))) .nil)))))))) (.cons (HpDel.head).tail rfl rfl (fun _ h => h) (.cons HpDel.head rfl rfl (fun _ h => h) (.cons HpDel.head rfl rfl (fun _ h => h) (.cons HpDel.head rfl rfl (fun _ h => h) (.cons HpDel.head rfl rfl (fun _ h => h) .nil)))))
          · refine x_callRow en_spec_l04Keeping rfl (w_spec_l04Keeping (by omega) (by omega)) (Vw.rd m2).v rfl (lt_dec rfl) fun b28_3 cb28_3 => ?_
            refine RA_quietA (g := 2) (hs := [3]) (ia := 7) rfl rfl (lt_dec rfl) (by kernel_rfl) ?_
            refine SQ_cons rfl rfl rfl ((q_lev (k := k) rfl rfl (Rds.rd m2) rfl (by omega) rfl rfl)) (lt_dec rfl) ?_
            refine SQ_nil ?_
            refine ⟨fun b9_3 => ?_, ?_⟩
            · refine RA_one 8 rfl rfl (by kernel_rfl) (x_store rfl rfl rfl rfl rfl HpRep.head rfl (by first | trivial | (first | (first | omega | (dsimp only; omega)) | exact Fin.isLt _)) ?_)
              refine RA_quiet (g := 0) [9] (by kernel_rfl) (by kernel_rfl) (by kernel_rfl) (by kernel_rfl) ?_
              refine WQ_cons rfl rfl rfl ((p_assign rfl).q) (lt_dec rfl) ?_
              refine WQ_nil ?_
              refine RA_done (by kernel_rfl) ?_
              refine ⟨b9_3, b28_3, cb28_3, ?_, ?_⟩
              · trivial
              · exact Wk.intro (.cons rfl (by first | rfl | exact veq_int (by first | omega | (dsimp only; omega))) (.cons rfl (by first | rfl | exact veq_int (by first | omega | (dsimp only; omega))) (.cons rfl (by first | rfl | exact veq_int (by first | omega | (dsimp only; omega))) (.cons rfl (by first | rfl | exact veq_int (by first | omega | (dsimp only; omega))) (.cons rfl (by first | rfl | exact veq_int (by first | omega | (dsimp only; omega))) (.cons rfl (by first | rfl | exact veq_int (by first | omega | (dsimp only; omega))) (.cons rfl (by first | rfl | exact veq_int (by first | omega | (dsimp only; omega))) (.cons rfl (by first | rfl | exact veq_int (by first | omega | (dsimp only; omega))) .nil)))))))) (.keep rfl rfl (fun _ h => h) (.keep rfl rfl (fun _ h => h) (.keep rfl rfl (fun _ h => h) (.keep rfl rfl (fun _ h => h) (.keep rfl rfl (fun _ h => h) .nil)))))
            · refine RA_one 7 rfl rfl (by kernel_rfl) (x_alloc rfl (lt_dec rfl) fun b9_4 => ?_)
              refine RA_one 8 rfl rfl (by kernel_rfl) (x_store rfl rfl rfl rfl rfl HpRep.head rfl (by first | trivial | (first | (first | omega | (dsimp only; omega)) | exact Fin.isLt _)) ?_)
              refine RA_quiet (g := 0) [9] (by kernel_rfl) (by kernel_rfl) (by kernel_rfl) (by kernel_rfl) ?_
              refine WQ_cons rfl rfl rfl ((p_assign rfl).q) (lt_dec rfl) ?_
              refine WQ_nil ?_
              refine RA_done (by kernel_rfl) ?_
              refine ⟨b9_4, b28_3, cb28_3, ?_, ?_⟩
              · trivial
              · exact Wk.intro (.cons rfl (by first | rfl | exact veq_int (by first | omega | (dsimp only; omega))) (.cons rfl (by first | rfl | exact veq_int (by first | omega | (dsimp only; omega))) (.cons rfl (by first | rfl | exact veq_int (by first | omega | (dsimp only; omega))) (.cons rfl (by first | rfl | exact veq_int (by first | omega | (dsimp only; omega))) (.cons rfl (by first | rfl | exact veq_int (by first | omega | (dsimp only; omega))) (.cons rfl (by first | rfl | exact veq_int (by first | omega | (dsimp only; omega))) (.cons rfl (by first | rfl | exact veq_int (by first | omega | (dsimp only; omega))) (.cons rfl (by first | rfl | exact veq_int (by first | omega | (dsimp only; omega))) .nil)))))))) (.keep rfl rfl (fun _ h => h) (.keep rfl rfl (fun _ h => h) (.keep rfl rfl (fun _ h => h) (.keep rfl rfl (fun _ h => h) (.keep rfl rfl (fun _ h => h) .nil)))))
          · refine x_alloc rfl (lt_dec rfl) fun b9_5 => ?_
            refine RA_two 3 6 rfl rfl rfl rfl (by kernel_rfl) ?_ ?_
            · refine Xt_of_Qt rfl (lt_dec rfl) ((q_lev (k := k) rfl rfl (Rds.rd m2) rfl (by omega) rfl rfl)) ?_
              refine RA_one 6 rfl rfl (by kernel_rfl) (x_callRow en_spec_l04Keeping rfl (w_spec_l04Keeping (by omega) (by omega)) (Vw.rd m3).v rfl (lt_dec rfl) fun b28_4 cb28_4 => ?_)
              refine RA_one 8 rfl rfl (by kernel_rfl) (x_store rfl rfl rfl rfl rfl ((HpRep.head).tail) rfl (by first | trivial | (first | (first | omega | (dsimp only; omega)) | exact Fin.isLt _)) ?_)
              refine RA_quiet (g := 0) [9] (by kernel_rfl) (by kernel_rfl) (by kernel_rfl) (by kernel_rfl) ?_
              refine WQ_cons rfl rfl rfl ((p_assign rfl).q) (lt_dec rfl) ?_
              refine WQ_nil ?_
              refine RA_done (by kernel_rfl) ?_
              refine ⟨b9_5, b28_4, cb28_4, ?_, ?_⟩
              · trivial
              · exact Wk.pick (.cons rfl (by first | rfl | exact veq_int (by first | omega | (dsimp only; omega))) (.cons rfl (by first | rfl | exact veq_int (by first | omega | (dsimp only; omega))) (.cons rfl (by first | rfl | exact veq_int (by first | omega | (dsimp only; omega))) (.cons rfl (by first | rfl | exact veq_int (by first | omega | (dsimp only; omega))) (.cons rfl (by first | rfl | exact veq_int (by first | omega | (dsimp only; omega))) (.cons rfl (by first | rfl | exact veq_int (by first | omega | (dsimp only; omega))) (.cons rfl (by first | rfl | exact veq_int (by first | omega | (dsimp only; omega))) (.cons rfl (by first | rfl | exact veq_int (by first | omega | (dsimp only; omega))) .nil)))))))) (.cons (HpDel.head).tail rfl rfl (fun _ h => h) (.cons HpDel.head rfl rfl (fun _ h => h) (.cons HpDel.head rfl rfl (fun _ h => h) (.cons HpDel.head rfl rfl (fun _ h => h) (.cons HpDel.head rfl rfl (fun _ h => h) .nil)))))
            · refine x_callRow en_spec_l04Keeping rfl (w_spec_l04Keeping (by omega) (by omega)) (Vw.rd m3).v rfl (lt_dec rfl) fun b28_5 cb28_5 => ?_
              refine RA_quiet (g := 2) [3] (by kernel_rfl) (by kernel_rfl) (by kernel_rfl) (by kernel_rfl) ?_
              refine WQ_cons rfl rfl rfl ((q_lev (k := k) rfl rfl (Rds.rd m3) rfl (by omega) rfl rfl)) (lt_dec rfl) ?_
              refine WQ_nil ?_
              refine RA_one 8 rfl rfl (by kernel_rfl) (x_store rfl rfl rfl rfl rfl ((HpRep.head).tail) rfl (by first | trivial | (first | (first | omega | (dsimp only; omega)) | exact Fin.isLt _)) ?_)
              refine RA_quiet (g := 0) [9] (by kernel_rfl) (by kernel_rfl) (by kernel_rfl) (by kernel_rfl) ?_
              refine WQ_cons rfl rfl rfl ((p_assign rfl).q) (lt_dec rfl) ?_
              refine WQ_nil ?_
              refine RA_done (by kernel_rfl) ?_
              refine ⟨b9_5, b28_5, cb28_5, ?_, ?_⟩
              · trivial
              · exact Wk.pick (.cons rfl (by first | rfl | exact veq_int (by first | omega | (dsimp only; omega))) (.cons rfl (by first | rfl | exact veq_int (by first | omega | (dsimp only; omega))) (.cons rfl (by first | rfl | exact veq_int (by first | omega | (dsimp only; omega))) (.cons rfl (by first | rfl | exact veq_int (by first | omega | (dsimp only; omega))) (.cons rfl (by first | rfl | exact veq_int (by first | omega | (dsimp only; omega))) (.cons rfl (by first | rfl | exact veq_int (by first | omega | (dsimp only; omega))) (.cons rfl (by first | rfl | exact veq_int (by first | omega | (dsimp only; omega))) (.cons rfl (by first | rfl | exact veq_int (by first | omega | (dsimp only; omega))) .nil)))))))) (.cons (HpDel.head).tail rfl rfl (fun _ h => h) (.cons HpDel.head rfl rfl (fun _ h => h) (.cons HpDel.head rfl rfl (fun _ h => h) (.cons HpDel.head rfl rfl (fun _ h => h) (.cons HpDel.head rfl rfl (fun _ h => h) .nil)))))
        · refine x_callRow en_spec_l04Keeping rfl (w_spec_l04Keeping (by omega) (by omega)) (Vw.rd m2).v rfl (lt_dec rfl) fun b28_6 cb28_6 => ?_
          refine RA_quietA (g := 2) (hs := [2, 3]) (ia := 7) rfl rfl (lt_dec rfl) (by kernel_rfl) ?_
          refine SQ_cons rfl rfl rfl ((q_ixLev k rfl rfl rfl rfl (Rds.rd m2) rfl rfl (by omega))) (lt_dec rfl) ?_
          refine SQ_cons rfl rfl rfl ((q_lev (k := k) rfl rfl (Rds.rd m2) rfl (by omega) rfl rfl)) (lt_dec rfl) ?_
          refine SQ_nil ?_
          refine ⟨fun b9_6 => ?_, ?_⟩
          · refine RA_one 8 rfl rfl (by kernel_rfl) (x_store rfl rfl rfl rfl rfl HpRep.head rfl (by first | trivial | (first | (first | omega | (dsimp only; omega)) | exact Fin.isLt _)) ?_)
            refine RA_quiet (g := 0) [9] (by kernel_rfl) (by kernel_rfl) (by kernel_rfl) (by kernel_rfl) ?_
            refine WQ_cons rfl rfl rfl ((p_assign rfl).q) (lt_dec rfl) ?_
            refine WQ_nil ?_
            refine RA_done (by kernel_rfl) ?_
            refine ⟨b9_6, b28_6, cb28_6, ?_, ?_⟩
            · trivial
            · exact Wk.intro (.cons rfl (by first | rfl | exact veq_int (by first | omega | (dsimp only; omega))) (.cons rfl (by first | rfl | exact veq_int (by first | omega | (dsimp only; omega))) (.cons rfl (by first | rfl | exact veq_int (by first | omega | (dsimp only; omega))) (.cons rfl (by first | rfl | exact veq_int (by first | omega | (dsimp only; omega))) (.cons rfl (by first | rfl | exact veq_int (by first | omega | (dsimp only; omega))) (.cons rfl (by first | rfl | exact veq_int (by first | omega | (dsimp only; omega))) (.cons rfl (by first | rfl | exact veq_int (by first | omega | (dsimp only; omega))) (.cons rfl (by first | rfl | exact veq_int (by first | omega | (dsimp only; omega))) .nil)))))))) (.keep rfl rfl (fun _ h => h) (.keep rfl rfl (fun _ h => h) (.keep rfl rfl (fun _ h => h) (.keep rfl rfl (fun _ h => h) (.keep rfl rfl (fun _ h => h) .nil)))))
          · refine RA_one 7 rfl rfl (by kernel_rfl) (x_alloc rfl (lt_dec rfl) fun b9_7 => ?_)
            refine RA_one 8 rfl rfl (by kernel_rfl) (x_store rfl rfl rfl rfl rfl HpRep.head rfl (by first | trivial | (first | (first | omega | (dsimp only; omega)) | exact Fin.isLt _)) ?_)
            refine RA_quiet (g := 0) [9] (by kernel_rfl) (by kernel_rfl) (by kernel_rfl) (by kernel_rfl) ?_
            refine WQ_cons rfl rfl rfl ((p_assign rfl).q) (lt_dec rfl) ?_
            refine WQ_nil ?_
            refine RA_done (by kernel_rfl) ?_
            refine ⟨b9_7, b28_6, cb28_6, ?_, ?_⟩
            · trivial
            · exact Wk.intro (.cons rfl (by first | rfl | exact veq_int (by first | omega | (dsimp only; omega))) (.cons rfl (by first | rfl | exact veq_int (by first | omega | (dsimp only; omega))) (.cons rfl (by first | rfl | exact veq_int (by first | omega | (dsimp only; omega))) (.cons rfl (by first | rfl | exact veq_int (by first | omega | (dsimp only; omega))) (.cons rfl (by first | rfl | exact veq_int (by first | omega | (dsimp only; omega))) (.cons rfl (by first | rfl | exact veq_int (by first | omega | (dsimp only; omega))) (.cons rfl (by first | rfl | exact veq_int (by first | omega | (dsimp only; omega))) (.cons rfl (by first | rfl | exact veq_int (by first | omega | (dsimp only; omega))) .nil)))))))) (.keep rfl rfl (fun _ h => h) (.keep rfl rfl (fun _ h => h) (.keep rfl rfl (fun _ h => h) (.keep rfl rfl (fun _ h => h) (.keep rfl rfl (fun _ h => h) .nil)))))
        · refine x_alloc rfl (lt_dec rfl) fun b9_8 => ?_
          refine RA_two 2 6 rfl rfl rfl rfl (by kernel_rfl) ?_ ?_
          · refine Xt_of_Qt rfl (lt_dec rfl) ((q_ixLev k rfl rfl rfl rfl (Rds.rd m2) rfl rfl (by omega))) ?_
            refine RA_two 3 6 rfl rfl rfl rfl (by kernel_rfl) ?_ ?_
            · refine Xt_of_Qt rfl (lt_dec rfl) ((q_lev (k := k) rfl rfl (Rds.rd m2) rfl (by omega) rfl rfl)) ?_
              refine RA_one 6 rfl rfl (by kernel_rfl) (x_callRow en_spec_l04Keeping rfl (w_spec_l04Keeping (by omega) (by omega)) (Vw.rd m3).v rfl (lt_dec rfl) fun b28_7 cb28_7 => ?_)
              refine RA_one 8 rfl rfl (by kernel_rfl) (x_store rfl rfl rfl rfl rfl ((HpRep.head).tail) rfl (by first | trivial | (first | (first | omega | (dsimp only; omega)) | exact Fin.isLt _)) ?_)
              refine RA_quiet (g := 0) [9] (by kernel_rfl) (by kernel_rfl) (by kernel_rfl) (by kernel_rfl) ?_
              refine WQ_cons rfl rfl rfl ((p_assign rfl).q) (lt_dec rfl) ?_
              refine WQ_nil ?_
              refine RA_done (by kernel_rfl) ?_
              refine ⟨b9_8, b28_7, cb28_7, ?_, ?_⟩
              · trivial
              · exact Wk.pick (.cons rfl (by first | rfl | exact veq_int (by first | omega | (dsimp only; omega))) (.cons rfl (by first | rfl | exact veq_int (by first | omega | (dsimp only; omega))) (.cons rfl (by first | rfl | exact veq_int (by first | omega | (dsimp only; omega))) (.cons rfl (by first | rfl | exact veq_int (by first | omega | (dsimp only; omega))) (.cons rfl (by first | rfl | exact veq_int (by first | omega | (dsimp only; omega))) (.cons rfl (by first | rfl | exact veq_int (by first | omega | (dsimp only; omega))) (.cons rfl (by first | rfl | exact veq_int (by first | omega | (dsimp only; omega))) (.cons rfl (by first | rfl | exact veq_int (by first | omega | (dsimp only; omega))) .nil)))))))) (.cons (HpDel.head).tail rfl rfl (fun _ h => h) (.cons HpDel.head rfl rfl (fun _ h => h) (.cons HpDel.head rfl rfl (fun _ h => h) (.cons HpDel.head rfl rfl (fun _ h => h) (.cons HpDel.head rfl rfl (fun _ h => h) .nil)))))
            · refine x_callRow en_spec_l04Keeping rfl (w_spec_l04Keeping (by omega) (by omega)) (Vw.rd m3).v rfl (lt_dec rfl) fun b28_8 cb28_8 => ?_
              refine RA_quiet (g := 2) [3] (by kernel_rfl) (by kernel_rfl) (by kernel_rfl) (by kernel_rfl) ?_
              refine WQ_cons rfl rfl rfl ((q_lev (k := k) rfl rfl (Rds.rd m3) rfl (by omega) rfl rfl)) (lt_dec rfl) ?_
              refine WQ_nil ?_
              refine RA_one 8 rfl rfl (by kernel_rfl) (x_store rfl rfl rfl rfl rfl ((HpRep.head).tail) rfl (by first | trivial | (first | (first | omega | (dsimp only; omega)) | exact Fin.isLt _)) ?_)
              refine RA_quiet (g := 0) [9] (by kernel_rfl) (by kernel_rfl) (by kernel_rfl) (by kernel_rfl) ?_
              refine WQ_cons rfl rfl rfl ((p_assign rfl).q) (lt_dec rfl) ?_
              refine WQ_nil ?_
              refine RA_done (by kernel_rfl) ?_
              refine ⟨b9_8, b28_8, cb28_8, ?_, ?_⟩
              · trivial
              · exact Wk.pick (.cons rfl (by first | rfl | exact veq_int (by first | omega | (dsimp only; omega))) (.cons rfl (by first | rfl | exact veq_int (by first | omega | (dsimp only; omega))) (.cons rfl (by first | rfl | exact veq_int (by first | omega | (dsimp only; omega))) (.cons rfl (by first | rfl | exact veq_int (by first | omega | (dsimp only; omega))) (.cons rfl (by first | rfl | exact veq_int (by first | omega | (dsimp only; omega))) (.cons rfl (by first | rfl | exact veq_int (by first | omega | (dsimp only; omega))) (.cons rfl (by first | rfl | exact veq_int (by first | omega | (dsimp only; omega))) (.cons rfl (by first | rfl | exact veq_int (by first | omega | (dsimp only; omega))) .nil)))))))) (.cons (HpDel.head).tail rfl rfl (fun _ h => h) (.cons HpDel.head rfl rfl (fun _ h => h) (.cons HpDel.head rfl rfl (fun _ h => h) (.cons HpDel.head rfl rfl (fun _ h => h) (.cons HpDel.head rfl rfl (fun _ h => h) .nil)))))
          · refine x_callRow en_spec_l04Keeping rfl (w_spec_l04Keeping (by omega) (by omega)) (Vw.rd m3).v rfl (lt_dec rfl) fun b28_9 cb28_9 => ?_
            refine RA_quiet (g := 2) [2, 3] (by kernel_rfl) (by kernel_rfl) (by kernel_rfl) (by kernel_rfl) ?_
            refine WQ_cons rfl rfl rfl ((q_ixLev k rfl rfl rfl rfl (Rds.rd m3) rfl rfl (by omega))) (lt_dec rfl) ?_
            refine WQ_cons rfl rfl rfl ((q_lev (k := k) rfl rfl (Rds.rd m3) rfl (by omega) rfl rfl)) (lt_dec rfl) ?_
            refine WQ_nil ?_
            refine RA_one 8 rfl rfl (by kernel_rfl) (x_store rfl rfl rfl rfl rfl ((HpRep.head).tail) rfl (by first | trivial | (first | (first | omega | (dsimp only; omega)) | exact Fin.isLt _)) ?_)
            refine RA_quiet (g := 0) [9] (by kernel_rfl) (by kernel_rfl) (by kernel_rfl) (by kernel_rfl) ?_
            refine WQ_cons rfl rfl rfl ((p_assign rfl).q) (lt_dec rfl) ?_
            refine WQ_nil ?_
            refine RA_done (by kernel_rfl) ?_
            refine ⟨b9_8, b28_9, cb28_9, ?_, ?_⟩
            · trivial
            · exact Wk.pick (.cons rfl (by first | rfl | exact veq_int (by first | omega | (dsimp only; omega))) (.cons rfl (by first | rfl | exact veq_int (by first | omega | (dsimp only; omega))) (.cons rfl (by first | rfl | exact veq_int (by first | omega | (dsimp only; omega))) (.cons rfl (by first | rfl | exact veq_int (by first | omega | (dsimp only; omega))) (.cons rfl (by first | rfl | exact veq_int (by first | omega | (dsimp only; omega))) (.cons rfl (by first | rfl | exact veq_int (by first | omega | (dsimp only; omega))) (.cons rfl (by first | rfl | exact veq_int (by first | omega | (dsimp only; omega))) (.cons rfl (by first | rfl | exact veq_int (by first | omega | (dsimp only; omega))) .nil)))))))) (.cons (HpDel.head).tail rfl rfl (fun _ h => h) (.cons HpDel.head rfl rfl (fun _ h => h) (.cons HpDel.head rfl rfl (fun _ h => h) (.cons HpDel.head rfl rfl (fun _ h => h) (.cons HpDel.head rfl rfl (fun _ h => h) .nil)))))
      · rintro s' ⟨vb, rb, rc, _, hw⟩
        refine W_wk hw ?_
        clear hw s'
        refine W_seq ?_
        refine W_region ?_
        refine Ops_p (p_assign rfl) (lt_dec rfl) ?_
        refine Ops_nil ?_
        refine W_block ?_
        refine W_loop (α := Nat) (fun x => ⟨[(0, .raw a ha), (1, .raw a2 ha2), (2, .int .i64 (n : Int)), (6, .ptr b6_1 0 none), (7, .bool false), (8, .int .i64 ((b : Int) - 1)), (9, .ptr vb 0 none), (10, .sl rb 0 (List.length (kp l k)) rc), (11, .int .i64 (x : Int))], [.var vb (.agg [.int .i64 (Prod.fst (List.getD C k lv0)), .barr 10 (Prod.fst (Prod.snd (List.getD C k lv0))), .arr8 100 (Prod.snd (Prod.snd (List.getD C k lv0)))]), .row rb rc 33 (.arrs 10 (kp l k)), .var b6_1 (.arr8 10 fun _ => 0), rd a (.levs C), rd a2 (.arrs 10 l)]⟩) (fun x => x ≤ n ∧ HlC l n C k x) (fun x => n - x) 0 ?_ ?_ ?_
        · exact ⟨Nat.zero_le _, HlC.zero⟩
        · exact Wk.intro (.cons rfl (by first | rfl | exact veq_int (by first | omega | (dsimp only; omega))) (.cons rfl (by first | rfl | exact veq_int (by first | omega | (dsimp only; omega))) (.cons rfl (by first | rfl | exact veq_int (by first | omega | (dsimp only; omega))) (.cons rfl (by first | rfl | exact veq_int (by first | omega | (dsimp only; omega))) (.cons rfl (by first | rfl | exact veq_int (by first | omega | (dsimp only; omega))) (.cons rfl (by first | rfl | exact veq_int (by first | omega | (dsimp only; omega))) (.cons rfl (by first | rfl | exact veq_int (by first | omega | (dsimp only; omega))) (.cons rfl (by first | rfl | exact veq_int (by first | omega | (dsimp only; omega))) (.cons rfl (by first | rfl | exact veq_int (by first | omega | (dsimp only; omega))) .nil))))))))) (.keep rfl rfl (fun _ h => h) (.keep rfl rfl (fun _ h => h) (.keep rfl rfl (fun _ h => h) (.keep rfl rfl (fun _ h => h) (.keep rfl rfl (fun _ h => h) .nil)))))
        · rintro x ⟨hx, hX⟩
          refine W_seq ?_
          refine W_seq ?_
          refine W_region ?_
          refine Ops_p (p_move rfl) (lt_dec rfl) ?_
          refine Ops_p (p_move rfl) (lt_dec rfl) ?_
          refine Ops_p (p_lss rfl rfl) (lt_dec rfl) ?_
          refine Ops_nil ?_
          refine W_cond rfl (fun h2 => ?_) (fun h2 => ?_)
          · try simp only [bs] at h2
            refine W_skip ?_
            refine W_seq ?_
            refine W_block ?_
            refine W_seq ?_
            refine W_region ?_
            refine Ops_p (p_assign rfl) (lt_dec rfl) ?_
            refine Ops_nil ?_
            refine W_block ?_
            refine W_loop (α := Nat) (fun i => ⟨[(0, .raw a ha), (1, .raw a2 ha2), (2, .int .i64 (n : Int)), (6, .ptr b6_1 0 none), (7, .bool false), (8, .int .i64 ((b : Int) - 1)), (9, .ptr vb 0 none), (10, .sl rb 0 (List.length (kp l k)) rc), (11, .int .i64 (x : Int)), (12, .int .i64 (i : Int)), (29, .int .i64 (x : Int)), (30, .int .i64 (n : Int))], [.var vb (.agg [.int .i64 (Prod.fst (List.getD C k lv0)), .barr 10 (Prod.fst (Prod.snd (List.getD C k lv0))), .arr8 100 (Prod.snd (Prod.snd (List.getD C k lv0)))]), .row rb rc 33 (.arrs 10 (kp l k)), .var b6_1 (.arr8 10 fun _ => 0), rd a (.levs C), rd a2 (.arrs 10 l)]⟩) (fun i => i ≤ (kp l k).length ∧ HrC l n C k x i) (fun i => (kp l k).length - i) 0 ?_ ?_ ?_
            · exact ⟨Nat.zero_le _, HrC.zero⟩
            · exact Wk.intro (.cons rfl (by first | rfl | exact veq_int (by first | omega | (dsimp only; omega))) (.cons rfl (by first | rfl | exact veq_int (by first | omega | (dsimp only; omega))) (.cons rfl (by first | rfl | exact veq_int (by first | omega | (dsimp only; omega))) (.cons rfl (by first | rfl | exact veq_int (by first | omega | (dsimp only; omega))) (.cons rfl (by first | rfl | exact veq_int (by first | omega | (dsimp only; omega))) (.cons rfl (by first | rfl | exact veq_int (by first | omega | (dsimp only; omega))) (.cons rfl (by first | rfl | exact veq_int (by first | omega | (dsimp only; omega))) (.cons rfl (by first | rfl | exact veq_int (by first | omega | (dsimp only; omega))) (.cons rfl (by first | rfl | exact veq_int (by first | omega | (dsimp only; omega))) (.cons rfl (by first | rfl | exact veq_int (by first | omega | (dsimp only; omega))) (.cons rfl (by first | rfl | exact veq_int (by first | omega | (dsimp only; omega))) (.cons rfl (by first | rfl | exact veq_int (by first | omega | (dsimp only; omega))) .nil)))))))))))) (.keep rfl rfl (fun _ h => h) (.keep rfl rfl (fun _ h => h) (.keep rfl rfl (fun _ h => h) (.keep rfl rfl (fun _ h => h) (.keep rfl rfl (fun _ h => h) .nil)))))
            · rintro i ⟨hi, hI⟩
              refine W_seq ?_
              refine W_seq ?_
              refine W_region ?_
              refine Ops_p (p_move rfl) (lt_dec rfl) ?_
              refine Ops_p (p_move rfl) (lt_dec rfl) ?_
              refine Ops_p (p_len rfl rfl rfl) (lt_dec rfl) ?_
              refine Ops_p (p_lss rfl rfl) (lt_dec rfl) ?_
              refine Ops_p (p_move rfl) (lt_dec rfl) ?_
              refine Ops_guard rfl rfl (lt_dec rfl) (fun hg1 => ?_) (fun hg1 => ?_)
              · try simp only [bs] at hg1
                refine Ops_p (p_move rfl) (lt_dec rfl) ?_
                refine Ops_guard_t rfl rfl (lt_dec rfl) ?_
                refine Ops_p (p_fieldAddr rfl rfl rfl rfl rfl rfl) (lt_dec rfl) ?_
                refine Ops_guard_t rfl rfl (lt_dec rfl) ?_
                first | refine Ops_p (p_ix1 x rfl rfl rfl rfl rfl rfl (by first | (first | omega | (dsimp only; omega)) | exact Fin.isLt _)) (lt_dec rfl) ?_ | refine Ops_p (p_ix1s x rfl rfl rfl rfl rfl rfl (by first | (first | omega | (dsimp only; omega)) | exact Fin.isLt _)) (lt_dec rfl) ?_
                refine Ops_guard_t rfl rfl (lt_dec rfl) ?_
                refine Ops_q (q_load rfl rfl m0 rfl (by first | exact True.intro | trivial | (first | omega | (dsimp only; omega)) | exact Fin.isLt _ | (dsimp only; omega))) (lt_dec rfl) ?_
                refine Ops_p (p_pick_t rfl rfl) (lt_dec rfl) ?_
                refine Ops_nil ?_
                refine W_cond rfl (fun h3 => ?_) (fun h3 => ?_)
                · try simp only [bs] at h3
                  have hhx : (C.getD k lv0).2.1 x = true := (by first | exact h3 | simpa using h3)
                  refine W_skip ?_
                  refine W_seq ?_
                  refine W_block ?_
                  refine W_seq ?_
                  obtain ⟨ms1, ms2, ms3⟩ := miss_step hC hp (k := k) (x := x) (by omega) (by omega) hhx (kp_getD (i := i) (by omega))
                  refine W_draw (by kernel_rfl) ?_
                  show RA _ _ 12 _ _ _
                  refine RA_quietA (g := 1) (hs := [0, 1, 2, 3, 4, 5, 6, 7, 8, 9]) (ia := 10) rfl rfl (lt_dec rfl) (by kernel_rfl) ?_
                  refine SQ_cons rfl rfl rfl ((p_move rfl).q) (lt_dec rfl) ?_
                  refine SQ_cons rfl rfl rfl ((p_fieldAddr rfl rfl rfl rfl rfl rfl).q) (lt_dec rfl) ?_
                  refine SQ_cons rfl rfl rfl ((p_ixN 10 x rfl rfl rfl rfl rfl rfl (by first | (first | omega | (dsimp only; omega)) | exact Fin.isLt _)).q) (lt_dec rfl) ?_
                  refine SQ_cons rfl rfl rfl ((q_load rfl rfl m0 rfl (by first | exact True.intro | trivial | (first | omega | (dsimp only; omega)) | exact Fin.isLt _ | (dsimp only; omega)))) (lt_dec rfl) ?_
                  refine SQ_cons rfl rfl rfl ((p_move rfl).q) (lt_dec rfl) ?_
                  refine SQ_cons rfl rfl rfl ((p_move rfl).q) (lt_dec rfl) ?_
                  refine SQ_cons rfl rfl rfl ((p_ixlN 10 i rfl rfl rfl rfl rfl rfl (by first | (first | omega | (dsimp only; omega)) | exact Fin.isLt _)).q) (lt_dec rfl) ?_
                  refine SQ_cons rfl rfl rfl ((q_load_row rfl rfl m1 rfl rfl (by first | omega | (dsimp only; omega)) rfl rfl)) (lt_dec rfl) ?_
                  refine SQ_cons rfl rfl rfl ((p_move rfl).q) (lt_dec rfl) ?_
                  refine SQ_cons rfl rfl rfl ((q_call en_spec_l01Then rfl (w_spec_l01Then (hC.perm (by omega) (by omega) hhx)) (View.none _))) (lt_dec rfl) ?_
                  refine SQ_nil ?_
                  refine ⟨fun b13_1 => ?_, ?_⟩
                  · refine RA_one 11 rfl rfl (by kernel_rfl) (x_store rfl rfl rfl rfl rfl HpRep.head rfl (by first | trivial | (first | (first | omega | (dsimp only; omega)) | exact Fin.isLt _)) ?_)
                    refine RA_done (by kernel_rfl) ?_
                    refine W_seq ?_
                    refine W_region ?_
                    refine Ops_p (p_move rfl) (lt_dec rfl) ?_
                    refine Ops_q (q_load rfl rfl m0 rfl (by first | exact True.intro | trivial | (first | omega | (dsimp only; omega)) | exact Fin.isLt _ | (dsimp only; omega))) (lt_dec rfl) ?_
                    refine Ops_p (p_move rfl) (lt_dec rfl) ?_
                    refine Ops_q (q_call en_spec_l04Sift rfl (w_spec_l04Sift hC ms1) (Vw.rd m4).v) (lt_dec rfl) ?_
                    refine Ops_p (p_move rfl) (lt_dec rfl) ?_
                    refine Ops_p (p_extract rfl rfl) (lt_dec rfl) ?_
                    refine Ops_p (p_extract rfl rfl) (lt_dec rfl) ?_
                    refine Ops_x rfl (x_alloc rfl (lt_dec rfl) fun b14_1 => ?_)
                    refine Ops_x rfl (x_store rfl rfl rfl rfl rfl HpRep.head rfl (by first | trivial | (first | (first | omega | (dsimp only; omega)) | exact Fin.isLt _)) ?_)
                    refine Ops_p (p_assign rfl) (lt_dec rfl) ?_
                    refine Ops_nil ?_
                    refine W_seq ?_
                    refine W_draw (by kernel_rfl) ?_
                    show RA _ _ 4 _ _ _
                    refine RA_quietF [0, 1, 2, 3] rfl rfl rfl (by kernel_rfl) (by kernel_rfl) ?_
                    refine WQ_cons rfl rfl rfl ((q_load rfl rfl m0 rfl (by first | exact True.intro | trivial | (first | omega | (dsimp only; omega)) | exact Fin.isLt _ | (dsimp only; omega)))) (lt_dec rfl) ?_
                    refine WQ_cons rfl rfl rfl ((p_move rfl).q) (lt_dec rfl) ?_
                    refine WQ_cons rfl rfl rfl ((q_call en_spec_l01Same rfl (w_spec_l01Same hn) (View.none _))) (lt_dec rfl) ?_
                    refine WQ_cons rfl rfl rfl ((p_neq8 rfl rfl rfl rfl (by kernel_rfl) (by kernel_rfl) (by kernel_rfl)).q) (lt_dec rfl) ?_
                    refine WQ_nil ?_
                    refine W_cond rfl (fun h4 => ?_) (fun h4 => ?_)
                    · try simp only [bs] at h4
                      have hne := h4
                      refine W_seq ?_
                      refine W_region ?_
                      refine Ops_q (q_load rfl rfl m0 rfl (by first | exact True.intro | trivial | (first | omega | (dsimp only; omega)) | exact Fin.isLt _ | (dsimp only; omega))) (lt_dec rfl) ?_
                      refine Ops_x rfl (x_store rfl rfl rfl rfl rfl (((((HpRep.head).tail).tail).tail).tail) rfl (by first | trivial | (first | (first | omega | (dsimp only; omega)) | exact Fin.isLt _)) ?_)
                      refine Ops_p (p_assign rfl) (lt_dec rfl) ?_
                      refine Ops_nil ?_
                      refine W_ret ?_
                      refine Exists.intro _ (And.intro (.cons (.cell rfl rfl m4 rfl trivial) (.cons (.tmp rfl) .nil)) (Exists.intro ((Prod.fst (sfP C n n 0 (thenT (rowC C k x) (List.getD (kp l k) i (fun _ => 0)) n))), true) (And.intro ?_ (And.intro ?_ (And.intro .nil rfl)))))
                      · exact ⟨fun h => (by cases h), fun _ => ms3 hne⟩
                      · rfl
                    · try simp only [bs] at h4
                      have hne := h4
                      refine W_skip ?_
                      refine W_region ?_
                      refine Ops_p (p_move rfl) (lt_dec rfl) ?_
                      refine Ops_p (p_add rfl rfl (by exact ⟨(by first | omega | (dsimp only; omega)), (by first | omega | (dsimp only; omega))⟩)) (lt_dec rfl) ?_
                      refine Ops_p (p_assign rfl) (lt_dec rfl) ?_
                      refine Ops_nil ?_
                      refine Exists.intro (i + 1) (And.intro ?_ (And.intro ?_ ?_))
                      · exact ⟨by omega, hI.next (ms2 hne)⟩
                      · show _ < _; omega
                      · exact Wk.intro (.cons rfl (by first | rfl | exact veq_int (by first | omega | (dsimp only; omega))) (.cons rfl (by first | rfl | exact veq_int (by first | omega | (dsimp only; omega))) (.cons rfl (by first | rfl | exact veq_int (by first | omega | (dsimp only; omega))) (.cons rfl (by first | rfl | exact veq_int (by first | omega | (dsimp only; omega))) (.cons rfl (by first | rfl | exact veq_int (by first | omega | (dsimp only; omega))) (.cons rfl (by first | rfl | exact veq_int (by first | omega | (dsimp only; omega))) (.cons rfl (by first | rfl | exact veq_int (by first | omega | (dsimp only; omega))) (.cons rfl (by first | rfl | exact veq_int (by first | omega | (dsimp only; omega))) (.cons rfl (by first | rfl | exact veq_int (by first | omega | (dsimp only; omega))) (.cons rfl (by first | rfl | exact veq_int (by first | omega | (dsimp only; omega))) (.cons rfl (by first | rfl | exact veq_int (by first | omega | (dsimp only; omega))) (.cons rfl (by first | rfl | exact veq_int (by first | omega | (dsimp only; omega))) .nil)))))))))))) (.drop (.drop (.keep rfl rfl (fun _ h => h) (.keep rfl rfl (fun _ h => h) (.keep rfl rfl (fun _ h => h) (.keep rfl rfl (fun _ h => h) (.keep rfl rfl (fun _ h => h) .nil)))))))
                  · refine RA_one 10 rfl rfl (by kernel_rfl) (x_alloc rfl (lt_dec rfl) fun b13_2 => ?_)
                    refine RA_one 11 rfl rfl (by kernel_rfl) (x_store rfl rfl rfl rfl rfl HpRep.head rfl (by first | trivial | (first | (first | omega | (dsimp only; omega)) | exact Fin.isLt _)) ?_)
                    refine RA_done (by kernel_rfl) ?_
                    refine W_seq ?_
                    refine W_region ?_
                    refine Ops_p (p_move rfl) (lt_dec rfl) ?_
                    refine Ops_q (q_load rfl rfl m0 rfl (by first | exact True.intro | trivial | (first | omega | (dsimp only; omega)) | exact Fin.isLt _ | (dsimp only; omega))) (lt_dec rfl) ?_
                    refine Ops_p (p_move rfl) (lt_dec rfl) ?_
                    refine Ops_q (q_call en_spec_l04Sift rfl (w_spec_l04Sift hC ms1) (Vw.rd m4).v) (lt_dec rfl) ?_
                    refine Ops_p (p_move rfl) (lt_dec rfl) ?_
                    refine Ops_p (p_extract rfl rfl) (lt_dec rfl) ?_
                    refine Ops_p (p_extract rfl rfl) (lt_dec rfl) ?_
                    refine Ops_x rfl (x_alloc rfl (lt_dec rfl) fun b14_2 => ?_)
                    refine Ops_x rfl (x_store rfl rfl rfl rfl rfl HpRep.head rfl (by first | trivial | (first | (first | omega | (dsimp only; omega)) | exact Fin.isLt _)) ?_)
                    refine Ops_p (p_assign rfl) (lt_dec rfl) ?_
                    refine Ops_nil ?_
                    refine W_seq ?_
                    refine W_draw (by kernel_rfl) ?_
                    show RA _ _ 4 _ _ _
                    refine RA_quietF [0, 1, 2, 3] rfl rfl rfl (by kernel_rfl) (by kernel_rfl) ?_
                    refine WQ_cons rfl rfl rfl ((q_load rfl rfl m0 rfl (by first | exact True.intro | trivial | (first | omega | (dsimp only; omega)) | exact Fin.isLt _ | (dsimp only; omega)))) (lt_dec rfl) ?_
                    refine WQ_cons rfl rfl rfl ((p_move rfl).q) (lt_dec rfl) ?_
                    refine WQ_cons rfl rfl rfl ((q_call en_spec_l01Same rfl (w_spec_l01Same hn) (View.none _))) (lt_dec rfl) ?_
                    refine WQ_cons rfl rfl rfl ((p_neq8 rfl rfl rfl rfl (by kernel_rfl) (by kernel_rfl) (by kernel_rfl)).q) (lt_dec rfl) ?_
                    refine WQ_nil ?_
                    refine W_cond rfl (fun h5 => ?_) (fun h5 => ?_)
                    · try simp only [bs] at h5
                      have hne := h5
                      refine W_seq ?_
                      refine W_region ?_
                      refine Ops_q (q_load rfl rfl m0 rfl (by first | exact True.intro | trivial | (first | omega | (dsimp only; omega)) | exact Fin.isLt _ | (dsimp only; omega))) (lt_dec rfl) ?_
                      refine Ops_x rfl (x_store rfl rfl rfl rfl rfl (((((HpRep.head).tail).tail).tail).tail) rfl (by first | trivial | (first | (first | omega | (dsimp only; omega)) | exact Fin.isLt _)) ?_)
                      refine Ops_p (p_assign rfl) (lt_dec rfl) ?_
                      refine Ops_nil ?_
                      refine W_ret ?_
                      refine Exists.intro _ (And.intro (.cons (.cell rfl rfl m4 rfl trivial) (.cons (.tmp rfl) .nil)) (Exists.intro ((Prod.fst (sfP C n n 0 (thenT (rowC C k x) (List.getD (kp l k) i (fun _ => 0)) n))), true) (And.intro ?_ (And.intro ?_ (And.intro .nil rfl)))))
                      · exact ⟨fun h => (by cases h), fun _ => ms3 hne⟩
                      · rfl
                    · try simp only [bs] at h5
                      have hne := h5
                      refine W_skip ?_
                      refine W_region ?_
                      refine Ops_p (p_move rfl) (lt_dec rfl) ?_
                      refine Ops_p (p_add rfl rfl (by exact ⟨(by first | omega | (dsimp only; omega)), (by first | omega | (dsimp only; omega))⟩)) (lt_dec rfl) ?_
                      refine Ops_p (p_assign rfl) (lt_dec rfl) ?_
                      refine Ops_nil ?_
                      refine Exists.intro (i + 1) (And.intro ?_ (And.intro ?_ ?_))
                      · exact ⟨by omega, hI.next (ms2 hne)⟩
                      · show _ < _; omega
                      · exact Wk.intro (.cons rfl (by first | rfl | exact veq_int (by first | omega | (dsimp only; omega))) (.cons rfl (by first | rfl | exact veq_int (by first | omega | (dsimp only; omega))) (.cons rfl (by first | rfl | exact veq_int (by first | omega | (dsimp only; omega))) (.cons rfl (by first | rfl | exact veq_int (by first | omega | (dsimp only; omega))) (.cons rfl (by first | rfl | exact veq_int (by first | omega | (dsimp only; omega))) (.cons rfl (by first | rfl | exact veq_int (by first | omega | (dsimp only; omega))) (.cons rfl (by first | rfl | exact veq_int (by first | omega | (dsimp only; omega))) (.cons rfl (by first | rfl | exact veq_int (by first | omega | (dsimp only; omega))) (.cons rfl (by first | rfl | exact veq_int (by first | omega | (dsimp only; omega))) (.cons rfl (by first | rfl | exact veq_int (by first | omega | (dsimp only; omega))) (.cons rfl (by first | rfl | exact veq_int (by first | omega | (dsimp only; omega))) (.cons rfl (by first | rfl | exact veq_int (by first | omega | (dsimp only; omega))) .nil)))))))))))) (.drop (.drop (.keep rfl rfl (fun _ h => h) (.keep rfl rfl (fun _ h => h) (.keep rfl rfl (fun _ h => h) (.keep rfl rfl (fun _ h => h) (.keep rfl rfl (fun _ h => h) .nil)))))))
                · try simp only [bs] at h3
                  have hhx : (C.getD k lv0).2.1 x = false := (by first | exact h3 | simpa using h3)
                  refine W_exit ?_
                  refine W_region ?_
                  refine Ops_p (p_move rfl) (lt_dec rfl) ?_
                  refine Ops_p (p_add rfl rfl (by exact ⟨(by first | omega | (dsimp only; omega)), (by first | omega | (dsimp only; omega))⟩)) (lt_dec rfl) ?_
                  refine Ops_p (p_assign rfl) (lt_dec rfl) ?_
                  refine Ops_nil ?_
                  refine Exists.intro (x + 1) (And.intro ?_ (And.intro ?_ ?_))
                  · first | exact ⟨by omega, hX.not hhx⟩ | exact ⟨by omega, hX.all hI (by omega)⟩
                  · show _ < _; omega
                  · exact Wk.intro (.cons rfl (by first | rfl | exact veq_int (by first | omega | (dsimp only; omega))) (.cons rfl (by first | rfl | exact veq_int (by first | omega | (dsimp only; omega))) (.cons rfl (by first | rfl | exact veq_int (by first | omega | (dsimp only; omega))) (.cons rfl (by first | rfl | exact veq_int (by first | omega | (dsimp only; omega))) (.cons rfl (by first | rfl | exact veq_int (by first | omega | (dsimp only; omega))) (.cons rfl (by first | rfl | exact veq_int (by first | omega | (dsimp only; omega))) (.cons rfl (by first | rfl | exact veq_int (by first | omega | (dsimp only; omega))) (.cons rfl (by first | rfl | exact veq_int (by first | omega | (dsimp only; omega))) (.cons rfl (by first | rfl | exact veq_int (by first | omega | (dsimp only; omega))) .nil))))))))) (.keep rfl rfl (fun _ h => h) (.keep rfl rfl (fun _ h => h) (.keep rfl rfl (fun _ h => h) (.keep rfl rfl (fun _ h => h) (.keep rfl rfl (fun _ h => h) .nil)))))
              · try simp only [bs] at hg1
                refine Ops_guard_f rfl rfl rfl (lt_dec rfl) ?_
                refine Ops_guard_f rfl rfl rfl (lt_dec rfl) ?_
                refine Ops_guard_f rfl rfl rfl (lt_dec rfl) ?_
                refine Ops_p (p_pick_f rfl rfl) (lt_dec rfl) ?_
                refine Ops_nil ?_
                refine W_false rfl ?_
                refine W_exit ?_
                refine W_region ?_
                refine Ops_p (p_move rfl) (lt_dec rfl) ?_
                refine Ops_p (p_add rfl rfl (by exact ⟨(by first | omega | (dsimp only; omega)), (by first | omega | (dsimp only; omega))⟩)) (lt_dec rfl) ?_
                refine Ops_p (p_assign rfl) (lt_dec rfl) ?_
                refine Ops_nil ?_
                refine Exists.intro (x + 1) (And.intro ?_ (And.intro ?_ ?_))
                · first | exact ⟨by omega, hX.not hhx⟩ | exact ⟨by omega, hX.all hI (by omega)⟩
                · show _ < _; omega
                · exact Wk.intro (.cons rfl (by first | rfl | exact veq_int (by first | omega | (dsimp only; omega))) (.cons rfl (by first | rfl | exact veq_int (by first | omega | (dsimp only; omega))) (.cons rfl (by first | rfl | exact veq_int (by first | omega | (dsimp only; omega))) (.cons rfl (by first | rfl | exact veq_int (by first | omega | (dsimp only; omega))) (.cons rfl (by first | rfl | exact veq_int (by first | omega | (dsimp only; omega))) (.cons rfl (by first | rfl | exact veq_int (by first | omega | (dsimp only; omega))) (.cons rfl (by first | rfl | exact veq_int (by first | omega | (dsimp only; omega))) (.cons rfl (by first | rfl | exact veq_int (by first | omega | (dsimp only; omega))) (.cons rfl (by first | rfl | exact veq_int (by first | omega | (dsimp only; omega))) .nil))))))))) (.keep rfl rfl (fun _ h => h) (.keep rfl rfl (fun _ h => h) (.keep rfl rfl (fun _ h => h) (.keep rfl rfl (fun _ h => h) (.keep rfl rfl (fun _ h => h) .nil)))))
          · try simp only [bs] at h2
            obtain rfl : x = n := (by omega)
            refine W_exit ?_
            refine W_region ?_
            refine Ops_p (p_move rfl) (lt_dec rfl) ?_
            refine Ops_p (p_sub rfl rfl (by exact ⟨(by first | omega | (dsimp only; omega)), (by first | omega | (dsimp only; omega))⟩)) (lt_dec rfl) ?_
            refine Ops_p (p_assign rfl) (lt_dec rfl) ?_
            refine Ops_nil ?_
            refine Exists.intro k (And.intro ?_ (And.intro ?_ ?_))
            · exact ⟨by omega, fun j h1 h2 => if e : j = k then e ▸ hX.end else hR j (by omega) h2⟩
            · show _ < _; omega
            · exact Wk.intro (.cons rfl (by first | rfl | exact veq_int (by first | omega | (dsimp only; omega))) (.cons rfl (by first | rfl | exact veq_int (by first | omega | (dsimp only; omega))) (.cons rfl (by first | rfl | exact veq_int (by first | omega | (dsimp only; omega))) (.cons rfl (by first | rfl | exact veq_int (by first | omega | (dsimp only; omega))) (.cons rfl (by first | rfl | exact veq_int (by first | omega | (dsimp only; omega))) (.cons rfl (veq_int (by omega)) .nil)))))) (.drop (.drop (.keep rfl rfl (fun _ h => h) (.keep rfl rfl (fun _ h => h) (.keep rfl rfl (fun _ h => h) .nil)))))
    · try simp only [bs] at h1
      refine W_exit ?_
      refine W_seq ?_
      refine W_region ?_
      refine Ops_p (p_build_arr rfl rfl rfl rfl (by first | exact True.intro | trivial | (first | omega | (dsimp only; omega)) | exact Fin.isLt _ | (dsimp only; omega))) (lt_dec rfl) ?_
      refine Ops_x rfl (x_store rfl rfl rfl rfl rfl HpRep.head rfl (by first | trivial | (first | (first | omega | (dsimp only; omega)) | exact Fin.isLt _)) ?_)
      refine Ops_p (p_assign rfl) (lt_dec rfl) ?_
      refine Ops_nil ?_
      refine W_ret ?_
      refine Exists.intro _ (And.intro (.cons (.cell rfl rfl m0 rfl trivial) (.cons (.tmp rfl) .nil)) (Exists.intro ((fun _ => 0), false) (And.intro ?_ (And.intro ?_ (And.intro .nil rfl)))))
      · exact ⟨fun _ j hj => hR j (by omega) hj, fun h => by cases h⟩
      · rfl
end Go.Proofs.Ytjihhcjpbcmjaaa
end
section
namespace Go.Proofs.Ytjihhcjpbcmjaaa
open Go Gx
set_option linter.unusedVariables false
theorem en_spec_l04Chain : Enters Try.prog 36 := enters_of Try.func36 (by kernel_rfl) (by kernel_rfl)
set_option maxRecDepth 100000 in
set_option maxHeartbeats 1000000 in
theorem w_spec_l04Chain {a : Value} {ha : a.oneCell' = true} {l : List (Nat → Fin 256)} {n : Nat} (hp : PsOk l (n : Int)) (hl : l.length ≤ 40) : CT (X := V1 × (List Lv × List (Nat → Fin 256))) Try.prog 36 (vals [.raw a ha, .int .i64 (n : Int)]) [] [rd a (.arrs 10 l)] (fun x => ChOk (Prod.snd (Prod.snd x)) n (Prod.fst (Prod.snd x)) ∧ PsOk (Prod.snd (Prod.snd x)) (n : Int) ∧ (∀ a, Gen (Sp (Prod.snd (Prod.snd x)) n) a ↔ Gen (Sp l n) a) ∧ ∀ j, j < n → ClC n (Prod.snd (Prod.snd x)) (Prod.fst (Prod.snd x)) j) (fun x => .raw x.1.1 x.1.2) (fun x => [own x.1.1 84 (.levs (Prod.fst (Prod.snd x)))]) := by
  refine CT_intro (rs := [.tmp 4]) tt tok Try.func36 rfl rfl rfl (by first | rfl | assumption) fun w => ?_
  show W _ _ _ ⟨tmOf 0 [.raw a ha, .int .i64 (n : Int)], [rd a (.arrs 10 l)]⟩
  have hn := hp.1
  refine W_seq ?_
  refine W_region ?_
  refine Ops_p (p_assign rfl) (lt_dec rfl) ?_
  refine Ops_nil ?_
  refine W_seq ?_
  refine W_region ?_
  refine Ops_x rfl (x_buildSlice rfl rfl rfl rfl rfl rfl rfl rfl (Nat.le_of_ble_eq_true rfl) (lt_dec rfl) fun b8_1 => ?_)
  refine Ops_p (p_move rfl) (lt_dec rfl) ?_
  refine Ops_x rfl (x_appendZr (t := 8) (r := .arrs 10 []) (r2 := .arrs 10 l) (q := .arrs 10 ([] ++ l)) rfl rfl rfl rfl rfl rfl rfl (Rds.rd (s := ⟨_, own (slv b8_1 0 0).1 33 (.arrs 10 []) :: [rd a (.arrs 10 l)]⟩) (List.Mem.tail _ (List.Mem.head _))) rfl rfl (.cons .head .nil) (fun _ => .cons .head .nil) (by show (0 + List.length _) * 10 ≤ _; omega) (by show 0 + List.length _ ≤ _; omega) (lt_dec rfl) fun v10 => ?_)
  refine Ops_p (p_assign rfl) (lt_dec rfl) ?_
  refine Ops_nil ?_
  refine W_block ?_
  refine W_loop (α := V1 × List (Nat → Fin 256)) (fun zz0 => ⟨[(0, .raw (zz0.1).1 (zz0.1).2), (1, .int .i64 (n : Int)), (9, .raw a ha), (10, .raw v10.1 v10.2)], [own (zz0.1).1 33 (.arrs 10 (zz0.2)), rd a (.arrs 10 l)]⟩) (fun zz0 => PsOk (zz0.2) (n : Int) ∧ (∀ a, Gen (Sp (zz0.2) n) a ↔ Gen (Sp l n) a) ∧ (zz0.2).length ≤ 40 + rcN (zz0.2) n) (fun zz0 => 100 - rcN (zz0.2) n) (v10, [] ++ l) ?_ ?_ ?_
  · exact ⟨hp, fun _ => Iff.rfl, by show l.length ≤ _; omega⟩
  · exact Wk.intro (.cons rfl (by first | rfl | exact veq_int (by first | omega | (dsimp only; omega))) (.cons rfl (by first | rfl | exact veq_int (by first | omega | (dsimp only; omega))) (.cons rfl (by first | rfl | exact veq_int (by first | omega | (dsimp only; omega))) (.cons rfl (by first | rfl | exact veq_int (by first | omega | (dsimp only; omega))) .nil)))) (.keep rfl rfl (fun _ h => h) (.keep rfl rfl (fun _ h => h) .nil))
  · rintro ⟨vv, l2⟩ ⟨hP, hG, hL⟩
    try dsimp only at *
    refine W_block ?_
    refine W_seq ?_
    refine W_region ?_
    refine Ops_p (p_move rfl) (lt_dec rfl) ?_
    refine Ops_p (p_move rfl) (lt_dec rfl) ?_
    refine Ops_x rfl (x_callT en_spec_l04Build rfl (w_spec_l04Build hP (by have := rcN_bd l2 n; omega)) HpDels.nil (Vw.rdO m0) (fun _ => (HpDels.cons HpDel.head HpDels.nil)) (lt_dec rfl) fun x13_1 hx1 => ?_)
    refine Ops_p (p_assign rfl) (lt_dec rfl) ?_
    refine Ops_nil ?_
    refine W_seq ?_
    refine W_region ?_
    refine Ops_p (p_move rfl) (lt_dec rfl) ?_
    refine Ops_p (p_move rfl) (lt_dec rfl) ?_
    refine Ops_p (p_move rfl) (lt_dec rfl) ?_
    refine Ops_x rfl (x_callT en_spec_l04Missing rfl (w_spec_l04Missing hx1 hP (by have := rcN_bd l2 n; omega)) HpDels.nil (Vw.cons (Vw.rdO m0) (Vw.rdO m1)) (fun _ => HpDels.nil) (lt_dec rfl) fun x18_1 hx2 => ?_)
    refine Ops_p (p_move rfl) (lt_dec rfl) ?_
    refine Ops_p (p_extract rfl rfl) (lt_dec rfl) ?_
    refine Ops_p (p_extract rfl rfl) (lt_dec rfl) ?_
    refine Ops_x rfl (x_alloc rfl (lt_dec rfl) fun b6_1 => ?_)
    refine Ops_x rfl (x_store rfl rfl rfl rfl rfl HpRep.head rfl (by first | trivial | (first | (first | omega | (dsimp only; omega)) | exact Fin.isLt _)) ?_)
    refine Ops_p (p_assign rfl) (lt_dec rfl) ?_
    refine Ops_nil ?_
    refine W_seq ?_
    refine W_seq ?_
    refine W_region ?_
    refine Ops_p (p_move rfl) (lt_dec rfl) ?_
    refine Ops_p (p_not rfl) (lt_dec rfl) ?_
    refine Ops_nil ?_
    refine W_cond rfl (fun h1 => ?_) (fun h1 => ?_)
    · try simp only [bs] at h1
      have hmm : Prod.snd x18_1 = false := (by simpa using h1)
      refine W_seq ?_
      refine W_region ?_
      refine Ops_p (p_move rfl) (lt_dec rfl) ?_
      refine Ops_p (p_assign rfl) (lt_dec rfl) ?_
      refine Ops_nil ?_
      refine W_ret ?_
      refine Exists.intro _ (And.intro (.cons (.tmp rfl) .nil) (Exists.intro (x13_1.1, (x13_1.2, l2)) (And.intro ?_ (And.intro ?_ (And.intro (.cons (HpDel.head).tail rfl (own_eq rfl) .nil) rfl)))))
      · exact ⟨hx1, hP, hG, hx2.1 hmm⟩
      · rfl
    · try simp only [bs] at h1
      have hmm : Prod.snd x18_1 = true := (by simpa using h1)
      refine W_skip ?_
      refine W_region ?_
      refine Ops_p (p_move rfl) (lt_dec rfl) ?_
      refine Ops_q (q_load rfl rfl m0 rfl (by first | exact True.intro | trivial | (first | omega | (dsimp only; omega)) | exact Fin.isLt _ | (dsimp only; omega))) (lt_dec rfl) ?_
      refine Ops_x rfl (x_buildSlice rfl rfl rfl rfl rfl rfl rfl rfl (Nat.le_of_ble_eq_true rfl) (lt_dec rfl) fun b26_1 => ?_)
      refine Ops_x rfl (x_appendO (r := .arrs 10 l2) (r2 := .arrs 10 [Prod.fst x18_1]) (q := .arrs 10 (l2 ++ [Prod.fst x18_1])) rfl rfl rfl rfl rfl rfl (Rds.row m0 rfl) rfl (by show 0 < 1; omega) rfl (HpDels.cons (((HpDel.head).tail).tail).tail HpDels.nil) (fun _ => (HpDels.cons (((HpDel.head).tail).tail).tail HpDels.nil)) (by show (List.length _ + List.length _) * 10 ≤ _; simp only [List.length_cons, List.length_nil]; have := rcN_bd l2 n; omega) (by show List.length _ + List.length _ ≤ _; simp only [List.length_cons, List.length_nil]; have := rcN_bd l2 n; omega) (lt_dec rfl) fun v27 => ?_)
      refine Ops_p (p_assign rfl) (lt_dec rfl) ?_
      refine Ops_nil ?_
      refine Exists.intro (v27, l2 ++ [Prod.fst x18_1]) (And.intro ?_ (And.intro ?_ ?_))
      · exact ⟨miss_ok hP (hx2.2 hmm), fun a => (miss_gen (hx2.2 hmm) a).trans (hG a), by show List.length (l2 ++ [_]) ≤ _; have := rcN_up hx1 hP (hx2.2 hmm); rw [List.length_append]; show l2.length + 1 ≤ 40 + rcN (l2 ++ [Prod.fst x18_1]) n; omega⟩
      · show _ - rcN (l2 ++ [_]) n < _; have := rcN_up hx1 hP (hx2.2 hmm); have := rcN_bd (l2 ++ [Prod.fst x18_1]) n; omega
      · exact Wk.intro (.cons rfl (by first | rfl | exact veq_int (by first | omega | (dsimp only; omega))) (.cons rfl (by first | rfl | exact veq_int (by first | omega | (dsimp only; omega))) (.cons rfl (by first | rfl | exact veq_int (by first | omega | (dsimp only; omega))) (.cons rfl (by first | rfl | exact veq_int (by first | omega | (dsimp only; omega))) .nil)))) (.drop (.drop (.drop (.keep rfl rfl (fun _ h => h) (.keep rfl rfl (fun _ h => h) .nil)))))
end Go.Proofs.Ytjihhcjpbcmjaaa
end
section
namespace Go.Proofs.Ytjihhcjpbcmjaaa
open Go Gx
set_option linter.unusedVariables false
theorem en_spec_l04List : Enters Try.prog 52 := enters_of Try.func52 (by kernel_rfl) (by kernel_rfl)
set_option maxRecDepth 100000 in
theorem w_spec_l04List {a : Value} {ha : a.oneCell' = true} {l : List (Nat → Fin 256)} {n : Int} (hl : l.length ≤ 1048576) : CR Try.prog 52 (vals [.raw a ha, .int .i64 n]) [rd a (.arrs 10 l)] (.bool (psB l n)) := by
  refine CR_intro (rs := [.tmp 4]) tt tok Try.func52 rfl rfl rfl (by first | rfl | assumption) fun w => ?_
  refine W_seq ?_
  refine W_region ?_
  refine Ops_p (p_assign rfl) (lt_dec rfl) ?_
  refine Ops_nil ?_
  refine W_seq ?_
  refine W_seq ?_
  refine W_region ?_
  refine Ops_p (p_assign rfl) (lt_dec rfl) ?_
  refine Ops_nil ?_
  refine W_block ?_
  refine W_loop (α := Nat) (fun i => ⟨[(0, .raw a ha), (1, .int .i64 n), (5, .int .i64 (i : Int))], [rd a (.arrs 10 l)]⟩) (fun i => i ≤ l.length ∧ ∀ j, j < i → isPerm (l.getD j fun _ => 0) n = true) (fun i => l.length - i) 0 ?_ ?_ ?_
  · exact ⟨by omega, fun j h => by omega⟩
  · exact Wk.intro (.cons rfl (by first | rfl | exact veq_int (by first | omega | (dsimp only; omega))) (.cons rfl (by first | rfl | exact veq_int (by first | omega | (dsimp only; omega))) (.cons rfl (by first | rfl | exact veq_int (by first | omega | (dsimp only; omega))) .nil))) (.keep rfl rfl (fun _ h => h) .nil)
  · rintro i ⟨hi, hR⟩
    refine W_seq ?_
    refine W_seq ?_
    refine W_region ?_
    refine Ops_p (p_move rfl) (lt_dec rfl) ?_
    refine Ops_p (p_move rfl) (lt_dec rfl) ?_
    refine Ops_q ((q_lenR rfl rfl rfl (Rds.rd m0)).eq (d' := .int .i64 ((l.length : Nat) : Int)) rfl) (lt_dec rfl) ?_
    refine Ops_p (p_lss rfl rfl) (lt_dec rfl) ?_
    refine Ops_nil ?_
    refine W_cond rfl (fun h1 => ?_) (fun h1 => ?_)
    · try simp only [bs] at h1
      refine W_skip ?_
      refine W_seq ?_
      refine W_block ?_
      refine W_seq ?_
      refine W_region ?_
      refine Ops_p (p_move rfl) (lt_dec rfl) ?_
      refine Ops_p (p_move rfl) (lt_dec rfl) ?_
      refine Ops_q (q_ixR _ rfl rfl rfl (Rds.rd m0) rfl rfl (by first | (show _ < List.length _; omega) | (show _ < List.length _; first | omega | (dsimp only; omega))) rfl) (lt_dec rfl) ?_
      refine Ops_q (q_loadR rfl rfl (Rds.rd m0) rfl rfl (by first | (show _ < List.length _; omega) | (show _ < List.length _; first | omega | (dsimp only; omega))) rfl rfl rfl) (lt_dec rfl) ?_
      refine Ops_p (p_move rfl) (lt_dec rfl) ?_
      refine Ops_q (q_call en_spec_l01Perm rfl (w_spec_l01Perm) (View.none _)) (lt_dec rfl) ?_
      refine Ops_p (p_not rfl) (lt_dec rfl) ?_
      refine Ops_nil ?_
      refine W_cond rfl (fun h2 => ?_) (fun h2 => ?_)
      · try simp only [bs] at h2
        refine W_seq ?_
        refine W_region ?_
        refine Ops_p (p_assign rfl) (lt_dec rfl) ?_
        refine Ops_nil ?_
        refine W_ret ?_
        refine Exists.intro _ (And.intro (.cons (.tmp rfl) .nil) ?_)
        first | rfl | (refine veq_bool ?_; simp_all; done) | (refine veq_bool ?_; simp; omega) | (refine veq_bool ?_; rw [eq_comm, decide_eq_false_iff_not]; omega) | (refine veq_bool ?_; rw [eq_comm, decide_eq_true_iff]; omega) | (refine veq_int ?_; omega) | (refine veq_arr8 fun j hj => ?_; (try dsimp only); first | (simp; done) | (simp; omega) | ((repeat' split) <;> first | rfl | (exfalso; omega) | (congr 1; omega) | (simp_all; done))) | (exact veq_bool (psB_f (i := i) (by omega) h2)) | (exact veq_bool (psB_t hR))
      · try simp only [bs] at h2
        refine W_skip ?_
        refine W_region ?_
        refine Ops_p (p_move rfl) (lt_dec rfl) ?_
        refine Ops_p (p_add rfl rfl (by exact ⟨(by first | omega | (dsimp only; omega)), (by first | omega | (dsimp only; omega))⟩)) (lt_dec rfl) ?_
        refine Ops_p (p_assign rfl) (lt_dec rfl) ?_
        refine Ops_nil ?_
        refine Exists.intro (i + 1) (And.intro ?_ (And.intro ?_ ?_))
        · exact ⟨by omega, fun j h => if e : j = i then e ▸ h2 else hR j (by omega)⟩
        · show _ < _; omega
        · exact Wk.intro (.cons rfl (by first | rfl | exact veq_int (by first | omega | (dsimp only; omega))) (.cons rfl (by first | rfl | exact veq_int (by first | omega | (dsimp only; omega))) (.cons rfl (by first | rfl | exact veq_int (by first | omega | (dsimp only; omega))) .nil))) (.keep rfl rfl (fun _ h => h) .nil)
    · try simp only [bs] at h1
      obtain rfl : i = l.length := (by omega)
      refine W_exit ?_
      refine W_seq ?_
      refine W_region ?_
      refine Ops_p (p_assign rfl) (lt_dec rfl) ?_
      refine Ops_nil ?_
      refine W_ret ?_
      refine Exists.intro _ (And.intro (.cons (.tmp rfl) .nil) ?_)
      first | rfl | (refine veq_bool ?_; simp_all; done) | (refine veq_bool ?_; simp; omega) | (refine veq_bool ?_; rw [eq_comm, decide_eq_false_iff_not]; omega) | (refine veq_bool ?_; rw [eq_comm, decide_eq_true_iff]; omega) | (refine veq_int ?_; omega) | (refine veq_arr8 fun j hj => ?_; (try dsimp only); first | (simp; done) | (simp; omega) | ((repeat' split) <;> first | rfl | (exfalso; omega) | (congr 1; omega) | (simp_all; done))) | (exact veq_bool (psB_f (i := i) (by omega) h2)) | (exact veq_bool (psB_t hR))
end Go.Proofs.Ytjihhcjpbcmjaaa
end
section
namespace Go.Proofs.Ytjihhcjpbcmjaaa
open Go Gx
set_option linter.unusedVariables false
theorem en_spec_l04Code : Enters Try.prog 27 := enters_of Try.func27 (by kernel_rfl) (by kernel_rfl)
set_option maxRecDepth 100000 in
theorem w_spec_l04Code {a : Value} {ha : a.oneCell' = true} {l : List (Nat → Fin 256)} {n : Int} (hl : l.length ≤ 1048576) : CR Try.prog 27 (vals [.raw a ha, .int .i64 n]) [rd a (.arrs 10 l)] (.int .i64 (psC l n)) := by
  refine CR_intro (rs := [.tmp 4]) tt tok Try.func27 rfl rfl rfl (by first | rfl | assumption) fun w => ?_
  refine W_seq ?_
  refine W_region ?_
  refine Ops_p (p_assign rfl) (lt_dec rfl) ?_
  refine Ops_nil ?_
  refine W_seq ?_
  refine W_block ?_
  refine W_seq ?_
  refine W_region ?_
  refine Ops_p (p_move rfl) (lt_dec rfl) ?_
  refine Ops_q (q_call en_spec_l01In rfl (w_spec_l01In) (View.none _)) (lt_dec rfl) ?_
  refine Ops_p (p_not rfl) (lt_dec rfl) ?_
  refine Ops_p (p_assign rfl) (lt_dec rfl) ?_
  refine Ops_nil ?_
  refine W_cond rfl (fun h1 => ?_) (fun h1 => ?_)
  · try simp only [bs] at h1
    refine W_seq ?_
    refine W_region ?_
    refine Ops_p (p_assign rfl) (lt_dec rfl) ?_
    refine Ops_nil ?_
    refine W_ret ?_
    refine Exists.intro _ (And.intro (.cons (.tmp rfl) .nil) ?_)
    first | rfl | (refine veq_bool ?_; simp_all; done) | (refine veq_bool ?_; simp; omega) | (refine veq_bool ?_; rw [eq_comm, decide_eq_false_iff_not]; omega) | (refine veq_bool ?_; rw [eq_comm, decide_eq_true_iff]; omega) | (refine veq_int ?_; omega) | (refine veq_arr8 fun j hj => ?_; (try dsimp only); first | (simp; done) | (simp; omega) | ((repeat' split) <;> first | rfl | (exfalso; omega) | (congr 1; omega) | (simp_all; done))) | (exact veq_int (psC_n (by assumption)).symm) | (exact veq_int (psC_1 (by assumption) (by assumption)).symm) | (exact veq_int (psC_2 (by assumption) (by assumption) (by omega)).symm) | (exact veq_int (psC_0 (by assumption) (by assumption) (by omega)).symm)
  · try simp only [bs] at h1
    refine W_seq ?_
    refine W_region ?_
    refine Ops_p (p_move rfl) (lt_dec rfl) ?_
    refine Ops_p (p_move rfl) (lt_dec rfl) ?_
    refine Ops_q (q_call en_spec_l04List rfl (w_spec_l04List (by first | assumption | (first | omega | (dsimp only; omega)) | (simp; done) | decide)) (Vw.rd m0).v) (lt_dec rfl) ?_
    refine Ops_p (p_not rfl) (lt_dec rfl) ?_
    refine Ops_p (p_assign rfl) (lt_dec rfl) ?_
    refine Ops_nil ?_
    refine W_cond rfl (fun h2 => ?_) (fun h2 => ?_)
    · try simp only [bs] at h2
      refine W_seq ?_
      refine W_region ?_
      refine Ops_p (p_assign rfl) (lt_dec rfl) ?_
      refine Ops_nil ?_
      refine W_ret ?_
      refine Exists.intro _ (And.intro (.cons (.tmp rfl) .nil) ?_)
      first | rfl | (refine veq_bool ?_; simp_all; done) | (refine veq_bool ?_; simp; omega) | (refine veq_bool ?_; rw [eq_comm, decide_eq_false_iff_not]; omega) | (refine veq_bool ?_; rw [eq_comm, decide_eq_true_iff]; omega) | (refine veq_int ?_; omega) | (refine veq_arr8 fun j hj => ?_; (try dsimp only); first | (simp; done) | (simp; omega) | ((repeat' split) <;> first | rfl | (exfalso; omega) | (congr 1; omega) | (simp_all; done))) | (exact veq_int (psC_n (by assumption)).symm) | (exact veq_int (psC_1 (by assumption) (by assumption)).symm) | (exact veq_int (psC_2 (by assumption) (by assumption) (by omega)).symm) | (exact veq_int (psC_0 (by assumption) (by assumption) (by omega)).symm)
    · try simp only [bs] at h2
      refine W_seq ?_
      refine W_region ?_
      refine Ops_p (p_move rfl) (lt_dec rfl) ?_
      refine Ops_q ((q_lenR rfl rfl rfl (Rds.rd m0)).eq (d' := .int .i64 ((l.length : Nat) : Int)) rfl) (lt_dec rfl) ?_
      refine Ops_p (p_gtr rfl rfl) (lt_dec rfl) ?_
      refine Ops_p (p_assign rfl) (lt_dec rfl) ?_
      refine Ops_nil ?_
      refine W_cond rfl (fun h3 => ?_) (fun h3 => ?_)
      · try simp only [bs] at h3
        refine W_seq ?_
        refine W_region ?_
        refine Ops_p (p_assign rfl) (lt_dec rfl) ?_
        refine Ops_nil ?_
        refine W_ret ?_
        refine Exists.intro _ (And.intro (.cons (.tmp rfl) .nil) ?_)
        first | rfl | (refine veq_bool ?_; simp_all; done) | (refine veq_bool ?_; simp; omega) | (refine veq_bool ?_; rw [eq_comm, decide_eq_false_iff_not]; omega) | (refine veq_bool ?_; rw [eq_comm, decide_eq_true_iff]; omega) | (refine veq_int ?_; omega) | (refine veq_arr8 fun j hj => ?_; (try dsimp only); first | (simp; done) | (simp; omega) | ((repeat' split) <;> first | rfl | (exfalso; omega) | (congr 1; omega) | (simp_all; done))) | (exact veq_int (psC_n (by assumption)).symm) | (exact veq_int (psC_1 (by assumption) (by assumption)).symm) | (exact veq_int (psC_2 (by assumption) (by assumption) (by omega)).symm) | (exact veq_int (psC_0 (by assumption) (by assumption) (by omega)).symm)
      · try simp only [bs] at h3
        refine W_skip ?_
        refine W_seq ?_
        refine W_region ?_
        refine Ops_p (p_assign rfl) (lt_dec rfl) ?_
        refine Ops_nil ?_
        refine W_ret ?_
        refine Exists.intro _ (And.intro (.cons (.tmp rfl) .nil) ?_)
        first | rfl | (refine veq_bool ?_; simp_all; done) | (refine veq_bool ?_; simp; omega) | (refine veq_bool ?_; rw [eq_comm, decide_eq_false_iff_not]; omega) | (refine veq_bool ?_; rw [eq_comm, decide_eq_true_iff]; omega) | (refine veq_int ?_; omega) | (refine veq_arr8 fun j hj => ?_; (try dsimp only); first | (simp; done) | (simp; omega) | ((repeat' split) <;> first | rfl | (exfalso; omega) | (congr 1; omega) | (simp_all; done))) | (exact veq_int (psC_n (by assumption)).symm) | (exact veq_int (psC_1 (by assumption) (by assumption)).symm) | (exact veq_int (psC_2 (by assumption) (by assumption) (by omega)).symm) | (exact veq_int (psC_0 (by assumption) (by assumption) (by omega)).symm)
end Go.Proofs.Ytjihhcjpbcmjaaa
end
section
namespace Go.Proofs.Ytjihhcjpbcmjaaa
open Go Gx
set_option linter.unusedVariables false
theorem en_spec_InGroup : Enters Try.prog 11 := enters_of Try.func11 (by kernel_rfl) (by kernel_rfl)
set_option maxRecDepth 100000 in
set_option maxHeartbeats 1000000 in
theorem w_spec_InGroup {a : Value} {ha : a.oneCell' = true} {l : List (Nat → Fin 256)} {n : Int} {p : Nat → Fin 256} (hl : l.length ≤ 1048576) : CR Try.prog 11 (vals [.raw a ha, .int .i64 n, .arr8 10 p]) [rd a (.arrs 10 l)] (.tup [.bool (inV l n p), .int .i64 (inK l n p)]) := by
  refine CR_intro (rs := [.tmp 6, .tmp 7]) tt tok Try.func11 rfl rfl rfl (by first | rfl | assumption) fun w => ?_
  refine W_seq ?_
  refine W_region ?_
  refine Ops_x rfl (x_box rfl rfl (lt_dec rfl) fun b5_1 => ?_)
  refine Ops_p (p_assign rfl) (lt_dec rfl) ?_
  refine Ops_p (p_assign rfl) (lt_dec rfl) ?_
  refine Ops_nil ?_
  refine W_seq ?_
  refine W_region ?_
  refine Ops_p (p_move rfl) (lt_dec rfl) ?_
  refine Ops_p (p_move rfl) (lt_dec rfl) ?_
  refine Ops_q (q_call en_spec_l04Code rfl (w_spec_l04Code (by first | assumption | (first | omega | (dsimp only; omega)) | (simp; done) | decide)) (Vw.rd m1).v) (lt_dec rfl) ?_
  refine Ops_p (p_assign rfl) (lt_dec rfl) ?_
  refine Ops_nil ?_
  refine W_seq ?_
  refine W_seq ?_
  refine W_region ?_
  refine Ops_p (p_move rfl) (lt_dec rfl) ?_
  refine Ops_q (q_call en_spec_l01In rfl (w_spec_l01In) (View.none _)) (lt_dec rfl) ?_
  refine Ops_p (p_move rfl) (lt_dec rfl) ?_
  refine Ops_guard rfl rfl (lt_dec rfl) (fun hg1 => ?_) (fun hg1 => ?_)
  · try simp only [bs] at hg1
    refine Ops_q (q_load rfl rfl m0 rfl (by first | exact True.intro | trivial | (first | omega | (dsimp only; omega)) | exact Fin.isLt _ | (dsimp only; omega))) (lt_dec rfl) ?_
    refine Ops_guard_t rfl rfl (lt_dec rfl) ?_
    refine Ops_p (p_move rfl) (lt_dec rfl) ?_
    refine Ops_guard_t rfl rfl (lt_dec rfl) ?_
    refine Ops_q (q_call en_spec_l01Perm rfl (w_spec_l01Perm) (View.none _)) (lt_dec rfl) ?_
    refine Ops_guard_t rfl rfl (lt_dec rfl) ?_
    refine Ops_p (p_not rfl) (lt_dec rfl) ?_
    refine Ops_p (p_pick_t rfl rfl) (lt_dec rfl) ?_
    refine Ops_nil ?_
    refine W_cond rfl (fun h1 => ?_) (fun h1 => ?_)
    · try simp only [bs] at h1
      have hk1 : inK l n p = 1 := (by first | exact inK_1 (by omega) (by assumption) | exact inK_1 (by omega) (by simp_all))
      refine W_region ?_
      refine Ops_p (p_assign rfl) (lt_dec rfl) ?_
      refine Ops_nil ?_
      refine W_seq ?_
      refine W_seq ?_
      refine W_region ?_
      refine Ops_p (p_move rfl) (lt_dec rfl) ?_
      refine Ops_p (p_neq rfl rfl) (lt_dec rfl) ?_
      refine Ops_nil ?_
      refine W_cond rfl (fun h2 => ?_) (fun h2 => ?_)
      · try simp only [bs] at h2
        refine W_seq ?_
        refine W_region ?_
        refine Ops_p (p_move rfl) (lt_dec rfl) ?_
        refine Ops_p (p_assign rfl) (lt_dec rfl) ?_
        refine Ops_p (p_assign rfl) (lt_dec rfl) ?_
        refine Ops_nil ?_
        refine W_ret ?_
        refine Exists.intro _ (And.intro (.cons (.tmp rfl) (.cons (.tmp rfl) .nil)) ?_)
        first | rfl | (refine veq_bool ?_; simp_all; done) | (refine veq_bool ?_; simp; omega) | (refine veq_bool ?_; rw [eq_comm, decide_eq_false_iff_not]; omega) | (refine veq_bool ?_; rw [eq_comm, decide_eq_true_iff]; omega) | (refine veq_int ?_; omega) | (refine veq_arr8 fun j hj => ?_; (try dsimp only); first | (simp; done) | (simp; omega) | ((repeat' split) <;> first | rfl | (exfalso; omega) | (congr 1; omega) | (simp_all; done))) | (exact veq_tup2 (veq_bool (inV_n (by rw [hk1]; decide)).symm) (veq_int hk1.symm)) | (exact veq_tup2 (veq_bool (inV_n hkn).symm) (veq_int hk1.symm)) | (exact veq_tup2 (veq_bool ((Bool.eq_iff_iff.2 ((@decide_eq_true_iff _ (Classical.propDecidable _)).trans (inC hx28.1 hx28.2.1 hx28.2.2.1 hx28.2.2.2 hpp))).trans (inV_0 hk0).symm)) (veq_int hk0.symm))
      · try simp only [bs] at h2
        exfalso; first | omega | exact absurd h2 (by decide)
    · try simp only [bs] at h1
      have hk1 : inK l n p = psC l n := (by first | exact inK_n (by omega) | exact inK_p (by assumption) | exact inK_p (by simp_all))
      refine W_skip ?_
      refine W_seq ?_
      refine W_seq ?_
      refine W_region ?_
      refine Ops_p (p_move rfl) (lt_dec rfl) ?_
      refine Ops_p (p_neq rfl rfl) (lt_dec rfl) ?_
      refine Ops_nil ?_
      refine W_cond rfl (fun h3 => ?_) (fun h3 => ?_)
      · try simp only [bs] at h3
        have hk1 : inK l n p = psC l n := (by first | assumption | exact inK_n (by assumption)); have hkn : inK l n p ≠ 0 := (fun e => by rw [hk1] at e; omega)
        refine W_seq ?_
        refine W_region ?_
        refine Ops_p (p_move rfl) (lt_dec rfl) ?_
        refine Ops_p (p_assign rfl) (lt_dec rfl) ?_
        refine Ops_p (p_assign rfl) (lt_dec rfl) ?_
        refine Ops_nil ?_
        refine W_ret ?_
        refine Exists.intro _ (And.intro (.cons (.tmp rfl) (.cons (.tmp rfl) .nil)) ?_)
        first | rfl | (refine veq_bool ?_; simp_all; done) | (refine veq_bool ?_; simp; omega) | (refine veq_bool ?_; rw [eq_comm, decide_eq_false_iff_not]; omega) | (refine veq_bool ?_; rw [eq_comm, decide_eq_true_iff]; omega) | (refine veq_int ?_; omega) | (refine veq_arr8 fun j hj => ?_; (try dsimp only); first | (simp; done) | (simp; omega) | ((repeat' split) <;> first | rfl | (exfalso; omega) | (congr 1; omega) | (simp_all; done))) | (exact veq_tup2 (veq_bool (inV_n (by rw [hk1]; decide)).symm) (veq_int hk1.symm)) | (exact veq_tup2 (veq_bool (inV_n hkn).symm) (veq_int hk1.symm)) | (exact veq_tup2 (veq_bool ((Bool.eq_iff_iff.2 ((@decide_eq_true_iff _ (Classical.propDecidable _)).trans (inC hx28.1 hx28.2.1 hx28.2.2.1 hx28.2.2.2 hpp))).trans (inV_0 hk0).symm)) (veq_int hk0.symm))
      · try simp only [bs] at h3
        have hk1 : inK l n p = psC l n := (by first | assumption | exact inK_n (by assumption)); have hk0 : inK l n p = 0 := (by rw [hk1]; omega); obtain ⟨h0, hpp⟩ := inK_ok hk0; obtain ⟨m, rfl⟩ := psn h0
        refine W_skip ?_
        refine W_seq ?_
        refine W_draw (by kernel_rfl) ?_
        show RA _ _ 12 _ _ _
        first | refine RA_take 4 rfl rfl rfl (by kernel_rfl) (by kernel_rfl) (by kernel_rfl) (p_move rfl) (lt_dec rfl) ?_
        first | refine RA_take 0 rfl rfl rfl (by kernel_rfl) (by kernel_rfl) (by kernel_rfl) (p_move rfl) (lt_dec rfl) ?_
        first | refine RA_take 1 rfl rfl rfl (by kernel_rfl) (by kernel_rfl) (by kernel_rfl) (p_move rfl) (lt_dec rfl) ?_
        refine RA_three 2 3 9 rfl rfl rfl rfl rfl rfl (by kernel_rfl) ?_ ?_ ?_
        · refine x_callT en_spec_l04Chain rfl (w_spec_l04Chain (n := m) (psC_ok h0).1 (psC_ok h0).2) HpDels.nil (Vw.rd m1) (fun _ => (HpDels.cons HpDel.head HpDels.nil)) (lt_dec rfl) fun x28_1 hx28 => ?_
          refine RA_quietA (g := 4) (hs := [3, 5, 6]) (ia := 9) rfl rfl (lt_dec rfl) (by kernel_rfl) ?_
          refine SQ_cons rfl rfl rfl ((q_load rfl rfl m1 rfl (by first | exact True.intro | trivial | (first | omega | (dsimp only; omega)) | exact Fin.isLt _ | (dsimp only; omega)))) (lt_dec rfl) ?_
          refine SQ_cons rfl rfl rfl ((q_call en_spec_l04Sift rfl (w_spec_l04Sift (n := m) (And.left hx28) hpp) (Vw.rdO m0).v)) (lt_dec rfl) ?_
          refine SQ_cons rfl rfl rfl ((p_move rfl).q) (lt_dec rfl) ?_
          refine SQ_nil ?_
          refine ⟨fun b9_1 => ?_, ?_⟩
          · first | refine RA_take 8 rfl rfl rfl (by kernel_rfl) (by kernel_rfl) (by kernel_rfl) (p_extract rfl rfl) (lt_dec rfl) ?_
            refine RA_quiet (g := 2) [7] (by kernel_rfl) (by kernel_rfl) (by kernel_rfl) (by kernel_rfl) ?_
            refine WQ_cons rfl rfl rfl ((p_extract rfl rfl).q) (lt_dec rfl) ?_
            refine WQ_nil ?_
            refine RA_one 10 rfl rfl (by kernel_rfl) (x_store rfl rfl rfl rfl rfl HpRep.head rfl (by first | trivial | (first | (first | omega | (dsimp only; omega)) | exact Fin.isLt _)) ?_)
            refine RA_quiet (g := 0) [11] (by kernel_rfl) (by kernel_rfl) (by kernel_rfl) (by kernel_rfl) ?_
            refine WQ_cons rfl rfl rfl ((p_assign rfl).q) (lt_dec rfl) ?_
            refine WQ_nil ?_
            refine RA_done (by kernel_rfl) ?_
            refine W_seq ?_
            refine W_draw (by kernel_rfl) ?_
            show RA _ _ 6 _ _ _
            refine RA_quietF [0, 1, 2, 3, 4, 5] rfl rfl rfl (by kernel_rfl) (by kernel_rfl) ?_
            refine WQ_cons rfl rfl rfl ((q_load rfl rfl m0 rfl (by first | exact True.intro | trivial | (first | omega | (dsimp only; omega)) | exact Fin.isLt _ | (dsimp only; omega)))) (lt_dec rfl) ?_
            refine WQ_cons rfl rfl rfl ((p_move rfl).q) (lt_dec rfl) ?_
            refine WQ_cons rfl rfl rfl ((q_call en_spec_l01Same rfl (w_spec_l01Same (psC_ok h0).1.1) (View.none _))) (lt_dec rfl) ?_
            refine WQ_cons rfl rfl rfl ((p_eql8 rfl rfl rfl rfl (by kernel_rfl) (by kernel_rfl) (by kernel_rfl)).q) (lt_dec rfl) ?_
            refine WQ_cons rfl rfl rfl ((p_assign rfl).q) (lt_dec rfl) ?_
            refine WQ_cons rfl rfl rfl ((p_assign rfl).q) (lt_dec rfl) ?_
            refine WQ_nil ?_
            refine W_ret ?_
            refine Exists.intro _ (And.intro (.cons (.tmp rfl) (.cons (.tmp rfl) .nil)) ?_)
            first | rfl | (refine veq_bool ?_; simp_all; done) | (refine veq_bool ?_; simp; omega) | (refine veq_bool ?_; rw [eq_comm, decide_eq_false_iff_not]; omega) | (refine veq_bool ?_; rw [eq_comm, decide_eq_true_iff]; omega) | (refine veq_int ?_; omega) | (refine veq_arr8 fun j hj => ?_; (try dsimp only); first | (simp; done) | (simp; omega) | ((repeat' split) <;> first | rfl | (exfalso; omega) | (congr 1; omega) | (simp_all; done))) | (exact veq_tup2 (veq_bool (inV_n (by rw [hk1]; decide)).symm) (veq_int hk1.symm)) | (exact veq_tup2 (veq_bool (inV_n hkn).symm) (veq_int hk1.symm)) | (exact veq_tup2 (veq_bool ((Bool.eq_iff_iff.2 ((@decide_eq_true_iff _ (Classical.propDecidable _)).trans (inC hx28.1 hx28.2.1 hx28.2.2.1 hx28.2.2.2 hpp))).trans (inV_0 hk0).symm)) (veq_int hk0.symm))
          · first | refine RA_take 7 rfl rfl rfl (by kernel_rfl) (by kernel_rfl) (by kernel_rfl) (p_extract rfl rfl) (lt_dec rfl) ?_
            first | refine RA_take 8 rfl rfl rfl (by kernel_rfl) (by kernel_rfl) (by kernel_rfl) (p_extract rfl rfl) (lt_dec rfl) ?_
            refine RA_one 9 rfl rfl (by kernel_rfl) (x_alloc rfl (lt_dec rfl) fun b9_2 => ?_)
            refine RA_one 10 rfl rfl (by kernel_rfl) (x_store rfl rfl rfl rfl rfl HpRep.head rfl (by first | trivial | (first | (first | omega | (dsimp only; omega)) | exact Fin.isLt _)) ?_)
            refine RA_quiet (g := 0) [11] (by kernel_rfl) (by kernel_rfl) (by kernel_rfl) (by kernel_rfl) ?_
            refine WQ_cons rfl rfl rfl ((p_assign rfl).q) (lt_dec rfl) ?_
            refine WQ_nil ?_
            refine RA_done (by kernel_rfl) ?_
            refine W_seq ?_
            refine W_draw (by kernel_rfl) ?_
            show RA _ _ 6 _ _ _
            refine RA_quietF [0, 1, 2, 3, 4, 5] rfl rfl rfl (by kernel_rfl) (by kernel_rfl) ?_
            refine WQ_cons rfl rfl rfl ((q_load rfl rfl m0 rfl (by first | exact True.intro | trivial | (first | omega | (dsimp only; omega)) | exact Fin.isLt _ | (dsimp only; omega)))) (lt_dec rfl) ?_
            refine WQ_cons rfl rfl rfl ((p_move rfl).q) (lt_dec rfl) ?_
            refine WQ_cons rfl rfl rfl ((q_call en_spec_l01Same rfl (w_spec_l01Same (psC_ok h0).1.1) (View.none _))) (lt_dec rfl) ?_
            refine WQ_cons rfl rfl rfl ((p_eql8 rfl rfl rfl rfl (by kernel_rfl) (by kernel_rfl) (by kernel_rfl)).q) (lt_dec rfl) ?_
            refine WQ_cons rfl rfl rfl ((p_assign rfl).q) (lt_dec rfl) ?_
            refine WQ_cons rfl rfl rfl ((p_assign rfl).q) (lt_dec rfl) ?_
            refine WQ_nil ?_
            refine W_ret ?_
            refine Exists.intro _ (And.intro (.cons (.tmp rfl) (.cons (.tmp rfl) .nil)) ?_)
            first | rfl | (refine veq_bool ?_; simp_all; done) | (refine veq_bool ?_; simp; omega) | (refine veq_bool ?_; rw [eq_comm, decide_eq_false_iff_not]; omega) | (refine veq_bool ?_; rw [eq_comm, decide_eq_true_iff]; omega) | (refine veq_int ?_; omega) | (refine veq_arr8 fun j hj => ?_; (try dsimp only); first | (simp; done) | (simp; omega) | ((repeat' split) <;> first | rfl | (exfalso; omega) | (congr 1; omega) | (simp_all; done))) | (exact veq_tup2 (veq_bool (inV_n (by rw [hk1]; decide)).symm) (veq_int hk1.symm)) | (exact veq_tup2 (veq_bool (inV_n hkn).symm) (veq_int hk1.symm)) | (exact veq_tup2 (veq_bool ((Bool.eq_iff_iff.2 ((@decide_eq_true_iff _ (Classical.propDecidable _)).trans (inC hx28.1 hx28.2.1 hx28.2.2.1 hx28.2.2.2 hpp))).trans (inV_0 hk0).symm)) (veq_int hk0.symm))
        · refine Xt_of_Qt rfl (lt_dec rfl) ((q_load rfl rfl m0 rfl (by first | exact True.intro | trivial | (first | omega | (dsimp only; omega)) | exact Fin.isLt _ | (dsimp only; omega)))) ?_
          refine RA_two 2 9 rfl rfl rfl rfl (by kernel_rfl) ?_ ?_
          · refine x_callT en_spec_l04Chain rfl (w_spec_l04Chain (n := m) (psC_ok h0).1 (psC_ok h0).2) HpDels.nil (Vw.rd m1) (fun _ => (HpDels.cons HpDel.head HpDels.nil)) (lt_dec rfl) fun x28_1 hx28 => ?_
            refine RA_quietA (g := 4) (hs := [5, 6]) (ia := 9) rfl rfl (lt_dec rfl) (by kernel_rfl) ?_
            refine SQ_cons rfl rfl rfl ((q_call en_spec_l04Sift rfl (w_spec_l04Sift (n := m) (And.left hx28) hpp) (Vw.rdO m0).v)) (lt_dec rfl) ?_
            refine SQ_cons rfl rfl rfl ((p_move rfl).q) (lt_dec rfl) ?_
            refine SQ_nil ?_
            refine ⟨fun b9_3 => ?_, ?_⟩
            · first | refine RA_take 8 rfl rfl rfl (by kernel_rfl) (by kernel_rfl) (by kernel_rfl) (p_extract rfl rfl) (lt_dec rfl) ?_
              refine RA_quiet (g := 2) [7] (by kernel_rfl) (by kernel_rfl) (by kernel_rfl) (by kernel_rfl) ?_
              refine WQ_cons rfl rfl rfl ((p_extract rfl rfl).q) (lt_dec rfl) ?_
              refine WQ_nil ?_
              refine RA_one 10 rfl rfl (by kernel_rfl) (x_store rfl rfl rfl rfl rfl HpRep.head rfl (by first | trivial | (first | (first | omega | (dsimp only; omega)) | exact Fin.isLt _)) ?_)
              refine RA_quiet (g := 0) [11] (by kernel_rfl) (by kernel_rfl) (by kernel_rfl) (by kernel_rfl) ?_
              refine WQ_cons rfl rfl rfl ((p_assign rfl).q) (lt_dec rfl) ?_
              refine WQ_nil ?_
              refine RA_done (by kernel_rfl) ?_
              refine W_seq ?_
              refine W_draw (by kernel_rfl) ?_
              show RA _ _ 6 _ _ _
              refine RA_quietF [0, 1, 2, 3, 4, 5] rfl rfl rfl (by kernel_rfl) (by kernel_rfl) ?_
              refine WQ_cons rfl rfl rfl ((q_load rfl rfl m0 rfl (by first | exact True.intro | trivial | (first | omega | (dsimp only; omega)) | exact Fin.isLt _ | (dsimp only; omega)))) (lt_dec rfl) ?_
              refine WQ_cons rfl rfl rfl ((p_move rfl).q) (lt_dec rfl) ?_
              refine WQ_cons rfl rfl rfl ((q_call en_spec_l01Same rfl (w_spec_l01Same (psC_ok h0).1.1) (View.none _))) (lt_dec rfl) ?_
              refine WQ_cons rfl rfl rfl ((p_eql8 rfl rfl rfl rfl (by kernel_rfl) (by kernel_rfl) (by kernel_rfl)).q) (lt_dec rfl) ?_
              refine WQ_cons rfl rfl rfl ((p_assign rfl).q) (lt_dec rfl) ?_
              refine WQ_cons rfl rfl rfl ((p_assign rfl).q) (lt_dec rfl) ?_
              refine WQ_nil ?_
              refine W_ret ?_
              refine Exists.intro _ (And.intro (.cons (.tmp rfl) (.cons (.tmp rfl) .nil)) ?_)
              first | rfl | (refine veq_bool ?_; simp_all; done) | (refine veq_bool ?_; simp; omega) | (refine veq_bool ?_; rw [eq_comm, decide_eq_false_iff_not]; omega) | (refine veq_bool ?_; rw [eq_comm, decide_eq_true_iff]; omega) | (refine veq_int ?_; omega) | (refine veq_arr8 fun j hj => ?_; (try dsimp only); first | (simp; done) | (simp; omega) | ((repeat' split) <;> first | rfl | (exfalso; omega) | (congr 1; omega) | (simp_all; done))) | (exact veq_tup2 (veq_bool (inV_n (by rw [hk1]; decide)).symm) (veq_int hk1.symm)) | (exact veq_tup2 (veq_bool (inV_n hkn).symm) (veq_int hk1.symm)) | (exact veq_tup2 (veq_bool ((Bool.eq_iff_iff.2 ((@decide_eq_true_iff _ (Classical.propDecidable _)).trans (inC hx28.1 hx28.2.1 hx28.2.2.1 hx28.2.2.2 hpp))).trans (inV_0 hk0).symm)) (veq_int hk0.symm))
            · first | refine RA_take 7 rfl rfl rfl (by kernel_rfl) (by kernel_rfl) (by kernel_rfl) (p_extract rfl rfl) (lt_dec rfl) ?_
              first | refine RA_take 8 rfl rfl rfl (by kernel_rfl) (by kernel_rfl) (by kernel_rfl) (p_extract rfl rfl) (lt_dec rfl) ?_
              refine RA_one 9 rfl rfl (by kernel_rfl) (x_alloc rfl (lt_dec rfl) fun b9_4 => ?_)
              refine RA_one 10 rfl rfl (by kernel_rfl) (x_store rfl rfl rfl rfl rfl HpRep.head rfl (by first | trivial | (first | (first | omega | (dsimp only; omega)) | exact Fin.isLt _)) ?_)
              refine RA_quiet (g := 0) [11] (by kernel_rfl) (by kernel_rfl) (by kernel_rfl) (by kernel_rfl) ?_
              refine WQ_cons rfl rfl rfl ((p_assign rfl).q) (lt_dec rfl) ?_
              refine WQ_nil ?_
              refine RA_done (by kernel_rfl) ?_
              refine W_seq ?_
              refine W_draw (by kernel_rfl) ?_
              show RA _ _ 6 _ _ _
              refine RA_quietF [0, 1, 2, 3, 4, 5] rfl rfl rfl (by kernel_rfl) (by kernel_rfl) ?_
              refine WQ_cons rfl rfl rfl ((q_load rfl rfl m0 rfl (by first | exact True.intro | trivial | (first | omega | (dsimp only; omega)) | exact Fin.isLt _ | (dsimp only; omega)))) (lt_dec rfl) ?_
              refine WQ_cons rfl rfl rfl ((p_move rfl).q) (lt_dec rfl) ?_
              refine WQ_cons rfl rfl rfl ((q_call en_spec_l01Same rfl (w_spec_l01Same (psC_ok h0).1.1) (View.none _))) (lt_dec rfl) ?_
              refine WQ_cons rfl rfl rfl ((p_eql8 rfl rfl rfl rfl (by kernel_rfl) (by kernel_rfl) (by kernel_rfl)).q) (lt_dec rfl) ?_
              refine WQ_cons rfl rfl rfl ((p_assign rfl).q) (lt_dec rfl) ?_
              refine WQ_cons rfl rfl rfl ((p_assign rfl).q) (lt_dec rfl) ?_
              refine WQ_nil ?_
              refine W_ret ?_
              refine Exists.intro _ (And.intro (.cons (.tmp rfl) (.cons (.tmp rfl) .nil)) ?_)
              first | rfl | (refine veq_bool ?_; simp_all; done) | (refine veq_bool ?_; simp; omega) | (refine veq_bool ?_; rw [eq_comm, decide_eq_false_iff_not]; omega) | (refine veq_bool ?_; rw [eq_comm, decide_eq_true_iff]; omega) | (refine veq_int ?_; omega) | (refine veq_arr8 fun j hj => ?_; (try dsimp only); first | (simp; done) | (simp; omega) | ((repeat' split) <;> first | rfl | (exfalso; omega) | (congr 1; omega) | (simp_all; done))) | (exact veq_tup2 (veq_bool (inV_n (by rw [hk1]; decide)).symm) (veq_int hk1.symm)) | (exact veq_tup2 (veq_bool (inV_n hkn).symm) (veq_int hk1.symm)) | (exact veq_tup2 (veq_bool ((Bool.eq_iff_iff.2 ((@decide_eq_true_iff _ (Classical.propDecidable _)).trans (inC hx28.1 hx28.2.1 hx28.2.2.1 hx28.2.2.2 hpp))).trans (inV_0 hk0).symm)) (veq_int hk0.symm))
          · refine x_alloc rfl (lt_dec rfl) fun b9_5 => ?_
            refine RA_one 2 rfl rfl (by kernel_rfl) (x_callT en_spec_l04Chain rfl (w_spec_l04Chain (n := m) (psC_ok h0).1 (psC_ok h0).2) HpDels.nil (Vw.rd m2) (fun _ => (HpDels.cons HpDel.head HpDels.nil)) (lt_dec rfl) fun x28_1 hx28 => ?_)
            refine RA_quiet (g := 4) [5, 6] (by kernel_rfl) (by kernel_rfl) (by kernel_rfl) (by kernel_rfl) ?_
            refine WQ_cons rfl rfl rfl ((q_call en_spec_l04Sift rfl (w_spec_l04Sift (n := m) (And.left hx28) hpp) (Vw.rdO m0).v)) (lt_dec rfl) ?_
            refine WQ_cons rfl rfl rfl ((p_move rfl).q) (lt_dec rfl) ?_
            refine WQ_nil ?_
            first | refine RA_take 8 rfl rfl rfl (by kernel_rfl) (by kernel_rfl) (by kernel_rfl) (p_extract rfl rfl) (lt_dec rfl) ?_
            refine RA_quiet (g := 2) [7] (by kernel_rfl) (by kernel_rfl) (by kernel_rfl) (by kernel_rfl) ?_
            refine WQ_cons rfl rfl rfl ((p_extract rfl rfl).q) (lt_dec rfl) ?_
            refine WQ_nil ?_
            refine RA_one 10 rfl rfl (by kernel_rfl) (x_store rfl rfl rfl rfl rfl ((HpRep.head).tail) rfl (by first | trivial | (first | (first | omega | (dsimp only; omega)) | exact Fin.isLt _)) ?_)
            refine RA_quiet (g := 0) [11] (by kernel_rfl) (by kernel_rfl) (by kernel_rfl) (by kernel_rfl) ?_
            refine WQ_cons rfl rfl rfl ((p_assign rfl).q) (lt_dec rfl) ?_
            refine WQ_nil ?_
            refine RA_done (by kernel_rfl) ?_
            refine W_seq ?_
            refine W_draw (by kernel_rfl) ?_
            show RA _ _ 6 _ _ _
            refine RA_quietF [0, 1, 2, 3, 4, 5] rfl rfl rfl (by kernel_rfl) (by kernel_rfl) ?_
            refine WQ_cons rfl rfl rfl ((q_load rfl rfl m1 rfl (by first | exact True.intro | trivial | (first | omega | (dsimp only; omega)) | exact Fin.isLt _ | (dsimp only; omega)))) (lt_dec rfl) ?_
            refine WQ_cons rfl rfl rfl ((p_move rfl).q) (lt_dec rfl) ?_
            refine WQ_cons rfl rfl rfl ((q_call en_spec_l01Same rfl (w_spec_l01Same (psC_ok h0).1.1) (View.none _))) (lt_dec rfl) ?_
            refine WQ_cons rfl rfl rfl ((p_eql8 rfl rfl rfl rfl (by kernel_rfl) (by kernel_rfl) (by kernel_rfl)).q) (lt_dec rfl) ?_
            refine WQ_cons rfl rfl rfl ((p_assign rfl).q) (lt_dec rfl) ?_
            refine WQ_cons rfl rfl rfl ((p_assign rfl).q) (lt_dec rfl) ?_
            refine WQ_nil ?_
            refine W_ret ?_
            refine Exists.intro _ (And.intro (.cons (.tmp rfl) (.cons (.tmp rfl) .nil)) ?_)
            first | rfl | (refine veq_bool ?_; simp_all; done) | (refine veq_bool ?_; simp; omega) | (refine veq_bool ?_; rw [eq_comm, decide_eq_false_iff_not]; omega) | (refine veq_bool ?_; rw [eq_comm, decide_eq_true_iff]; omega) | (refine veq_int ?_; omega) | (refine veq_arr8 fun j hj => ?_; (try dsimp only); first | (simp; done) | (simp; omega) | ((repeat' split) <;> first | rfl | (exfalso; omega) | (congr 1; omega) | (simp_all; done))) | (exact veq_tup2 (veq_bool (inV_n (by rw [hk1]; decide)).symm) (veq_int hk1.symm)) | (exact veq_tup2 (veq_bool (inV_n hkn).symm) (veq_int hk1.symm)) | (exact veq_tup2 (veq_bool ((Bool.eq_iff_iff.2 ((@decide_eq_true_iff _ (Classical.propDecidable _)).trans (inC hx28.1 hx28.2.1 hx28.2.2.1 hx28.2.2.2 hpp))).trans (inV_0 hk0).symm)) (veq_int hk0.symm))
        · refine x_alloc rfl (lt_dec rfl) fun b9_6 => ?_
          refine RA_two 2 3 rfl rfl rfl rfl (by kernel_rfl) ?_ ?_
          · refine x_callT en_spec_l04Chain rfl (w_spec_l04Chain (n := m) (psC_ok h0).1 (psC_ok h0).2) HpDels.nil (Vw.rd m2) (fun _ => (HpDels.cons HpDel.head HpDels.nil)) (lt_dec rfl) fun x28_1 hx28 => ?_
            refine RA_quiet (g := 4) [3, 5, 6] (by kernel_rfl) (by kernel_rfl) (by kernel_rfl) (by kernel_rfl) ?_
            refine WQ_cons rfl rfl rfl ((q_load rfl rfl m2 rfl (by first | exact True.intro | trivial | (first | omega | (dsimp only; omega)) | exact Fin.isLt _ | (dsimp only; omega)))) (lt_dec rfl) ?_
            refine WQ_cons rfl rfl rfl ((q_call en_spec_l04Sift rfl (w_spec_l04Sift (n := m) (And.left hx28) hpp) (Vw.rdO m0).v)) (lt_dec rfl) ?_
            refine WQ_cons rfl rfl rfl ((p_move rfl).q) (lt_dec rfl) ?_
            refine WQ_nil ?_
            first | refine RA_take 8 rfl rfl rfl (by kernel_rfl) (by kernel_rfl) (by kernel_rfl) (p_extract rfl rfl) (lt_dec rfl) ?_
            refine RA_quiet (g := 2) [7] (by kernel_rfl) (by kernel_rfl) (by kernel_rfl) (by kernel_rfl) ?_
            refine WQ_cons rfl rfl rfl ((p_extract rfl rfl).q) (lt_dec rfl) ?_
            refine WQ_nil ?_
            refine RA_one 10 rfl rfl (by kernel_rfl) (x_store rfl rfl rfl rfl rfl ((HpRep.head).tail) rfl (by first | trivial | (first | (first | omega | (dsimp only; omega)) | exact Fin.isLt _)) ?_)
            refine RA_quiet (g := 0) [11] (by kernel_rfl) (by kernel_rfl) (by kernel_rfl) (by kernel_rfl) ?_
            refine WQ_cons rfl rfl rfl ((p_assign rfl).q) (lt_dec rfl) ?_
            refine WQ_nil ?_
            refine RA_done (by kernel_rfl) ?_
            refine W_seq ?_
            refine W_draw (by kernel_rfl) ?_
            show RA _ _ 6 _ _ _
            refine RA_quietF [0, 1, 2, 3, 4, 5] rfl rfl rfl (by kernel_rfl) (by kernel_rfl) ?_
            refine WQ_cons rfl rfl rfl ((q_load rfl rfl m1 rfl (by first | exact True.intro | trivial | (first | omega | (dsimp only; omega)) | exact Fin.isLt _ | (dsimp only; omega)))) (lt_dec rfl) ?_
            refine WQ_cons rfl rfl rfl ((p_move rfl).q) (lt_dec rfl) ?_
            refine WQ_cons rfl rfl rfl ((q_call en_spec_l01Same rfl (w_spec_l01Same (psC_ok h0).1.1) (View.none _))) (lt_dec rfl) ?_
            refine WQ_cons rfl rfl rfl ((p_eql8 rfl rfl rfl rfl (by kernel_rfl) (by kernel_rfl) (by kernel_rfl)).q) (lt_dec rfl) ?_
            refine WQ_cons rfl rfl rfl ((p_assign rfl).q) (lt_dec rfl) ?_
            refine WQ_cons rfl rfl rfl ((p_assign rfl).q) (lt_dec rfl) ?_
            refine WQ_nil ?_
            refine W_ret ?_
            refine Exists.intro _ (And.intro (.cons (.tmp rfl) (.cons (.tmp rfl) .nil)) ?_)
            first | rfl | (refine veq_bool ?_; simp_all; done) | (refine veq_bool ?_; simp; omega) | (refine veq_bool ?_; rw [eq_comm, decide_eq_false_iff_not]; omega) | (refine veq_bool ?_; rw [eq_comm, decide_eq_true_iff]; omega) | (refine veq_int ?_; omega) | (refine veq_arr8 fun j hj => ?_; (try dsimp only); first | (simp; done) | (simp; omega) | ((repeat' split) <;> first | rfl | (exfalso; omega) | (congr 1; omega) | (simp_all; done))) | (exact veq_tup2 (veq_bool (inV_n (by rw [hk1]; decide)).symm) (veq_int hk1.symm)) | (exact veq_tup2 (veq_bool (inV_n hkn).symm) (veq_int hk1.symm)) | (exact veq_tup2 (veq_bool ((Bool.eq_iff_iff.2 ((@decide_eq_true_iff _ (Classical.propDecidable _)).trans (inC hx28.1 hx28.2.1 hx28.2.2.1 hx28.2.2.2 hpp))).trans (inV_0 hk0).symm)) (veq_int hk0.symm))
          · refine Xt_of_Qt rfl (lt_dec rfl) ((q_load rfl rfl m1 rfl (by first | exact True.intro | trivial | (first | omega | (dsimp only; omega)) | exact Fin.isLt _ | (dsimp only; omega)))) ?_
            refine RA_one 2 rfl rfl (by kernel_rfl) (x_callT en_spec_l04Chain rfl (w_spec_l04Chain (n := m) (psC_ok h0).1 (psC_ok h0).2) HpDels.nil (Vw.rd m2) (fun _ => (HpDels.cons HpDel.head HpDels.nil)) (lt_dec rfl) fun x28_1 hx28 => ?_)
            refine RA_quiet (g := 4) [5, 6] (by kernel_rfl) (by kernel_rfl) (by kernel_rfl) (by kernel_rfl) ?_
            refine WQ_cons rfl rfl rfl ((q_call en_spec_l04Sift rfl (w_spec_l04Sift (n := m) (And.left hx28) hpp) (Vw.rdO m0).v)) (lt_dec rfl) ?_
            refine WQ_cons rfl rfl rfl ((p_move rfl).q) (lt_dec rfl) ?_
            refine WQ_nil ?_
            first | refine RA_take 8 rfl rfl rfl (by kernel_rfl) (by kernel_rfl) (by kernel_rfl) (p_extract rfl rfl) (lt_dec rfl) ?_
            refine RA_quiet (g := 2) [7] (by kernel_rfl) (by kernel_rfl) (by kernel_rfl) (by kernel_rfl) ?_
            refine WQ_cons rfl rfl rfl ((p_extract rfl rfl).q) (lt_dec rfl) ?_
            refine WQ_nil ?_
            refine RA_one 10 rfl rfl (by kernel_rfl) (x_store rfl rfl rfl rfl rfl ((HpRep.head).tail) rfl (by first | trivial | (first | (first | omega | (dsimp only; omega)) | exact Fin.isLt _)) ?_)
            refine RA_quiet (g := 0) [11] (by kernel_rfl) (by kernel_rfl) (by kernel_rfl) (by kernel_rfl) ?_
            refine WQ_cons rfl rfl rfl ((p_assign rfl).q) (lt_dec rfl) ?_
            refine WQ_nil ?_
            refine RA_done (by kernel_rfl) ?_
            refine W_seq ?_
            refine W_draw (by kernel_rfl) ?_
            show RA _ _ 6 _ _ _
            refine RA_quietF [0, 1, 2, 3, 4, 5] rfl rfl rfl (by kernel_rfl) (by kernel_rfl) ?_
            refine WQ_cons rfl rfl rfl ((q_load rfl rfl m1 rfl (by first | exact True.intro | trivial | (first | omega | (dsimp only; omega)) | exact Fin.isLt _ | (dsimp only; omega)))) (lt_dec rfl) ?_
            refine WQ_cons rfl rfl rfl ((p_move rfl).q) (lt_dec rfl) ?_
            refine WQ_cons rfl rfl rfl ((q_call en_spec_l01Same rfl (w_spec_l01Same (psC_ok h0).1.1) (View.none _))) (lt_dec rfl) ?_
            refine WQ_cons rfl rfl rfl ((p_eql8 rfl rfl rfl rfl (by kernel_rfl) (by kernel_rfl) (by kernel_rfl)).q) (lt_dec rfl) ?_
            refine WQ_cons rfl rfl rfl ((p_assign rfl).q) (lt_dec rfl) ?_
            refine WQ_cons rfl rfl rfl ((p_assign rfl).q) (lt_dec rfl) ?_
            refine WQ_nil ?_
            refine W_ret ?_
            refine Exists.intro _ (And.intro (.cons (.tmp rfl) (.cons (.tmp rfl) .nil)) ?_)
            first | rfl | (refine veq_bool ?_; simp_all; done) | (refine veq_bool ?_; simp; omega) | (refine veq_bool ?_; rw [eq_comm, decide_eq_false_iff_not]; omega) | (refine veq_bool ?_; rw [eq_comm, decide_eq_true_iff]; omega) | (refine veq_int ?_; omega) | (refine veq_arr8 fun j hj => ?_; (try dsimp only); first | (simp; done) | (simp; omega) | ((repeat' split) <;> first | rfl | (exfalso; omega) | (congr 1; omega) | (simp_all; done))) | (exact veq_tup2 (veq_bool (inV_n (by rw [hk1]; decide)).symm) (veq_int hk1.symm)) | (exact veq_tup2 (veq_bool (inV_n hkn).symm) (veq_int hk1.symm)) | (exact veq_tup2 (veq_bool ((Bool.eq_iff_iff.2 ((@decide_eq_true_iff _ (Classical.propDecidable _)).trans (inC hx28.1 hx28.2.1 hx28.2.2.1 hx28.2.2.2 hpp))).trans (inV_0 hk0).symm)) (veq_int hk0.symm))
  · try simp only [bs] at hg1
    refine Ops_guard_f rfl rfl rfl (lt_dec rfl) ?_
    refine Ops_guard_f rfl rfl rfl (lt_dec rfl) ?_
    refine Ops_guard_f rfl rfl rfl (lt_dec rfl) ?_
    refine Ops_p (p_pick_f rfl rfl) (lt_dec rfl) ?_
    refine Ops_nil ?_
    refine W_false rfl ?_
    refine W_skip ?_
    refine W_seq ?_
    refine W_seq ?_
    refine W_region ?_
    refine Ops_p (p_move rfl) (lt_dec rfl) ?_
    refine Ops_p (p_neq rfl rfl) (lt_dec rfl) ?_
    refine Ops_nil ?_
    refine W_cond rfl (fun h4 => ?_) (fun h4 => ?_)
    · try simp only [bs] at h4
      have hk1 : inK l n p = psC l n := (by first | assumption | exact inK_n (by assumption)); have hkn : inK l n p ≠ 0 := (fun e => by rw [hk1] at e; omega)
      refine W_seq ?_
      refine W_region ?_
      refine Ops_p (p_move rfl) (lt_dec rfl) ?_
      refine Ops_p (p_assign rfl) (lt_dec rfl) ?_
      refine Ops_p (p_assign rfl) (lt_dec rfl) ?_
      refine Ops_nil ?_
      refine W_ret ?_
      refine Exists.intro _ (And.intro (.cons (.tmp rfl) (.cons (.tmp rfl) .nil)) ?_)
      first | rfl | (refine veq_bool ?_; simp_all; done) | (refine veq_bool ?_; simp; omega) | (refine veq_bool ?_; rw [eq_comm, decide_eq_false_iff_not]; omega) | (refine veq_bool ?_; rw [eq_comm, decide_eq_true_iff]; omega) | (refine veq_int ?_; omega) | (refine veq_arr8 fun j hj => ?_; (try dsimp only); first | (simp; done) | (simp; omega) | ((repeat' split) <;> first | rfl | (exfalso; omega) | (congr 1; omega) | (simp_all; done))) | (exact veq_tup2 (veq_bool (inV_n (by rw [hk1]; decide)).symm) (veq_int hk1.symm)) | (exact veq_tup2 (veq_bool (inV_n hkn).symm) (veq_int hk1.symm)) | (exact veq_tup2 (veq_bool ((Bool.eq_iff_iff.2 ((@decide_eq_true_iff _ (Classical.propDecidable _)).trans (inC hx28.1 hx28.2.1 hx28.2.2.1 hx28.2.2.2 hpp))).trans (inV_0 hk0).symm)) (veq_int hk0.symm))
    · try simp only [bs] at h4
      have hk1 : inK l n p = psC l n := (by first | assumption | exact inK_n (by assumption)); have hk0 : inK l n p = 0 := (by rw [hk1]; omega); obtain ⟨h0, hpp⟩ := inK_ok hk0; obtain ⟨m, rfl⟩ := psn h0
      refine W_skip ?_
      refine W_seq ?_
      refine W_draw (by kernel_rfl) ?_
      show RA _ _ 12 _ _ _
      first | refine RA_take 4 rfl rfl rfl (by kernel_rfl) (by kernel_rfl) (by kernel_rfl) (p_move rfl) (lt_dec rfl) ?_
      first | refine RA_take 0 rfl rfl rfl (by kernel_rfl) (by kernel_rfl) (by kernel_rfl) (p_move rfl) (lt_dec rfl) ?_
      first | refine RA_take 1 rfl rfl rfl (by kernel_rfl) (by kernel_rfl) (by kernel_rfl) (p_move rfl) (lt_dec rfl) ?_
      refine RA_three 2 3 9 rfl rfl rfl rfl rfl rfl (by kernel_rfl) ?_ ?_ ?_
      · refine x_callT en_spec_l04Chain rfl (w_spec_l04Chain (n := m) (psC_ok h0).1 (psC_ok h0).2) HpDels.nil (Vw.rd m1) (fun _ => (HpDels.cons HpDel.head HpDels.nil)) (lt_dec rfl) fun x28_1 hx28 => ?_
        refine RA_quietA (g := 4) (hs := [3, 5, 6]) (ia := 9) rfl rfl (lt_dec rfl) (by kernel_rfl) ?_
        refine SQ_cons rfl rfl rfl ((q_load rfl rfl m1 rfl (by first | exact True.intro | trivial | (first | omega | (dsimp only; omega)) | exact Fin.isLt _ | (dsimp only; omega)))) (lt_dec rfl) ?_
        refine SQ_cons rfl rfl rfl ((q_call en_spec_l04Sift rfl (w_spec_l04Sift (n := m) (And.left hx28) hpp) (Vw.rdO m0).v)) (lt_dec rfl) ?_
        refine SQ_cons rfl rfl rfl ((p_move rfl).q) (lt_dec rfl) ?_
        refine SQ_nil ?_
        refine ⟨fun b9_7 => ?_, ?_⟩
        · first | refine RA_take 8 rfl rfl rfl (by kernel_rfl) (by kernel_rfl) (by kernel_rfl) (p_extract rfl rfl) (lt_dec rfl) ?_
          refine RA_quiet (g := 2) [7] (by kernel_rfl) (by kernel_rfl) (by kernel_rfl) (by kernel_rfl) ?_
          refine WQ_cons rfl rfl rfl ((p_extract rfl rfl).q) (lt_dec rfl) ?_
          refine WQ_nil ?_
          refine RA_one 10 rfl rfl (by kernel_rfl) (x_store rfl rfl rfl rfl rfl HpRep.head rfl (by first | trivial | (first | (first | omega | (dsimp only; omega)) | exact Fin.isLt _)) ?_)
          refine RA_quiet (g := 0) [11] (by kernel_rfl) (by kernel_rfl) (by kernel_rfl) (by kernel_rfl) ?_
          refine WQ_cons rfl rfl rfl ((p_assign rfl).q) (lt_dec rfl) ?_
          refine WQ_nil ?_
          refine RA_done (by kernel_rfl) ?_
          refine W_seq ?_
          refine W_draw (by kernel_rfl) ?_
          show RA _ _ 6 _ _ _
          refine RA_quietF [0, 1, 2, 3, 4, 5] rfl rfl rfl (by kernel_rfl) (by kernel_rfl) ?_
          refine WQ_cons rfl rfl rfl ((q_load rfl rfl m0 rfl (by first | exact True.intro | trivial | (first | omega | (dsimp only; omega)) | exact Fin.isLt _ | (dsimp only; omega)))) (lt_dec rfl) ?_
          refine WQ_cons rfl rfl rfl ((p_move rfl).q) (lt_dec rfl) ?_
          refine WQ_cons rfl rfl rfl ((q_call en_spec_l01Same rfl (w_spec_l01Same (psC_ok h0).1.1) (View.none _))) (lt_dec rfl) ?_
          refine WQ_cons rfl rfl rfl ((p_eql8 rfl rfl rfl rfl (by kernel_rfl) (by kernel_rfl) (by kernel_rfl)).q) (lt_dec rfl) ?_
          refine WQ_cons rfl rfl rfl ((p_assign rfl).q) (lt_dec rfl) ?_
          refine WQ_cons rfl rfl rfl ((p_assign rfl).q) (lt_dec rfl) ?_
          refine WQ_nil ?_
          refine W_ret ?_
          refine Exists.intro _ (And.intro (.cons (.tmp rfl) (.cons (.tmp rfl) .nil)) ?_)
          first | rfl | (refine veq_bool ?_; simp_all; done) | (refine veq_bool ?_; simp; omega) | (refine veq_bool ?_; rw [eq_comm, decide_eq_false_iff_not]; omega) | (refine veq_bool ?_; rw [eq_comm, decide_eq_true_iff]; omega) | (refine veq_int ?_; omega) | (refine veq_arr8 fun j hj => ?_; (try dsimp only); first | (simp; done) | (simp; omega) | ((repeat' split) <;> first | rfl | (exfalso; omega) | (congr 1; omega) | (simp_all; done))) | (exact veq_tup2 (veq_bool (inV_n (by rw [hk1]; decide)).symm) (veq_int hk1.symm)) | (exact veq_tup2 (veq_bool (inV_n hkn).symm) (veq_int hk1.symm)) | (exact veq_tup2 (veq_bool ((Bool.eq_iff_iff.2 ((@decide_eq_true_iff _ (Classical.propDecidable _)).trans (inC hx28.1 hx28.2.1 hx28.2.2.1 hx28.2.2.2 hpp))).trans (inV_0 hk0).symm)) (veq_int hk0.symm))
        · first | refine RA_take 7 rfl rfl rfl (by kernel_rfl) (by kernel_rfl) (by kernel_rfl) (p_extract rfl rfl) (lt_dec rfl) ?_
          first | refine RA_take 8 rfl rfl rfl (by kernel_rfl) (by kernel_rfl) (by kernel_rfl) (p_extract rfl rfl) (lt_dec rfl) ?_
          refine RA_one 9 rfl rfl (by kernel_rfl) (x_alloc rfl (lt_dec rfl) fun b9_8 => ?_)
          refine RA_one 10 rfl rfl (by kernel_rfl) (x_store rfl rfl rfl rfl rfl HpRep.head rfl (by first | trivial | (first | (first | omega | (dsimp only; omega)) | exact Fin.isLt _)) ?_)
          refine RA_quiet (g := 0) [11] (by kernel_rfl) (by kernel_rfl) (by kernel_rfl) (by kernel_rfl) ?_
          refine WQ_cons rfl rfl rfl ((p_assign rfl).q) (lt_dec rfl) ?_
          refine WQ_nil ?_
          refine RA_done (by kernel_rfl) ?_
          refine W_seq ?_
          refine W_draw (by kernel_rfl) ?_
          show RA _ _ 6 _ _ _
          refine RA_quietF [0, 1, 2, 3, 4, 5] rfl rfl rfl (by kernel_rfl) (by kernel_rfl) ?_
          refine WQ_cons rfl rfl rfl ((q_load rfl rfl m0 rfl (by first | exact True.intro | trivial | (first | omega | (dsimp only; omega)) | exact Fin.isLt _ | (dsimp only; omega)))) (lt_dec rfl) ?_
          refine WQ_cons rfl rfl rfl ((p_move rfl).q) (lt_dec rfl) ?_
          refine WQ_cons rfl rfl rfl ((q_call en_spec_l01Same rfl (w_spec_l01Same (psC_ok h0).1.1) (View.none _))) (lt_dec rfl) ?_
          refine WQ_cons rfl rfl rfl ((p_eql8 rfl rfl rfl rfl (by kernel_rfl) (by kernel_rfl) (by kernel_rfl)).q) (lt_dec rfl) ?_
          refine WQ_cons rfl rfl rfl ((p_assign rfl).q) (lt_dec rfl) ?_
          refine WQ_cons rfl rfl rfl ((p_assign rfl).q) (lt_dec rfl) ?_
          refine WQ_nil ?_
          refine W_ret ?_
          refine Exists.intro _ (And.intro (.cons (.tmp rfl) (.cons (.tmp rfl) .nil)) ?_)
          first | rfl | (refine veq_bool ?_; simp_all; done) | (refine veq_bool ?_; simp; omega) | (refine veq_bool ?_; rw [eq_comm, decide_eq_false_iff_not]; omega) | (refine veq_bool ?_; rw [eq_comm, decide_eq_true_iff]; omega) | (refine veq_int ?_; omega) | (refine veq_arr8 fun j hj => ?_; (try dsimp only); first | (simp; done) | (simp; omega) | ((repeat' split) <;> first | rfl | (exfalso; omega) | (congr 1; omega) | (simp_all; done))) | (exact veq_tup2 (veq_bool (inV_n (by rw [hk1]; decide)).symm) (veq_int hk1.symm)) | (exact veq_tup2 (veq_bool (inV_n hkn).symm) (veq_int hk1.symm)) | (exact veq_tup2 (veq_bool ((Bool.eq_iff_iff.2 ((@decide_eq_true_iff _ (Classical.propDecidable _)).trans (inC hx28.1 hx28.2.1 hx28.2.2.1 hx28.2.2.2 hpp))).trans (inV_0 hk0).symm)) (veq_int hk0.symm))
      · refine Xt_of_Qt rfl (lt_dec rfl) ((q_load rfl rfl m0 rfl (by first | exact True.intro | trivial | (first | omega | (dsimp only; omega)) | exact Fin.isLt _ | (dsimp only; omega)))) ?_
        refine RA_two 2 9 rfl rfl rfl rfl (by kernel_rfl) ?_ ?_
        · refine x_callT en_spec_l04Chain rfl (w_spec_l04Chain (n := m) (psC_ok h0).1 (psC_ok h0).2) HpDels.nil (Vw.rd m1) (fun _ => (HpDels.cons HpDel.head HpDels.nil)) (lt_dec rfl) fun x28_1 hx28 => ?_
          refine RA_quietA (g := 4) (hs := [5, 6]) (ia := 9) rfl rfl (lt_dec rfl) (by kernel_rfl) ?_
          refine SQ_cons rfl rfl rfl ((q_call en_spec_l04Sift rfl (w_spec_l04Sift (n := m) (And.left hx28) hpp) (Vw.rdO m0).v)) (lt_dec rfl) ?_
          refine SQ_cons rfl rfl rfl ((p_move rfl).q) (lt_dec rfl) ?_
          refine SQ_nil ?_
          refine ⟨fun b9_9 => ?_, ?_⟩
          · first | refine RA_take 8 rfl rfl rfl (by kernel_rfl) (by kernel_rfl) (by kernel_rfl) (p_extract rfl rfl) (lt_dec rfl) ?_
            refine RA_quiet (g := 2) [7] (by kernel_rfl) (by kernel_rfl) (by kernel_rfl) (by kernel_rfl) ?_
            refine WQ_cons rfl rfl rfl ((p_extract rfl rfl).q) (lt_dec rfl) ?_
            refine WQ_nil ?_
            refine RA_one 10 rfl rfl (by kernel_rfl) (x_store rfl rfl rfl rfl rfl HpRep.head rfl (by first | trivial | (first | (first | omega | (dsimp only; omega)) | exact Fin.isLt _)) ?_)
            refine RA_quiet (g := 0) [11] (by kernel_rfl) (by kernel_rfl) (by kernel_rfl) (by kernel_rfl) ?_
            refine WQ_cons rfl rfl rfl ((p_assign rfl).q) (lt_dec rfl) ?_
            refine WQ_nil ?_
            refine RA_done (by kernel_rfl) ?_
            refine W_seq ?_
            refine W_draw (by kernel_rfl) ?_
            show RA _ _ 6 _ _ _
            refine RA_quietF [0, 1, 2, 3, 4, 5] rfl rfl rfl (by kernel_rfl) (by kernel_rfl) ?_
            refine WQ_cons rfl rfl rfl ((q_load rfl rfl m0 rfl (by first | exact True.intro | trivial | (first | omega | (dsimp only; omega)) | exact Fin.isLt _ | (dsimp only; omega)))) (lt_dec rfl) ?_
            refine WQ_cons rfl rfl rfl ((p_move rfl).q) (lt_dec rfl) ?_
            refine WQ_cons rfl rfl rfl ((q_call en_spec_l01Same rfl (w_spec_l01Same (psC_ok h0).1.1) (View.none _))) (lt_dec rfl) ?_
            refine WQ_cons rfl rfl rfl ((p_eql8 rfl rfl rfl rfl (by kernel_rfl) (by kernel_rfl) (by kernel_rfl)).q) (lt_dec rfl) ?_
            refine WQ_cons rfl rfl rfl ((p_assign rfl).q) (lt_dec rfl) ?_
            refine WQ_cons rfl rfl rfl ((p_assign rfl).q) (lt_dec rfl) ?_
            refine WQ_nil ?_
            refine W_ret ?_
            refine Exists.intro _ (And.intro (.cons (.tmp rfl) (.cons (.tmp rfl) .nil)) ?_)
            first | rfl | (refine veq_bool ?_; simp_all; done) | (refine veq_bool ?_; simp; omega) | (refine veq_bool ?_; rw [eq_comm, decide_eq_false_iff_not]; omega) | (refine veq_bool ?_; rw [eq_comm, decide_eq_true_iff]; omega) | (refine veq_int ?_; omega) | (refine veq_arr8 fun j hj => ?_; (try dsimp only); first | (simp; done) | (simp; omega) | ((repeat' split) <;> first | rfl | (exfalso; omega) | (congr 1; omega) | (simp_all; done))) | (exact veq_tup2 (veq_bool (inV_n (by rw [hk1]; decide)).symm) (veq_int hk1.symm)) | (exact veq_tup2 (veq_bool (inV_n hkn).symm) (veq_int hk1.symm)) | (exact veq_tup2 (veq_bool ((Bool.eq_iff_iff.2 ((@decide_eq_true_iff _ (Classical.propDecidable _)).trans (inC hx28.1 hx28.2.1 hx28.2.2.1 hx28.2.2.2 hpp))).trans (inV_0 hk0).symm)) (veq_int hk0.symm))
          · first | refine RA_take 7 rfl rfl rfl (by kernel_rfl) (by kernel_rfl) (by kernel_rfl) (p_extract rfl rfl) (lt_dec rfl) ?_
            first | refine RA_take 8 rfl rfl rfl (by kernel_rfl) (by kernel_rfl) (by kernel_rfl) (p_extract rfl rfl) (lt_dec rfl) ?_
            refine RA_one 9 rfl rfl (by kernel_rfl) (x_alloc rfl (lt_dec rfl) fun b9_10 => ?_)
            refine RA_one 10 rfl rfl (by kernel_rfl) (x_store rfl rfl rfl rfl rfl HpRep.head rfl (by first | trivial | (first | (first | omega | (dsimp only; omega)) | exact Fin.isLt _)) ?_)
            refine RA_quiet (g := 0) [11] (by kernel_rfl) (by kernel_rfl) (by kernel_rfl) (by kernel_rfl) ?_
            refine WQ_cons rfl rfl rfl ((p_assign rfl).q) (lt_dec rfl) ?_
            refine WQ_nil ?_
            refine RA_done (by kernel_rfl) ?_
            refine W_seq ?_
            refine W_draw (by kernel_rfl) ?_
            show RA _ _ 6 _ _ _
            refine RA_quietF [0, 1, 2, 3, 4, 5] rfl rfl rfl (by kernel_rfl) (by kernel_rfl) ?_
            refine WQ_cons rfl rfl rfl ((q_load rfl rfl m0 rfl (by first | exact True.intro | trivial | (first | omega | (dsimp only; omega)) | exact Fin.isLt _ | (dsimp only; omega)))) (lt_dec rfl) ?_
            refine WQ_cons rfl rfl rfl ((p_move rfl).q) (lt_dec rfl) ?_
            refine WQ_cons rfl rfl rfl ((q_call en_spec_l01Same rfl (w_spec_l01Same (psC_ok h0).1.1) (View.none _))) (lt_dec rfl) ?_
            refine WQ_cons rfl rfl rfl ((p_eql8 rfl rfl rfl rfl (by kernel_rfl) (by kernel_rfl) (by kernel_rfl)).q) (lt_dec rfl) ?_
            refine WQ_cons rfl rfl rfl ((p_assign rfl).q) (lt_dec rfl) ?_
            refine WQ_cons rfl rfl rfl ((p_assign rfl).q) (lt_dec rfl) ?_
            refine WQ_nil ?_
            refine W_ret ?_
            refine Exists.intro _ (And.intro (.cons (.tmp rfl) (.cons (.tmp rfl) .nil)) ?_)
            first | rfl | (refine veq_bool ?_; simp_all; done) | (refine veq_bool ?_; simp; omega) | (refine veq_bool ?_; rw [eq_comm, decide_eq_false_iff_not]; omega) | (refine veq_bool ?_; rw [eq_comm, decide_eq_true_iff]; omega) | (refine veq_int ?_; omega) | (refine veq_arr8 fun j hj => ?_; (try dsimp only); first | (simp; done) | (simp; omega) | ((repeat' split) <;> first | rfl | (exfalso; omega) | (congr 1; omega) | (simp_all; done))) | (exact veq_tup2 (veq_bool (inV_n (by rw [hk1]; decide)).symm) (veq_int hk1.symm)) | (exact veq_tup2 (veq_bool (inV_n hkn).symm) (veq_int hk1.symm)) | (exact veq_tup2 (veq_bool ((Bool.eq_iff_iff.2 ((@decide_eq_true_iff _ (Classical.propDecidable _)).trans (inC hx28.1 hx28.2.1 hx28.2.2.1 hx28.2.2.2 hpp))).trans (inV_0 hk0).symm)) (veq_int hk0.symm))
        · refine x_alloc rfl (lt_dec rfl) fun b9_11 => ?_
          refine RA_one 2 rfl rfl (by kernel_rfl) (x_callT en_spec_l04Chain rfl (w_spec_l04Chain (n := m) (psC_ok h0).1 (psC_ok h0).2) HpDels.nil (Vw.rd m2) (fun _ => (HpDels.cons HpDel.head HpDels.nil)) (lt_dec rfl) fun x28_1 hx28 => ?_)
          refine RA_quiet (g := 4) [5, 6] (by kernel_rfl) (by kernel_rfl) (by kernel_rfl) (by kernel_rfl) ?_
          refine WQ_cons rfl rfl rfl ((q_call en_spec_l04Sift rfl (w_spec_l04Sift (n := m) (And.left hx28) hpp) (Vw.rdO m0).v)) (lt_dec rfl) ?_
          refine WQ_cons rfl rfl rfl ((p_move rfl).q) (lt_dec rfl) ?_
          refine WQ_nil ?_
          first | refine RA_take 8 rfl rfl rfl (by kernel_rfl) (by kernel_rfl) (by kernel_rfl) (p_extract rfl rfl) (lt_dec rfl) ?_
          refine RA_quiet (g := 2) [7] (by kernel_rfl) (by kernel_rfl) (by kernel_rfl) (by kernel_rfl) ?_
          refine WQ_cons rfl rfl rfl ((p_extract rfl rfl).q) (lt_dec rfl) ?_
          refine WQ_nil ?_
          refine RA_one 10 rfl rfl (by kernel_rfl) (x_store rfl rfl rfl rfl rfl ((HpRep.head).tail) rfl (by first | trivial | (first | (first | omega | (dsimp only; omega)) | exact Fin.isLt _)) ?_)
          refine RA_quiet (g := 0) [11] (by kernel_rfl) (by kernel_rfl) (by kernel_rfl) (by kernel_rfl) ?_
          refine WQ_cons rfl rfl rfl ((p_assign rfl).q) (lt_dec rfl) ?_
          refine WQ_nil ?_
          refine RA_done (by kernel_rfl) ?_
          refine W_seq ?_
          refine W_draw (by kernel_rfl) ?_
          show RA _ _ 6 _ _ _
          refine RA_quietF [0, 1, 2, 3, 4, 5] rfl rfl rfl (by kernel_rfl) (by kernel_rfl) ?_
          refine WQ_cons rfl rfl rfl ((q_load rfl rfl m1 rfl (by first | exact True.intro | trivial | (first | omega | (dsimp only; omega)) | exact Fin.isLt _ | (dsimp only; omega)))) (lt_dec rfl) ?_
          refine WQ_cons rfl rfl rfl ((p_move rfl).q) (lt_dec rfl) ?_
          refine WQ_cons rfl rfl rfl ((q_call en_spec_l01Same rfl (w_spec_l01Same (psC_ok h0).1.1) (View.none _))) (lt_dec rfl) ?_
          refine WQ_cons rfl rfl rfl ((p_eql8 rfl rfl rfl rfl (by kernel_rfl) (by kernel_rfl) (by kernel_rfl)).q) (lt_dec rfl) ?_
          refine WQ_cons rfl rfl rfl ((p_assign rfl).q) (lt_dec rfl) ?_
          refine WQ_cons rfl rfl rfl ((p_assign rfl).q) (lt_dec rfl) ?_
          refine WQ_nil ?_
          refine W_ret ?_
          refine Exists.intro _ (And.intro (.cons (.tmp rfl) (.cons (.tmp rfl) .nil)) ?_)
          first | rfl | (refine veq_bool ?_; simp_all; done) | (refine veq_bool ?_; simp; omega) | (refine veq_bool ?_; rw [eq_comm, decide_eq_false_iff_not]; omega) | (refine veq_bool ?_; rw [eq_comm, decide_eq_true_iff]; omega) | (refine veq_int ?_; omega) | (refine veq_arr8 fun j hj => ?_; (try dsimp only); first | (simp; done) | (simp; omega) | ((repeat' split) <;> first | rfl | (exfalso; omega) | (congr 1; omega) | (simp_all; done))) | (exact veq_tup2 (veq_bool (inV_n (by rw [hk1]; decide)).symm) (veq_int hk1.symm)) | (exact veq_tup2 (veq_bool (inV_n hkn).symm) (veq_int hk1.symm)) | (exact veq_tup2 (veq_bool ((Bool.eq_iff_iff.2 ((@decide_eq_true_iff _ (Classical.propDecidable _)).trans (inC hx28.1 hx28.2.1 hx28.2.2.1 hx28.2.2.2 hpp))).trans (inV_0 hk0).symm)) (veq_int hk0.symm))
      · refine x_alloc rfl (lt_dec rfl) fun b9_12 => ?_
        refine RA_two 2 3 rfl rfl rfl rfl (by kernel_rfl) ?_ ?_
        · refine x_callT en_spec_l04Chain rfl (w_spec_l04Chain (n := m) (psC_ok h0).1 (psC_ok h0).2) HpDels.nil (Vw.rd m2) (fun _ => (HpDels.cons HpDel.head HpDels.nil)) (lt_dec rfl) fun x28_1 hx28 => ?_
          refine RA_quiet (g := 4) [3, 5, 6] (by kernel_rfl) (by kernel_rfl) (by kernel_rfl) (by kernel_rfl) ?_
          refine WQ_cons rfl rfl rfl ((q_load rfl rfl m2 rfl (by first | exact True.intro | trivial | (first | omega | (dsimp only; omega)) | exact Fin.isLt _ | (dsimp only; omega)))) (lt_dec rfl) ?_
          refine WQ_cons rfl rfl rfl ((q_call en_spec_l04Sift rfl (w_spec_l04Sift (n := m) (And.left hx28) hpp) (Vw.rdO m0).v)) (lt_dec rfl) ?_
          refine WQ_cons rfl rfl rfl ((p_move rfl).q) (lt_dec rfl) ?_
          refine WQ_nil ?_
          first | refine RA_take 8 rfl rfl rfl (by kernel_rfl) (by kernel_rfl) (by kernel_rfl) (p_extract rfl rfl) (lt_dec rfl) ?_
          refine RA_quiet (g := 2) [7] (by kernel_rfl) (by kernel_rfl) (by kernel_rfl) (by kernel_rfl) ?_
          refine WQ_cons rfl rfl rfl ((p_extract rfl rfl).q) (lt_dec rfl) ?_
          refine WQ_nil ?_
          refine RA_one 10 rfl rfl (by kernel_rfl) (x_store rfl rfl rfl rfl rfl ((HpRep.head).tail) rfl (by first | trivial | (first | (first | omega | (dsimp only; omega)) | exact Fin.isLt _)) ?_)
          refine RA_quiet (g := 0) [11] (by kernel_rfl) (by kernel_rfl) (by kernel_rfl) (by kernel_rfl) ?_
          refine WQ_cons rfl rfl rfl ((p_assign rfl).q) (lt_dec rfl) ?_
          refine WQ_nil ?_
          refine RA_done (by kernel_rfl) ?_
          refine W_seq ?_
          refine W_draw (by kernel_rfl) ?_
          show RA _ _ 6 _ _ _
          refine RA_quietF [0, 1, 2, 3, 4, 5] rfl rfl rfl (by kernel_rfl) (by kernel_rfl) ?_
          refine WQ_cons rfl rfl rfl ((q_load rfl rfl m1 rfl (by first | exact True.intro | trivial | (first | omega | (dsimp only; omega)) | exact Fin.isLt _ | (dsimp only; omega)))) (lt_dec rfl) ?_
          refine WQ_cons rfl rfl rfl ((p_move rfl).q) (lt_dec rfl) ?_
          refine WQ_cons rfl rfl rfl ((q_call en_spec_l01Same rfl (w_spec_l01Same (psC_ok h0).1.1) (View.none _))) (lt_dec rfl) ?_
          refine WQ_cons rfl rfl rfl ((p_eql8 rfl rfl rfl rfl (by kernel_rfl) (by kernel_rfl) (by kernel_rfl)).q) (lt_dec rfl) ?_
          refine WQ_cons rfl rfl rfl ((p_assign rfl).q) (lt_dec rfl) ?_
          refine WQ_cons rfl rfl rfl ((p_assign rfl).q) (lt_dec rfl) ?_
          refine WQ_nil ?_
          refine W_ret ?_
          refine Exists.intro _ (And.intro (.cons (.tmp rfl) (.cons (.tmp rfl) .nil)) ?_)
          first | rfl | (refine veq_bool ?_; simp_all; done) | (refine veq_bool ?_; simp; omega) | (refine veq_bool ?_; rw [eq_comm, decide_eq_false_iff_not]; omega) | (refine veq_bool ?_; rw [eq_comm, decide_eq_true_iff]; omega) | (refine veq_int ?_; omega) | (refine veq_arr8 fun j hj => ?_; (try dsimp only); first | (simp; done) | (simp; omega) | ((repeat' split) <;> first | rfl | (exfalso; omega) | (congr 1; omega) | (simp_all; done))) | (exact veq_tup2 (veq_bool (inV_n (by rw [hk1]; decide)).symm) (veq_int hk1.symm)) | (exact veq_tup2 (veq_bool (inV_n hkn).symm) (veq_int hk1.symm)) | (exact veq_tup2 (veq_bool ((Bool.eq_iff_iff.2 ((@decide_eq_true_iff _ (Classical.propDecidable _)).trans (inC hx28.1 hx28.2.1 hx28.2.2.1 hx28.2.2.2 hpp))).trans (inV_0 hk0).symm)) (veq_int hk0.symm))
        · refine Xt_of_Qt rfl (lt_dec rfl) ((q_load rfl rfl m1 rfl (by first | exact True.intro | trivial | (first | omega | (dsimp only; omega)) | exact Fin.isLt _ | (dsimp only; omega)))) ?_
          refine RA_one 2 rfl rfl (by kernel_rfl) (x_callT en_spec_l04Chain rfl (w_spec_l04Chain (n := m) (psC_ok h0).1 (psC_ok h0).2) HpDels.nil (Vw.rd m2) (fun _ => (HpDels.cons HpDel.head HpDels.nil)) (lt_dec rfl) fun x28_1 hx28 => ?_)
          refine RA_quiet (g := 4) [5, 6] (by kernel_rfl) (by kernel_rfl) (by kernel_rfl) (by kernel_rfl) ?_
          refine WQ_cons rfl rfl rfl ((q_call en_spec_l04Sift rfl (w_spec_l04Sift (n := m) (And.left hx28) hpp) (Vw.rdO m0).v)) (lt_dec rfl) ?_
          refine WQ_cons rfl rfl rfl ((p_move rfl).q) (lt_dec rfl) ?_
          refine WQ_nil ?_
          first | refine RA_take 8 rfl rfl rfl (by kernel_rfl) (by kernel_rfl) (by kernel_rfl) (p_extract rfl rfl) (lt_dec rfl) ?_
          refine RA_quiet (g := 2) [7] (by kernel_rfl) (by kernel_rfl) (by kernel_rfl) (by kernel_rfl) ?_
          refine WQ_cons rfl rfl rfl ((p_extract rfl rfl).q) (lt_dec rfl) ?_
          refine WQ_nil ?_
          refine RA_one 10 rfl rfl (by kernel_rfl) (x_store rfl rfl rfl rfl rfl ((HpRep.head).tail) rfl (by first | trivial | (first | (first | omega | (dsimp only; omega)) | exact Fin.isLt _)) ?_)
          refine RA_quiet (g := 0) [11] (by kernel_rfl) (by kernel_rfl) (by kernel_rfl) (by kernel_rfl) ?_
          refine WQ_cons rfl rfl rfl ((p_assign rfl).q) (lt_dec rfl) ?_
          refine WQ_nil ?_
          refine RA_done (by kernel_rfl) ?_
          refine W_seq ?_
          refine W_draw (by kernel_rfl) ?_
          show RA _ _ 6 _ _ _
          refine RA_quietF [0, 1, 2, 3, 4, 5] rfl rfl rfl (by kernel_rfl) (by kernel_rfl) ?_
          refine WQ_cons rfl rfl rfl ((q_load rfl rfl m1 rfl (by first | exact True.intro | trivial | (first | omega | (dsimp only; omega)) | exact Fin.isLt _ | (dsimp only; omega)))) (lt_dec rfl) ?_
          refine WQ_cons rfl rfl rfl ((p_move rfl).q) (lt_dec rfl) ?_
          refine WQ_cons rfl rfl rfl ((q_call en_spec_l01Same rfl (w_spec_l01Same (psC_ok h0).1.1) (View.none _))) (lt_dec rfl) ?_
          refine WQ_cons rfl rfl rfl ((p_eql8 rfl rfl rfl rfl (by kernel_rfl) (by kernel_rfl) (by kernel_rfl)).q) (lt_dec rfl) ?_
          refine WQ_cons rfl rfl rfl ((p_assign rfl).q) (lt_dec rfl) ?_
          refine WQ_cons rfl rfl rfl ((p_assign rfl).q) (lt_dec rfl) ?_
          refine WQ_nil ?_
          refine W_ret ?_
          refine Exists.intro _ (And.intro (.cons (.tmp rfl) (.cons (.tmp rfl) .nil)) ?_)
          first | rfl | (refine veq_bool ?_; simp_all; done) | (refine veq_bool ?_; simp; omega) | (refine veq_bool ?_; rw [eq_comm, decide_eq_false_iff_not]; omega) | (refine veq_bool ?_; rw [eq_comm, decide_eq_true_iff]; omega) | (refine veq_int ?_; omega) | (refine veq_arr8 fun j hj => ?_; (try dsimp only); first | (simp; done) | (simp; omega) | ((repeat' split) <;> first | rfl | (exfalso; omega) | (congr 1; omega) | (simp_all; done))) | (exact veq_tup2 (veq_bool (inV_n (by rw [hk1]; decide)).symm) (veq_int hk1.symm)) | (exact veq_tup2 (veq_bool (inV_n hkn).symm) (veq_int hk1.symm)) | (exact veq_tup2 (veq_bool ((Bool.eq_iff_iff.2 ((@decide_eq_true_iff _ (Classical.propDecidable _)).trans (inC hx28.1 hx28.2.1 hx28.2.2.1 hx28.2.2.2 hpp))).trans (inV_0 hk0).symm)) (veq_int hk0.symm))
end Go.Proofs.Ytjihhcjpbcmjaaa
end
section
namespace Go.Proofs.Ytjihhcjpbcmjaaa
open Go Gx
set_option linter.unusedVariables false
theorem en_laws_FnExactInGroup : Enters Try.prog 4 := enters_of Try.func4 (by kernel_rfl) (by kernel_rfl)
set_option maxRecDepth 100000 in
theorem w_laws_FnExactInGroup {a : Value} {ha : a.oneCell' = true} {l : List (Nat → Fin 256)} {n : Int} {p : Nat → Fin 256} (hl0 : l.length ≤ maxLen) (hn64 : inR .i64 n) : CR Try.prog 4 (vals [.raw a ha, .int .i64 n, .arr8 10 p]) [rd a (.arrs 10 l)] (.bool true) := by
  refine CR_intro (rs := [.tmp 6]) tt tok Try.func4 rfl rfl rfl (by first | rfl | assumption) fun w => ?_
  refine W_seq ?_
  refine W_region ?_
  refine Ops_x rfl (x_box rfl rfl (lt_dec rfl) fun b5_1 => ?_)
  refine Ops_p (p_assign rfl) (lt_dec rfl) ?_
  refine Ops_nil ?_
  refine W_seq ?_
  refine W_region ?_
  refine Ops_p (p_assign rfl) (lt_dec rfl) ?_
  refine Ops_nil ?_
  refine W_seq ?_
  refine W_region ?_
  refine Ops_p (p_move rfl) (lt_dec rfl) ?_
  refine Ops_p (p_move rfl) (lt_dec rfl) ?_
  refine Ops_q (q_call en_laws_szPlacesS rfl (w_laws_szPlacesS hl0 (by omega)) (Vw.rd m1).v) (lt_dec rfl) ?_
  refine Ops_p (p_assign rfl) (lt_dec rfl) ?_
  refine Ops_nil ?_
  refine W_seq ?_
  refine W_seq ?_
  refine W_region ?_
  refine Ops_p (p_move rfl) (lt_dec rfl) ?_
  refine Ops_p (p_lss rfl rfl) (lt_dec rfl) ?_
  refine Ops_nil ?_
  refine W_cond rfl (fun h1 => ?_) (fun h1 => ?_)
  · try simp only [bs] at h1
    refine W_seq ?_
    refine W_region ?_
    refine Ops_p (p_assign rfl) (lt_dec rfl) ?_
    refine Ops_nil ?_
    refine W_ret ?_
    refine Exists.intro _ (And.intro (.cons (.tmp rfl) .nil) ?_)
    first | rfl | (refine veq_bool ?_; simp_all; done) | (refine veq_bool ?_; simp; omega) | (refine veq_bool ?_; rw [eq_comm, decide_eq_false_iff_not]; omega) | (refine veq_bool ?_; rw [eq_comm, decide_eq_true_iff]; omega) | (refine veq_int ?_; omega) | (refine veq_arr8 fun j hj => ?_; (try dsimp only); first | (simp; done) | (simp; omega) | ((repeat' split) <;> first | rfl | (exfalso; omega) | (congr 1; omega) | (simp_all; done)))
  · try simp only [bs] at h1
    have hz := szR_pos h1; have hl : l.length ≤ 1048576 := (by omega)
    refine W_skip ?_
    refine W_seq ?_
    refine W_draw (by kernel_rfl) ?_
    show RA _ _ 11 _ _ _
    first | refine RA_take 2 rfl rfl rfl (by kernel_rfl) (by kernel_rfl) (by kernel_rfl) (p_move rfl) (lt_dec rfl) ?_
    first | refine RA_take 0 rfl rfl rfl (by kernel_rfl) (by kernel_rfl) (by kernel_rfl) (p_move rfl) (lt_dec rfl) ?_
    refine RA_two 1 3 rfl rfl rfl rfl (by kernel_rfl) ?_ ?_
    · refine x_callT en_laws_toPlacesS rfl (w_laws_toPlacesS (by first | assumption | (first | omega | (dsimp only; omega)) | (simp; done) | decide)) HpDels.nil (Vw.rd m1) (fun _ => (HpDels.cons HpDel.head HpDels.nil)) (lt_dec rfl) fun x20_1 _ => ?_
      refine RA_quiet (g := 0) [3, 4, 5, 6, 7, 8, 9, 10] (by kernel_rfl) (by kernel_rfl) (by kernel_rfl) (by kernel_rfl) ?_
      refine WQ_cons rfl rfl rfl ((q_load rfl rfl m1 rfl (by first | exact True.intro | trivial | (first | omega | (dsimp only; omega)) | exact Fin.isLt _ | (dsimp only; omega)))) (lt_dec rfl) ?_
      refine WQ_cons rfl rfl rfl ((q_call en_laws_toPlaces rfl (w_laws_toPlaces) (View.none _))) (lt_dec rfl) ?_
      refine WQ_cons rfl rfl rfl ((q_call en_spec_InGroup rfl (w_spec_InGroup hl) (Vw.rdO m0).v)) (lt_dec rfl) ?_
      refine WQ_cons rfl rfl rfl ((p_move rfl).q) (lt_dec rfl) ?_
      refine WQ_cons rfl rfl rfl ((p_extract rfl rfl).q) (lt_dec rfl) ?_
      refine WQ_cons rfl rfl rfl ((p_extract rfl rfl).q) (lt_dec rfl) ?_
      refine WQ_cons rfl rfl rfl ((p_assign rfl).q) (lt_dec rfl) ?_
      refine WQ_cons rfl rfl rfl ((p_assign rfl).q) (lt_dec rfl) ?_
      refine WQ_nil ?_
      refine RA_done (by kernel_rfl) ?_
      refine W_seq ?_
      refine W_region ?_
      refine Ops_p (p_move rfl) (lt_dec rfl) ?_
      refine Ops_x rfl (x_callT en_laws_toPlacesS rfl (w_laws_toPlacesS (by first | assumption | (first | omega | (dsimp only; omega)) | (simp; done) | decide)) HpDels.nil (Vw.rd m2) (fun _ => (HpDels.cons HpDel.head HpDels.nil)) (lt_dec rfl) fun x28_1 _ => ?_)
      refine Ops_p (p_assign rfl) (lt_dec rfl) ?_
      refine Ops_nil ?_
      refine W_seq ?_
      refine W_region ?_
      refine Ops_p (p_move rfl) (lt_dec rfl) ?_
      refine Ops_p (p_move rfl) (lt_dec rfl) ?_
      refine Ops_q (q_load rfl rfl m2 rfl (by first | exact True.intro | trivial | (first | omega | (dsimp only; omega)) | exact Fin.isLt _ | (dsimp only; omega))) (lt_dec rfl) ?_
      refine Ops_q (q_call en_laws_toPlaces rfl (w_laws_toPlaces) (View.none _)) (lt_dec rfl) ?_
      refine Ops_q (q_call en_impl_InGroup rfl (w_impl_InGroup hl) (Vw.rdO m0).v) (lt_dec rfl) ?_
      refine Ops_p (p_move rfl) (lt_dec rfl) ?_
      refine Ops_p (p_extract rfl rfl) (lt_dec rfl) ?_
      refine Ops_p (p_extract rfl rfl) (lt_dec rfl) ?_
      refine Ops_p (p_assign rfl) (lt_dec rfl) ?_
      refine Ops_p (p_assign rfl) (lt_dec rfl) ?_
      refine Ops_nil ?_
      refine W_seq ?_
      refine W_seq ?_
      refine W_region ?_
      refine Ops_p (p_move rfl) (lt_dec rfl) ?_
      refine Ops_p (p_move rfl) (lt_dec rfl) ?_
      refine Ops_p (p_neq_b rfl rfl rfl) (lt_dec rfl) ?_
      refine Ops_p (p_move rfl) (lt_dec rfl) ?_
      refine Ops_guard rfl rfl (lt_dec rfl) (fun hg1 => ?_) (fun hg1 => ?_)
      · try simp only [bs] at hg1
        refine Ops_p (p_move rfl) (lt_dec rfl) ?_
        refine Ops_guard_t rfl rfl (lt_dec rfl) ?_
        refine Ops_p (p_move rfl) (lt_dec rfl) ?_
        refine Ops_guard_t rfl rfl (lt_dec rfl) ?_
        refine Ops_p (p_neq rfl rfl) (lt_dec rfl) ?_
        refine Ops_p (p_pick_f rfl rfl) (lt_dec rfl) ?_
        refine Ops_nil ?_
        refine W_cond rfl (fun h2 => ?_) (fun h2 => ?_)
        · try simp only [bs] at h2
          exfalso; exact h2 (by first | rfl | trivial)
        · try simp only [bs] at h2
          refine W_skip ?_
          refine W_seq ?_
          refine W_seq ?_
          refine W_region ?_
          refine Ops_p (p_move rfl) (lt_dec rfl) ?_
          refine Ops_p (p_move rfl) (lt_dec rfl) ?_
          refine Ops_x rfl (x_callT en_laws_toPlacesS rfl (w_laws_toPlacesS (by first | assumption | (first | omega | (dsimp only; omega)) | (simp; done) | decide)) HpDels.nil (Vw.rd m3) (fun _ => (HpDels.cons HpDel.head HpDels.nil)) (lt_dec rfl) fun x47_1 _ => ?_)
          refine Ops_q (q_call en_laws_eqPlacesS rfl (w_laws_eqPlacesS (by omega)) (View.cons (Vw.rdO m1).v (Vw.rdO m0).v rfl rfl)) (lt_dec rfl) ?_
          refine Ops_p (p_not rfl) (lt_dec rfl) ?_
          refine Ops_nil ?_
          refine W_false rfl ?_
          refine W_skip ?_
          refine W_seq ?_
          refine W_region ?_
          refine Ops_p (p_assign rfl) (lt_dec rfl) ?_
          refine Ops_nil ?_
          refine W_ret ?_
          refine Exists.intro _ (And.intro (.cons (.tmp rfl) .nil) ?_)
          first | rfl | (refine veq_bool ?_; simp_all; done) | (refine veq_bool ?_; simp; omega) | (refine veq_bool ?_; rw [eq_comm, decide_eq_false_iff_not]; omega) | (refine veq_bool ?_; rw [eq_comm, decide_eq_true_iff]; omega) | (refine veq_int ?_; omega) | (refine veq_arr8 fun j hj => ?_; (try dsimp only); first | (simp; done) | (simp; omega) | ((repeat' split) <;> first | rfl | (exfalso; omega) | (congr 1; omega) | (simp_all; done)))
      · try simp only [bs] at hg1
        refine Ops_guard_f rfl rfl rfl (lt_dec rfl) ?_
        refine Ops_guard_f rfl rfl rfl (lt_dec rfl) ?_
        refine Ops_p (p_pick_t rfl rfl) (lt_dec rfl) ?_
        refine Ops_nil ?_
        refine W_true rfl ?_
        refine W_seq ?_
        refine W_region ?_
        refine Ops_p (p_assign rfl) (lt_dec rfl) ?_
        refine Ops_nil ?_
        refine W_ret ?_
        refine Exists.intro _ (And.intro (.cons (.tmp rfl) .nil) ?_)
        first | rfl | (refine veq_bool ?_; simp_all; done) | (refine veq_bool ?_; simp; omega) | (refine veq_bool ?_; rw [eq_comm, decide_eq_false_iff_not]; omega) | (refine veq_bool ?_; rw [eq_comm, decide_eq_true_iff]; omega) | (refine veq_int ?_; omega) | (refine veq_arr8 fun j hj => ?_; (try dsimp only); first | (simp; done) | (simp; omega) | ((repeat' split) <;> first | rfl | (exfalso; omega) | (congr 1; omega) | (simp_all; done)))
    · refine Xt_of_Qt rfl (lt_dec rfl) ((q_load rfl rfl m0 rfl (by first | exact True.intro | trivial | (first | omega | (dsimp only; omega)) | exact Fin.isLt _ | (dsimp only; omega)))) ?_
      refine RA_one 1 rfl rfl (by kernel_rfl) (x_callT en_laws_toPlacesS rfl (w_laws_toPlacesS (by first | assumption | (first | omega | (dsimp only; omega)) | (simp; done) | decide)) HpDels.nil (Vw.rd m1) (fun _ => (HpDels.cons HpDel.head HpDels.nil)) (lt_dec rfl) fun x20_2 _ => ?_)
      refine RA_quiet (g := 0) [4, 5, 6, 7, 8, 9, 10] (by kernel_rfl) (by kernel_rfl) (by kernel_rfl) (by kernel_rfl) ?_
      refine WQ_cons rfl rfl rfl ((q_call en_laws_toPlaces rfl (w_laws_toPlaces) (View.none _))) (lt_dec rfl) ?_
      refine WQ_cons rfl rfl rfl ((q_call en_spec_InGroup rfl (w_spec_InGroup hl) (Vw.rdO m0).v)) (lt_dec rfl) ?_
      refine WQ_cons rfl rfl rfl ((p_move rfl).q) (lt_dec rfl) ?_
      refine WQ_cons rfl rfl rfl ((p_extract rfl rfl).q) (lt_dec rfl) ?_
      refine WQ_cons rfl rfl rfl ((p_extract rfl rfl).q) (lt_dec rfl) ?_
      refine WQ_cons rfl rfl rfl ((p_assign rfl).q) (lt_dec rfl) ?_
      refine WQ_cons rfl rfl rfl ((p_assign rfl).q) (lt_dec rfl) ?_
      refine WQ_nil ?_
      refine RA_done (by kernel_rfl) ?_
      refine W_seq ?_
      refine W_region ?_
      refine Ops_p (p_move rfl) (lt_dec rfl) ?_
      refine Ops_x rfl (x_callT en_laws_toPlacesS rfl (w_laws_toPlacesS (by first | assumption | (first | omega | (dsimp only; omega)) | (simp; done) | decide)) HpDels.nil (Vw.rd m2) (fun _ => (HpDels.cons HpDel.head HpDels.nil)) (lt_dec rfl) fun x28_2 _ => ?_)
      refine Ops_p (p_assign rfl) (lt_dec rfl) ?_
      refine Ops_nil ?_
      refine W_seq ?_
      refine W_region ?_
      refine Ops_p (p_move rfl) (lt_dec rfl) ?_
      refine Ops_p (p_move rfl) (lt_dec rfl) ?_
      refine Ops_q (q_load rfl rfl m2 rfl (by first | exact True.intro | trivial | (first | omega | (dsimp only; omega)) | exact Fin.isLt _ | (dsimp only; omega))) (lt_dec rfl) ?_
      refine Ops_q (q_call en_laws_toPlaces rfl (w_laws_toPlaces) (View.none _)) (lt_dec rfl) ?_
      refine Ops_q (q_call en_impl_InGroup rfl (w_impl_InGroup hl) (Vw.rdO m0).v) (lt_dec rfl) ?_
      refine Ops_p (p_move rfl) (lt_dec rfl) ?_
      refine Ops_p (p_extract rfl rfl) (lt_dec rfl) ?_
      refine Ops_p (p_extract rfl rfl) (lt_dec rfl) ?_
      refine Ops_p (p_assign rfl) (lt_dec rfl) ?_
      refine Ops_p (p_assign rfl) (lt_dec rfl) ?_
      refine Ops_nil ?_
      refine W_seq ?_
      refine W_seq ?_
      refine W_region ?_
      refine Ops_p (p_move rfl) (lt_dec rfl) ?_
      refine Ops_p (p_move rfl) (lt_dec rfl) ?_
      refine Ops_p (p_neq_b rfl rfl rfl) (lt_dec rfl) ?_
      refine Ops_p (p_move rfl) (lt_dec rfl) ?_
      refine Ops_guard rfl rfl (lt_dec rfl) (fun hg2 => ?_) (fun hg2 => ?_)
      · try simp only [bs] at hg2
        refine Ops_p (p_move rfl) (lt_dec rfl) ?_
        refine Ops_guard_t rfl rfl (lt_dec rfl) ?_
        refine Ops_p (p_move rfl) (lt_dec rfl) ?_
        refine Ops_guard_t rfl rfl (lt_dec rfl) ?_
        refine Ops_p (p_neq rfl rfl) (lt_dec rfl) ?_
        refine Ops_p (p_pick_f rfl rfl) (lt_dec rfl) ?_
        refine Ops_nil ?_
        refine W_cond rfl (fun h3 => ?_) (fun h3 => ?_)
        · try simp only [bs] at h3
          exfalso; exact h3 (by first | rfl | trivial)
        · try simp only [bs] at h3
          refine W_skip ?_
          refine W_seq ?_
          refine W_seq ?_
          refine W_region ?_
          refine Ops_p (p_move rfl) (lt_dec rfl) ?_
          refine Ops_p (p_move rfl) (lt_dec rfl) ?_
          refine Ops_x rfl (x_callT en_laws_toPlacesS rfl (w_laws_toPlacesS (by first | assumption | (first | omega | (dsimp only; omega)) | (simp; done) | decide)) HpDels.nil (Vw.rd m3) (fun _ => (HpDels.cons HpDel.head HpDels.nil)) (lt_dec rfl) fun x47_2 _ => ?_)
          refine Ops_q (q_call en_laws_eqPlacesS rfl (w_laws_eqPlacesS (by omega)) (View.cons (Vw.rdO m1).v (Vw.rdO m0).v rfl rfl)) (lt_dec rfl) ?_
          refine Ops_p (p_not rfl) (lt_dec rfl) ?_
          refine Ops_nil ?_
          refine W_false rfl ?_
          refine W_skip ?_
          refine W_seq ?_
          refine W_region ?_
          refine Ops_p (p_assign rfl) (lt_dec rfl) ?_
          refine Ops_nil ?_
          refine W_ret ?_
          refine Exists.intro _ (And.intro (.cons (.tmp rfl) .nil) ?_)
          first | rfl | (refine veq_bool ?_; simp_all; done) | (refine veq_bool ?_; simp; omega) | (refine veq_bool ?_; rw [eq_comm, decide_eq_false_iff_not]; omega) | (refine veq_bool ?_; rw [eq_comm, decide_eq_true_iff]; omega) | (refine veq_int ?_; omega) | (refine veq_arr8 fun j hj => ?_; (try dsimp only); first | (simp; done) | (simp; omega) | ((repeat' split) <;> first | rfl | (exfalso; omega) | (congr 1; omega) | (simp_all; done)))
      · try simp only [bs] at hg2
        refine Ops_guard_f rfl rfl rfl (lt_dec rfl) ?_
        refine Ops_guard_f rfl rfl rfl (lt_dec rfl) ?_
        refine Ops_p (p_pick_t rfl rfl) (lt_dec rfl) ?_
        refine Ops_nil ?_
        refine W_true rfl ?_
        refine W_seq ?_
        refine W_region ?_
        refine Ops_p (p_assign rfl) (lt_dec rfl) ?_
        refine Ops_nil ?_
        refine W_ret ?_
        refine Exists.intro _ (And.intro (.cons (.tmp rfl) .nil) ?_)
        first | rfl | (refine veq_bool ?_; simp_all; done) | (refine veq_bool ?_; simp; omega) | (refine veq_bool ?_; rw [eq_comm, decide_eq_false_iff_not]; omega) | (refine veq_bool ?_; rw [eq_comm, decide_eq_true_iff]; omega) | (refine veq_int ?_; omega) | (refine veq_arr8 fun j hj => ?_; (try dsimp only); first | (simp; done) | (simp; omega) | ((repeat' split) <;> first | rfl | (exfalso; omega) | (congr 1; omega) | (simp_all; done)))
end Go.Proofs.Ytjihhcjpbcmjaaa
end
