/- What the Go function impl.leastBlock does, shown of its loaded text; its conditions stand in the statement. -/
import Derived.Test.YtdcpggdbjllmpabTy
import Derived.Test.YtdcpggdbjllmpabFimplclassesjoin
import Derived.Test.YtdcpggdbjllmpabFimplclasseslists
import Derived.Test.YtdcpggdbjllmpabFimplnewClasses
import Derived.Test.YtdcpggdbjllmpabFslicesContainsGSint64int64
import Derived.Test.YtdcpggdbjllmpabGx12
import Derived.Test.YtdcpggdbjllmpabGx20
import Derived.Test.YtdcpggdbjllmpabGx26
import Derived.Test.YtdcpggdbjllmpabM29
import Derived.Test.YtdcpggdbjllmpabM30
namespace Go.Proofs.Ytdcpggdbjllmpab
open Go Gx
set_option linter.unusedVariables false
theorem en_impl_leastBlock : Enters Try.prog 51 := enters_of Try.func51 (by kernel_rfl) (by kernel_rfl)
set_option maxRecDepth 100000 in
set_option maxHeartbeats 4000000 in
theorem w_impl_leastBlock {a : Value} {ha : a.oneCell' = true} {l : List (Nat → Fin 256)} {n : Int} {x0 y0 : Nat} (hp : PsOk l n) (hl : l.length ≤ 40) (hx : x0 < n.toNat) (hy : y0 < n.toNat) : CT (X := V1) Try.prog 51 (vals [.raw a ha, .int .i64 n, .int .i64 (x0 : Int), .int .i64 (y0 : Int)]) [] [rd a (.arrs 10 l)] (fun x => True) (fun x => .raw x.1 x.2) (fun x => [own x.1 2 (.ints .i64 (bkL l n.toNat x0 y0))]) := by
  refine CT_intro (rs := [.tmp 8]) tt tok Try.func51 rfl rfl rfl (by first | rfl | assumption) fun w => ?_
  show W _ _ _ ⟨tmOf 0 [.raw a ha, .int .i64 n, .int .i64 (x0 : Int), .int .i64 (y0 : Int)], [rd a (.arrs 10 l)]⟩
  have hn := hp.1
  refine W_seq ?_
  refine W_region ?_
  refine Ops_p (p_assign rfl) (lt_dec rfl) ?_
  refine Ops_nil ?_
  refine W_seq ?_
  refine W_region ?_
  refine Ops_p (p_move rfl) (lt_dec rfl) ?_
  refine Ops_x rfl (x_callT en_impl_newClasses rfl (w_impl_newClasses (by first | assumption | (first | omega | (dsimp only; omega)) | (simp; done) | decide)) HpDels.nil (Vw.none _) (fun _ => (HpDels.cons HpDel.head HpDels.nil)) (lt_dec rfl) fun x17_1 _ => ?_)
  refine Ops_p (p_assign rfl) (lt_dec rfl) ?_
  refine Ops_nil ?_
  refine W_seq ?_
  refine W_region ?_
  refine Ops_p (p_move rfl) (lt_dec rfl) ?_
  refine Ops_p (p_move rfl) (lt_dec rfl) ?_
  refine Ops_p (p_move rfl) (lt_dec rfl) ?_
  refine Ops_x rfl (x_callT en_impl_classes_join rfl (w_impl_classes_join (by rw [rgL_len]; omega) (by rw [rgL_len]; omega) (by rw [rgL_len]; omega)) (HpDels.cons HpDel.head HpDels.nil) (Vw.none _) (fun _ => (HpDels.cons HpDel.head HpDels.nil)) (lt_dec rfl) fun _ _ => ?_)
  refine Ops_nil ?_
  refine W_seq ?_
  refine W_seq ?_
  refine W_region ?_
  refine Ops_p (p_assign rfl) (lt_dec rfl) ?_
  refine Ops_nil ?_
  refine W_block ?_
  refine W_loop (α := List Int × Bool) (fun zz0 => ⟨[(0, .raw a ha), (1, .int .i64 n), (2, .int .i64 (x0 : Int)), (3, .int .i64 (y0 : Int)), (9, .raw x17_1.1 x17_1.2), (10, .bool (zz0.2)), (16, .int .i64 n), (17, .raw x17_1.1 x17_1.2), (18, .raw x17_1.1 x17_1.2), (19, .int .i64 (x0 : Int)), (20, .int .i64 (y0 : Int)), (21, .bool (decide ((rgL n.toNat).getD x0 0 ≠ (rgL n.toNat).getD y0 0)))], [own x17_1.1 2 (.ints .i64 (zz0.1)), rd a (.arrs 10 l)]⟩) (fun zz0 => BJ l n.toNat x0 y0 (zz0.1) ∧ ((zz0.2) = false → Cl l n.toNat (zz0.1) l.length 0)) (fun zz0 => 2 * clN (zz0.1) n.toNat + (if (zz0.2) = true then 1 else 0)) (joinL (rgL n.toNat) x0 y0, true) ?_ ?_ ?_
  · exact ⟨BJ.start hx hy, fun h => by cases h⟩
  · exact Wk.intro (.cons rfl (by first | rfl | exact veq_int (by first | omega | (dsimp only; omega))) (.cons rfl (by first | rfl | exact veq_int (by first | omega | (dsimp only; omega))) (.cons rfl (by first | rfl | exact veq_int (by first | omega | (dsimp only; omega))) (.cons rfl (by first | rfl | exact veq_int (by first | omega | (dsimp only; omega))) (.cons rfl (by first | rfl | exact veq_int (by first | omega | (dsimp only; omega))) (.cons rfl (by first | rfl | exact veq_int (by first | omega | (dsimp only; omega))) (.cons rfl (by first | rfl | exact veq_int (by first | omega | (dsimp only; omega))) (.cons rfl (by first | rfl | exact veq_int (by first | omega | (dsimp only; omega))) (.cons rfl (by first | rfl | exact veq_int (by first | omega | (dsimp only; omega))) (.cons rfl (by first | rfl | exact veq_int (by first | omega | (dsimp only; omega))) (.cons rfl (by first | rfl | exact veq_int (by first | omega | (dsimp only; omega))) (.cons rfl (by first | rfl | exact veq_int (by first | omega | (dsimp only; omega))) .nil)))))))))))) (.keep rfl rfl (own_eq rfl) (.keep rfl rfl (fun _ h => h) .nil))
  · rintro ⟨c, ch⟩ hJ
    try dsimp only at *
    refine W_seq ?_
    refine W_seq ?_
    refine W_region ?_
    refine Ops_p (p_move rfl) (lt_dec rfl) ?_
    refine Ops_nil ?_
    refine W_cond rfl (fun h1 => ?_) (fun h1 => ?_)
    · try simp only [bs] at h1
      have hch : ch = true := h1
      refine W_skip ?_
      refine W_block ?_
      refine W_seq ?_
      refine W_region ?_
      refine Ops_p (p_assign rfl) (lt_dec rfl) ?_
      refine Ops_nil ?_
      refine W_seq ?_
      refine W_region ?_
      refine Ops_p (p_move rfl) (lt_dec rfl) ?_
      refine Ops_q ((q_lenR rfl rfl rfl (Rds.rd m1)).eq (d' := .int .i64 ((l.length : Nat) : Int)) rfl) (lt_dec rfl) ?_
      refine Ops_p (p_move rfl) (lt_dec rfl) ?_
      refine Ops_nil ?_
      refine W_block ?_
      refine W_loop (α := Nat × List Int × Bool) (fun zz1 => ⟨[(0, .raw a ha), (1, .int .i64 n), (2, .int .i64 (x0 : Int)), (3, .int .i64 (y0 : Int)), (9, .raw x17_1.1 x17_1.2), (10, .bool (zz1.2.2)), (16, .int .i64 n), (17, .raw x17_1.1 x17_1.2), (18, .raw x17_1.1 x17_1.2), (19, .int .i64 (x0 : Int)), (20, .int .i64 (y0 : Int)), (21, .bool (decide ((rgL n.toNat).getD x0 0 ≠ (rgL n.toNat).getD y0 0))), (22, .bool ch), (23, .raw a ha), (24, .int .i64 (l.length : Int)), (25, .int .i64 ((zz1.1) : Int))], [own x17_1.1 2 (.ints .i64 (zz1.2.1)), rd a (.arrs 10 l)]⟩) (fun zz1 => (zz1.1) ≤ l.length ∧ BJ l n.toNat x0 y0 (zz1.2.1) ∧ clN (zz1.2.1) n.toNat ≤ clN c n.toNat ∧ ((zz1.2.2) = false → (zz1.2.1) = c ∧ Cl l n.toNat (zz1.2.1) (zz1.1) 0) ∧ ((zz1.2.2) = true → clN (zz1.2.1) n.toNat < clN c n.toNat)) (fun zz1 => l.length - (zz1.1)) (0, c, false) ?_ ?_ ?_
      · exact ⟨Nat.zero_le _, hJ.1, Nat.le_refl _, fun _ => ⟨rfl, Cl.zero⟩, fun h => by cases h⟩
      · exact Wk.intro (.cons rfl (by first | rfl | exact veq_int (by first | omega | (dsimp only; omega))) (.cons rfl (by first | rfl | exact veq_int (by first | omega | (dsimp only; omega))) (.cons rfl (by first | rfl | exact veq_int (by first | omega | (dsimp only; omega))) (.cons rfl (by first | rfl | exact veq_int (by first | omega | (dsimp only; omega))) (.cons rfl (by first | rfl | exact veq_int (by first | omega | (dsimp only; omega))) (.cons rfl (by first | rfl | exact veq_int (by first | omega | (dsimp only; omega))) (.cons rfl (by first | rfl | exact veq_int (by first | omega | (dsimp only; omega))) (.cons rfl (by first | rfl | exact veq_int (by first | omega | (dsimp only; omega))) (.cons rfl (by first | rfl | exact veq_int (by first | omega | (dsimp only; omega))) (.cons rfl (by first | rfl | exact veq_int (by first | omega | (dsimp only; omega))) (.cons rfl (by first | rfl | exact veq_int (by first | omega | (dsimp only; omega))) (.cons rfl (by first | rfl | exact veq_int (by first | omega | (dsimp only; omega))) (.cons rfl (by first | rfl | exact veq_int (by first | omega | (dsimp only; omega))) (.cons rfl (by first | rfl | exact veq_int (by first | omega | (dsimp only; omega))) (.cons rfl (by first | rfl | exact veq_int (by first | omega | (dsimp only; omega))) (.cons rfl (by first | rfl | exact veq_int (by first | omega | (dsimp only; omega))) .nil)))))))))))))))) (.keep rfl rfl (own_eq rfl) (.keep rfl rfl (fun _ h => h) .nil))
      · rintro ⟨k, c1, ch1⟩ hP
        try dsimp only at *
        have hkl := hP.1
        refine W_seq ?_
        refine W_region ?_
        refine Ops_p (p_lss rfl rfl) (lt_dec rfl) ?_
        refine Ops_nil ?_
        refine W_seq ?_
        refine W_cond rfl (fun h2 => ?_) (fun h2 => ?_)
        · try simp only [bs] at h2
          refine W_skip ?_
          refine W_seq ?_
          refine W_block ?_
          refine W_seq ?_
          refine W_region ?_
          refine Ops_q (q_ixR _ rfl rfl rfl (Rds.rd m1) rfl rfl (by first | (show _ < List.length _; omega) | (show _ < List.length _; first | omega | (dsimp only; omega))) rfl) (lt_dec rfl) ?_
          refine Ops_q (q_loadR rfl rfl (Rds.rd m1) rfl rfl (by first | (show _ < List.length _; omega) | (show _ < List.length _; first | omega | (dsimp only; omega))) rfl rfl rfl) (lt_dec rfl) ?_
          refine Ops_x rfl (x_alloc rfl (lt_dec rfl) fun b12_1 => ?_)
          refine Ops_x rfl (x_store rfl rfl rfl rfl rfl HpRep.head rfl (by first | trivial | (first | (first | omega | (dsimp only; omega)) | exact Fin.isLt _)) ?_)
          refine Ops_nil ?_
          refine W_seq ?_
          refine W_region ?_
          refine Ops_p (p_move rfl) (lt_dec rfl) ?_
          refine Ops_p (p_move rfl) (lt_dec rfl) ?_
          refine Ops_nil ?_
          refine W_block ?_
          refine W_loop (α := Nat × List Int × Bool) (fun zz2 => ⟨[(0, .raw a ha), (1, .int .i64 n), (2, .int .i64 (x0 : Int)), (3, .int .i64 (y0 : Int)), (9, .raw x17_1.1 x17_1.2), (10, .bool (zz2.2.2)), (12, .ptr b12_1 0 none), (16, .int .i64 n), (17, .raw x17_1.1 x17_1.2), (18, .raw x17_1.1 x17_1.2), (19, .int .i64 (x0 : Int)), (20, .int .i64 (y0 : Int)), (21, .bool (decide ((rgL n.toNat).getD x0 0 ≠ (rgL n.toNat).getD y0 0))), (22, .bool ch), (23, .raw a ha), (24, .int .i64 (l.length : Int)), (25, .int .i64 (k : Int)), (28, .arr8 10 (l.getD k fun _ => 0)), (29, .int .i64 n), (30, .int .i64 ((zz2.1) : Int))], [.var b12_1 (.arr8 10 (l.getD k fun _ => 0)), own x17_1.1 2 (.ints .i64 (zz2.2.1)), rd a (.arrs 10 l)]⟩) (fun zz2 => (zz2.1) ≤ n.toNat ∧ BJ l n.toNat x0 y0 (zz2.2.1) ∧ clN (zz2.2.1) n.toNat ≤ clN c n.toNat ∧ ((zz2.2.2) = false → (zz2.2.1) = c ∧ Cl l n.toNat (zz2.2.1) k (zz2.1)) ∧ ((zz2.2.2) = true → clN (zz2.2.1) n.toNat < clN c n.toNat)) (fun zz2 => n.toNat - (zz2.1)) (0, c1, ch1) ?_ ?_ ?_
          · exact ⟨Nat.zero_le _, hP.2⟩
          · exact Wk.intro (.cons rfl (by first | rfl | exact veq_int (by first | omega | (dsimp only; omega))) (.cons rfl (by first | rfl | exact veq_int (by first | omega | (dsimp only; omega))) (.cons rfl (by first | rfl | exact veq_int (by first | omega | (dsimp only; omega))) (.cons rfl (by first | rfl | exact veq_int (by first | omega | (dsimp only; omega))) (.cons rfl (by first | rfl | exact veq_int (by first | omega | (dsimp only; omega))) (.cons rfl (by first | rfl | exact veq_int (by first | omega | (dsimp only; omega))) (.cons rfl (by first | rfl | exact veq_int (by first | omega | (dsimp only; omega))) (.cons rfl (by first | rfl | exact veq_int (by first | omega | (dsimp only; omega))) (.cons rfl (by first | rfl | exact veq_int (by first | omega | (dsimp only; omega))) (.cons rfl (by first | rfl | exact veq_int (by first | omega | (dsimp only; omega))) (.cons rfl (by first | rfl | exact veq_int (by first | omega | (dsimp only; omega))) (.cons rfl (by first | rfl | exact veq_int (by first | omega | (dsimp only; omega))) (.cons rfl (by first | rfl | exact veq_int (by first | omega | (dsimp only; omega))) (.cons rfl (by first | rfl | exact veq_int (by first | omega | (dsimp only; omega))) (.cons rfl (by first | rfl | exact veq_int (by first | omega | (dsimp only; omega))) (.cons rfl (by first | rfl | exact veq_int (by first | omega | (dsimp only; omega))) (.cons rfl (by first | rfl | exact veq_int (by first | omega | (dsimp only; omega))) (.cons rfl (by first | rfl | exact veq_int (by first | omega | (dsimp only; omega))) (.cons rfl (by first | rfl | exact veq_int (by first | omega | (dsimp only; omega))) (.cons rfl (by first | rfl | exact veq_int (by first | omega | (dsimp only; omega))) .nil)))))))))))))))))))) (.keep rfl rfl (fun _ h => h) (.keep rfl rfl (own_eq rfl) (.keep rfl rfl (fun _ h => h) .nil)))
          · rintro ⟨j, c2, ch2⟩ ⟨hjn, hQ⟩
            try dsimp only at *
            refine W_seq ?_
            refine W_region ?_
            refine Ops_p (p_lss rfl rfl) (lt_dec rfl) ?_
            refine Ops_nil ?_
            refine W_seq ?_
            refine W_cond rfl (fun h3 => ?_) (fun h3 => ?_)
            · try simp only [bs] at h3
              refine W_skip ?_
              refine W_seq ?_
              refine W_block ?_
              refine W_seq ?_
              refine W_region ?_
              refine Ops_p (p_move rfl) (lt_dec rfl) ?_
              refine Ops_p (p_assign rfl) (lt_dec rfl) ?_
              refine Ops_nil ?_
              refine W_seq ?_
              obtain ⟨m, hm, hmn, hBm⟩ := hQ.1.at (j := j) (by omega)
              have hlen := hQ.1.len
              have hpk := hp.at (k := k) (by omega)
              have hkm : (l.getD k fun _ => 0) ∈ l := (by rw [List.getD, List.getElem?_eq_getElem (by omega)]; exact List.getElem_mem _)
              have hpj := perm_lt (i := j) hpk (by omega)
              have hpm := perm_lt (i := m) hpk (by omega)
              refine W_draw (by kernel_rfl) ?_
              show RA _ _ 21 _ _ _
              refine RA_quiet (g := 2) [0, 1, 2, 3, 4, 5, 6, 7, 8, 9, 10, 11, 12, 13, 14, 15, 16, 17, 18] (by kernel_rfl) (by kernel_rfl) (by kernel_rfl) (by kernel_rfl) ?_
              refine WQ_cons rfl rfl rfl ((p_move rfl).q) (lt_dec rfl) ?_
              refine WQ_cons rfl rfl rfl ((p_move rfl).q) (lt_dec rfl) ?_
              refine WQ_cons rfl rfl rfl ((q_ixR _ rfl rfl rfl (Rds.own m1) rfl rfl (by first | (show _ < List.length _; omega) | (show _ < List.length _; first | omega | (dsimp only; omega))) rfl)) (lt_dec rfl) ?_
              refine WQ_cons rfl rfl rfl ((q_loadR rfl rfl (Rds.own m1) rfl rfl (by first | (show _ < List.length _; omega) | (show _ < List.length _; first | omega | (dsimp only; omega))) rfl rfl rfl)) (lt_dec rfl) ?_
              refine WQ_cons rfl rfl rfl ((p_move rfl).q) (lt_dec rfl) ?_
              refine WQ_cons rfl rfl rfl ((p_neq rfl rfl).q) (lt_dec rfl) ?_
              refine WQ_cons rfl rfl rfl ((p_move rfl).q) (lt_dec rfl) ?_
              first | refine WQ_guard rfl rfl rfl (lt_dec rfl) (fun hg1 => ⟨_, (p_move rfl).q, ?_⟩) (fun hg1 => ?_)
              · try simp only [bs] at hg1
                first | refine WQ_guard rfl rfl rfl (lt_dec rfl) (fun _ => ⟨_, (p_move rfl).q, ?_⟩) (fun h => by cases h)
                first | refine WQ_guard rfl rfl rfl (lt_dec rfl) (fun _ => ⟨_, (p_ix1 j rfl rfl rfl rfl rfl rfl (by first | (first | omega | (dsimp only; omega)) | exact Fin.isLt _)).q, ?_⟩) (fun h => by cases h) | refine WQ_guard rfl rfl rfl (lt_dec rfl) (fun _ => ⟨_, (p_ix1s j rfl rfl rfl rfl rfl rfl (by first | (first | omega | (dsimp only; omega)) | exact Fin.isLt _)).q, ?_⟩) (fun h => by cases h)
                first | refine WQ_guard rfl rfl rfl (lt_dec rfl) (fun _ => ⟨_, (q_load rfl rfl m0 rfl (by first | trivial | (first | omega | (dsimp only; omega)) | exact Fin.isLt _ | (dsimp only; omega))), ?_⟩) (fun h => by cases h)
                first | refine WQ_guard rfl rfl rfl (lt_dec rfl) (fun _ => ⟨_, (p_conv8 rfl rfl rfl (by decide)).q, ?_⟩) (fun h => by cases h) | refine WQ_guard rfl rfl rfl (lt_dec rfl) (fun _ => ⟨_, (p_conv rfl rfl rfl (by exact ⟨(by first | omega | (dsimp only; omega)), (by first | omega | (dsimp only; omega))⟩)).q, ?_⟩) (fun h => by cases h)
                first | refine WQ_guard rfl rfl rfl (lt_dec rfl) (fun _ => ⟨_, (p_move rfl).q, ?_⟩) (fun h => by cases h)
                first | refine WQ_guard rfl rfl rfl (lt_dec rfl) (fun _ => ⟨_, (p_move rfl).q, ?_⟩) (fun h => by cases h)
                first | refine WQ_guard rfl rfl rfl (lt_dec rfl) (fun _ => ⟨_, (q_ixR _ rfl rfl rfl (Rds.own m1) rfl rfl (by first | (show _ < List.length _; omega) | (show _ < List.length _; first | omega | (dsimp only; omega))) rfl), ?_⟩) (fun h => by cases h)
                first | refine WQ_guard rfl rfl rfl (lt_dec rfl) (fun _ => ⟨_, (q_loadR rfl rfl (Rds.own m1) rfl rfl (by first | (show _ < List.length _; omega) | (show _ < List.length _; first | omega | (dsimp only; omega))) rfl rfl rfl), ?_⟩) (fun h => by cases h)
                first | refine WQ_guard rfl rfl rfl (lt_dec rfl) (fun _ => ⟨_, (p_ix1 m rfl rfl rfl rfl rfl hm (by first | (first | omega | (dsimp only; omega)) | exact Fin.isLt _)).q, ?_⟩) (fun h => by cases h) | refine WQ_guard rfl rfl rfl (lt_dec rfl) (fun _ => ⟨_, (p_ix1s m rfl rfl rfl rfl rfl hm (by first | (first | omega | (dsimp only; omega)) | exact Fin.isLt _)).q, ?_⟩) (fun h => by cases h)
                first | refine WQ_guard rfl rfl rfl (lt_dec rfl) (fun _ => ⟨_, (q_load rfl rfl m0 rfl (by first | trivial | (first | omega | (dsimp only; omega)) | exact Fin.isLt _ | (dsimp only; omega))), ?_⟩) (fun h => by cases h)
                first | refine WQ_guard rfl rfl rfl (lt_dec rfl) (fun _ => ⟨_, (p_conv8 rfl rfl rfl (by decide)).q, ?_⟩) (fun h => by cases h) | refine WQ_guard rfl rfl rfl (lt_dec rfl) (fun _ => ⟨_, (p_conv rfl rfl rfl (by exact ⟨(by first | omega | (dsimp only; omega)), (by first | omega | (dsimp only; omega))⟩)).q, ?_⟩) (fun h => by cases h)
                refine WQ_nil ?_
                refine RA_oneG 19 rfl rfl rfl rfl (by kernel_rfl) (x_callT en_impl_classes_join rfl (w_impl_classes_join (by omega) (by omega) (by omega)) (HpDels.cons (HpDel.head).tail HpDels.nil) (Vw.none _) (fun _ => (HpDels.cons (HpDel.head).tail HpDels.nil)) (lt_dec rfl) fun _ _ => ?_)
                refine RA_quiet (g := 0) [20] (by kernel_rfl) (by kernel_rfl) (by kernel_rfl) (by kernel_rfl) ?_
                refine WQ_cons rfl rfl rfl ((p_pick_t rfl rfl).q) (lt_dec rfl) ?_
                refine WQ_nil ?_
                refine RA_done (by kernel_rfl) ?_
                refine W_cond rfl (fun h4 => ?_) (fun h4 => ?_)
                · try simp only [bs] at h4
                  have hne : c2.getD (((l.getD k fun _ => 0)) j).val 0 ≠ c2.getD (((l.getD k fun _ => 0)) m).val 0 := (by simpa using h4)
                  refine W_region ?_
                  refine Ops_p (p_assign rfl) (lt_dec rfl) ?_
                  refine Ops_nil ?_
                  refine W_region ?_
                  refine Ops_p (p_add rfl rfl (by exact ⟨(by first | omega | (dsimp only; omega)), (by first | omega | (dsimp only; omega))⟩)) (lt_dec rfl) ?_
                  refine Ops_p (p_move rfl) (lt_dec rfl) ?_
                  refine Ops_nil ?_
                  refine Exists.intro (j + 1, (joinL c2 (((l.getD k fun _ => 0)) j).val (((l.getD k fun _ => 0)) m).val), true) (And.intro ?_ (And.intro ?_ ?_))
                  · first | exact ⟨by show j + 1 ≤ _; omega, hQ.1.join hp hkm (by omega) (by omega) hBm, Nat.le_trans (Nat.le_of_lt (hQ.1.less (by omega) (by omega) hne)) hQ.2.1, fun h => (by cases h), fun _ => Nat.lt_of_lt_of_le (hQ.1.less (by omega) (by omega) hne) hQ.2.1⟩ | exact ⟨by show j + 1 ≤ _; omega, hQ.1, hQ.2.1, fun h => ⟨(hQ.2.2.1 h).1, (hQ.2.2.1 h).2.step (show clA c2 _ j by unfold clA; rw [hm, Int.toNat_natCast]; exact heq)⟩, hQ.2.2.2⟩ | exact ⟨by show j + 1 ≤ _; omega, hQ.1, hQ.2.1, fun h => ⟨(hQ.2.2.1 h).1, (hQ.2.2.1 h).2.step (clA_id (by omega))⟩, hQ.2.2.2⟩
                  · show _ < _; omega
                  · exact Wk.intro (.cons rfl (by first | rfl | exact veq_int (by first | omega | (dsimp only; omega))) (.cons rfl (by first | rfl | exact veq_int (by first | omega | (dsimp only; omega))) (.cons rfl (by first | rfl | exact veq_int (by first | omega | (dsimp only; omega))) (.cons rfl (by first | rfl | exact veq_int (by first | omega | (dsimp only; omega))) (.cons rfl (by first | rfl | exact veq_int (by first | omega | (dsimp only; omega))) (.cons rfl (by first | rfl | exact veq_int (by first | omega | (dsimp only; omega))) (.cons rfl (by first | rfl | exact veq_int (by first | omega | (dsimp only; omega))) (.cons rfl (by first | rfl | exact veq_int (by first | omega | (dsimp only; omega))) (.cons rfl (by first | rfl | exact veq_int (by first | omega | (dsimp only; omega))) (.cons rfl (by first | rfl | exact veq_int (by first | omega | (dsimp only; omega))) (.cons rfl (by first | rfl | exact veq_int (by first | omega | (dsimp only; omega))) (.cons rfl (by first | rfl | exact veq_int (by first | omega | (dsimp only; omega))) (.cons rfl (by first | rfl | exact veq_int (by first | omega | (dsimp only; omega))) (.cons rfl (by first | rfl | exact veq_int (by first | omega | (dsimp only; omega))) (.cons rfl (by first | rfl | exact veq_int (by first | omega | (dsimp only; omega))) (.cons rfl (by first | rfl | exact veq_int (by first | omega | (dsimp only; omega))) (.cons rfl (by first | rfl | exact veq_int (by first | omega | (dsimp only; omega))) (.cons rfl (by first | rfl | exact veq_int (by first | omega | (dsimp only; omega))) (.cons rfl (by first | rfl | exact veq_int (by first | omega | (dsimp only; omega))) (.cons rfl (by first | rfl | exact veq_int (by first | omega | (dsimp only; omega))) .nil)))))))))))))))))))) (.keep rfl rfl (fun _ h => h) (.keep rfl rfl (own_eq (by first | rfl | rw [joinL_same heq])) (.keep rfl rfl (fun _ h => h) .nil)))
                · try simp only [bs] at h4
                  have heq : c2.getD (((l.getD k fun _ => 0)) j).val 0 = c2.getD (((l.getD k fun _ => 0)) m).val 0 := (by simpa using h4)
                  refine W_skip ?_
                  refine W_region ?_
                  refine Ops_p (p_add rfl rfl (by exact ⟨(by first | omega | (dsimp only; omega)), (by first | omega | (dsimp only; omega))⟩)) (lt_dec rfl) ?_
                  refine Ops_p (p_move rfl) (lt_dec rfl) ?_
                  refine Ops_nil ?_
                  refine Exists.intro (j + 1, c2, ch2) (And.intro ?_ (And.intro ?_ ?_))
                  · first | exact ⟨by show j + 1 ≤ _; omega, hQ.1.join hp hkm (by omega) (by omega) hBm, Nat.le_trans (Nat.le_of_lt (hQ.1.less (by omega) (by omega) hne)) hQ.2.1, fun h => (by cases h), fun _ => Nat.lt_of_lt_of_le (hQ.1.less (by omega) (by omega) hne) hQ.2.1⟩ | exact ⟨by show j + 1 ≤ _; omega, hQ.1, hQ.2.1, fun h => ⟨(hQ.2.2.1 h).1, (hQ.2.2.1 h).2.step (show clA c2 _ j by unfold clA; rw [hm, Int.toNat_natCast]; exact heq)⟩, hQ.2.2.2⟩ | exact ⟨by show j + 1 ≤ _; omega, hQ.1, hQ.2.1, fun h => ⟨(hQ.2.2.1 h).1, (hQ.2.2.1 h).2.step (clA_id (by omega))⟩, hQ.2.2.2⟩
                  · show _ < _; omega
                  · exact Wk.intro (.cons rfl (by first | rfl | exact veq_int (by first | omega | (dsimp only; omega))) (.cons rfl (by first | rfl | exact veq_int (by first | omega | (dsimp only; omega))) (.cons rfl (by first | rfl | exact veq_int (by first | omega | (dsimp only; omega))) (.cons rfl (by first | rfl | exact veq_int (by first | omega | (dsimp only; omega))) (.cons rfl (by first | rfl | exact veq_int (by first | omega | (dsimp only; omega))) (.cons rfl (by first | rfl | exact veq_int (by first | omega | (dsimp only; omega))) (.cons rfl (by first | rfl | exact veq_int (by first | omega | (dsimp only; omega))) (.cons rfl (by first | rfl | exact veq_int (by first | omega | (dsimp only; omega))) (.cons rfl (by first | rfl | exact veq_int (by first | omega | (dsimp only; omega))) (.cons rfl (by first | rfl | exact veq_int (by first | omega | (dsimp only; omega))) (.cons rfl (by first | rfl | exact veq_int (by first | omega | (dsimp only; omega))) (.cons rfl (by first | rfl | exact veq_int (by first | omega | (dsimp only; omega))) (.cons rfl (by first | rfl | exact veq_int (by first | omega | (dsimp only; omega))) (.cons rfl (by first | rfl | exact veq_int (by first | omega | (dsimp only; omega))) (.cons rfl (by first | rfl | exact veq_int (by first | omega | (dsimp only; omega))) (.cons rfl (by first | rfl | exact veq_int (by first | omega | (dsimp only; omega))) (.cons rfl (by first | rfl | exact veq_int (by first | omega | (dsimp only; omega))) (.cons rfl (by first | rfl | exact veq_int (by first | omega | (dsimp only; omega))) (.cons rfl (by first | rfl | exact veq_int (by first | omega | (dsimp only; omega))) (.cons rfl (by first | rfl | exact veq_int (by first | omega | (dsimp only; omega))) .nil)))))))))))))))))))) (.keep rfl rfl (fun _ h => h) (.keep rfl rfl (own_eq (by first | rfl | rw [joinL_same heq])) (.keep rfl rfl (fun _ h => h) .nil)))
              · try simp only [bs] at hg1
                refine WQ_guard rfl rfl rfl (lt_dec rfl) (fun h => by cases h) (fun _ => ?_)
                refine WQ_guard rfl rfl rfl (lt_dec rfl) (fun h => by cases h) (fun _ => ?_)
                refine WQ_guard rfl rfl rfl (lt_dec rfl) (fun h => by cases h) (fun _ => ?_)
                refine WQ_guard rfl rfl rfl (lt_dec rfl) (fun h => by cases h) (fun _ => ?_)
                refine WQ_guard rfl rfl rfl (lt_dec rfl) (fun h => by cases h) (fun _ => ?_)
                refine WQ_guard rfl rfl rfl (lt_dec rfl) (fun h => by cases h) (fun _ => ?_)
                refine WQ_guard rfl rfl rfl (lt_dec rfl) (fun h => by cases h) (fun _ => ?_)
                refine WQ_guard rfl rfl rfl (lt_dec rfl) (fun h => by cases h) (fun _ => ?_)
                refine WQ_guard rfl rfl rfl (lt_dec rfl) (fun h => by cases h) (fun _ => ?_)
                refine WQ_guard rfl rfl rfl (lt_dec rfl) (fun h => by cases h) (fun _ => ?_)
                refine WQ_guard rfl rfl rfl (lt_dec rfl) (fun h => by cases h) (fun _ => ?_)
                refine WQ_nil ?_
                refine RA_skipG 19 rfl rfl rfl rfl rfl rfl (lt_dec rfl) (by kernel_rfl) ?_
                refine RA_quiet (g := 0) [20] (by kernel_rfl) (by kernel_rfl) (by kernel_rfl) (by kernel_rfl) ?_
                refine WQ_cons rfl rfl rfl ((p_pick_f rfl rfl).q) (lt_dec rfl) ?_
                refine WQ_nil ?_
                refine RA_done (by kernel_rfl) ?_
                refine W_false rfl ?_
                refine W_skip ?_
                refine W_region ?_
                refine Ops_p (p_add rfl rfl (by exact ⟨(by first | omega | (dsimp only; omega)), (by first | omega | (dsimp only; omega))⟩)) (lt_dec rfl) ?_
                refine Ops_p (p_move rfl) (lt_dec rfl) ?_
                refine Ops_nil ?_
                refine Exists.intro (j + 1, c2, ch2) (And.intro ?_ (And.intro ?_ ?_))
                · first | exact ⟨by show j + 1 ≤ _; omega, hQ.1.join hp hkm (by omega) (by omega) hBm, Nat.le_trans (Nat.le_of_lt (hQ.1.less (by omega) (by omega) hne)) hQ.2.1, fun h => (by cases h), fun _ => Nat.lt_of_lt_of_le (hQ.1.less (by omega) (by omega) hne) hQ.2.1⟩ | exact ⟨by show j + 1 ≤ _; omega, hQ.1, hQ.2.1, fun h => ⟨(hQ.2.2.1 h).1, (hQ.2.2.1 h).2.step (show clA c2 _ j by unfold clA; rw [hm, Int.toNat_natCast]; exact heq)⟩, hQ.2.2.2⟩ | exact ⟨by show j + 1 ≤ _; omega, hQ.1, hQ.2.1, fun h => ⟨(hQ.2.2.1 h).1, (hQ.2.2.1 h).2.step (clA_id (by omega))⟩, hQ.2.2.2⟩
                · show _ < _; omega
                · exact Wk.intro (.cons rfl (by first | rfl | exact veq_int (by first | omega | (dsimp only; omega))) (.cons rfl (by first | rfl | exact veq_int (by first | omega | (dsimp only; omega))) (.cons rfl (by first | rfl | exact veq_int (by first | omega | (dsimp only; omega))) (.cons rfl (by first | rfl | exact veq_int (by first | omega | (dsimp only; omega))) (.cons rfl (by first | rfl | exact veq_int (by first | omega | (dsimp only; omega))) (.cons rfl (by first | rfl | exact veq_int (by first | omega | (dsimp only; omega))) (.cons rfl (by first | rfl | exact veq_int (by first | omega | (dsimp only; omega))) (.cons rfl (by first | rfl | exact veq_int (by first | omega | (dsimp only; omega))) (.cons rfl (by first | rfl | exact veq_int (by first | omega | (dsimp only; omega))) (.cons rfl (by first | rfl | exact veq_int (by first | omega | (dsimp only; omega))) (.cons rfl (by first | rfl | exact veq_int (by first | omega | (dsimp only; omega))) (.cons rfl (by first | rfl | exact veq_int (by first | omega | (dsimp only; omega))) (.cons rfl (by first | rfl | exact veq_int (by first | omega | (dsimp only; omega))) (.cons rfl (by first | rfl | exact veq_int (by first | omega | (dsimp only; omega))) (.cons rfl (by first | rfl | exact veq_int (by first | omega | (dsimp only; omega))) (.cons rfl (by first | rfl | exact veq_int (by first | omega | (dsimp only; omega))) (.cons rfl (by first | rfl | exact veq_int (by first | omega | (dsimp only; omega))) (.cons rfl (by first | rfl | exact veq_int (by first | omega | (dsimp only; omega))) (.cons rfl (by first | rfl | exact veq_int (by first | omega | (dsimp only; omega))) (.cons rfl (by first | rfl | exact veq_int (by first | omega | (dsimp only; omega))) .nil)))))))))))))))))))) (.keep rfl rfl (fun _ h => h) (.keep rfl rfl (own_eq (by first | rfl | rw [joinL_same heq])) (.keep rfl rfl (fun _ h => h) .nil)))
            · try simp only [bs] at h3
              obtain rfl : j = n.toNat := (by omega)
              refine W_exit ?_
              refine W_region ?_
              refine Ops_p (p_add rfl rfl (by exact ⟨(by first | omega | (dsimp only; omega)), (by first | omega | (dsimp only; omega))⟩)) (lt_dec rfl) ?_
              refine Ops_p (p_move rfl) (lt_dec rfl) ?_
              refine Ops_nil ?_
              refine Exists.intro (k + 1, c2, ch2) (And.intro ?_ (And.intro ?_ ?_))
              · exact ⟨by show k + 1 ≤ _; omega, hQ.1, hQ.2.1, fun h => ⟨(hQ.2.2.1 h).1, (hQ.2.2.1 h).2.row⟩, hQ.2.2.2⟩
              · show _ < _; omega
              · exact Wk.intro (.cons rfl (by first | rfl | exact veq_int (by first | omega | (dsimp only; omega))) (.cons rfl (by first | rfl | exact veq_int (by first | omega | (dsimp only; omega))) (.cons rfl (by first | rfl | exact veq_int (by first | omega | (dsimp only; omega))) (.cons rfl (by first | rfl | exact veq_int (by first | omega | (dsimp only; omega))) (.cons rfl (by first | rfl | exact veq_int (by first | omega | (dsimp only; omega))) (.cons rfl (by first | rfl | exact veq_int (by first | omega | (dsimp only; omega))) (.cons rfl (by first | rfl | exact veq_int (by first | omega | (dsimp only; omega))) (.cons rfl (by first | rfl | exact veq_int (by first | omega | (dsimp only; omega))) (.cons rfl (by first | rfl | exact veq_int (by first | omega | (dsimp only; omega))) (.cons rfl (by first | rfl | exact veq_int (by first | omega | (dsimp only; omega))) (.cons rfl (by first | rfl | exact veq_int (by first | omega | (dsimp only; omega))) (.cons rfl (by first | rfl | exact veq_int (by first | omega | (dsimp only; omega))) (.cons rfl (by first | rfl | exact veq_int (by first | omega | (dsimp only; omega))) (.cons rfl (by first | rfl | exact veq_int (by first | omega | (dsimp only; omega))) (.cons rfl (by first | rfl | exact veq_int (by first | omega | (dsimp only; omega))) (.cons rfl (by first | rfl | exact veq_int (by first | omega | (dsimp only; omega))) .nil)))))))))))))))) (.drop (.keep rfl rfl (own_eq rfl) (.keep rfl rfl (fun _ h => h) .nil)))
        · try simp only [bs] at h2
          obtain rfl : k = l.length := (by omega)
          refine W_exit ?_
          refine Exists.intro (c1, ch1) (And.intro ?_ (And.intro ?_ ?_))
          · exact ⟨hP.2.1, fun h => (hP.2.2.2.1 h).2⟩
          · show 2 * clN c1 n.toNat + (if ch1 = true then 1 else 0) < 2 * clN c n.toNat + (if ch = true then 1 else 0); have q1 := hP.2.2.1; have q2 := hP.2.2.2.2; rw [if_pos hch]; cases ch1 with | false => (rw [if_neg (by decide)]; omega) | true => (have q3 := q2 rfl; rw [if_pos rfl]; omega)
          · exact Wk.intro (.cons rfl (by first | rfl | exact veq_int (by first | omega | (dsimp only; omega))) (.cons rfl (by first | rfl | exact veq_int (by first | omega | (dsimp only; omega))) (.cons rfl (by first | rfl | exact veq_int (by first | omega | (dsimp only; omega))) (.cons rfl (by first | rfl | exact veq_int (by first | omega | (dsimp only; omega))) (.cons rfl (by first | rfl | exact veq_int (by first | omega | (dsimp only; omega))) (.cons rfl (by first | rfl | exact veq_int (by first | omega | (dsimp only; omega))) (.cons rfl (by first | rfl | exact veq_int (by first | omega | (dsimp only; omega))) (.cons rfl (by first | rfl | exact veq_int (by first | omega | (dsimp only; omega))) (.cons rfl (by first | rfl | exact veq_int (by first | omega | (dsimp only; omega))) (.cons rfl (by first | rfl | exact veq_int (by first | omega | (dsimp only; omega))) (.cons rfl (by first | rfl | exact veq_int (by first | omega | (dsimp only; omega))) (.cons rfl (by first | rfl | exact veq_int (by first | omega | (dsimp only; omega))) .nil)))))))))))) (.keep rfl rfl (own_eq rfl) (.keep rfl rfl (fun _ h => h) .nil))
    · try simp only [bs] at h1
      have hch : ch = false := (by simpa using h1)
      refine W_exit ?_
      refine W_seq ?_
      refine W_seq ?_
      refine W_region ?_
      refine Ops_p (p_move rfl) (lt_dec rfl) ?_
      refine Ops_x rfl (x_callT en_impl_classes_lists rfl (w_impl_classes_lists (by have := hJ.1.len; omega)) HpDels.nil (Vw.rdO m0) (fun _ => (HpDels.cons HpDel.head HpDels.nil)) (lt_dec rfl) fun x57_1 hx1 => ?_)
      refine Ops_q (q_lenO rfl rfl rfl (Rds.ossO m0)) (lt_dec rfl) ?_
      refine Ops_p (p_move rfl) (lt_dec rfl) ?_
      refine Ops_nil ?_
      refine W_block ?_
      refine W_loop (α := Nat) (fun q => ⟨[(0, .raw a ha), (1, .int .i64 n), (2, .int .i64 (x0 : Int)), (3, .int .i64 (y0 : Int)), (9, .raw x17_1.1 x17_1.2), (10, .bool ch), (16, .int .i64 n), (17, .raw x17_1.1 x17_1.2), (18, .raw x17_1.1 x17_1.2), (19, .int .i64 (x0 : Int)), (20, .int .i64 (y0 : Int)), (21, .bool (decide ((rgL n.toNat).getD x0 0 ≠ (rgL n.toNat).getD y0 0))), (22, .bool ch), (56, .raw x17_1.1 x17_1.2), (57, .raw x57_1.1.1 x57_1.1.2), (58, .int .i64 ((x57_1.2.length : Nat) : Int)), (59, .int .i64 (q : Int))], [oss x57_1.1.1 24 2 x57_1.2, own x17_1.1 2 (.ints .i64 c), rd a (.arrs 10 l)]⟩) (fun q => q ≤ x57_1.2.length ∧ ∀ r, r < q → ¬ ((x0 : Nat) : Int) ∈ (x57_1.2.getD r sd).2) (fun q => x57_1.2.length - q) 0 ?_ ?_ ?_
      · exact ⟨by omega, fun r h => by omega⟩
      · exact Wk.intro (.cons rfl (by first | rfl | exact veq_int (by first | omega | (dsimp only; omega))) (.cons rfl (by first | rfl | exact veq_int (by first | omega | (dsimp only; omega))) (.cons rfl (by first | rfl | exact veq_int (by first | omega | (dsimp only; omega))) (.cons rfl (by first | rfl | exact veq_int (by first | omega | (dsimp only; omega))) (.cons rfl (by first | rfl | exact veq_int (by first | omega | (dsimp only; omega))) (.cons rfl (by first | rfl | exact veq_int (by first | omega | (dsimp only; omega))) (.cons rfl (by first | rfl | exact veq_int (by first | omega | (dsimp only; omega))) (.cons rfl (by first | rfl | exact veq_int (by first | omega | (dsimp only; omega))) (.cons rfl (by first | rfl | exact veq_int (by first | omega | (dsimp only; omega))) (.cons rfl (by first | rfl | exact veq_int (by first | omega | (dsimp only; omega))) (.cons rfl (by first | rfl | exact veq_int (by first | omega | (dsimp only; omega))) (.cons rfl (by first | rfl | exact veq_int (by first | omega | (dsimp only; omega))) (.cons rfl (by first | rfl | exact veq_int (by first | omega | (dsimp only; omega))) (.cons rfl (by first | rfl | exact veq_int (by first | omega | (dsimp only; omega))) (.cons rfl (by first | rfl | exact veq_int (by first | omega | (dsimp only; omega))) (.cons rfl (by first | rfl | exact veq_int (by first | omega | (dsimp only; omega))) (.cons rfl (by first | rfl | exact veq_int (by first | omega | (dsimp only; omega))) .nil))))))))))))))))) (.keep rfl rfl (fun _ h => h) (.keep rfl rfl (fun _ h => h) (.keep rfl rfl (fun _ h => h) .nil)))
      · rintro q ⟨hqq, hR⟩
        have hlq : x57_1.2.length ≤ 10 := (by have h0 := hJ.1.len; have h1 := snd_cnt hx1; have h2 := clF_len (c := c) (n := c.length) c.length; omega)
        refine W_seq ?_
        refine W_region ?_
        refine Ops_p (p_lss rfl rfl) (lt_dec rfl) ?_
        refine Ops_nil ?_
        refine W_seq ?_
        refine W_cond rfl (fun h5 => ?_) (fun h5 => ?_)
        · try simp only [bs] at h5
          refine W_skip ?_
          refine W_seq ?_
          refine W_block ?_
          refine W_seq ?_
          refine W_region ?_
          refine Ops_q (q_ixR (q) rfl rfl rfl (Rds.ossO m0) rfl rfl (by rw [valsR_len]; first | omega | (dsimp only; omega)) rfl) (lt_dec rfl) ?_
          refine Ops_q (q_loadI (j := q) rfl rfl (Rds.ossO m0) rfl (by first | omega | assumption) rfl rfl) (lt_dec rfl) ?_
          refine Ops_p (p_assign rfl) (lt_dec rfl) ?_
          refine Ops_nil ?_
          refine W_seq ?_
          have hll := hx1
          refine W_region ?_
          refine Ops_p (p_move rfl) (lt_dec rfl) ?_
          refine Ops_p (p_move rfl) (lt_dec rfl) ?_
          refine Ops_q (q_call en_slices_ContainsGSint64int64 rfl (w_slices_ContainsGSint64int64 (by have h0 := hJ.1.len; have h8 := len_getD (B := 10) hx1 (fun q hq => clF_in (by omega) q hq) q; omega)) (Vw.rdIO m0 (by omega) rfl).v) (lt_dec rfl) ?_
          refine Ops_nil ?_
          refine W_cond rfl (fun h6 => ?_) (fun h6 => ?_)
          · try simp only [bs] at h6
            have hct := h6
            refine W_seq ?_
            refine W_region ?_
            refine Ops_p (p_move rfl) (lt_dec rfl) ?_
            refine Ops_p (p_assign rfl) (lt_dec rfl) ?_
            refine Ops_nil ?_
            refine W_ret ?_
            refine Exists.intro _ (And.intro (.cons (.tmp rfl) .nil) (Exists.intro ⟨(x57_1.2.getD q sd).1.1, (x57_1.2.getD q sd).1.2⟩ (And.intro ?_ (And.intro ?_ (And.intro (.part HpDel.head (oss_part (by omega)) (oss_inner (by omega) (by exact blk_pick hp hx hy hJ.1 (hJ.2 hch) hx1 (by omega) (by simpa using hct))) .nil) rfl)))))
            · trivial
            · rfl
          · try simp only [bs] at h6
            have hct := h6
            refine W_skip ?_
            refine W_region ?_
            refine Ops_p (p_add rfl rfl (by exact ⟨(by first | omega | (dsimp only; omega)), (by first | omega | (dsimp only; omega))⟩)) (lt_dec rfl) ?_
            refine Ops_p (p_move rfl) (lt_dec rfl) ?_
            refine Ops_nil ?_
            refine Exists.intro (q + 1) (And.intro ?_ (And.intro ?_ ?_))
            · exact ⟨by omega, fun r h => if e : r = q then by subst e; simpa using hct else hR r (by omega)⟩
            · show _ < _; omega
            · exact Wk.intro (.cons rfl (by first | rfl | exact veq_int (by first | omega | (dsimp only; omega))) (.cons rfl (by first | rfl | exact veq_int (by first | omega | (dsimp only; omega))) (.cons rfl (by first | rfl | exact veq_int (by first | omega | (dsimp only; omega))) (.cons rfl (by first | rfl | exact veq_int (by first | omega | (dsimp only; omega))) (.cons rfl (by first | rfl | exact veq_int (by first | omega | (dsimp only; omega))) (.cons rfl (by first | rfl | exact veq_int (by first | omega | (dsimp only; omega))) (.cons rfl (by first | rfl | exact veq_int (by first | omega | (dsimp only; omega))) (.cons rfl (by first | rfl | exact veq_int (by first | omega | (dsimp only; omega))) (.cons rfl (by first | rfl | exact veq_int (by first | omega | (dsimp only; omega))) (.cons rfl (by first | rfl | exact veq_int (by first | omega | (dsimp only; omega))) (.cons rfl (by first | rfl | exact veq_int (by first | omega | (dsimp only; omega))) (.cons rfl (by first | rfl | exact veq_int (by first | omega | (dsimp only; omega))) (.cons rfl (by first | rfl | exact veq_int (by first | omega | (dsimp only; omega))) (.cons rfl (by first | rfl | exact veq_int (by first | omega | (dsimp only; omega))) (.cons rfl (by first | rfl | exact veq_int (by first | omega | (dsimp only; omega))) (.cons rfl (by first | rfl | exact veq_int (by first | omega | (dsimp only; omega))) (.cons rfl (by first | rfl | exact veq_int (by first | omega | (dsimp only; omega))) .nil))))))))))))))))) (.keep rfl rfl (fun _ h => h) (.keep rfl rfl (fun _ h => h) (.keep rfl rfl (fun _ h => h) .nil)))
        · try simp only [bs] at h5
          obtain rfl : q = x57_1.2.length := (by omega)
          refine W_exit ?_
          refine W_seq ?_
          refine W_region ?_
          refine Ops_p (p_assign rfl) (lt_dec rfl) ?_
          refine Ops_nil ?_
          refine W_ret ?_
          refine Exists.intro _ (And.intro (.cons (.tmp rfl) .nil) (Exists.intro ⟨.slice none 0 0, rfl⟩ (And.intro ?_ (And.intro ?_ (And.intro (.free rfl (False.elim (blk_none hp hx hy hJ.1 (hJ.2 hch) hx1 hR)) .nil) rfl)))))
          · trivial
          · rfl
end Go.Proofs.Ytdcpggdbjllmpab
