/- What the Go function impl.ForceCells does, shown of its loaded text; its conditions stand in the statement. -/
import Derived.Test.YtebcapplclgaeadTy
import Derived.Test.YtebcapplclgaeadFpimplcellscandidates
import Derived.Test.YtebcapplclgaeadFpimplcellsnext
import Derived.Test.YtebcapplclgaeadFpimplcellsput
import Derived.Test.YtebcapplclgaeadFimplsetlist
import Derived.Test.YtebcapplclgaeadFimplForceCellsX1
import Derived.Test.YtebcapplclgaeadFimplcellsOf
import Derived.Test.YtebcapplclgaeadGx12
import Derived.Test.YtebcapplclgaeadGx20
import Derived.Test.YtebcapplclgaeadM24
import Derived.Test.YtebcapplclgaeadM25
namespace Go.Proofs.Ytebcapplclgaead
open Go Gx
set_option linter.unusedVariables false
theorem en_impl_ForceCells : Enters Try.prog 46 := enters_of Try.func46 (by kernel_rfl) (by kernel_rfl)
set_option maxRecDepth 100000 in
set_option maxHeartbeats 2000000 in
theorem w_impl_ForceCells {a : Value} {ha : a.oneCell' = true} {L : SL}  : CT (X := V1 × SL) Try.prog 46 (vals [.raw a ha]) [] [rss a L] (fun x => x.2.map (·.2) = fcS L) (fun x => .tup [.raw x.1.1 x.1.2, .int .i64 (bif isPar L then 0 else 1)]) (fun x => [oss x.1.1 38 2 x.2]) := by
  refine CT_intro (rs := [.tmp 2, .tmp 3]) tt tok Try.func46 rfl rfl rfl (by first | rfl | assumption) fun w => ?_
  show W _ _ _ ⟨tmOf 0 [.raw a ha], [rss a L]⟩
  refine W_seq ?_
  refine W_region ?_
  refine Ops_p (p_assign rfl) (lt_dec rfl) ?_
  refine Ops_p (p_assign rfl) (lt_dec rfl) ?_
  refine Ops_nil ?_
  refine W_seq ?_
  refine W_region ?_
  refine Ops_p (p_move rfl) (lt_dec rfl) ?_
  refine Ops_x rfl (x_callT en_impl_cellsOf rfl (w_impl_cellsOf) HpDels.nil (Vw.rss m0) (fun _ => HpDels.nil) (lt_dec rfl) fun x17_1 hx1 => ?_)
  refine Ops_p (p_move rfl) (lt_dec rfl) ?_
  refine Ops_p (p_extract rfl rfl) (lt_dec rfl) ?_
  refine Ops_p (p_extract rfl rfl) (lt_dec rfl) ?_
  refine Ops_x rfl (x_alloc rfl (lt_dec rfl) fun b4_1 => ?_)
  refine Ops_x rfl (x_store rfl rfl rfl rfl rfl HpRep.head rfl (by first | trivial | (first | (first | omega | (dsimp only; omega)) | exact Fin.isLt _)) ?_)
  refine Ops_p (p_assign rfl) (lt_dec rfl) ?_
  refine Ops_nil ?_
  refine W_seq ?_
  refine W_seq ?_
  refine W_region ?_
  refine Ops_p (p_move rfl) (lt_dec rfl) ?_
  refine Ops_p (p_not rfl) (lt_dec rfl) ?_
  refine Ops_nil ?_
  refine W_cond rfl (fun h1 => ?_) (fun h1 => ?_)
  · try simp only [bs] at h1
    have hp : isPar L = false := (by simp_all)
    refine W_seq ?_
    refine W_region ?_
    refine Ops_p (p_assign rfl) (lt_dec rfl) ?_
    refine Ops_p (p_assign rfl) (lt_dec rfl) ?_
    refine Ops_nil ?_
    refine W_ret ?_
    refine Exists.intro _ (And.intro (.cons (.tmp rfl) (.cons (.tmp rfl) .nil)) (Exists.intro (⟨.slice none 0 0, rfl⟩, []) (And.intro ?_ (And.intro ?_ (And.intro (.free rfl oss_nil .nil) rfl)))))
    · rw [fcS_f hp]; rfl
    · rw [hp]; rfl
  · try simp only [bs] at h1
    have hp : isPar L = true := (by simp_all); have hP := of_isPar hp; have e12 := hx1 hp; subst e12
    refine W_skip ?_
    refine W_seq ?_
    refine W_block ?_
    refine W_loop (α := SL) (fun M => ⟨[(0, .raw a ha), (3, .int .i64 0), (4, .ptr b4_1 0 none), (5, .bool (isPar L)), (16, .raw a ha), (19, .bool (isPar L)), (20, .bool (isPar L))], [.var b4_1 (.agg [.int .i64 ((M.length : Nat) : Int), .arr8 100 (cT M), .arr .i64 10 (fun x => ((cR M x : Nat) : Int)), .arr .i64 10 (fun x => ((cC M x : Nat) : Int))]), rss a L]⟩) (fun M => FI L M) (fun M => emp M) L ?_ ?_ ?_
    · exact FI.start hP rfl
    · exact Wk.intro (.cons rfl (by first | rfl | exact veq_int (by first | omega | (dsimp only; omega))) (.cons rfl (by first | rfl | exact veq_int (by first | omega | (dsimp only; omega))) (.cons rfl (by first | rfl | exact veq_int (by first | omega | (dsimp only; omega))) (.cons rfl (by first | rfl | exact veq_int (by first | omega | (dsimp only; omega))) (.cons rfl (by first | rfl | exact veq_int (by first | omega | (dsimp only; omega))) (.cons rfl (by first | rfl | exact veq_int (by first | omega | (dsimp only; omega))) (.cons rfl (by first | rfl | exact veq_int (by first | omega | (dsimp only; omega))) .nil))))))) (.keep rfl rfl (imp_var (by rfl) rfl) (.keep rfl rfl (fun _ h => h) .nil))
    · rintro M hI
      have hnM := hI.1.1
      refine W_block ?_
      refine W_seq ?_
      refine W_region ?_
      refine Ops_p (p_makeFunc rfl rfl) (lt_dec rfl) ?_
      refine Ops_q (q_call en_pimpl_cells_next rfl ((by have h := w_pimpl_cells_next (t := cT M) (r := cR M) (c := cC M) (n := M.length) (k := 0) (bv := b4_1) (cap := #[(D.ptr b4_1 0 none).val]) (p := fun i j => decide ((filt (candB M i j) M.length).length = 1)) hnM (by omega) en_impl_ForceCellsX1 (fun i j hi hj => w_impl_ForceCellsX1 (bv := b4_1) hI.1 hi hj); rw [nx_step hI.1] at h; exact h)) (View.var m0)) (lt_dec rfl) ?_
      refine Ops_p (p_move rfl) (lt_dec rfl) ?_
      refine Ops_p (p_extract rfl rfl) (lt_dec rfl) ?_
      refine Ops_p (p_extract rfl rfl) (lt_dec rfl) ?_
      refine Ops_p (p_assign rfl) (lt_dec rfl) ?_
      refine Ops_p (p_assign rfl) (lt_dec rfl) ?_
      refine Ops_nil ?_
      refine W_seq ?_
      refine W_seq ?_
      refine W_region ?_
      refine Ops_p (p_move rfl) (lt_dec rfl) ?_
      refine Ops_p (p_not rfl) (lt_dec rfl) ?_
      refine Ops_nil ?_
      refine W_cond rfl (fun h2 => ?_) (fun h2 => ?_)
      · try simp only [bs] at h2
        have hs : stepF M = none := (by simpa using h2)
        refine W_exit ?_
        refine W_seq ?_
        have hFe := hI.end hs
        have hfl : ∀ a, a < M.length → (M.getD a sd).2.length = M.length := hI.1.2.1
        refine W_region ?_
        refine Ops_x rfl (x_buildSlice rfl rfl rfl rfl rfl rfl rfl rfl (Nat.le_of_ble_eq_true rfl) (lt_dec rfl) fun b47_1 => ?_)
        refine Ops_p (p_assign rfl) (lt_dec rfl) ?_
        refine Ops_nil ?_
        refine W_seq ?_
        refine W_seq ?_
        refine W_region ?_
        refine Ops_p (p_fieldAddr rfl rfl rfl rfl rfl rfl) (lt_dec rfl) ?_
        refine Ops_q (q_load rfl rfl m1 rfl (by first | trivial | (first | omega | (dsimp only; omega)) | exact Fin.isLt _ | (dsimp only; omega))) (lt_dec rfl) ?_
        refine Ops_p (p_move rfl) (lt_dec rfl) ?_
        refine Ops_nil ?_
        refine W_block ?_
        refine W_loop (α := Nat × V1 × SL) (fun zz1 => ⟨[(0, .raw a ha), (3, .int .i64 0), (4, .ptr b4_1 0 none), (5, .bool (isPar L)), (10, .raw (zz1.2.1).1 (zz1.2.1).2), (16, .raw a ha), (19, .bool (isPar L)), (20, .bool (isPar L)), (22, .tup [.int .i64 ((Option.getD (stepF M) 0 : Nat) : Int), .bool (Option.isSome (stepF M))]), (24, .tup [.int .i64 ((Option.getD (stepF M) 0 : Nat) : Int), .bool (Option.isSome (stepF M))]), (25, .int .i64 ((Option.getD (stepF M) 0 : Nat) : Int)), (26, .bool (Option.isSome (stepF M))), (27, .bool (Option.isSome (stepF M))), (49, .int .i64 ((M.length : Nat) : Int)), (50, .int .i64 ((zz1.1) : Int))], [oss (zz1.2.1).1 38 2 (zz1.2.2), .var b4_1 (.agg [.int .i64 ((M.length : Nat) : Int), .arr8 100 (cT M), .arr .i64 10 (fun x => ((cR M x : Nat) : Int)), .arr .i64 10 (fun x => ((cC M x : Nat) : Int))]), rss a L]⟩) (fun zz1 => (zz1.1) ≤ M.length ∧ (zz1.2.2).length = (zz1.1) ∧ (zz1.2.2).map (·.2) = (M.map (·.2)).take (zz1.1)) (fun zz1 => M.length - (zz1.1)) (0, slv b47_1 0 0, []) ?_ ?_ ?_
        · exact ⟨Nat.zero_le _, rfl, rfl⟩
        · exact Wk.intro (.cons rfl (by first | rfl | exact veq_int (by first | omega | (dsimp only; omega))) (.cons rfl (by first | rfl | exact veq_int (by first | omega | (dsimp only; omega))) (.cons rfl (by first | rfl | exact veq_int (by first | omega | (dsimp only; omega))) (.cons rfl (by first | rfl | exact veq_int (by first | omega | (dsimp only; omega))) (.cons rfl (by first | rfl | exact veq_int (by first | omega | (dsimp only; omega))) (.cons rfl (by first | rfl | exact veq_int (by first | omega | (dsimp only; omega))) (.cons rfl (by first | rfl | exact veq_int (by first | omega | (dsimp only; omega))) (.cons rfl (by first | rfl | exact veq_int (by first | omega | (dsimp only; omega))) (.cons rfl (by first | rfl | exact veq_int (by first | omega | (dsimp only; omega))) (.cons rfl (by first | rfl | exact veq_int (by first | omega | (dsimp only; omega))) (.cons rfl (by first | rfl | exact veq_int (by first | omega | (dsimp only; omega))) (.cons rfl (by first | rfl | exact veq_int (by first | omega | (dsimp only; omega))) (.cons rfl (by first | rfl | exact veq_int (by first | omega | (dsimp only; omega))) (.cons rfl (by first | rfl | exact veq_int (by first | omega | (dsimp only; omega))) (.cons rfl (by first | rfl | exact veq_int (by first | omega | (dsimp only; omega))) .nil))))))))))))))) (.keep rfl rfl (oss_of_row) (.keep rfl rfl (fun _ h => h) (.keep rfl rfl (fun _ h => h) .nil)))
        · rintro ⟨i, vv, D⟩ ⟨hi, hDl, hD⟩
          try dsimp only at *
          refine W_seq ?_
          refine W_region ?_
          refine Ops_p (p_lss rfl rfl) (lt_dec rfl) ?_
          refine Ops_nil ?_
          refine W_seq ?_
          refine W_cond rfl (fun h3 => ?_) (fun h3 => ?_)
          · try simp only [bs] at h3
            refine W_skip ?_
            refine W_seq ?_
            refine W_block ?_
            refine W_seq ?_
            refine W_region ?_
            refine Ops_p (p_move rfl) (lt_dec rfl) ?_
            refine Ops_p (p_assign rfl) (lt_dec rfl) ?_
            refine Ops_nil ?_
            refine W_seq ?_
            refine W_region ?_
            refine Ops_x rfl (x_buildSlice rfl rfl rfl rfl rfl rfl rfl rfl (Nat.le_of_ble_eq_true rfl) (lt_dec rfl) fun b53_1 => ?_)
            refine Ops_p (p_assign rfl) (lt_dec rfl) ?_
            refine Ops_nil ?_
            refine W_seq ?_
            refine W_seq ?_
            refine W_region ?_
            refine Ops_p (p_fieldAddr rfl rfl rfl rfl rfl rfl) (lt_dec rfl) ?_
            refine Ops_q (q_load rfl rfl m2 rfl (by first | trivial | (first | omega | (dsimp only; omega)) | exact Fin.isLt _ | (dsimp only; omega))) (lt_dec rfl) ?_
            refine Ops_p (p_move rfl) (lt_dec rfl) ?_
            refine Ops_nil ?_
            refine W_block ?_
            refine W_loop (α := Nat × Nat × Nat) (fun zz2 => ⟨[(0, .raw a ha), (3, .int .i64 0), (4, .ptr b4_1 0 none), (5, .bool (isPar L)), (10, .raw vv.1 vv.2), (11, .int .i64 (i : Int)), (12, .sl (zz2.2.1) 0 (zz2.1) (zz2.2.2)), (16, .raw a ha), (19, .bool (isPar L)), (20, .bool (isPar L)), (22, .tup [.int .i64 ((Option.getD (stepF M) 0 : Nat) : Int), .bool (Option.isSome (stepF M))]), (24, .tup [.int .i64 ((Option.getD (stepF M) 0 : Nat) : Int), .bool (Option.isSome (stepF M))]), (25, .int .i64 ((Option.getD (stepF M) 0 : Nat) : Int)), (26, .bool (Option.isSome (stepF M))), (27, .bool (Option.isSome (stepF M))), (49, .int .i64 ((M.length : Nat) : Int)), (50, .int .i64 (i : Int)), (52, .int .i64 (i : Int)), (55, .int .i64 ((M.length : Nat) : Int)), (56, .int .i64 ((zz2.1) : Int))], [.row (zz2.2.1) (zz2.2.2) 2 (.ints .i64 (rowM M i (zz2.1))), oss vv.1 38 2 D, .var b4_1 (.agg [.int .i64 ((M.length : Nat) : Int), .arr8 100 (cT M), .arr .i64 10 (fun x => ((cR M x : Nat) : Int)), .arr .i64 10 (fun x => ((cC M x : Nat) : Int))]), rss a L]⟩) (fun zz2 => (zz2.1) ≤ M.length) (fun zz2 => M.length - (zz2.1)) (0, b53_1, 0) ?_ ?_ ?_
            · show _ ≤ _; omega
            · exact Wk.intro (.cons rfl (by first | rfl | exact veq_int (by first | omega | (dsimp only; omega))) (.cons rfl (by first | rfl | exact veq_int (by first | omega | (dsimp only; omega))) (.cons rfl (by first | rfl | exact veq_int (by first | omega | (dsimp only; omega))) (.cons rfl (by first | rfl | exact veq_int (by first | omega | (dsimp only; omega))) (.cons rfl (by first | rfl | exact veq_int (by first | omega | (dsimp only; omega))) (.cons rfl (by first | rfl | exact veq_int (by first | omega | (dsimp only; omega))) (.cons rfl (by first | rfl | exact veq_int (by first | omega | (dsimp only; omega))) (.cons rfl (by first | rfl | exact veq_int (by first | omega | (dsimp only; omega))) (.cons rfl (by first | rfl | exact veq_int (by first | omega | (dsimp only; omega))) (.cons rfl (by first | rfl | exact veq_int (by first | omega | (dsimp only; omega))) (.cons rfl (by first | rfl | exact veq_int (by first | omega | (dsimp only; omega))) (.cons rfl (by first | rfl | exact veq_int (by first | omega | (dsimp only; omega))) (.cons rfl (by first | rfl | exact veq_int (by first | omega | (dsimp only; omega))) (.cons rfl (by first | rfl | exact veq_int (by first | omega | (dsimp only; omega))) (.cons rfl (by first | rfl | exact veq_int (by first | omega | (dsimp only; omega))) (.cons rfl (by first | rfl | exact veq_int (by first | omega | (dsimp only; omega))) (.cons rfl (by first | rfl | exact veq_int (by first | omega | (dsimp only; omega))) (.cons rfl (by first | rfl | exact veq_int (by first | omega | (dsimp only; omega))) (.cons rfl (by first | rfl | exact veq_int (by first | omega | (dsimp only; omega))) (.cons rfl (by first | rfl | exact veq_int (by first | omega | (dsimp only; omega))) .nil)))))))))))))))))))) (.keep rfl rfl (fun _ h => h) (.keep rfl rfl (fun _ h => h) (.keep rfl rfl (fun _ h => h) (.keep rfl rfl (fun _ h => h) .nil))))
            · rintro ⟨j, bb, cbb⟩ hR
              try dsimp only at *
              have hrl := rowM_len (M := M) (i := i) j
              refine W_seq ?_
              refine W_region ?_
              refine Ops_p (p_lss rfl rfl) (lt_dec rfl) ?_
              refine Ops_nil ?_
              refine W_seq ?_
              refine W_cond rfl (fun h4 => ?_) (fun h4 => ?_)
              · try simp only [bs] at h4
                refine W_skip ?_
                refine W_seq ?_
                refine W_block ?_
                refine W_seq ?_
                refine W_region ?_
                refine Ops_p (p_move rfl) (lt_dec rfl) ?_
                refine Ops_p (p_assign rfl) (lt_dec rfl) ?_
                refine Ops_nil ?_
                refine W_seq ?_
                have hta := cT_at (i := i) (j := j) (isPar_t hI.1).symm (by omega) (by omega)
                have htv := cT_v (i := i) (j := j) (isPar_t hI.1).symm (by omega) (by omega)
                have hrg := hI.1.2.2.1 i j (by omega) (by omega)
                refine W_region ?_
                refine Ops_p (p_move rfl) (lt_dec rfl) ?_
                refine Ops_p (p_move rfl) (lt_dec rfl) ?_
                refine Ops_p (p_fieldAddr rfl rfl rfl rfl rfl rfl) (lt_dec rfl) ?_
                refine Ops_p (p_ixN 10 _ rfl rfl rfl rfl rfl rfl (by first | (first | omega | (dsimp only; omega)) | exact Fin.isLt _)) (lt_dec rfl) ?_
                first | refine Ops_p (p_ix1 _ rfl rfl rfl rfl rfl rfl (by first | (first | omega | (dsimp only; omega)) | exact Fin.isLt _)) (lt_dec rfl) ?_ | refine Ops_p (p_ix1s _ rfl rfl rfl rfl rfl rfl (by first | (first | omega | (dsimp only; omega)) | exact Fin.isLt _)) (lt_dec rfl) ?_
                refine Ops_q (q_load rfl rfl m2 rfl (by first | trivial | (first | omega | (dsimp only; omega)) | exact Fin.isLt _ | (dsimp only; omega))) (lt_dec rfl) ?_
                first | refine Ops_p (p_conv8 rfl rfl rfl (by decide)) (lt_dec rfl) ?_ | refine Ops_p (p_conv rfl rfl rfl (by exact ⟨(by first | omega | (dsimp only; omega)), (by first | omega | (dsimp only; omega))⟩)) (lt_dec rfl) ?_
                refine Ops_p (p_assign rfl) (lt_dec rfl) ?_
                refine Ops_nil ?_
                refine W_seq ?_
                refine W_seq ?_
                refine W_region ?_
                refine Ops_p (p_move rfl) (lt_dec rfl) ?_
                refine Ops_p (p_eql rfl rfl) (lt_dec rfl) ?_
                refine Ops_nil ?_
                refine W_cond rfl (fun h5 => ?_) (fun h5 => ?_)
                · try simp only [bs] at h5
                  refine W_region ?_
                  refine Ops_p (p_assign rfl) (lt_dec rfl) ?_
                  refine Ops_nil ?_
                  refine W_region ?_
                  refine Ops_p (p_move rfl) (lt_dec rfl) ?_
                  refine Ops_p (p_move rfl) (lt_dec rfl) ?_
                  refine Ops_x rfl (x_buildSlice rfl rfl rfl rfl rfl rfl rfl rfl (Nat.le_of_ble_eq_true rfl) (lt_dec rfl) fun b70_1 => ?_)
                  refine Ops_x rfl (x_append rfl rfl rfl rfl rfl rfl (fun _ _ => (HpRep.head).tail) (.inl ⟨m0, rfl⟩) rfl (by show _ = List.length _; rw [rowM_len]) rfl (by first | omega | (dsimp only; omega)) rfl (by first | omega | (dsimp only; omega)) (by first | omega | (dsimp only; omega)) (lt_dec rfl) fun b71_1 cb71_1 => ?_)
                  refine Ops_p (p_assign rfl) (lt_dec rfl) ?_
                  refine Ops_nil ?_
                  refine W_region ?_
                  refine Ops_p (p_add rfl rfl (by exact ⟨(by first | omega | (dsimp only; omega)), (by first | omega | (dsimp only; omega))⟩)) (lt_dec rfl) ?_
                  refine Ops_p (p_move rfl) (lt_dec rfl) ?_
                  refine Ops_nil ?_
                  refine Exists.intro (j + 1, b71_1, cb71_1) (And.intro ?_ (And.intro ?_ ?_))
                  · show _ ≤ _; omega
                  · show _ < _; omega
                  · exact Wk.intro (.cons rfl (by first | rfl | exact veq_int (by first | omega | (dsimp only; omega))) (.cons rfl (by first | rfl | exact veq_int (by first | omega | (dsimp only; omega))) (.cons rfl (by first | rfl | exact veq_int (by first | omega | (dsimp only; omega))) (.cons rfl (by first | rfl | exact veq_int (by first | omega | (dsimp only; omega))) (.cons rfl (by first | rfl | exact veq_int (by first | omega | (dsimp only; omega))) (.cons rfl (by first | rfl | exact veq_int (by first | omega | (dsimp only; omega))) (.cons rfl (veq_sl rfl) (.cons rfl (by first | rfl | exact veq_int (by first | omega | (dsimp only; omega))) (.cons rfl (by first | rfl | exact veq_int (by first | omega | (dsimp only; omega))) (.cons rfl (by first | rfl | exact veq_int (by first | omega | (dsimp only; omega))) (.cons rfl (by first | rfl | exact veq_int (by first | omega | (dsimp only; omega))) (.cons rfl (by first | rfl | exact veq_int (by first | omega | (dsimp only; omega))) (.cons rfl (by first | rfl | exact veq_int (by first | omega | (dsimp only; omega))) (.cons rfl (by first | rfl | exact veq_int (by first | omega | (dsimp only; omega))) (.cons rfl (by first | rfl | exact veq_int (by first | omega | (dsimp only; omega))) (.cons rfl (by first | rfl | exact veq_int (by first | omega | (dsimp only; omega))) (.cons rfl (by first | rfl | exact veq_int (by first | omega | (dsimp only; omega))) (.cons rfl (by first | rfl | exact veq_int (by first | omega | (dsimp only; omega))) (.cons rfl (by first | rfl | exact veq_int (by first | omega | (dsimp only; omega))) (.cons rfl (by first | rfl | exact veq_int (by first | omega | (dsimp only; omega))) .nil)))))))))))))))))))) (.drop (.keep rfl rfl (fun _ h => by first | exact h | (rw [show rowM M i (j + 1) = rowM M i j ++ [at2 M i j] from rfl, show at2 M i j = -1 by omega]; exact h) | (rw [show rowM M i (j + 1) = rowM M i j ++ [at2 M i j] from rfl, ← htv (by omega)]; exact h)) (.keep rfl rfl (fun _ h => h) (.keep rfl rfl (fun _ h => h) (.keep rfl rfl (fun _ h => h) .nil)))))
                · try simp only [bs] at h5
                  refine W_skip ?_
                  refine W_region ?_
                  refine Ops_p (p_move rfl) (lt_dec rfl) ?_
                  refine Ops_p (p_move rfl) (lt_dec rfl) ?_
                  refine Ops_x rfl (x_buildSlice rfl rfl rfl rfl rfl rfl rfl rfl (Nat.le_of_ble_eq_true rfl) (lt_dec rfl) fun b70_2 => ?_)
                  refine Ops_x rfl (x_append rfl rfl rfl rfl rfl rfl (fun _ _ => (HpRep.head).tail) (.inl ⟨m0, rfl⟩) rfl (by show _ = List.length _; rw [rowM_len]) rfl (by first | omega | (dsimp only; omega)) rfl (by first | omega | (dsimp only; omega)) (by first | omega | (dsimp only; omega)) (lt_dec rfl) fun b71_2 cb71_2 => ?_)
                  refine Ops_p (p_assign rfl) (lt_dec rfl) ?_
                  refine Ops_nil ?_
                  refine W_region ?_
                  refine Ops_p (p_add rfl rfl (by exact ⟨(by first | omega | (dsimp only; omega)), (by first | omega | (dsimp only; omega))⟩)) (lt_dec rfl) ?_
                  refine Ops_p (p_move rfl) (lt_dec rfl) ?_
                  refine Ops_nil ?_
                  refine Exists.intro (j + 1, b71_2, cb71_2) (And.intro ?_ (And.intro ?_ ?_))
                  · show _ ≤ _; omega
                  · show _ < _; omega
                  · exact Wk.intro (.cons rfl (by first | rfl | exact veq_int (by first | omega | (dsimp only; omega))) (.cons rfl (by first | rfl | exact veq_int (by first | omega | (dsimp only; omega))) (.cons rfl (by first | rfl | exact veq_int (by first | omega | (dsimp only; omega))) (.cons rfl (by first | rfl | exact veq_int (by first | omega | (dsimp only; omega))) (.cons rfl (by first | rfl | exact veq_int (by first | omega | (dsimp only; omega))) (.cons rfl (by first | rfl | exact veq_int (by first | omega | (dsimp only; omega))) (.cons rfl (veq_sl rfl) (.cons rfl (by first | rfl | exact veq_int (by first | omega | (dsimp only; omega))) (.cons rfl (by first | rfl | exact veq_int (by first | omega | (dsimp only; omega))) (.cons rfl (by first | rfl | exact veq_int (by first | omega | (dsimp only; omega))) (.cons rfl (by first | rfl | exact veq_int (by first | omega | (dsimp only; omega))) (.cons rfl (by first | rfl | exact veq_int (by first | omega | (dsimp only; omega))) (.cons rfl (by first | rfl | exact veq_int (by first | omega | (dsimp only; omega))) (.cons rfl (by first | rfl | exact veq_int (by first | omega | (dsimp only; omega))) (.cons rfl (by first | rfl | exact veq_int (by first | omega | (dsimp only; omega))) (.cons rfl (by first | rfl | exact veq_int (by first | omega | (dsimp only; omega))) (.cons rfl (by first | rfl | exact veq_int (by first | omega | (dsimp only; omega))) (.cons rfl (by first | rfl | exact veq_int (by first | omega | (dsimp only; omega))) (.cons rfl (by first | rfl | exact veq_int (by first | omega | (dsimp only; omega))) (.cons rfl (by first | rfl | exact veq_int (by first | omega | (dsimp only; omega))) .nil)))))))))))))))))))) (.drop (.keep rfl rfl (fun _ h => by first | exact h | (rw [show rowM M i (j + 1) = rowM M i j ++ [at2 M i j] from rfl, show at2 M i j = -1 by omega]; exact h) | (rw [show rowM M i (j + 1) = rowM M i j ++ [at2 M i j] from rfl, ← htv (by omega)]; exact h)) (.keep rfl rfl (fun _ h => h) (.keep rfl rfl (fun _ h => h) (.keep rfl rfl (fun _ h => h) .nil)))))
              · try simp only [bs] at h4
                obtain rfl : j = M.length := (by omega)
                refine W_exit ?_
                refine W_region ?_
                refine Ops_p (p_move rfl) (lt_dec rfl) ?_
                refine Ops_p (p_move rfl) (lt_dec rfl) ?_
                refine Ops_x rfl (x_buildSlice rfl rfl rfl rfl rfl rfl rfl rfl (Nat.le_of_ble_eq_true rfl) (lt_dec rfl) fun b75_1 => ?_)
                refine Ops_x rfl (x_appendSS (u := (slv bb M.length cbb)) (li := (rowM M i M.length)) rfl rfl rfl rfl rfl rfl m0 (HpDels.cons ((HpDel.head).tail).tail (HpDels.cons (HpDel.head).tail HpDels.nil)) rfl rfl (own_of_row (by show _ = List.length _; rw [rowM_len]) rfl) (fun _ => (HpDels.cons (HpDel.head).tail HpDels.nil)) (by have := snd_take hD; dsimp only; omega) (by have := snd_take hD; omega) (lt_dec rfl) fun v76 => ?_)
                refine Ops_p (p_assign rfl) (lt_dec rfl) ?_
                refine Ops_nil ?_
                refine W_region ?_
                refine Ops_p (p_add rfl rfl (by exact ⟨(by first | omega | (dsimp only; omega)), (by first | omega | (dsimp only; omega))⟩)) (lt_dec rfl) ?_
                refine Ops_p (p_move rfl) (lt_dec rfl) ?_
                refine Ops_nil ?_
                refine Exists.intro (i + 1, v76, (D ++ [((slv bb M.length cbb), (rowM M i M.length))])) (And.intro ?_ (And.intro ?_ ?_))
                · exact ⟨by show _ ≤ _; omega, by simp [hDl], by rw [rowM_full (hfl i (by omega))]; exact cp_next hD (by omega) _⟩
                · show _ < _; omega
                · exact Wk.intro (.cons rfl (by first | rfl | exact veq_int (by first | omega | (dsimp only; omega))) (.cons rfl (by first | rfl | exact veq_int (by first | omega | (dsimp only; omega))) (.cons rfl (by first | rfl | exact veq_int (by first | omega | (dsimp only; omega))) (.cons rfl (by first | rfl | exact veq_int (by first | omega | (dsimp only; omega))) (.cons rfl (by first | rfl | exact veq_int (by first | omega | (dsimp only; omega))) (.cons rfl (by first | rfl | exact veq_int (by first | omega | (dsimp only; omega))) (.cons rfl (by first | rfl | exact veq_int (by first | omega | (dsimp only; omega))) (.cons rfl (by first | rfl | exact veq_int (by first | omega | (dsimp only; omega))) (.cons rfl (by first | rfl | exact veq_int (by first | omega | (dsimp only; omega))) (.cons rfl (by first | rfl | exact veq_int (by first | omega | (dsimp only; omega))) (.cons rfl (by first | rfl | exact veq_int (by first | omega | (dsimp only; omega))) (.cons rfl (by first | rfl | exact veq_int (by first | omega | (dsimp only; omega))) (.cons rfl (by first | rfl | exact veq_int (by first | omega | (dsimp only; omega))) (.cons rfl (by first | rfl | exact veq_int (by first | omega | (dsimp only; omega))) (.cons rfl (by first | rfl | exact veq_int (by first | omega | (dsimp only; omega))) .nil))))))))))))))) (.drop (.keep rfl rfl (oss_eq rfl) (.keep rfl rfl (fun _ h => h) (.keep rfl rfl (fun _ h => h) .nil))))
          · try simp only [bs] at h3
            obtain rfl : i = M.length := (by omega)
            refine W_exit ?_
            refine W_seq ?_
            refine W_region ?_
            refine Ops_p (p_move rfl) (lt_dec rfl) ?_
            refine Ops_p (p_assign rfl) (lt_dec rfl) ?_
            refine Ops_p (p_assign rfl) (lt_dec rfl) ?_
            refine Ops_nil ?_
            refine W_ret ?_
            refine Exists.intro _ (And.intro (.cons (.tmp rfl) (.cons (.tmp rfl) .nil)) (Exists.intro (vv, D) (And.intro ?_ (And.intro ?_ (And.intro (.cons HpDel.head rfl (oss_eq rfl) .nil) rfl)))))
            · rw [fcS_t hp, ← hFe]; exact cp_end hD (by omega)
            · rw [hp]; rfl
      · try simp only [bs] at h2
        obtain ⟨q, hq⟩ := Option.isSome_iff_exists.1 (show (stepF M).isSome = true by simpa using h2)
        refine W_skip ?_
        refine W_seq ?_
        obtain ⟨s1, s2, s3, s4, v, s5, s6, s7⟩ := step_spec hq
        have hv10 : v < 10 := (by omega)
        have hq0 : (stepF M).getD 0 = q := (by rw [hq]; rfl)
        have hqb : q ≤ 1000 := (by have h9 := (ffrom_spec _ _ hq).2.1; have h8 := nn_b hnM.2; omega)
        have hsl : setL (bsP (candB M (q / M.length) (q % M.length)) M.length) 10 = fcL M q := (by rw [setL_filt, Nat.min_eq_right hnM.2]; rfl)
        have hm10 := hnM.2
        have hsl1 : 0 < (setL (bsP (candB M (q / M.length) (q % M.length)) M.length) 10).length := (by rw [hsl]; omega)
        refine W_draw (by kernel_rfl) ?_
        show RA _ _ 10 _ _ _
        refine RA_quietF [0, 1, 2, 3, 4, 5, 6, 7, 8, 9] rfl rfl rfl (by kernel_rfl) (by kernel_rfl) ?_
        refine WQ_cons rfl rfl rfl ((p_move rfl).q) (lt_dec rfl) ?_
        refine WQ_cons rfl rfl rfl ((p_fieldAddr rfl rfl rfl rfl rfl rfl).q) (lt_dec rfl) ?_
        refine WQ_cons rfl rfl rfl ((q_load rfl rfl m0 rfl (by first | trivial | (first | omega | (dsimp only; omega)) | exact Fin.isLt _ | (dsimp only; omega)))) (lt_dec rfl) ?_
        refine WQ_cons rfl rfl rfl (((p_quo rfl rfl (by omega) (by omega) (by rw [hq0]; exact quo_in hqb)).eq (d' := .int .i64 ((q / M.length : Nat) : Int)) (by rw [hq0]; exact veq_quo)).q) (lt_dec rfl) ?_
        refine WQ_cons rfl rfl rfl ((p_move rfl).q) (lt_dec rfl) ?_
        refine WQ_cons rfl rfl rfl ((p_fieldAddr rfl rfl rfl rfl rfl rfl).q) (lt_dec rfl) ?_
        refine WQ_cons rfl rfl rfl ((q_load rfl rfl m0 rfl (by first | trivial | (first | omega | (dsimp only; omega)) | exact Fin.isLt _ | (dsimp only; omega)))) (lt_dec rfl) ?_
        refine WQ_cons rfl rfl rfl (((p_rem rfl rfl (by omega) (by omega)).eq (d' := .int .i64 ((q % M.length : Nat) : Int)) (by rw [hq0]; exact veq_rem)).q) (lt_dec rfl) ?_
        refine WQ_cons rfl rfl rfl ((p_assign rfl).q) (lt_dec rfl) ?_
        refine WQ_cons rfl rfl rfl ((p_assign rfl).q) (lt_dec rfl) ?_
        refine WQ_nil ?_
        refine W_region ?_
        refine Ops_p (p_move rfl) (lt_dec rfl) ?_
        refine Ops_p (p_move rfl) (lt_dec rfl) ?_
        refine Ops_p (p_move rfl) (lt_dec rfl) ?_
        refine Ops_p (p_move rfl) (lt_dec rfl) ?_
        refine Ops_q (q_call en_pimpl_cells_candidates rfl (w_pimpl_cells_candidates (t := cT M) (r := cR M) (c := cC M) (i := (q / M.length)) (j := (q % M.length)) (n := M.length) (q := bsP (candB M ((q / M.length)) ((q % M.length))) M.length) (bv := b4_1) hnM.2 (by omega) (by omega) cR_lt cC_lt (cand_bits hnM.2 s1 s2)) (View.var m0)) (lt_dec rfl) ?_
        refine Ops_x rfl (x_callT en_impl_set_list rfl (w_impl_set_list (bsP_10 hnM.2)) HpDels.nil (Vw.none _) (fun _ => (HpDels.cons HpDel.head HpDels.nil)) (lt_dec rfl) fun x42_1 _ => ?_)
        refine Ops_q (q_ixR 0 rfl rfl rfl (Rds.own m0) rfl rfl (by show 0 < List.length _; rw [hsl]; omega) rfl) (lt_dec rfl) ?_
        refine Ops_q (q_loadR rfl rfl (Rds.own m0) rfl rfl (by first | (show _ < List.length _; omega) | (show _ < List.length _; first | omega | (dsimp only; omega))) rfl rfl rfl) (lt_dec rfl) ?_
        refine Ops_p ((p_conv rfl rfl rfl (by rw [hsl, s5]; exact ⟨by omega, by omega⟩)).eq (d' := .u8 (Fin.ofNat 256 v)) (by rw [hsl, s5]; exact veq_byte (by omega))) (lt_dec rfl) ?_
        refine Ops_x rfl (x_callV en_pimpl_cells_put rfl (w_pimpl_cells_put (t := cT M) (r := cR M) (c := cC M) (n := ((M.length : Nat) : Int)) (i := q / M.length) (j := q % M.length) (bv := b4_1) (m := Fin.ofNat 256 v) (by omega) (by omega) (by rw [ofNat_val (by omega)]; omega) cR_lt cC_lt) (View.w m1 (View.none _) rfl (fun e he => by cases he)) ((HpRep.head).tail) (lt_dec rfl) ?_)
        refine Ops_nil ?_
        refine Exists.intro (nxtF M) (And.intro ?_ (And.intro ?_ ?_))
        · exact FI.step hI hq
        · show _ < _; exact nxtF_less hI.1 hq
        · exact Wk.intro (.cons rfl (by first | rfl | exact veq_int (by first | omega | (dsimp only; omega))) (.cons rfl (by first | rfl | exact veq_int (by first | omega | (dsimp only; omega))) (.cons rfl (by first | rfl | exact veq_int (by first | omega | (dsimp only; omega))) (.cons rfl (by first | rfl | exact veq_int (by first | omega | (dsimp only; omega))) (.cons rfl (by first | rfl | exact veq_int (by first | omega | (dsimp only; omega))) (.cons rfl (by first | rfl | exact veq_int (by first | omega | (dsimp only; omega))) (.cons rfl (by first | rfl | exact veq_int (by first | omega | (dsimp only; omega))) .nil))))))) (.drop (.keep rfl rfl (imp_var (by exact ceq_cons (ceq_int (by rw [nxtF_len])) (ceq_cons (ceq_arr8 fun k hk => by rw [nxtF_some hq, s5]; exact cT_set hI.1 s1 s2 k hk) (ceq_cons (ceq_arr fun k hk => by rw [nxtF_some hq, s5, ofNat_val (show v < 256 by omega), ← cR_set hI.1 s1 s2 s3 hv10 k]; exact (if e : k = (q / M.length) then by rw [if_pos e, if_pos e] else by rw [if_neg e, if_neg e])) (ceq_cons (ceq_arr fun k hk => by rw [nxtF_some hq, s5, ofNat_val (show v < 256 by omega), ← cC_set hI.1 s1 s2 s3 hv10 k]; exact (if e : k = (q % M.length) then by rw [if_pos e, if_pos e] else by rw [if_neg e, if_neg e])) rfl)))) rfl) (.keep rfl rfl (fun _ h => h) .nil)))
end Go.Proofs.Ytebcapplclgaead
