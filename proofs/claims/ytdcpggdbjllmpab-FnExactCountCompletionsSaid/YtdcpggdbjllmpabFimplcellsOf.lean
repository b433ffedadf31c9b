/- What the Go function impl.cellsOf does, shown of its loaded text; its conditions stand in the statement. -/
import Derived.Test.YtdcpggdbjllmpabTy
import Derived.Test.YtdcpggdbjllmpabFpimplcellsput
import Derived.Test.YtdcpggdbjllmpabFimplsethas
import Derived.Test.YtdcpggdbjllmpabFimplwithin
import Derived.Test.YtdcpggdbjllmpabGx12
import Derived.Test.YtdcpggdbjllmpabGx20
import Derived.Test.YtdcpggdbjllmpabM24
namespace Go.Proofs.Ytdcpggdbjllmpab
open Go Gx
set_option linter.unusedVariables false
theorem en_impl_cellsOf : Enters Try.prog 58 := enters_of Try.func58 (by kernel_rfl) (by kernel_rfl)
set_option maxRecDepth 100000 in
set_option maxHeartbeats 2000000 in
theorem w_impl_cellsOf {a : Value} {ha : a.oneCell' = true} {L : SL}  : CT (X := (Nat → Fin 256) × (Nat → Int) × (Nat → Int)) Try.prog 58 (vals [.raw a ha]) [] [rss a L] (fun x => isPar L = true → x = (cT L, (fun r => ((cR L r : Nat) : Int)), (fun r => ((cC L r : Nat) : Int)))) (fun x => .tup [.agg [.int .i64 ((L.length : Nat) : Int), .arr8 100 x.1, .arr .i64 10 x.2.1, .arr .i64 10 x.2.2], .bool (isPar L)]) (fun x => []) := by
  refine CT_intro (rs := [.cell 2 82, .tmp 3]) tt tok Try.func58 rfl rfl rfl (by first | rfl | assumption) fun w => ?_
  show W _ _ _ ⟨tmOf 0 [.raw a ha], [rss a L]⟩
  refine W_seq ?_
  refine W_region ?_
  refine Ops_x rfl (x_alloc rfl (lt_dec rfl) fun b2_1 => ?_)
  refine Ops_p (p_assign rfl) (lt_dec rfl) ?_
  refine Ops_nil ?_
  refine W_seq ?_
  refine W_region ?_
  refine Ops_p (p_move rfl) (lt_dec rfl) ?_
  refine Ops_q (q_lenO rfl rfl rfl (Rds.rssO m1)) (lt_dec rfl) ?_
  refine Ops_p (p_build rfl rfl rfl rfl (by first | trivial | (first | omega | (dsimp only; omega)) | exact Fin.isLt _ | (dsimp only; omega))) (lt_dec rfl) ?_
  refine Ops_x rfl (x_alloc rfl (lt_dec rfl) fun b4_1 => ?_)
  refine Ops_x rfl (x_store rfl rfl rfl rfl rfl HpRep.head rfl (by first | trivial | (first | (first | omega | (dsimp only; omega)) | exact Fin.isLt _)) ?_)
  refine Ops_nil ?_
  refine W_seq ?_
  refine W_seq ?_
  refine W_region ?_
  refine Ops_p (p_fieldAddr rfl rfl rfl rfl rfl rfl) (lt_dec rfl) ?_
  refine Ops_q (q_load rfl rfl m0 rfl (by first | trivial | (first | omega | (dsimp only; omega)) | exact Fin.isLt _ | (dsimp only; omega))) (lt_dec rfl) ?_
  refine Ops_q (q_call en_impl_within rfl (w_impl_within) (View.none _)) (lt_dec rfl) ?_
  refine Ops_p (p_not rfl) (lt_dec rfl) ?_
  refine Ops_nil ?_
  refine W_cond rfl (fun h1 => ?_) (fun h1 => ?_)
  · try simp only [bs] at h1
    refine W_seq ?_
    refine W_region ?_
    refine Ops_q (q_load rfl rfl m0 rfl (by first | trivial | (first | omega | (dsimp only; omega)) | exact Fin.isLt _ | (dsimp only; omega))) (lt_dec rfl) ?_
    refine Ops_x rfl (x_store rfl rfl rfl rfl rfl ((HpRep.head).tail) rfl (by first | trivial | (first | (first | omega | (dsimp only; omega)) | exact Fin.isLt _)) ?_)
    refine Ops_p (p_assign rfl) (lt_dec rfl) ?_
    refine Ops_nil ?_
    refine W_ret ?_
    refine Exists.intro _ (And.intro (.cons (.cell rfl rfl m1 rfl trivial) (.cons (.tmp rfl) .nil)) (Exists.intro (fun _ => 0, fun _ => 0, fun _ => 0) (And.intro ?_ (And.intro ?_ (And.intro .nil rfl)))))
    · intro hh; have h9 : false = isPar L := (by first | exact isPar_n (by omega) | exact isPar_l (i := i) (by omega) (by unfold ln2; omega) | exact isPar_r (i := i) (j := j) (by omega) (by omega) (by unfold at2; omega) | exact par_rowdup (i := i) (j := j) (by omega) (by omega) (show at2 L i j = (v : Int) by unfold at2; omega) (by omega) (by rw [ofNat_val (by omega)] at *; assumption) | exact par_coldup (i := i) (j := j) (by omega) (by omega) (show at2 L i j = (v : Int) by unfold at2; omega) (by omega) (by rw [ofNat_val (by omega)] at *; assumption)); rw [← h9] at hh; cases hh
    · exact veq_tup2 rfl (veq_bool (by first | exact isPar_n (by omega) | exact isPar_l (i := i) (by omega) (by unfold ln2; omega) | exact isPar_r (i := i) (j := j) (by omega) (by omega) (by unfold at2; omega) | exact par_rowdup (i := i) (j := j) (by omega) (by omega) (show at2 L i j = (v : Int) by unfold at2; omega) (by omega) (by rw [ofNat_val (by omega)] at *; assumption) | exact par_coldup (i := i) (j := j) (by omega) (by omega) (show at2 L i j = (v : Int) by unfold at2; omega) (by omega) (by rw [ofNat_val (by omega)] at *; assumption)))
  · try simp only [bs] at h1
    refine W_skip ?_
    refine W_seq ?_
    refine W_seq ?_
    refine W_region ?_
    refine Ops_p (p_move rfl) (lt_dec rfl) ?_
    refine Ops_q (q_lenO rfl rfl rfl (Rds.rssO m2)) (lt_dec rfl) ?_
    refine Ops_p (p_move rfl) (lt_dec rfl) ?_
    refine Ops_nil ?_
    refine W_block ?_
    refine W_loop (α := Nat) (fun i => ⟨[(0, .raw a ha), (2, .ptr b2_1 0 none), (4, .ptr b4_1 0 none), (9, .raw a ha), (10, .int .i64 ((L.length : Nat) : Int)), (11, .agg [.int .i64 ((L.length : Nat) : Int), .arr8 100 (fun _ => 0), .arr .i64 10 (fun _ => 0), .arr .i64 10 (fun _ => 0)]), (13, .int .i64 ((L.length : Nat) : Int)), (17, .raw a ha), (18, .int .i64 ((L.length : Nat) : Int)), (19, .int .i64 (i : Int))], [.var b4_1 (.agg [.int .i64 ((L.length : Nat) : Int), .arr8 100 (part L.length (gC L) i 0), .arr .i64 10 (fun x => ((rowS L L.length i 0 x : Nat) : Int)), .arr .i64 10 (fun x => ((colS L L.length i 0 x : Nat) : Int))]), .var b2_1 (.agg [.int .i64 0, .arr8 100 fun _ => 0, .arr .i64 10 fun _ => 0, .arr .i64 10 fun _ => 0]), rss a L]⟩) (fun i => i ≤ L.length ∧ ParA L i 0) (fun i => L.length - i) 0 ?_ ?_ ?_
    · exact ⟨by omega, ParA.zero⟩
    · exact Wk.intro (.cons rfl (by first | rfl | exact veq_int (by first | omega | (dsimp only; omega))) (.cons rfl (by first | rfl | exact veq_int (by first | omega | (dsimp only; omega))) (.cons rfl (by first | rfl | exact veq_int (by first | omega | (dsimp only; omega))) (.cons rfl (by first | rfl | exact veq_int (by first | omega | (dsimp only; omega))) (.cons rfl (by first | rfl | exact veq_int (by first | omega | (dsimp only; omega))) (.cons rfl (by first | rfl | exact veq_int (by first | omega | (dsimp only; omega))) (.cons rfl (by first | rfl | exact veq_int (by first | omega | (dsimp only; omega))) (.cons rfl (by first | rfl | exact veq_int (by first | omega | (dsimp only; omega))) (.cons rfl (by first | rfl | exact veq_int (by first | omega | (dsimp only; omega))) (.cons rfl (by first | rfl | exact veq_int (by first | omega | (dsimp only; omega))) .nil)))))))))) (.keep rfl rfl (imp_var (by exact ceq_cons rfl (ceq_cons (ceq_arr8 fun k hk => (part_zero k).symm) (ceq_cons (ceq_arr fun k hk => (by rw [rowS_0]; rfl)) (ceq_cons (ceq_arr fun k hk => (by rw [colS_0]; rfl)) rfl)))) rfl) (.keep rfl rfl (fun _ h => h) (.keep rfl rfl (fun _ h => h) .nil)))
    · rintro i ⟨hi, hA⟩
      refine W_seq ?_
      refine W_region ?_
      refine Ops_p (p_lss rfl rfl) (lt_dec rfl) ?_
      refine Ops_nil ?_
      refine W_seq ?_
      refine W_cond rfl (fun h2 => ?_) (fun h2 => ?_)
      · try simp only [bs] at h2
        refine W_skip ?_
        refine W_seq ?_
        refine W_block ?_
        refine W_seq ?_
        refine W_region ?_
        refine Ops_p (p_move rfl) (lt_dec rfl) ?_
        refine Ops_q (q_ixR (i) rfl rfl rfl (Rds.rssO m2) rfl rfl (by rw [valsR_len]; first | omega | (dsimp only; omega)) rfl) (lt_dec rfl) ?_
        refine Ops_q (q_loadI (j := i) rfl rfl (Rds.rssO m2) rfl (by first | omega | assumption) rfl rfl) (lt_dec rfl) ?_
        refine Ops_p (p_assign rfl) (lt_dec rfl) ?_
        refine Ops_p (p_assign rfl) (lt_dec rfl) ?_
        refine Ops_nil ?_
        refine W_seq ?_
        refine W_seq ?_
        refine W_region ?_
        refine Ops_p (p_move rfl) (lt_dec rfl) ?_
        refine Ops_q ((q_lenR rfl rfl rfl (Rds.rssI (j := i) m2 (by first | omega | assumption))).eq (d' := .int .i64 (((L.getD i sd).2.length : Nat) : Int)) rfl) (lt_dec rfl) ?_
        refine Ops_p (p_fieldAddr rfl rfl rfl rfl rfl rfl) (lt_dec rfl) ?_
        refine Ops_q (q_load rfl rfl m0 rfl (by first | trivial | (first | omega | (dsimp only; omega)) | exact Fin.isLt _ | (dsimp only; omega))) (lt_dec rfl) ?_
        refine Ops_p (p_neq rfl rfl) (lt_dec rfl) ?_
        refine Ops_nil ?_
        refine W_cond rfl (fun h3 => ?_) (fun h3 => ?_)
        · try simp only [bs] at h3
          refine W_seq ?_
          refine W_region ?_
          refine Ops_q (q_load rfl rfl m0 rfl (by first | trivial | (first | omega | (dsimp only; omega)) | exact Fin.isLt _ | (dsimp only; omega))) (lt_dec rfl) ?_
          refine Ops_x rfl (x_store rfl rfl rfl rfl rfl ((HpRep.head).tail) rfl (by first | trivial | (first | (first | omega | (dsimp only; omega)) | exact Fin.isLt _)) ?_)
          refine Ops_p (p_assign rfl) (lt_dec rfl) ?_
          refine Ops_nil ?_
          refine W_ret ?_
          refine Exists.intro _ (And.intro (.cons (.cell rfl rfl m1 rfl trivial) (.cons (.tmp rfl) .nil)) (Exists.intro (part L.length (gC L) i 0, fun x => ((rowS L L.length i 0 x : Nat) : Int), fun x => ((colS L L.length i 0 x : Nat) : Int)) (And.intro ?_ (And.intro ?_ (And.intro .nil rfl)))))
          · intro hh; have h9 : false = isPar L := (by first | exact isPar_n (by omega) | exact isPar_l (i := i) (by omega) (by unfold ln2; omega) | exact isPar_r (i := i) (j := j) (by omega) (by omega) (by unfold at2; omega) | exact par_rowdup (i := i) (j := j) (by omega) (by omega) (show at2 L i j = (v : Int) by unfold at2; omega) (by omega) (by rw [ofNat_val (by omega)] at *; assumption) | exact par_coldup (i := i) (j := j) (by omega) (by omega) (show at2 L i j = (v : Int) by unfold at2; omega) (by omega) (by rw [ofNat_val (by omega)] at *; assumption)); rw [← h9] at hh; cases hh
          · exact veq_tup2 rfl (veq_bool (by first | exact isPar_n (by omega) | exact isPar_l (i := i) (by omega) (by unfold ln2; omega) | exact isPar_r (i := i) (j := j) (by omega) (by omega) (by unfold at2; omega) | exact par_rowdup (i := i) (j := j) (by omega) (by omega) (show at2 L i j = (v : Int) by unfold at2; omega) (by omega) (by rw [ofNat_val (by omega)] at *; assumption) | exact par_coldup (i := i) (j := j) (by omega) (by omega) (show at2 L i j = (v : Int) by unfold at2; omega) (by omega) (by rw [ofNat_val (by omega)] at *; assumption)))
        · try simp only [bs] at h3
          have hln : (L.getD i sd).2.length = L.length := (by omega)
          refine W_skip ?_
          refine W_seq ?_
          refine W_region ?_
          refine Ops_p (p_move rfl) (lt_dec rfl) ?_
          refine Ops_q ((q_lenR rfl rfl rfl (Rds.rssI (j := i) m2 (by first | omega | assumption))).eq (d' := .int .i64 (((L.getD i sd).2.length : Nat) : Int)) rfl) (lt_dec rfl) ?_
          refine Ops_p (p_move rfl) (lt_dec rfl) ?_
          refine Ops_nil ?_
          refine W_block ?_
          refine W_loop (α := Nat) (fun j => ⟨[(0, .raw a ha), (2, .ptr b2_1 0 none), (4, .ptr b4_1 0 none), (5, .int .i64 (i : Int)), (6, .raw (L.getD i sd).1.1 (L.getD i sd).1.2), (9, .raw a ha), (10, .int .i64 ((L.length : Nat) : Int)), (11, .agg [.int .i64 ((L.length : Nat) : Int), .arr8 100 (fun _ => 0), .arr .i64 10 (fun _ => 0), .arr .i64 10 (fun _ => 0)]), (13, .int .i64 ((L.length : Nat) : Int)), (17, .raw a ha), (18, .int .i64 ((L.length : Nat) : Int)), (19, .int .i64 (i : Int)), (21, .int .i64 (i : Int)), (23, .raw (L.getD i sd).1.1 (L.getD i sd).1.2), (24, .raw (L.getD i sd).1.1 (L.getD i sd).1.2), (25, .int .i64 (((L.getD i sd).2.length : Nat) : Int)), (27, .int .i64 ((L.length : Nat) : Int)), (30, .raw (L.getD i sd).1.1 (L.getD i sd).1.2), (31, .int .i64 (((L.getD i sd).2.length : Nat) : Int)), (32, .int .i64 (j : Int))], [.var b4_1 (.agg [.int .i64 ((L.length : Nat) : Int), .arr8 100 (part L.length (gC L) i j), .arr .i64 10 (fun x => ((rowS L L.length i j x : Nat) : Int)), .arr .i64 10 (fun x => ((colS L L.length i j x : Nat) : Int))]), .var b2_1 (.agg [.int .i64 0, .arr8 100 fun _ => 0, .arr .i64 10 fun _ => 0, .arr .i64 10 fun _ => 0]), rss a L]⟩) (fun j => j ≤ L.length ∧ ParA L i j) (fun j => L.length - j) 0 ?_ ?_ ?_
          · exact ⟨by omega, hA⟩
          · exact Wk.intro (.cons rfl (by first | rfl | exact veq_int (by first | omega | (dsimp only; omega))) (.cons rfl (by first | rfl | exact veq_int (by first | omega | (dsimp only; omega))) (.cons rfl (by first | rfl | exact veq_int (by first | omega | (dsimp only; omega))) (.cons rfl (by first | rfl | exact veq_int (by first | omega | (dsimp only; omega))) (.cons rfl (by first | rfl | exact veq_int (by first | omega | (dsimp only; omega))) (.cons rfl (by first | rfl | exact veq_int (by first | omega | (dsimp only; omega))) (.cons rfl (by first | rfl | exact veq_int (by first | omega | (dsimp only; omega))) (.cons rfl (by first | rfl | exact veq_int (by first | omega | (dsimp only; omega))) (.cons rfl (by first | rfl | exact veq_int (by first | omega | (dsimp only; omega))) (.cons rfl (by first | rfl | exact veq_int (by first | omega | (dsimp only; omega))) (.cons rfl (by first | rfl | exact veq_int (by first | omega | (dsimp only; omega))) (.cons rfl (by first | rfl | exact veq_int (by first | omega | (dsimp only; omega))) (.cons rfl (by first | rfl | exact veq_int (by first | omega | (dsimp only; omega))) (.cons rfl (by first | rfl | exact veq_int (by first | omega | (dsimp only; omega))) (.cons rfl (by first | rfl | exact veq_int (by first | omega | (dsimp only; omega))) (.cons rfl (by first | rfl | exact veq_int (by first | omega | (dsimp only; omega))) (.cons rfl (by first | rfl | exact veq_int (by first | omega | (dsimp only; omega))) (.cons rfl (by first | rfl | exact veq_int (by first | omega | (dsimp only; omega))) (.cons rfl (by first | rfl | exact veq_int (by first | omega | (dsimp only; omega))) (.cons rfl (by first | rfl | exact veq_int (by first | omega | (dsimp only; omega))) .nil)))))))))))))))))))) (.keep rfl rfl (imp_var (by rfl) rfl) (.keep rfl rfl (fun _ h => h) (.keep rfl rfl (fun _ h => h) .nil)))
          · rintro j ⟨hj, hB⟩
            refine W_seq ?_
            refine W_region ?_
            refine Ops_p (p_lss rfl rfl) (lt_dec rfl) ?_
            refine Ops_nil ?_
            refine W_seq ?_
            refine W_cond rfl (fun h4 => ?_) (fun h4 => ?_)
            · try simp only [bs] at h4
              refine W_skip ?_
              refine W_seq ?_
              refine W_block ?_
              refine W_seq ?_
              refine W_region ?_
              refine Ops_p (p_move rfl) (lt_dec rfl) ?_
              refine Ops_q (q_ixR (j) rfl rfl rfl (Rds.rssI (j := i) m2 (by first | omega | assumption)) rfl rfl (by show _ < List.length _; first | omega | (dsimp only; omega)) rfl) (lt_dec rfl) ?_
              refine Ops_q (q_loadR rfl rfl (Rds.rssI (j := i) m2 (by first | omega | assumption)) rfl rfl (by first | omega | (dsimp only; omega)) rfl rfl rfl) (lt_dec rfl) ?_
              refine Ops_p (p_assign rfl) (lt_dec rfl) ?_
              refine Ops_p (p_assign rfl) (lt_dec rfl) ?_
              refine Ops_nil ?_
              refine W_seq ?_
              refine W_block ?_
              refine W_seq ?_
              refine W_region ?_
              refine Ops_p (p_move rfl) (lt_dec rfl) ?_
              refine Ops_p (p_eql rfl rfl) (lt_dec rfl) ?_
              refine Ops_p (p_assign rfl) (lt_dec rfl) ?_
              refine Ops_nil ?_
              refine W_cond rfl (fun h5 => ?_) (fun h5 => ?_)
              · try simp only [bs] at h5
                refine W_seq ?_
                refine W_region ?_
                refine Ops_p (p_move rfl) (lt_dec rfl) ?_
                refine Ops_p (p_move rfl) (lt_dec rfl) ?_
                refine Ops_p (p_fieldAddr rfl rfl rfl rfl rfl rfl) (lt_dec rfl) ?_
                refine Ops_p (p_ixN 10 _ rfl rfl rfl rfl rfl rfl (by first | (first | omega | (dsimp only; omega)) | exact Fin.isLt _)) (lt_dec rfl) ?_
                first | refine Ops_p (p_ix1 _ rfl rfl rfl rfl rfl rfl (by first | (first | omega | (dsimp only; omega)) | exact Fin.isLt _)) (lt_dec rfl) ?_ | refine Ops_p (p_ix1s _ rfl rfl rfl rfl rfl rfl (by first | (first | omega | (dsimp only; omega)) | exact Fin.isLt _)) (lt_dec rfl) ?_
                refine Ops_x rfl (x_store rfl rfl rfl rfl rfl HpRep.head rfl (by first | trivial | (first | (first | omega | (dsimp only; omega)) | exact Fin.isLt _)) ?_)
                refine Ops_nil ?_
                refine W_exit ?_
                refine W_region ?_
                refine Ops_p (p_add rfl rfl (by exact ⟨(by first | omega | (dsimp only; omega)), (by first | omega | (dsimp only; omega))⟩)) (lt_dec rfl) ?_
                refine Ops_p (p_move rfl) (lt_dec rfl) ?_
                refine Ops_nil ?_
                refine Exists.intro (j + 1) (And.intro ?_ (And.intro ?_ ?_))
                · first | exact ⟨by omega, hB.stepE (by assumption)⟩ | exact ⟨by omega, hB.stepV hv hv2 (by unfold at2; omega) (by omega) (by rw [ofNat_val (by omega)] at *; simp_all) (by rw [ofNat_val (by omega)] at *; simp_all)⟩
                · show _ < _; omega
                · exact Wk.intro (.cons rfl (by first | rfl | exact veq_int (by first | omega | (dsimp only; omega))) (.cons rfl (by first | rfl | exact veq_int (by first | omega | (dsimp only; omega))) (.cons rfl (by first | rfl | exact veq_int (by first | omega | (dsimp only; omega))) (.cons rfl (by first | rfl | exact veq_int (by first | omega | (dsimp only; omega))) (.cons rfl (by first | rfl | exact veq_int (by first | omega | (dsimp only; omega))) (.cons rfl (by first | rfl | exact veq_int (by first | omega | (dsimp only; omega))) (.cons rfl (by first | rfl | exact veq_int (by first | omega | (dsimp only; omega))) (.cons rfl (by first | rfl | exact veq_int (by first | omega | (dsimp only; omega))) (.cons rfl (by first | rfl | exact veq_int (by first | omega | (dsimp only; omega))) (.cons rfl (by first | rfl | exact veq_int (by first | omega | (dsimp only; omega))) (.cons rfl (by first | rfl | exact veq_int (by first | omega | (dsimp only; omega))) (.cons rfl (by first | rfl | exact veq_int (by first | omega | (dsimp only; omega))) (.cons rfl (by first | rfl | exact veq_int (by first | omega | (dsimp only; omega))) (.cons rfl (by first | rfl | exact veq_int (by first | omega | (dsimp only; omega))) (.cons rfl (by first | rfl | exact veq_int (by first | omega | (dsimp only; omega))) (.cons rfl (by first | rfl | exact veq_int (by first | omega | (dsimp only; omega))) (.cons rfl (by first | rfl | exact veq_int (by first | omega | (dsimp only; omega))) (.cons rfl (by first | rfl | exact veq_int (by first | omega | (dsimp only; omega))) (.cons rfl (by first | rfl | exact veq_int (by first | omega | (dsimp only; omega))) (.cons rfl (by first | rfl | exact veq_int (by first | omega | (dsimp only; omega))) .nil)))))))))))))))))))) (.keep rfl rfl (imp_var (by first | (exact ceq_cons rfl (ceq_cons (ceq_arr8 fun k hk => part_stepV (gC_e (by assumption)).symm (by omega) k) (ceq_cons (ceq_arr fun k hk => (by rw [rowS_no (by assumption)])) (ceq_cons (ceq_arr fun k hk => (by rw [colS_no (by omega) (by assumption)])) rfl)))) | (exact ceq_cons rfl (ceq_cons (ceq_arr8 fun k hk => part_stepV (gC_v hv).symm (by omega) k) (ceq_cons (ceq_arr fun k hk => (by rw [ofNat_val (show v < 256 by omega), ← rowS_put hv hv2]; exact (if e : k = i then by rw [if_pos e, if_pos e] else by rw [if_neg e, if_neg e]))) (ceq_cons (ceq_arr fun k hk => (by rw [ofNat_val (show v < 256 by omega), ← colS_put (by omega) hv hv2]; exact (if e : k = j then by rw [if_pos e, if_pos e] else by rw [if_neg e, if_neg e]))) rfl))))) rfl) (.keep rfl rfl (fun _ h => h) (.keep rfl rfl (fun _ h => h) .nil)))
              · try simp only [bs] at h5
                refine W_seq ?_
                obtain ⟨v, hvv⟩ : ∃ v : Nat, ((L.getD i sd).2.getD j 0).toNat = v := ⟨_, rfl⟩
                refine W_region ?_
                refine Ops_p (p_move rfl) (lt_dec rfl) ?_
                refine Ops_p (p_fieldAddr rfl rfl rfl rfl rfl rfl) (lt_dec rfl) ?_
                refine Ops_q (q_load rfl rfl m0 rfl (by first | trivial | (first | omega | (dsimp only; omega)) | exact Fin.isLt _ | (dsimp only; omega))) (lt_dec rfl) ?_
                refine Ops_p (p_sub rfl rfl (by exact ⟨(by first | omega | (dsimp only; omega)), (by first | omega | (dsimp only; omega))⟩)) (lt_dec rfl) ?_
                refine Ops_q (q_call en_impl_within rfl (w_impl_within) (View.none _)) (lt_dec rfl) ?_
                refine Ops_p (p_not rfl) (lt_dec rfl) ?_
                refine Ops_p (p_move rfl) (lt_dec rfl) ?_
                refine Ops_guard rfl rfl (lt_dec rfl) (fun hg1 => ?_) (fun hg1 => ?_)
                · try simp only [bs] at hg1
                  refine Ops_p (p_move rfl) (lt_dec rfl) ?_
                  refine Ops_guard_t rfl rfl (lt_dec rfl) ?_
                  refine Ops_p (p_fieldAddr rfl rfl rfl rfl rfl rfl) (lt_dec rfl) ?_
                  refine Ops_guard_t rfl rfl (lt_dec rfl) ?_
                  first | refine Ops_p (p_ix1 _ rfl rfl rfl rfl rfl rfl (by first | (first | omega | (dsimp only; omega)) | exact Fin.isLt _)) (lt_dec rfl) ?_ | refine Ops_p (p_ix1s _ rfl rfl rfl rfl rfl rfl (by first | (first | omega | (dsimp only; omega)) | exact Fin.isLt _)) (lt_dec rfl) ?_
                  refine Ops_guard_t rfl rfl (lt_dec rfl) ?_
                  refine Ops_q (q_load rfl rfl m0 rfl (by first | trivial | (first | omega | (dsimp only; omega)) | exact Fin.isLt _ | (dsimp only; omega))) (lt_dec rfl) ?_
                  refine Ops_guard_t rfl rfl (lt_dec rfl) ?_
                  refine Ops_p (p_move rfl) (lt_dec rfl) ?_
                  refine Ops_guard_t rfl rfl (lt_dec rfl) ?_
                  refine Ops_p ((p_conv rfl rfl rfl (by exact ⟨by omega, by omega⟩)).eq ((veq_byteI (by omega) (by omega)).trans (by rw [hvv]))) (lt_dec rfl) ?_
                  refine Ops_guard_t rfl rfl (lt_dec rfl) ?_
                  refine Ops_q (q_call en_impl_set_has rfl (w_impl_set_has rowS_lt (by rw [ofNat_val (by omega)]; omega)) (View.none _)) (lt_dec rfl) ?_
                  refine Ops_p (p_pick_f rfl rfl) (lt_dec rfl) ?_
                  refine Ops_p (p_move rfl) (lt_dec rfl) ?_
                  refine Ops_guard rfl rfl (lt_dec rfl) (fun hg2 => ?_) (fun hg2 => ?_)
                  · try simp only [bs] at hg2
                    refine Ops_p (p_move rfl) (lt_dec rfl) ?_
                    refine Ops_guard_t rfl rfl (lt_dec rfl) ?_
                    refine Ops_p (p_fieldAddr rfl rfl rfl rfl rfl rfl) (lt_dec rfl) ?_
                    refine Ops_guard_t rfl rfl (lt_dec rfl) ?_
                    first | refine Ops_p (p_ix1 _ rfl rfl rfl rfl rfl rfl (by first | (first | omega | (dsimp only; omega)) | exact Fin.isLt _)) (lt_dec rfl) ?_ | refine Ops_p (p_ix1s _ rfl rfl rfl rfl rfl rfl (by first | (first | omega | (dsimp only; omega)) | exact Fin.isLt _)) (lt_dec rfl) ?_
                    refine Ops_guard_t rfl rfl (lt_dec rfl) ?_
                    refine Ops_q (q_load rfl rfl m0 rfl (by first | trivial | (first | omega | (dsimp only; omega)) | exact Fin.isLt _ | (dsimp only; omega))) (lt_dec rfl) ?_
                    refine Ops_guard_t rfl rfl (lt_dec rfl) ?_
                    refine Ops_p (p_move rfl) (lt_dec rfl) ?_
                    refine Ops_guard_t rfl rfl (lt_dec rfl) ?_
                    refine Ops_p ((p_conv rfl rfl rfl (by exact ⟨by omega, by omega⟩)).eq ((veq_byteI (by omega) (by omega)).trans (by rw [hvv]))) (lt_dec rfl) ?_
                    refine Ops_guard_t rfl rfl (lt_dec rfl) ?_
                    refine Ops_q (q_call en_impl_set_has rfl (w_impl_set_has colS_lt (by rw [ofNat_val (by omega)]; omega)) (View.none _)) (lt_dec rfl) ?_
                    refine Ops_p (p_pick_f rfl rfl) (lt_dec rfl) ?_
                    refine Ops_p (p_assign rfl) (lt_dec rfl) ?_
                    refine Ops_nil ?_
                    refine W_cond rfl (fun h6 => ?_) (fun h6 => ?_)
                    · try simp only [bs] at h6
                      refine W_seq ?_
                      refine W_region ?_
                      refine Ops_q (q_load rfl rfl m0 rfl (by first | trivial | (first | omega | (dsimp only; omega)) | exact Fin.isLt _ | (dsimp only; omega))) (lt_dec rfl) ?_
                      refine Ops_x rfl (x_store rfl rfl rfl rfl rfl ((HpRep.head).tail) rfl (by first | trivial | (first | (first | omega | (dsimp only; omega)) | exact Fin.isLt _)) ?_)
                      refine Ops_p (p_assign rfl) (lt_dec rfl) ?_
                      refine Ops_nil ?_
                      refine W_ret ?_
                      refine Exists.intro _ (And.intro (.cons (.cell rfl rfl m1 rfl trivial) (.cons (.tmp rfl) .nil)) (Exists.intro (part L.length (gC L) i j, fun x => ((rowS L L.length i j x : Nat) : Int), fun x => ((colS L L.length i j x : Nat) : Int)) (And.intro ?_ (And.intro ?_ (And.intro .nil rfl)))))
                      · intro hh; have h9 : false = isPar L := (by first | exact isPar_n (by omega) | exact isPar_l (i := i) (by omega) (by unfold ln2; omega) | exact isPar_r (i := i) (j := j) (by omega) (by omega) (by unfold at2; omega) | exact par_rowdup (i := i) (j := j) (by omega) (by omega) (show at2 L i j = (v : Int) by unfold at2; omega) (by omega) (by rw [ofNat_val (by omega)] at *; assumption) | exact par_coldup (i := i) (j := j) (by omega) (by omega) (show at2 L i j = (v : Int) by unfold at2; omega) (by omega) (by rw [ofNat_val (by omega)] at *; assumption)); rw [← h9] at hh; cases hh
                      · exact veq_tup2 rfl (veq_bool (by first | exact isPar_n (by omega) | exact isPar_l (i := i) (by omega) (by unfold ln2; omega) | exact isPar_r (i := i) (j := j) (by omega) (by omega) (by unfold at2; omega) | exact par_rowdup (i := i) (j := j) (by omega) (by omega) (show at2 L i j = (v : Int) by unfold at2; omega) (by omega) (by rw [ofNat_val (by omega)] at *; assumption) | exact par_coldup (i := i) (j := j) (by omega) (by omega) (show at2 L i j = (v : Int) by unfold at2; omega) (by omega) (by rw [ofNat_val (by omega)] at *; assumption)))
                    · try simp only [bs] at h6
                      refine W_skip ?_
                      have hv : (L.getD i sd).2.getD j 0 = (v : Int) := (by omega)
                      have hv2 : v < 10 := (by omega)
                      refine W_region ?_
                      refine Ops_p (p_move rfl) (lt_dec rfl) ?_
                      refine Ops_p (p_move rfl) (lt_dec rfl) ?_
                      refine Ops_p (p_move rfl) (lt_dec rfl) ?_
                      refine Ops_p ((p_conv rfl rfl rfl (by exact ⟨by omega, by omega⟩)).eq ((veq_byteI (by omega) (by omega)).trans (by rw [hvv]))) (lt_dec rfl) ?_
                      refine Ops_x rfl (x_callV en_pimpl_cells_put rfl (w_pimpl_cells_put (t := part L.length (gC L) i j) (r := rowS L L.length i j) (c := colS L L.length i j) (n := ((L.length : Nat) : Int)) (i := i) (j := j) (bv := b4_1) (m := Fin.ofNat 256 v) (by omega) (by omega) (by rw [ofNat_val (by omega)]; omega) rowS_lt colS_lt) (View.w m0 (View.none _) rfl (fun e he => by cases he)) (HpRep.head) (lt_dec rfl) ?_)
                      refine Ops_nil ?_
                      refine W_region ?_
                      refine Ops_p (p_add rfl rfl (by exact ⟨(by first | omega | (dsimp only; omega)), (by first | omega | (dsimp only; omega))⟩)) (lt_dec rfl) ?_
                      refine Ops_p (p_move rfl) (lt_dec rfl) ?_
                      refine Ops_nil ?_
                      refine Exists.intro (j + 1) (And.intro ?_ (And.intro ?_ ?_))
                      · first | exact ⟨by omega, hB.stepE (by assumption)⟩ | exact ⟨by omega, hB.stepV hv hv2 (by unfold at2; omega) (by omega) (by rw [ofNat_val (by omega)] at *; simp_all) (by rw [ofNat_val (by omega)] at *; simp_all)⟩
                      · show _ < _; omega
                      · exact Wk.intro (.cons rfl (by first | rfl | exact veq_int (by first | omega | (dsimp only; omega))) (.cons rfl (by first | rfl | exact veq_int (by first | omega | (dsimp only; omega))) (.cons rfl (by first | rfl | exact veq_int (by first | omega | (dsimp only; omega))) (.cons rfl (by first | rfl | exact veq_int (by first | omega | (dsimp only; omega))) (.cons rfl (by first | rfl | exact veq_int (by first | omega | (dsimp only; omega))) (.cons rfl (by first | rfl | exact veq_int (by first | omega | (dsimp only; omega))) (.cons rfl (by first | rfl | exact veq_int (by first | omega | (dsimp only; omega))) (.cons rfl (by first | rfl | exact veq_int (by first | omega | (dsimp only; omega))) (.cons rfl (by first | rfl | exact veq_int (by first | omega | (dsimp only; omega))) (.cons rfl (by first | rfl | exact veq_int (by first | omega | (dsimp only; omega))) (.cons rfl (by first | rfl | exact veq_int (by first | omega | (dsimp only; omega))) (.cons rfl (by first | rfl | exact veq_int (by first | omega | (dsimp only; omega))) (.cons rfl (by first | rfl | exact veq_int (by first | omega | (dsimp only; omega))) (.cons rfl (by first | rfl | exact veq_int (by first | omega | (dsimp only; omega))) (.cons rfl (by first | rfl | exact veq_int (by first | omega | (dsimp only; omega))) (.cons rfl (by first | rfl | exact veq_int (by first | omega | (dsimp only; omega))) (.cons rfl (by first | rfl | exact veq_int (by first | omega | (dsimp only; omega))) (.cons rfl (by first | rfl | exact veq_int (by first | omega | (dsimp only; omega))) (.cons rfl (by first | rfl | exact veq_int (by first | omega | (dsimp only; omega))) (.cons rfl (by first | rfl | exact veq_int (by first | omega | (dsimp only; omega))) .nil)))))))))))))))))))) (.keep rfl rfl (imp_var (by first | (exact ceq_cons rfl (ceq_cons (ceq_arr8 fun k hk => part_stepV (gC_e (by assumption)).symm (by omega) k) (ceq_cons (ceq_arr fun k hk => (by rw [rowS_no (by assumption)])) (ceq_cons (ceq_arr fun k hk => (by rw [colS_no (by omega) (by assumption)])) rfl)))) | (exact ceq_cons rfl (ceq_cons (ceq_arr8 fun k hk => part_stepV (gC_v hv).symm (by omega) k) (ceq_cons (ceq_arr fun k hk => (by rw [ofNat_val (show v < 256 by omega), ← rowS_put hv hv2]; exact (if e : k = i then by rw [if_pos e, if_pos e] else by rw [if_neg e, if_neg e]))) (ceq_cons (ceq_arr fun k hk => (by rw [ofNat_val (show v < 256 by omega), ← colS_put (by omega) hv hv2]; exact (if e : k = j then by rw [if_pos e, if_pos e] else by rw [if_neg e, if_neg e]))) rfl))))) rfl) (.keep rfl rfl (fun _ h => h) (.keep rfl rfl (fun _ h => h) .nil)))
                  · try simp only [bs] at hg2
                    refine Ops_guard_f rfl rfl rfl (lt_dec rfl) ?_
                    refine Ops_guard_f rfl rfl rfl (lt_dec rfl) ?_
                    refine Ops_guard_f rfl rfl rfl (lt_dec rfl) ?_
                    refine Ops_guard_f rfl rfl rfl (lt_dec rfl) ?_
                    refine Ops_guard_f rfl rfl rfl (lt_dec rfl) ?_
                    refine Ops_guard_f rfl rfl rfl (lt_dec rfl) ?_
                    refine Ops_p (p_pick_t rfl rfl) (lt_dec rfl) ?_
                    refine Ops_p (p_assign rfl) (lt_dec rfl) ?_
                    refine Ops_nil ?_
                    refine W_true rfl ?_
                    refine W_seq ?_
                    refine W_region ?_
                    refine Ops_q (q_load rfl rfl m0 rfl (by first | trivial | (first | omega | (dsimp only; omega)) | exact Fin.isLt _ | (dsimp only; omega))) (lt_dec rfl) ?_
                    refine Ops_x rfl (x_store rfl rfl rfl rfl rfl ((HpRep.head).tail) rfl (by first | trivial | (first | (first | omega | (dsimp only; omega)) | exact Fin.isLt _)) ?_)
                    refine Ops_p (p_assign rfl) (lt_dec rfl) ?_
                    refine Ops_nil ?_
                    refine W_ret ?_
                    refine Exists.intro _ (And.intro (.cons (.cell rfl rfl m1 rfl trivial) (.cons (.tmp rfl) .nil)) (Exists.intro (part L.length (gC L) i j, fun x => ((rowS L L.length i j x : Nat) : Int), fun x => ((colS L L.length i j x : Nat) : Int)) (And.intro ?_ (And.intro ?_ (And.intro .nil rfl)))))
                    · intro hh; have h9 : false = isPar L := (by first | exact isPar_n (by omega) | exact isPar_l (i := i) (by omega) (by unfold ln2; omega) | exact isPar_r (i := i) (j := j) (by omega) (by omega) (by unfold at2; omega) | exact par_rowdup (i := i) (j := j) (by omega) (by omega) (show at2 L i j = (v : Int) by unfold at2; omega) (by omega) (by rw [ofNat_val (by omega)] at *; assumption) | exact par_coldup (i := i) (j := j) (by omega) (by omega) (show at2 L i j = (v : Int) by unfold at2; omega) (by omega) (by rw [ofNat_val (by omega)] at *; assumption)); rw [← h9] at hh; cases hh
                    · exact veq_tup2 rfl (veq_bool (by first | exact isPar_n (by omega) | exact isPar_l (i := i) (by omega) (by unfold ln2; omega) | exact isPar_r (i := i) (j := j) (by omega) (by omega) (by unfold at2; omega) | exact par_rowdup (i := i) (j := j) (by omega) (by omega) (show at2 L i j = (v : Int) by unfold at2; omega) (by omega) (by rw [ofNat_val (by omega)] at *; assumption) | exact par_coldup (i := i) (j := j) (by omega) (by omega) (show at2 L i j = (v : Int) by unfold at2; omega) (by omega) (by rw [ofNat_val (by omega)] at *; assumption)))
                · try simp only [bs] at hg1
                  refine Ops_guard_f rfl rfl rfl (lt_dec rfl) ?_
                  refine Ops_guard_f rfl rfl rfl (lt_dec rfl) ?_
                  refine Ops_guard_f rfl rfl rfl (lt_dec rfl) ?_
                  refine Ops_guard_f rfl rfl rfl (lt_dec rfl) ?_
                  refine Ops_guard_f rfl rfl rfl (lt_dec rfl) ?_
                  refine Ops_guard_f rfl rfl rfl (lt_dec rfl) ?_
                  refine Ops_p (p_pick_t rfl rfl) (lt_dec rfl) ?_
                  refine Ops_p (p_move rfl) (lt_dec rfl) ?_
                  refine Ops_guard_f rfl rfl rfl (lt_dec rfl) ?_
                  refine Ops_guard_f rfl rfl rfl (lt_dec rfl) ?_
                  refine Ops_guard_f rfl rfl rfl (lt_dec rfl) ?_
                  refine Ops_guard_f rfl rfl rfl (lt_dec rfl) ?_
                  refine Ops_guard_f rfl rfl rfl (lt_dec rfl) ?_
                  refine Ops_guard_f rfl rfl rfl (lt_dec rfl) ?_
                  refine Ops_guard_f rfl rfl rfl (lt_dec rfl) ?_
                  refine Ops_p (p_pick_t rfl rfl) (lt_dec rfl) ?_
                  refine Ops_p (p_assign rfl) (lt_dec rfl) ?_
                  refine Ops_nil ?_
                  refine W_true rfl ?_
                  refine W_seq ?_
                  refine W_region ?_
                  refine Ops_q (q_load rfl rfl m0 rfl (by first | trivial | (first | omega | (dsimp only; omega)) | exact Fin.isLt _ | (dsimp only; omega))) (lt_dec rfl) ?_
                  refine Ops_x rfl (x_store rfl rfl rfl rfl rfl ((HpRep.head).tail) rfl (by first | trivial | (first | (first | omega | (dsimp only; omega)) | exact Fin.isLt _)) ?_)
                  refine Ops_p (p_assign rfl) (lt_dec rfl) ?_
                  refine Ops_nil ?_
                  refine W_ret ?_
                  refine Exists.intro _ (And.intro (.cons (.cell rfl rfl m1 rfl trivial) (.cons (.tmp rfl) .nil)) (Exists.intro (part L.length (gC L) i j, fun x => ((rowS L L.length i j x : Nat) : Int), fun x => ((colS L L.length i j x : Nat) : Int)) (And.intro ?_ (And.intro ?_ (And.intro .nil rfl)))))
                  · intro hh; have h9 : false = isPar L := (by first | exact isPar_n (by omega) | exact isPar_l (i := i) (by omega) (by unfold ln2; omega) | exact isPar_r (i := i) (j := j) (by omega) (by omega) (by unfold at2; omega) | exact par_rowdup (i := i) (j := j) (by omega) (by omega) (show at2 L i j = (v : Int) by unfold at2; omega) (by omega) (by rw [ofNat_val (by omega)] at *; assumption) | exact par_coldup (i := i) (j := j) (by omega) (by omega) (show at2 L i j = (v : Int) by unfold at2; omega) (by omega) (by rw [ofNat_val (by omega)] at *; assumption)); rw [← h9] at hh; cases hh
                  · exact veq_tup2 rfl (veq_bool (by first | exact isPar_n (by omega) | exact isPar_l (i := i) (by omega) (by unfold ln2; omega) | exact isPar_r (i := i) (j := j) (by omega) (by omega) (by unfold at2; omega) | exact par_rowdup (i := i) (j := j) (by omega) (by omega) (show at2 L i j = (v : Int) by unfold at2; omega) (by omega) (by rw [ofNat_val (by omega)] at *; assumption) | exact par_coldup (i := i) (j := j) (by omega) (by omega) (show at2 L i j = (v : Int) by unfold at2; omega) (by omega) (by rw [ofNat_val (by omega)] at *; assumption)))
            · try simp only [bs] at h4
              obtain rfl : j = L.length := (by omega)
              refine W_exit ?_
              refine W_region ?_
              refine Ops_p (p_add rfl rfl (by exact ⟨(by first | omega | (dsimp only; omega)), (by first | omega | (dsimp only; omega))⟩)) (lt_dec rfl) ?_
              refine Ops_p (p_move rfl) (lt_dec rfl) ?_
              refine Ops_nil ?_
              refine Exists.intro (i + 1) (And.intro ?_ (And.intro ?_ ?_))
              · exact ⟨by omega, hB.row hln⟩
              · show _ < _; omega
              · exact Wk.intro (.cons rfl (by first | rfl | exact veq_int (by first | omega | (dsimp only; omega))) (.cons rfl (by first | rfl | exact veq_int (by first | omega | (dsimp only; omega))) (.cons rfl (by first | rfl | exact veq_int (by first | omega | (dsimp only; omega))) (.cons rfl (by first | rfl | exact veq_int (by first | omega | (dsimp only; omega))) (.cons rfl (by first | rfl | exact veq_int (by first | omega | (dsimp only; omega))) (.cons rfl (by first | rfl | exact veq_int (by first | omega | (dsimp only; omega))) (.cons rfl (by first | rfl | exact veq_int (by first | omega | (dsimp only; omega))) (.cons rfl (by first | rfl | exact veq_int (by first | omega | (dsimp only; omega))) (.cons rfl (by first | rfl | exact veq_int (by first | omega | (dsimp only; omega))) (.cons rfl (by first | rfl | exact veq_int (by first | omega | (dsimp only; omega))) .nil)))))))))) (.keep rfl rfl (imp_var (by exact ceq_cons rfl (ceq_cons (ceq_arr8 fun k hk => part_row k) (ceq_cons (ceq_arr fun k hk => (by rw [rowS_row])) (ceq_cons (ceq_arr fun k hk => (by rw [colS_row])) rfl)))) rfl) (.keep rfl rfl (fun _ h => h) (.keep rfl rfl (fun _ h => h) .nil)))
      · try simp only [bs] at h2
        obtain rfl : i = L.length := (by omega)
        refine W_exit ?_
        refine W_seq ?_
        refine W_region ?_
        refine Ops_q (q_load rfl rfl m0 rfl (by first | trivial | (first | omega | (dsimp only; omega)) | exact Fin.isLt _ | (dsimp only; omega))) (lt_dec rfl) ?_
        refine Ops_x rfl (x_store rfl rfl rfl rfl rfl ((HpRep.head).tail) rfl (by first | trivial | (first | (first | omega | (dsimp only; omega)) | exact Fin.isLt _)) ?_)
        refine Ops_p (p_assign rfl) (lt_dec rfl) ?_
        refine Ops_nil ?_
        refine W_ret ?_
        refine Exists.intro _ (And.intro (.cons (.cell rfl rfl m1 rfl trivial) (.cons (.tmp rfl) .nil)) (Exists.intro (part L.length (gC L) L.length 0, fun x => ((rowS L L.length L.length 0 x : Nat) : Int), fun x => ((colS L L.length L.length 0 x : Nat) : Int)) (And.intro ?_ (And.intro ?_ (And.intro .nil rfl)))))
        · intro _; rfl
        · exact veq_tup2 rfl (veq_bool (isPar_t (hA.end (by omega))))
end Go.Proofs.Ytdcpggdbjllmpab
