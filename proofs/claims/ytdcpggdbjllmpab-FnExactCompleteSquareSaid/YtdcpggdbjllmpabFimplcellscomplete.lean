/- What the Go function (impl.cells).complete does, shown of its loaded text; its conditions stand in the statement. -/
import Derived.Test.YtdcpggdbjllmpabTy
import Derived.Test.YtdcpggdbjllmpabFpimplcellscandidates
import Derived.Test.YtdcpggdbjllmpabFpimplcellsnext
import Derived.Test.YtdcpggdbjllmpabFpimplcellsput
import Derived.Test.YtdcpggdbjllmpabFimplcellscompleteX1
import Derived.Test.YtdcpggdbjllmpabFimplsetlist
import Derived.Test.YtdcpggdbjllmpabGx12
import Derived.Test.YtdcpggdbjllmpabGx20
import Derived.Test.YtdcpggdbjllmpabGx28
import Derived.Test.YtdcpggdbjllmpabM24
import Derived.Test.YtdcpggdbjllmpabM34
namespace Go.Proofs.Ytdcpggdbjllmpab
open Go Gx
set_option linter.unusedVariables false
theorem en_impl_cells_complete : Enters Try.prog 59 := enters_of Try.func59 (by kernel_rfl) (by kernel_rfl)
set_option maxRecDepth 100000 in
set_option maxHeartbeats 4000000 in
theorem w_impl_cells_complete_all {Z : Type} {S : Z → Ent} {vis : SL → Z → Bool × Z} {okz : Nat → Z → Prop} {bt : Nat} {f g : FuncId} {cf cg : Array Value} (het : Enters Try.prog f) (heg : Enters Try.prog g) (hct : ∀ t : Nat, t ≤ 20000 → CT Try.prog f (#[] ++ vals [] ++ cf) [.var bt (.int .i64 (t : Int))] [] (fun _ : Unit => True) (fun _ => .bool (decide (((t + 1 : Nat) : Int) ≤ 20000))) (fun _ => [.var bt (.int .i64 ((t + 1 : Nat) : Int))])) (hcg : ∀ (M : SL) (t : Nat) (z : Z), ParL M → FullL M → okz t z → t ≤ 20000 → CT Try.prog g (#[] ++ vals [.agg [.int .i64 ((M.length : Nat) : Int), .arr8 100 (cT M)]] ++ cg) [S z] [] (fun _ : Unit => True) (fun _ => .bool (vis M z).1) (fun _ => [S (vis M z).2])) (hr : ∀ z, (S z).rkey = []) (hup : ∀ t z, okz t z → okz (t + 1) z) (hleaf : ∀ M t z, okz t z → okz (t + 1) (vis M z).2) : ∀ (mm : Nat) (p : Nat) (M : SL) (t : Nat) (z : Z), (ParL M) → (p ≤ M.length * M.length) → (FillP M p) → (okz t z) → (t ≤ 20000) → M.length * M.length - p < mm → CT (X := Unit) Try.prog 59 (vals [.agg [.int .i64 ((M.length : Nat) : Int), .arr8 100 (cT M), .arr .i64 10 (fun x => ((cR M x : Nat) : Int)), .arr .i64 10 (fun x => ((cC M x : Nat) : Int))], .int .i64 (p : Int), .raw (.func (.func f) #[] cf) rfl, .raw (.func (.func g) #[] cg) rfl]) [.var bt (.int .i64 (t : Int)), S z] [] (fun x => True) (fun x => .bool (cmpP vis p M (t, z)).1) (fun x => [.var bt (.int .i64 (((cmpP vis p M (t, z)).2.1 : Nat) : Int)), S (cmpP vis p M (t, z)).2.2]) := by
  intro mm
  induction mm with
  | zero => intro p M t z hP hp hFi hz ht hmm; exact absurd hmm (Nat.not_lt_zero _)
  | succ mm ih =>
  intro p M t z hP hp hFi hz ht hmm
  refine CT_intro (rs := [.tmp 8]) tt tok Try.func59 rfl rfl rfl (by first | rfl | assumption) fun w => ?_
  show W _ _ _ ⟨tmOf 0 [.agg [.int .i64 ((M.length : Nat) : Int), .arr8 100 (cT M), .arr .i64 10 (fun x => ((cR M x : Nat) : Int)), .arr .i64 10 (fun x => ((cC M x : Nat) : Int))], .int .i64 (p : Int), .raw (.func (.func f) #[] cf) rfl, .raw (.func (.func g) #[] cg) rfl], [.var bt (.int .i64 (t : Int)), S z]⟩
  have hn := hP.1
  have hnn := nn_b hn.2
  refine W_seq ?_
  refine W_region ?_
  refine Ops_x rfl (x_box rfl rfl (lt_dec rfl) fun b4_1 => ?_)
  refine Ops_p (p_assign rfl) (lt_dec rfl) ?_
  refine Ops_nil ?_
  refine W_seq ?_
  refine W_region ?_
  refine Ops_p (p_move rfl) (lt_dec rfl) ?_
  refine Ops_q (q_call en_pimpl_cells_next rfl ((by have h := w_pimpl_cells_next (t := cT M) (r := cR M) (c := cC M) (n := M.length) (k := p) (bv := b4_1) (cap := #[]) (p := fun _ _ => true) hn hp en_impl_cells_completeX1 (fun i j _ _ => w_impl_cells_completeX1); rw [nx_true hP p] at h; exact h)) (View.var m0)) (lt_dec rfl) ?_
  refine Ops_p (p_move rfl) (lt_dec rfl) ?_
  refine Ops_p (p_extract rfl rfl) (lt_dec rfl) ?_
  refine Ops_p (p_extract rfl rfl) (lt_dec rfl) ?_
  refine Ops_p (p_assign rfl) (lt_dec rfl) ?_
  refine Ops_p (p_assign rfl) (lt_dec rfl) ?_
  refine Ops_nil ?_
  refine W_seq ?_
  refine W_seq ?_
  refine W_region ?_
  refine Ops_p (p_move rfl) (lt_dec rfl) ?_
  refine Ops_p (p_not rfl) (lt_dec rfl) ?_
  refine Ops_nil ?_
  refine W_cond rfl (fun h1 => ?_) (fun h1 => ?_)
  · try simp only [bs] at h1
    have hcn := cmpP_none (vis := vis) (s := (t, z)) hp (by simpa using h1); have hR := hcn.1
    refine W_seq ?_
    refine W_region ?_
    refine Ops_p (p_move rfl) (lt_dec rfl) ?_
    refine Ops_p (p_fieldAddr rfl rfl rfl rfl rfl rfl) (lt_dec rfl) ?_
    refine Ops_q (q_load rfl rfl m0 rfl (by first | trivial | (first | omega | (dsimp only; omega)) | exact Fin.isLt _ | (dsimp only; omega))) (lt_dec rfl) ?_
    refine Ops_p (p_fieldAddr rfl rfl rfl rfl rfl rfl) (lt_dec rfl) ?_
    refine Ops_q (q_load rfl rfl m0 rfl (by first | trivial | (first | omega | (dsimp only; omega)) | exact Fin.isLt _ | (dsimp only; omega))) (lt_dec rfl) ?_
    refine Ops_p (p_build rfl rfl rfl rfl (by first | trivial | (first | omega | (dsimp only; omega)) | exact Fin.isLt _ | (dsimp only; omega))) (lt_dec rfl) ?_
    refine Ops_x rfl (x_callvT heg rfl rfl (hcg M t z hP (hcn.2 hFi) hz ht) (HpDels.cons ((HpDel.head).tail).tail HpDels.nil) (Vw.none _) (fun _ => (HpDels.cons ((HpDel.head).tail).tail HpDels.nil)) (lt_dec rfl) fun _ _ => ?_)
    refine Ops_p (p_not rfl) (lt_dec rfl) ?_
    refine Ops_p (p_assign rfl) (lt_dec rfl) ?_
    refine Ops_nil ?_
    refine W_ret ?_
    refine Exists.intro _ (And.intro (.cons (.tmp rfl) .nil) (Exists.intro () (And.intro ?_ (And.intro ?_ (And.intro (.cons (HpDel.head).tail rfl (imp_var (by first | (rw [hR]; done) | (rw [hR]; rfl)) rfl) (.cons (HpDel.head).tail (by rw [hR]) (by rw [hR]; exact fun _ h => h) .nil)) (by show (S _).rkey ++ [] = []; rw [hr]; rfl))))))
    · trivial
    · first | (rw [hR]; done) | (rw [hR]; rfl) | (rw [hR, hb]; done) | (rw [hR, hb]; rfl)
  · try simp only [bs] at h1
    obtain ⟨q, hq⟩ := Option.isSome_iff_exists.1 (show (ffrom (emB M) (M.length * M.length - p) p).isSome = true by simpa using h1)
    refine W_skip ?_
    refine W_seq ?_
    obtain ⟨hto1, hto2, hto3, hto4, hto5⟩ := cmpP_to (vis := vis) (s := (t, z)) hq
    have hFq := hto5 hFi
    obtain ⟨hd1, hd2⟩ := div_mod_lt hto3
    have hem := hto4
    refine W_draw (by kernel_rfl) ?_
    show RA _ _ 10 _ _ _
    refine RA_quietF [0, 1, 2, 3, 4, 5, 6, 7, 8, 9] rfl rfl rfl (by kernel_rfl) (by kernel_rfl) ?_
    refine WQ_cons rfl rfl rfl (((p_move rfl).eq (d' := .int .i64 (q : Int)) (by rw [hq]; rfl)).q) (lt_dec rfl) ?_
    refine WQ_cons rfl rfl rfl ((p_fieldAddr rfl rfl rfl rfl rfl rfl).q) (lt_dec rfl) ?_
    refine WQ_cons rfl rfl rfl ((q_load rfl rfl m0 rfl (by first | trivial | (first | omega | (dsimp only; omega)) | exact Fin.isLt _ | (dsimp only; omega)))) (lt_dec rfl) ?_
    refine WQ_cons rfl rfl rfl (((p_quo rfl rfl (by omega) (by omega) (quo_in (by omega))).eq veq_quo).q) (lt_dec rfl) ?_
    refine WQ_cons rfl rfl rfl (((p_move rfl).eq (d' := .int .i64 (q : Int)) (by rw [hq]; rfl)).q) (lt_dec rfl) ?_
    refine WQ_cons rfl rfl rfl ((p_fieldAddr rfl rfl rfl rfl rfl rfl).q) (lt_dec rfl) ?_
    refine WQ_cons rfl rfl rfl ((q_load rfl rfl m0 rfl (by first | trivial | (first | omega | (dsimp only; omega)) | exact Fin.isLt _ | (dsimp only; omega)))) (lt_dec rfl) ?_
    refine WQ_cons rfl rfl rfl (((p_rem rfl rfl (by omega) (by omega)).eq veq_rem).q) (lt_dec rfl) ?_
    refine WQ_cons rfl rfl rfl ((p_assign rfl).q) (lt_dec rfl) ?_
    refine WQ_cons rfl rfl rfl ((p_assign rfl).q) (lt_dec rfl) ?_
    refine WQ_nil ?_
    refine W_seq ?_
    refine W_seq ?_
    refine W_region ?_
    refine Ops_p (p_move rfl) (lt_dec rfl) ?_
    refine Ops_p (p_move rfl) (lt_dec rfl) ?_
    refine Ops_q (q_call en_pimpl_cells_candidates rfl (w_pimpl_cells_candidates (t := cT M) (r := cR M) (c := cC M) (i := (q / M.length)) (j := (q % M.length)) (n := M.length) (q := bsP (candB M (q / M.length) (q % M.length)) M.length) (bv := b4_1) hn.2 (by omega) (by omega) cR_lt cC_lt (cand_bits hn.2 hd1 hd2)) (View.var m0)) (lt_dec rfl) ?_
    refine Ops_x rfl (x_callT en_impl_set_list rfl ((by have h := w_impl_set_list (s := bsP (candB M (q / M.length) (q % M.length)) M.length) (bsP_10 hn.2); rw [setL_filt, Nat.min_eq_right hn.2] at h; exact h)) HpDels.nil (Vw.none _) (fun _ => (HpDels.cons HpDel.head HpDels.nil)) (lt_dec rfl) fun x42_1 _ => ?_)
    refine Ops_q ((q_lenR rfl rfl rfl (Rds.own m0)).eq (d' := .int .i64 (((filt (candB M (q / M.length) (q % M.length)) (List.length M)).length : Nat) : Int)) rfl) (lt_dec rfl) ?_
    refine Ops_p (p_move rfl) (lt_dec rfl) ?_
    refine Ops_nil ?_
    refine W_block ?_
    refine W_loop (α := Nat × Nat × Z) (fun zz0 => ⟨[(0, .agg [.int .i64 ((M.length : Nat) : Int), .arr8 100 (cT M), .arr .i64 10 (fun x => ((cR M x : Nat) : Int)), .arr .i64 10 (fun x => ((cC M x : Nat) : Int))]), (1, .int .i64 (p : Int)), (2, .raw (.func (.func f) #[] cf) rfl), (3, .raw (.func (.func g) #[] cg) rfl), (4, .ptr b4_1 0 none), (9, .int .i64 ((Option.getD (ffrom (emB M) (M.length * M.length - p) p) 0 : Nat) : Int)), (10, .bool (Option.isSome (ffrom (emB M) (M.length * M.length - p) p))), (11, .int .i64 (((q / M.length) : Nat) : Int)), (12, .int .i64 (((q % M.length) : Nat) : Int)), (42, .raw x42_1.1 x42_1.2), (43, .int .i64 ((filt (candB M (q / M.length) (q % M.length)) (List.length M)).length : Int)), (44, .int .i64 ((zz0.1) : Int))], [own x42_1.1 2 (.ints .i64 (filt (candB M (q / M.length) (q % M.length)) (List.length M))), .var b4_1 (.agg [.int .i64 ((M.length : Nat) : Int), .arr8 100 (cT M), .arr .i64 10 (fun x => ((cR M x : Nat) : Int)), .arr .i64 10 (fun x => ((cC M x : Nat) : Int))]), .var bt (.int .i64 ((zz0.2.1) : Int)), S (zz0.2.2)]⟩) (fun zz0 => (zz0.1) ≤ (filt (candB M (q / M.length) (q % M.length)) (List.length M)).length ∧ cmpF vis q M (t, z) (zz0.1) = (true, (zz0.2.1), (zz0.2.2)) ∧ okz (zz0.2.1) (zz0.2.2) ∧ (zz0.2.1) ≤ 20000) (fun zz0 => (filt (candB M (q / M.length) (q % M.length)) (List.length M)).length - (zz0.1)) (0, t, z) ?_ ?_ ?_
    · exact ⟨Nat.zero_le _, rfl, hz, ht⟩
    · exact Wk.intro (.cons rfl (by first | rfl | exact veq_int (by first | omega | (dsimp only; omega))) (.cons rfl (by first | rfl | exact veq_int (by first | omega | (dsimp only; omega))) (.cons rfl (by first | rfl | exact veq_int (by first | omega | (dsimp only; omega))) (.cons rfl (by first | rfl | exact veq_int (by first | omega | (dsimp only; omega))) (.cons rfl (by first | rfl | exact veq_int (by first | omega | (dsimp only; omega))) (.cons rfl (by first | rfl | exact veq_int (by first | omega | (dsimp only; omega))) (.cons rfl (by first | rfl | exact veq_int (by first | omega | (dsimp only; omega))) (.cons rfl (by first | rfl | exact veq_int (by first | omega | (dsimp only; omega))) (.cons rfl (by first | rfl | exact veq_int (by first | omega | (dsimp only; omega))) (.cons rfl (by first | rfl | exact veq_int (by first | omega | (dsimp only; omega))) (.cons rfl (by first | rfl | exact veq_int (by first | omega | (dsimp only; omega))) (.cons rfl (by first | rfl | exact veq_int (by first | omega | (dsimp only; omega))) .nil)))))))))))) (.keep rfl rfl (fun _ h => h) (.keep rfl rfl (fun _ h => h) (.keep rfl rfl (imp_var rfl rfl) (.keep rfl rfl (fun _ h => h) .nil))))
    · rintro ⟨y, t2, z2⟩ ⟨hy, hGF, hz2, ht2⟩
      try dsimp only at *
      refine W_seq ?_
      refine W_region ?_
      refine Ops_p (p_lss rfl rfl) (lt_dec rfl) ?_
      refine Ops_nil ?_
      refine W_seq ?_
      refine W_cond rfl (fun h2 => ?_) (fun h2 => ?_)
      · try simp only [bs] at h2
        refine W_skip ?_
        refine W_seq ?_
        refine W_block ?_
        refine W_seq ?_
        obtain ⟨v, hv1, hv2, hv3⟩ := filt_getD (P := (candB M (q / M.length) (q % M.length))) (k := M.length) (q := y) (by omega)
        have hv10 : v < 10 := (by omega)
        have hfl := filt_len (P := (candB M (q / M.length) (q % M.length))) M.length
        refine W_region ?_
        refine Ops_q (q_ixR _ rfl rfl rfl (Rds.own m0) rfl rfl (by first | (show _ < List.length _; omega) | (show _ < List.length _; first | omega | (dsimp only; omega))) rfl) (lt_dec rfl) ?_
        refine Ops_q (q_loadR rfl rfl (Rds.own m0) rfl rfl (by first | (show _ < List.length _; omega) | (show _ < List.length _; first | omega | (dsimp only; omega))) rfl rfl rfl) (lt_dec rfl) ?_
        refine Ops_p (p_assign rfl) (lt_dec rfl) ?_
        refine Ops_nil ?_
        refine W_seq ?_
        refine W_seq ?_
        refine W_region ?_
        refine Ops_p (p_move rfl) (lt_dec rfl) ?_
        refine Ops_x rfl (x_callvT het rfl rfl (hct t2 ht2) (HpDels.cons ((HpDel.head).tail).tail HpDels.nil) (Vw.none _) (fun _ => (HpDels.cons ((HpDel.head).tail).tail HpDels.nil)) (lt_dec rfl) fun _ _ => ?_)
        refine Ops_p (p_not rfl) (lt_dec rfl) ?_
        refine Ops_nil ?_
        refine W_cond rfl (fun h3 => ?_) (fun h3 => ?_)
        · try simp only [bs] at h3
          have hs1 : cmpF vis q M (t, z) (y + 1) = (false, t2 + 1, z2) := (cmpF_succ (by omega)).trans (by rw [hGF]; exact cmpS_over (by omega)); have hR := hto1.trans ((cmpP_emp hto3 hem).trans ((cmpF_end (by omega) (by rw [hs1])).trans hs1))
          refine W_seq ?_
          refine W_region ?_
          refine Ops_p (p_assign rfl) (lt_dec rfl) ?_
          refine Ops_nil ?_
          refine W_ret ?_
          refine Exists.intro _ (And.intro (.cons (.tmp rfl) .nil) (Exists.intro () (And.intro ?_ (And.intro ?_ (And.intro (.cons ((HpDel.head).tail).tail rfl (imp_var (by first | (rw [hR]; done) | (rw [hR]; rfl)) rfl) (.cons ((HpDel.head).tail).tail (by rw [hR]) (by rw [hR]; exact fun _ h => h) .nil)) (by show (S _).rkey ++ [] = []; rw [hr]; rfl))))))
          · trivial
          · first | (rw [hR]; done) | (rw [hR]; rfl) | (rw [hR, hb]; done) | (rw [hR, hb]; rfl)
        · try simp only [bs] at h3
          have hle : t2 + 1 ≤ 20000 := (by omega)
          refine W_skip ?_
          refine W_seq ?_
          refine W_region ?_
          refine Ops_q (q_load rfl rfl m1 rfl (by first | trivial | (first | omega | (dsimp only; omega)) | exact Fin.isLt _ | (dsimp only; omega))) (lt_dec rfl) ?_
          refine Ops_x rfl (x_alloc rfl (lt_dec rfl) fun b15_1 => ?_)
          refine Ops_x rfl (x_store rfl rfl rfl rfl rfl HpRep.head rfl (by first | trivial | (first | (first | omega | (dsimp only; omega)) | exact Fin.isLt _)) ?_)
          refine Ops_nil ?_
          refine W_seq ?_
          refine W_region ?_
          refine Ops_p (p_move rfl) (lt_dec rfl) ?_
          refine Ops_p (p_move rfl) (lt_dec rfl) ?_
          refine Ops_p (p_move rfl) (lt_dec rfl) ?_
          refine Ops_p ((p_conv rfl rfl rfl (by rw [hv1]; exact ⟨by omega, by omega⟩)).eq (d' := .u8 (Fin.ofNat 256 v)) (by rw [hv1]; exact veq_byte (by omega))) (lt_dec rfl) ?_
          refine Ops_x rfl (x_callV en_pimpl_cells_put rfl (w_pimpl_cells_put (t := cT M) (r := cR M) (c := cC M) (n := ((M.length : Nat) : Int)) (i := (q / M.length)) (j := (q % M.length)) (bv := b15_1) (m := Fin.ofNat 256 v) (by omega) (by omega) (by rw [ofNat_val (by omega)]; omega) cR_lt cC_lt) (View.w m0 (View.none _) rfl (fun e he => by cases he)) (HpRep.head) (lt_dec rfl) ?_)
          refine Ops_nil ?_
          refine W_seq ?_
          have hcp := candB_p hv3
          have hP2 := set_par hP hd1 hd2 hem hv2 hcp
          have hF2 := FillP.set (v := v) hP hto3 hFq
          have hsl : (setS M (q / M.length) (q % M.length) (v : Int)).length = M.length := setS_len
          have hs1 : cmpF vis q M (t, z) (y + 1) = (cmpP vis (q + 1) (setS M (q / M.length) (q % M.length) (v : Int)) (t2 + 1, z2)) := (cmpF_succ (by omega)).trans (by rw [hGF, hv1]; exact (cmpS_go (by omega)).trans (by unfold cmpP; rw [hsl]))
          refine W_region ?_
          refine Ops_q ((q_load rfl rfl m0 rfl (by first | trivial | (dsimp only; omega))).eq (d' := .agg [.int .i64 (((setS M (q / M.length) (q % M.length) (v : Int)).length : Nat) : Int), .arr8 100 (cT (setS M (q / M.length) (q % M.length) (v : Int))), .arr .i64 10 (fun x => ((cR (setS M (q / M.length) (q % M.length) (v : Int)) x : Nat) : Int)), .arr .i64 10 (fun x => ((cC (setS M (q / M.length) (q % M.length) (v : Int)) x : Nat) : Int))]) (veq_agg (by exact ceq_cons (ceq_int (by rw [setS_len])) (ceq_cons (ceq_arr8 fun k hk => cT_set hP hd1 hd2 k hk) (ceq_cons (ceq_arr fun k hk => by rw [ofNat_val (show v < 256 by omega), ← cR_set hP hd1 hd2 hem hv10 k]; exact (if e : k = (q / M.length) then by rw [if_pos e, if_pos e] else by rw [if_neg e, if_neg e])) (ceq_cons (ceq_arr fun k hk => by rw [ofNat_val (show v < 256 by omega), ← cC_set hP hd1 hd2 hem hv10 k]; exact (if e : k = (q % M.length) then by rw [if_pos e, if_pos e] else by rw [if_neg e, if_neg e])) rfl)))))) (lt_dec rfl) ?_
          refine Ops_p ((p_move rfl).eq (d' := .int .i64 (q : Int)) (by rw [hq]; rfl)) (lt_dec rfl) ?_
          refine Ops_p (p_add rfl rfl (by exact ⟨(by first | omega | (dsimp only; omega)), (by first | omega | (dsimp only; omega))⟩)) (lt_dec rfl) ?_
          refine Ops_p (p_move rfl) (lt_dec rfl) ?_
          refine Ops_p (p_move rfl) (lt_dec rfl) ?_
          refine Ops_x rfl (x_callT en_impl_cells_complete rfl ((ih (q + 1) (setS M (q / M.length) (q % M.length) (v : Int)) (t2 + 1) z2 hP2 (by rw [hsl]; omega) hF2 (hup _ _ hz2) hle (by rw [hsl]; omega))) (HpDels.cons (((HpDel.head).tail).tail).tail (HpDels.cons (((HpDel.head).tail).tail).tail HpDels.nil)) (Vw.none _) (fun _ => (HpDels.cons (((HpDel.head).tail).tail).tail (HpDels.cons (((HpDel.head).tail).tail).tail HpDels.nil))) (lt_dec rfl) fun _ _ => ?_)
          refine Ops_p (p_not rfl) (lt_dec rfl) ?_
          refine Ops_nil ?_
          refine W_cond rfl (fun h4 => ?_) (fun h4 => ?_)
          · try simp only [bs] at h4
            have hb := h4; have hR := hto1.trans ((cmpP_emp hto3 hem).trans ((cmpF_end (by omega) (by rw [hs1]; exact hb)).trans hs1))
            refine W_seq ?_
            refine W_region ?_
            refine Ops_p (p_assign rfl) (lt_dec rfl) ?_
            refine Ops_nil ?_
            refine W_ret ?_
            refine Exists.intro _ (And.intro (.cons (.tmp rfl) .nil) (Exists.intro () (And.intro ?_ (And.intro ?_ (And.intro (.cons (((HpDel.head).tail).tail).tail rfl (imp_var (by first | (rw [hR]; done) | (rw [hR]; rfl)) rfl) (.cons (((HpDel.head).tail).tail).tail (by rw [hR]) (by rw [hR]; exact fun _ h => h) .nil)) (by show (S _).rkey ++ [] = []; rw [hr]; rfl))))))
            · trivial
            · first | (rw [hR]; done) | (rw [hR]; rfl) | (rw [hR, hb]; done) | (rw [hR, hb]; rfl)
          · try simp only [bs] at h4
            have hb := h4
            refine W_skip ?_
            refine W_region ?_
            refine Ops_p (p_add rfl rfl (by exact ⟨(by first | omega | (dsimp only; omega)), (by first | omega | (dsimp only; omega))⟩)) (lt_dec rfl) ?_
            refine Ops_p (p_move rfl) (lt_dec rfl) ?_
            refine Ops_nil ?_
            refine Exists.intro (y + 1, (cmpP vis (q + 1) (setS M (q / M.length) (q % M.length) (v : Int)) (t2 + 1, z2)).2.1, (cmpP vis (q + 1) (setS M (q / M.length) (q % M.length) (v : Int)) (t2 + 1, z2)).2.2) (And.intro ?_ (And.intro ?_ ?_))
            · exact ⟨by show _ ≤ _; omega, hs1.trans (Prod.ext hb rfl), cmp_ok (Q := okz) hleaf hup _ hz2, cmp_le _ hle hb⟩
            · show _ < _; omega
            · exact Wk.intro (.cons rfl (by first | rfl | exact veq_int (by first | omega | (dsimp only; omega))) (.cons rfl (by first | rfl | exact veq_int (by first | omega | (dsimp only; omega))) (.cons rfl (by first | rfl | exact veq_int (by first | omega | (dsimp only; omega))) (.cons rfl (by first | rfl | exact veq_int (by first | omega | (dsimp only; omega))) (.cons rfl (by first | rfl | exact veq_int (by first | omega | (dsimp only; omega))) (.cons rfl (by first | rfl | exact veq_int (by first | omega | (dsimp only; omega))) (.cons rfl (by first | rfl | exact veq_int (by first | omega | (dsimp only; omega))) (.cons rfl (by first | rfl | exact veq_int (by first | omega | (dsimp only; omega))) (.cons rfl (by first | rfl | exact veq_int (by first | omega | (dsimp only; omega))) (.cons rfl (by first | rfl | exact veq_int (by first | omega | (dsimp only; omega))) (.cons rfl (by first | rfl | exact veq_int (by first | omega | (dsimp only; omega))) (.cons rfl (by first | rfl | exact veq_int (by first | omega | (dsimp only; omega))) .nil)))))))))))) (.drop (.keep rfl rfl (fun _ h => h) (.keep rfl rfl (fun _ h => h) (.keep rfl rfl (imp_var rfl rfl) (.keep rfl rfl (fun _ h => h) .nil)))))
      · try simp only [bs] at h2
        obtain rfl : y = (filt (candB M (q / M.length) (q % M.length)) (List.length M)).length := (by omega)
        have hR := hto1.trans ((cmpP_emp hto3 hem).trans hGF)
        refine W_exit ?_
        refine W_seq ?_
        refine W_region ?_
        refine Ops_p (p_assign rfl) (lt_dec rfl) ?_
        refine Ops_nil ?_
        refine W_ret ?_
        refine Exists.intro _ (And.intro (.cons (.tmp rfl) .nil) (Exists.intro () (And.intro ?_ (And.intro ?_ (And.intro (.cons ((HpDel.head).tail).tail rfl (imp_var (by first | (rw [hR]; done) | (rw [hR]; rfl)) rfl) (.cons ((HpDel.head).tail).tail (by rw [hR]) (by rw [hR]; exact fun _ h => h) .nil)) (by show (S _).rkey ++ [] = []; rw [hr]; rfl))))))
        · trivial
        · first | (rw [hR]; done) | (rw [hR]; rfl) | (rw [hR, hb]; done) | (rw [hR, hb]; rfl)
theorem w_impl_cells_complete {Z : Type} {S : Z → Ent} {vis : SL → Z → Bool × Z} {okz : Nat → Z → Prop} {bt : Nat} {f g : FuncId} {cf cg : Array Value} (het : Enters Try.prog f) (heg : Enters Try.prog g) (hct : ∀ t : Nat, t ≤ 20000 → CT Try.prog f (#[] ++ vals [] ++ cf) [.var bt (.int .i64 (t : Int))] [] (fun _ : Unit => True) (fun _ => .bool (decide (((t + 1 : Nat) : Int) ≤ 20000))) (fun _ => [.var bt (.int .i64 ((t + 1 : Nat) : Int))])) (hcg : ∀ (M : SL) (t : Nat) (z : Z), ParL M → FullL M → okz t z → t ≤ 20000 → CT Try.prog g (#[] ++ vals [.agg [.int .i64 ((M.length : Nat) : Int), .arr8 100 (cT M)]] ++ cg) [S z] [] (fun _ : Unit => True) (fun _ => .bool (vis M z).1) (fun _ => [S (vis M z).2])) (hr : ∀ z, (S z).rkey = []) (hup : ∀ t z, okz t z → okz (t + 1) z) (hleaf : ∀ M t z, okz t z → okz (t + 1) (vis M z).2) {p : Nat} {M : SL} {t : Nat} {z : Z} (hP : ParL M) (hp : p ≤ M.length * M.length) (hFi : FillP M p) (hz : okz t z) (ht : t ≤ 20000) : CT (X := Unit) Try.prog 59 (vals [.agg [.int .i64 ((M.length : Nat) : Int), .arr8 100 (cT M), .arr .i64 10 (fun x => ((cR M x : Nat) : Int)), .arr .i64 10 (fun x => ((cC M x : Nat) : Int))], .int .i64 (p : Int), .raw (.func (.func f) #[] cf) rfl, .raw (.func (.func g) #[] cg) rfl]) [.var bt (.int .i64 (t : Int)), S z] [] (fun x => True) (fun x => .bool (cmpP vis p M (t, z)).1) (fun x => [.var bt (.int .i64 (((cmpP vis p M (t, z)).2.1 : Nat) : Int)), S (cmpP vis p M (t, z)).2.2]) := w_impl_cells_complete_all (Z := Z) (S := S) (vis := vis) (okz := okz) (bt := bt) (f := f) (g := g) (cf := cf) (cg := cg) (het := het) (heg := heg) (hct := hct) (hcg := hcg) (hr := hr) (hup := hup) (hleaf := hleaf) _ p M t z hP hp hFi hz ht (Nat.lt_succ_self _)
end Go.Proofs.Ytdcpggdbjllmpab
