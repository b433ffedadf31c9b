/- What the Go function impl.IntercalatesOf does, shown of its loaded text; its conditions stand in the statement. -/
import Derived.Test.YtdcpggdbjllmpaaTy
import Derived.Test.YtdcpggdbjllmpaaFimplSquareforPairsV2
import Derived.Test.YtdcpggdbjllmpaaFimplIntercalatesOfX1
import Derived.Test.YtdcpggdbjllmpaaFimplIsSquare
import Derived.Test.YtdcpggdbjllmpaaGx12
import Derived.Test.YtdcpggdbjllmpaaGx20
import Derived.Test.YtdcpggdbjllmpaaGx28
import Derived.Test.YtdcpggdbjllmpaaM17
import Derived.Test.YtdcpggdbjllmpaaM35
namespace Go.Proofs.Ytdcpggdbjllmpaa
open Go Gx
set_option linter.unusedVariables false
theorem en_impl_IntercalatesOf : Enters Try.prog 30 := enters_of Try.func30 (by kernel_rfl) (by kernel_rfl)
set_option maxRecDepth 100000 in
set_option maxHeartbeats 1000000 in
theorem w_impl_IntercalatesOf {t : Nat → Fin 256} {n : Int}  : CT (X := V1 × SL) Try.prog 30 (vals [.agg [.int .i64 n, .arr8 100 t]]) [] [] (fun x => x.2.map (·.2) = icS n t) (fun x => .tup [.raw x.1.1 x.1.2, .int .i64 (bif isSq n t then 0 else 1)]) (fun x => [oss x.1.1 74 2 x.2]) := by
  refine CT_intro (rs := [.tmp 2, .tmp 3]) tt tok Try.func30 rfl rfl rfl (by first | rfl | assumption) fun w => ?_
  show W _ _ _ ⟨tmOf 0 [.agg [.int .i64 n, .arr8 100 t]], []⟩
  refine W_seq ?_
  refine W_region ?_
  refine Ops_x rfl (x_box rfl rfl (lt_dec rfl) fun b1_1 => ?_)
  refine Ops_p (p_assign rfl) (lt_dec rfl) ?_
  refine Ops_p (p_assign rfl) (lt_dec rfl) ?_
  refine Ops_nil ?_
  refine W_seq ?_
  refine W_seq ?_
  refine W_region ?_
  refine Ops_q (q_load rfl rfl m0 rfl (by first | trivial | (first | omega | (dsimp only; omega)) | exact Fin.isLt _ | (dsimp only; omega))) (lt_dec rfl) ?_
  refine Ops_q (q_call en_impl_IsSquare rfl (w_impl_IsSquare) (View.none _)) (lt_dec rfl) ?_
  refine Ops_p (p_not rfl) (lt_dec rfl) ?_
  refine Ops_nil ?_
  refine W_cond rfl (fun h1 => ?_) (fun h1 => ?_)
  · try simp only [bs] at h1
    have hp := h1
    refine W_seq ?_
    refine W_region ?_
    refine Ops_p (p_assign rfl) (lt_dec rfl) ?_
    refine Ops_p (p_assign rfl) (lt_dec rfl) ?_
    refine Ops_nil ?_
    refine W_ret ?_
    refine Exists.intro _ (And.intro (.cons (.tmp rfl) (.cons (.tmp rfl) .nil)) (Exists.intro (⟨.slice none 0 0, rfl⟩, []) (And.intro ?_ (And.intro ?_ (And.intro (.free rfl oss_nil .nil) rfl)))))
    · rw [icS_f hp]; rfl
    · rw [hp]; rfl
  · try simp only [bs] at h1
    have hp := h1; have hs := of_isSq hp; have hn := hs.1
    refine W_skip ?_
    refine W_cutE (fun E s' => ∃ b4_1 : Nat, ∃ b8_1 : Nat, (True) ∧ Wk E s' ⟨[(1, .ptr b1_1 0 none), (4, .ptr b4_1 0 none)], [.var b4_1 (.raw (slv b8_1 0 0).1 (slv b8_1 0 0).2), oss (slv b8_1 0 0).1 74 2 [], .var b1_1 (.agg [.int .i64 n, .arr8 100 t])]⟩) ?_ ?_
    · refine W_region ?_
      refine Ops_x rfl (x_buildSlice rfl rfl rfl rfl rfl rfl rfl rfl (Nat.le_of_ble_eq_true rfl) (lt_dec rfl) fun b8_1 => ?_)
      refine Ops_x rfl (x_alloc rfl (lt_dec rfl) fun b4_1 => ?_)
      refine Ops_x rfl (x_store rfl rfl rfl rfl rfl HpRep.head rfl (by first | trivial | (first | (first | omega | (dsimp only; omega)) | exact Fin.isLt _)) ?_)
      refine Ops_nil ?_
      refine ⟨b4_1, b8_1, ?_, ?_⟩
      · trivial
      · exact Wk.intro (.cons rfl (by first | rfl | exact veq_int (by first | omega | (dsimp only; omega))) (.cons rfl (by first | rfl | exact veq_int (by first | omega | (dsimp only; omega))) .nil)) (.keep rfl rfl (imp_var rfl rfl) (.keep rfl rfl (oss_of_row) (.keep rfl rfl (fun _ h => h) .nil)))
    · rintro s' ⟨b4_1, b8_1, _, hw⟩
      refine W_wk hw ?_
      clear hw s'
      refine W_seq ?_
      refine W_region ?_
      refine Ops_q (q_load rfl rfl m2 rfl (by first | trivial | (first | omega | (dsimp only; omega)) | exact Fin.isLt _ | (dsimp only; omega))) (lt_dec rfl) ?_
      refine Ops_p (p_makeFunc rfl rfl) (lt_dec rfl) ?_
      refine Ops_x rfl (x_callT en_impl_Square_forPairsV2 rfl (w_impl_Square_forPairsV2 (Z := V1 × SL) (S := fun z => .var b4_1 (.raw z.1.1 z.1.2)) (O := fun z => oss z.1.1 74 2 z.2) (okz := fun a b z => z.2.map (·.2) = icP t n.toNat a b 0 0) (need := [.rvar b1_1 (.agg [.int .i64 n, .arr8 100 t])]) (z0 := (slv b8_1 0 0, [])) hn en_impl_IntercalatesOfX1 rfl (fun z => ⟨rfl, rfl⟩) rfl (fun a z _ h => h.trans icP_b.symm) (fun a b z ha hb h => w_impl_IntercalatesOfX1 (a := a) (b := b) (bq := b1_1) (bo := b4_1) (v := z.1.1) (hv := z.1.2) (D := z.2) hs ha hb h)) (HpDels.cons HpDel.head (HpDels.cons HpDel.head HpDels.nil)) (Vw.var m0) (fun _ => (HpDels.cons HpDel.head (HpDels.cons HpDel.head HpDels.nil))) (lt_dec rfl) fun z2 hz2 => ?_)
      refine Ops_nil ?_
      refine W_seq ?_
      refine W_region ?_
      refine Ops_q (q_load rfl rfl m0 rfl (by first | trivial | (first | omega | (dsimp only; omega)) | exact Fin.isLt _ | (dsimp only; omega))) (lt_dec rfl) ?_
      refine Ops_p (p_assign rfl) (lt_dec rfl) ?_
      refine Ops_p (p_assign rfl) (lt_dec rfl) ?_
      refine Ops_nil ?_
      refine W_ret ?_
      refine Exists.intro _ (And.intro (.cons (.tmp rfl) (.cons (.tmp rfl) .nil)) (Exists.intro z2 (And.intro ?_ (And.intro ?_ (And.intro (.cons (HpDel.head).tail rfl (oss_eq rfl) .nil) rfl)))))
      · rw [icS_t hp]; exact hz2.trans icP_end
      · rw [hp]; rfl
end Go.Proofs.Ytdcpggdbjllmpaa
