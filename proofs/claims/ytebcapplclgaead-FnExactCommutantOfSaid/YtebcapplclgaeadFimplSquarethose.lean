/- What the Go function (impl.Square).those does, shown of its loaded text; its conditions stand in the statement. -/
import Derived.Test.YtebcapplclgaeadTy
import Derived.Test.YtebcapplclgaeadFimplSquareelements
import Derived.Test.YtebcapplclgaeadM14
namespace Go.Proofs.Ytebcapplclgaead
open Go Gx
set_option linter.unusedVariables false
theorem en_impl_Square_those : Enters Try.prog 132 := enters_of Try.func132 (by kernel_rfl) (by kernel_rfl)
set_option maxRecDepth 100000 in
theorem w_impl_Square_those {t : Nat → Fin 256} {n : Int} {f : FuncId} {cap : Array Value} {need : List Ent} {P : Nat → Bool} (hn : 1 ≤ n ∧ n ≤ 10) (hen : Enters Try.prog f) (hneed : wkeys need = []) (hc : ∀ a : Nat, a < n.toNat → CR Try.prog f (#[] ++ vals [.int .u8 (a : Int)] ++ cap) need (.bool (P a))) : CR Try.prog 132 (vals [.agg [.int .i64 n, .arr8 100 t], .raw (.func (.func f) #[] cap) rfl]) need (.int .i64 ((bsP P n.toNat : Nat) : Int)) := by
  refine CR_intro (rs := [.tmp 4]) tt tok Try.func132 rfl rfl rfl (by first | rfl | assumption) fun w => ?_
  refine W_seq ?_
  refine W_region ?_
  refine Ops_x rfl (x_box rfl rfl (lt_dec rfl) fun b2_1 => ?_)
  refine Ops_p (p_assign rfl) (lt_dec rfl) ?_
  refine Ops_nil ?_
  refine W_seq ?_
  refine W_region ?_
  refine Ops_p (p_assign rfl) (lt_dec rfl) ?_
  refine Ops_nil ?_
  refine W_seq ?_
  refine W_seq ?_
  refine W_region ?_
  refine Ops_q (q_load rfl rfl m0 rfl (by first | trivial | (first | omega | (dsimp only; omega)) | exact Fin.isLt _ | (dsimp only; omega))) (lt_dec rfl) ?_
  refine Ops_x rfl (x_callRow en_impl_Square_elements rfl (w_impl_Square_elements (by omega)) (View.none _) elems_len (lt_dec rfl) fun b9_1 cb9_1 => ?_)
  refine Ops_p (p_len rfl rfl rfl) (lt_dec rfl) ?_
  refine Ops_p (p_move rfl) (lt_dec rfl) ?_
  refine Ops_nil ?_
  refine W_block ?_
  refine W_loop (α := Nat) (fun a => ⟨[(0, .agg [.int .i64 n, .arr8 100 t]), (1, .raw (.func (.func f) #[] cap) rfl), (2, .ptr b2_1 0 none), (4, .int .i64 0), (5, .int .i64 ((bsP P a : Nat) : Int)), (8, .agg [.int .i64 n, .arr8 100 t]), (9, .sl b9_1 0 n.toNat cb9_1), (10, .int .i64 (n.toNat : Int)), (11, .int .i64 (a : Int))], .row b9_1 cb9_1 5 (.u8s (elems n.toNat)) :: .var b2_1 (.agg [.int .i64 n, .arr8 100 t]) :: need⟩) (fun a => a ≤ n.toNat) (fun a => n.toNat - a) 0 ?_ ?_ ?_
  · show _ ≤ _; omega
  · exact Wk.intro (.cons rfl (by first | rfl | exact veq_int (by first | omega | (dsimp only; omega))) (.cons rfl (by first | rfl | exact veq_int (by first | omega | (dsimp only; omega))) (.cons rfl (by first | rfl | exact veq_int (by first | omega | (dsimp only; omega))) (.cons rfl (by first | rfl | exact veq_int (by first | omega | (dsimp only; omega))) (.cons rfl (by first | rfl | exact veq_int (by first | omega | (dsimp only; omega))) (.cons rfl (by first | rfl | exact veq_int (by first | omega | (dsimp only; omega))) (.cons rfl (by first | rfl | exact veq_int (by first | omega | (dsimp only; omega))) (.cons rfl (by first | rfl | exact veq_int (by first | omega | (dsimp only; omega))) (.cons rfl (by first | rfl | exact veq_int (by first | omega | (dsimp only; omega))) .nil))))))))) (.keep rfl rfl (fun _ h => h) (.keep rfl rfl (fun _ h => h) .all))
  · rintro a hR
    have hb : bsP P a < 1024 := bsP_10 (by omega)
    refine W_seq ?_
    refine W_region ?_
    refine Ops_p (p_lss rfl rfl) (lt_dec rfl) ?_
    refine Ops_nil ?_
    refine W_seq ?_
    refine W_cond rfl (fun h1 => ?_) (fun h1 => ?_)
    · try simp only [bs] at h1
      refine W_skip ?_
      refine W_seq ?_
      refine W_block ?_
      refine W_seq ?_
      refine W_region ?_
      refine Ops_p (p_ixl1 _ rfl rfl rfl rfl rfl rfl (by first | (first | omega | (dsimp only; omega)) | exact Fin.isLt _)) (lt_dec rfl) ?_
      refine Ops_q (q_elem rfl rfl m0 (by omega) (by omega) rfl rfl) (lt_dec rfl) ?_
      refine Ops_p (p_assign rfl) (lt_dec rfl) ?_
      refine Ops_nil ?_
      refine W_seq ?_
      refine W_region ?_
      refine Ops_p (p_move rfl) (lt_dec rfl) ?_
      refine Ops_p (p_move rfl) (lt_dec rfl) ?_
      refine Ops_q (q_callv hen rfl rfl (hc a (by omega)) (View.tail (View.tail (View.refl _)))) (lt_dec rfl) ?_
      refine Ops_nil ?_
      refine W_cond rfl (fun h2 => ?_) (fun h2 => ?_)
      · try simp only [bs] at h2
        refine W_region ?_
        refine Ops_p (p_move rfl) (lt_dec rfl) ?_
        refine Ops_p (p_move rfl) (lt_dec rfl) ?_
        refine Ops_p (p_shl rfl rfl (by omega) (by simp only [IntKind.bits]; omega) (shl_in (by omega) (by omega))) (lt_dec rfl) ?_
        refine Ops_p (p_or_bs (k := a) rfl rfl hb (by omega)) (lt_dec rfl) ?_
        refine Ops_p (p_assign rfl) (lt_dec rfl) ?_
        refine Ops_nil ?_
        refine W_region ?_
        refine Ops_p (p_add rfl rfl (by exact ⟨(by first | omega | (dsimp only; omega)), (by first | omega | (dsimp only; omega))⟩)) (lt_dec rfl) ?_
        refine Ops_p (p_move rfl) (lt_dec rfl) ?_
        refine Ops_nil ?_
        refine Exists.intro (a + 1) (And.intro ?_ (And.intro ?_ ?_))
        · show _ ≤ _; omega
        · show _ < _; omega
        · exact Wk.intro (.cons rfl (by first | rfl | exact veq_int (by first | omega | (dsimp only; omega))) (.cons rfl (by first | rfl | exact veq_int (by first | omega | (dsimp only; omega))) (.cons rfl (by first | rfl | exact veq_int (by first | omega | (dsimp only; omega))) (.cons rfl (by first | rfl | exact veq_int (by first | omega | (dsimp only; omega))) (.cons rfl (by first | exact veq_int (by rw [bsP_or (by assumption)]) | exact veq_int (by rw [← bsP_no (by assumption)])) (.cons rfl (by first | rfl | exact veq_int (by first | omega | (dsimp only; omega))) (.cons rfl (by first | rfl | exact veq_int (by first | omega | (dsimp only; omega))) (.cons rfl (by first | rfl | exact veq_int (by first | omega | (dsimp only; omega))) (.cons rfl (by first | rfl | exact veq_int (by first | omega | (dsimp only; omega))) .nil))))))))) (.keep rfl rfl (fun _ h => h) (.keep rfl rfl (fun _ h => h) .all))
      · try simp only [bs] at h2
        refine W_skip ?_
        refine W_region ?_
        refine Ops_p (p_add rfl rfl (by exact ⟨(by first | omega | (dsimp only; omega)), (by first | omega | (dsimp only; omega))⟩)) (lt_dec rfl) ?_
        refine Ops_p (p_move rfl) (lt_dec rfl) ?_
        refine Ops_nil ?_
        refine Exists.intro (a + 1) (And.intro ?_ (And.intro ?_ ?_))
        · show _ ≤ _; omega
        · show _ < _; omega
        · exact Wk.intro (.cons rfl (by first | rfl | exact veq_int (by first | omega | (dsimp only; omega))) (.cons rfl (by first | rfl | exact veq_int (by first | omega | (dsimp only; omega))) (.cons rfl (by first | rfl | exact veq_int (by first | omega | (dsimp only; omega))) (.cons rfl (by first | rfl | exact veq_int (by first | omega | (dsimp only; omega))) (.cons rfl (by first | exact veq_int (by rw [bsP_or (by assumption)]) | exact veq_int (by rw [← bsP_no (by assumption)])) (.cons rfl (by first | rfl | exact veq_int (by first | omega | (dsimp only; omega))) (.cons rfl (by first | rfl | exact veq_int (by first | omega | (dsimp only; omega))) (.cons rfl (by first | rfl | exact veq_int (by first | omega | (dsimp only; omega))) (.cons rfl (by first | rfl | exact veq_int (by first | omega | (dsimp only; omega))) .nil))))))))) (.keep rfl rfl (fun _ h => h) (.keep rfl rfl (fun _ h => h) .all))
    · try simp only [bs] at h1
      obtain rfl : a = n.toNat := (by omega)
      refine W_exit ?_
      refine W_seq ?_
      refine W_region ?_
      refine Ops_p (p_move rfl) (lt_dec rfl) ?_
      refine Ops_p (p_assign rfl) (lt_dec rfl) ?_
      refine Ops_nil ?_
      refine W_ret ?_
      refine Exists.intro _ (And.intro (.cons (.tmp rfl) .nil) ?_)
      rfl
end Go.Proofs.Ytebcapplclgaead
