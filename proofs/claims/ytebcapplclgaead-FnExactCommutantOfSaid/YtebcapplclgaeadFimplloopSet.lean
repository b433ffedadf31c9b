/- What the Go function impl.loopSet does, shown of its loaded text; its conditions stand in the statement. -/
import Derived.Test.YtebcapplclgaeadTy
import Derived.Test.YtebcapplclgaeadFimplsetlist
import Derived.Test.YtebcapplclgaeadFimplIsLoop
import Derived.Test.YtebcapplclgaeadGx12
import Derived.Test.YtebcapplclgaeadGx17
import Derived.Test.YtebcapplclgaeadM14
namespace Go.Proofs.Ytebcapplclgaead
open Go Gx
set_option linter.unusedVariables false
theorem en_impl_loopSet : Enters Try.prog 86 := enters_of Try.func86 (by kernel_rfl) (by kernel_rfl)
set_option maxRecDepth 100000 in
theorem w_impl_loopSet {t : Nat → Fin 256} {n : Int} {f : FuncId} {s : Nat} {L : List Int} (hen : Enters Try.prog f) (hs : isLp n t = true → s < 1024) (hc : isLp n t = true → CR Try.prog f (#[] ++ vals [.agg [.int .i64 n, .arr8 100 t]] ++ #[]) [] (.int .i64 (s : Int))) (h1L : isLp n t = true → setL s 10 = L) (h0L : isLp n t = false → L = []) : CT (X := V1) Try.prog 86 (vals [.agg [.int .i64 n, .arr8 100 t], .raw (.func (.func f) #[] #[]) rfl]) [] [] (fun x => True) (fun x => .tup [.raw x.1 x.2, .int .i64 (bif isLp n t then 0 else 1)]) (fun x => [own x.1 2 (.ints .i64 (L))]) := by
  refine CT_intro (rs := [.tmp 4, .tmp 5]) tt tok Try.func86 rfl rfl rfl (by first | rfl | assumption) fun w => ?_
  show W _ _ _ ⟨tmOf 0 [.agg [.int .i64 n, .arr8 100 t], .raw (.func (.func f) #[] #[]) rfl], []⟩
  have hs0 := hs
  refine W_seq ?_
  refine W_region ?_
  refine Ops_x rfl (x_box rfl rfl (lt_dec rfl) fun b2_1 => ?_)
  refine Ops_p (p_assign rfl) (lt_dec rfl) ?_
  refine Ops_p (p_assign rfl) (lt_dec rfl) ?_
  refine Ops_nil ?_
  refine W_seq ?_
  refine W_seq ?_
  refine W_region ?_
  refine Ops_q (q_load rfl rfl m0 rfl (by first | trivial | (first | omega | (dsimp only; omega)) | exact Fin.isLt _ | (dsimp only; omega))) (lt_dec rfl) ?_
  refine Ops_q (q_call en_impl_IsLoop rfl (w_impl_IsLoop) (View.none _)) (lt_dec rfl) ?_
  refine Ops_p (p_not rfl) (lt_dec rfl) ?_
  refine Ops_nil ?_
  refine W_cond rfl (fun h1 => ?_) (fun h1 => ?_)
  · try simp only [bs] at h1
    have hl : isLp n t = false := (show (isSq n t && allB n.toNat (unitP t 0)) = false from (by first | assumption | (rw [Bool.and_eq_false_iff]; assumption)))
    refine W_seq ?_
    refine W_region ?_
    refine Ops_p (p_assign rfl) (lt_dec rfl) ?_
    refine Ops_p (p_assign rfl) (lt_dec rfl) ?_
    refine Ops_nil ?_
    refine W_ret ?_
    refine Exists.intro _ (And.intro (.cons (.tmp rfl) (.cons (.tmp rfl) .nil)) (Exists.intro ⟨.slice none 0 0, rfl⟩ (And.intro ?_ (And.intro ?_ (And.intro (.free rfl (own_nil (by rw [h0L hl]; rfl) (by rw [h0L hl]; rfl)) .nil) rfl)))))
    · trivial
    · rw [hl]; rfl
  · try simp only [bs] at h1
    have hl : isLp n t = true := (show (isSq n t && allB n.toNat (unitP t 0)) = true from (by first | assumption | (rw [Bool.and_eq_true]; assumption))); have hs := lp_sq hl; have hn := hs.1
    refine W_skip ?_
    refine W_seq ?_
    refine W_region ?_
    refine Ops_p (p_move rfl) (lt_dec rfl) ?_
    refine Ops_q (q_load rfl rfl m0 rfl (by first | trivial | (first | omega | (dsimp only; omega)) | exact Fin.isLt _ | (dsimp only; omega))) (lt_dec rfl) ?_
    refine Ops_q (q_callv hen rfl rfl (hc hl) (View.none _)) (lt_dec rfl) ?_
    refine Ops_x rfl (x_callT en_impl_set_list rfl (w_impl_set_list (hs0 hl)) HpDels.nil (Vw.none _) (fun _ => (HpDels.cons HpDel.head HpDels.nil)) (lt_dec rfl) fun x12_1 _ => ?_)
    refine Ops_p (p_assign rfl) (lt_dec rfl) ?_
    refine Ops_p (p_assign rfl) (lt_dec rfl) ?_
    refine Ops_nil ?_
    refine W_ret ?_
    refine Exists.intro _ (And.intro (.cons (.tmp rfl) (.cons (.tmp rfl) .nil)) (Exists.intro ⟨x12_1.1, x12_1.2⟩ (And.intro ?_ (And.intro ?_ (And.intro (.cons HpDel.head rfl (own_eq (by rw [h1L hl])) .nil) rfl)))))
    · trivial
    · rw [hl]; rfl
end Go.Proofs.Ytebcapplclgaead
