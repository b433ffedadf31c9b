/- What the Go function spec.ForceCells does, shown of its loaded text; its conditions stand in the statement. -/
import Derived.Test.YtebcapplclgaeadTy
import Derived.Test.YtebcapplclgaeadFspecl09Copy
import Derived.Test.YtebcapplclgaeadFspecl09Force
import Derived.Test.YtebcapplclgaeadFspecl09Is
import Derived.Test.YtebcapplclgaeadGx12
import Derived.Test.YtebcapplclgaeadGx20
import Derived.Test.YtebcapplclgaeadM24
namespace Go.Proofs.Ytebcapplclgaead
open Go Gx
set_option linter.unusedVariables false
theorem en_spec_ForceCells : Enters Try.prog 45 := enters_of Try.func45 (by kernel_rfl) (by kernel_rfl)
set_option maxRecDepth 100000 in
theorem w_spec_ForceCells {a : Value} {ha : a.oneCell' = true} {L : SL}  : CT (X := V1 × SL) Try.prog 45 (vals [.raw a ha]) [] [rss a L] (fun x => x.2.map (·.2) = fcS L) (fun x => .tup [.raw x.1.1 x.1.2, .int .i64 (bif isPar L then 0 else 1)]) (fun x => [oss x.1.1 38 2 x.2]) := by
  refine CT_intro (rs := [.tmp 2, .tmp 3]) tt tok Try.func45 rfl rfl rfl (by first | rfl | assumption) fun w => ?_
  show W _ _ _ ⟨tmOf 0 [.raw a ha], [rss a L]⟩
  refine W_seq ?_
  refine W_region ?_
  refine Ops_p (p_assign rfl) (lt_dec rfl) ?_
  refine Ops_p (p_assign rfl) (lt_dec rfl) ?_
  refine Ops_nil ?_
  refine W_seq ?_
  refine W_seq ?_
  refine W_region ?_
  refine Ops_p (p_move rfl) (lt_dec rfl) ?_
  refine Ops_q (q_call en_spec_l09Is rfl (w_spec_l09Is) (Vw.rss m0).v) (lt_dec rfl) ?_
  refine Ops_p (p_not rfl) (lt_dec rfl) ?_
  refine Ops_nil ?_
  refine W_cond rfl (fun h1 => ?_) (fun h1 => ?_)
  · try simp only [bs] at h1
    have hp : isPar L = false := (by simp_all)
    refine W_seq ?_
    refine W_region ?_
    refine Ops_p (p_assign rfl) (lt_dec rfl) ?_
    refine Ops_p (p_assign rfl) (lt_dec rfl) ?_
    refine Ops_nil ?_
    refine W_ret ?_
    refine Exists.intro _ (And.intro (.cons (.tmp rfl) (.cons (.tmp rfl) .nil)) (Exists.intro (⟨.slice none 0 0, rfl⟩, []) (And.intro ?_ (And.intro ?_ (And.intro (.free rfl oss_nil .nil) rfl)))))
    · rw [fcS_f hp]; rfl
    · rw [hp]; rfl
  · try simp only [bs] at h1
    have hp : isPar L = true := (by simp_all); have hP := of_isPar hp
    refine W_skip ?_
    refine W_seq ?_
    refine W_region ?_
    refine Ops_p (p_move rfl) (lt_dec rfl) ?_
    refine Ops_x rfl (x_callT en_spec_l09Copy rfl (w_spec_l09Copy (by first | assumption | (first | omega | (dsimp only; omega)) | (simp; done) | decide)) HpDels.nil (Vw.rss m0) (fun _ => (HpDels.cons HpDel.head HpDels.nil)) (lt_dec rfl) fun x9_1 hx1 => ?_)
    refine Ops_p (p_assign rfl) (lt_dec rfl) ?_
    refine Ops_nil ?_
    refine W_seq ?_
    refine W_block ?_
    refine W_loop (α := SL) (fun M => ⟨[(0, .raw a ha), (3, .int .i64 0), (4, .raw x9_1.1.1 x9_1.1.2), (5, .raw a ha), (6, .bool (isPar L)), (8, .raw a ha), (9, .raw x9_1.1.1 x9_1.1.2)], [oss x9_1.1.1 38 2 M, rss a L]⟩) (fun M => FI L M) (fun M => emp M) x9_1.2 ?_ ?_ ?_
    · exact FI.start hP hx1
    · exact Wk.intro (.cons rfl (by first | rfl | exact veq_int (by first | omega | (dsimp only; omega))) (.cons rfl (by first | rfl | exact veq_int (by first | omega | (dsimp only; omega))) (.cons rfl (by first | rfl | exact veq_int (by first | omega | (dsimp only; omega))) (.cons rfl (by first | rfl | exact veq_int (by first | omega | (dsimp only; omega))) (.cons rfl (by first | rfl | exact veq_int (by first | omega | (dsimp only; omega))) (.cons rfl (by first | rfl | exact veq_int (by first | omega | (dsimp only; omega))) (.cons rfl (by first | rfl | exact veq_int (by first | omega | (dsimp only; omega))) .nil))))))) (.keep rfl rfl (oss_eq rfl) (.keep rfl rfl (fun _ h => h) .nil))
    · rintro M hI
      refine W_seq ?_
      refine W_seq ?_
      refine W_region ?_
      refine Ops_p (p_move rfl) (lt_dec rfl) ?_
      refine Ops_x rfl (x_callT en_spec_l09Force rfl (w_spec_l09Force hI.1) (HpDels.cons HpDel.head HpDels.nil) (Vw.none _) (fun _ => (HpDels.cons HpDel.head HpDels.nil)) (lt_dec rfl) fun _ _ => ?_)
      refine Ops_nil ?_
      refine W_cond rfl (fun h2 => ?_) (fun h2 => ?_)
      · try simp only [bs] at h2
        obtain ⟨q, hs⟩ := Option.isSome_iff_exists.1 h2
        refine W_skip ?_
        refine W_block ?_
        refine W_skip ?_
        refine Exists.intro (nxtF M) (And.intro ?_ (And.intro ?_ ?_))
        · exact FI.step hI hs
        · show _ < _; exact nxtF_less hI.1 hs
        · exact Wk.intro (.cons rfl (by first | rfl | exact veq_int (by first | omega | (dsimp only; omega))) (.cons rfl (by first | rfl | exact veq_int (by first | omega | (dsimp only; omega))) (.cons rfl (by first | rfl | exact veq_int (by first | omega | (dsimp only; omega))) (.cons rfl (by first | rfl | exact veq_int (by first | omega | (dsimp only; omega))) (.cons rfl (by first | rfl | exact veq_int (by first | omega | (dsimp only; omega))) (.cons rfl (by first | rfl | exact veq_int (by first | omega | (dsimp only; omega))) (.cons rfl (by first | rfl | exact veq_int (by first | omega | (dsimp only; omega))) .nil))))))) (.keep rfl rfl (oss_eq rfl) (.keep rfl rfl (fun _ h => h) .nil))
      · try simp only [bs] at h2
        have hs : stepF M = none := (by simpa using h2)
        refine W_exit ?_
        refine W_seq ?_
        refine W_region ?_
        refine Ops_p (p_move rfl) (lt_dec rfl) ?_
        refine Ops_p (p_assign rfl) (lt_dec rfl) ?_
        refine Ops_p (p_assign rfl) (lt_dec rfl) ?_
        refine Ops_nil ?_
        refine W_ret ?_
        refine Exists.intro _ (And.intro (.cons (.tmp rfl) (.cons (.tmp rfl) .nil)) (Exists.intro (x9_1.1, M) (And.intro ?_ (And.intro ?_ (And.intro (.cons HpDel.head (by rw [nxt_no hs]) (oss_eq (nxt_no hs)) .nil) rfl)))))
        · rw [fcS_t hp]; exact hI.end hs
        · rw [hp]; rfl
end Go.Proofs.Ytebcapplclgaead
