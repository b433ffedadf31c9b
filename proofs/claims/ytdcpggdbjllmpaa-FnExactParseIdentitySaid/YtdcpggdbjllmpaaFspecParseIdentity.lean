/- What the Go function spec.ParseIdentity does, shown of its loaded text; its conditions stand in the statement. -/
import Derived.Test.YtdcpggdbjllmpaaTy
import Derived.Test.YtdcpggdbjllmpaaFspecl03Read
import Derived.Test.YtdcpggdbjllmpaaGx12
import Derived.Test.YtdcpggdbjllmpaaGx14
import Derived.Test.YtdcpggdbjllmpaaGx24
import Derived.Test.YtdcpggdbjllmpaaGx27
import Derived.Test.YtdcpggdbjllmpaaGx34
import Derived.Test.YtdcpggdbjllmpaaM41
namespace Go.Proofs.Ytdcpggdbjllmpaa
open Go Gx
set_option linter.unusedVariables false
theorem en_spec_ParseIdentity : Enters Try.prog 23 := enters_of Try.func23 (by kernel_rfl) (by kernel_rfl)
set_option maxRecDepth 100000 in
theorem w_spec_ParseIdentity {s : List (Fin 256)} (hs : s.length ≤ 1048576) : CT (X := V1 × V1) Try.prog 23 (vals [.raw (.string (strB s)) rfl]) [] [] (fun x => True) (fun x => .tup [.agg [.raw x.1.1 x.1.2, .raw x.2.1 x.2.2], .int .i64 (piK s)]) (fun x => [own x.1.1 5 (.u8s (Prod.fst (piR s))), own x.2.1 5 (.u8s (Prod.snd (piR s)))]) := by
  refine CT_intro (rs := [.cell 2 32, .tmp 3]) tt tok Try.func23 rfl rfl rfl (by first | rfl | assumption) fun w => ?_
  show W _ _ _ ⟨tmOf 0 [.raw (.string (strB s)) rfl], []⟩
  refine W_seq ?_
  refine W_region ?_
  refine Ops_x rfl (x_alloc rfl (lt_dec rfl) fun b2_1 => ?_)
  refine Ops_p (p_assign rfl) (lt_dec rfl) ?_
  refine Ops_nil ?_
  refine W_seq ?_
  refine W_region ?_
  refine Ops_p (p_move rfl) (lt_dec rfl) ?_
  refine Ops_x rfl (x_callT en_spec_l03Read rfl (w_spec_l03Read (by first | assumption | (first | omega | (dsimp only; omega)) | (simp; done) | decide)) HpDels.nil (Vw.none _) (fun _ => (HpDels.cons HpDel.head (HpDels.cons HpDel.head HpDels.nil))) (lt_dec rfl) fun x8_1 hx1 => ?_)
  refine Ops_p (p_move rfl) (lt_dec rfl) ?_
  refine Ops_p (p_extract rfl rfl) (lt_dec rfl) ?_
  refine Ops_p (p_extract rfl rfl) (lt_dec rfl) ?_
  refine Ops_x rfl (x_alloc rfl (lt_dec rfl) fun b4_1 => ?_)
  refine Ops_x rfl (x_store rfl rfl rfl rfl rfl HpRep.head rfl (by first | trivial | (first | (first | omega | (dsimp only; omega)) | exact Fin.isLt _)) ?_)
  refine Ops_p (p_assign rfl) (lt_dec rfl) ?_
  refine Ops_nil ?_
  refine W_seq ?_
  refine W_seq ?_
  refine W_region ?_
  refine Ops_p (p_move rfl) (lt_dec rfl) ?_
  refine Ops_p (p_not rfl) (lt_dec rfl) ?_
  refine Ops_nil ?_
  refine W_cond rfl (fun h1 => ?_) (fun h1 => ?_)
  · try simp only [bs] at h1
    have hb : piB s = false := (by simpa using h1)
    refine W_seq ?_
    refine W_region ?_
    refine Ops_p (p_build rfl rfl rfl rfl (by first | exact True.intro | trivial | (first | omega | (dsimp only; omega)) | exact Fin.isLt _ | (dsimp only; omega))) (lt_dec rfl) ?_
    refine Ops_x rfl (x_store rfl rfl rfl rfl rfl ((((HpRep.head).tail).tail).tail) rfl (by first | trivial | (first | (first | omega | (dsimp only; omega)) | exact Fin.isLt _)) ?_)
    refine Ops_p (p_assign rfl) (lt_dec rfl) ?_
    refine Ops_nil ?_
    refine W_ret ?_
    refine Exists.intro _ (And.intro (.cons (.cell rfl rfl m3 rfl trivial) (.cons (.tmp rfl) .nil)) (Exists.intro (⟨.slice none 0 0, rfl⟩, ⟨.slice none 0 0, rfl⟩) (And.intro ?_ (And.intro ?_ (And.intro (.free rfl (own_nil (by rw [piR_f hb]; rfl) (by rw [piR_f hb]; rfl)) (.free rfl (own_nil (by rw [piR_f hb]; rfl) (by rw [piR_f hb]; rfl)) .nil)) rfl)))))
    · trivial
    · (rw [show piK s = 6 by unfold piK; rw [hb]; rfl]; rfl)
  · try simp only [bs] at h1
    have hb : piB s = true := (by simpa using h1)
    refine W_skip ?_
    refine W_seq ?_
    refine W_region ?_
    refine Ops_q (q_load rfl rfl m0 rfl (by first | exact True.intro | trivial | (first | omega | (dsimp only; omega)) | exact Fin.isLt _ | (dsimp only; omega))) (lt_dec rfl) ?_
    refine Ops_x rfl (x_store rfl rfl rfl rfl rfl ((((HpRep.head).tail).tail).tail) rfl (by first | trivial | (first | (first | omega | (dsimp only; omega)) | exact Fin.isLt _)) ?_)
    refine Ops_p (p_assign rfl) (lt_dec rfl) ?_
    refine Ops_nil ?_
    refine W_ret ?_
    refine Exists.intro _ (And.intro (.cons (.cell rfl rfl m3 rfl trivial) (.cons (.tmp rfl) .nil)) (Exists.intro (x8_1.1.1, x8_1.1.2) (And.intro ?_ (And.intro ?_ (And.intro (.cons (HpDel.head).tail rfl (own_eq (by rw [hx1 hb])) (.cons (HpDel.head).tail rfl (own_eq (by rw [hx1 hb])) .nil)) rfl)))))
    · trivial
    · (rw [show piK s = 0 by unfold piK; rw [hb]; rfl]; rfl)
end Go.Proofs.Ytdcpggdbjllmpaa
