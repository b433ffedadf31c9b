/- What the Go function slices.Clone[[]byte,byte] does, shown of its loaded text; its conditions stand in the statement. -/
import Derived.Test.YtdcpggdbjllmpaaTy
import Derived.Test.YtdcpggdbjllmpaaGx12
import Derived.Test.YtdcpggdbjllmpaaGx20
import Derived.Test.YtdcpggdbjllmpaaGx34
namespace Go.Proofs.Ytdcpggdbjllmpaa
open Go Gx
set_option linter.unusedVariables false
theorem en_slices_CloneGSbytebyte : Enters Try.prog 99 := enters_of Try.func99 (by kernel_rfl) (by kernel_rfl)
set_option maxRecDepth 100000 in
theorem w_slices_CloneGSbytebyte {a : Value} {ha : a.oneCell' = true} {l : List (Fin 256)} (hl : l.length ≤ 10000) (hn : l = [] → a = .slice none 0 0) : CT (X := V1) Try.prog 99 (vals [.raw a ha]) [] [rd a (.u8s l)] (fun x => True) (fun x => .raw x.1 x.2) (fun x => [own x.1 5 (.u8s l)]) := by
  refine CT_intro (rs := [.tmp 2]) tt tok Try.func99 rfl rfl rfl (by first | rfl | assumption) fun w => ?_
  show W _ _ _ ⟨tmOf 0 [.raw a ha], [rd a (.u8s l)]⟩
  refine W_seq ?_
  refine W_region ?_
  refine Ops_p (p_assign rfl) (lt_dec rfl) ?_
  refine Ops_nil ?_
  refine W_seq ?_
  refine W_seq ?_
  refine W_fact (rd_form m0) fun hfm => ?_
  refine W_region ?_
  refine Ops_p (p_move rfl) (lt_dec rfl) ?_
  refine Ops_p (p_eql_nil hfm.1 rfl rfl rfl) (lt_dec rfl) ?_
  refine Ops_nil ?_
  refine W_cond rfl (fun h1 => ?_) (fun h1 => ?_)
  · try simp only [bs] at h1
    have hl0 : l = [] := List.eq_nil_of_length_eq_zero (hfm.2 h1).2
    refine W_seq ?_
    refine W_region ?_
    refine Ops_p (p_assign rfl) (lt_dec rfl) ?_
    refine Ops_nil ?_
    refine W_ret ?_
    refine Exists.intro _ (And.intro (.cons (.tmp rfl) .nil) (Exists.intro ⟨.slice none 0 0, rfl⟩ (And.intro ?_ (And.intro ?_ (And.intro (.free rfl (own_nil (by rw [hl0]; rfl) (by rw [hl0]; rfl)) .nil) rfl)))))
    · trivial
    · rfl
  · try simp only [bs] at h1
    have hne : 0 < l.length := List.length_pos_iff.2 (fun e => by rw [hn e] at h1; cases h1)
    refine W_skip ?_
    refine W_seq ?_
    refine W_region ?_
    refine Ops_x rfl (x_buildSlice rfl rfl rfl rfl rfl rfl rfl rfl (Nat.le_of_ble_eq_true rfl) (lt_dec rfl) fun b5_1 => ?_)
    refine Ops_p (p_move rfl) (lt_dec rfl) ?_
    refine Ops_x rfl (x_append_rd (m := l.length) rfl rfl rfl rfl rfl rfl (fun _ _ => HpRep.head) (Rds.rd m1) rfl rfl rfl (by first | omega | (dsimp only; omega)) rfl (by first | omega | (dsimp only; omega)) (by first | omega | (dsimp only; omega)) (lt_dec rfl) fun b7_1 cb7_1 => ?_)
    refine Ops_p (p_assign rfl) (lt_dec rfl) ?_
    refine Ops_nil ?_
    refine W_ret ?_
    refine Exists.intro _ (And.intro (.cons (.tmp rfl) .nil) (Exists.intro ⟨.slice (some ⟨b7_1, 0, none⟩) (0 + l.length) cb7_1, rfl⟩ (And.intro ?_ (And.intro ?_ (And.intro (.cons HpDel.head rfl (own_of_row (by show _ = List.length _; simp) (by simp)) .nil) rfl)))))
    · trivial
    · rfl
end Go.Proofs.Ytdcpggdbjllmpaa
