/- What the Go function impl.mirrored$2 does, shown of its loaded text; its conditions stand in the statement. -/
import Derived.Test.YtdcpggdbjllmpaaTy
import Derived.Test.YtdcpggdbjllmpaaFslicesConcatGSbytebyte
import Derived.Test.YtdcpggdbjllmpaaGx12
import Derived.Test.YtdcpggdbjllmpaaGx27
import Derived.Test.YtdcpggdbjllmpaaGx28
import Derived.Test.YtdcpggdbjllmpaaGx33
import Derived.Test.YtdcpggdbjllmpaaM40
namespace Go.Proofs.Ytdcpggdbjllmpaa
open Go Gx
set_option linter.unusedVariables false
theorem en_impl_mirroredX2 : Enters Try.prog 80 := enters_of Try.func80 (by kernel_rfl) (by kernel_rfl)
set_option maxRecDepth 100000 in
theorem w_impl_mirroredX2 {c : Fin 256} {a b : Value} {ha : a.oneCell' = true} {hb : b.oneCell' = true} {p q : List (Fin 256)} (hp : 1 ≤ p.length ∧ p.length ≤ 1000) (hq : 1 ≤ q.length ∧ q.length ≤ 1000) : CT (X := V1) Try.prog 80 (vals [.u8 c, .raw a ha, .raw b hb]) [] [rd a (.u8s p), rd b (.u8s q)] (fun x => True) (fun x => .raw x.1 x.2) (fun x => [own x.1 5 (.u8s (mjT c p q))]) := by
  refine CT_intro (rs := [.tmp 6]) tt tok Try.func80 rfl rfl rfl (by first | rfl | assumption) fun w => ?_
  show W _ _ _ ⟨tmOf 0 [.u8 c, .raw a ha, .raw b hb], [rd a (.u8s p), rd b (.u8s q)]⟩
  refine W_seq ?_
  refine W_region ?_
  refine Ops_p (p_assign rfl) (lt_dec rfl) ?_
  refine Ops_nil ?_
  refine W_cutE (fun E s' => (True) ∧ Wk E s' ⟨[(0, .u8 (swp c)), (1, .raw a ha), (2, .raw b hb)], [rd a (.u8s p), rd b (.u8s q)]⟩) ?_ ?_
  · refine W_seq ?_
    refine W_region ?_
    refine Ops_p (p_move rfl) (lt_dec rfl) ?_
    refine Ops_nil ?_
    refine W_block ?_
    refine W_seq ?_
    refine W_region ?_
    first | refine Ops_p (p_eql_8 rfl rfl) (lt_dec rfl) ?_ | refine Ops_p (p_eql rfl rfl) (lt_dec rfl) ?_
    refine Ops_p (p_assign rfl) (lt_dec rfl) ?_
    refine Ops_nil ?_
    refine W_cond rfl (fun h1 => ?_) (fun h1 => ?_)
    · try simp only [bs] at h1
      refine W_region ?_
      refine Ops_p (p_assign rfl) (lt_dec rfl) ?_
      refine Ops_nil ?_
      refine ⟨?_, ?_⟩
      · trivial
      · exact Wk.intro (.cons rfl (veq_u8 (by unfold swp; simp_all)) (.cons rfl (by first | rfl | exact veq_int (by first | omega | (dsimp only; omega))) (.cons rfl (by first | rfl | exact veq_int (by first | omega | (dsimp only; omega))) .nil))) (.keep rfl rfl (fun _ h => h) (.keep rfl rfl (fun _ h => h) .nil))
    · try simp only [bs] at h1
      refine W_seq ?_
      refine W_region ?_
      first | refine Ops_p (p_eql_8 rfl rfl) (lt_dec rfl) ?_ | refine Ops_p (p_eql rfl rfl) (lt_dec rfl) ?_
      refine Ops_p (p_assign rfl) (lt_dec rfl) ?_
      refine Ops_nil ?_
      refine W_cond rfl (fun h2 => ?_) (fun h2 => ?_)
      · try simp only [bs] at h2
        refine W_region ?_
        refine Ops_p (p_assign rfl) (lt_dec rfl) ?_
        refine Ops_nil ?_
        refine ⟨?_, ?_⟩
        · trivial
        · exact Wk.intro (.cons rfl (veq_u8 (by unfold swp; simp_all)) (.cons rfl (by first | rfl | exact veq_int (by first | omega | (dsimp only; omega))) (.cons rfl (by first | rfl | exact veq_int (by first | omega | (dsimp only; omega))) .nil))) (.keep rfl rfl (fun _ h => h) (.keep rfl rfl (fun _ h => h) .nil))
      · try simp only [bs] at h2
        refine W_skip ?_
        refine ⟨?_, ?_⟩
        · trivial
        · exact Wk.intro (.cons rfl (veq_u8 (by unfold swp; simp_all)) (.cons rfl (by first | rfl | exact veq_int (by first | omega | (dsimp only; omega))) (.cons rfl (by first | rfl | exact veq_int (by first | omega | (dsimp only; omega))) .nil))) (.keep rfl rfl (fun _ h => h) (.keep rfl rfl (fun _ h => h) .nil))
  · rintro s' ⟨_, hw⟩
    refine W_wk hw ?_
    clear hw s'
    refine W_seq ?_
    refine W_region ?_
    refine Ops_p (p_move rfl) (lt_dec rfl) ?_
    refine Ops_p (p_move rfl) (lt_dec rfl) ?_
    refine Ops_x rfl (x_buildSlice rfl rfl rfl rfl rfl rfl rfl rfl (Nat.le_of_ble_eq_true rfl) (lt_dec rfl) fun b14_1 => ?_)
    refine Ops_x rfl (x_callT en_slices_ConcatGSbytebyte rfl (w_slices_ConcatGSbytebyte (ha := rfl) (S := [((⟨b, hb⟩ : V1), q), ((⟨a, ha⟩ : V1), p)]) (by simp) (by simp) (fun x hx => by simp only [List.mem_cons, List.not_mem_nil, or_false] at hx; rcases hx with rfl | rfl; exact hq.2; exact hp.2) (fun x hx => by simp only [List.mem_cons, List.not_mem_nil, or_false] at hx; rcases hx with rfl | rfl; exact hq.1; exact hp.1)) HpDels.nil (Vw.cons (Vw.rdW m0 rfl) (Vw.rpl2 (Vw.rd m2) (Vw.rd m1))) (fun _ => (HpDels.cons HpDel.head HpDels.nil)) (lt_dec rfl) fun x15_1 _ => ?_)
    refine Ops_p (p_move rfl) (lt_dec rfl) ?_
    refine Ops_x rfl (x_buildSlice rfl rfl rfl rfl rfl rfl rfl rfl (Nat.le_of_ble_eq_true rfl) (lt_dec rfl) fun b17_1 => ?_)
    refine Ops_x rfl (x_appendO (r := .u8s (q ++ (p ++ []))) (r2 := .u8s [swp c]) (q := .u8s ((q ++ (p ++ [])) ++ [swp c])) rfl rfl rfl rfl rfl rfl (Rds.row m0 rfl) rfl (by show 0 < 1; omega) rfl (HpDels.cons (HpDel.head).tail HpDels.nil) (fun _ => (HpDels.cons (HpDel.head).tail HpDels.nil)) (by show (List.length _ + List.length _) * 1 ≤ _; simp only [List.length_append, List.length_cons, List.length_nil]; omega) (by show List.length _ + List.length _ ≤ _; simp only [List.length_append, List.length_cons, List.length_nil]; omega) (lt_dec rfl) fun v18 => ?_)
    refine Ops_p (p_assign rfl) (lt_dec rfl) ?_
    refine Ops_nil ?_
    refine W_ret ?_
    refine Exists.intro _ (And.intro (.cons (.tmp rfl) .nil) (Exists.intro v18 (And.intro ?_ (And.intro ?_ (And.intro (.cons (HpDel.head).tail rfl (own_eq (by unfold mjT; simp)) .nil) rfl)))))
    · trivial
    · rfl
end Go.Proofs.Ytdcpggdbjllmpaa
