/- What the Go function spec.l09Candidates does, shown of its loaded text; its conditions stand in the statement. -/
import Derived.Test.YtebcapplclgaeadTy
import Derived.Test.YtebcapplclgaeadFspecl09Candidate
import Derived.Test.YtebcapplclgaeadGx12
import Derived.Test.YtebcapplclgaeadGx20
import Derived.Test.YtebcapplclgaeadM14
import Derived.Test.YtebcapplclgaeadM24
namespace Go.Proofs.Ytebcapplclgaead
open Go Gx
set_option linter.unusedVariables false
theorem en_spec_l09Candidates : Enters Try.prog 69 := enters_of Try.func69 (by kernel_rfl) (by kernel_rfl)
set_option maxRecDepth 100000 in
theorem w_spec_l09Candidates {a : Value} {ha : a.oneCell' = true} {L : SL} {i j : Nat} (hn : L.length ≤ 10) (hi : i < L.length) (hj : j < L.length) (hln : ∀ a, a < L.length → (L.getD a sd).2.length = L.length) : CT (X := V1) Try.prog 69 (vals [.raw a ha, .int .i64 (i : Int), .int .i64 (j : Int)]) [] [rss a L] (fun x => True) (fun x => .raw x.1 x.2) (fun x => [own x.1 2 (.ints .i64 (filt (candB L i j) (List.length L)))]) := by
  refine CT_intro (rs := [.tmp 6]) tt tok Try.func69 rfl rfl rfl (by first | rfl | assumption) fun w => ?_
  show W _ _ _ ⟨tmOf 0 [.raw a ha, .int .i64 (i : Int), .int .i64 (j : Int)], [rss a L]⟩
  refine W_seq ?_
  refine W_region ?_
  refine Ops_p (p_assign rfl) (lt_dec rfl) ?_
  refine Ops_nil ?_
  refine W_seq ?_
  refine W_region ?_
  refine Ops_x rfl (x_buildSlice rfl rfl rfl rfl rfl rfl rfl rfl (Nat.le_of_ble_eq_true rfl) (lt_dec rfl) fun b9_1 => ?_)
  refine Ops_p (p_assign rfl) (lt_dec rfl) ?_
  refine Ops_nil ?_
  refine W_seq ?_
  refine W_seq ?_
  refine W_region ?_
  refine Ops_p (p_assign rfl) (lt_dec rfl) ?_
  refine Ops_nil ?_
  refine W_block ?_
  refine W_loop (α := Nat × Nat × Nat) (fun zz0 => ⟨[(0, .raw a ha), (1, .int .i64 (i : Int)), (2, .int .i64 (j : Int)), (7, .sl (zz0.2.1) 0 (filt (candB L i j) (zz0.1)).length (zz0.2.2)), (8, .int .i64 ((zz0.1) : Int))], [.row (zz0.2.1) (zz0.2.2) 2 (.ints .i64 (filt (candB L i j) (zz0.1))), rss a L]⟩) (fun zz0 => (zz0.1) ≤ L.length) (fun zz0 => L.length - (zz0.1)) (0, b9_1, 0) ?_ ?_ ?_
  · show _ ≤ _; omega
  · exact Wk.intro (.cons rfl (by first | rfl | exact veq_int (by first | omega | (dsimp only; omega))) (.cons rfl (by first | rfl | exact veq_int (by first | omega | (dsimp only; omega))) (.cons rfl (by first | rfl | exact veq_int (by first | omega | (dsimp only; omega))) (.cons rfl (by first | rfl | exact veq_int (by first | omega | (dsimp only; omega))) (.cons rfl (by first | rfl | exact veq_int (by first | omega | (dsimp only; omega))) .nil))))) (.keep rfl rfl (fun _ h => h) (.keep rfl rfl (fun _ h => h) .nil))
  · rintro ⟨v, bb, cbb⟩ hR
    try dsimp only at *
    have hfl := filt_len (P := candB L i j) v
    refine W_seq ?_
    refine W_seq ?_
    refine W_region ?_
    refine Ops_p (p_move rfl) (lt_dec rfl) ?_
    refine Ops_p (p_move rfl) (lt_dec rfl) ?_
    refine Ops_q (q_lenO rfl rfl rfl (Rds.rssO m1)) (lt_dec rfl) ?_
    refine Ops_p (p_lss rfl rfl) (lt_dec rfl) ?_
    refine Ops_nil ?_
    refine W_cond rfl (fun h1 => ?_) (fun h1 => ?_)
    · try simp only [bs] at h1
      refine W_skip ?_
      refine W_seq ?_
      refine W_block ?_
      refine W_seq ?_
      refine W_region ?_
      refine Ops_p (p_move rfl) (lt_dec rfl) ?_
      refine Ops_p (p_move rfl) (lt_dec rfl) ?_
      refine Ops_p (p_move rfl) (lt_dec rfl) ?_
      refine Ops_p (p_move rfl) (lt_dec rfl) ?_
      refine Ops_q (q_call en_spec_l09Candidate rfl (w_spec_l09Candidate (by first | assumption | (first | omega | (dsimp only; omega)) | (simp; done) | decide) (by first | assumption | (first | omega | (dsimp only; omega)) | (simp; done) | decide) (by first | assumption | (first | omega | (dsimp only; omega)) | (simp; done) | decide) hln) (Vw.rss m1).v) (lt_dec rfl) ?_
      refine Ops_nil ?_
      refine W_cond rfl (fun h2 => ?_) (fun h2 => ?_)
      · try simp only [bs] at h2
        refine W_region ?_
        refine Ops_p (p_move rfl) (lt_dec rfl) ?_
        refine Ops_p (p_move rfl) (lt_dec rfl) ?_
        refine Ops_x rfl (x_buildSlice rfl rfl rfl rfl rfl rfl rfl rfl (Nat.le_of_ble_eq_true rfl) (lt_dec rfl) fun b23_1 => ?_)
        refine Ops_x rfl (x_append rfl rfl rfl rfl rfl rfl (fun _ _ => (HpRep.head).tail) (.inl ⟨m0, rfl⟩) rfl (by first | rfl | exact elems_len.symm | simp [Rw.len]) rfl (by first | omega | (dsimp only; omega)) rfl (by first | omega | (dsimp only; omega)) (by first | omega | (dsimp only; omega)) (lt_dec rfl) fun b24_1 cb24_1 => ?_)
        refine Ops_p (p_assign rfl) (lt_dec rfl) ?_
        refine Ops_nil ?_
        refine W_region ?_
        refine Ops_p (p_move rfl) (lt_dec rfl) ?_
        refine Ops_p (p_add rfl rfl (by exact ⟨(by first | omega | (dsimp only; omega)), (by first | omega | (dsimp only; omega))⟩)) (lt_dec rfl) ?_
        refine Ops_p (p_assign rfl) (lt_dec rfl) ?_
        refine Ops_nil ?_
        refine Exists.intro (v + 1, b24_1, cb24_1) (And.intro ?_ (And.intro ?_ ?_))
        · show _ ≤ _; omega
        · show _ < _; omega
        · exact Wk.intro (.cons rfl (by first | rfl | exact veq_int (by first | omega | (dsimp only; omega))) (.cons rfl (by first | rfl | exact veq_int (by first | omega | (dsimp only; omega))) (.cons rfl (by first | rfl | exact veq_int (by first | omega | (dsimp only; omega))) (.cons rfl (by first | exact veq_sl (by rw [← filt_t (by assumption)]; simp) | exact veq_sl (by rw [← filt_f (by assumption)])) (.cons rfl (by first | rfl | exact veq_int (by first | omega | (dsimp only; omega))) .nil))))) (.drop (.keep rfl rfl (fun _ h => by first | (rw [← filt_t (by assumption)]; exact h) | (rw [← filt_f (by assumption)]; exact h)) (.keep rfl rfl (fun _ h => h) .nil)))
      · try simp only [bs] at h2
        refine W_skip ?_
        refine W_region ?_
        refine Ops_p (p_move rfl) (lt_dec rfl) ?_
        refine Ops_p (p_add rfl rfl (by exact ⟨(by first | omega | (dsimp only; omega)), (by first | omega | (dsimp only; omega))⟩)) (lt_dec rfl) ?_
        refine Ops_p (p_assign rfl) (lt_dec rfl) ?_
        refine Ops_nil ?_
        refine Exists.intro (v + 1, bb, cbb) (And.intro ?_ (And.intro ?_ ?_))
        · show _ ≤ _; omega
        · show _ < _; omega
        · exact Wk.intro (.cons rfl (by first | rfl | exact veq_int (by first | omega | (dsimp only; omega))) (.cons rfl (by first | rfl | exact veq_int (by first | omega | (dsimp only; omega))) (.cons rfl (by first | rfl | exact veq_int (by first | omega | (dsimp only; omega))) (.cons rfl (by first | exact veq_sl (by rw [← filt_t (by assumption)]; simp) | exact veq_sl (by rw [← filt_f (by assumption)])) (.cons rfl (by first | rfl | exact veq_int (by first | omega | (dsimp only; omega))) .nil))))) (.keep rfl rfl (fun _ h => by first | (rw [← filt_t (by assumption)]; exact h) | (rw [← filt_f (by assumption)]; exact h)) (.keep rfl rfl (fun _ h => h) .nil))
    · try simp only [bs] at h1
      obtain rfl : v = L.length := (by omega)
      refine W_exit ?_
      refine W_seq ?_
      refine W_region ?_
      refine Ops_p (p_move rfl) (lt_dec rfl) ?_
      refine Ops_p (p_assign rfl) (lt_dec rfl) ?_
      refine Ops_nil ?_
      refine W_ret ?_
      refine Exists.intro _ (And.intro (.cons (.tmp rfl) .nil) (Exists.intro ⟨.slice (some ⟨bb, 0, none⟩) (filt (candB L i j) L.length).length cbb, rfl⟩ (And.intro ?_ (And.intro ?_ (And.intro (.cons HpDel.head rfl (own_of_row rfl rfl) .nil) rfl)))))
      · trivial
      · rfl
end Go.Proofs.Ytebcapplclgaead
