/- What the Go function impl.CandidatesAt does, shown of its loaded text; its conditions stand in the statement. -/
import Derived.Test.YtebcapplclgaeadTy
import Derived.Test.YtebcapplclgaeadFpimplcellscandidates
import Derived.Test.YtebcapplclgaeadFimplsetlist
import Derived.Test.YtebcapplclgaeadFimplcellsOf
import Derived.Test.YtebcapplclgaeadFimplwithin
import Derived.Test.YtebcapplclgaeadGx12
import Derived.Test.YtebcapplclgaeadGx20
import Derived.Test.YtebcapplclgaeadM22
import Derived.Test.YtebcapplclgaeadM23
namespace Go.Proofs.Ytebcapplclgaead
open Go Gx
set_option linter.unusedVariables false
theorem en_impl_CandidatesAt : Enters Try.prog 24 := enters_of Try.func24 (by kernel_rfl) (by kernel_rfl)
set_option maxRecDepth 100000 in
theorem w_impl_CandidatesAt {a : Value} {ha : a.oneCell' = true} {L : SL} {i j : Int} (hi64 : inR .i64 i ∧ inR .i64 j) : CT (X := V1) Try.prog 24 (vals [.raw a ha, .int .i64 i, .int .i64 j]) [] [rss a L] (fun x => True) (fun x => .tup [.raw x.1 x.2, .int .i64 (cdC L i j)]) (fun x => [own x.1 2 (.ints .i64 (cdL L i j))]) := by
  refine CT_intro (rs := [.tmp 6, .tmp 7]) tt tok Try.func24 rfl rfl rfl (by first | rfl | assumption) fun w => ?_
  show W _ _ _ ⟨tmOf 0 [.raw a ha, .int .i64 i, .int .i64 j], [rss a L]⟩
  have hR := hi64
  refine W_seq ?_
  refine W_region ?_
  refine Ops_p (p_assign rfl) (lt_dec rfl) ?_
  refine Ops_p (p_assign rfl) (lt_dec rfl) ?_
  refine Ops_nil ?_
  refine W_seq ?_
  refine W_region ?_
  refine Ops_p (p_move rfl) (lt_dec rfl) ?_
  refine Ops_x rfl (x_callT en_impl_cellsOf rfl (w_impl_cellsOf) HpDels.nil (Vw.rss m0) (fun _ => HpDels.nil) (lt_dec rfl) fun x12_1 hx1 => ?_)
  refine Ops_p (p_move rfl) (lt_dec rfl) ?_
  refine Ops_p (p_extract rfl rfl) (lt_dec rfl) ?_
  refine Ops_p (p_extract rfl rfl) (lt_dec rfl) ?_
  refine Ops_x rfl (x_alloc rfl (lt_dec rfl) fun b8_1 => ?_)
  refine Ops_x rfl (x_store rfl rfl rfl rfl rfl HpRep.head rfl (by first | trivial | (first | (first | omega | (dsimp only; omega)) | exact Fin.isLt _)) ?_)
  refine Ops_p (p_assign rfl) (lt_dec rfl) ?_
  refine Ops_nil ?_
  refine W_seq ?_
  refine W_block ?_
  refine W_seq ?_
  refine W_region ?_
  refine Ops_p (p_move rfl) (lt_dec rfl) ?_
  refine Ops_p (p_not rfl) (lt_dec rfl) ?_
  refine Ops_p (p_assign rfl) (lt_dec rfl) ?_
  refine Ops_nil ?_
  refine W_cond rfl (fun h1 => ?_) (fun h1 => ?_)
  · try simp only [bs] at h1
    refine W_seq ?_
    refine W_region ?_
    refine Ops_p (p_assign rfl) (lt_dec rfl) ?_
    refine Ops_p (p_assign rfl) (lt_dec rfl) ?_
    refine Ops_nil ?_
    refine W_ret ?_
    refine Exists.intro _ (And.intro (.cons (.tmp rfl) (.cons (.tmp rfl) .nil)) (Exists.intro ⟨.slice none 0 0, rfl⟩ (And.intro ?_ (And.intro ?_ (And.intro (.free rfl (own_nil (by rw [cdL_n (show cdC L i j = 1 by first | exact cd_1 (by assumption) | exact cd_2 hp (by omega) | exact cd_5 hp (by omega) h5) (by omega)]; rfl) (by rw [cdL_n (show cdC L i j = 1 by first | exact cd_1 (by assumption) | exact cd_2 hp (by omega) | exact cd_5 hp (by omega) h5) (by omega)]; rfl)) .nil) rfl)))))
    · trivial
    · rw [(show cdC L i j = 1 by first | exact cd_1 (by assumption) | exact cd_2 hp (by omega) | exact cd_5 hp (by omega) h5)]; rfl
  · try simp only [bs] at h1
    refine W_seq ?_
    have hp : isPar L = true := (by simp_all)
    have hP := of_isPar hp
    have hn := hP.1
    have hln : ∀ a, a < L.length → (L.getD a sd).2.length = L.length := hP.2.1
    have e12 := hx1 hp
    subst e12
    refine W_region ?_
    refine Ops_p (p_move rfl) (lt_dec rfl) ?_
    refine Ops_p (p_fieldAddr rfl rfl rfl rfl rfl rfl) (lt_dec rfl) ?_
    refine Ops_q (q_load rfl rfl m0 rfl (by first | trivial | (first | omega | (dsimp only; omega)) | exact Fin.isLt _ | (dsimp only; omega))) (lt_dec rfl) ?_
    refine Ops_p (p_sub rfl rfl (by exact ⟨(by first | omega | (dsimp only; omega)), (by first | omega | (dsimp only; omega))⟩)) (lt_dec rfl) ?_
    refine Ops_q (q_call en_impl_within rfl (w_impl_within) (View.none _)) (lt_dec rfl) ?_
    refine Ops_p (p_not rfl) (lt_dec rfl) ?_
    refine Ops_p (p_move rfl) (lt_dec rfl) ?_
    refine Ops_guard rfl rfl (lt_dec rfl) (fun hg1 => ?_) (fun hg1 => ?_)
    · try simp only [bs] at hg1
      refine Ops_p (p_move rfl) (lt_dec rfl) ?_
      refine Ops_guard_t rfl rfl (lt_dec rfl) ?_
      refine Ops_p (p_fieldAddr rfl rfl rfl rfl rfl rfl) (lt_dec rfl) ?_
      refine Ops_guard_t rfl rfl (lt_dec rfl) ?_
      refine Ops_q (q_load rfl rfl m0 rfl (by first | trivial | (first | omega | (dsimp only; omega)) | exact Fin.isLt _ | (dsimp only; omega))) (lt_dec rfl) ?_
      refine Ops_guard_t rfl rfl (lt_dec rfl) ?_
      refine Ops_p (p_sub rfl rfl (by exact ⟨(by first | omega | (dsimp only; omega)), (by first | omega | (dsimp only; omega))⟩)) (lt_dec rfl) ?_
      refine Ops_guard_t rfl rfl (lt_dec rfl) ?_
      refine Ops_q (q_call en_impl_within rfl (w_impl_within) (View.none _)) (lt_dec rfl) ?_
      refine Ops_guard_t rfl rfl (lt_dec rfl) ?_
      refine Ops_p (p_not rfl) (lt_dec rfl) ?_
      refine Ops_p (p_pick_f rfl rfl) (lt_dec rfl) ?_
      refine Ops_p (p_assign rfl) (lt_dec rfl) ?_
      refine Ops_nil ?_
      refine W_cond rfl (fun h2 => ?_) (fun h2 => ?_)
      · try simp only [bs] at h2
        refine W_seq ?_
        refine W_region ?_
        refine Ops_p (p_assign rfl) (lt_dec rfl) ?_
        refine Ops_p (p_assign rfl) (lt_dec rfl) ?_
        refine Ops_nil ?_
        refine W_ret ?_
        refine Exists.intro _ (And.intro (.cons (.tmp rfl) (.cons (.tmp rfl) .nil)) (Exists.intro ⟨.slice none 0 0, rfl⟩ (And.intro ?_ (And.intro ?_ (And.intro (.free rfl (own_nil (by rw [cdL_n (show cdC L i j = 2 by first | exact cd_1 (by assumption) | exact cd_2 hp (by omega) | exact cd_5 hp (by omega) h5) (by omega)]; rfl) (by rw [cdL_n (show cdC L i j = 2 by first | exact cd_1 (by assumption) | exact cd_2 hp (by omega) | exact cd_5 hp (by omega) h5) (by omega)]; rfl)) .nil) rfl)))))
        · trivial
        · rw [(show cdC L i j = 2 by first | exact cd_1 (by assumption) | exact cd_2 hp (by omega) | exact cd_5 hp (by omega) h5)]; rfl
      · try simp only [bs] at h2
        refine W_seq ?_
        have hiN : i.toNat < L.length := (by omega)
        have hjN : j.toNat < L.length := (by omega)
        have hta := cT_at hp hiN hjN
        refine W_region ?_
        refine Ops_p (p_move rfl) (lt_dec rfl) ?_
        refine Ops_p (p_move rfl) (lt_dec rfl) ?_
        refine Ops_p (p_fieldAddr rfl rfl rfl rfl rfl rfl) (lt_dec rfl) ?_
        refine Ops_p (p_ixN 10 i.toNat rfl rfl rfl rfl rfl (by omega) (by first | (first | omega | (dsimp only; omega)) | exact Fin.isLt _)) (lt_dec rfl) ?_
        first | refine Ops_p (p_ix1 j.toNat rfl rfl rfl rfl rfl (by omega) (by first | (first | omega | (dsimp only; omega)) | exact Fin.isLt _)) (lt_dec rfl) ?_ | refine Ops_p (p_ix1s j.toNat rfl rfl rfl rfl rfl (by omega) (by first | (first | omega | (dsimp only; omega)) | exact Fin.isLt _)) (lt_dec rfl) ?_
        refine Ops_q (q_load rfl rfl m0 rfl (by first | trivial | (first | omega | (dsimp only; omega)) | exact Fin.isLt _ | (dsimp only; omega))) (lt_dec rfl) ?_
        first | refine Ops_p (p_neq_8 rfl rfl) (lt_dec rfl) ?_ | refine Ops_p (p_neq rfl rfl) (lt_dec rfl) ?_
        refine Ops_p (p_assign rfl) (lt_dec rfl) ?_
        refine Ops_nil ?_
        refine W_cond rfl (fun h3 => ?_) (fun h3 => ?_)
        · try simp only [bs] at h3
          refine W_seq ?_
          have h5 : 0 ≤ at2 L i.toNat j.toNat := Classical.byContradiction fun h9 => by have := hta.2 h9; simp_all
          refine W_region ?_
          refine Ops_p (p_assign rfl) (lt_dec rfl) ?_
          refine Ops_p (p_assign rfl) (lt_dec rfl) ?_
          refine Ops_nil ?_
          refine W_ret ?_
          refine Exists.intro _ (And.intro (.cons (.tmp rfl) (.cons (.tmp rfl) .nil)) (Exists.intro ⟨.slice none 0 0, rfl⟩ (And.intro ?_ (And.intro ?_ (And.intro (.free rfl (own_nil (by rw [cdL_n (show cdC L i j = 5 by first | exact cd_1 (by assumption) | exact cd_2 hp (by omega) | exact cd_5 hp (by omega) h5) (by omega)]; rfl) (by rw [cdL_n (show cdC L i j = 5 by first | exact cd_1 (by assumption) | exact cd_2 hp (by omega) | exact cd_5 hp (by omega) h5) (by omega)]; rfl)) .nil) rfl)))))
          · trivial
          · rw [(show cdC L i j = 5 by first | exact cd_1 (by assumption) | exact cd_2 hp (by omega) | exact cd_5 hp (by omega) h5)]; rfl
        · try simp only [bs] at h3
          refine W_skip ?_
          refine W_seq ?_
          have hta2 : cT L (10 * i.toNat + j.toNat) = 255 := (by simp_all)
          have h5 : ¬ 0 ≤ at2 L i.toNat j.toNat := hta.1 hta2
          have hiC : ((i.toNat : Nat) : Int) = i := (by omega)
          have hjC : ((j.toNat : Nat) : Int) = j := (by omega)
          refine W_region ?_
          refine Ops_p (p_move rfl) (lt_dec rfl) ?_
          refine Ops_p (p_move rfl) (lt_dec rfl) ?_
          refine Ops_q (q_call en_pimpl_cells_candidates rfl ((by have h := w_pimpl_cells_candidates (t := cT L) (r := cR L) (c := cC L) (i := i.toNat) (j := j.toNat) (n := L.length) (q := bsP (candB L i.toNat j.toNat) L.length) (bv := b8_1) hn.2 (by omega) (by omega) cR_lt cC_lt (cand_bits hn.2 hiN hjN); rw [hiC, hjC] at h; exact h)) (View.var m0)) (lt_dec rfl) ?_
          refine Ops_x rfl (x_callT en_impl_set_list rfl (w_impl_set_list (bsP_10 hn.2)) HpDels.nil (Vw.none _) (fun _ => (HpDels.cons HpDel.head HpDels.nil)) (lt_dec rfl) fun x44_1 _ => ?_)
          refine Ops_p (p_assign rfl) (lt_dec rfl) ?_
          refine Ops_p (p_assign rfl) (lt_dec rfl) ?_
          refine Ops_nil ?_
          refine W_ret ?_
          refine Exists.intro _ (And.intro (.cons (.tmp rfl) (.cons (.tmp rfl) .nil)) (Exists.intro ⟨x44_1.1, x44_1.2⟩ (And.intro ?_ (And.intro ?_ (And.intro (.cons HpDel.head rfl (own_eq (by rw [cdL_0 (show cdC L i j = 0 from cd_0 hp (by omega) h5)]; exact congrArg _ (by rw [setL_filt, Nat.min_eq_right (by omega)]))) .nil) rfl)))))
          · trivial
          · rw [(show cdC L i j = 0 from cd_0 hp (by omega) h5)]; rfl
    · try simp only [bs] at hg1
      refine Ops_guard_f rfl rfl rfl (lt_dec rfl) ?_
      refine Ops_guard_f rfl rfl rfl (lt_dec rfl) ?_
      refine Ops_guard_f rfl rfl rfl (lt_dec rfl) ?_
      refine Ops_guard_f rfl rfl rfl (lt_dec rfl) ?_
      refine Ops_guard_f rfl rfl rfl (lt_dec rfl) ?_
      refine Ops_p (p_pick_t rfl rfl) (lt_dec rfl) ?_
      refine Ops_p (p_assign rfl) (lt_dec rfl) ?_
      refine Ops_nil ?_
      refine W_true rfl ?_
      refine W_seq ?_
      refine W_region ?_
      refine Ops_p (p_assign rfl) (lt_dec rfl) ?_
      refine Ops_p (p_assign rfl) (lt_dec rfl) ?_
      refine Ops_nil ?_
      refine W_ret ?_
      refine Exists.intro _ (And.intro (.cons (.tmp rfl) (.cons (.tmp rfl) .nil)) (Exists.intro ⟨.slice none 0 0, rfl⟩ (And.intro ?_ (And.intro ?_ (And.intro (.free rfl (own_nil (by rw [cdL_n (show cdC L i j = 2 by first | exact cd_1 (by assumption) | exact cd_2 hp (by omega) | exact cd_5 hp (by omega) h5) (by omega)]; rfl) (by rw [cdL_n (show cdC L i j = 2 by first | exact cd_1 (by assumption) | exact cd_2 hp (by omega) | exact cd_5 hp (by omega) h5) (by omega)]; rfl)) .nil) rfl)))))
      · trivial
      · rw [(show cdC L i j = 2 by first | exact cd_1 (by assumption) | exact cd_2 hp (by omega) | exact cd_5 hp (by omega) h5)]; rfl
end Go.Proofs.Ytebcapplclgaead
