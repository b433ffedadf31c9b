/- What the Go function spec.CandidatesAt does, shown of its loaded text; its conditions stand in the statement. -/
import Derived.Test.YtebcapplclgaeadTy
import Derived.Test.YtebcapplclgaeadFspecl01In
import Derived.Test.YtebcapplclgaeadFspecl09Candidates
import Derived.Test.YtebcapplclgaeadFspecl09Is
import Derived.Test.YtebcapplclgaeadGx12
import Derived.Test.YtebcapplclgaeadGx13
import Derived.Test.YtebcapplclgaeadGx20
import Derived.Test.YtebcapplclgaeadM22
import Derived.Test.YtebcapplclgaeadM23
namespace Go.Proofs.Ytebcapplclgaead
open Go Gx
set_option linter.unusedVariables false
theorem en_spec_CandidatesAt : Enters Try.prog 23 := enters_of Try.func23 (by kernel_rfl) (by kernel_rfl)
set_option maxRecDepth 100000 in
theorem w_spec_CandidatesAt {a : Value} {ha : a.oneCell' = true} {L : SL} {i j : Int} (hi64 : inR .i64 i ∧ inR .i64 j) : CT (X := V1) Try.prog 23 (vals [.raw a ha, .int .i64 i, .int .i64 j]) [] [rss a L] (fun x => True) (fun x => .tup [.raw x.1 x.2, .int .i64 (cdC L i j)]) (fun x => [own x.1 2 (.ints .i64 (cdL L i j))]) := by
  refine CT_intro (rs := [.tmp 6, .tmp 7]) tt tok Try.func23 rfl rfl rfl (by first | rfl | assumption) fun w => ?_
  show W _ _ _ ⟨tmOf 0 [.raw a ha, .int .i64 i, .int .i64 j], [rss a L]⟩
  have hR := hi64
  refine W_seq ?_
  refine W_region ?_
  refine Ops_p (p_assign rfl) (lt_dec rfl) ?_
  refine Ops_p (p_assign rfl) (lt_dec rfl) ?_
  refine Ops_nil ?_
  refine W_seq ?_
  refine W_region ?_
  refine Ops_p (p_move rfl) (lt_dec rfl) ?_
  refine Ops_q (q_lenO rfl rfl rfl (Rds.rssO m0)) (lt_dec rfl) ?_
  refine Ops_p (p_assign rfl) (lt_dec rfl) ?_
  refine Ops_nil ?_
  refine W_seq ?_
  refine W_block ?_
  refine W_seq ?_
  refine W_region ?_
  refine Ops_p (p_move rfl) (lt_dec rfl) ?_
  refine Ops_q (q_call en_spec_l09Is rfl (w_spec_l09Is) (Vw.rss m0).v) (lt_dec rfl) ?_
  refine Ops_p (p_not rfl) (lt_dec rfl) ?_
  refine Ops_p (p_assign rfl) (lt_dec rfl) ?_
  refine Ops_nil ?_
  refine W_cond rfl (fun h1 => ?_) (fun h1 => ?_)
  · try simp only [bs] at h1
    refine W_seq ?_
    refine W_region ?_
    refine Ops_p (p_assign rfl) (lt_dec rfl) ?_
    refine Ops_p (p_assign rfl) (lt_dec rfl) ?_
    refine Ops_nil ?_
    refine W_ret ?_
    refine Exists.intro _ (And.intro (.cons (.tmp rfl) (.cons (.tmp rfl) .nil)) (Exists.intro ⟨.slice none 0 0, rfl⟩ (And.intro ?_ (And.intro ?_ (And.intro (.free rfl (own_nil (by rw [cdL_n (show cdC L i j = 1 by first | exact cd_1 (by assumption) | exact cd_2 hp (by omega) | exact cd_5 hp (by omega) h5) (by omega)]; rfl) (by rw [cdL_n (show cdC L i j = 1 by first | exact cd_1 (by assumption) | exact cd_2 hp (by omega) | exact cd_5 hp (by omega) h5) (by omega)]; rfl)) .nil) rfl)))))
    · trivial
    · rw [(show cdC L i j = 1 by first | exact cd_1 (by assumption) | exact cd_2 hp (by omega) | exact cd_5 hp (by omega) h5)]; rfl
  · try simp only [bs] at h1
    refine W_seq ?_
    have hp : isPar L = true := (by simp_all)
    have hP := of_isPar hp
    have hn := hP.1
    have hln : ∀ a, a < L.length → (L.getD a sd).2.length = L.length := hP.2.1
    refine W_region ?_
    refine Ops_p (p_move rfl) (lt_dec rfl) ?_
    refine Ops_p (p_move rfl) (lt_dec rfl) ?_
    refine Ops_p (p_sub rfl rfl (by exact ⟨(by first | omega | (dsimp only; omega)), (by first | omega | (dsimp only; omega))⟩)) (lt_dec rfl) ?_
    refine Ops_q (q_call en_spec_l01In rfl (w_spec_l01In) (View.none _)) (lt_dec rfl) ?_
    refine Ops_p (p_not rfl) (lt_dec rfl) ?_
    refine Ops_p (p_move rfl) (lt_dec rfl) ?_
    refine Ops_guard rfl rfl (lt_dec rfl) (fun hg1 => ?_) (fun hg1 => ?_)
    · try simp only [bs] at hg1
      refine Ops_p (p_move rfl) (lt_dec rfl) ?_
      refine Ops_guard_t rfl rfl (lt_dec rfl) ?_
      refine Ops_p (p_move rfl) (lt_dec rfl) ?_
      refine Ops_guard_t rfl rfl (lt_dec rfl) ?_
      refine Ops_p (p_sub rfl rfl (by exact ⟨(by first | omega | (dsimp only; omega)), (by first | omega | (dsimp only; omega))⟩)) (lt_dec rfl) ?_
      refine Ops_guard_t rfl rfl (lt_dec rfl) ?_
      refine Ops_q (q_call en_spec_l01In rfl (w_spec_l01In) (View.none _)) (lt_dec rfl) ?_
      refine Ops_guard_t rfl rfl (lt_dec rfl) ?_
      refine Ops_p (p_not rfl) (lt_dec rfl) ?_
      refine Ops_p (p_pick_f rfl rfl) (lt_dec rfl) ?_
      refine Ops_p (p_assign rfl) (lt_dec rfl) ?_
      refine Ops_nil ?_
      refine W_cond rfl (fun h2 => ?_) (fun h2 => ?_)
      · try simp only [bs] at h2
        refine W_seq ?_
        refine W_region ?_
        refine Ops_p (p_assign rfl) (lt_dec rfl) ?_
        refine Ops_p (p_assign rfl) (lt_dec rfl) ?_
        refine Ops_nil ?_
        refine W_ret ?_
        refine Exists.intro _ (And.intro (.cons (.tmp rfl) (.cons (.tmp rfl) .nil)) (Exists.intro ⟨.slice none 0 0, rfl⟩ (And.intro ?_ (And.intro ?_ (And.intro (.free rfl (own_nil (by rw [cdL_n (show cdC L i j = 2 by first | exact cd_1 (by assumption) | exact cd_2 hp (by omega) | exact cd_5 hp (by omega) h5) (by omega)]; rfl) (by rw [cdL_n (show cdC L i j = 2 by first | exact cd_1 (by assumption) | exact cd_2 hp (by omega) | exact cd_5 hp (by omega) h5) (by omega)]; rfl)) .nil) rfl)))))
        · trivial
        · rw [(show cdC L i j = 2 by first | exact cd_1 (by assumption) | exact cd_2 hp (by omega) | exact cd_5 hp (by omega) h5)]; rfl
      · try simp only [bs] at h2
        refine W_seq ?_
        have hiN : i.toNat < L.length := (by omega)
        have hjN : j.toNat < L.length := (by omega)
        have hlI := hln i.toNat hiN
        refine W_region ?_
        refine Ops_p (p_move rfl) (lt_dec rfl) ?_
        refine Ops_p (p_move rfl) (lt_dec rfl) ?_
        refine Ops_q (q_ixR (i.toNat) rfl rfl rfl (Rds.rssO m0) rfl (by omega) (by rw [valsR_len]; first | omega | (dsimp only; omega)) rfl) (lt_dec rfl) ?_
        refine Ops_q (q_loadI (j := i.toNat) rfl rfl (Rds.rssO m0) rfl (by first | omega | assumption) rfl rfl) (lt_dec rfl) ?_
        refine Ops_p (p_move rfl) (lt_dec rfl) ?_
        refine Ops_q (q_ixR (j.toNat) rfl rfl rfl (Rds.rssI (j := i.toNat) m0 (by first | omega | assumption)) rfl (by omega) (by show _ < List.length _; first | omega | (dsimp only; omega)) rfl) (lt_dec rfl) ?_
        refine Ops_q (q_loadR rfl rfl (Rds.rssI (j := i.toNat) m0 (by first | omega | assumption)) rfl rfl (by first | omega | (dsimp only; omega)) rfl rfl rfl) (lt_dec rfl) ?_
        refine Ops_p (p_geq rfl rfl) (lt_dec rfl) ?_
        refine Ops_p (p_assign rfl) (lt_dec rfl) ?_
        refine Ops_nil ?_
        refine W_cond rfl (fun h3 => ?_) (fun h3 => ?_)
        · try simp only [bs] at h3
          refine W_seq ?_
          have h5 : 0 ≤ at2 L i.toNat j.toNat := (by unfold at2; omega)
          refine W_region ?_
          refine Ops_p (p_assign rfl) (lt_dec rfl) ?_
          refine Ops_p (p_assign rfl) (lt_dec rfl) ?_
          refine Ops_nil ?_
          refine W_ret ?_
          refine Exists.intro _ (And.intro (.cons (.tmp rfl) (.cons (.tmp rfl) .nil)) (Exists.intro ⟨.slice none 0 0, rfl⟩ (And.intro ?_ (And.intro ?_ (And.intro (.free rfl (own_nil (by rw [cdL_n (show cdC L i j = 5 by first | exact cd_1 (by assumption) | exact cd_2 hp (by omega) | exact cd_5 hp (by omega) h5) (by omega)]; rfl) (by rw [cdL_n (show cdC L i j = 5 by first | exact cd_1 (by assumption) | exact cd_2 hp (by omega) | exact cd_5 hp (by omega) h5) (by omega)]; rfl)) .nil) rfl)))))
          · trivial
          · rw [(show cdC L i j = 5 by first | exact cd_1 (by assumption) | exact cd_2 hp (by omega) | exact cd_5 hp (by omega) h5)]; rfl
        · try simp only [bs] at h3
          refine W_skip ?_
          refine W_seq ?_
          have h5 : ¬ 0 ≤ at2 L i.toNat j.toNat := (by unfold at2; omega)
          have hiC : ((i.toNat : Nat) : Int) = i := (by omega)
          have hjC : ((j.toNat : Nat) : Int) = j := (by omega)
          refine W_region ?_
          refine Ops_p (p_move rfl) (lt_dec rfl) ?_
          refine Ops_p (p_move rfl) (lt_dec rfl) ?_
          refine Ops_p (p_move rfl) (lt_dec rfl) ?_
          refine Ops_x rfl (x_callT en_spec_l09Candidates rfl ((by have h := w_spec_l09Candidates (a := a) (ha := ha) (i := i.toNat) (j := j.toNat) hn.2 hiN hjN hln; rw [hiC, hjC] at h; exact h)) HpDels.nil (Vw.rss m0) (fun _ => (HpDels.cons HpDel.head HpDels.nil)) (lt_dec rfl) fun x40_1 _ => ?_)
          refine Ops_p (p_assign rfl) (lt_dec rfl) ?_
          refine Ops_p (p_assign rfl) (lt_dec rfl) ?_
          refine Ops_nil ?_
          refine W_ret ?_
          refine Exists.intro _ (And.intro (.cons (.tmp rfl) (.cons (.tmp rfl) .nil)) (Exists.intro ⟨x40_1.1, x40_1.2⟩ (And.intro ?_ (And.intro ?_ (And.intro (.cons HpDel.head rfl (own_eq (by rw [cdL_0 (show cdC L i j = 0 from cd_0 hp (by omega) h5)])) .nil) rfl)))))
          · trivial
          · rw [(show cdC L i j = 0 from cd_0 hp (by omega) h5)]; rfl
    · try simp only [bs] at hg1
      refine Ops_guard_f rfl rfl rfl (lt_dec rfl) ?_
      refine Ops_guard_f rfl rfl rfl (lt_dec rfl) ?_
      refine Ops_guard_f rfl rfl rfl (lt_dec rfl) ?_
      refine Ops_guard_f rfl rfl rfl (lt_dec rfl) ?_
      refine Ops_p (p_pick_t rfl rfl) (lt_dec rfl) ?_
      refine Ops_p (p_assign rfl) (lt_dec rfl) ?_
      refine Ops_nil ?_
      refine W_true rfl ?_
      refine W_seq ?_
      refine W_region ?_
      refine Ops_p (p_assign rfl) (lt_dec rfl) ?_
      refine Ops_p (p_assign rfl) (lt_dec rfl) ?_
      refine Ops_nil ?_
      refine W_ret ?_
      refine Exists.intro _ (And.intro (.cons (.tmp rfl) (.cons (.tmp rfl) .nil)) (Exists.intro ⟨.slice none 0 0, rfl⟩ (And.intro ?_ (And.intro ?_ (And.intro (.free rfl (own_nil (by rw [cdL_n (show cdC L i j = 2 by first | exact cd_1 (by assumption) | exact cd_2 hp (by omega) | exact cd_5 hp (by omega) h5) (by omega)]; rfl) (by rw [cdL_n (show cdC L i j = 2 by first | exact cd_1 (by assumption) | exact cd_2 hp (by omega) | exact cd_5 hp (by omega) h5) (by omega)]; rfl)) .nil) rfl)))))
      · trivial
      · rw [(show cdC L i j = 2 by first | exact cd_1 (by assumption) | exact cd_2 hp (by omega) | exact cd_5 hp (by omega) h5)]; rfl
end Go.Proofs.Ytebcapplclgaead
