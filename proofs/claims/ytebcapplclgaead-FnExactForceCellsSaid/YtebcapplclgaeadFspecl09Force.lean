/- What the Go function spec.l09Force does, shown of its loaded text; its conditions stand in the statement. -/
import Derived.Test.YtebcapplclgaeadTy
import Derived.Test.YtebcapplclgaeadFspecl09Candidates
import Derived.Test.YtebcapplclgaeadGx12
import Derived.Test.YtebcapplclgaeadGx20
import Derived.Test.YtebcapplclgaeadM24
namespace Go.Proofs.Ytebcapplclgaead
open Go Gx
set_option linter.unusedVariables false
theorem en_spec_l09Force : Enters Try.prog 100 := enters_of Try.func100 (by kernel_rfl) (by kernel_rfl)
set_option maxRecDepth 100000 in
theorem w_spec_l09Force {a : Value} {ha : a.oneCell' = true} {M : SL} (hP : ParL M) : CT (X := Unit) Try.prog 100 (vals [.raw a ha]) [oss a 38 2 M] [] (fun x => True) (fun x => .bool (stepF M).isSome) (fun x => [oss a 38 2 (nxtF M)]) := by
  refine CT_intro (rs := [.tmp 2]) tt tok Try.func100 rfl rfl rfl (by first | rfl | assumption) fun w => ?_
  show W _ _ _ ⟨tmOf 0 [.raw a ha], [oss a 38 2 M]⟩
  have hn := hP.1
  have hln : ∀ i, i < M.length → (M.getD i sd).2.length = M.length := hP.2.1
  refine W_seq ?_
  refine W_region ?_
  refine Ops_p (p_assign rfl) (lt_dec rfl) ?_
  refine Ops_nil ?_
  refine W_seq ?_
  refine W_seq ?_
  refine W_region ?_
  refine Ops_p (p_assign rfl) (lt_dec rfl) ?_
  refine Ops_nil ?_
  refine W_block ?_
  refine W_loop (α := Nat) (fun i => ⟨[(0, .raw a ha), (3, .int .i64 (i : Int))], [oss a 38 2 M]⟩) (fun i => i ≤ M.length ∧ ∀ q, q < i * M.length → fq M q = false) (fun i => M.length - i) 0 ?_ ?_ ?_
  · exact ⟨by omega, fun q h => by omega⟩
  · exact Wk.intro (.cons rfl (by first | rfl | exact veq_int (by first | omega | (dsimp only; omega))) (.cons rfl (by first | rfl | exact veq_int (by first | omega | (dsimp only; omega))) .nil)) (.keep rfl rfl (fun _ h => h) .nil)
  · rintro i ⟨hi, hI⟩
    refine W_seq ?_
    refine W_seq ?_
    refine W_region ?_
    refine Ops_p (p_move rfl) (lt_dec rfl) ?_
    refine Ops_p (p_move rfl) (lt_dec rfl) ?_
    refine Ops_q (q_lenO rfl rfl rfl (Rds.ossO m0)) (lt_dec rfl) ?_
    refine Ops_p (p_lss rfl rfl) (lt_dec rfl) ?_
    refine Ops_nil ?_
    refine W_cond rfl (fun h1 => ?_) (fun h1 => ?_)
    · try simp only [bs] at h1
      refine W_skip ?_
      refine W_seq ?_
      refine W_block ?_
      refine W_seq ?_
      refine W_region ?_
      refine Ops_p (p_assign rfl) (lt_dec rfl) ?_
      refine Ops_nil ?_
      refine W_block ?_
      refine W_loop (α := Nat) (fun j => ⟨[(0, .raw a ha), (3, .int .i64 (i : Int)), (4, .int .i64 (j : Int)), (7, .int .i64 (i : Int)), (8, .raw a ha), (9, .int .i64 ((M.length : Nat) : Int))], [oss a 38 2 M]⟩) (fun j => j ≤ M.length ∧ ∀ q, q < i * M.length + j → fq M q = false) (fun j => M.length - j) 0 ?_ ?_ ?_
      · exact ⟨by omega, fun q h => hI q (by omega)⟩
      · exact Wk.intro (.cons rfl (by first | rfl | exact veq_int (by first | omega | (dsimp only; omega))) (.cons rfl (by first | rfl | exact veq_int (by first | omega | (dsimp only; omega))) (.cons rfl (by first | rfl | exact veq_int (by first | omega | (dsimp only; omega))) (.cons rfl (by first | rfl | exact veq_int (by first | omega | (dsimp only; omega))) (.cons rfl (by first | rfl | exact veq_int (by first | omega | (dsimp only; omega))) (.cons rfl (by first | rfl | exact veq_int (by first | omega | (dsimp only; omega))) .nil)))))) (.keep rfl rfl (fun _ h => h) .nil)
      · rintro j ⟨hj, hJ⟩
        refine W_seq ?_
        refine W_seq ?_
        refine W_region ?_
        refine Ops_p (p_move rfl) (lt_dec rfl) ?_
        refine Ops_p (p_move rfl) (lt_dec rfl) ?_
        refine Ops_q (q_lenO rfl rfl rfl (Rds.ossO m0)) (lt_dec rfl) ?_
        refine Ops_p (p_lss rfl rfl) (lt_dec rfl) ?_
        refine Ops_nil ?_
        refine W_cond rfl (fun h2 => ?_) (fun h2 => ?_)
        · try simp only [bs] at h2
          refine W_skip ?_
          refine W_seq ?_
          refine W_block ?_
          refine W_seq ?_
          refine W_seq ?_
          have hli := hln i (by omega)
          refine W_region ?_
          refine Ops_p (p_move rfl) (lt_dec rfl) ?_
          refine Ops_p (p_move rfl) (lt_dec rfl) ?_
          refine Ops_q (q_ixR (i) rfl rfl rfl (Rds.ossO m0) rfl rfl (by rw [valsR_len]; first | omega | (dsimp only; omega)) rfl) (lt_dec rfl) ?_
          refine Ops_q (q_loadI (j := i) rfl rfl (Rds.ossO m0) rfl (by first | omega | assumption) rfl rfl) (lt_dec rfl) ?_
          refine Ops_p (p_move rfl) (lt_dec rfl) ?_
          refine Ops_q (q_ixR (j) rfl rfl rfl (Rds.ossI (j := i) m0 (by first | omega | assumption)) rfl rfl (by show _ < List.length _; first | omega | (dsimp only; omega)) rfl) (lt_dec rfl) ?_
          refine Ops_q (q_loadR rfl rfl (Rds.ossI (j := i) m0 (by first | omega | assumption)) rfl rfl (by first | omega | (dsimp only; omega)) rfl rfl rfl) (lt_dec rfl) ?_
          refine Ops_p (p_geq rfl rfl) (lt_dec rfl) ?_
          refine Ops_nil ?_
          refine W_cond rfl (fun h3 => ?_) (fun h3 => ?_)
          · try simp only [bs] at h3
            refine W_exit ?_
            refine W_region ?_
            refine Ops_p (p_move rfl) (lt_dec rfl) ?_
            refine Ops_p (p_add rfl rfl (by exact ⟨(by first | omega | (dsimp only; omega)), (by first | omega | (dsimp only; omega))⟩)) (lt_dec rfl) ?_
            refine Ops_p (p_assign rfl) (lt_dec rfl) ?_
            refine Ops_nil ?_
            refine Exists.intro (j + 1) (And.intro ?_ (And.intro ?_ ?_))
            · first | exact ⟨by omega, fun q h => if e : q = i * M.length + j then by subst e; exact fq_full (by omega) (by unfold at2; omega) else hJ q (by omega)⟩ | exact ⟨by omega, fun q h => if e : q = i * M.length + j then by subst e; exact fq_len (by omega) (by omega) else hJ q (by omega)⟩
            · show _ < _; omega
            · exact Wk.intro (.cons rfl (by first | rfl | exact veq_int (by first | omega | (dsimp only; omega))) (.cons rfl (by first | rfl | exact veq_int (by first | omega | (dsimp only; omega))) (.cons rfl (by first | rfl | exact veq_int (by first | omega | (dsimp only; omega))) (.cons rfl (by first | rfl | exact veq_int (by first | omega | (dsimp only; omega))) (.cons rfl (by first | rfl | exact veq_int (by first | omega | (dsimp only; omega))) (.cons rfl (by first | rfl | exact veq_int (by first | omega | (dsimp only; omega))) .nil)))))) (.keep rfl rfl (fun _ h => h) .nil)
          · try simp only [bs] at h3
            refine W_skip ?_
            refine W_seq ?_
            have hem : at2 M i j < 0 := (by unfold at2; omega)
            refine W_region ?_
            refine Ops_p (p_move rfl) (lt_dec rfl) ?_
            refine Ops_p (p_move rfl) (lt_dec rfl) ?_
            refine Ops_p (p_move rfl) (lt_dec rfl) ?_
            refine Ops_x rfl (x_callT en_spec_l09Candidates rfl (w_spec_l09Candidates hn.2 (by omega) (by omega) hln) HpDels.nil (Vw.rssO m0) (fun _ => (HpDels.cons HpDel.head HpDels.nil)) (lt_dec rfl) fun x30_1 _ => ?_)
            refine Ops_p (p_assign rfl) (lt_dec rfl) ?_
            refine Ops_nil ?_
            refine W_seq ?_
            refine W_region ?_
            refine Ops_p (p_move rfl) (lt_dec rfl) ?_
            refine Ops_q ((q_lenR rfl rfl rfl (Rds.own m0)).eq (d' := .int .i64 (((filt (candB M i j) (List.length M)).length : Nat) : Int)) rfl) (lt_dec rfl) ?_
            refine Ops_p (p_eql rfl rfl) (lt_dec rfl) ?_
            refine Ops_nil ?_
            refine W_cond rfl (fun h4 => ?_) (fun h4 => ?_)
            · try simp only [bs] at h4
              refine W_seq ?_
              have hfq := fq_yes (i := i) (by omega) hem (by omega)
              have hst := step_ij (by omega) (by omega) hJ hfq
              have hnx := nxt_ij (by omega) hst
              refine W_region ?_
              refine Ops_p (p_move rfl) (lt_dec rfl) ?_
              refine Ops_p (p_move rfl) (lt_dec rfl) ?_
              refine Ops_q (q_ixR (i) rfl rfl rfl (Rds.ossO m1) rfl rfl (by rw [valsR_len]; first | omega | (dsimp only; omega)) rfl) (lt_dec rfl) ?_
              refine Ops_q (q_loadI (j := i) rfl rfl (Rds.ossO m1) rfl (by first | omega | assumption) rfl rfl) (lt_dec rfl) ?_
              refine Ops_p (p_assign rfl) (lt_dec rfl) ?_
              refine Ops_nil ?_
              refine W_seq ?_
              refine W_region ?_
              refine Ops_p (p_move rfl) (lt_dec rfl) ?_
              refine Ops_p (p_move rfl) (lt_dec rfl) ?_
              refine Ops_p (p_move rfl) (lt_dec rfl) ?_
              refine Ops_q (q_ixR 0 rfl rfl rfl (Rds.own m0) rfl rfl (by show 0 < List.length _; omega) rfl) (lt_dec rfl) ?_
              refine Ops_q (q_loadR rfl rfl (Rds.own m0) rfl rfl (by first | (show _ < List.length _; omega) | (show _ < List.length _; first | omega | (dsimp only; omega))) rfl rfl rfl) (lt_dec rfl) ?_
              refine Ops_q (q_ixR (j) rfl rfl rfl (Rds.ossI (j := i) m1 (by first | omega | assumption)) rfl rfl (by show _ < List.length _; first | omega | (dsimp only; omega)) rfl) (lt_dec rfl) ?_
              refine Ops_x rfl (x_storeSS (l := M) (i := i) (j := j) rfl rfl rfl rfl ((HpRep.head).tail) (by first | (first | omega | (dsimp only; omega)) | exact Fin.isLt _) rfl (by first | (first | omega | (dsimp only; omega)) | exact Fin.isLt _) ?_)
              refine Ops_nil ?_
              refine W_seq ?_
              refine W_region ?_
              refine Ops_p (p_assign rfl) (lt_dec rfl) ?_
              refine Ops_nil ?_
              refine W_ret ?_
              refine Exists.intro _ (And.intro (.cons (.tmp rfl) .nil) (Exists.intro () (And.intro ?_ (And.intro ?_ (And.intro (.cons (HpDel.head).tail (by rw [hnx]; rfl) (oss_eq (by rw [hnx]; rfl)) .nil) rfl)))))
              · trivial
              · exact veq_bool (by rw [hst]; rfl)
            · try simp only [bs] at h4
              refine W_skip ?_
              refine W_region ?_
              refine Ops_p (p_move rfl) (lt_dec rfl) ?_
              refine Ops_p (p_add rfl rfl (by exact ⟨(by first | omega | (dsimp only; omega)), (by first | omega | (dsimp only; omega))⟩)) (lt_dec rfl) ?_
              refine Ops_p (p_assign rfl) (lt_dec rfl) ?_
              refine Ops_nil ?_
              refine Exists.intro (j + 1) (And.intro ?_ (And.intro ?_ ?_))
              · first | exact ⟨by omega, fun q h => if e : q = i * M.length + j then by subst e; exact fq_full (by omega) (by unfold at2; omega) else hJ q (by omega)⟩ | exact ⟨by omega, fun q h => if e : q = i * M.length + j then by subst e; exact fq_len (by omega) (by omega) else hJ q (by omega)⟩
              · show _ < _; omega
              · exact Wk.intro (.cons rfl (by first | rfl | exact veq_int (by first | omega | (dsimp only; omega))) (.cons rfl (by first | rfl | exact veq_int (by first | omega | (dsimp only; omega))) (.cons rfl (by first | rfl | exact veq_int (by first | omega | (dsimp only; omega))) (.cons rfl (by first | rfl | exact veq_int (by first | omega | (dsimp only; omega))) (.cons rfl (by first | rfl | exact veq_int (by first | omega | (dsimp only; omega))) (.cons rfl (by first | rfl | exact veq_int (by first | omega | (dsimp only; omega))) .nil)))))) (.drop (.keep rfl rfl (fun _ h => h) .nil))
        · try simp only [bs] at h2
          obtain rfl : j = M.length := (by omega)
          refine W_exit ?_
          refine W_region ?_
          refine Ops_p (p_move rfl) (lt_dec rfl) ?_
          refine Ops_p (p_add rfl rfl (by exact ⟨(by first | omega | (dsimp only; omega)), (by first | omega | (dsimp only; omega))⟩)) (lt_dec rfl) ?_
          refine Ops_p (p_assign rfl) (lt_dec rfl) ?_
          refine Ops_nil ?_
          refine Exists.intro (i + 1) (And.intro ?_ (And.intro ?_ ?_))
          · exact ⟨by omega, fun q h => hJ q (by rw [row_end]; exact h)⟩
          · show _ < _; omega
          · exact Wk.intro (.cons rfl (by first | rfl | exact veq_int (by first | omega | (dsimp only; omega))) (.cons rfl (by first | rfl | exact veq_int (by first | omega | (dsimp only; omega))) .nil)) (.keep rfl rfl (fun _ h => h) .nil)
    · try simp only [bs] at h1
      obtain rfl : i = M.length := (by omega)
      have hno := step_no hI
      refine W_exit ?_
      refine W_seq ?_
      refine W_region ?_
      refine Ops_p (p_assign rfl) (lt_dec rfl) ?_
      refine Ops_nil ?_
      refine W_ret ?_
      refine Exists.intro _ (And.intro (.cons (.tmp rfl) .nil) (Exists.intro () (And.intro ?_ (And.intro ?_ (And.intro (.cons HpDel.head (by rw [nxt_no hno]) (oss_eq (nxt_no hno).symm) .nil) rfl)))))
      · trivial
      · exact veq_bool (by rw [hno]; rfl)
end Go.Proofs.Ytebcapplclgaead
