/- What the Go function spec.l03Read does, shown of its loaded text; its conditions stand in the statement. -/
import Derived.Test.YtdcpggdbjllmpaaTy
import Derived.Test.YtdcpggdbjllmpaaFspecl03Both
import Derived.Test.YtdcpggdbjllmpaaFspecl03Operand
import Derived.Test.YtdcpggdbjllmpaaFspecl03Shown
import Derived.Test.YtdcpggdbjllmpaaFspecl03Side
import Derived.Test.YtdcpggdbjllmpaaGx12
import Derived.Test.YtdcpggdbjllmpaaGx14
import Derived.Test.YtdcpggdbjllmpaaGx24
import Derived.Test.YtdcpggdbjllmpaaGx26
import Derived.Test.YtdcpggdbjllmpaaGx27
import Derived.Test.YtdcpggdbjllmpaaGx34
import Derived.Test.YtdcpggdbjllmpaaGx35
import Derived.Test.YtdcpggdbjllmpaaM41
namespace Go.Proofs.Ytdcpggdbjllmpaa
open Go Gx
set_option linter.unusedVariables false
theorem en_spec_l03Read : Enters Try.prog 49 := enters_of Try.func49 (by kernel_rfl) (by kernel_rfl)
set_option maxRecDepth 100000 in
set_option maxHeartbeats 4000000 in
theorem w_spec_l03Read {s : List (Fin 256)} (hs : s.length ≤ 1048576) : CT (X := (V1 × V1) × (List (Fin 256) × List (Fin 256))) Try.prog 49 (vals [.raw (.string (strB s)) rfl]) [] [] (fun x => piB s = true → x.2 = piR s) (fun x => .tup [.agg [.raw x.1.1.1 x.1.1.2, .raw x.1.2.1 x.1.2.2], .bool (piB s)]) (fun x => [own x.1.1.1 5 (.u8s x.2.1), own x.1.2.1 5 (.u8s x.2.2)]) := by
  refine CT_intro (rs := [.cell 2 32, .tmp 3]) tt tok Try.func49 rfl rfl rfl (by first | rfl | assumption) fun w => ?_
  show W _ _ _ ⟨tmOf 0 [.raw (.string (strB s)) rfl], []⟩
  refine W_seq ?_
  refine W_region ?_
  refine Ops_x rfl (x_alloc rfl (lt_dec rfl) fun b2_1 => ?_)
  refine Ops_p (p_assign rfl) (lt_dec rfl) ?_
  refine Ops_nil ?_
  refine W_seq ?_
  refine W_seq ?_
  refine W_region ?_
  refine Ops_p (p_move rfl) (lt_dec rfl) ?_
  refine Ops_p (p_len_B rfl rfl rfl) (lt_dec rfl) ?_
  refine Ops_p (p_gtr rfl rfl) (lt_dec rfl) ?_
  refine Ops_nil ?_
  refine W_cond rfl (fun h1 => ?_) (fun h1 => ?_)
  · try simp only [bs] at h1
    have hpb := pi_len (s := s) (by omega)
    refine W_seq ?_
    refine W_region ?_
    refine Ops_p (p_build rfl rfl rfl rfl (by first | exact True.intro | trivial | (first | omega | (dsimp only; omega)) | exact Fin.isLt _ | (dsimp only; omega))) (lt_dec rfl) ?_
    refine Ops_x rfl (x_store rfl rfl rfl rfl rfl HpRep.head rfl (by first | trivial | (first | (first | omega | (dsimp only; omega)) | exact Fin.isLt _)) ?_)
    refine Ops_p (p_assign rfl) (lt_dec rfl) ?_
    refine Ops_nil ?_
    refine W_ret ?_
    refine Exists.intro _ (And.intro (.cons (.cell rfl rfl m0 rfl trivial) (.cons (.tmp rfl) .nil)) (Exists.intro ((⟨.slice none 0 0, rfl⟩, ⟨.slice none 0 0, rfl⟩), ([], [])) (And.intro ?_ (And.intro ?_ (And.intro (.free rfl (own_nil rfl rfl) (.free rfl (own_nil rfl rfl) .nil)) rfl)))))
    · (have hpb2 : piB s = false := (by first | exact hpb | exact ps_no1 (k := (List.length s + 1)) (by omega) (by first | exact .inl (by assumption) | exact .inr (.inl (by omega)) | exact .inr (.inr (by assumption)))); exact fun h => absurd (h.symm.trans hpb2) (by decide))
    · (have hpb2 : piB s = false := (by first | exact hpb | exact ps_no1 (k := (List.length s + 1)) (by omega) (by first | exact .inl (by assumption) | exact .inr (.inl (by omega)) | exact .inr (.inr (by assumption)))); rw [hpb2]; rfl)
  · try simp only [bs] at h1
    refine W_skip ?_
    refine W_seq ?_
    refine W_region ?_
    refine Ops_p (p_move rfl) (lt_dec rfl) ?_
    refine Ops_x rfl (x_callT en_spec_l03Side rfl (w_spec_l03Side (s := s) (k := (List.length s + 1)) (p := 0) (by omega) (Nat.zero_le _) (by omega) en_spec_l03Operand (fun q hq hkq => w_spec_l03Operand (by omega) hq hkq)) HpDels.nil (Vw.none _) (fun _ => (HpDels.cons HpDel.head HpDels.nil)) (lt_dec rfl) fun x17_1 _ => ?_)
    refine Ops_p (p_move rfl) (lt_dec rfl) ?_
    refine Ops_p (p_extract rfl rfl) (lt_dec rfl) ?_
    refine Ops_p (p_extract rfl rfl) (lt_dec rfl) ?_
    refine Ops_p (p_extract rfl rfl) (lt_dec rfl) ?_
    refine Ops_p (p_assign rfl) (lt_dec rfl) ?_
    refine Ops_p (p_assign rfl) (lt_dec rfl) ?_
    refine Ops_p (p_assign rfl) (lt_dec rfl) ?_
    refine Ops_nil ?_
    refine W_seq ?_
    refine W_seq ?_
    obtain ⟨f1, f2, f3, f4⟩ := sdS_fact (s := s) (op := opS s (List.length s + 1)) (fun q hq => opS_fact (List.length s + 1) q hq) (p := 0) (Nat.zero_le _)
    refine W_region ?_
    refine Ops_p (p_move rfl) (lt_dec rfl) ?_
    refine Ops_p (p_not rfl) (lt_dec rfl) ?_
    refine Ops_p (p_move rfl) (lt_dec rfl) ?_
    refine Ops_guard rfl rfl (lt_dec rfl) (fun hg1 => ?_) (fun hg1 => ?_)
    · try simp only [bs] at hg1
      refine Ops_p (p_move rfl) (lt_dec rfl) ?_
      refine Ops_guard_t rfl rfl (lt_dec rfl) ?_
      refine Ops_p (p_move rfl) (lt_dec rfl) ?_
      refine Ops_guard_t rfl rfl (lt_dec rfl) ?_
      refine Ops_p (p_len_B rfl rfl rfl) (lt_dec rfl) ?_
      refine Ops_guard_t rfl rfl (lt_dec rfl) ?_
      refine Ops_p (p_geq rfl rfl) (lt_dec rfl) ?_
      refine Ops_p (p_pick_f rfl rfl) (lt_dec rfl) ?_
      refine Ops_p (p_move rfl) (lt_dec rfl) ?_
      refine Ops_guard rfl rfl (lt_dec rfl) (fun hg2 => ?_) (fun hg2 => ?_)
      · try simp only [bs] at hg2
        refine Ops_p (p_move rfl) (lt_dec rfl) ?_
        refine Ops_guard_t rfl rfl (lt_dec rfl) ?_
        refine Ops_p (p_move rfl) (lt_dec rfl) ?_
        refine Ops_guard_t rfl rfl (lt_dec rfl) ?_
        refine Ops_p ((p_index_s (Prod.fst (Prod.snd (sdS s (opS s (List.length s + 1)) 0))) rfl rfl rfl rfl (by omega))) (lt_dec rfl) ?_
        refine Ops_guard_t rfl rfl (lt_dec rfl) ?_
        first | refine Ops_p (p_neq_8 rfl rfl) (lt_dec rfl) ?_ | refine Ops_p (p_neq rfl rfl) (lt_dec rfl) ?_
        refine Ops_p (p_pick_f rfl rfl) (lt_dec rfl) ?_
        refine Ops_nil ?_
        refine W_cond rfl (fun h2 => ?_) (fun h2 => ?_)
        · try simp only [bs] at h2
          have h61 : s.getD (Prod.fst (Prod.snd (sdS s (opS s (List.length s + 1)) 0))) 0 ≠ 61 := (fun e => h2 e)
          refine W_seq ?_
          refine W_region ?_
          refine Ops_p (p_build rfl rfl rfl rfl (by first | exact True.intro | trivial | (first | omega | (dsimp only; omega)) | exact Fin.isLt _ | (dsimp only; omega))) (lt_dec rfl) ?_
          refine Ops_x rfl (x_store rfl rfl rfl rfl rfl ((HpRep.head).tail) rfl (by first | trivial | (first | (first | omega | (dsimp only; omega)) | exact Fin.isLt _)) ?_)
          refine Ops_p (p_assign rfl) (lt_dec rfl) ?_
          refine Ops_nil ?_
          refine W_ret ?_
          refine Exists.intro _ (And.intro (.cons (.cell rfl rfl m1 rfl trivial) (.cons (.tmp rfl) .nil)) (Exists.intro ((⟨.slice none 0 0, rfl⟩, ⟨.slice none 0 0, rfl⟩), ([], [])) (And.intro ?_ (And.intro ?_ (And.intro (.free rfl (own_nil rfl rfl) (.free rfl (own_nil rfl rfl) .nil)) rfl)))))
          · (have hpb2 : piB s = false := (by first | exact hpb | exact ps_no1 (k := (List.length s + 1)) (by omega) (by first | exact .inl (by assumption) | exact .inr (.inl (by omega)) | exact .inr (.inr (by assumption)))); exact fun h => absurd (h.symm.trans hpb2) (by decide))
          · (have hpb2 : piB s = false := (by first | exact hpb | exact ps_no1 (k := (List.length s + 1)) (by omega) (by first | exact .inl (by assumption) | exact .inr (.inl (by omega)) | exact .inr (.inr (by assumption)))); rw [hpb2]; rfl)
        · try simp only [bs] at h2
          refine W_skip ?_
          refine W_seq ?_
          have hq1 : ((Prod.fst (Prod.snd (sdS s (opS s (List.length s + 1)) 0))) + 1) ≤ s.length := (by omega)
          obtain ⟨g1, g2, g3, g4⟩ := sdS_fact (s := s) (op := opS s (List.length s + 1)) (fun q hq => opS_fact (List.length s + 1) q hq) (p := ((Prod.fst (Prod.snd (sdS s (opS s (List.length s + 1)) 0))) + 1)) hq1
          refine W_region ?_
          refine Ops_p (p_move rfl) (lt_dec rfl) ?_
          refine Ops_p (p_move rfl) (lt_dec rfl) ?_
          refine Ops_p ((p_add rfl rfl (by exact ⟨by omega, by omega⟩)).eq (d' := .int .i64 ((((Prod.fst (Prod.snd (sdS s (opS s (List.length s + 1)) 0))) + 1) : Nat) : Int)) (veq_int (by omega))) (lt_dec rfl) ?_
          refine Ops_x rfl (x_callT en_spec_l03Side rfl (w_spec_l03Side (s := s) (k := (List.length s + 1)) (p := ((Prod.fst (Prod.snd (sdS s (opS s (List.length s + 1)) 0))) + 1)) (by omega) hq1 (by omega) en_spec_l03Operand (fun q hq hkq => w_spec_l03Operand (by omega) hq hkq)) HpDels.nil (Vw.none _) (fun _ => (HpDels.cons HpDel.head HpDels.nil)) (lt_dec rfl) fun x40_1 _ => ?_)
          refine Ops_p (p_move rfl) (lt_dec rfl) ?_
          refine Ops_p (p_extract rfl rfl) (lt_dec rfl) ?_
          refine Ops_p (p_extract rfl rfl) (lt_dec rfl) ?_
          refine Ops_p (p_extract rfl rfl) (lt_dec rfl) ?_
          refine Ops_p (p_assign rfl) (lt_dec rfl) ?_
          refine Ops_p (p_assign rfl) (lt_dec rfl) ?_
          refine Ops_p (p_assign rfl) (lt_dec rfl) ?_
          refine Ops_nil ?_
          refine W_seq ?_
          refine W_region ?_
          refine Ops_p (p_move rfl) (lt_dec rfl) ?_
          refine Ops_p (p_move rfl) (lt_dec rfl) ?_
          refine Ops_p (p_build rfl rfl rfl rfl (by first | exact True.intro | trivial | (first | omega | (dsimp only; omega)) | exact Fin.isLt _ | (dsimp only; omega))) (lt_dec rfl) ?_
          refine Ops_x rfl (x_alloc rfl (lt_dec rfl) fun b10_1 => ?_)
          refine Ops_x rfl (x_store rfl rfl rfl rfl rfl HpRep.head rfl (by first | trivial | (first | (first | omega | (dsimp only; omega)) | exact Fin.isLt _)) ?_)
          refine Ops_nil ?_
          refine W_seq ?_
          refine W_draw (by kernel_rfl) ?_
          refine RA_take 1 rfl rfl rfl (by kernel_rfl) (by kernel_rfl) (by kernel_rfl) (p_move rfl) (lt_dec rfl) ?_
          refine RA_take 2 rfl rfl rfl (by kernel_rfl) (by kernel_rfl) (by kernel_rfl) (p_move rfl) (lt_dec rfl) ?_
          generalize hgs1 : (Prod.snd (Prod.snd (sdS s (opS s (List.length s + 1)) ((Prod.fst (Prod.snd (sdS s (opS s (List.length s + 1)) 0))) + 1)))) = bb
          cases bb
          · try simp only [bs] at hgs1
            refine RA_takeU 3 rfl rfl rfl rfl rfl rfl (by kernel_rfl) (by kernel_rfl) (by kernel_rfl) (lt_dec rfl) ?_
            refine RA_takeU 4 rfl rfl rfl rfl rfl rfl (by kernel_rfl) (by kernel_rfl) (by kernel_rfl) (lt_dec rfl) ?_
            refine RA_takeU 5 rfl rfl rfl rfl rfl rfl (by kernel_rfl) (by kernel_rfl) (by kernel_rfl) (lt_dec rfl) ?_
            refine RA_takeU 6 rfl rfl rfl rfl rfl rfl (by kernel_rfl) (by kernel_rfl) (by kernel_rfl) (lt_dec rfl) ?_
            refine RA_take 7 rfl rfl rfl (by kernel_rfl) (by kernel_rfl) (by kernel_rfl) (p_pick_f rfl rfl) (lt_dec rfl) ?_
            refine RA_take 8 rfl rfl rfl (by kernel_rfl) (by kernel_rfl) (by kernel_rfl) (p_move rfl) (lt_dec rfl) ?_
            refine RA_takeU 9 rfl rfl rfl rfl rfl rfl (by kernel_rfl) (by kernel_rfl) (by kernel_rfl) (lt_dec rfl) ?_
            refine RA_takeU 10 rfl rfl rfl rfl rfl rfl (by kernel_rfl) (by kernel_rfl) (by kernel_rfl) (lt_dec rfl) ?_
            refine RA_take 11 rfl rfl rfl (by kernel_rfl) (by kernel_rfl) (by kernel_rfl) (p_pick_f rfl rfl) (lt_dec rfl) ?_
            refine RA_take 12 rfl rfl rfl (by kernel_rfl) (by kernel_rfl) (by kernel_rfl) (p_move rfl) (lt_dec rfl) ?_
            refine RA_takeU 13 rfl rfl rfl rfl rfl rfl (by kernel_rfl) (by kernel_rfl) (by kernel_rfl) (lt_dec rfl) ?_
            refine RA_takeU 14 rfl rfl rfl rfl rfl rfl (by kernel_rfl) (by kernel_rfl) (by kernel_rfl) (lt_dec rfl) ?_
            refine RA_takeU 15 rfl rfl rfl rfl rfl rfl (by kernel_rfl) (by kernel_rfl) (by kernel_rfl) (lt_dec rfl) ?_
            refine RA_takeU 16 rfl rfl rfl rfl rfl rfl (by kernel_rfl) (by kernel_rfl) (by kernel_rfl) (lt_dec rfl) ?_
            refine RA_take 17 rfl rfl rfl (by kernel_rfl) (by kernel_rfl) (by kernel_rfl) (p_pick_f rfl rfl) (lt_dec rfl) ?_
            refine RA_one 0 rfl rfl (by kernel_rfl) (Xt_of_Qt rfl (lt_dec rfl) ((q_load rfl rfl m0 rfl (by first | exact True.intro | trivial | (first | omega | (dsimp only; omega)) | exact Fin.isLt _ | (dsimp only; omega)))) ?_)
            refine RA_one 18 rfl rfl (by kernel_rfl) (x_store rfl rfl rfl rfl rfl ((((HpRep.head).tail).tail).tail) rfl (by first | trivial | (first | (first | omega | (dsimp only; omega)) | exact Fin.isLt _)) ?_)
            refine RA_take 19 rfl rfl rfl (by kernel_rfl) (by kernel_rfl) (by kernel_rfl) (p_assign rfl) (lt_dec rfl) ?_
            refine RA_done (by kernel_rfl) ?_
            refine W_ret ?_
            refine Exists.intro _ (And.intro (.cons (.cell rfl rfl m3 rfl trivial) (.cons (.tmp rfl) .nil)) (Exists.intro ((x17_1, x40_1), ((Prod.fst (sdS s (opS s (List.length s + 1)) 0)), (Prod.fst (sdS s (opS s (List.length s + 1)) ((Prod.fst (Prod.snd (sdS s (opS s (List.length s + 1)) 0))) + 1))))) (And.intro ?_ (And.intro ?_ (And.intro (.cons ((HpDel.head).tail).tail rfl (own_eq rfl) (.cons (HpDel.head).tail rfl (own_eq rfl) .nil)) rfl)))))
            · exact fun h => ps_eq (by omega) h
            · first | (have hpb2 : piB s = false := (ps_no2 (k := (List.length s + 1)) (by omega) (by first | exact .inl (by assumption) | exact .inr (.inl (by omega)) | exact .inr (.inr (.inl (by first | assumption | rcases (show isTerm (Prod.fst (sdS s (opS s (List.length s + 1)) 0)) = false ∨ isTerm (Prod.fst (sdS s (opS s (List.length s + 1)) ((Prod.fst (Prod.snd (sdS s (opS s (List.length s + 1)) 0))) + 1))) = false by assumption) with h | h; (rw [h]; rfl); (rw [h, Bool.and_false])))))); rw [hpb2]; rfl) | exact veq_tup2 rfl (veq_bool (ps_fin (by omega) (And.left (show isTerm (Prod.fst (sdS s (opS s (List.length s + 1)) 0)) = true ∧ isTerm (Prod.fst (sdS s (opS s (List.length s + 1)) ((Prod.fst (Prod.snd (sdS s (opS s (List.length s + 1)) 0))) + 1))) = true by first | assumption | exact (Bool.and_eq_true _ _).mp (by assumption))) (And.right (show isTerm (Prod.fst (sdS s (opS s (List.length s + 1)) 0)) = true ∧ isTerm (Prod.fst (sdS s (opS s (List.length s + 1)) ((Prod.fst (Prod.snd (sdS s (opS s (List.length s + 1)) 0))) + 1))) = true by first | assumption | exact (Bool.and_eq_true _ _).mp (by assumption)))))
          · try simp only [bs] at hgs1
            refine RA_takeG 3 rfl rfl rfl rfl rfl (by kernel_rfl) (by kernel_rfl) (by kernel_rfl) (p_move rfl) (lt_dec rfl) ?_
            refine RA_takeG 4 rfl rfl rfl rfl rfl (by kernel_rfl) (by kernel_rfl) (by kernel_rfl) (p_move rfl) (lt_dec rfl) ?_
            refine RA_twoD 0 5 rfl rfl (by kernel_rfl) ?_ ?_
            · refine .plain rfl ?_
              refine Xt_of_Qt rfl (lt_dec rfl) ((q_load rfl rfl m0 rfl (by first | exact True.intro | trivial | (first | omega | (dsimp only; omega)) | exact Fin.isLt _ | (dsimp only; omega)))) ?_
              refine RA_oneG 5 rfl rfl rfl rfl (by kernel_rfl) (Xt_of_Qt rfl (lt_dec rfl) ((p_len_B rfl rfl rfl).q) ?_)
              refine RA_takeG 6 rfl rfl rfl rfl rfl (by kernel_rfl) (by kernel_rfl) (by kernel_rfl) (p_eql rfl rfl) (lt_dec rfl) ?_
              refine RA_take 7 rfl rfl rfl (by kernel_rfl) (by kernel_rfl) (by kernel_rfl) (p_pick_t rfl rfl) (lt_dec rfl) ?_
              refine RA_take 8 rfl rfl rfl (by kernel_rfl) (by kernel_rfl) (by kernel_rfl) (p_move rfl) (lt_dec rfl) ?_
              generalize hgs2 : (decide ((((Prod.fst (Prod.snd (sdS s (opS s (List.length s + 1)) ((Prod.fst (Prod.snd (sdS s (opS s (List.length s + 1)) 0))) + 1)))) : Nat) : Int) = ((List.length s : Nat) : Int))) = bb
              cases bb
              · try simp only [bs] at hgs2
                refine RA_takeU 9 rfl rfl rfl rfl rfl rfl (by kernel_rfl) (by kernel_rfl) (by kernel_rfl) (lt_dec rfl) ?_
                refine RA_takeU 10 rfl rfl rfl rfl rfl rfl (by kernel_rfl) (by kernel_rfl) (by kernel_rfl) (lt_dec rfl) ?_
                refine RA_take 11 rfl rfl rfl (by kernel_rfl) (by kernel_rfl) (by kernel_rfl) (p_pick_f rfl rfl) (lt_dec rfl) ?_
                refine RA_take 12 rfl rfl rfl (by kernel_rfl) (by kernel_rfl) (by kernel_rfl) (p_move rfl) (lt_dec rfl) ?_
                refine RA_takeU 13 rfl rfl rfl rfl rfl rfl (by kernel_rfl) (by kernel_rfl) (by kernel_rfl) (lt_dec rfl) ?_
                refine RA_takeU 14 rfl rfl rfl rfl rfl rfl (by kernel_rfl) (by kernel_rfl) (by kernel_rfl) (lt_dec rfl) ?_
                refine RA_takeU 15 rfl rfl rfl rfl rfl rfl (by kernel_rfl) (by kernel_rfl) (by kernel_rfl) (lt_dec rfl) ?_
                refine RA_takeU 16 rfl rfl rfl rfl rfl rfl (by kernel_rfl) (by kernel_rfl) (by kernel_rfl) (lt_dec rfl) ?_
                refine RA_take 17 rfl rfl rfl (by kernel_rfl) (by kernel_rfl) (by kernel_rfl) (p_pick_f rfl rfl) (lt_dec rfl) ?_
                refine RA_one 18 rfl rfl (by kernel_rfl) (x_store rfl rfl rfl rfl rfl ((((HpRep.head).tail).tail).tail) rfl (by first | trivial | (first | (first | omega | (dsimp only; omega)) | exact Fin.isLt _)) ?_)
                refine RA_take 19 rfl rfl rfl (by kernel_rfl) (by kernel_rfl) (by kernel_rfl) (p_assign rfl) (lt_dec rfl) ?_
                refine RA_done (by kernel_rfl) ?_
                refine W_ret ?_
                refine Exists.intro _ (And.intro (.cons (.cell rfl rfl m3 rfl trivial) (.cons (.tmp rfl) .nil)) (Exists.intro ((x17_1, x40_1), ((Prod.fst (sdS s (opS s (List.length s + 1)) 0)), (Prod.fst (sdS s (opS s (List.length s + 1)) ((Prod.fst (Prod.snd (sdS s (opS s (List.length s + 1)) 0))) + 1))))) (And.intro ?_ (And.intro ?_ (And.intro (.cons ((HpDel.head).tail).tail rfl (own_eq rfl) (.cons (HpDel.head).tail rfl (own_eq rfl) .nil)) rfl)))))
                · exact fun h => ps_eq (by omega) h
                · first | (have hpb2 : piB s = false := (ps_no2 (k := (List.length s + 1)) (by omega) (by first | exact .inl (by assumption) | exact .inr (.inl (by omega)) | exact .inr (.inr (.inl (by first | assumption | rcases (show isTerm (Prod.fst (sdS s (opS s (List.length s + 1)) 0)) = false ∨ isTerm (Prod.fst (sdS s (opS s (List.length s + 1)) ((Prod.fst (Prod.snd (sdS s (opS s (List.length s + 1)) 0))) + 1))) = false by assumption) with h | h; (rw [h]; rfl); (rw [h, Bool.and_false])))))); rw [hpb2]; rfl) | exact veq_tup2 rfl (veq_bool (ps_fin (by omega) (And.left (show isTerm (Prod.fst (sdS s (opS s (List.length s + 1)) 0)) = true ∧ isTerm (Prod.fst (sdS s (opS s (List.length s + 1)) ((Prod.fst (Prod.snd (sdS s (opS s (List.length s + 1)) 0))) + 1))) = true by first | assumption | exact (Bool.and_eq_true _ _).mp (by assumption))) (And.right (show isTerm (Prod.fst (sdS s (opS s (List.length s + 1)) 0)) = true ∧ isTerm (Prod.fst (sdS s (opS s (List.length s + 1)) ((Prod.fst (Prod.snd (sdS s (opS s (List.length s + 1)) 0))) + 1))) = true by first | assumption | exact (Bool.and_eq_true _ _).mp (by assumption)))))
              · try simp only [bs] at hgs2
                refine RA_oneG 9 rfl rfl rfl rfl (by kernel_rfl) (Xt_of_Qt rfl (lt_dec rfl) ((q_load rfl rfl m0 rfl (by first | exact True.intro | trivial | (first | omega | (dsimp only; omega)) | exact Fin.isLt _ | (dsimp only; omega)))) ?_)
                refine RA_oneG 10 rfl rfl rfl rfl (by kernel_rfl) (Xt_of_Qt rfl (lt_dec rfl) ((q_call en_spec_l03Both rfl (w_spec_l03Both (by omega) (by omega)) (View.cons (Vw.rdO m2).v (Vw.rdO m1).v rfl rfl))) ?_)
                refine RA_take 11 rfl rfl rfl (by kernel_rfl) (by kernel_rfl) (by kernel_rfl) (p_pick_t rfl rfl) (lt_dec rfl) ?_
                refine RA_take 12 rfl rfl rfl (by kernel_rfl) (by kernel_rfl) (by kernel_rfl) (p_move rfl) (lt_dec rfl) ?_
                generalize hgs3 : (isTerm (Prod.fst (sdS s (opS s (List.length s + 1)) 0)) && isTerm (Prod.fst (sdS s (opS s (List.length s + 1)) ((Prod.fst (Prod.snd (sdS s (opS s (List.length s + 1)) 0))) + 1)))) = bb
                cases bb
                · try simp only [bs] at hgs3
                  refine RA_takeU 13 rfl rfl rfl rfl rfl rfl (by kernel_rfl) (by kernel_rfl) (by kernel_rfl) (lt_dec rfl) ?_
                  refine RA_takeU 14 rfl rfl rfl rfl rfl rfl (by kernel_rfl) (by kernel_rfl) (by kernel_rfl) (lt_dec rfl) ?_
                  refine RA_takeU 15 rfl rfl rfl rfl rfl rfl (by kernel_rfl) (by kernel_rfl) (by kernel_rfl) (lt_dec rfl) ?_
                  refine RA_takeU 16 rfl rfl rfl rfl rfl rfl (by kernel_rfl) (by kernel_rfl) (by kernel_rfl) (lt_dec rfl) ?_
                  refine RA_take 17 rfl rfl rfl (by kernel_rfl) (by kernel_rfl) (by kernel_rfl) (p_pick_f rfl rfl) (lt_dec rfl) ?_
                  refine RA_one 18 rfl rfl (by kernel_rfl) (x_store rfl rfl rfl rfl rfl ((((HpRep.head).tail).tail).tail) rfl (by first | trivial | (first | (first | omega | (dsimp only; omega)) | exact Fin.isLt _)) ?_)
                  refine RA_take 19 rfl rfl rfl (by kernel_rfl) (by kernel_rfl) (by kernel_rfl) (p_assign rfl) (lt_dec rfl) ?_
                  refine RA_done (by kernel_rfl) ?_
                  refine W_ret ?_
                  refine Exists.intro _ (And.intro (.cons (.cell rfl rfl m3 rfl trivial) (.cons (.tmp rfl) .nil)) (Exists.intro ((x17_1, x40_1), ((Prod.fst (sdS s (opS s (List.length s + 1)) 0)), (Prod.fst (sdS s (opS s (List.length s + 1)) ((Prod.fst (Prod.snd (sdS s (opS s (List.length s + 1)) 0))) + 1))))) (And.intro ?_ (And.intro ?_ (And.intro (.cons ((HpDel.head).tail).tail rfl (own_eq rfl) (.cons (HpDel.head).tail rfl (own_eq rfl) .nil)) rfl)))))
                  · exact fun h => ps_eq (by omega) h
                  · first | (have hpb2 : piB s = false := (ps_no2 (k := (List.length s + 1)) (by omega) (by first | exact .inl (by assumption) | exact .inr (.inl (by omega)) | exact .inr (.inr (.inl (by first | assumption | rcases (show isTerm (Prod.fst (sdS s (opS s (List.length s + 1)) 0)) = false ∨ isTerm (Prod.fst (sdS s (opS s (List.length s + 1)) ((Prod.fst (Prod.snd (sdS s (opS s (List.length s + 1)) 0))) + 1))) = false by assumption) with h | h; (rw [h]; rfl); (rw [h, Bool.and_false])))))); rw [hpb2]; rfl) | exact veq_tup2 rfl (veq_bool (ps_fin (by omega) (And.left (show isTerm (Prod.fst (sdS s (opS s (List.length s + 1)) 0)) = true ∧ isTerm (Prod.fst (sdS s (opS s (List.length s + 1)) ((Prod.fst (Prod.snd (sdS s (opS s (List.length s + 1)) 0))) + 1))) = true by first | assumption | exact (Bool.and_eq_true _ _).mp (by assumption))) (And.right (show isTerm (Prod.fst (sdS s (opS s (List.length s + 1)) 0)) = true ∧ isTerm (Prod.fst (sdS s (opS s (List.length s + 1)) ((Prod.fst (Prod.snd (sdS s (opS s (List.length s + 1)) 0))) + 1))) = true by first | assumption | exact (Bool.and_eq_true _ _).mp (by assumption)))))
                · try simp only [bs] at hgs3
                  refine RA_takeG 15 rfl rfl rfl rfl rfl (by kernel_rfl) (by kernel_rfl) (by kernel_rfl) (p_move rfl) (lt_dec rfl) ?_
                  refine RA_oneG 13 rfl rfl rfl rfl (by kernel_rfl) (Xt_of_Qt rfl (lt_dec rfl) ((q_load rfl rfl m0 rfl (by first | exact True.intro | trivial | (first | omega | (dsimp only; omega)) | exact Fin.isLt _ | (dsimp only; omega)))) ?_)
                  refine RA_oneG 14 rfl rfl rfl rfl (by kernel_rfl) (Xt_of_Qt rfl (lt_dec rfl) ((q_call en_spec_l03Shown rfl (w_spec_l03Shown (And.left (show isTerm (Prod.fst (sdS s (opS s (List.length s + 1)) 0)) = true ∧ isTerm (Prod.fst (sdS s (opS s (List.length s + 1)) ((Prod.fst (Prod.snd (sdS s (opS s (List.length s + 1)) 0))) + 1))) = true by first | assumption | exact (Bool.and_eq_true _ _).mp (by assumption))) (And.right (show isTerm (Prod.fst (sdS s (opS s (List.length s + 1)) 0)) = true ∧ isTerm (Prod.fst (sdS s (opS s (List.length s + 1)) ((Prod.fst (Prod.snd (sdS s (opS s (List.length s + 1)) 0))) + 1))) = true by first | assumption | exact (Bool.and_eq_true _ _).mp (by assumption)))) (View.cons (Vw.rdO m2).v (Vw.rdO m1).v rfl rfl))) ?_)
                  refine RA_takeG 16 rfl rfl rfl rfl rfl (by kernel_rfl) (by kernel_rfl) (by kernel_rfl) (p_eql_s rfl rfl) (lt_dec rfl) ?_
                  refine RA_take 17 rfl rfl rfl (by kernel_rfl) (by kernel_rfl) (by kernel_rfl) (p_pick_t rfl rfl) (lt_dec rfl) ?_
                  refine RA_one 18 rfl rfl (by kernel_rfl) (x_store rfl rfl rfl rfl rfl ((((HpRep.head).tail).tail).tail) rfl (by first | trivial | (first | (first | omega | (dsimp only; omega)) | exact Fin.isLt _)) ?_)
                  refine RA_take 19 rfl rfl rfl (by kernel_rfl) (by kernel_rfl) (by kernel_rfl) (p_assign rfl) (lt_dec rfl) ?_
                  refine RA_done (by kernel_rfl) ?_
                  refine W_ret ?_
                  refine Exists.intro _ (And.intro (.cons (.cell rfl rfl m3 rfl trivial) (.cons (.tmp rfl) .nil)) (Exists.intro ((x17_1, x40_1), ((Prod.fst (sdS s (opS s (List.length s + 1)) 0)), (Prod.fst (sdS s (opS s (List.length s + 1)) ((Prod.fst (Prod.snd (sdS s (opS s (List.length s + 1)) 0))) + 1))))) (And.intro ?_ (And.intro ?_ (And.intro (.cons ((HpDel.head).tail).tail rfl (own_eq rfl) (.cons (HpDel.head).tail rfl (own_eq rfl) .nil)) rfl)))))
                  · exact fun h => ps_eq (by omega) h
                  · first | (have hpb2 : piB s = false := (ps_no2 (k := (List.length s + 1)) (by omega) (by first | exact .inl (by assumption) | exact .inr (.inl (by omega)) | exact .inr (.inr (.inl (by first | assumption | rcases (show isTerm (Prod.fst (sdS s (opS s (List.length s + 1)) 0)) = false ∨ isTerm (Prod.fst (sdS s (opS s (List.length s + 1)) ((Prod.fst (Prod.snd (sdS s (opS s (List.length s + 1)) 0))) + 1))) = false by assumption) with h | h; (rw [h]; rfl); (rw [h, Bool.and_false])))))); rw [hpb2]; rfl) | exact veq_tup2 rfl (veq_bool (ps_fin (by omega) (And.left (show isTerm (Prod.fst (sdS s (opS s (List.length s + 1)) 0)) = true ∧ isTerm (Prod.fst (sdS s (opS s (List.length s + 1)) ((Prod.fst (Prod.snd (sdS s (opS s (List.length s + 1)) 0))) + 1))) = true by first | assumption | exact (Bool.and_eq_true _ _).mp (by assumption))) (And.right (show isTerm (Prod.fst (sdS s (opS s (List.length s + 1)) 0)) = true ∧ isTerm (Prod.fst (sdS s (opS s (List.length s + 1)) ((Prod.fst (Prod.snd (sdS s (opS s (List.length s + 1)) 0))) + 1))) = true by first | assumption | exact (Bool.and_eq_true _ _).mp (by assumption)))))
            · refine .want rfl rfl rfl ?_
              refine Xt_of_Qt rfl (lt_dec rfl) ((p_len_B rfl rfl rfl).q) ?_
              refine RA_takeG 6 rfl rfl rfl rfl rfl (by kernel_rfl) (by kernel_rfl) (by kernel_rfl) (p_eql rfl rfl) (lt_dec rfl) ?_
              refine RA_take 7 rfl rfl rfl (by kernel_rfl) (by kernel_rfl) (by kernel_rfl) (p_pick_t rfl rfl) (lt_dec rfl) ?_
              refine RA_take 8 rfl rfl rfl (by kernel_rfl) (by kernel_rfl) (by kernel_rfl) (p_move rfl) (lt_dec rfl) ?_
              generalize hgs4 : (decide ((((Prod.fst (Prod.snd (sdS s (opS s (List.length s + 1)) ((Prod.fst (Prod.snd (sdS s (opS s (List.length s + 1)) 0))) + 1)))) : Nat) : Int) = ((List.length s : Nat) : Int))) = bb
              cases bb
              · try simp only [bs] at hgs4
                refine RA_takeU 9 rfl rfl rfl rfl rfl rfl (by kernel_rfl) (by kernel_rfl) (by kernel_rfl) (lt_dec rfl) ?_
                refine RA_takeU 10 rfl rfl rfl rfl rfl rfl (by kernel_rfl) (by kernel_rfl) (by kernel_rfl) (lt_dec rfl) ?_
                refine RA_take 11 rfl rfl rfl (by kernel_rfl) (by kernel_rfl) (by kernel_rfl) (p_pick_f rfl rfl) (lt_dec rfl) ?_
                refine RA_take 12 rfl rfl rfl (by kernel_rfl) (by kernel_rfl) (by kernel_rfl) (p_move rfl) (lt_dec rfl) ?_
                refine RA_takeU 13 rfl rfl rfl rfl rfl rfl (by kernel_rfl) (by kernel_rfl) (by kernel_rfl) (lt_dec rfl) ?_
                refine RA_takeU 14 rfl rfl rfl rfl rfl rfl (by kernel_rfl) (by kernel_rfl) (by kernel_rfl) (lt_dec rfl) ?_
                refine RA_takeU 15 rfl rfl rfl rfl rfl rfl (by kernel_rfl) (by kernel_rfl) (by kernel_rfl) (lt_dec rfl) ?_
                refine RA_takeU 16 rfl rfl rfl rfl rfl rfl (by kernel_rfl) (by kernel_rfl) (by kernel_rfl) (lt_dec rfl) ?_
                refine RA_take 17 rfl rfl rfl (by kernel_rfl) (by kernel_rfl) (by kernel_rfl) (p_pick_f rfl rfl) (lt_dec rfl) ?_
                refine RA_one 0 rfl rfl (by kernel_rfl) (Xt_of_Qt rfl (lt_dec rfl) ((q_load rfl rfl m0 rfl (by first | exact True.intro | trivial | (first | omega | (dsimp only; omega)) | exact Fin.isLt _ | (dsimp only; omega)))) ?_)
                refine RA_one 18 rfl rfl (by kernel_rfl) (x_store rfl rfl rfl rfl rfl ((((HpRep.head).tail).tail).tail) rfl (by first | trivial | (first | (first | omega | (dsimp only; omega)) | exact Fin.isLt _)) ?_)
                refine RA_take 19 rfl rfl rfl (by kernel_rfl) (by kernel_rfl) (by kernel_rfl) (p_assign rfl) (lt_dec rfl) ?_
                refine RA_done (by kernel_rfl) ?_
                refine W_ret ?_
                refine Exists.intro _ (And.intro (.cons (.cell rfl rfl m3 rfl trivial) (.cons (.tmp rfl) .nil)) (Exists.intro ((x17_1, x40_1), ((Prod.fst (sdS s (opS s (List.length s + 1)) 0)), (Prod.fst (sdS s (opS s (List.length s + 1)) ((Prod.fst (Prod.snd (sdS s (opS s (List.length s + 1)) 0))) + 1))))) (And.intro ?_ (And.intro ?_ (And.intro (.cons ((HpDel.head).tail).tail rfl (own_eq rfl) (.cons (HpDel.head).tail rfl (own_eq rfl) .nil)) rfl)))))
                · exact fun h => ps_eq (by omega) h
                · first | (have hpb2 : piB s = false := (ps_no2 (k := (List.length s + 1)) (by omega) (by first | exact .inl (by assumption) | exact .inr (.inl (by omega)) | exact .inr (.inr (.inl (by first | assumption | rcases (show isTerm (Prod.fst (sdS s (opS s (List.length s + 1)) 0)) = false ∨ isTerm (Prod.fst (sdS s (opS s (List.length s + 1)) ((Prod.fst (Prod.snd (sdS s (opS s (List.length s + 1)) 0))) + 1))) = false by assumption) with h | h; (rw [h]; rfl); (rw [h, Bool.and_false])))))); rw [hpb2]; rfl) | exact veq_tup2 rfl (veq_bool (ps_fin (by omega) (And.left (show isTerm (Prod.fst (sdS s (opS s (List.length s + 1)) 0)) = true ∧ isTerm (Prod.fst (sdS s (opS s (List.length s + 1)) ((Prod.fst (Prod.snd (sdS s (opS s (List.length s + 1)) 0))) + 1))) = true by first | assumption | exact (Bool.and_eq_true _ _).mp (by assumption))) (And.right (show isTerm (Prod.fst (sdS s (opS s (List.length s + 1)) 0)) = true ∧ isTerm (Prod.fst (sdS s (opS s (List.length s + 1)) ((Prod.fst (Prod.snd (sdS s (opS s (List.length s + 1)) 0))) + 1))) = true by first | assumption | exact (Bool.and_eq_true _ _).mp (by assumption)))))
              · try simp only [bs] at hgs4
                refine RA_twoD 0 9 rfl rfl (by kernel_rfl) ?_ ?_
                · refine .plain rfl ?_
                  refine Xt_of_Qt rfl (lt_dec rfl) ((q_load rfl rfl m0 rfl (by first | exact True.intro | trivial | (first | omega | (dsimp only; omega)) | exact Fin.isLt _ | (dsimp only; omega)))) ?_
                  refine RA_oneG 9 rfl rfl rfl rfl (by kernel_rfl) (Xt_of_Qt rfl (lt_dec rfl) ((q_load rfl rfl m0 rfl (by first | exact True.intro | trivial | (first | omega | (dsimp only; omega)) | exact Fin.isLt _ | (dsimp only; omega)))) ?_)
                  refine RA_oneG 10 rfl rfl rfl rfl (by kernel_rfl) (Xt_of_Qt rfl (lt_dec rfl) ((q_call en_spec_l03Both rfl (w_spec_l03Both (by omega) (by omega)) (View.cons (Vw.rdO m2).v (Vw.rdO m1).v rfl rfl))) ?_)
                  refine RA_take 11 rfl rfl rfl (by kernel_rfl) (by kernel_rfl) (by kernel_rfl) (p_pick_t rfl rfl) (lt_dec rfl) ?_
                  refine RA_take 12 rfl rfl rfl (by kernel_rfl) (by kernel_rfl) (by kernel_rfl) (p_move rfl) (lt_dec rfl) ?_
                  generalize hgs5 : (isTerm (Prod.fst (sdS s (opS s (List.length s + 1)) 0)) && isTerm (Prod.fst (sdS s (opS s (List.length s + 1)) ((Prod.fst (Prod.snd (sdS s (opS s (List.length s + 1)) 0))) + 1)))) = bb
                  cases bb
                  · try simp only [bs] at hgs5
                    refine RA_takeU 13 rfl rfl rfl rfl rfl rfl (by kernel_rfl) (by kernel_rfl) (by kernel_rfl) (lt_dec rfl) ?_
                    refine RA_takeU 14 rfl rfl rfl rfl rfl rfl (by kernel_rfl) (by kernel_rfl) (by kernel_rfl) (lt_dec rfl) ?_
                    refine RA_takeU 15 rfl rfl rfl rfl rfl rfl (by kernel_rfl) (by kernel_rfl) (by kernel_rfl) (lt_dec rfl) ?_
                    refine RA_takeU 16 rfl rfl rfl rfl rfl rfl (by kernel_rfl) (by kernel_rfl) (by kernel_rfl) (lt_dec rfl) ?_
                    refine RA_take 17 rfl rfl rfl (by kernel_rfl) (by kernel_rfl) (by kernel_rfl) (p_pick_f rfl rfl) (lt_dec rfl) ?_
                    refine RA_one 18 rfl rfl (by kernel_rfl) (x_store rfl rfl rfl rfl rfl ((((HpRep.head).tail).tail).tail) rfl (by first | trivial | (first | (first | omega | (dsimp only; omega)) | exact Fin.isLt _)) ?_)
                    refine RA_take 19 rfl rfl rfl (by kernel_rfl) (by kernel_rfl) (by kernel_rfl) (p_assign rfl) (lt_dec rfl) ?_
                    refine RA_done (by kernel_rfl) ?_
                    refine W_ret ?_
                    refine Exists.intro _ (And.intro (.cons (.cell rfl rfl m3 rfl trivial) (.cons (.tmp rfl) .nil)) (Exists.intro ((x17_1, x40_1), ((Prod.fst (sdS s (opS s (List.length s + 1)) 0)), (Prod.fst (sdS s (opS s (List.length s + 1)) ((Prod.fst (Prod.snd (sdS s (opS s (List.length s + 1)) 0))) + 1))))) (And.intro ?_ (And.intro ?_ (And.intro (.cons ((HpDel.head).tail).tail rfl (own_eq rfl) (.cons (HpDel.head).tail rfl (own_eq rfl) .nil)) rfl)))))
                    · exact fun h => ps_eq (by omega) h
                    · first | (have hpb2 : piB s = false := (ps_no2 (k := (List.length s + 1)) (by omega) (by first | exact .inl (by assumption) | exact .inr (.inl (by omega)) | exact .inr (.inr (.inl (by first | assumption | rcases (show isTerm (Prod.fst (sdS s (opS s (List.length s + 1)) 0)) = false ∨ isTerm (Prod.fst (sdS s (opS s (List.length s + 1)) ((Prod.fst (Prod.snd (sdS s (opS s (List.length s + 1)) 0))) + 1))) = false by assumption) with h | h; (rw [h]; rfl); (rw [h, Bool.and_false])))))); rw [hpb2]; rfl) | exact veq_tup2 rfl (veq_bool (ps_fin (by omega) (And.left (show isTerm (Prod.fst (sdS s (opS s (List.length s + 1)) 0)) = true ∧ isTerm (Prod.fst (sdS s (opS s (List.length s + 1)) ((Prod.fst (Prod.snd (sdS s (opS s (List.length s + 1)) 0))) + 1))) = true by first | assumption | exact (Bool.and_eq_true _ _).mp (by assumption))) (And.right (show isTerm (Prod.fst (sdS s (opS s (List.length s + 1)) 0)) = true ∧ isTerm (Prod.fst (sdS s (opS s (List.length s + 1)) ((Prod.fst (Prod.snd (sdS s (opS s (List.length s + 1)) 0))) + 1))) = true by first | assumption | exact (Bool.and_eq_true _ _).mp (by assumption)))))
                  · try simp only [bs] at hgs5
                    refine RA_takeG 15 rfl rfl rfl rfl rfl (by kernel_rfl) (by kernel_rfl) (by kernel_rfl) (p_move rfl) (lt_dec rfl) ?_
                    refine RA_oneG 13 rfl rfl rfl rfl (by kernel_rfl) (Xt_of_Qt rfl (lt_dec rfl) ((q_load rfl rfl m0 rfl (by first | exact True.intro | trivial | (first | omega | (dsimp only; omega)) | exact Fin.isLt _ | (dsimp only; omega)))) ?_)
                    refine RA_oneG 14 rfl rfl rfl rfl (by kernel_rfl) (Xt_of_Qt rfl (lt_dec rfl) ((q_call en_spec_l03Shown rfl (w_spec_l03Shown (And.left (show isTerm (Prod.fst (sdS s (opS s (List.length s + 1)) 0)) = true ∧ isTerm (Prod.fst (sdS s (opS s (List.length s + 1)) ((Prod.fst (Prod.snd (sdS s (opS s (List.length s + 1)) 0))) + 1))) = true by first | assumption | exact (Bool.and_eq_true _ _).mp (by assumption))) (And.right (show isTerm (Prod.fst (sdS s (opS s (List.length s + 1)) 0)) = true ∧ isTerm (Prod.fst (sdS s (opS s (List.length s + 1)) ((Prod.fst (Prod.snd (sdS s (opS s (List.length s + 1)) 0))) + 1))) = true by first | assumption | exact (Bool.and_eq_true _ _).mp (by assumption)))) (View.cons (Vw.rdO m2).v (Vw.rdO m1).v rfl rfl))) ?_)
                    refine RA_takeG 16 rfl rfl rfl rfl rfl (by kernel_rfl) (by kernel_rfl) (by kernel_rfl) (p_eql_s rfl rfl) (lt_dec rfl) ?_
                    refine RA_take 17 rfl rfl rfl (by kernel_rfl) (by kernel_rfl) (by kernel_rfl) (p_pick_t rfl rfl) (lt_dec rfl) ?_
                    refine RA_one 18 rfl rfl (by kernel_rfl) (x_store rfl rfl rfl rfl rfl ((((HpRep.head).tail).tail).tail) rfl (by first | trivial | (first | (first | omega | (dsimp only; omega)) | exact Fin.isLt _)) ?_)
                    refine RA_take 19 rfl rfl rfl (by kernel_rfl) (by kernel_rfl) (by kernel_rfl) (p_assign rfl) (lt_dec rfl) ?_
                    refine RA_done (by kernel_rfl) ?_
                    refine W_ret ?_
                    refine Exists.intro _ (And.intro (.cons (.cell rfl rfl m3 rfl trivial) (.cons (.tmp rfl) .nil)) (Exists.intro ((x17_1, x40_1), ((Prod.fst (sdS s (opS s (List.length s + 1)) 0)), (Prod.fst (sdS s (opS s (List.length s + 1)) ((Prod.fst (Prod.snd (sdS s (opS s (List.length s + 1)) 0))) + 1))))) (And.intro ?_ (And.intro ?_ (And.intro (.cons ((HpDel.head).tail).tail rfl (own_eq rfl) (.cons (HpDel.head).tail rfl (own_eq rfl) .nil)) rfl)))))
                    · exact fun h => ps_eq (by omega) h
                    · first | (have hpb2 : piB s = false := (ps_no2 (k := (List.length s + 1)) (by omega) (by first | exact .inl (by assumption) | exact .inr (.inl (by omega)) | exact .inr (.inr (.inl (by first | assumption | rcases (show isTerm (Prod.fst (sdS s (opS s (List.length s + 1)) 0)) = false ∨ isTerm (Prod.fst (sdS s (opS s (List.length s + 1)) ((Prod.fst (Prod.snd (sdS s (opS s (List.length s + 1)) 0))) + 1))) = false by assumption) with h | h; (rw [h]; rfl); (rw [h, Bool.and_false])))))); rw [hpb2]; rfl) | exact veq_tup2 rfl (veq_bool (ps_fin (by omega) (And.left (show isTerm (Prod.fst (sdS s (opS s (List.length s + 1)) 0)) = true ∧ isTerm (Prod.fst (sdS s (opS s (List.length s + 1)) ((Prod.fst (Prod.snd (sdS s (opS s (List.length s + 1)) 0))) + 1))) = true by first | assumption | exact (Bool.and_eq_true _ _).mp (by assumption))) (And.right (show isTerm (Prod.fst (sdS s (opS s (List.length s + 1)) 0)) = true ∧ isTerm (Prod.fst (sdS s (opS s (List.length s + 1)) ((Prod.fst (Prod.snd (sdS s (opS s (List.length s + 1)) 0))) + 1))) = true by first | assumption | exact (Bool.and_eq_true _ _).mp (by assumption)))))
                · refine .want rfl rfl rfl ?_
                  refine Xt_of_Qt rfl (lt_dec rfl) ((q_load rfl rfl m0 rfl (by first | exact True.intro | trivial | (first | omega | (dsimp only; omega)) | exact Fin.isLt _ | (dsimp only; omega)))) ?_
                  refine RA_twoD 0 10 rfl rfl (by kernel_rfl) ?_ ?_
                  · refine .plain rfl ?_
                    refine Xt_of_Qt rfl (lt_dec rfl) ((q_load rfl rfl m0 rfl (by first | exact True.intro | trivial | (first | omega | (dsimp only; omega)) | exact Fin.isLt _ | (dsimp only; omega)))) ?_
                    refine RA_oneG 10 rfl rfl rfl rfl (by kernel_rfl) (Xt_of_Qt rfl (lt_dec rfl) ((q_call en_spec_l03Both rfl (w_spec_l03Both (by omega) (by omega)) (View.cons (Vw.rdO m2).v (Vw.rdO m1).v rfl rfl))) ?_)
                    refine RA_take 11 rfl rfl rfl (by kernel_rfl) (by kernel_rfl) (by kernel_rfl) (p_pick_t rfl rfl) (lt_dec rfl) ?_
                    refine RA_take 12 rfl rfl rfl (by kernel_rfl) (by kernel_rfl) (by kernel_rfl) (p_move rfl) (lt_dec rfl) ?_
                    generalize hgs6 : (isTerm (Prod.fst (sdS s (opS s (List.length s + 1)) 0)) && isTerm (Prod.fst (sdS s (opS s (List.length s + 1)) ((Prod.fst (Prod.snd (sdS s (opS s (List.length s + 1)) 0))) + 1)))) = bb
                    cases bb
                    · try simp only [bs] at hgs6
                      refine RA_takeU 13 rfl rfl rfl rfl rfl rfl (by kernel_rfl) (by kernel_rfl) (by kernel_rfl) (lt_dec rfl) ?_
                      refine RA_takeU 14 rfl rfl rfl rfl rfl rfl (by kernel_rfl) (by kernel_rfl) (by kernel_rfl) (lt_dec rfl) ?_
                      refine RA_takeU 15 rfl rfl rfl rfl rfl rfl (by kernel_rfl) (by kernel_rfl) (by kernel_rfl) (lt_dec rfl) ?_
                      refine RA_takeU 16 rfl rfl rfl rfl rfl rfl (by kernel_rfl) (by kernel_rfl) (by kernel_rfl) (lt_dec rfl) ?_
                      refine RA_take 17 rfl rfl rfl (by kernel_rfl) (by kernel_rfl) (by kernel_rfl) (p_pick_f rfl rfl) (lt_dec rfl) ?_
                      refine RA_one 18 rfl rfl (by kernel_rfl) (x_store rfl rfl rfl rfl rfl ((((HpRep.head).tail).tail).tail) rfl (by first | trivial | (first | (first | omega | (dsimp only; omega)) | exact Fin.isLt _)) ?_)
                      refine RA_take 19 rfl rfl rfl (by kernel_rfl) (by kernel_rfl) (by kernel_rfl) (p_assign rfl) (lt_dec rfl) ?_
                      refine RA_done (by kernel_rfl) ?_
                      refine W_ret ?_
                      refine Exists.intro _ (And.intro (.cons (.cell rfl rfl m3 rfl trivial) (.cons (.tmp rfl) .nil)) (Exists.intro ((x17_1, x40_1), ((Prod.fst (sdS s (opS s (List.length s + 1)) 0)), (Prod.fst (sdS s (opS s (List.length s + 1)) ((Prod.fst (Prod.snd (sdS s (opS s (List.length s + 1)) 0))) + 1))))) (And.intro ?_ (And.intro ?_ (And.intro (.cons ((HpDel.head).tail).tail rfl (own_eq rfl) (.cons (HpDel.head).tail rfl (own_eq rfl) .nil)) rfl)))))
                      · exact fun h => ps_eq (by omega) h
                      · first | (have hpb2 : piB s = false := (ps_no2 (k := (List.length s + 1)) (by omega) (by first | exact .inl (by assumption) | exact .inr (.inl (by omega)) | exact .inr (.inr (.inl (by first | assumption | rcases (show isTerm (Prod.fst (sdS s (opS s (List.length s + 1)) 0)) = false ∨ isTerm (Prod.fst (sdS s (opS s (List.length s + 1)) ((Prod.fst (Prod.snd (sdS s (opS s (List.length s + 1)) 0))) + 1))) = false by assumption) with h | h; (rw [h]; rfl); (rw [h, Bool.and_false])))))); rw [hpb2]; rfl) | exact veq_tup2 rfl (veq_bool (ps_fin (by omega) (And.left (show isTerm (Prod.fst (sdS s (opS s (List.length s + 1)) 0)) = true ∧ isTerm (Prod.fst (sdS s (opS s (List.length s + 1)) ((Prod.fst (Prod.snd (sdS s (opS s (List.length s + 1)) 0))) + 1))) = true by first | assumption | exact (Bool.and_eq_true _ _).mp (by assumption))) (And.right (show isTerm (Prod.fst (sdS s (opS s (List.length s + 1)) 0)) = true ∧ isTerm (Prod.fst (sdS s (opS s (List.length s + 1)) ((Prod.fst (Prod.snd (sdS s (opS s (List.length s + 1)) 0))) + 1))) = true by first | assumption | exact (Bool.and_eq_true _ _).mp (by assumption)))))
                    · try simp only [bs] at hgs6
                      refine RA_takeG 15 rfl rfl rfl rfl rfl (by kernel_rfl) (by kernel_rfl) (by kernel_rfl) (p_move rfl) (lt_dec rfl) ?_
                      refine RA_oneG 13 rfl rfl rfl rfl (by kernel_rfl) (Xt_of_Qt rfl (lt_dec rfl) ((q_load rfl rfl m0 rfl (by first | exact True.intro | trivial | (first | omega | (dsimp only; omega)) | exact Fin.isLt _ | (dsimp only; omega)))) ?_)
                      refine RA_oneG 14 rfl rfl rfl rfl (by kernel_rfl) (Xt_of_Qt rfl (lt_dec rfl) ((q_call en_spec_l03Shown rfl (w_spec_l03Shown (And.left (show isTerm (Prod.fst (sdS s (opS s (List.length s + 1)) 0)) = true ∧ isTerm (Prod.fst (sdS s (opS s (List.length s + 1)) ((Prod.fst (Prod.snd (sdS s (opS s (List.length s + 1)) 0))) + 1))) = true by first | assumption | exact (Bool.and_eq_true _ _).mp (by assumption))) (And.right (show isTerm (Prod.fst (sdS s (opS s (List.length s + 1)) 0)) = true ∧ isTerm (Prod.fst (sdS s (opS s (List.length s + 1)) ((Prod.fst (Prod.snd (sdS s (opS s (List.length s + 1)) 0))) + 1))) = true by first | assumption | exact (Bool.and_eq_true _ _).mp (by assumption)))) (View.cons (Vw.rdO m2).v (Vw.rdO m1).v rfl rfl))) ?_)
                      refine RA_takeG 16 rfl rfl rfl rfl rfl (by kernel_rfl) (by kernel_rfl) (by kernel_rfl) (p_eql_s rfl rfl) (lt_dec rfl) ?_
                      refine RA_take 17 rfl rfl rfl (by kernel_rfl) (by kernel_rfl) (by kernel_rfl) (p_pick_t rfl rfl) (lt_dec rfl) ?_
                      refine RA_one 18 rfl rfl (by kernel_rfl) (x_store rfl rfl rfl rfl rfl ((((HpRep.head).tail).tail).tail) rfl (by first | trivial | (first | (first | omega | (dsimp only; omega)) | exact Fin.isLt _)) ?_)
                      refine RA_take 19 rfl rfl rfl (by kernel_rfl) (by kernel_rfl) (by kernel_rfl) (p_assign rfl) (lt_dec rfl) ?_
                      refine RA_done (by kernel_rfl) ?_
                      refine W_ret ?_
                      refine Exists.intro _ (And.intro (.cons (.cell rfl rfl m3 rfl trivial) (.cons (.tmp rfl) .nil)) (Exists.intro ((x17_1, x40_1), ((Prod.fst (sdS s (opS s (List.length s + 1)) 0)), (Prod.fst (sdS s (opS s (List.length s + 1)) ((Prod.fst (Prod.snd (sdS s (opS s (List.length s + 1)) 0))) + 1))))) (And.intro ?_ (And.intro ?_ (And.intro (.cons ((HpDel.head).tail).tail rfl (own_eq rfl) (.cons (HpDel.head).tail rfl (own_eq rfl) .nil)) rfl)))))
                      · exact fun h => ps_eq (by omega) h
                      · first | (have hpb2 : piB s = false := (ps_no2 (k := (List.length s + 1)) (by omega) (by first | exact .inl (by assumption) | exact .inr (.inl (by omega)) | exact .inr (.inr (.inl (by first | assumption | rcases (show isTerm (Prod.fst (sdS s (opS s (List.length s + 1)) 0)) = false ∨ isTerm (Prod.fst (sdS s (opS s (List.length s + 1)) ((Prod.fst (Prod.snd (sdS s (opS s (List.length s + 1)) 0))) + 1))) = false by assumption) with h | h; (rw [h]; rfl); (rw [h, Bool.and_false])))))); rw [hpb2]; rfl) | exact veq_tup2 rfl (veq_bool (ps_fin (by omega) (And.left (show isTerm (Prod.fst (sdS s (opS s (List.length s + 1)) 0)) = true ∧ isTerm (Prod.fst (sdS s (opS s (List.length s + 1)) ((Prod.fst (Prod.snd (sdS s (opS s (List.length s + 1)) 0))) + 1))) = true by first | assumption | exact (Bool.and_eq_true _ _).mp (by assumption))) (And.right (show isTerm (Prod.fst (sdS s (opS s (List.length s + 1)) 0)) = true ∧ isTerm (Prod.fst (sdS s (opS s (List.length s + 1)) ((Prod.fst (Prod.snd (sdS s (opS s (List.length s + 1)) 0))) + 1))) = true by first | assumption | exact (Bool.and_eq_true _ _).mp (by assumption)))))
                  · refine .want rfl rfl rfl ?_
                    refine Xt_of_Qt rfl (lt_dec rfl) ((q_call en_spec_l03Both rfl (w_spec_l03Both (by omega) (by omega)) (View.cons (Vw.rdO m2).v (Vw.rdO m1).v rfl rfl))) ?_
                    refine RA_take 11 rfl rfl rfl (by kernel_rfl) (by kernel_rfl) (by kernel_rfl) (p_pick_t rfl rfl) (lt_dec rfl) ?_
                    refine RA_take 12 rfl rfl rfl (by kernel_rfl) (by kernel_rfl) (by kernel_rfl) (p_move rfl) (lt_dec rfl) ?_
                    generalize hgs7 : (isTerm (Prod.fst (sdS s (opS s (List.length s + 1)) 0)) && isTerm (Prod.fst (sdS s (opS s (List.length s + 1)) ((Prod.fst (Prod.snd (sdS s (opS s (List.length s + 1)) 0))) + 1)))) = bb
                    cases bb
                    · try simp only [bs] at hgs7
                      refine RA_takeU 13 rfl rfl rfl rfl rfl rfl (by kernel_rfl) (by kernel_rfl) (by kernel_rfl) (lt_dec rfl) ?_
                      refine RA_takeU 14 rfl rfl rfl rfl rfl rfl (by kernel_rfl) (by kernel_rfl) (by kernel_rfl) (lt_dec rfl) ?_
                      refine RA_takeU 15 rfl rfl rfl rfl rfl rfl (by kernel_rfl) (by kernel_rfl) (by kernel_rfl) (lt_dec rfl) ?_
                      refine RA_takeU 16 rfl rfl rfl rfl rfl rfl (by kernel_rfl) (by kernel_rfl) (by kernel_rfl) (lt_dec rfl) ?_
                      refine RA_take 17 rfl rfl rfl (by kernel_rfl) (by kernel_rfl) (by kernel_rfl) (p_pick_f rfl rfl) (lt_dec rfl) ?_
                      refine RA_one 0 rfl rfl (by kernel_rfl) (Xt_of_Qt rfl (lt_dec rfl) ((q_load rfl rfl m0 rfl (by first | exact True.intro | trivial | (first | omega | (dsimp only; omega)) | exact Fin.isLt _ | (dsimp only; omega)))) ?_)
                      refine RA_one 18 rfl rfl (by kernel_rfl) (x_store rfl rfl rfl rfl rfl ((((HpRep.head).tail).tail).tail) rfl (by first | trivial | (first | (first | omega | (dsimp only; omega)) | exact Fin.isLt _)) ?_)
                      refine RA_take 19 rfl rfl rfl (by kernel_rfl) (by kernel_rfl) (by kernel_rfl) (p_assign rfl) (lt_dec rfl) ?_
                      refine RA_done (by kernel_rfl) ?_
                      refine W_ret ?_
                      refine Exists.intro _ (And.intro (.cons (.cell rfl rfl m3 rfl trivial) (.cons (.tmp rfl) .nil)) (Exists.intro ((x17_1, x40_1), ((Prod.fst (sdS s (opS s (List.length s + 1)) 0)), (Prod.fst (sdS s (opS s (List.length s + 1)) ((Prod.fst (Prod.snd (sdS s (opS s (List.length s + 1)) 0))) + 1))))) (And.intro ?_ (And.intro ?_ (And.intro (.cons ((HpDel.head).tail).tail rfl (own_eq rfl) (.cons (HpDel.head).tail rfl (own_eq rfl) .nil)) rfl)))))
                      · exact fun h => ps_eq (by omega) h
                      · first | (have hpb2 : piB s = false := (ps_no2 (k := (List.length s + 1)) (by omega) (by first | exact .inl (by assumption) | exact .inr (.inl (by omega)) | exact .inr (.inr (.inl (by first | assumption | rcases (show isTerm (Prod.fst (sdS s (opS s (List.length s + 1)) 0)) = false ∨ isTerm (Prod.fst (sdS s (opS s (List.length s + 1)) ((Prod.fst (Prod.snd (sdS s (opS s (List.length s + 1)) 0))) + 1))) = false by assumption) with h | h; (rw [h]; rfl); (rw [h, Bool.and_false])))))); rw [hpb2]; rfl) | exact veq_tup2 rfl (veq_bool (ps_fin (by omega) (And.left (show isTerm (Prod.fst (sdS s (opS s (List.length s + 1)) 0)) = true ∧ isTerm (Prod.fst (sdS s (opS s (List.length s + 1)) ((Prod.fst (Prod.snd (sdS s (opS s (List.length s + 1)) 0))) + 1))) = true by first | assumption | exact (Bool.and_eq_true _ _).mp (by assumption))) (And.right (show isTerm (Prod.fst (sdS s (opS s (List.length s + 1)) 0)) = true ∧ isTerm (Prod.fst (sdS s (opS s (List.length s + 1)) ((Prod.fst (Prod.snd (sdS s (opS s (List.length s + 1)) 0))) + 1))) = true by first | assumption | exact (Bool.and_eq_true _ _).mp (by assumption)))))
                    · try simp only [bs] at hgs7
                      refine RA_takeG 15 rfl rfl rfl rfl rfl (by kernel_rfl) (by kernel_rfl) (by kernel_rfl) (p_move rfl) (lt_dec rfl) ?_
                      refine RA_twoD 0 13 rfl rfl (by kernel_rfl) ?_ ?_
                      · refine .plain rfl ?_
                        refine Xt_of_Qt rfl (lt_dec rfl) ((q_load rfl rfl m0 rfl (by first | exact True.intro | trivial | (first | omega | (dsimp only; omega)) | exact Fin.isLt _ | (dsimp only; omega)))) ?_
                        refine RA_oneG 13 rfl rfl rfl rfl (by kernel_rfl) (Xt_of_Qt rfl (lt_dec rfl) ((q_load rfl rfl m0 rfl (by first | exact True.intro | trivial | (first | omega | (dsimp only; omega)) | exact Fin.isLt _ | (dsimp only; omega)))) ?_)
                        refine RA_oneG 14 rfl rfl rfl rfl (by kernel_rfl) (Xt_of_Qt rfl (lt_dec rfl) ((q_call en_spec_l03Shown rfl (w_spec_l03Shown (And.left (show isTerm (Prod.fst (sdS s (opS s (List.length s + 1)) 0)) = true ∧ isTerm (Prod.fst (sdS s (opS s (List.length s + 1)) ((Prod.fst (Prod.snd (sdS s (opS s (List.length s + 1)) 0))) + 1))) = true by first | assumption | exact (Bool.and_eq_true _ _).mp (by assumption))) (And.right (show isTerm (Prod.fst (sdS s (opS s (List.length s + 1)) 0)) = true ∧ isTerm (Prod.fst (sdS s (opS s (List.length s + 1)) ((Prod.fst (Prod.snd (sdS s (opS s (List.length s + 1)) 0))) + 1))) = true by first | assumption | exact (Bool.and_eq_true _ _).mp (by assumption)))) (View.cons (Vw.rdO m2).v (Vw.rdO m1).v rfl rfl))) ?_)
                        refine RA_takeG 16 rfl rfl rfl rfl rfl (by kernel_rfl) (by kernel_rfl) (by kernel_rfl) (p_eql_s rfl rfl) (lt_dec rfl) ?_
                        refine RA_take 17 rfl rfl rfl (by kernel_rfl) (by kernel_rfl) (by kernel_rfl) (p_pick_t rfl rfl) (lt_dec rfl) ?_
                        refine RA_one 18 rfl rfl (by kernel_rfl) (x_store rfl rfl rfl rfl rfl ((((HpRep.head).tail).tail).tail) rfl (by first | trivial | (first | (first | omega | (dsimp only; omega)) | exact Fin.isLt _)) ?_)
                        refine RA_take 19 rfl rfl rfl (by kernel_rfl) (by kernel_rfl) (by kernel_rfl) (p_assign rfl) (lt_dec rfl) ?_
                        refine RA_done (by kernel_rfl) ?_
                        refine W_ret ?_
                        refine Exists.intro _ (And.intro (.cons (.cell rfl rfl m3 rfl trivial) (.cons (.tmp rfl) .nil)) (Exists.intro ((x17_1, x40_1), ((Prod.fst (sdS s (opS s (List.length s + 1)) 0)), (Prod.fst (sdS s (opS s (List.length s + 1)) ((Prod.fst (Prod.snd (sdS s (opS s (List.length s + 1)) 0))) + 1))))) (And.intro ?_ (And.intro ?_ (And.intro (.cons ((HpDel.head).tail).tail rfl (own_eq rfl) (.cons (HpDel.head).tail rfl (own_eq rfl) .nil)) rfl)))))
                        · exact fun h => ps_eq (by omega) h
                        · first | (have hpb2 : piB s = false := (ps_no2 (k := (List.length s + 1)) (by omega) (by first | exact .inl (by assumption) | exact .inr (.inl (by omega)) | exact .inr (.inr (.inl (by first | assumption | rcases (show isTerm (Prod.fst (sdS s (opS s (List.length s + 1)) 0)) = false ∨ isTerm (Prod.fst (sdS s (opS s (List.length s + 1)) ((Prod.fst (Prod.snd (sdS s (opS s (List.length s + 1)) 0))) + 1))) = false by assumption) with h | h; (rw [h]; rfl); (rw [h, Bool.and_false])))))); rw [hpb2]; rfl) | exact veq_tup2 rfl (veq_bool (ps_fin (by omega) (And.left (show isTerm (Prod.fst (sdS s (opS s (List.length s + 1)) 0)) = true ∧ isTerm (Prod.fst (sdS s (opS s (List.length s + 1)) ((Prod.fst (Prod.snd (sdS s (opS s (List.length s + 1)) 0))) + 1))) = true by first | assumption | exact (Bool.and_eq_true _ _).mp (by assumption))) (And.right (show isTerm (Prod.fst (sdS s (opS s (List.length s + 1)) 0)) = true ∧ isTerm (Prod.fst (sdS s (opS s (List.length s + 1)) ((Prod.fst (Prod.snd (sdS s (opS s (List.length s + 1)) 0))) + 1))) = true by first | assumption | exact (Bool.and_eq_true _ _).mp (by assumption)))))
                      · refine .want rfl rfl rfl ?_
                        refine Xt_of_Qt rfl (lt_dec rfl) ((q_load rfl rfl m0 rfl (by first | exact True.intro | trivial | (first | omega | (dsimp only; omega)) | exact Fin.isLt _ | (dsimp only; omega)))) ?_
                        refine RA_twoD 0 14 rfl rfl (by kernel_rfl) ?_ ?_
                        · refine .plain rfl ?_
                          refine Xt_of_Qt rfl (lt_dec rfl) ((q_load rfl rfl m0 rfl (by first | exact True.intro | trivial | (first | omega | (dsimp only; omega)) | exact Fin.isLt _ | (dsimp only; omega)))) ?_
                          refine RA_oneG 14 rfl rfl rfl rfl (by kernel_rfl) (Xt_of_Qt rfl (lt_dec rfl) ((q_call en_spec_l03Shown rfl (w_spec_l03Shown (And.left (show isTerm (Prod.fst (sdS s (opS s (List.length s + 1)) 0)) = true ∧ isTerm (Prod.fst (sdS s (opS s (List.length s + 1)) ((Prod.fst (Prod.snd (sdS s (opS s (List.length s + 1)) 0))) + 1))) = true by first | assumption | exact (Bool.and_eq_true _ _).mp (by assumption))) (And.right (show isTerm (Prod.fst (sdS s (opS s (List.length s + 1)) 0)) = true ∧ isTerm (Prod.fst (sdS s (opS s (List.length s + 1)) ((Prod.fst (Prod.snd (sdS s (opS s (List.length s + 1)) 0))) + 1))) = true by first | assumption | exact (Bool.and_eq_true _ _).mp (by assumption)))) (View.cons (Vw.rdO m2).v (Vw.rdO m1).v rfl rfl))) ?_)
                          refine RA_takeG 16 rfl rfl rfl rfl rfl (by kernel_rfl) (by kernel_rfl) (by kernel_rfl) (p_eql_s rfl rfl) (lt_dec rfl) ?_
                          refine RA_take 17 rfl rfl rfl (by kernel_rfl) (by kernel_rfl) (by kernel_rfl) (p_pick_t rfl rfl) (lt_dec rfl) ?_
                          refine RA_one 18 rfl rfl (by kernel_rfl) (x_store rfl rfl rfl rfl rfl ((((HpRep.head).tail).tail).tail) rfl (by first | trivial | (first | (first | omega | (dsimp only; omega)) | exact Fin.isLt _)) ?_)
                          refine RA_take 19 rfl rfl rfl (by kernel_rfl) (by kernel_rfl) (by kernel_rfl) (p_assign rfl) (lt_dec rfl) ?_
                          refine RA_done (by kernel_rfl) ?_
                          refine W_ret ?_
                          refine Exists.intro _ (And.intro (.cons (.cell rfl rfl m3 rfl trivial) (.cons (.tmp rfl) .nil)) (Exists.intro ((x17_1, x40_1), ((Prod.fst (sdS s (opS s (List.length s + 1)) 0)), (Prod.fst (sdS s (opS s (List.length s + 1)) ((Prod.fst (Prod.snd (sdS s (opS s (List.length s + 1)) 0))) + 1))))) (And.intro ?_ (And.intro ?_ (And.intro (.cons ((HpDel.head).tail).tail rfl (own_eq rfl) (.cons (HpDel.head).tail rfl (own_eq rfl) .nil)) rfl)))))
                          · exact fun h => ps_eq (by omega) h
                          · first | (have hpb2 : piB s = false := (ps_no2 (k := (List.length s + 1)) (by omega) (by first | exact .inl (by assumption) | exact .inr (.inl (by omega)) | exact .inr (.inr (.inl (by first | assumption | rcases (show isTerm (Prod.fst (sdS s (opS s (List.length s + 1)) 0)) = false ∨ isTerm (Prod.fst (sdS s (opS s (List.length s + 1)) ((Prod.fst (Prod.snd (sdS s (opS s (List.length s + 1)) 0))) + 1))) = false by assumption) with h | h; (rw [h]; rfl); (rw [h, Bool.and_false])))))); rw [hpb2]; rfl) | exact veq_tup2 rfl (veq_bool (ps_fin (by omega) (And.left (show isTerm (Prod.fst (sdS s (opS s (List.length s + 1)) 0)) = true ∧ isTerm (Prod.fst (sdS s (opS s (List.length s + 1)) ((Prod.fst (Prod.snd (sdS s (opS s (List.length s + 1)) 0))) + 1))) = true by first | assumption | exact (Bool.and_eq_true _ _).mp (by assumption))) (And.right (show isTerm (Prod.fst (sdS s (opS s (List.length s + 1)) 0)) = true ∧ isTerm (Prod.fst (sdS s (opS s (List.length s + 1)) ((Prod.fst (Prod.snd (sdS s (opS s (List.length s + 1)) 0))) + 1))) = true by first | assumption | exact (Bool.and_eq_true _ _).mp (by assumption)))))
                        · refine .want rfl rfl rfl ?_
                          refine Xt_of_Qt rfl (lt_dec rfl) ((q_call en_spec_l03Shown rfl (w_spec_l03Shown (And.left (show isTerm (Prod.fst (sdS s (opS s (List.length s + 1)) 0)) = true ∧ isTerm (Prod.fst (sdS s (opS s (List.length s + 1)) ((Prod.fst (Prod.snd (sdS s (opS s (List.length s + 1)) 0))) + 1))) = true by first | assumption | exact (Bool.and_eq_true _ _).mp (by assumption))) (And.right (show isTerm (Prod.fst (sdS s (opS s (List.length s + 1)) 0)) = true ∧ isTerm (Prod.fst (sdS s (opS s (List.length s + 1)) ((Prod.fst (Prod.snd (sdS s (opS s (List.length s + 1)) 0))) + 1))) = true by first | assumption | exact (Bool.and_eq_true _ _).mp (by assumption)))) (View.cons (Vw.rdO m2).v (Vw.rdO m1).v rfl rfl))) ?_
                          refine RA_takeG 16 rfl rfl rfl rfl rfl (by kernel_rfl) (by kernel_rfl) (by kernel_rfl) (p_eql_s rfl rfl) (lt_dec rfl) ?_
                          refine RA_take 17 rfl rfl rfl (by kernel_rfl) (by kernel_rfl) (by kernel_rfl) (p_pick_t rfl rfl) (lt_dec rfl) ?_
                          refine RA_one 0 rfl rfl (by kernel_rfl) (Xt_of_Qt rfl (lt_dec rfl) ((q_load rfl rfl m0 rfl (by first | exact True.intro | trivial | (first | omega | (dsimp only; omega)) | exact Fin.isLt _ | (dsimp only; omega)))) ?_)
                          refine RA_one 18 rfl rfl (by kernel_rfl) (x_store rfl rfl rfl rfl rfl ((((HpRep.head).tail).tail).tail) rfl (by first | trivial | (first | (first | omega | (dsimp only; omega)) | exact Fin.isLt _)) ?_)
                          refine RA_take 19 rfl rfl rfl (by kernel_rfl) (by kernel_rfl) (by kernel_rfl) (p_assign rfl) (lt_dec rfl) ?_
                          refine RA_done (by kernel_rfl) ?_
                          refine W_ret ?_
                          refine Exists.intro _ (And.intro (.cons (.cell rfl rfl m3 rfl trivial) (.cons (.tmp rfl) .nil)) (Exists.intro ((x17_1, x40_1), ((Prod.fst (sdS s (opS s (List.length s + 1)) 0)), (Prod.fst (sdS s (opS s (List.length s + 1)) ((Prod.fst (Prod.snd (sdS s (opS s (List.length s + 1)) 0))) + 1))))) (And.intro ?_ (And.intro ?_ (And.intro (.cons ((HpDel.head).tail).tail rfl (own_eq rfl) (.cons (HpDel.head).tail rfl (own_eq rfl) .nil)) rfl)))))
                          · exact fun h => ps_eq (by omega) h
                          · first | (have hpb2 : piB s = false := (ps_no2 (k := (List.length s + 1)) (by omega) (by first | exact .inl (by assumption) | exact .inr (.inl (by omega)) | exact .inr (.inr (.inl (by first | assumption | rcases (show isTerm (Prod.fst (sdS s (opS s (List.length s + 1)) 0)) = false ∨ isTerm (Prod.fst (sdS s (opS s (List.length s + 1)) ((Prod.fst (Prod.snd (sdS s (opS s (List.length s + 1)) 0))) + 1))) = false by assumption) with h | h; (rw [h]; rfl); (rw [h, Bool.and_false])))))); rw [hpb2]; rfl) | exact veq_tup2 rfl (veq_bool (ps_fin (by omega) (And.left (show isTerm (Prod.fst (sdS s (opS s (List.length s + 1)) 0)) = true ∧ isTerm (Prod.fst (sdS s (opS s (List.length s + 1)) ((Prod.fst (Prod.snd (sdS s (opS s (List.length s + 1)) 0))) + 1))) = true by first | assumption | exact (Bool.and_eq_true _ _).mp (by assumption))) (And.right (show isTerm (Prod.fst (sdS s (opS s (List.length s + 1)) 0)) = true ∧ isTerm (Prod.fst (sdS s (opS s (List.length s + 1)) ((Prod.fst (Prod.snd (sdS s (opS s (List.length s + 1)) 0))) + 1))) = true by first | assumption | exact (Bool.and_eq_true _ _).mp (by assumption)))))
      · try simp only [bs] at hg2
        refine Ops_guard_f rfl rfl rfl (lt_dec rfl) ?_
        refine Ops_guard_f rfl rfl rfl (lt_dec rfl) ?_
        refine Ops_guard_f rfl rfl rfl (lt_dec rfl) ?_
        refine Ops_p (p_pick_t rfl rfl) (lt_dec rfl) ?_
        refine Ops_nil ?_
        refine W_true rfl ?_
        refine W_seq ?_
        refine W_region ?_
        refine Ops_p (p_build rfl rfl rfl rfl (by first | exact True.intro | trivial | (first | omega | (dsimp only; omega)) | exact Fin.isLt _ | (dsimp only; omega))) (lt_dec rfl) ?_
        refine Ops_x rfl (x_store rfl rfl rfl rfl rfl ((HpRep.head).tail) rfl (by first | trivial | (first | (first | omega | (dsimp only; omega)) | exact Fin.isLt _)) ?_)
        refine Ops_p (p_assign rfl) (lt_dec rfl) ?_
        refine Ops_nil ?_
        refine W_ret ?_
        refine Exists.intro _ (And.intro (.cons (.cell rfl rfl m1 rfl trivial) (.cons (.tmp rfl) .nil)) (Exists.intro ((⟨.slice none 0 0, rfl⟩, ⟨.slice none 0 0, rfl⟩), ([], [])) (And.intro ?_ (And.intro ?_ (And.intro (.free rfl (own_nil rfl rfl) (.free rfl (own_nil rfl rfl) .nil)) rfl)))))
        · (have hpb2 : piB s = false := (by first | exact hpb | exact ps_no1 (k := (List.length s + 1)) (by omega) (by first | exact .inl (by assumption) | exact .inr (.inl (by omega)) | exact .inr (.inr (by assumption)))); exact fun h => absurd (h.symm.trans hpb2) (by decide))
        · (have hpb2 : piB s = false := (by first | exact hpb | exact ps_no1 (k := (List.length s + 1)) (by omega) (by first | exact .inl (by assumption) | exact .inr (.inl (by omega)) | exact .inr (.inr (by assumption)))); rw [hpb2]; rfl)
    · try simp only [bs] at hg1
      refine Ops_guard_f rfl rfl rfl (lt_dec rfl) ?_
      refine Ops_guard_f rfl rfl rfl (lt_dec rfl) ?_
      refine Ops_guard_f rfl rfl rfl (lt_dec rfl) ?_
      refine Ops_p (p_pick_t rfl rfl) (lt_dec rfl) ?_
      refine Ops_p (p_move rfl) (lt_dec rfl) ?_
      refine Ops_guard_f rfl rfl rfl (lt_dec rfl) ?_
      refine Ops_guard_f rfl rfl rfl (lt_dec rfl) ?_
      refine Ops_guard_f rfl rfl rfl (lt_dec rfl) ?_
      refine Ops_guard_f rfl rfl rfl (lt_dec rfl) ?_
      refine Ops_p (p_pick_t rfl rfl) (lt_dec rfl) ?_
      refine Ops_nil ?_
      refine W_true rfl ?_
      refine W_seq ?_
      refine W_region ?_
      refine Ops_p (p_build rfl rfl rfl rfl (by first | exact True.intro | trivial | (first | omega | (dsimp only; omega)) | exact Fin.isLt _ | (dsimp only; omega))) (lt_dec rfl) ?_
      refine Ops_x rfl (x_store rfl rfl rfl rfl rfl ((HpRep.head).tail) rfl (by first | trivial | (first | (first | omega | (dsimp only; omega)) | exact Fin.isLt _)) ?_)
      refine Ops_p (p_assign rfl) (lt_dec rfl) ?_
      refine Ops_nil ?_
      refine W_ret ?_
      refine Exists.intro _ (And.intro (.cons (.cell rfl rfl m1 rfl trivial) (.cons (.tmp rfl) .nil)) (Exists.intro ((⟨.slice none 0 0, rfl⟩, ⟨.slice none 0 0, rfl⟩), ([], [])) (And.intro ?_ (And.intro ?_ (And.intro (.free rfl (own_nil rfl rfl) (.free rfl (own_nil rfl rfl) .nil)) rfl)))))
      · (have hpb2 : piB s = false := (by first | exact hpb | exact ps_no1 (k := (List.length s + 1)) (by omega) (by first | exact .inl (by assumption) | exact .inr (.inl (by omega)) | exact .inr (.inr (by assumption)))); exact fun h => absurd (h.symm.trans hpb2) (by decide))
      · (have hpb2 : piB s = false := (by first | exact hpb | exact ps_no1 (k := (List.length s + 1)) (by omega) (by first | exact .inl (by assumption) | exact .inr (.inl (by omega)) | exact .inr (.inr (by assumption)))); rw [hpb2]; rfl)
end Go.Proofs.Ytdcpggdbjllmpaa
