/- What the Go function impl.parseIdentity does, shown of its loaded text; its conditions stand in the statement. -/
import Derived.Test.YtdcpggdbjllmpaaTy
import Derived.Test.YtdcpggdbjllmpaaFpimplwordsnext
import Derived.Test.YtdcpggdbjllmpaaFpimplwordspart
import Derived.Test.YtdcpggdbjllmpaaFpimplwordsterm
import Derived.Test.YtdcpggdbjllmpaaFimplidentityText
import Derived.Test.YtdcpggdbjllmpaaFimplisIdentity
import Derived.Test.YtdcpggdbjllmpaaGx12
import Derived.Test.YtdcpggdbjllmpaaGx14
import Derived.Test.YtdcpggdbjllmpaaGx24
import Derived.Test.YtdcpggdbjllmpaaGx27
import Derived.Test.YtdcpggdbjllmpaaGx34
import Derived.Test.YtdcpggdbjllmpaaM41
namespace Go.Proofs.Ytdcpggdbjllmpaa
open Go Gx
set_option linter.unusedVariables false
theorem en_impl_parseIdentity : Enters Try.prog 50 := enters_of Try.func50 (by kernel_rfl) (by kernel_rfl)
set_option maxRecDepth 100000 in
set_option maxHeartbeats 1000000 in
theorem w_impl_parseIdentity {s : List (Fin 256)} (hs : s.length ≤ 1048576) : CT (X := V1 × V1) Try.prog 50 (vals [.raw (.string (strB s)) rfl]) [] [] (fun x => True) (fun x => .tup [.agg [.raw x.1.1 x.1.2, .raw x.2.1 x.2.2], .bool (piB s)]) (fun x => [own x.1.1 5 (.u8s (Prod.fst (piR s))), own x.2.1 5 (.u8s (Prod.snd (piR s)))]) := by
  refine CT_intro (rs := [.cell 2 32, .tmp 3]) tt tok Try.func50 rfl rfl rfl (by first | rfl | assumption) fun w => ?_
  show W _ _ _ ⟨tmOf 0 [.raw (.string (strB s)) rfl], []⟩
  refine W_seq ?_
  refine W_region ?_
  refine Ops_x rfl (x_alloc rfl (lt_dec rfl) fun b2_1 => ?_)
  refine Ops_p (p_assign rfl) (lt_dec rfl) ?_
  refine Ops_nil ?_
  refine W_seq ?_
  refine W_seq ?_
  refine W_region ?_
  refine Ops_p (p_move rfl) (lt_dec rfl) ?_
  refine Ops_p (p_len_B rfl rfl rfl) (lt_dec rfl) ?_
  refine Ops_p (p_gtr rfl rfl) (lt_dec rfl) ?_
  refine Ops_nil ?_
  refine W_cond rfl (fun h1 => ?_) (fun h1 => ?_)
  · try simp only [bs] at h1
    have hpb := pi_len (s := s) (by omega)
    refine W_seq ?_
    refine W_region ?_
    refine Ops_p (p_build rfl rfl rfl rfl (by first | exact True.intro | trivial | (first | omega | (dsimp only; omega)) | exact Fin.isLt _ | (dsimp only; omega))) (lt_dec rfl) ?_
    refine Ops_x rfl (x_store rfl rfl rfl rfl rfl HpRep.head rfl (by first | trivial | (first | (first | omega | (dsimp only; omega)) | exact Fin.isLt _)) ?_)
    refine Ops_p (p_assign rfl) (lt_dec rfl) ?_
    refine Ops_nil ?_
    refine W_ret ?_
    refine Exists.intro _ (And.intro (.cons (.cell rfl rfl m0 rfl trivial) (.cons (.tmp rfl) .nil)) (Exists.intro (⟨.slice none 0 0, rfl⟩, ⟨.slice none 0 0, rfl⟩) (And.intro ?_ (And.intro ?_ (And.intro (.free rfl (own_nil (by rw [piR_f (by first | exact hpb | exact pi_noT (k := (List.length s + 1)) (by omega) (by intro hh; simp_all))]; rfl) (by rw [piR_f (by first | exact hpb | exact pi_noT (k := (List.length s + 1)) (by omega) (by intro hh; simp_all))]; rfl)) (.free rfl (own_nil (by rw [piR_f (by first | exact hpb | exact pi_noT (k := (List.length s + 1)) (by omega) (by intro hh; simp_all))]; rfl) (by rw [piR_f (by first | exact hpb | exact pi_noT (k := (List.length s + 1)) (by omega) (by intro hh; simp_all))]; rfl)) .nil)) rfl)))))
    · trivial
    · (have hpb2 : piB s = false := (by first | exact hpb | exact pi_noT (k := (List.length s + 1)) (by omega) (by intro hh; simp_all)); rw [hpb2]; rfl)
  · try simp only [bs] at h1
    refine W_skip ?_
    refine W_seq ?_
    refine W_region ?_
    refine Ops_p (p_move rfl) (lt_dec rfl) ?_
    refine Ops_p (p_build rfl rfl rfl rfl (by first | exact True.intro | trivial | (first | omega | (dsimp only; omega)) | exact Fin.isLt _ | (dsimp only; omega))) (lt_dec rfl) ?_
    refine Ops_x rfl (x_box rfl rfl (lt_dec rfl) fun b13_1 => ?_)
    refine Ops_p (p_assign rfl) (lt_dec rfl) ?_
    refine Ops_nil ?_
    refine W_seq ?_
    obtain ⟨t1, t2, t3⟩ := tmW_fact (s := s) (pt := ptW s (List.length s + 1)) (fun q hq => ptW_fact (List.length s + 1) q hq) (p := 0) (Nat.zero_le _)
    obtain ⟨n1, n2⟩ := nxW_le t2
    obtain ⟨u1, u2, u3⟩ := tmW_fact (s := s) (pt := ptW s (List.length s + 1)) (fun q hq => ptW_fact (List.length s + 1) q hq) (p := (Prod.snd (nxW s (Prod.snd (tmW s (ptW s (List.length s + 1)) 0))))) n2
    refine W_region ?_
    refine Ops_p (p_move rfl) (lt_dec rfl) ?_
    refine Ops_x rfl (x_callT en_pimpl_words_term rfl (w_pimpl_words_term (s := s) (bw := b13_1) (k := (List.length s + 1)) (p := 0) (by omega) (Nat.zero_le _) (by omega) en_pimpl_words_part (fun q hq hkq => w_pimpl_words_part (by omega) hq hkq)) (HpDels.cons HpDel.head HpDels.nil) (Vw.none _) (fun _ => (HpDels.cons (HpDel.head).tail (HpDels.cons HpDel.head HpDels.nil))) (lt_dec rfl) fun x15_1 hx1 => ?_)
    refine Ops_p (p_assign rfl) (lt_dec rfl) ?_
    refine Ops_nil ?_
    refine W_seq ?_
    refine W_seq ?_
    refine W_region ?_
    refine Ops_p (p_move rfl) (lt_dec rfl) ?_
    refine Ops_x rfl (x_callT en_pimpl_words_next rfl (w_pimpl_words_next (s := s) (bw := b13_1) (p := (Prod.snd (tmW s (ptW s (List.length s + 1)) 0))) (by omega) t2) (HpDels.cons (HpDel.head).tail HpDels.nil) (Vw.none _) (fun _ => (HpDels.cons (HpDel.head).tail HpDels.nil)) (lt_dec rfl) fun _ _ => ?_)
    first | refine Ops_p (p_neq_8 rfl rfl) (lt_dec rfl) ?_ | refine Ops_p (p_neq rfl rfl) (lt_dec rfl) ?_
    refine Ops_nil ?_
    refine W_cond rfl (fun h2 => ?_) (fun h2 => ?_)
    · try simp only [bs] at h2
      have hpb := pi_no61 (s := s) (k := (List.length s + 1)) (by omega) (fun e => h2 e)
      refine W_seq ?_
      refine W_region ?_
      refine Ops_p (p_build rfl rfl rfl rfl (by first | exact True.intro | trivial | (first | omega | (dsimp only; omega)) | exact Fin.isLt _ | (dsimp only; omega))) (lt_dec rfl) ?_
      refine Ops_x rfl (x_store rfl rfl rfl rfl rfl (((HpRep.head).tail).tail) rfl (by first | trivial | (first | (first | omega | (dsimp only; omega)) | exact Fin.isLt _)) ?_)
      refine Ops_p (p_assign rfl) (lt_dec rfl) ?_
      refine Ops_nil ?_
      refine W_ret ?_
      refine Exists.intro _ (And.intro (.cons (.cell rfl rfl m2 rfl trivial) (.cons (.tmp rfl) .nil)) (Exists.intro (⟨.slice none 0 0, rfl⟩, ⟨.slice none 0 0, rfl⟩) (And.intro ?_ (And.intro ?_ (And.intro (.free rfl (own_nil (by rw [piR_f (by first | exact hpb | exact pi_noT (k := (List.length s + 1)) (by omega) (by intro hh; simp_all))]; rfl) (by rw [piR_f (by first | exact hpb | exact pi_noT (k := (List.length s + 1)) (by omega) (by intro hh; simp_all))]; rfl)) (.free rfl (own_nil (by rw [piR_f (by first | exact hpb | exact pi_noT (k := (List.length s + 1)) (by omega) (by intro hh; simp_all))]; rfl) (by rw [piR_f (by first | exact hpb | exact pi_noT (k := (List.length s + 1)) (by omega) (by intro hh; simp_all))]; rfl)) .nil)) rfl)))))
      · trivial
      · (have hpb2 : piB s = false := (by first | exact hpb | exact pi_noT (k := (List.length s + 1)) (by omega) (by intro hh; simp_all)); rw [hpb2]; rfl)
    · try simp only [bs] at h2
      refine W_skip ?_
      refine W_seq ?_
      refine W_region ?_
      refine Ops_p (p_move rfl) (lt_dec rfl) ?_
      refine Ops_p (p_move rfl) (lt_dec rfl) ?_
      refine Ops_x rfl (x_callT en_pimpl_words_term rfl (w_pimpl_words_term (s := s) (bw := b13_1) (k := (List.length s + 1)) (p := (Prod.snd (nxW s (Prod.snd (tmW s (ptW s (List.length s + 1)) 0))))) (by omega) n2 (by omega) en_pimpl_words_part (fun q hq hkq => w_pimpl_words_part (by omega) hq hkq)) (HpDels.cons (HpDel.head).tail HpDels.nil) (Vw.none _) (fun _ => (HpDels.cons ((HpDel.head).tail).tail (HpDels.cons HpDel.head HpDels.nil))) (lt_dec rfl) fun x22_1 hx2 => ?_)
      refine Ops_p (p_build rfl rfl rfl rfl (by first | exact True.intro | trivial | (first | omega | (dsimp only; omega)) | exact Fin.isLt _ | (dsimp only; omega))) (lt_dec rfl) ?_
      refine Ops_x rfl (x_alloc rfl (lt_dec rfl) fun b6_1 => ?_)
      refine Ops_x rfl (x_store rfl rfl rfl rfl rfl HpRep.head rfl (by first | trivial | (first | (first | omega | (dsimp only; omega)) | exact Fin.isLt _)) ?_)
      refine Ops_nil ?_
      refine W_seq ?_
      refine W_seq ?_
      refine W_region ?_
      refine Ops_q (q_load rfl rfl m0 rfl (by first | exact True.intro | trivial | (first | omega | (dsimp only; omega)) | exact Fin.isLt _ | (dsimp only; omega))) (lt_dec rfl) ?_
      refine Ops_q (q_call en_impl_isIdentity rfl (w_impl_isIdentity (by omega) (by omega)) (View.cons (Vw.rdO m2).v (Vw.rdO m1).v rfl rfl)) (lt_dec rfl) ?_
      refine Ops_p (p_not rfl) (lt_dec rfl) ?_
      refine Ops_p (p_move rfl) (lt_dec rfl) ?_
      refine Ops_guard rfl rfl (lt_dec rfl) (fun hg1 => ?_) (fun hg1 => ?_)
      · try simp only [bs] at hg1
        refine Ops_q (q_load rfl rfl m0 rfl (by first | exact True.intro | trivial | (first | omega | (dsimp only; omega)) | exact Fin.isLt _ | (dsimp only; omega))) (lt_dec rfl) ?_
        refine Ops_guard_t rfl rfl (lt_dec rfl) ?_
        refine Ops_q (q_call en_impl_identityText rfl (w_impl_identityText hg1.1 hg1.2) (View.cons (Vw.rdO m2).v (Vw.rdO m1).v rfl rfl)) (lt_dec rfl) ?_
        refine Ops_guard_t rfl rfl (lt_dec rfl) ?_
        refine Ops_p (p_move rfl) (lt_dec rfl) ?_
        refine Ops_guard_t rfl rfl (lt_dec rfl) ?_
        refine Ops_p (p_neq_s rfl rfl) (lt_dec rfl) ?_
        refine Ops_p (p_pick_f rfl rfl) (lt_dec rfl) ?_
        refine Ops_nil ?_
        refine W_cond rfl (fun h3 => ?_) (fun h3 => ?_)
        · try simp only [bs] at h3
          have hpb := pi_noS (s := s) (k := (List.length s + 1)) (by omega) (fun e => h3 e)
          refine W_seq ?_
          refine W_region ?_
          refine Ops_p (p_build rfl rfl rfl rfl (by first | exact True.intro | trivial | (first | omega | (dsimp only; omega)) | exact Fin.isLt _ | (dsimp only; omega))) (lt_dec rfl) ?_
          refine Ops_x rfl (x_store rfl rfl rfl rfl rfl (((((HpRep.head).tail).tail).tail).tail) rfl (by first | trivial | (first | (first | omega | (dsimp only; omega)) | exact Fin.isLt _)) ?_)
          refine Ops_p (p_assign rfl) (lt_dec rfl) ?_
          refine Ops_nil ?_
          refine W_ret ?_
          refine Exists.intro _ (And.intro (.cons (.cell rfl rfl m4 rfl trivial) (.cons (.tmp rfl) .nil)) (Exists.intro (⟨.slice none 0 0, rfl⟩, ⟨.slice none 0 0, rfl⟩) (And.intro ?_ (And.intro ?_ (And.intro (.free rfl (own_nil (by rw [piR_f (by first | exact hpb | exact pi_noT (k := (List.length s + 1)) (by omega) (by intro hh; simp_all))]; rfl) (by rw [piR_f (by first | exact hpb | exact pi_noT (k := (List.length s + 1)) (by omega) (by intro hh; simp_all))]; rfl)) (.free rfl (own_nil (by rw [piR_f (by first | exact hpb | exact pi_noT (k := (List.length s + 1)) (by omega) (by intro hh; simp_all))]; rfl) (by rw [piR_f (by first | exact hpb | exact pi_noT (k := (List.length s + 1)) (by omega) (by intro hh; simp_all))]; rfl)) .nil)) rfl)))))
          · trivial
          · (have hpb2 : piB s = false := (by first | exact hpb | exact pi_noT (k := (List.length s + 1)) (by omega) (by intro hh; simp_all)); rw [hpb2]; rfl)
        · try simp only [bs] at h3
          have hid : IdOk s ((Prod.fst (tmW s (ptW s (List.length s + 1)) 0)), (Prod.fst (tmW s (ptW s (List.length s + 1)) (Prod.snd (nxW s (Prod.snd (tmW s (ptW s (List.length s + 1)) 0))))))) := ⟨hg1.1, hg1.2, h3⟩; have hr1 : Rw.u8s (Prod.fst (tmW s (ptW s (List.length s + 1)) 0)) = Rw.u8s (piR s).1 := (by rw [piR_of hid]); have hr2 : Rw.u8s (Prod.fst (tmW s (ptW s (List.length s + 1)) (Prod.snd (nxW s (Prod.snd (tmW s (ptW s (List.length s + 1)) 0)))))) = Rw.u8s (piR s).2 := (by rw [piR_of hid])
          refine W_skip ?_
          refine W_seq ?_
          refine W_region ?_
          refine Ops_q (q_load rfl rfl m0 rfl (by first | exact True.intro | trivial | (first | omega | (dsimp only; omega)) | exact Fin.isLt _ | (dsimp only; omega))) (lt_dec rfl) ?_
          refine Ops_x rfl (x_store rfl rfl rfl rfl rfl (((((HpRep.head).tail).tail).tail).tail) rfl (by first | trivial | (first | (first | omega | (dsimp only; omega)) | exact Fin.isLt _)) ?_)
          refine Ops_p (p_assign rfl) (lt_dec rfl) ?_
          refine Ops_nil ?_
          refine W_ret ?_
          refine Exists.intro _ (And.intro (.cons (.cell rfl rfl m4 rfl trivial) (.cons (.tmp rfl) .nil)) (Exists.intro (x15_1, x22_1) (And.intro ?_ (And.intro ?_ (And.intro (.cons ((HpDel.head).tail).tail rfl (own_eq (r := .u8s (Prod.fst (tmW s (ptW s (List.length s + 1)) 0))) (r' := .u8s (piR s).1) hr1) (.cons (HpDel.head).tail rfl (own_eq (r := .u8s (Prod.fst (tmW s (ptW s (List.length s + 1)) (Prod.snd (nxW s (Prod.snd (tmW s (ptW s (List.length s + 1)) 0))))))) (r' := .u8s (piR s).2) hr2) .nil)) rfl)))))
          · trivial
          · (rw [piB_t hid]; rfl)
      · try simp only [bs] at hg1
        refine Ops_guard_f rfl rfl rfl (lt_dec rfl) ?_
        refine Ops_guard_f rfl rfl rfl (lt_dec rfl) ?_
        refine Ops_guard_f rfl rfl rfl (lt_dec rfl) ?_
        refine Ops_p (p_pick_t rfl rfl) (lt_dec rfl) ?_
        refine Ops_nil ?_
        refine W_true rfl ?_
        refine W_seq ?_
        refine W_region ?_
        refine Ops_p (p_build rfl rfl rfl rfl (by first | exact True.intro | trivial | (first | omega | (dsimp only; omega)) | exact Fin.isLt _ | (dsimp only; omega))) (lt_dec rfl) ?_
        refine Ops_x rfl (x_store rfl rfl rfl rfl rfl (((((HpRep.head).tail).tail).tail).tail) rfl (by first | trivial | (first | (first | omega | (dsimp only; omega)) | exact Fin.isLt _)) ?_)
        refine Ops_p (p_assign rfl) (lt_dec rfl) ?_
        refine Ops_nil ?_
        refine W_ret ?_
        refine Exists.intro _ (And.intro (.cons (.cell rfl rfl m4 rfl trivial) (.cons (.tmp rfl) .nil)) (Exists.intro (⟨.slice none 0 0, rfl⟩, ⟨.slice none 0 0, rfl⟩) (And.intro ?_ (And.intro ?_ (And.intro (.free rfl (own_nil (by rw [piR_f (by first | exact hpb | exact pi_noT (k := (List.length s + 1)) (by omega) (by intro hh; simp_all))]; rfl) (by rw [piR_f (by first | exact hpb | exact pi_noT (k := (List.length s + 1)) (by omega) (by intro hh; simp_all))]; rfl)) (.free rfl (own_nil (by rw [piR_f (by first | exact hpb | exact pi_noT (k := (List.length s + 1)) (by omega) (by intro hh; simp_all))]; rfl) (by rw [piR_f (by first | exact hpb | exact pi_noT (k := (List.length s + 1)) (by omega) (by intro hh; simp_all))]; rfl)) .nil)) rfl)))))
        · trivial
        · (have hpb2 : piB s = false := (by first | exact hpb | exact pi_noT (k := (List.length s + 1)) (by omega) (by intro hh; simp_all)); rw [hpb2]; rfl)
end Go.Proofs.Ytdcpggdbjllmpaa
