/- What the Go function spec.l03Side does, shown of its loaded text; its conditions stand in the statement. -/
import Derived.Test.YtdcpggdbjllmpaaTy
import Derived.Test.YtdcpggdbjllmpaaFspecl03Op
import Derived.Test.YtdcpggdbjllmpaaGx12
import Derived.Test.YtdcpggdbjllmpaaGx14
import Derived.Test.YtdcpggdbjllmpaaGx24
import Derived.Test.YtdcpggdbjllmpaaGx27
import Derived.Test.YtdcpggdbjllmpaaGx28
import Derived.Test.YtdcpggdbjllmpaaGx34
import Derived.Test.YtdcpggdbjllmpaaM41
namespace Go.Proofs.Ytdcpggdbjllmpaa
open Go Gx
set_option linter.unusedVariables false
theorem en_spec_l03Side : Enters Try.prog 82 := enters_of Try.func82 (by kernel_rfl) (by kernel_rfl)
set_option maxRecDepth 100000 in
set_option maxHeartbeats 1000000 in
theorem w_spec_l03Side {s : List (Fin 256)} {k p : Nat} (hs : s.length ≤ 1000) (hp : p ≤ s.length) (hk : s.length < p + k) (hen : Enters Try.prog 97) (hop : ∀ q : Nat, q ≤ s.length → s.length < q + k → CT (X := V1) Try.prog 97 (vals [.raw (.string (strB s)) rfl, .int .i64 (q : Int)]) [] [] (fun _ => True) (fun x => .tup [.raw x.1 x.2, .int .i64 (((opS s k q).2.1 : Nat) : Int), .bool (opS s k q).2.2]) (fun x => [own x.1 5 (.u8s (opS s k q).1)])) : CT (X := V1) Try.prog 82 (vals [.raw (.string (strB s)) rfl, .int .i64 (p : Int)]) [] [] (fun x => True) (fun x => .tup [.raw x.1 x.2, .int .i64 (((sdS s (opS s k) p).2.1 : Nat) : Int), .bool (sdS s (opS s k) p).2.2]) (fun x => [own x.1 5 (.u8s (sdS s (opS s k) p).1)]) := by
  refine CT_intro (rs := [.tmp 4, .tmp 5, .tmp 6]) tt tok Try.func82 rfl rfl rfl (by first | rfl | assumption) fun w => ?_
  show W _ _ _ ⟨tmOf 0 [.raw (.string (strB s)) rfl, .int .i64 (p : Int)], []⟩
  obtain ⟨f1, f2, f3, f4⟩ := opS_fact k p hp
  refine W_seq ?_
  refine W_region ?_
  refine Ops_p (p_assign rfl) (lt_dec rfl) ?_
  refine Ops_p (p_assign rfl) (lt_dec rfl) ?_
  refine Ops_p (p_assign rfl) (lt_dec rfl) ?_
  refine Ops_nil ?_
  refine W_seq ?_
  refine W_region ?_
  refine Ops_p (p_move rfl) (lt_dec rfl) ?_
  refine Ops_p (p_move rfl) (lt_dec rfl) ?_
  refine Ops_x rfl (x_callT hen rfl ((hop p hp hk)) HpDels.nil (Vw.none _) (fun _ => (HpDels.cons HpDel.head HpDels.nil)) (lt_dec rfl) fun x16_1 _ => ?_)
  refine Ops_p (p_move rfl) (lt_dec rfl) ?_
  refine Ops_p (p_extract rfl rfl) (lt_dec rfl) ?_
  refine Ops_p (p_extract rfl rfl) (lt_dec rfl) ?_
  refine Ops_p (p_extract rfl rfl) (lt_dec rfl) ?_
  refine Ops_p (p_assign rfl) (lt_dec rfl) ?_
  refine Ops_p (p_assign rfl) (lt_dec rfl) ?_
  refine Ops_p (p_assign rfl) (lt_dec rfl) ?_
  refine Ops_nil ?_
  refine W_seq ?_
  refine W_seq ?_
  refine W_region ?_
  refine Ops_p (p_move rfl) (lt_dec rfl) ?_
  refine Ops_p (p_not rfl) (lt_dec rfl) ?_
  refine Ops_p (p_move rfl) (lt_dec rfl) ?_
  refine Ops_guard rfl rfl (lt_dec rfl) (fun hg1 => ?_) (fun hg1 => ?_)
  · try simp only [bs] at hg1
    refine Ops_p (p_move rfl) (lt_dec rfl) ?_
    refine Ops_guard_t rfl rfl (lt_dec rfl) ?_
    refine Ops_p (p_move rfl) (lt_dec rfl) ?_
    refine Ops_guard_t rfl rfl (lt_dec rfl) ?_
    refine Ops_p (p_len_B rfl rfl rfl) (lt_dec rfl) ?_
    refine Ops_guard_t rfl rfl (lt_dec rfl) ?_
    refine Ops_p (p_geq rfl rfl) (lt_dec rfl) ?_
    refine Ops_p (p_pick_f rfl rfl) (lt_dec rfl) ?_
    refine Ops_p (p_move rfl) (lt_dec rfl) ?_
    refine Ops_guard rfl rfl (lt_dec rfl) (fun hg2 => ?_) (fun hg2 => ?_)
    · try simp only [bs] at hg2
      refine Ops_p (p_move rfl) (lt_dec rfl) ?_
      refine Ops_guard_t rfl rfl (lt_dec rfl) ?_
      refine Ops_p (p_move rfl) (lt_dec rfl) ?_
      refine Ops_guard_t rfl rfl (lt_dec rfl) ?_
      refine Ops_p ((p_index_s (Prod.fst (Prod.snd (opS s k p))) rfl rfl rfl rfl (by omega))) (lt_dec rfl) ?_
      refine Ops_guard_t rfl rfl (lt_dec rfl) ?_
      refine Ops_q (q_call en_spec_l03Op rfl (w_spec_l03Op) (View.none _)) (lt_dec rfl) ?_
      refine Ops_guard_t rfl rfl (lt_dec rfl) ?_
      refine Ops_p (p_not rfl) (lt_dec rfl) ?_
      refine Ops_p (p_pick_f rfl rfl) (lt_dec rfl) ?_
      refine Ops_nil ?_
      refine W_cond rfl (fun h1 => ?_) (fun h1 => ?_)
      · try simp only [bs] at h1
        refine W_seq ?_
        refine W_region ?_
        refine Ops_p (p_move rfl) (lt_dec rfl) ?_
        refine Ops_p (p_move rfl) (lt_dec rfl) ?_
        refine Ops_p (p_move rfl) (lt_dec rfl) ?_
        refine Ops_p (p_assign rfl) (lt_dec rfl) ?_
        refine Ops_p (p_assign rfl) (lt_dec rfl) ?_
        refine Ops_p (p_assign rfl) (lt_dec rfl) ?_
        refine Ops_nil ?_
        refine W_ret ?_
        refine Exists.intro _ (And.intro (.cons (.tmp rfl) (.cons (.tmp rfl) (.cons (.tmp rfl) .nil))) (Exists.intro x16_1 (And.intro ?_ (And.intro ?_ (And.intro (.cons HpDel.head rfl (own_eq (by rw [sd_stop (s := s) (op := opS s k) (p := p) (by first | exact .inl (by assumption) | exact .inr (.inl (by omega)) | exact .inr (.inr (by assumption)))])) .nil) rfl)))))
        · trivial
        · (rw [sd_stop (s := s) (op := opS s k) (p := p) (by first | exact .inl (by assumption) | exact .inr (.inl (by omega)) | exact .inr (.inr (by assumption)))]; rfl)
      · try simp only [bs] at h1
        have hgo : ¬ ((Prod.snd (Prod.snd (opS s k p))) = false ∨ s.length ≤ (Prod.fst (Prod.snd (opS s k p))) ∨ operB (s.getD (Prod.fst (Prod.snd (opS s k p))) 0) = false) := (by rintro (h | h | h); simp_all; omega; simp_all); obtain ⟨g1, g2, g3, g4⟩ := opS_fact (s := s) k ((Prod.fst (Prod.snd (opS s k p))) + 1) (by omega)
        refine W_skip ?_
        refine W_seq ?_
        refine W_region ?_
        refine Ops_p (p_move rfl) (lt_dec rfl) ?_
        refine Ops_p (p_move rfl) (lt_dec rfl) ?_
        refine Ops_p ((p_add rfl rfl (by exact ⟨by omega, by omega⟩)).eq (d' := .int .i64 ((((Prod.fst (Prod.snd (opS s k p))) + 1) : Nat) : Int)) (veq_int (by omega))) (lt_dec rfl) ?_
        refine Ops_x rfl (x_callT hen rfl ((hop ((Prod.fst (Prod.snd (opS s k p))) + 1) (by omega) (by omega))) HpDels.nil (Vw.none _) (fun _ => (HpDels.cons HpDel.head HpDels.nil)) (lt_dec rfl) fun x42_1 _ => ?_)
        refine Ops_p (p_move rfl) (lt_dec rfl) ?_
        refine Ops_p (p_extract rfl rfl) (lt_dec rfl) ?_
        refine Ops_p (p_extract rfl rfl) (lt_dec rfl) ?_
        refine Ops_p (p_extract rfl rfl) (lt_dec rfl) ?_
        refine Ops_p (p_assign rfl) (lt_dec rfl) ?_
        refine Ops_p (p_assign rfl) (lt_dec rfl) ?_
        refine Ops_p (p_assign rfl) (lt_dec rfl) ?_
        refine Ops_nil ?_
        refine W_seq ?_
        refine W_seq ?_
        refine W_region ?_
        refine Ops_p (p_move rfl) (lt_dec rfl) ?_
        refine Ops_p (p_not rfl) (lt_dec rfl) ?_
        refine Ops_nil ?_
        refine W_cond rfl (fun h2 => ?_) (fun h2 => ?_)
        · try simp only [bs] at h2
          have hsd := sd_fail hgo h2
          refine W_seq ?_
          refine W_region ?_
          refine Ops_p (p_move rfl) (lt_dec rfl) ?_
          refine Ops_p (p_assign rfl) (lt_dec rfl) ?_
          refine Ops_p (p_assign rfl) (lt_dec rfl) ?_
          refine Ops_p (p_assign rfl) (lt_dec rfl) ?_
          refine Ops_nil ?_
          refine W_ret ?_
          refine Exists.intro _ (And.intro (.cons (.tmp rfl) (.cons (.tmp rfl) (.cons (.tmp rfl) .nil))) (Exists.intro ⟨.slice none 0 0, rfl⟩ (And.intro ?_ (And.intro ?_ (And.intro (.free rfl (own_nil (by rw [hsd]; rfl) (by rw [hsd]; rfl)) .nil) rfl)))))
          · trivial
          · (rw [hsd]; rfl)
        · try simp only [bs] at h2
          have hbr : (Prod.snd (Prod.snd (opS s k ((Prod.fst (Prod.snd (opS s k p))) + 1)))) = true := h2; have hsd := sd_go hgo (by rw [hbr]; decide); have hbl := g4 hbr
          refine W_skip ?_
          refine W_seq ?_
          refine W_draw (by kernel_rfl) ?_
          show RA _ _ 12 _ _ _
          first | refine RA_take 3 rfl rfl rfl (by kernel_rfl) (by kernel_rfl) (by kernel_rfl) (p_move rfl) (lt_dec rfl) ?_
          first | refine RA_take 4 rfl rfl rfl (by kernel_rfl) (by kernel_rfl) (by kernel_rfl) (p_move rfl) (lt_dec rfl) ?_
          first | refine RA_take 8 rfl rfl rfl (by kernel_rfl) (by kernel_rfl) (by kernel_rfl) (p_move rfl) (lt_dec rfl) ?_
          first | refine RA_take 5 rfl rfl rfl (by kernel_rfl) (by kernel_rfl) (by kernel_rfl) ((p_index_s (Prod.fst (Prod.snd (opS s k p))) rfl rfl rfl rfl (by omega))) (lt_dec rfl) ?_
          refine RA_three 0 1 6 rfl rfl rfl rfl rfl rfl (by kernel_rfl) ?_ ?_ ?_
          · refine Xt_of_Qt rfl (lt_dec rfl) ((p_move rfl).q) ?_
            refine RA_two 1 6 rfl rfl rfl rfl (by kernel_rfl) ?_ ?_
            · refine Xt_of_Qt rfl (lt_dec rfl) ((p_move rfl).q) ?_
              refine RA_two 2 6 rfl rfl rfl rfl (by kernel_rfl) ?_ ?_
              · refine x_appendO (r := .u8s (Prod.fst (opS s k p))) (r2 := .u8s (Prod.fst (opS s k ((Prod.fst (Prod.snd (opS s k p))) + 1)))) (q := .u8s ((Prod.fst (opS s k p)) ++ (Prod.fst (opS s k ((Prod.fst (Prod.snd (opS s k p))) + 1))))) rfl rfl rfl rfl rfl rfl (Rds.own m0) rfl (by show 0 < List.length _; omega) rfl (HpDels.cons (HpDel.head).tail HpDels.nil) (fun _ => (HpDels.cons (HpDel.head).tail HpDels.nil)) (by show (List.length _ + List.length _) * 1 ≤ _; omega) (by show List.length _ + List.length _ ≤ _; omega) (lt_dec rfl) fun v51 => ?_
                refine RA_one 6 rfl rfl (by kernel_rfl) (x_buildSlice rfl rfl rfl rfl rfl rfl rfl rfl (Nat.le_of_ble_eq_true rfl) (lt_dec rfl) fun b55_1 => ?_)
                refine RA_one 7 rfl rfl (by kernel_rfl) (x_appendO (r := .u8s ((Prod.fst (opS s k p)) ++ (Prod.fst (opS s k ((Prod.fst (Prod.snd (opS s k p))) + 1))))) (r2 := .u8s [s.getD (Prod.fst (Prod.snd (opS s k p))) 0]) (q := .u8s (((Prod.fst (opS s k p)) ++ (Prod.fst (opS s k ((Prod.fst (Prod.snd (opS s k p))) + 1)))) ++ [s.getD (Prod.fst (Prod.snd (opS s k p))) 0])) rfl rfl rfl rfl rfl rfl (Rds.row m0 rfl) rfl (by show 0 < 1; omega) rfl (HpDels.cons ((HpDel.head).tail).tail HpDels.nil) (fun _ => (HpDels.cons ((HpDel.head).tail).tail HpDels.nil)) (by show (List.length _ + List.length _) * 1 ≤ _; simp only [List.length_append, List.length_cons, List.length_nil]; omega) (by show List.length _ + List.length _ ≤ _; simp only [List.length_append, List.length_cons, List.length_nil]; omega) (lt_dec rfl) fun v56 => ?_)
                refine RA_quiet (g := 0) [9, 10, 11] (by kernel_rfl) (by kernel_rfl) (by kernel_rfl) (by kernel_rfl) ?_
                refine WQ_cons rfl rfl rfl ((p_assign rfl).q) (lt_dec rfl) ?_
                refine WQ_cons rfl rfl rfl ((p_assign rfl).q) (lt_dec rfl) ?_
                refine WQ_cons rfl rfl rfl ((p_assign rfl).q) (lt_dec rfl) ?_
                refine WQ_nil ?_
                refine RA_done (by kernel_rfl) ?_
                refine W_ret ?_
                refine Exists.intro _ (And.intro (.cons (.tmp rfl) (.cons (.tmp rfl) (.cons (.tmp rfl) .nil))) (Exists.intro v56 (And.intro ?_ (And.intro ?_ (And.intro (.cons ((HpDel.head).tail).tail rfl (own_eq (by rw [hsd])) .nil) rfl)))))
                · trivial
                · (rw [hsd]; rfl)
              · refine x_buildSlice rfl rfl rfl rfl rfl rfl rfl rfl (Nat.le_of_ble_eq_true rfl) (lt_dec rfl) fun b55_2 => ?_
                refine RA_one 2 rfl rfl (by kernel_rfl) (x_appendO (r := .u8s (Prod.fst (opS s k p))) (r2 := .u8s (Prod.fst (opS s k ((Prod.fst (Prod.snd (opS s k p))) + 1)))) (q := .u8s ((Prod.fst (opS s k p)) ++ (Prod.fst (opS s k ((Prod.fst (Prod.snd (opS s k p))) + 1))))) rfl rfl rfl rfl rfl rfl (Rds.own m1) rfl (by show 0 < List.length _; omega) rfl (HpDels.cons ((HpDel.head).tail).tail HpDels.nil) (fun _ => (HpDels.cons ((HpDel.head).tail).tail HpDels.nil)) (by show (List.length _ + List.length _) * 1 ≤ _; omega) (by show List.length _ + List.length _ ≤ _; omega) (lt_dec rfl) fun v51 => ?_)
                refine RA_one 7 rfl rfl (by kernel_rfl) (x_appendO (r := .u8s ((Prod.fst (opS s k p)) ++ (Prod.fst (opS s k ((Prod.fst (Prod.snd (opS s k p))) + 1))))) (r2 := .u8s [s.getD (Prod.fst (Prod.snd (opS s k p))) 0]) (q := .u8s (((Prod.fst (opS s k p)) ++ (Prod.fst (opS s k ((Prod.fst (Prod.snd (opS s k p))) + 1)))) ++ [s.getD (Prod.fst (Prod.snd (opS s k p))) 0])) rfl rfl rfl rfl rfl rfl (Rds.row m0 rfl) rfl (by show 0 < 1; omega) rfl (HpDels.cons ((HpDel.head).tail).tail HpDels.nil) (fun _ => (HpDels.cons ((HpDel.head).tail).tail HpDels.nil)) (by show (List.length _ + List.length _) * 1 ≤ _; simp only [List.length_append, List.length_cons, List.length_nil]; omega) (by show List.length _ + List.length _ ≤ _; simp only [List.length_append, List.length_cons, List.length_nil]; omega) (lt_dec rfl) fun v56 => ?_)
                refine RA_quiet (g := 0) [9, 10, 11] (by kernel_rfl) (by kernel_rfl) (by kernel_rfl) (by kernel_rfl) ?_
                refine WQ_cons rfl rfl rfl ((p_assign rfl).q) (lt_dec rfl) ?_
                refine WQ_cons rfl rfl rfl ((p_assign rfl).q) (lt_dec rfl) ?_
                refine WQ_cons rfl rfl rfl ((p_assign rfl).q) (lt_dec rfl) ?_
                refine WQ_nil ?_
                refine RA_done (by kernel_rfl) ?_
                refine W_ret ?_
                refine Exists.intro _ (And.intro (.cons (.tmp rfl) (.cons (.tmp rfl) (.cons (.tmp rfl) .nil))) (Exists.intro v56 (And.intro ?_ (And.intro ?_ (And.intro (.cons ((HpDel.head).tail).tail rfl (own_eq (by rw [hsd])) .nil) rfl)))))
                · trivial
                · (rw [hsd]; rfl)
            · refine x_buildSlice rfl rfl rfl rfl rfl rfl rfl rfl (Nat.le_of_ble_eq_true rfl) (lt_dec rfl) fun b55_3 => ?_
              refine RA_quiet (g := 5) [1] (by kernel_rfl) (by kernel_rfl) (by kernel_rfl) (by kernel_rfl) ?_
              refine WQ_cons rfl rfl rfl ((p_move rfl).q) (lt_dec rfl) ?_
              refine WQ_nil ?_
              refine RA_one 2 rfl rfl (by kernel_rfl) (x_appendO (r := .u8s (Prod.fst (opS s k p))) (r2 := .u8s (Prod.fst (opS s k ((Prod.fst (Prod.snd (opS s k p))) + 1)))) (q := .u8s ((Prod.fst (opS s k p)) ++ (Prod.fst (opS s k ((Prod.fst (Prod.snd (opS s k p))) + 1))))) rfl rfl rfl rfl rfl rfl (Rds.own m1) rfl (by show 0 < List.length _; omega) rfl (HpDels.cons ((HpDel.head).tail).tail HpDels.nil) (fun _ => (HpDels.cons ((HpDel.head).tail).tail HpDels.nil)) (by show (List.length _ + List.length _) * 1 ≤ _; omega) (by show List.length _ + List.length _ ≤ _; omega) (lt_dec rfl) fun v51 => ?_)
              refine RA_one 7 rfl rfl (by kernel_rfl) (x_appendO (r := .u8s ((Prod.fst (opS s k p)) ++ (Prod.fst (opS s k ((Prod.fst (Prod.snd (opS s k p))) + 1))))) (r2 := .u8s [s.getD (Prod.fst (Prod.snd (opS s k p))) 0]) (q := .u8s (((Prod.fst (opS s k p)) ++ (Prod.fst (opS s k ((Prod.fst (Prod.snd (opS s k p))) + 1)))) ++ [s.getD (Prod.fst (Prod.snd (opS s k p))) 0])) rfl rfl rfl rfl rfl rfl (Rds.row m0 rfl) rfl (by show 0 < 1; omega) rfl (HpDels.cons ((HpDel.head).tail).tail HpDels.nil) (fun _ => (HpDels.cons ((HpDel.head).tail).tail HpDels.nil)) (by show (List.length _ + List.length _) * 1 ≤ _; simp only [List.length_append, List.length_cons, List.length_nil]; omega) (by show List.length _ + List.length _ ≤ _; simp only [List.length_append, List.length_cons, List.length_nil]; omega) (lt_dec rfl) fun v56 => ?_)
              refine RA_quiet (g := 0) [9, 10, 11] (by kernel_rfl) (by kernel_rfl) (by kernel_rfl) (by kernel_rfl) ?_
              refine WQ_cons rfl rfl rfl ((p_assign rfl).q) (lt_dec rfl) ?_
              refine WQ_cons rfl rfl rfl ((p_assign rfl).q) (lt_dec rfl) ?_
              refine WQ_cons rfl rfl rfl ((p_assign rfl).q) (lt_dec rfl) ?_
              refine WQ_nil ?_
              refine RA_done (by kernel_rfl) ?_
              refine W_ret ?_
              refine Exists.intro _ (And.intro (.cons (.tmp rfl) (.cons (.tmp rfl) (.cons (.tmp rfl) .nil))) (Exists.intro v56 (And.intro ?_ (And.intro ?_ (And.intro (.cons ((HpDel.head).tail).tail rfl (own_eq (by rw [hsd])) .nil) rfl)))))
              · trivial
              · (rw [hsd]; rfl)
          · refine Xt_of_Qt rfl (lt_dec rfl) ((p_move rfl).q) ?_
            refine RA_two 0 6 rfl rfl rfl rfl (by kernel_rfl) ?_ ?_
            · refine Xt_of_Qt rfl (lt_dec rfl) ((p_move rfl).q) ?_
              refine RA_two 2 6 rfl rfl rfl rfl (by kernel_rfl) ?_ ?_
              · refine x_appendO (r := .u8s (Prod.fst (opS s k p))) (r2 := .u8s (Prod.fst (opS s k ((Prod.fst (Prod.snd (opS s k p))) + 1)))) (q := .u8s ((Prod.fst (opS s k p)) ++ (Prod.fst (opS s k ((Prod.fst (Prod.snd (opS s k p))) + 1))))) rfl rfl rfl rfl rfl rfl (Rds.own m0) rfl (by show 0 < List.length _; omega) rfl (HpDels.cons (HpDel.head).tail HpDels.nil) (fun _ => (HpDels.cons (HpDel.head).tail HpDels.nil)) (by show (List.length _ + List.length _) * 1 ≤ _; omega) (by show List.length _ + List.length _ ≤ _; omega) (lt_dec rfl) fun v51 => ?_
                refine RA_one 6 rfl rfl (by kernel_rfl) (x_buildSlice rfl rfl rfl rfl rfl rfl rfl rfl (Nat.le_of_ble_eq_true rfl) (lt_dec rfl) fun b55_4 => ?_)
                refine RA_one 7 rfl rfl (by kernel_rfl) (x_appendO (r := .u8s ((Prod.fst (opS s k p)) ++ (Prod.fst (opS s k ((Prod.fst (Prod.snd (opS s k p))) + 1))))) (r2 := .u8s [s.getD (Prod.fst (Prod.snd (opS s k p))) 0]) (q := .u8s (((Prod.fst (opS s k p)) ++ (Prod.fst (opS s k ((Prod.fst (Prod.snd (opS s k p))) + 1)))) ++ [s.getD (Prod.fst (Prod.snd (opS s k p))) 0])) rfl rfl rfl rfl rfl rfl (Rds.row m0 rfl) rfl (by show 0 < 1; omega) rfl (HpDels.cons ((HpDel.head).tail).tail HpDels.nil) (fun _ => (HpDels.cons ((HpDel.head).tail).tail HpDels.nil)) (by show (List.length _ + List.length _) * 1 ≤ _; simp only [List.length_append, List.length_cons, List.length_nil]; omega) (by show List.length _ + List.length _ ≤ _; simp only [List.length_append, List.length_cons, List.length_nil]; omega) (lt_dec rfl) fun v56 => ?_)
                refine RA_quiet (g := 0) [9, 10, 11] (by kernel_rfl) (by kernel_rfl) (by kernel_rfl) (by kernel_rfl) ?_
                refine WQ_cons rfl rfl rfl ((p_assign rfl).q) (lt_dec rfl) ?_
                refine WQ_cons rfl rfl rfl ((p_assign rfl).q) (lt_dec rfl) ?_
                refine WQ_cons rfl rfl rfl ((p_assign rfl).q) (lt_dec rfl) ?_
                refine WQ_nil ?_
                refine RA_done (by kernel_rfl) ?_
                refine W_ret ?_
                refine Exists.intro _ (And.intro (.cons (.tmp rfl) (.cons (.tmp rfl) (.cons (.tmp rfl) .nil))) (Exists.intro v56 (And.intro ?_ (And.intro ?_ (And.intro (.cons ((HpDel.head).tail).tail rfl (own_eq (by rw [hsd])) .nil) rfl)))))
                · trivial
                · (rw [hsd]; rfl)
              · refine x_buildSlice rfl rfl rfl rfl rfl rfl rfl rfl (Nat.le_of_ble_eq_true rfl) (lt_dec rfl) fun b55_5 => ?_
                refine RA_one 2 rfl rfl (by kernel_rfl) (x_appendO (r := .u8s (Prod.fst (opS s k p))) (r2 := .u8s (Prod.fst (opS s k ((Prod.fst (Prod.snd (opS s k p))) + 1)))) (q := .u8s ((Prod.fst (opS s k p)) ++ (Prod.fst (opS s k ((Prod.fst (Prod.snd (opS s k p))) + 1))))) rfl rfl rfl rfl rfl rfl (Rds.own m1) rfl (by show 0 < List.length _; omega) rfl (HpDels.cons ((HpDel.head).tail).tail HpDels.nil) (fun _ => (HpDels.cons ((HpDel.head).tail).tail HpDels.nil)) (by show (List.length _ + List.length _) * 1 ≤ _; omega) (by show List.length _ + List.length _ ≤ _; omega) (lt_dec rfl) fun v51 => ?_)
                refine RA_one 7 rfl rfl (by kernel_rfl) (x_appendO (r := .u8s ((Prod.fst (opS s k p)) ++ (Prod.fst (opS s k ((Prod.fst (Prod.snd (opS s k p))) + 1))))) (r2 := .u8s [s.getD (Prod.fst (Prod.snd (opS s k p))) 0]) (q := .u8s (((Prod.fst (opS s k p)) ++ (Prod.fst (opS s k ((Prod.fst (Prod.snd (opS s k p))) + 1)))) ++ [s.getD (Prod.fst (Prod.snd (opS s k p))) 0])) rfl rfl rfl rfl rfl rfl (Rds.row m0 rfl) rfl (by show 0 < 1; omega) rfl (HpDels.cons ((HpDel.head).tail).tail HpDels.nil) (fun _ => (HpDels.cons ((HpDel.head).tail).tail HpDels.nil)) (by show (List.length _ + List.length _) * 1 ≤ _; simp only [List.length_append, List.length_cons, List.length_nil]; omega) (by show List.length _ + List.length _ ≤ _; simp only [List.length_append, List.length_cons, List.length_nil]; omega) (lt_dec rfl) fun v56 => ?_)
                refine RA_quiet (g := 0) [9, 10, 11] (by kernel_rfl) (by kernel_rfl) (by kernel_rfl) (by kernel_rfl) ?_
                refine WQ_cons rfl rfl rfl ((p_assign rfl).q) (lt_dec rfl) ?_
                refine WQ_cons rfl rfl rfl ((p_assign rfl).q) (lt_dec rfl) ?_
                refine WQ_cons rfl rfl rfl ((p_assign rfl).q) (lt_dec rfl) ?_
                refine WQ_nil ?_
                refine RA_done (by kernel_rfl) ?_
                refine W_ret ?_
                refine Exists.intro _ (And.intro (.cons (.tmp rfl) (.cons (.tmp rfl) (.cons (.tmp rfl) .nil))) (Exists.intro v56 (And.intro ?_ (And.intro ?_ (And.intro (.cons ((HpDel.head).tail).tail rfl (own_eq (by rw [hsd])) .nil) rfl)))))
                · trivial
                · (rw [hsd]; rfl)
            · refine x_buildSlice rfl rfl rfl rfl rfl rfl rfl rfl (Nat.le_of_ble_eq_true rfl) (lt_dec rfl) fun b55_6 => ?_
              refine RA_quiet (g := 5) [0] (by kernel_rfl) (by kernel_rfl) (by kernel_rfl) (by kernel_rfl) ?_
              refine WQ_cons rfl rfl rfl ((p_move rfl).q) (lt_dec rfl) ?_
              refine WQ_nil ?_
              refine RA_one 2 rfl rfl (by kernel_rfl) (x_appendO (r := .u8s (Prod.fst (opS s k p))) (r2 := .u8s (Prod.fst (opS s k ((Prod.fst (Prod.snd (opS s k p))) + 1)))) (q := .u8s ((Prod.fst (opS s k p)) ++ (Prod.fst (opS s k ((Prod.fst (Prod.snd (opS s k p))) + 1))))) rfl rfl rfl rfl rfl rfl (Rds.own m1) rfl (by show 0 < List.length _; omega) rfl (HpDels.cons ((HpDel.head).tail).tail HpDels.nil) (fun _ => (HpDels.cons ((HpDel.head).tail).tail HpDels.nil)) (by show (List.length _ + List.length _) * 1 ≤ _; omega) (by show List.length _ + List.length _ ≤ _; omega) (lt_dec rfl) fun v51 => ?_)
              refine RA_one 7 rfl rfl (by kernel_rfl) (x_appendO (r := .u8s ((Prod.fst (opS s k p)) ++ (Prod.fst (opS s k ((Prod.fst (Prod.snd (opS s k p))) + 1))))) (r2 := .u8s [s.getD (Prod.fst (Prod.snd (opS s k p))) 0]) (q := .u8s (((Prod.fst (opS s k p)) ++ (Prod.fst (opS s k ((Prod.fst (Prod.snd (opS s k p))) + 1)))) ++ [s.getD (Prod.fst (Prod.snd (opS s k p))) 0])) rfl rfl rfl rfl rfl rfl (Rds.row m0 rfl) rfl (by show 0 < 1; omega) rfl (HpDels.cons ((HpDel.head).tail).tail HpDels.nil) (fun _ => (HpDels.cons ((HpDel.head).tail).tail HpDels.nil)) (by show (List.length _ + List.length _) * 1 ≤ _; simp only [List.length_append, List.length_cons, List.length_nil]; omega) (by show List.length _ + List.length _ ≤ _; simp only [List.length_append, List.length_cons, List.length_nil]; omega) (lt_dec rfl) fun v56 => ?_)
              refine RA_quiet (g := 0) [9, 10, 11] (by kernel_rfl) (by kernel_rfl) (by kernel_rfl) (by kernel_rfl) ?_
              refine WQ_cons rfl rfl rfl ((p_assign rfl).q) (lt_dec rfl) ?_
              refine WQ_cons rfl rfl rfl ((p_assign rfl).q) (lt_dec rfl) ?_
              refine WQ_cons rfl rfl rfl ((p_assign rfl).q) (lt_dec rfl) ?_
              refine WQ_nil ?_
              refine RA_done (by kernel_rfl) ?_
              refine W_ret ?_
              refine Exists.intro _ (And.intro (.cons (.tmp rfl) (.cons (.tmp rfl) (.cons (.tmp rfl) .nil))) (Exists.intro v56 (And.intro ?_ (And.intro ?_ (And.intro (.cons ((HpDel.head).tail).tail rfl (own_eq (by rw [hsd])) .nil) rfl)))))
              · trivial
              · (rw [hsd]; rfl)
          · refine x_buildSlice rfl rfl rfl rfl rfl rfl rfl rfl (Nat.le_of_ble_eq_true rfl) (lt_dec rfl) fun b55_7 => ?_
            refine RA_quiet (g := 5) [0, 1] (by kernel_rfl) (by kernel_rfl) (by kernel_rfl) (by kernel_rfl) ?_
            refine WQ_cons rfl rfl rfl ((p_move rfl).q) (lt_dec rfl) ?_
            refine WQ_cons rfl rfl rfl ((p_move rfl).q) (lt_dec rfl) ?_
            refine WQ_nil ?_
            refine RA_one 2 rfl rfl (by kernel_rfl) (x_appendO (r := .u8s (Prod.fst (opS s k p))) (r2 := .u8s (Prod.fst (opS s k ((Prod.fst (Prod.snd (opS s k p))) + 1)))) (q := .u8s ((Prod.fst (opS s k p)) ++ (Prod.fst (opS s k ((Prod.fst (Prod.snd (opS s k p))) + 1))))) rfl rfl rfl rfl rfl rfl (Rds.own m1) rfl (by show 0 < List.length _; omega) rfl (HpDels.cons ((HpDel.head).tail).tail HpDels.nil) (fun _ => (HpDels.cons ((HpDel.head).tail).tail HpDels.nil)) (by show (List.length _ + List.length _) * 1 ≤ _; omega) (by show List.length _ + List.length _ ≤ _; omega) (lt_dec rfl) fun v51 => ?_)
            refine RA_one 7 rfl rfl (by kernel_rfl) (x_appendO (r := .u8s ((Prod.fst (opS s k p)) ++ (Prod.fst (opS s k ((Prod.fst (Prod.snd (opS s k p))) + 1))))) (r2 := .u8s [s.getD (Prod.fst (Prod.snd (opS s k p))) 0]) (q := .u8s (((Prod.fst (opS s k p)) ++ (Prod.fst (opS s k ((Prod.fst (Prod.snd (opS s k p))) + 1)))) ++ [s.getD (Prod.fst (Prod.snd (opS s k p))) 0])) rfl rfl rfl rfl rfl rfl (Rds.row m0 rfl) rfl (by show 0 < 1; omega) rfl (HpDels.cons ((HpDel.head).tail).tail HpDels.nil) (fun _ => (HpDels.cons ((HpDel.head).tail).tail HpDels.nil)) (by show (List.length _ + List.length _) * 1 ≤ _; simp only [List.length_append, List.length_cons, List.length_nil]; omega) (by show List.length _ + List.length _ ≤ _; simp only [List.length_append, List.length_cons, List.length_nil]; omega) (lt_dec rfl) fun v56 => ?_)
            refine RA_quiet (g := 0) [9, 10, 11] (by kernel_rfl) (by kernel_rfl) (by kernel_rfl) (by kernel_rfl) ?_
            refine WQ_cons rfl rfl rfl ((p_assign rfl).q) (lt_dec rfl) ?_
            refine WQ_cons rfl rfl rfl ((p_assign rfl).q) (lt_dec rfl) ?_
            refine WQ_cons rfl rfl rfl ((p_assign rfl).q) (lt_dec rfl) ?_
            refine WQ_nil ?_
            refine RA_done (by kernel_rfl) ?_
            refine W_ret ?_
            refine Exists.intro _ (And.intro (.cons (.tmp rfl) (.cons (.tmp rfl) (.cons (.tmp rfl) .nil))) (Exists.intro v56 (And.intro ?_ (And.intro ?_ (And.intro (.cons ((HpDel.head).tail).tail rfl (own_eq (by rw [hsd])) .nil) rfl)))))
            · trivial
            · (rw [hsd]; rfl)
    · try simp only [bs] at hg2
      refine Ops_guard_f rfl rfl rfl (lt_dec rfl) ?_
      refine Ops_guard_f rfl rfl rfl (lt_dec rfl) ?_
      refine Ops_guard_f rfl rfl rfl (lt_dec rfl) ?_
      refine Ops_guard_f rfl rfl rfl (lt_dec rfl) ?_
      refine Ops_p (p_pick_t rfl rfl) (lt_dec rfl) ?_
      refine Ops_nil ?_
      refine W_true rfl ?_
      refine W_seq ?_
      refine W_region ?_
      refine Ops_p (p_move rfl) (lt_dec rfl) ?_
      refine Ops_p (p_move rfl) (lt_dec rfl) ?_
      refine Ops_p (p_move rfl) (lt_dec rfl) ?_
      refine Ops_p (p_assign rfl) (lt_dec rfl) ?_
      refine Ops_p (p_assign rfl) (lt_dec rfl) ?_
      refine Ops_p (p_assign rfl) (lt_dec rfl) ?_
      refine Ops_nil ?_
      refine W_ret ?_
      refine Exists.intro _ (And.intro (.cons (.tmp rfl) (.cons (.tmp rfl) (.cons (.tmp rfl) .nil))) (Exists.intro x16_1 (And.intro ?_ (And.intro ?_ (And.intro (.cons HpDel.head rfl (own_eq (by rw [sd_stop (s := s) (op := opS s k) (p := p) (by first | exact .inl (by assumption) | exact .inr (.inl (by omega)) | exact .inr (.inr (by assumption)))])) .nil) rfl)))))
      · trivial
      · (rw [sd_stop (s := s) (op := opS s k) (p := p) (by first | exact .inl (by assumption) | exact .inr (.inl (by omega)) | exact .inr (.inr (by assumption)))]; rfl)
  · try simp only [bs] at hg1
    refine Ops_guard_f rfl rfl rfl (lt_dec rfl) ?_
    refine Ops_guard_f rfl rfl rfl (lt_dec rfl) ?_
    refine Ops_guard_f rfl rfl rfl (lt_dec rfl) ?_
    refine Ops_p (p_pick_t rfl rfl) (lt_dec rfl) ?_
    refine Ops_p (p_move rfl) (lt_dec rfl) ?_
    refine Ops_guard_f rfl rfl rfl (lt_dec rfl) ?_
    refine Ops_guard_f rfl rfl rfl (lt_dec rfl) ?_
    refine Ops_guard_f rfl rfl rfl (lt_dec rfl) ?_
    refine Ops_guard_f rfl rfl rfl (lt_dec rfl) ?_
    refine Ops_guard_f rfl rfl rfl (lt_dec rfl) ?_
    refine Ops_p (p_pick_t rfl rfl) (lt_dec rfl) ?_
    refine Ops_nil ?_
    refine W_true rfl ?_
    refine W_seq ?_
    refine W_region ?_
    refine Ops_p (p_move rfl) (lt_dec rfl) ?_
    refine Ops_p (p_move rfl) (lt_dec rfl) ?_
    refine Ops_p (p_move rfl) (lt_dec rfl) ?_
    refine Ops_p (p_assign rfl) (lt_dec rfl) ?_
    refine Ops_p (p_assign rfl) (lt_dec rfl) ?_
    refine Ops_p (p_assign rfl) (lt_dec rfl) ?_
    refine Ops_nil ?_
    refine W_ret ?_
    refine Exists.intro _ (And.intro (.cons (.tmp rfl) (.cons (.tmp rfl) (.cons (.tmp rfl) .nil))) (Exists.intro x16_1 (And.intro ?_ (And.intro ?_ (And.intro (.cons HpDel.head rfl (own_eq (by rw [sd_stop (s := s) (op := opS s k) (p := p) (by first | exact .inl (by assumption) | exact .inr (.inl (by omega)) | exact .inr (.inr (by assumption)))])) .nil) rfl)))))
    · trivial
    · (rw [sd_stop (s := s) (op := opS s k) (p := p) (by first | exact .inl (by assumption) | exact .inr (.inl (by omega)) | exact .inr (.inr (by assumption)))]; rfl)
end Go.Proofs.Ytdcpggdbjllmpaa
