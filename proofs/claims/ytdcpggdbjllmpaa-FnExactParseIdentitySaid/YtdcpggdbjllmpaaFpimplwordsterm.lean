/- What the Go function (*impl.words).term does, shown of its loaded text; its conditions stand in the statement. -/
import Derived.Test.YtdcpggdbjllmpaaTy
import Derived.Test.YtdcpggdbjllmpaaFpimplwordsnext
import Derived.Test.YtdcpggdbjllmpaaFimplisOperation
import Derived.Test.YtdcpggdbjllmpaaFslicesCloneGSbytebyte
import Derived.Test.YtdcpggdbjllmpaaGx12
import Derived.Test.YtdcpggdbjllmpaaGx14
import Derived.Test.YtdcpggdbjllmpaaGx24
import Derived.Test.YtdcpggdbjllmpaaGx27
import Derived.Test.YtdcpggdbjllmpaaGx34
import Derived.Test.YtdcpggdbjllmpaaM41
namespace Go.Proofs.Ytdcpggdbjllmpaa
open Go Gx
set_option linter.unusedVariables false
theorem en_pimpl_words_term : Enters Try.prog 83 := enters_of Try.func83 (by kernel_rfl) (by kernel_rfl)
set_option maxRecDepth 100000 in
set_option maxHeartbeats 1000000 in
theorem w_pimpl_words_term {s : List (Fin 256)} {bw k p : Nat} (hs : s.length ≤ 1000) (hp : p ≤ s.length) (hk : s.length < p + k) (hen : Enters Try.prog 98) (hpt : ∀ q : Nat, q ≤ s.length → s.length < q + k → CT (X := V1) Try.prog 98 (vals [.ptr bw 0 none]) [.var bw (.agg [.raw (.string (strB s)) rfl, .int .i64 ((q : Nat) : Int)])] [] (fun x => (ptW s k q).1 = [] → x.1 = .slice none 0 0) (fun x => .raw x.1 x.2) (fun x => [.var bw (.agg [.raw (.string (strB s)) rfl, .int .i64 (((ptW s k q).2 : Nat) : Int)]), own x.1 5 (.u8s (ptW s k q).1)])) : CT (X := V1) Try.prog 83 (vals [.ptr bw 0 none]) [.var bw (.agg [.raw (.string (strB s)) rfl, .int .i64 ((p : Nat) : Int)])] [] (fun x => (tmW s (ptW s k) p).1 = [] → x.1 = .slice none 0 0) (fun x => .raw x.1 x.2) (fun x => [.var bw (.agg [.raw (.string (strB s)) rfl, .int .i64 (((tmW s (ptW s k) p).2 : Nat) : Int)]), own x.1 5 (.u8s (tmW s (ptW s k) p).1)]) := by
  refine CT_intro (rs := [.tmp 2]) tt tok Try.func83 rfl rfl rfl (by first | rfl | assumption) fun w => ?_
  show W _ _ _ ⟨tmOf 0 [.ptr bw 0 none], [.var bw (.agg [.raw (.string (strB s)) rfl, .int .i64 ((p : Nat) : Int)])]⟩
  obtain ⟨f1, f2, f3⟩ := ptW_fact k p hp
  refine W_seq ?_
  refine W_region ?_
  refine Ops_p (p_assign rfl) (lt_dec rfl) ?_
  refine Ops_nil ?_
  refine W_seq ?_
  refine W_region ?_
  refine Ops_p (p_move rfl) (lt_dec rfl) ?_
  refine Ops_x rfl (x_callT hen rfl ((hpt p hp hk)) (HpDels.cons HpDel.head HpDels.nil) (Vw.none _) (fun _ => (HpDels.cons (HpDel.head).tail (HpDels.cons HpDel.head HpDels.nil))) (lt_dec rfl) fun x6_1 hx1 => ?_)
  refine Ops_p (p_assign rfl) (lt_dec rfl) ?_
  refine Ops_nil ?_
  refine W_seq ?_
  refine W_seq ?_
  refine W_draw (by kernel_rfl) ?_
  show RA _ _ 23 _ _ _
  refine RA_quietF [0, 1, 2, 3, 4, 5, 6, 7, 8, 9, 10, 11, 12, 13, 14, 15, 16, 17, 18, 19, 20, 21, 22] rfl rfl rfl (by kernel_rfl) (by kernel_rfl) ?_
  refine WQ_cons rfl rfl rfl ((p_move rfl).q) (lt_dec rfl) ?_
  refine WQ_cons rfl rfl rfl ((p_nilCheck rfl).q) (lt_dec rfl) ?_
  refine WQ_cons rfl rfl rfl ((p_fieldAddr rfl rfl rfl rfl rfl rfl).q) (lt_dec rfl) ?_
  refine WQ_cons rfl rfl rfl ((q_load rfl rfl m1 rfl (by first | exact True.intro | trivial | (first | omega | (dsimp only; omega)) | exact Fin.isLt _ | (dsimp only; omega)))) (lt_dec rfl) ?_
  refine WQ_cons rfl rfl rfl ((p_move rfl).q) (lt_dec rfl) ?_
  refine WQ_cons rfl rfl rfl ((p_nilCheck rfl).q) (lt_dec rfl) ?_
  refine WQ_cons rfl rfl rfl ((p_fieldAddr rfl rfl rfl rfl rfl rfl).q) (lt_dec rfl) ?_
  refine WQ_cons rfl rfl rfl ((q_load rfl rfl m1 rfl (by first | exact True.intro | trivial | (first | omega | (dsimp only; omega)) | exact Fin.isLt _ | (dsimp only; omega)))) (lt_dec rfl) ?_
  refine WQ_cons rfl rfl rfl ((p_len_B rfl rfl rfl).q) (lt_dec rfl) ?_
  refine WQ_cons rfl rfl rfl ((p_eql rfl rfl).q) (lt_dec rfl) ?_
  refine WQ_cons rfl rfl rfl ((p_move rfl).q) (lt_dec rfl) ?_
  first | refine WQ_guard rfl rfl rfl (lt_dec rfl) (fun hg1 => ⟨_, (p_move rfl).q, ?_⟩) (fun hg1 => ?_)
  · try simp only [bs] at hg1
    first | refine WQ_guard rfl rfl rfl (lt_dec rfl) (fun _ => ⟨_, (p_nilCheck rfl).q, ?_⟩) (fun h => by cases h)
    first | refine WQ_guard rfl rfl rfl (lt_dec rfl) (fun _ => ⟨_, (p_fieldAddr rfl rfl rfl rfl rfl rfl).q, ?_⟩) (fun h => by cases h)
    first | refine WQ_guard rfl rfl rfl (lt_dec rfl) (fun _ => ⟨_, (q_load rfl rfl m1 rfl (by first | exact True.intro | trivial | (first | omega | (dsimp only; omega)) | exact Fin.isLt _ | (dsimp only; omega))), ?_⟩) (fun h => by cases h)
    first | refine WQ_guard rfl rfl rfl (lt_dec rfl) (fun _ => ⟨_, (p_move rfl).q, ?_⟩) (fun h => by cases h)
    first | refine WQ_guard rfl rfl rfl (lt_dec rfl) (fun _ => ⟨_, (p_nilCheck rfl).q, ?_⟩) (fun h => by cases h)
    first | refine WQ_guard rfl rfl rfl (lt_dec rfl) (fun _ => ⟨_, (p_fieldAddr rfl rfl rfl rfl rfl rfl).q, ?_⟩) (fun h => by cases h)
    first | refine WQ_guard rfl rfl rfl (lt_dec rfl) (fun _ => ⟨_, (q_load rfl rfl m1 rfl (by first | exact True.intro | trivial | (first | omega | (dsimp only; omega)) | exact Fin.isLt _ | (dsimp only; omega))), ?_⟩) (fun h => by cases h)
    first | refine WQ_guard rfl rfl rfl (lt_dec rfl) (fun _ => ⟨_, ((p_index_s (Prod.snd (ptW s k p)) rfl rfl rfl rfl (by omega))).q, ?_⟩) (fun h => by cases h)
    first | refine WQ_guard rfl rfl rfl (lt_dec rfl) (fun _ => ⟨_, (q_call en_impl_isOperation rfl (w_impl_isOperation) (View.none _)), ?_⟩) (fun h => by cases h)
    first | refine WQ_guard rfl rfl rfl (lt_dec rfl) (fun _ => ⟨_, (p_not rfl).q, ?_⟩) (fun h => by cases h)
    refine WQ_cons rfl rfl rfl ((p_pick_f rfl rfl).q) (lt_dec rfl) ?_
    refine WQ_nil ?_
    refine W_cond rfl (fun h1 => ?_) (fun h1 => ?_)
    · try simp only [bs] at h1
      have htm := tm_stop2 (s := s) (pt := ptW s k) (p := p) h1
      refine W_seq ?_
      refine W_region ?_
      refine Ops_p (p_move rfl) (lt_dec rfl) ?_
      refine Ops_p (p_assign rfl) (lt_dec rfl) ?_
      refine Ops_nil ?_
      refine W_ret ?_
      refine Exists.intro _ (And.intro (.cons (.tmp rfl) .nil) (Exists.intro x6_1 (And.intro ?_ (And.intro ?_ (And.intro (.cons (HpDel.head).tail rfl (imp_var (by first | (rw [htm]; done) | (rw [htm]; rfl) | (rw [tm_stop (by omega)]; done) | (rw [tm_stop (by omega)]; rfl)) rfl) (.cons HpDel.head rfl (own_eq (by first | (rw [htm]; done) | (rw [htm]; rfl) | (rw [tm_stop (by omega)]; done))) .nil)) rfl)))))
      · first | (rw [htm]; exact hx1) | (rw [tm_stop (by omega)]; exact hx1)
      · rfl
    · try simp only [bs] at h1
      have hop := h1; have hne : ¬ (Prod.snd (ptW s k p)) = s.length := (by omega); have htm := tm_go (s := s) (pt := ptW s k) (p := p) hne hop; obtain ⟨g1, g2, g3⟩ := ptW_fact (s := s) k ((Prod.snd (ptW s k p)) + 1) (by omega)
      refine W_skip ?_
      refine W_seq ?_
      refine W_region ?_
      refine Ops_p (p_move rfl) (lt_dec rfl) ?_
      refine Ops_x rfl (x_callT en_pimpl_words_next rfl ((by have h := w_pimpl_words_next (s := s) (bw := bw) (p := (Prod.snd (ptW s k p))) hs f2; rw [nx_in hne] at h; exact h)) (HpDels.cons (HpDel.head).tail HpDels.nil) (Vw.none _) (fun _ => (HpDels.cons (HpDel.head).tail HpDels.nil)) (lt_dec rfl) fun _ _ => ?_)
      refine Ops_p (p_assign rfl) (lt_dec rfl) ?_
      refine Ops_nil ?_
      refine W_seq ?_
      refine W_region ?_
      refine Ops_p (p_move rfl) (lt_dec rfl) ?_
      refine Ops_x rfl (x_callT en_slices_CloneGSbytebyte rfl (w_slices_CloneGSbytebyte (ha := x6_1.2) (l := (Prod.fst (ptW s k p))) (by omega) hx1) HpDels.nil (Vw.rdO m0) (fun _ => (HpDels.cons HpDel.head HpDels.nil)) (lt_dec rfl) fun x34_1 _ => ?_)
      refine Ops_p (p_move rfl) (lt_dec rfl) ?_
      refine Ops_x rfl (x_callT hen rfl ((hpt ((Prod.snd (ptW s k p)) + 1) (by omega) (by omega))) (HpDels.cons ((HpDel.head).tail).tail HpDels.nil) (Vw.none _) (fun _ => (HpDels.cons (((HpDel.head).tail).tail).tail (HpDels.cons HpDel.head HpDels.nil))) (lt_dec rfl) fun x36_1 hx2 => ?_)
      refine Ops_x rfl (x_appendZ (r := .u8s (Prod.fst (ptW s k p))) (r2 := .u8s (Prod.fst (ptW s k ((Prod.snd (ptW s k p)) + 1)))) (q := .u8s ((Prod.fst (ptW s k p)) ++ (Prod.fst (ptW s k ((Prod.snd (ptW s k p)) + 1))))) rfl rfl rfl rfl rfl rfl (Rds.own m0) rfl rfl (HpDels.cons (HpDel.head).tail HpDels.nil) (fun _ => (HpDels.cons (HpDel.head).tail HpDels.nil)) (by show (List.length _ + List.length _) * 1 ≤ _; omega) (by show List.length _ + List.length _ ≤ _; omega) (lt_dec rfl) fun v37 => ?_)
      refine Ops_p (p_move rfl) (lt_dec rfl) ?_
      refine Ops_x rfl (x_buildSlice rfl rfl rfl rfl rfl rfl rfl rfl (Nat.le_of_ble_eq_true rfl) (lt_dec rfl) fun b39_1 => ?_)
      refine Ops_x rfl (x_appendO (r := .u8s ((Prod.fst (ptW s k p)) ++ (Prod.fst (ptW s k ((Prod.snd (ptW s k p)) + 1))))) (r2 := .u8s [s.getD (Prod.snd (ptW s k p)) 0]) (q := .u8s (((Prod.fst (ptW s k p)) ++ (Prod.fst (ptW s k ((Prod.snd (ptW s k p)) + 1)))) ++ [s.getD (Prod.snd (ptW s k p)) 0])) rfl rfl rfl rfl rfl rfl (Rds.row m0 rfl) rfl (by show 0 < 1; omega) rfl (HpDels.cons ((HpDel.head).tail).tail HpDels.nil) (fun _ => (HpDels.cons ((HpDel.head).tail).tail HpDels.nil)) (by show (List.length _ + List.length _) * 1 ≤ _; simp only [List.length_append, List.length_cons, List.length_nil]; omega) (by show List.length _ + List.length _ ≤ _; simp only [List.length_append, List.length_cons, List.length_nil]; omega) (lt_dec rfl) fun v40 => ?_)
      refine Ops_p (p_assign rfl) (lt_dec rfl) ?_
      refine Ops_nil ?_
      refine W_ret ?_
      refine Exists.intro _ (And.intro (.cons (.tmp rfl) .nil) (Exists.intro v40 (And.intro ?_ (And.intro ?_ (And.intro (.cons ((((HpDel.head).tail).tail).tail).tail rfl (imp_var (by first | (rw [htm]; done) | (rw [htm]; rfl)) rfl) (.cons ((HpDel.head).tail).tail rfl (own_eq (by rw [htm])) .nil)) rfl)))))
      · exact fun hh => by rw [htm] at hh; simp at hh
      · rfl
  · try simp only [bs] at hg1
    refine WQ_guard rfl rfl rfl (lt_dec rfl) (fun h => by cases h) (fun _ => ?_)
    refine WQ_guard rfl rfl rfl (lt_dec rfl) (fun h => by cases h) (fun _ => ?_)
    refine WQ_guard rfl rfl rfl (lt_dec rfl) (fun h => by cases h) (fun _ => ?_)
    refine WQ_guard rfl rfl rfl (lt_dec rfl) (fun h => by cases h) (fun _ => ?_)
    refine WQ_guard rfl rfl rfl (lt_dec rfl) (fun h => by cases h) (fun _ => ?_)
    refine WQ_guard rfl rfl rfl (lt_dec rfl) (fun h => by cases h) (fun _ => ?_)
    refine WQ_guard rfl rfl rfl (lt_dec rfl) (fun h => by cases h) (fun _ => ?_)
    refine WQ_guard rfl rfl rfl (lt_dec rfl) (fun h => by cases h) (fun _ => ?_)
    refine WQ_guard rfl rfl rfl (lt_dec rfl) (fun h => by cases h) (fun _ => ?_)
    refine WQ_guard rfl rfl rfl (lt_dec rfl) (fun h => by cases h) (fun _ => ?_)
    refine WQ_cons rfl rfl rfl ((p_pick_t rfl rfl).q) (lt_dec rfl) ?_
    refine WQ_nil ?_
    refine W_true rfl ?_
    refine W_seq ?_
    refine W_region ?_
    refine Ops_p (p_move rfl) (lt_dec rfl) ?_
    refine Ops_p (p_assign rfl) (lt_dec rfl) ?_
    refine Ops_nil ?_
    refine W_ret ?_
    refine Exists.intro _ (And.intro (.cons (.tmp rfl) .nil) (Exists.intro x6_1 (And.intro ?_ (And.intro ?_ (And.intro (.cons (HpDel.head).tail rfl (imp_var (by first | (rw [htm]; done) | (rw [htm]; rfl) | (rw [tm_stop (by omega)]; done) | (rw [tm_stop (by omega)]; rfl)) rfl) (.cons HpDel.head rfl (own_eq (by first | (rw [htm]; done) | (rw [htm]; rfl) | (rw [tm_stop (by omega)]; done))) .nil)) rfl)))))
    · first | (rw [htm]; exact hx1) | (rw [tm_stop (by omega)]; exact hx1)
    · rfl
end Go.Proofs.Ytdcpggdbjllmpaa
