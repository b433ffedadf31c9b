/- What the Go function (*impl.words).next does, shown of its loaded text; its conditions stand in the statement. -/
import Derived.Test.YtdcpggdbjllmpaaTy
import Derived.Test.YtdcpggdbjllmpaaGx12
import Derived.Test.YtdcpggdbjllmpaaGx14
import Derived.Test.YtdcpggdbjllmpaaGx24
import Derived.Test.YtdcpggdbjllmpaaGx27
import Derived.Test.YtdcpggdbjllmpaaGx34
import Derived.Test.YtdcpggdbjllmpaaM41
namespace Go.Proofs.Ytdcpggdbjllmpaa
open Go Gx
set_option linter.unusedVariables false
theorem en_pimpl_words_next : Enters Try.prog 84 := enters_of Try.func84 (by kernel_rfl) (by kernel_rfl)
set_option maxRecDepth 100000 in
theorem w_pimpl_words_next {s : List (Fin 256)} {bw p : Nat} (hs : s.length ≤ 1000) (hp : p ≤ s.length) : CT (X := Unit) Try.prog 84 (vals [.ptr bw 0 none]) [.var bw (.agg [.raw (.string (strB s)) rfl, .int .i64 ((p : Nat) : Int)])] [] (fun x => True) (fun x => .u8 (nxW s p).1) (fun x => [.var bw (.agg [.raw (.string (strB s)) rfl, .int .i64 (((nxW s p).2 : Nat) : Int)])]) := by
  refine CT_intro (rs := [.tmp 2]) tt tok Try.func84 rfl rfl rfl (by first | rfl | assumption) fun w => ?_
  show W _ _ _ ⟨tmOf 0 [.ptr bw 0 none], [.var bw (.agg [.raw (.string (strB s)) rfl, .int .i64 ((p : Nat) : Int)])]⟩
  refine W_seq ?_
  refine W_region ?_
  refine Ops_p (p_assign rfl) (lt_dec rfl) ?_
  refine Ops_nil ?_
  refine W_seq ?_
  refine W_seq ?_
  refine W_draw (by kernel_rfl) ?_
  show RA _ _ 10 _ _ _
  refine RA_quietF [0, 1, 2, 3, 4, 5, 6, 7, 8, 9] rfl rfl rfl (by kernel_rfl) (by kernel_rfl) ?_
  refine WQ_cons rfl rfl rfl ((p_move rfl).q) (lt_dec rfl) ?_
  refine WQ_cons rfl rfl rfl ((p_nilCheck rfl).q) (lt_dec rfl) ?_
  refine WQ_cons rfl rfl rfl ((p_fieldAddr rfl rfl rfl rfl rfl rfl).q) (lt_dec rfl) ?_
  refine WQ_cons rfl rfl rfl ((q_load rfl rfl m0 rfl (by first | exact True.intro | trivial | (first | omega | (dsimp only; omega)) | exact Fin.isLt _ | (dsimp only; omega)))) (lt_dec rfl) ?_
  refine WQ_cons rfl rfl rfl ((p_move rfl).q) (lt_dec rfl) ?_
  refine WQ_cons rfl rfl rfl ((p_nilCheck rfl).q) (lt_dec rfl) ?_
  refine WQ_cons rfl rfl rfl ((p_fieldAddr rfl rfl rfl rfl rfl rfl).q) (lt_dec rfl) ?_
  refine WQ_cons rfl rfl rfl ((q_load rfl rfl m0 rfl (by first | exact True.intro | trivial | (first | omega | (dsimp only; omega)) | exact Fin.isLt _ | (dsimp only; omega)))) (lt_dec rfl) ?_
  refine WQ_cons rfl rfl rfl ((p_len_B rfl rfl rfl).q) (lt_dec rfl) ?_
  refine WQ_cons rfl rfl rfl ((p_eql rfl rfl).q) (lt_dec rfl) ?_
  refine WQ_nil ?_
  refine W_cond rfl (fun h1 => ?_) (fun h1 => ?_)
  · try simp only [bs] at h1
    have hnx := nx_end (s := s) (p := p) (by omega)
    refine W_seq ?_
    refine W_region ?_
    refine Ops_p (p_assign rfl) (lt_dec rfl) ?_
    refine Ops_nil ?_
    refine W_ret ?_
    refine Exists.intro _ (And.intro (.cons (.tmp rfl) .nil) (Exists.intro () (And.intro ?_ (And.intro ?_ (And.intro (.cons HpDel.head rfl (imp_var (by first | (rw [hnx]; done) | (rw [hnx]; rfl) | (rw [hnx]; exact ceq_cons rfl (ceq_cons (ceq_int (by first | rfl | omega)) rfl))) rfl) .nil) rfl)))))
    · trivial
    · first | (rw [hnx]; done) | (rw [hnx]; rfl)
  · try simp only [bs] at h1
    have hnx := nx_in (s := s) (p := p) (by omega)
    refine W_skip ?_
    refine W_seq ?_
    refine W_region ?_
    refine Ops_p (p_move rfl) (lt_dec rfl) ?_
    refine Ops_p (p_nilCheck rfl) (lt_dec rfl) ?_
    refine Ops_p (p_fieldAddr rfl rfl rfl rfl rfl rfl) (lt_dec rfl) ?_
    refine Ops_q (q_load rfl rfl m0 rfl (by first | exact True.intro | trivial | (first | omega | (dsimp only; omega)) | exact Fin.isLt _ | (dsimp only; omega))) (lt_dec rfl) ?_
    refine Ops_p (p_add rfl rfl (by exact ⟨(by first | omega | (dsimp only; omega)), (by first | omega | (dsimp only; omega))⟩)) (lt_dec rfl) ?_
    refine Ops_p (p_nilCheck rfl) (lt_dec rfl) ?_
    refine Ops_p (p_fieldAddr rfl rfl rfl rfl rfl rfl) (lt_dec rfl) ?_
    refine Ops_x rfl (x_store rfl rfl rfl rfl rfl HpRep.head rfl (by first | trivial | (first | (first | omega | (dsimp only; omega)) | exact Fin.isLt _)) ?_)
    refine Ops_nil ?_
    refine W_seq ?_
    refine W_draw (by kernel_rfl) ?_
    show RA _ _ 11 _ _ _
    refine RA_quietF [0, 1, 2, 3, 4, 5, 6, 7, 8, 9, 10] rfl rfl rfl (by kernel_rfl) (by kernel_rfl) ?_
    refine WQ_cons rfl rfl rfl ((p_move rfl).q) (lt_dec rfl) ?_
    refine WQ_cons rfl rfl rfl ((p_nilCheck rfl).q) (lt_dec rfl) ?_
    refine WQ_cons rfl rfl rfl ((p_fieldAddr rfl rfl rfl rfl rfl rfl).q) (lt_dec rfl) ?_
    refine WQ_cons rfl rfl rfl ((q_load rfl rfl m0 rfl (by first | exact True.intro | trivial | (first | omega | (dsimp only; omega)) | exact Fin.isLt _ | (dsimp only; omega)))) (lt_dec rfl) ?_
    refine WQ_cons rfl rfl rfl ((p_move rfl).q) (lt_dec rfl) ?_
    refine WQ_cons rfl rfl rfl ((p_nilCheck rfl).q) (lt_dec rfl) ?_
    refine WQ_cons rfl rfl rfl ((p_fieldAddr rfl rfl rfl rfl rfl rfl).q) (lt_dec rfl) ?_
    refine WQ_cons rfl rfl rfl ((q_load rfl rfl m0 rfl (by first | exact True.intro | trivial | (first | omega | (dsimp only; omega)) | exact Fin.isLt _ | (dsimp only; omega)))) (lt_dec rfl) ?_
    refine WQ_cons rfl rfl rfl (((p_sub rfl rfl (by exact ⟨by omega, by omega⟩)).eq (d' := .int .i64 (p : Int)) (veq_int (by omega))).q) (lt_dec rfl) ?_
    refine WQ_cons rfl rfl rfl (((p_index_s p rfl rfl rfl rfl (by omega))).q) (lt_dec rfl) ?_
    refine WQ_cons rfl rfl rfl ((p_assign rfl).q) (lt_dec rfl) ?_
    refine WQ_nil ?_
    refine W_ret ?_
    refine Exists.intro _ (And.intro (.cons (.tmp rfl) .nil) (Exists.intro () (And.intro ?_ (And.intro ?_ (And.intro (.cons HpDel.head rfl (imp_var (by first | (rw [hnx]; done) | (rw [hnx]; rfl) | (rw [hnx]; exact ceq_cons rfl (ceq_cons (ceq_int (by first | rfl | omega)) rfl))) rfl) .nil) rfl)))))
    · trivial
    · first | (rw [hnx]; done) | (rw [hnx]; rfl)
end Go.Proofs.Ytdcpggdbjllmpaa
