/- What the Go function impl.MirrorOf does, shown of its loaded text; its conditions stand in the statement. -/
import Derived.Test.YtdcpggdbjllmpaaTy
import Derived.Test.YtdcpggdbjllmpaaFimplisIdentity
import Derived.Test.YtdcpggdbjllmpaaFimplmirrored
import Derived.Test.YtdcpggdbjllmpaaGx12
import Derived.Test.YtdcpggdbjllmpaaGx24
import Derived.Test.YtdcpggdbjllmpaaGx27
import Derived.Test.YtdcpggdbjllmpaaGx28
import Derived.Test.YtdcpggdbjllmpaaGx33
import Derived.Test.YtdcpggdbjllmpaaM24
import Derived.Test.YtdcpggdbjllmpaaM40
namespace Go.Proofs.Ytdcpggdbjllmpaa
open Go Gx
set_option linter.unusedVariables false
theorem en_impl_MirrorOf : Enters Try.prog 20 := enters_of Try.func20 (by kernel_rfl) (by kernel_rfl)
set_option maxRecDepth 100000 in
theorem w_impl_MirrorOf {a c : Value} {ha : a.oneCell' = true} {hc : c.oneCell' = true} {l m : List (Fin 256)} (hl : l.length ≤ 1048576) (hm : m.length ≤ 1048576) : CT (X := V1 × V1) Try.prog 20 (vals [.agg [.raw a ha, .raw c hc]]) [] [rd a (.u8s l), rd c (.u8s m)] (fun x => True) (fun x => .tup [.agg [.raw x.1.1 x.1.2, .raw x.2.1 x.2.2], .int .i64 (bif (isTerm l && isTerm m) then 0 else 1)]) (fun x => [own x.1.1 5 (.u8s (mmT l m l)), own x.2.1 5 (.u8s (mmT l m m))]) := by
  refine CT_intro (rs := [.cell 2 32, .tmp 3]) tt tok Try.func20 rfl rfl rfl (by first | rfl | assumption) fun w => ?_
  show W _ _ _ ⟨tmOf 0 [.agg [.raw a ha, .raw c hc]], [rd a (.u8s l), rd c (.u8s m)]⟩
  refine W_seq ?_
  refine W_region ?_
  refine Ops_x rfl (x_box rfl rfl (lt_dec rfl) fun b1_1 => ?_)
  refine Ops_x rfl (x_alloc rfl (lt_dec rfl) fun b2_1 => ?_)
  refine Ops_p (p_assign rfl) (lt_dec rfl) ?_
  refine Ops_nil ?_
  refine W_seq ?_
  refine W_seq ?_
  refine W_region ?_
  refine Ops_q (q_load rfl rfl m1 rfl (by first | exact True.intro | trivial | (first | omega | (dsimp only; omega)) | exact Fin.isLt _ | (dsimp only; omega))) (lt_dec rfl) ?_
  refine Ops_q (q_call en_impl_isIdentity rfl (w_impl_isIdentity (by first | assumption | (first | omega | (dsimp only; omega)) | (simp; done) | decide) (by first | assumption | (first | omega | (dsimp only; omega)) | (simp; done) | decide)) (View.cons (Vw.rd m2).v (Vw.rd m3).v rfl rfl)) (lt_dec rfl) ?_
  refine Ops_p (p_not rfl) (lt_dec rfl) ?_
  refine Ops_nil ?_
  refine W_cond rfl (fun h1 => ?_) (fun h1 => ?_)
  · try simp only [bs] at h1
    have hq : (isTerm l && isTerm m) = false := (by rcases h1 with h | h <;> simp [h])
    refine W_seq ?_
    refine W_region ?_
    refine Ops_p (p_build rfl rfl rfl rfl (by first | exact True.intro | trivial | (first | omega | (dsimp only; omega)) | exact Fin.isLt _ | (dsimp only; omega))) (lt_dec rfl) ?_
    refine Ops_x rfl (x_store rfl rfl rfl rfl rfl HpRep.head rfl (by first | trivial | (first | (first | omega | (dsimp only; omega)) | exact Fin.isLt _)) ?_)
    refine Ops_p (p_assign rfl) (lt_dec rfl) ?_
    refine Ops_nil ?_
    refine W_ret ?_
    refine Exists.intro _ (And.intro (.cons (.cell rfl rfl m0 rfl trivial) (.cons (.tmp rfl) .nil)) (Exists.intro (⟨.slice none 0 0, rfl⟩, ⟨.slice none 0 0, rfl⟩) (And.intro ?_ (And.intro ?_ (And.intro (.free rfl (own_nil (by rw [mmT_f hq]; rfl) (by rw [mmT_f hq]; rfl)) (.free rfl (own_nil (by rw [mmT_f hq]; rfl) (by rw [mmT_f hq]; rfl)) .nil)) rfl)))))
    · trivial
    · (rw [hq]; rfl)
  · try simp only [bs] at h1
    have hq : (isTerm l && isTerm m) = true := (by simp [h1.1, h1.2])
    refine W_skip ?_
    refine W_seq ?_
    refine W_draw (by kernel_rfl) ?_
    show RA _ _ 9 _ _ _
    first | refine RA_take 3 rfl rfl rfl (by kernel_rfl) (by kernel_rfl) (by kernel_rfl) (p_fieldAddr rfl rfl rfl rfl rfl rfl) (lt_dec rfl) ?_
    refine RA_two 0 4 rfl rfl rfl rfl (by kernel_rfl) ?_ ?_
    · refine Xt_of_Qt rfl (lt_dec rfl) ((p_fieldAddr rfl rfl rfl rfl rfl rfl).q) ?_
      refine RA_two 1 4 rfl rfl rfl rfl (by kernel_rfl) ?_ ?_
      · refine Xt_of_Qt rfl (lt_dec rfl) ((q_load rfl rfl m1 rfl (by first | exact True.intro | trivial | (first | omega | (dsimp only; omega)) | exact Fin.isLt _ | (dsimp only; omega)))) ?_
        refine RA_two 2 4 rfl rfl rfl rfl (by kernel_rfl) ?_ ?_
        · refine x_callT en_impl_mirrored rfl (w_impl_mirrored h1.1) HpDels.nil (Vw.rd m2) (fun _ => (HpDels.cons HpDel.head HpDels.nil)) (lt_dec rfl) fun x10_1 _ => ?_
          refine RA_quiet (g := 4) [4] (by kernel_rfl) (by kernel_rfl) (by kernel_rfl) (by kernel_rfl) ?_
          refine WQ_cons rfl rfl rfl ((q_load rfl rfl m2 rfl (by first | exact True.intro | trivial | (first | omega | (dsimp only; omega)) | exact Fin.isLt _ | (dsimp only; omega)))) (lt_dec rfl) ?_
          refine WQ_nil ?_
          refine RA_one 5 rfl rfl (by kernel_rfl) (x_callT en_impl_mirrored rfl (w_impl_mirrored h1.2) HpDels.nil (Vw.rd m4) (fun _ => (HpDels.cons HpDel.head HpDels.nil)) (lt_dec rfl) fun x13_1 _ => ?_)
          refine RA_quiet (g := 2) [6] (by kernel_rfl) (by kernel_rfl) (by kernel_rfl) (by kernel_rfl) ?_
          refine WQ_cons rfl rfl rfl ((p_build rfl rfl rfl rfl (by first | exact True.intro | trivial | (first | omega | (dsimp only; omega)) | exact Fin.isLt _ | (dsimp only; omega))).q) (lt_dec rfl) ?_
          refine WQ_nil ?_
          refine RA_one 7 rfl rfl (by kernel_rfl) (x_store rfl rfl rfl rfl rfl (((HpRep.head).tail).tail) rfl (by first | trivial | (first | (first | omega | (dsimp only; omega)) | exact Fin.isLt _)) ?_)
          refine RA_quiet (g := 0) [8] (by kernel_rfl) (by kernel_rfl) (by kernel_rfl) (by kernel_rfl) ?_
          refine WQ_cons rfl rfl rfl ((p_assign rfl).q) (lt_dec rfl) ?_
          refine WQ_nil ?_
          refine RA_done (by kernel_rfl) ?_
          refine W_ret ?_
          refine Exists.intro _ (And.intro (.cons (.cell rfl rfl m2 rfl trivial) (.cons (.tmp rfl) .nil)) (Exists.intro (x10_1, x13_1) (And.intro ?_ (And.intro ?_ (And.intro (.cons (HpDel.head).tail rfl (own_eq (by rw [mmT_t hq])) (.cons HpDel.head rfl (own_eq (by rw [mmT_t hq])) .nil)) rfl)))))
          · trivial
          · (rw [hq]; rfl)
        · refine Xt_of_Qt rfl (lt_dec rfl) ((q_load rfl rfl m1 rfl (by first | exact True.intro | trivial | (first | omega | (dsimp only; omega)) | exact Fin.isLt _ | (dsimp only; omega)))) ?_
          refine RA_one 2 rfl rfl (by kernel_rfl) (x_callT en_impl_mirrored rfl (w_impl_mirrored h1.1) HpDels.nil (Vw.rd m2) (fun _ => (HpDels.cons HpDel.head HpDels.nil)) (lt_dec rfl) fun x10_2 _ => ?_)
          refine RA_one 5 rfl rfl (by kernel_rfl) (x_callT en_impl_mirrored rfl (w_impl_mirrored h1.2) HpDels.nil (Vw.rd m4) (fun _ => (HpDels.cons HpDel.head HpDels.nil)) (lt_dec rfl) fun x13_2 _ => ?_)
          refine RA_quiet (g := 2) [6] (by kernel_rfl) (by kernel_rfl) (by kernel_rfl) (by kernel_rfl) ?_
          refine WQ_cons rfl rfl rfl ((p_build rfl rfl rfl rfl (by first | exact True.intro | trivial | (first | omega | (dsimp only; omega)) | exact Fin.isLt _ | (dsimp only; omega))).q) (lt_dec rfl) ?_
          refine WQ_nil ?_
          refine RA_one 7 rfl rfl (by kernel_rfl) (x_store rfl rfl rfl rfl rfl (((HpRep.head).tail).tail) rfl (by first | trivial | (first | (first | omega | (dsimp only; omega)) | exact Fin.isLt _)) ?_)
          refine RA_quiet (g := 0) [8] (by kernel_rfl) (by kernel_rfl) (by kernel_rfl) (by kernel_rfl) ?_
          refine WQ_cons rfl rfl rfl ((p_assign rfl).q) (lt_dec rfl) ?_
          refine WQ_nil ?_
          refine RA_done (by kernel_rfl) ?_
          refine W_ret ?_
          refine Exists.intro _ (And.intro (.cons (.cell rfl rfl m2 rfl trivial) (.cons (.tmp rfl) .nil)) (Exists.intro (x10_2, x13_2) (And.intro ?_ (And.intro ?_ (And.intro (.cons (HpDel.head).tail rfl (own_eq (by rw [mmT_t hq])) (.cons HpDel.head rfl (own_eq (by rw [mmT_t hq])) .nil)) rfl)))))
          · trivial
          · (rw [hq]; rfl)
      · refine Xt_of_Qt rfl (lt_dec rfl) ((q_load rfl rfl m1 rfl (by first | exact True.intro | trivial | (first | omega | (dsimp only; omega)) | exact Fin.isLt _ | (dsimp only; omega)))) ?_
        refine RA_quiet (g := 5) [1] (by kernel_rfl) (by kernel_rfl) (by kernel_rfl) (by kernel_rfl) ?_
        refine WQ_cons rfl rfl rfl ((q_load rfl rfl m1 rfl (by first | exact True.intro | trivial | (first | omega | (dsimp only; omega)) | exact Fin.isLt _ | (dsimp only; omega)))) (lt_dec rfl) ?_
        refine WQ_nil ?_
        refine RA_one 2 rfl rfl (by kernel_rfl) (x_callT en_impl_mirrored rfl (w_impl_mirrored h1.1) HpDels.nil (Vw.rd m2) (fun _ => (HpDels.cons HpDel.head HpDels.nil)) (lt_dec rfl) fun x10_3 _ => ?_)
        refine RA_one 5 rfl rfl (by kernel_rfl) (x_callT en_impl_mirrored rfl (w_impl_mirrored h1.2) HpDels.nil (Vw.rd m4) (fun _ => (HpDels.cons HpDel.head HpDels.nil)) (lt_dec rfl) fun x13_3 _ => ?_)
        refine RA_quiet (g := 2) [6] (by kernel_rfl) (by kernel_rfl) (by kernel_rfl) (by kernel_rfl) ?_
        refine WQ_cons rfl rfl rfl ((p_build rfl rfl rfl rfl (by first | exact True.intro | trivial | (first | omega | (dsimp only; omega)) | exact Fin.isLt _ | (dsimp only; omega))).q) (lt_dec rfl) ?_
        refine WQ_nil ?_
        refine RA_one 7 rfl rfl (by kernel_rfl) (x_store rfl rfl rfl rfl rfl (((HpRep.head).tail).tail) rfl (by first | trivial | (first | (first | omega | (dsimp only; omega)) | exact Fin.isLt _)) ?_)
        refine RA_quiet (g := 0) [8] (by kernel_rfl) (by kernel_rfl) (by kernel_rfl) (by kernel_rfl) ?_
        refine WQ_cons rfl rfl rfl ((p_assign rfl).q) (lt_dec rfl) ?_
        refine WQ_nil ?_
        refine RA_done (by kernel_rfl) ?_
        refine W_ret ?_
        refine Exists.intro _ (And.intro (.cons (.cell rfl rfl m2 rfl trivial) (.cons (.tmp rfl) .nil)) (Exists.intro (x10_3, x13_3) (And.intro ?_ (And.intro ?_ (And.intro (.cons (HpDel.head).tail rfl (own_eq (by rw [mmT_t hq])) (.cons HpDel.head rfl (own_eq (by rw [mmT_t hq])) .nil)) rfl)))))
        · trivial
        · (rw [hq]; rfl)
    · refine Xt_of_Qt rfl (lt_dec rfl) ((q_load rfl rfl m1 rfl (by first | exact True.intro | trivial | (first | omega | (dsimp only; omega)) | exact Fin.isLt _ | (dsimp only; omega)))) ?_
      refine RA_quiet (g := 5) [0, 1] (by kernel_rfl) (by kernel_rfl) (by kernel_rfl) (by kernel_rfl) ?_
      refine WQ_cons rfl rfl rfl ((p_fieldAddr rfl rfl rfl rfl rfl rfl).q) (lt_dec rfl) ?_
      refine WQ_cons rfl rfl rfl ((q_load rfl rfl m1 rfl (by first | exact True.intro | trivial | (first | omega | (dsimp only; omega)) | exact Fin.isLt _ | (dsimp only; omega)))) (lt_dec rfl) ?_
      refine WQ_nil ?_
      refine RA_one 2 rfl rfl (by kernel_rfl) (x_callT en_impl_mirrored rfl (w_impl_mirrored h1.1) HpDels.nil (Vw.rd m2) (fun _ => (HpDels.cons HpDel.head HpDels.nil)) (lt_dec rfl) fun x10_4 _ => ?_)
      refine RA_one 5 rfl rfl (by kernel_rfl) (x_callT en_impl_mirrored rfl (w_impl_mirrored h1.2) HpDels.nil (Vw.rd m4) (fun _ => (HpDels.cons HpDel.head HpDels.nil)) (lt_dec rfl) fun x13_4 _ => ?_)
      refine RA_quiet (g := 2) [6] (by kernel_rfl) (by kernel_rfl) (by kernel_rfl) (by kernel_rfl) ?_
      refine WQ_cons rfl rfl rfl ((p_build rfl rfl rfl rfl (by first | exact True.intro | trivial | (first | omega | (dsimp only; omega)) | exact Fin.isLt _ | (dsimp only; omega))).q) (lt_dec rfl) ?_
      refine WQ_nil ?_
      refine RA_one 7 rfl rfl (by kernel_rfl) (x_store rfl rfl rfl rfl rfl (((HpRep.head).tail).tail) rfl (by first | trivial | (first | (first | omega | (dsimp only; omega)) | exact Fin.isLt _)) ?_)
      refine RA_quiet (g := 0) [8] (by kernel_rfl) (by kernel_rfl) (by kernel_rfl) (by kernel_rfl) ?_
      refine WQ_cons rfl rfl rfl ((p_assign rfl).q) (lt_dec rfl) ?_
      refine WQ_nil ?_
      refine RA_done (by kernel_rfl) ?_
      refine W_ret ?_
      refine Exists.intro _ (And.intro (.cons (.cell rfl rfl m2 rfl trivial) (.cons (.tmp rfl) .nil)) (Exists.intro (x10_4, x13_4) (And.intro ?_ (And.intro ?_ (And.intro (.cons (HpDel.head).tail rfl (own_eq (by rw [mmT_t hq])) (.cons HpDel.head rfl (own_eq (by rw [mmT_t hq])) .nil)) rfl)))))
      · trivial
      · (rw [hq]; rfl)
end Go.Proofs.Ytdcpggdbjllmpaa
