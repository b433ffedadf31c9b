/- What the Go function impl.IntercalatesOf$1$1 does, shown of its loaded text; its conditions stand in the statement. -/
import Derived.Test.YtdcpggdbjllmpaaTy
import Derived.Test.YtdcpggdbjllmpaaFimplSquareisIntercalate
import Derived.Test.YtdcpggdbjllmpaaGx12
import Derived.Test.YtdcpggdbjllmpaaGx20
import Derived.Test.YtdcpggdbjllmpaaGx28
import Derived.Test.YtdcpggdbjllmpaaM17
import Derived.Test.YtdcpggdbjllmpaaM35
namespace Go.Proofs.Ytdcpggdbjllmpaa
open Go Gx
set_option linter.unusedVariables false
theorem en_impl_IntercalatesOfX1X1 : Enters Try.prog 62 := enters_of Try.func62 (by kernel_rfl) (by kernel_rfl)
set_option maxRecDepth 100000 in
theorem w_impl_IntercalatesOfX1X1 {t : Nat → Fin 256} {n : Int} {a b c d bq ba bb bo : Nat} {v : Value} {hv : v.oneCell' = true} {D : SL} (hs : SqP n t) (ha : a < n.toNat) (hb : b < n.toNat) (hc : c < n.toNat) (hd : d < n.toNat) (hD : D.map (·.2) = icP t n.toNat a b c d) : CT (X := V1 × SL) Try.prog 62 (vals [.int .u8 (c : Int), .int .u8 (d : Int), .ptr bq 0 none, .ptr ba 0 none, .ptr bb 0 none, .ptr bo 0 none]) [.var bo (.raw v hv), oss v 74 2 D] [.rvar bq (.agg [.int .i64 n, .arr8 100 t]), .rvar ba (.int .u8 (a : Int)), .rvar bb (.int .u8 (b : Int))] (fun x => x.2.map (·.2) = icP t n.toNat a b c (d + 1)) (fun x => .bool true) (fun x => [.var bo (.raw x.1.1 x.1.2), oss x.1.1 74 2 x.2]) := by
  refine CT_intro (rs := [.tmp 8]) tt tok Try.func62 rfl rfl rfl (by first | rfl | assumption) fun w => ?_
  show W _ _ _ ⟨tmOf 0 [.int .u8 (c : Int), .int .u8 (d : Int), .ptr bq 0 none, .ptr ba 0 none, .ptr bb 0 none, .ptr bo 0 none], [.var bo (.raw v hv), oss v 74 2 D, .rvar bq (.agg [.int .i64 n, .arr8 100 t]), .rvar ba (.int .u8 (a : Int)), .rvar bb (.int .u8 (b : Int))]⟩
  have hn := hs.1
  refine W_seq ?_
  refine W_region ?_
  refine Ops_p (p_assign rfl) (lt_dec rfl) ?_
  refine Ops_nil ?_
  refine W_seq ?_
  refine W_seq ?_
  refine W_region ?_
  refine Ops_p (p_move rfl) (lt_dec rfl) ?_
  refine Ops_p (p_move rfl) (lt_dec rfl) ?_
  refine Ops_p (p_lss rfl rfl) (lt_dec rfl) ?_
  refine Ops_p (p_move rfl) (lt_dec rfl) ?_
  refine Ops_guard rfl rfl (lt_dec rfl) (fun hg1 => ?_) (fun hg1 => ?_)
  · try simp only [bs] at hg1
    refine Ops_q (q_load_r rfl rfl m2 rfl (by first | trivial | (first | omega | (dsimp only; omega)) | exact Fin.isLt _ | (dsimp only; omega))) (lt_dec rfl) ?_
    refine Ops_guard_t rfl rfl (lt_dec rfl) ?_
    refine Ops_q (q_load_r rfl rfl m3 rfl (by first | trivial | (first | omega | (dsimp only; omega)) | exact Fin.isLt _ | (dsimp only; omega))) (lt_dec rfl) ?_
    refine Ops_guard_t rfl rfl (lt_dec rfl) ?_
    refine Ops_q (q_load_r rfl rfl m4 rfl (by first | trivial | (first | omega | (dsimp only; omega)) | exact Fin.isLt _ | (dsimp only; omega))) (lt_dec rfl) ?_
    refine Ops_guard_t rfl rfl (lt_dec rfl) ?_
    refine Ops_p (p_move rfl) (lt_dec rfl) ?_
    refine Ops_guard_t rfl rfl (lt_dec rfl) ?_
    refine Ops_p (p_move rfl) (lt_dec rfl) ?_
    refine Ops_guard_t rfl rfl (lt_dec rfl) ?_
    refine Ops_q (q_call en_impl_Square_isIntercalate rfl (w_impl_Square_isIntercalate (by omega) (by omega) (by omega) (by omega)) (View.none _)) (lt_dec rfl) ?_
    refine Ops_p (p_pick_t rfl rfl) (lt_dec rfl) ?_
    refine Ops_nil ?_
    refine W_cond rfl (fun h1 => ?_) (fun h1 => ?_)
    · try simp only [bs] at h1
      have hic := h1
      refine W_region ?_
      refine Ops_q (q_load rfl rfl m0 rfl (by first | trivial | (first | omega | (dsimp only; omega)) | exact Fin.isLt _ | (dsimp only; omega))) (lt_dec rfl) ?_
      refine Ops_q (q_load_r rfl rfl m3 rfl (by first | trivial | (first | omega | (dsimp only; omega)) | exact Fin.isLt _ | (dsimp only; omega))) (lt_dec rfl) ?_
      first | refine Ops_p (p_conv8 rfl rfl rfl (by decide)) (lt_dec rfl) ?_ | refine Ops_p (p_conv rfl rfl rfl (by exact ⟨(by first | omega | (dsimp only; omega)), (by first | omega | (dsimp only; omega))⟩)) (lt_dec rfl) ?_
      refine Ops_q (q_load_r rfl rfl m4 rfl (by first | trivial | (first | omega | (dsimp only; omega)) | exact Fin.isLt _ | (dsimp only; omega))) (lt_dec rfl) ?_
      first | refine Ops_p (p_conv8 rfl rfl rfl (by decide)) (lt_dec rfl) ?_ | refine Ops_p (p_conv rfl rfl rfl (by exact ⟨(by first | omega | (dsimp only; omega)), (by first | omega | (dsimp only; omega))⟩)) (lt_dec rfl) ?_
      refine Ops_p (p_move rfl) (lt_dec rfl) ?_
      first | refine Ops_p (p_conv8 rfl rfl rfl (by decide)) (lt_dec rfl) ?_ | refine Ops_p (p_conv rfl rfl rfl (by exact ⟨(by first | omega | (dsimp only; omega)), (by first | omega | (dsimp only; omega))⟩)) (lt_dec rfl) ?_
      refine Ops_p (p_move rfl) (lt_dec rfl) ?_
      first | refine Ops_p (p_conv8 rfl rfl rfl (by decide)) (lt_dec rfl) ?_ | refine Ops_p (p_conv rfl rfl rfl (by exact ⟨(by first | omega | (dsimp only; omega)), (by first | omega | (dsimp only; omega))⟩)) (lt_dec rfl) ?_
      refine Ops_x rfl (x_buildSlice rfl rfl rfl rfl rfl rfl rfl rfl (Nat.le_of_ble_eq_true rfl) (lt_dec rfl) fun b29_1 => ?_)
      refine Ops_x rfl (x_buildSlice rfl rfl rfl rfl rfl rfl rfl rfl (Nat.le_of_ble_eq_true rfl) (lt_dec rfl) fun b30_1 => ?_)
      refine Ops_x rfl (x_appendSS (u := (slv b29_1 4 4)) (li := [(a : Int), (b : Int), (c : Int), (d : Int)]) rfl rfl rfl rfl rfl rfl m0 (HpDels.cons (((HpDel.head).tail).tail).tail (HpDels.cons (HpDel.head).tail HpDels.nil)) rfl rfl (own_of_row rfl rfl) (fun _ => (HpDels.cons ((HpDel.head).tail).tail HpDels.nil)) (by have h9 := icP_len (t := t) (m := n.toNat) (a := a) (b := b) (c := c) (d := d) (by omega) (by omega) (by omega) (by omega) (by omega); have h8 := congrArg List.length hD; rw [List.length_map] at h8; first | omega | (dsimp only; omega)) (by have h9 := icP_len (t := t) (m := n.toNat) (a := a) (b := b) (c := c) (d := d) (by omega) (by omega) (by omega) (by omega) (by omega); have h8 := congrArg List.length hD; rw [List.length_map] at h8; first | omega | (dsimp only; omega)) (lt_dec rfl) fun v31 => ?_)
      refine Ops_x rfl (x_store rfl rfl rfl rfl rfl ((HpRep.head).tail) rfl (by first | trivial | (first | (first | omega | (dsimp only; omega)) | exact Fin.isLt _)) ?_)
      refine Ops_nil ?_
      refine W_seq ?_
      refine W_region ?_
      refine Ops_p (p_assign rfl) (lt_dec rfl) ?_
      refine Ops_nil ?_
      refine W_ret ?_
      refine Exists.intro _ (And.intro (.cons (.tmp rfl) .nil) (Exists.intro (v31, (D ++ [((slv b29_1 4 4), [(a : Int), (b : Int), (c : Int), (d : Int)])])) (And.intro ?_ (And.intro ?_ (And.intro (.cons (HpDel.head).tail rfl (imp_var rfl rfl) (.cons (HpDel.head).tail rfl (oss_eq rfl) .nil)) rfl)))))
      · rw [List.map_append, hD]; exact (icP_y (by omega) hic).symm
      · rfl
    · try simp only [bs] at h1
      have hic := h1
      refine W_skip ?_
      refine W_seq ?_
      refine W_region ?_
      refine Ops_p (p_assign rfl) (lt_dec rfl) ?_
      refine Ops_nil ?_
      refine W_ret ?_
      refine Exists.intro _ (And.intro (.cons (.tmp rfl) .nil) (Exists.intro (⟨v, hv⟩, D) (And.intro ?_ (And.intro ?_ (And.intro (.cons HpDel.head rfl (imp_var rfl rfl) (.cons HpDel.head rfl (oss_eq rfl) .nil)) rfl)))))
      · exact hD.trans (icP_n (by first | omega | (intro hh; rw [hh.2] at hic; cases hic))).symm
      · rfl
  · try simp only [bs] at hg1
    refine Ops_guard_f rfl rfl rfl (lt_dec rfl) ?_
    refine Ops_guard_f rfl rfl rfl (lt_dec rfl) ?_
    refine Ops_guard_f rfl rfl rfl (lt_dec rfl) ?_
    refine Ops_guard_f rfl rfl rfl (lt_dec rfl) ?_
    refine Ops_guard_f rfl rfl rfl (lt_dec rfl) ?_
    refine Ops_p (p_pick_f rfl rfl) (lt_dec rfl) ?_
    refine Ops_nil ?_
    refine W_false rfl ?_
    refine W_skip ?_
    refine W_seq ?_
    refine W_region ?_
    refine Ops_p (p_assign rfl) (lt_dec rfl) ?_
    refine Ops_nil ?_
    refine W_ret ?_
    refine Exists.intro _ (And.intro (.cons (.tmp rfl) .nil) (Exists.intro (⟨v, hv⟩, D) (And.intro ?_ (And.intro ?_ (And.intro (.cons HpDel.head rfl (imp_var rfl rfl) (.cons HpDel.head rfl (oss_eq rfl) .nil)) rfl)))))
    · exact hD.trans (icP_n (by first | omega | (intro hh; rw [hh.2] at hic; cases hic))).symm
    · rfl
end Go.Proofs.Ytdcpggdbjllmpaa
