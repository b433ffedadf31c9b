/- What the Go function impl.made does, shown of its loaded text; its conditions stand in the statement. -/
import Derived.Test.YtdcpggdbjllmpaaTy
import Derived.Test.YtdcpggdbjllmpaaFimplSquareelements
import Derived.Test.YtdcpggdbjllmpaaM7
namespace Go.Proofs.Ytdcpggdbjllmpaa
open Go Gx
set_option linter.unusedVariables false
theorem en_impl_made : Enters Try.prog 52 := enters_of Try.func52 (by kernel_rfl) (by kernel_rfl)
set_option maxRecDepth 100000 in
theorem w_impl_made {n : Int} {f : FuncId} {cap : Array Value} {need : List Ent} {g : Nat → Nat → Fin 256} (hn : 0 ≤ n ∧ n ≤ 10) (hen : Enters Try.prog f) (hneed : wkeys need = []) (hc : ∀ x y : Nat, x < n.toNat → y < n.toNat → CR Try.prog f (#[] ++ vals [.int .u8 (x : Int), .int .u8 (y : Int)] ++ cap) need (.u8 (g x y))) : CR Try.prog 52 (vals [.int .i64 n, .raw (.func (.func f) #[] cap) rfl]) need (.agg [.int .i64 n, .arr8 100 (part n.toNat g n.toNat 0)]) := by
  refine CR_intro (rs := [.cell 4 45]) tt tok Try.func52 rfl rfl rfl (by first | rfl | assumption) fun w => ?_
  refine W_seq ?_
  refine W_region ?_
  refine Ops_x rfl (x_alloc rfl (lt_dec rfl) fun b4_1 => ?_)
  refine Ops_nil ?_
  refine W_seq ?_
  refine W_region ?_
  refine Ops_p (p_move rfl) (lt_dec rfl) ?_
  refine Ops_p (p_build rfl rfl rfl rfl (by first | exact True.intro | trivial | (first | omega | (dsimp only; omega)) | exact Fin.isLt _ | (dsimp only; omega))) (lt_dec rfl) ?_
  refine Ops_x rfl (x_alloc rfl (lt_dec rfl) fun b5_1 => ?_)
  refine Ops_x rfl (x_store rfl rfl rfl rfl rfl HpRep.head rfl (by first | trivial | (first | (first | omega | (dsimp only; omega)) | exact Fin.isLt _)) ?_)
  refine Ops_nil ?_
  refine W_seq ?_
  refine W_seq ?_
  refine W_region ?_
  refine Ops_q (q_load rfl rfl m0 rfl (by first | exact True.intro | trivial | (first | omega | (dsimp only; omega)) | exact Fin.isLt _ | (dsimp only; omega))) (lt_dec rfl) ?_
  refine Ops_x rfl (x_callRow en_impl_Square_elements rfl (w_impl_Square_elements (by first | assumption | (first | omega | (dsimp only; omega)) | (simp; done) | decide)) (View.none _) elems_len (lt_dec rfl) fun b13_1 cb13_1 => ?_)
  refine Ops_p (p_len rfl rfl rfl) (lt_dec rfl) ?_
  refine Ops_p (p_move rfl) (lt_dec rfl) ?_
  refine Ops_nil ?_
  refine W_block ?_
  refine W_loop (α := Nat) (fun x => ⟨[(0, .int .i64 n), (1, .raw (.func (.func f) #[] cap) rfl), (4, .ptr b4_1 0 none), (5, .ptr b5_1 0 none), (10, .int .i64 n), (11, .agg [.int .i64 n, .arr8 100 (fun _ => 0)]), (12, .agg [.int .i64 n, .arr8 100 (fun _ => 0)]), (13, .sl b13_1 0 n.toNat cb13_1), (14, .int .i64 (n.toNat : Int)), (15, .int .i64 (x : Int))], .row b13_1 cb13_1 5 (.u8s (elems n.toNat)) :: .var b5_1 (.agg [.int .i64 n, .arr8 100 (part n.toNat g x 0)]) :: .var b4_1 (.agg [.int .i64 0, .arr8 100 fun _ => 0]) :: need⟩) (fun x => x ≤ n.toNat) (fun x => n.toNat - x) 0 ?_ ?_ ?_
  · show _ ≤ _; omega
  · exact Wk.intro (.cons rfl (by first | rfl | exact veq_int (by first | omega | (dsimp only; omega))) (.cons rfl (by first | rfl | exact veq_int (by first | omega | (dsimp only; omega))) (.cons rfl (by first | rfl | exact veq_int (by first | omega | (dsimp only; omega))) (.cons rfl (by first | rfl | exact veq_int (by first | omega | (dsimp only; omega))) (.cons rfl (by first | rfl | exact veq_int (by first | omega | (dsimp only; omega))) (.cons rfl (by first | rfl | exact veq_int (by first | omega | (dsimp only; omega))) (.cons rfl (by first | rfl | exact veq_int (by first | omega | (dsimp only; omega))) (.cons rfl (by first | rfl | exact veq_int (by first | omega | (dsimp only; omega))) (.cons rfl (by first | rfl | exact veq_int (by first | omega | (dsimp only; omega))) (.cons rfl (by first | rfl | exact veq_int (by first | omega | (dsimp only; omega))) .nil)))))))))) (.keep rfl rfl (fun _ h => h) (.keep rfl rfl (imp_var (by exact ceq_cons rfl (ceq_cons (ceq_arr8 fun k _ => (part_zero k).symm) rfl)) rfl) (.keep rfl rfl (fun _ h => h) .all)))
  · rintro x hR
    refine W_seq ?_
    refine W_region ?_
    refine Ops_p (p_lss rfl rfl) (lt_dec rfl) ?_
    refine Ops_nil ?_
    refine W_seq ?_
    refine W_cond rfl (fun h1 => ?_) (fun h1 => ?_)
    · try simp only [bs] at h1
      refine W_skip ?_
      refine W_seq ?_
      refine W_block ?_
      refine W_seq ?_
      refine W_region ?_
      refine Ops_p (p_ixl1 _ rfl rfl rfl rfl rfl rfl (by first | (first | omega | (dsimp only; omega)) | exact Fin.isLt _)) (lt_dec rfl) ?_
      refine Ops_q (q_elem rfl rfl m0 (by omega) (by omega) rfl rfl) (lt_dec rfl) ?_
      refine Ops_p (p_assign rfl) (lt_dec rfl) ?_
      refine Ops_nil ?_
      refine W_seq ?_
      refine W_region ?_
      refine Ops_q (q_load rfl rfl m1 rfl (by first | exact True.intro | trivial | (first | omega | (dsimp only; omega)) | exact Fin.isLt _ | (dsimp only; omega))) (lt_dec rfl) ?_
      refine Ops_x rfl (x_callRow en_impl_Square_elements rfl (w_impl_Square_elements (by first | assumption | (first | omega | (dsimp only; omega)) | (simp; done) | decide)) (View.none _) elems_len (lt_dec rfl) fun b20_1 cb20_1 => ?_)
      refine Ops_p (p_len rfl rfl rfl) (lt_dec rfl) ?_
      refine Ops_p (p_move rfl) (lt_dec rfl) ?_
      refine Ops_nil ?_
      refine W_block ?_
      refine W_loop (α := Nat) (fun y => ⟨[(0, .int .i64 n), (1, .raw (.func (.func f) #[] cap) rfl), (4, .ptr b4_1 0 none), (5, .ptr b5_1 0 none), (7, .int .u8 (x : Int)), (10, .int .i64 n), (11, .agg [.int .i64 n, .arr8 100 (fun _ => 0)]), (12, .agg [.int .i64 n, .arr8 100 (fun _ => 0)]), (13, .sl b13_1 0 n.toNat cb13_1), (14, .int .i64 (n.toNat : Int)), (15, .int .i64 (x : Int)), (18, .int .u8 (x : Int)), (19, .agg [.int .i64 n, .arr8 100 (part n.toNat g x 0)]), (20, .sl b20_1 0 n.toNat cb20_1), (21, .int .i64 (n.toNat : Int)), (22, .int .i64 (y : Int))], .row b20_1 cb20_1 5 (.u8s (elems n.toNat)) :: .row b13_1 cb13_1 5 (.u8s (elems n.toNat)) :: .var b5_1 (.agg [.int .i64 n, .arr8 100 (part n.toNat g x y)]) :: .var b4_1 (.agg [.int .i64 0, .arr8 100 fun _ => 0]) :: need⟩) (fun y => y ≤ n.toNat) (fun y => n.toNat - y) 0 ?_ ?_ ?_
      · show _ ≤ _; omega
      · exact Wk.intro (.cons rfl (by first | rfl | exact veq_int (by first | omega | (dsimp only; omega))) (.cons rfl (by first | rfl | exact veq_int (by first | omega | (dsimp only; omega))) (.cons rfl (by first | rfl | exact veq_int (by first | omega | (dsimp only; omega))) (.cons rfl (by first | rfl | exact veq_int (by first | omega | (dsimp only; omega))) (.cons rfl (by first | rfl | exact veq_int (by first | omega | (dsimp only; omega))) (.cons rfl (by first | rfl | exact veq_int (by first | omega | (dsimp only; omega))) (.cons rfl (by first | rfl | exact veq_int (by first | omega | (dsimp only; omega))) (.cons rfl (by first | rfl | exact veq_int (by first | omega | (dsimp only; omega))) (.cons rfl (by first | rfl | exact veq_int (by first | omega | (dsimp only; omega))) (.cons rfl (by first | rfl | exact veq_int (by first | omega | (dsimp only; omega))) (.cons rfl (by first | rfl | exact veq_int (by first | omega | (dsimp only; omega))) (.cons rfl (by first | rfl | exact veq_int (by first | omega | (dsimp only; omega))) (.cons rfl (by first | rfl | exact veq_int (by first | omega | (dsimp only; omega))) (.cons rfl (by first | rfl | exact veq_int (by first | omega | (dsimp only; omega))) (.cons rfl (by first | rfl | exact veq_int (by first | omega | (dsimp only; omega))) (.cons rfl (by first | rfl | exact veq_int (by first | omega | (dsimp only; omega))) .nil)))))))))))))))) (.keep rfl rfl (fun _ h => h) (.keep rfl rfl (fun _ h => h) (.keep rfl rfl (imp_var (by rfl) rfl) (.keep rfl rfl (fun _ h => h) .all))))
      · rintro y hR
        refine W_seq ?_
        refine W_region ?_
        refine Ops_p (p_lss rfl rfl) (lt_dec rfl) ?_
        refine Ops_nil ?_
        refine W_seq ?_
        refine W_cond rfl (fun h2 => ?_) (fun h2 => ?_)
        · try simp only [bs] at h2
          refine W_skip ?_
          refine W_seq ?_
          refine W_block ?_
          refine W_seq ?_
          refine W_region ?_
          refine Ops_p (p_ixl1 _ rfl rfl rfl rfl rfl rfl (by first | (first | omega | (dsimp only; omega)) | exact Fin.isLt _)) (lt_dec rfl) ?_
          refine Ops_q (q_elem rfl rfl m0 (by omega) (by omega) rfl rfl) (lt_dec rfl) ?_
          refine Ops_p (p_assign rfl) (lt_dec rfl) ?_
          refine Ops_nil ?_
          refine W_draw (by kernel_rfl) ?_
          show RA _ _ 10 _ _ _
          refine RA_quiet (g := 1) [0, 1, 2, 3, 4, 5, 6, 7, 8] (by kernel_rfl) (by kernel_rfl) (by kernel_rfl) (by kernel_rfl) ?_
          refine WQ_cons rfl rfl rfl ((p_move rfl).q) (lt_dec rfl) ?_
          refine WQ_cons rfl rfl rfl ((p_move rfl).q) (lt_dec rfl) ?_
          refine WQ_cons rfl rfl rfl ((p_move rfl).q) (lt_dec rfl) ?_
          refine WQ_cons rfl rfl rfl ((p_move rfl).q) (lt_dec rfl) ?_
          refine WQ_cons rfl rfl rfl ((p_move rfl).q) (lt_dec rfl) ?_
          refine WQ_cons rfl rfl rfl ((q_callv hen rfl rfl (hc x y (by omega) (by omega)) (View.tail (View.tail (View.tail (View.tail (View.refl _))))))) (lt_dec rfl) ?_
          refine WQ_cons rfl rfl rfl ((p_fieldAddr rfl rfl rfl rfl rfl rfl).q) (lt_dec rfl) ?_
          refine WQ_cons rfl rfl rfl ((p_ixN 10 _ rfl rfl rfl rfl rfl rfl (by first | (first | omega | (dsimp only; omega)) | exact Fin.isLt _)).q) (lt_dec rfl) ?_
          first | refine WQ_cons rfl rfl rfl ((p_ix1 _ rfl rfl rfl rfl rfl rfl (by first | (first | omega | (dsimp only; omega)) | exact Fin.isLt _)).q) (lt_dec rfl) ?_ | refine WQ_cons rfl rfl rfl ((p_ix1s _ rfl rfl rfl rfl rfl rfl (by first | (first | omega | (dsimp only; omega)) | exact Fin.isLt _)).q) (lt_dec rfl) ?_
          refine WQ_nil ?_
          refine RA_one 9 rfl rfl (by kernel_rfl) (x_store rfl rfl rfl rfl rfl (((HpRep.head).tail).tail) rfl (by first | trivial | (first | (first | omega | (dsimp only; omega)) | exact Fin.isLt _)) ?_)
          refine RA_done (by kernel_rfl) ?_
          refine W_region ?_
          refine Ops_p (p_add rfl rfl (by exact ⟨(by first | omega | (dsimp only; omega)), (by first | omega | (dsimp only; omega))⟩)) (lt_dec rfl) ?_
          refine Ops_p (p_move rfl) (lt_dec rfl) ?_
          refine Ops_nil ?_
          refine Exists.intro (y + 1) (And.intro ?_ (And.intro ?_ ?_))
          · show _ ≤ _; omega
          · show _ < _; omega
          · exact Wk.intro (.cons rfl (by first | rfl | exact veq_int (by first | omega | (dsimp only; omega))) (.cons rfl (by first | rfl | exact veq_int (by first | omega | (dsimp only; omega))) (.cons rfl (by first | rfl | exact veq_int (by first | omega | (dsimp only; omega))) (.cons rfl (by first | rfl | exact veq_int (by first | omega | (dsimp only; omega))) (.cons rfl (by first | rfl | exact veq_int (by first | omega | (dsimp only; omega))) (.cons rfl (by first | rfl | exact veq_int (by first | omega | (dsimp only; omega))) (.cons rfl (by first | rfl | exact veq_int (by first | omega | (dsimp only; omega))) (.cons rfl (by first | rfl | exact veq_int (by first | omega | (dsimp only; omega))) (.cons rfl (by first | rfl | exact veq_int (by first | omega | (dsimp only; omega))) (.cons rfl (by first | rfl | exact veq_int (by first | omega | (dsimp only; omega))) (.cons rfl (by first | rfl | exact veq_int (by first | omega | (dsimp only; omega))) (.cons rfl (by first | rfl | exact veq_int (by first | omega | (dsimp only; omega))) (.cons rfl (by first | rfl | exact veq_int (by first | omega | (dsimp only; omega))) (.cons rfl (by first | rfl | exact veq_int (by first | omega | (dsimp only; omega))) (.cons rfl (by first | rfl | exact veq_int (by first | omega | (dsimp only; omega))) (.cons rfl (by first | rfl | exact veq_int (by first | omega | (dsimp only; omega))) .nil)))))))))))))))) (.keep rfl rfl (fun _ h => h) (.keep rfl rfl (fun _ h => h) (.keep rfl rfl (imp_var (by exact ceq_cons rfl (ceq_cons (ceq_arr8 fun k _ => part_step (by omega) k) rfl)) rfl) (.keep rfl rfl (fun _ h => h) .all))))
        · try simp only [bs] at h2
          obtain rfl : y = n.toNat := (by omega)
          refine W_exit ?_
          refine W_region ?_
          refine Ops_p (p_add rfl rfl (by exact ⟨(by first | omega | (dsimp only; omega)), (by first | omega | (dsimp only; omega))⟩)) (lt_dec rfl) ?_
          refine Ops_p (p_move rfl) (lt_dec rfl) ?_
          refine Ops_nil ?_
          refine Exists.intro (x + 1) (And.intro ?_ (And.intro ?_ ?_))
          · show _ ≤ _; omega
          · show _ < _; omega
          · exact Wk.intro (.cons rfl (by first | rfl | exact veq_int (by first | omega | (dsimp only; omega))) (.cons rfl (by first | rfl | exact veq_int (by first | omega | (dsimp only; omega))) (.cons rfl (by first | rfl | exact veq_int (by first | omega | (dsimp only; omega))) (.cons rfl (by first | rfl | exact veq_int (by first | omega | (dsimp only; omega))) (.cons rfl (by first | rfl | exact veq_int (by first | omega | (dsimp only; omega))) (.cons rfl (by first | rfl | exact veq_int (by first | omega | (dsimp only; omega))) (.cons rfl (by first | rfl | exact veq_int (by first | omega | (dsimp only; omega))) (.cons rfl (by first | rfl | exact veq_int (by first | omega | (dsimp only; omega))) (.cons rfl (by first | rfl | exact veq_int (by first | omega | (dsimp only; omega))) (.cons rfl (by first | rfl | exact veq_int (by first | omega | (dsimp only; omega))) .nil)))))))))) (.drop (.keep rfl rfl (fun _ h => h) (.keep rfl rfl (imp_var (by exact ceq_cons rfl (ceq_cons (ceq_arr8 fun k _ => part_row k) rfl)) rfl) (.keep rfl rfl (fun _ h => h) .all))))
    · try simp only [bs] at h1
      obtain rfl : x = n.toNat := (by omega)
      refine W_exit ?_
      refine W_seq ?_
      refine W_region ?_
      refine Ops_q (q_load rfl rfl m1 rfl (by first | exact True.intro | trivial | (first | omega | (dsimp only; omega)) | exact Fin.isLt _ | (dsimp only; omega))) (lt_dec rfl) ?_
      refine Ops_x rfl (x_store rfl rfl rfl rfl rfl (((HpRep.head).tail).tail) rfl (by first | trivial | (first | (first | omega | (dsimp only; omega)) | exact Fin.isLt _)) ?_)
      refine Ops_nil ?_
      refine W_ret ?_
      refine Exists.intro _ (And.intro (.cons (.cell rfl rfl m2 rfl trivial) .nil) ?_)
      rfl
end Go.Proofs.Ytdcpggdbjllmpaa
