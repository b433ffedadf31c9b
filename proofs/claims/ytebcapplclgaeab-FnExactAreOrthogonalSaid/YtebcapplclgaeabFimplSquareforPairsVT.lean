/- What the Go function (impl.Square).forPairs@T does, shown of its loaded text; its conditions stand in the statement. -/
import Derived.Test.YtebcapplclgaeabTy
import Derived.Test.YtebcapplclgaeabFimplSquareelements
import Derived.Test.YtebcapplclgaeabGx12
import Derived.Test.YtebcapplclgaeabM17
namespace Go.Proofs.Ytebcapplclgaeab
open Go Gx
set_option linter.unusedVariables false
theorem en_impl_Square_forPairsVT : Enters Try.prog 60 := enters_of Try.func60 (by kernel_rfl) (by kernel_rfl)
set_option maxRecDepth 100000 in
theorem w_impl_Square_forPairsVT {t : Nat → Fin 256} {n : Int} {f : FuncId} {cap : Array Value} {need : List Ent} {Z : Type} {s0 : Ent} {S S2 : Nat → Nat → Z → Ent} {p : Nat → Nat → Bool} {z0 : Z} (hn : 1 ≤ n ∧ n ≤ 10) (hen : Enters Try.prog f) (hneed : wkeys need = []) (h0 : (S 0 0 z0).wkey = s0.wkey ∧ ∀ w, s0.ok w → (S 0 0 z0).ok w) (hr : ∀ i j z, (S i j z).rkey = [] ∧ (S2 i j z).rkey = []) (hs0 : s0.rkey = []) (hS : ∀ i j z, i < n.toNat → j < n.toNat → p i j = true → (S i (j + 1) z).wkey = (S2 i j z).wkey ∧ ∀ w, (S2 i j z).ok w → (S i (j + 1) z).ok w) (hrow : ∀ i z, (S (i + 1) 0 z).wkey = (S i n.toNat z).wkey ∧ ∀ w, (S i n.toNat z).ok w → (S (i + 1) 0 z).ok w) (hc : ∀ i j z, i < n.toNat → j < n.toNat → CT Try.prog f (#[] ++ vals [.int .u8 (i : Int), .int .u8 (j : Int)] ++ cap) [S i j z] need (fun _ : Z => True) (fun _ => .bool (p i j)) (fun z2 => [S2 i j z2])) : CT (X := Bool × Nat × Nat × Z) Try.prog 60 (vals [.agg [.int .i64 n, .arr8 100 t], .raw (.func (.func f) #[] cap) rfl]) [s0] need (fun x => (x.1 = true ∧ ∀ i j, i < n.toNat → j < n.toNat → p i j = true) ∨ (x.1 = false ∧ x.2.1 < n.toNat ∧ x.2.2.1 < n.toNat ∧ p x.2.1 x.2.2.1 = false)) (fun x => .bool x.1) (fun x => [bif x.1 then S n.toNat 0 x.2.2.2 else S2 x.2.1 x.2.2.1 x.2.2.2]) := by
  refine CT_intro (rs := [.tmp 4]) tt tok Try.func60 rfl rfl rfl (by first | rfl | assumption) fun w => ?_
  show W _ _ _ ⟨tmOf 0 [.agg [.int .i64 n, .arr8 100 t], .raw (.func (.func f) #[] cap) rfl], [s0] ++ need⟩
  refine W_seq ?_
  refine W_region ?_
  refine Ops_x rfl (x_box rfl rfl (lt_dec rfl) fun b2_1 => ?_)
  refine Ops_p (p_assign rfl) (lt_dec rfl) ?_
  refine Ops_nil ?_
  refine W_seq ?_
  refine W_seq ?_
  refine W_region ?_
  refine Ops_q (q_load rfl rfl m0 rfl (by first | trivial | (first | omega | (dsimp only; omega)) | exact Fin.isLt _ | (dsimp only; omega))) (lt_dec rfl) ?_
  refine Ops_x rfl (x_callRow en_impl_Square_elements rfl (w_impl_Square_elements (by omega)) (View.none _) elems_len (lt_dec rfl) fun b10_1 cb10_1 => ?_)
  refine Ops_p (p_len rfl rfl rfl) (lt_dec rfl) ?_
  refine Ops_p (p_move rfl) (lt_dec rfl) ?_
  refine Ops_nil ?_
  refine W_block ?_
  refine W_loop (α := Nat × Z) (fun zz0 => ⟨[(0, .agg [.int .i64 n, .arr8 100 t]), (1, .raw (.func (.func f) #[] cap) rfl), (2, .ptr b2_1 0 none), (9, .agg [.int .i64 n, .arr8 100 t]), (10, .sl b10_1 0 n.toNat cb10_1), (11, .int .i64 (n.toNat : Int)), (12, .int .i64 ((zz0.1) : Int))], .row b10_1 cb10_1 5 (.u8s (elems n.toNat)) :: .var b2_1 (.agg [.int .i64 n, .arr8 100 t]) :: S (zz0.1) 0 (zz0.2) :: need⟩) (fun zz0 => (zz0.1) ≤ n.toNat ∧ Ahead n.toNat p (zz0.1) 0) (fun zz0 => n.toNat - (zz0.1)) (0, z0) ?_ ?_ ?_
  · exact ⟨Nat.zero_le _, Ahead.zero⟩
  · exact Wk.intro (.cons rfl (by first | rfl | exact veq_int (by first | omega | (dsimp only; omega))) (.cons rfl (by first | rfl | exact veq_int (by first | omega | (dsimp only; omega))) (.cons rfl (by first | rfl | exact veq_int (by first | omega | (dsimp only; omega))) (.cons rfl (by first | rfl | exact veq_int (by first | omega | (dsimp only; omega))) (.cons rfl (by first | rfl | exact veq_int (by first | omega | (dsimp only; omega))) (.cons rfl (by first | rfl | exact veq_int (by first | omega | (dsimp only; omega))) (.cons rfl (by first | rfl | exact veq_int (by first | omega | (dsimp only; omega))) .nil))))))) (.keep rfl rfl (fun _ h => h) (.keep rfl rfl (fun _ h => h) (.keep h0.1 ((hr 0 0 z0).1.trans hs0.symm) h0.2 .all)))
  · rintro ⟨i, z⟩ ⟨hi, hA⟩
    try dsimp only at *
    refine W_seq ?_
    refine W_region ?_
    refine Ops_p (p_lss rfl rfl) (lt_dec rfl) ?_
    refine Ops_nil ?_
    refine W_seq ?_
    refine W_cond rfl (fun h1 => ?_) (fun h1 => ?_)
    · try simp only [bs] at h1
      refine W_skip ?_
      refine W_seq ?_
      refine W_block ?_
      refine W_seq ?_
      refine W_region ?_
      refine Ops_p (p_ixl1 _ rfl rfl rfl rfl rfl rfl (by first | (first | omega | (dsimp only; omega)) | exact Fin.isLt _)) (lt_dec rfl) ?_
      refine Ops_q (q_elem rfl rfl m0 (by omega) (by omega) rfl rfl) (lt_dec rfl) ?_
      refine Ops_p (p_assign rfl) (lt_dec rfl) ?_
      refine Ops_nil ?_
      refine W_seq ?_
      refine W_region ?_
      refine Ops_q (q_load rfl rfl m1 rfl (by first | trivial | (first | omega | (dsimp only; omega)) | exact Fin.isLt _ | (dsimp only; omega))) (lt_dec rfl) ?_
      refine Ops_x rfl (x_callRow en_impl_Square_elements rfl (w_impl_Square_elements (by omega)) (View.none _) elems_len (lt_dec rfl) fun b17_1 cb17_1 => ?_)
      refine Ops_p (p_len rfl rfl rfl) (lt_dec rfl) ?_
      refine Ops_p (p_move rfl) (lt_dec rfl) ?_
      refine Ops_nil ?_
      refine W_block ?_
      refine W_loop (α := Nat × Z) (fun zz1 => ⟨[(0, .agg [.int .i64 n, .arr8 100 t]), (1, .raw (.func (.func f) #[] cap) rfl), (2, .ptr b2_1 0 none), (6, .int .u8 (i : Int)), (9, .agg [.int .i64 n, .arr8 100 t]), (10, .sl b10_1 0 n.toNat cb10_1), (11, .int .i64 (n.toNat : Int)), (12, .int .i64 (i : Int)), (15, .int .u8 (i : Int)), (16, .agg [.int .i64 n, .arr8 100 t]), (17, .sl b17_1 0 n.toNat cb17_1), (18, .int .i64 (n.toNat : Int)), (19, .int .i64 ((zz1.1) : Int))], .row b17_1 cb17_1 5 (.u8s (elems n.toNat)) :: .row b10_1 cb10_1 5 (.u8s (elems n.toNat)) :: .var b2_1 (.agg [.int .i64 n, .arr8 100 t]) :: S i (zz1.1) (zz1.2) :: need⟩) (fun zz1 => (zz1.1) ≤ n.toNat ∧ Ahead n.toNat p i (zz1.1)) (fun zz1 => n.toNat - (zz1.1)) (0, z) ?_ ?_ ?_
      · exact ⟨Nat.zero_le _, hA⟩
      · exact Wk.intro (.cons rfl (by first | rfl | exact veq_int (by first | omega | (dsimp only; omega))) (.cons rfl (by first | rfl | exact veq_int (by first | omega | (dsimp only; omega))) (.cons rfl (by first | rfl | exact veq_int (by first | omega | (dsimp only; omega))) (.cons rfl (by first | rfl | exact veq_int (by first | omega | (dsimp only; omega))) (.cons rfl (by first | rfl | exact veq_int (by first | omega | (dsimp only; omega))) (.cons rfl (by first | rfl | exact veq_int (by first | omega | (dsimp only; omega))) (.cons rfl (by first | rfl | exact veq_int (by first | omega | (dsimp only; omega))) (.cons rfl (by first | rfl | exact veq_int (by first | omega | (dsimp only; omega))) (.cons rfl (by first | rfl | exact veq_int (by first | omega | (dsimp only; omega))) (.cons rfl (by first | rfl | exact veq_int (by first | omega | (dsimp only; omega))) (.cons rfl (by first | rfl | exact veq_int (by first | omega | (dsimp only; omega))) (.cons rfl (by first | rfl | exact veq_int (by first | omega | (dsimp only; omega))) (.cons rfl (by first | rfl | exact veq_int (by first | omega | (dsimp only; omega))) .nil))))))))))))) (.keep rfl rfl (fun _ h => h) (.keep rfl rfl (fun _ h => h) (.keep rfl rfl (fun _ h => h) (.keep rfl rfl (fun _ h => h) .all))))
      · rintro ⟨j, z⟩ ⟨hj, hB⟩
        try dsimp only at *
        refine W_seq ?_
        refine W_region ?_
        refine Ops_p (p_lss rfl rfl) (lt_dec rfl) ?_
        refine Ops_nil ?_
        refine W_seq ?_
        refine W_cond rfl (fun h2 => ?_) (fun h2 => ?_)
        · try simp only [bs] at h2
          refine W_skip ?_
          refine W_seq ?_
          refine W_block ?_
          refine W_seq ?_
          refine W_region ?_
          refine Ops_p (p_ixl1 _ rfl rfl rfl rfl rfl rfl (by first | (first | omega | (dsimp only; omega)) | exact Fin.isLt _)) (lt_dec rfl) ?_
          refine Ops_q (q_elem rfl rfl m0 (by omega) (by omega) rfl rfl) (lt_dec rfl) ?_
          refine Ops_p (p_assign rfl) (lt_dec rfl) ?_
          refine Ops_nil ?_
          refine W_seq ?_
          refine W_region ?_
          refine Ops_p (p_move rfl) (lt_dec rfl) ?_
          refine Ops_p (p_move rfl) (lt_dec rfl) ?_
          refine Ops_p (p_move rfl) (lt_dec rfl) ?_
          refine Ops_x rfl (x_callvT hen rfl rfl (hc i j z (by omega) (by omega)) (HpDels.cons (((HpDel.head).tail).tail).tail HpDels.nil) (Vw.tail (Vw.tail (Vw.tail (Vw.refl hneed)))) (fun _ => (HpDels.cons (((HpDel.head).tail).tail).tail HpDels.nil)) (lt_dec rfl) fun z2 _ => ?_)
          refine Ops_p (p_not rfl) (lt_dec rfl) ?_
          refine Ops_nil ?_
          refine W_cond rfl (fun h3 => ?_) (fun h3 => ?_)
          · try simp only [bs] at h3
            refine W_seq ?_
            refine W_region ?_
            refine Ops_p (p_assign rfl) (lt_dec rfl) ?_
            refine Ops_nil ?_
            refine W_ret ?_
            refine Exists.intro _ (And.intro (.cons (.tmp rfl) .nil) (Exists.intro (false, i, j, z2) (And.intro ?_ (And.intro ?_ (And.intro (.cons (((HpDel.head).tail).tail).tail rfl (fun _ h => h) .nil) (by show (S2 i j z2).rkey ++ [] = []; rw [(hr i j z2).2]; rfl))))))
            · exact .inr ⟨rfl, by show i < _; omega, by show j < _; omega, by assumption⟩
            · rfl
          · try simp only [bs] at h3
            refine W_skip ?_
            refine W_region ?_
            refine Ops_p (p_add rfl rfl (by exact ⟨(by first | omega | (dsimp only; omega)), (by first | omega | (dsimp only; omega))⟩)) (lt_dec rfl) ?_
            refine Ops_p (p_move rfl) (lt_dec rfl) ?_
            refine Ops_nil ?_
            refine Exists.intro (j + 1, z2) (And.intro ?_ (And.intro ?_ ?_))
            · exact ⟨by show _ ≤ _; omega, hB.step (by assumption)⟩
            · show _ < _; omega
            · exact Wk.intro (.cons rfl (by first | rfl | exact veq_int (by first | omega | (dsimp only; omega))) (.cons rfl (by first | rfl | exact veq_int (by first | omega | (dsimp only; omega))) (.cons rfl (by first | rfl | exact veq_int (by first | omega | (dsimp only; omega))) (.cons rfl (by first | rfl | exact veq_int (by first | omega | (dsimp only; omega))) (.cons rfl (by first | rfl | exact veq_int (by first | omega | (dsimp only; omega))) (.cons rfl (by first | rfl | exact veq_int (by first | omega | (dsimp only; omega))) (.cons rfl (by first | rfl | exact veq_int (by first | omega | (dsimp only; omega))) (.cons rfl (by first | rfl | exact veq_int (by first | omega | (dsimp only; omega))) (.cons rfl (by first | rfl | exact veq_int (by first | omega | (dsimp only; omega))) (.cons rfl (by first | rfl | exact veq_int (by first | omega | (dsimp only; omega))) (.cons rfl (by first | rfl | exact veq_int (by first | omega | (dsimp only; omega))) (.cons rfl (by first | rfl | exact veq_int (by first | omega | (dsimp only; omega))) (.cons rfl (by first | rfl | exact veq_int (by first | omega | (dsimp only; omega))) .nil))))))))))))) (.keep rfl rfl (fun _ h => h) (.keep rfl rfl (fun _ h => h) (.keep rfl rfl (fun _ h => h) (.keep (hS i j z2 (by omega) (by omega) (by assumption)).1 ((hr _ _ _).1.trans (hr _ _ _).2.symm) (hS i j z2 (by omega) (by omega) (by assumption)).2 .all))))
        · try simp only [bs] at h2
          obtain rfl : j = n.toNat := (by omega)
          refine W_exit ?_
          refine W_region ?_
          refine Ops_p (p_add rfl rfl (by exact ⟨(by first | omega | (dsimp only; omega)), (by first | omega | (dsimp only; omega))⟩)) (lt_dec rfl) ?_
          refine Ops_p (p_move rfl) (lt_dec rfl) ?_
          refine Ops_nil ?_
          refine Exists.intro (i + 1, z) (And.intro ?_ (And.intro ?_ ?_))
          · exact ⟨by show _ ≤ _; omega, hB.row⟩
          · show _ < _; omega
          · exact Wk.intro (.cons rfl (by first | rfl | exact veq_int (by first | omega | (dsimp only; omega))) (.cons rfl (by first | rfl | exact veq_int (by first | omega | (dsimp only; omega))) (.cons rfl (by first | rfl | exact veq_int (by first | omega | (dsimp only; omega))) (.cons rfl (by first | rfl | exact veq_int (by first | omega | (dsimp only; omega))) (.cons rfl (by first | rfl | exact veq_int (by first | omega | (dsimp only; omega))) (.cons rfl (by first | rfl | exact veq_int (by first | omega | (dsimp only; omega))) (.cons rfl (by first | rfl | exact veq_int (by first | omega | (dsimp only; omega))) .nil))))))) (.drop (.keep rfl rfl (fun _ h => h) (.keep rfl rfl (fun _ h => h) (.keep (hrow i z).1 ((hr _ _ _).1.trans (hr _ _ _).1.symm) (hrow i z).2 .all))))
    · try simp only [bs] at h1
      obtain rfl : i = n.toNat := (by omega)
      refine W_exit ?_
      refine W_seq ?_
      refine W_region ?_
      refine Ops_p (p_assign rfl) (lt_dec rfl) ?_
      refine Ops_nil ?_
      refine W_ret ?_
      refine Exists.intro _ (And.intro (.cons (.tmp rfl) .nil) (Exists.intro (true, 0, 0, z) (And.intro ?_ (And.intro ?_ (And.intro (.cons ((HpDel.head).tail).tail rfl (fun _ h => h) .nil) (by show (S n.toNat 0 z).rkey ++ [] = []; rw [(hr n.toNat 0 z).1]; rfl))))))
      · exact .inl ⟨rfl, hA.all⟩
      · rfl
end Go.Proofs.Ytebcapplclgaeab
