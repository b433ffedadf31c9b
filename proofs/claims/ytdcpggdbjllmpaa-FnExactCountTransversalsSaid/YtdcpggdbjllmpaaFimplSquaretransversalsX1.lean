/- What the Go function (impl.Square).transversals$1 does, shown of its loaded text; its conditions stand in the statement. -/
import Derived.Test.YtdcpggdbjllmpaaTy
import Derived.Test.YtdcpggdbjllmpaaFimplSquareelements
import Derived.Test.YtdcpggdbjllmpaaFimplsethas
import Derived.Test.YtdcpggdbjllmpaaFimplCountTransversalsX1
import Derived.Test.YtdcpggdbjllmpaaGx12
import Derived.Test.YtdcpggdbjllmpaaGx27
import Derived.Test.YtdcpggdbjllmpaaGx28
import Derived.Test.YtdcpggdbjllmpaaM36
namespace Go.Proofs.Ytdcpggdbjllmpaa
open Go Gx
set_option linter.unusedVariables false
theorem en_impl_Square_transversalsX1 : Enters Try.prog 94 := enters_of Try.func94 (by kernel_rfl) (by kernel_rfl)
set_option maxRecDepth 100000 in
set_option maxHeartbeats 2000000 in
theorem w_impl_Square_transversalsX1_all {t : Nat → Fin 256} {n : Int} {bq bv bp bf bc : Nat} : ∀ (mm : Nat) (x u m z : Nat) (pp : Nat → Fin 256), (SqP n t) → (x ≤ n.toNat) → (u < 1024) → (m < 1024) → (((z + (tvX t n.toNat x (fun j => Nat.testBit u j) (fun j => Nat.testBit m j)) : Nat) : Int) ≤ 999999) → n.toNat - x < mm → CT (X := Nat → Fin 256) Try.prog 94 (vals [.int .u8 (x : Int), .int .i64 (u : Int), .int .i64 (m : Int), .ptr bq 0 none, .ptr bv 0 none, .ptr bp 0 none, .ptr bf 0 none]) [.var bp (.arr8 10 pp), .var bc (.int .i64 (z : Int))] [.rvar bq (.agg [.int .i64 n, .arr8 100 t]), .rvar bv (.raw (.func (.func 69) #[] #[ptrV bc]) rfl), .rvar bf (.raw (.func (.func 94) #[] #[ptrV bq, ptrV bv, ptrV bp, ptrV bf]) rfl)] (fun w8 => True) (fun w8 => .bool false) (fun w8 => [.var bp (.arr8 10 w8), .var bc (.int .i64 ((z + (tvX t n.toNat x (fun j => Nat.testBit u j) (fun j => Nat.testBit m j)) : Nat) : Int))]) := by
  intro mm
  induction mm with
  | zero => intro x u m z pp hs hx hu hm hb hmm; exact absurd hmm (Nat.not_lt_zero _)
  | succ mm ih =>
  intro x u m z pp hs hx hu hm hb hmm
  refine CT_intro (rs := [.tmp 10]) tt tok Try.func94 rfl rfl rfl (by first | rfl | assumption) fun w => ?_
  show W _ _ _ ⟨tmOf 0 [.int .u8 (x : Int), .int .i64 (u : Int), .int .i64 (m : Int), .ptr bq 0 none, .ptr bv 0 none, .ptr bp 0 none, .ptr bf 0 none], [.var bp (.arr8 10 pp), .var bc (.int .i64 (z : Int)), .rvar bq (.agg [.int .i64 n, .arr8 100 t]), .rvar bv (.raw (.func (.func 69) #[] #[ptrV bc]) rfl), .rvar bf (.raw (.func (.func 94) #[] #[ptrV bq, ptrV bv, ptrV bp, ptrV bf]) rfl)]⟩
  have hn := hs.1
  refine W_seq ?_
  refine W_region ?_
  refine Ops_p (p_assign rfl) (lt_dec rfl) ?_
  refine Ops_nil ?_
  refine W_seq ?_
  refine W_seq ?_
  refine W_region ?_
  refine Ops_p (p_move rfl) (lt_dec rfl) ?_
  first | refine Ops_p (p_conv8 rfl rfl rfl (by decide)) (lt_dec rfl) ?_ | refine Ops_p (p_conv rfl rfl rfl (by exact ⟨(by first | omega | (dsimp only; omega)), (by first | omega | (dsimp only; omega))⟩)) (lt_dec rfl) ?_
  refine Ops_p (p_fieldAddr rfl rfl rfl rfl rfl rfl) (lt_dec rfl) ?_
  refine Ops_q (q_load_r rfl rfl m2 rfl (by first | exact True.intro | trivial | (first | omega | (dsimp only; omega)) | exact Fin.isLt _ | (dsimp only; omega))) (lt_dec rfl) ?_
  refine Ops_p (p_eql rfl rfl) (lt_dec rfl) ?_
  refine Ops_nil ?_
  refine W_cond rfl (fun h1 => ?_) (fun h1 => ?_)
  · try simp only [bs] at h1
    obtain rfl : x = n.toNat := (by omega)
    refine W_seq ?_
    refine W_region ?_
    refine Ops_q (q_load_r rfl rfl m3 rfl (by first | exact True.intro | trivial | (first | omega | (dsimp only; omega)) | exact Fin.isLt _ | (dsimp only; omega))) (lt_dec rfl) ?_
    refine Ops_q (q_load rfl rfl m0 rfl (by first | exact True.intro | trivial | (first | omega | (dsimp only; omega)) | exact Fin.isLt _ | (dsimp only; omega))) (lt_dec rfl) ?_
    refine Ops_x rfl (x_callvT en_impl_CountTransversalsX1 rfl rfl (w_impl_CountTransversalsX1 (z := z) (bz := bc) (by rw [tvX_end] at hb; omega)) (HpDels.cons (HpDel.head).tail HpDels.nil) (Vw.none _) (fun _ => (HpDels.cons (HpDel.head).tail HpDels.nil)) (lt_dec rfl) fun _ _ => ?_)
    refine Ops_p (p_assign rfl) (lt_dec rfl) ?_
    refine Ops_nil ?_
    refine W_ret ?_
    refine Exists.intro _ (And.intro (.cons (.tmp rfl) .nil) (Exists.intro pp (And.intro ?_ (And.intro ?_ (And.intro (.cons HpDel.head rfl (imp_var rfl rfl) (.cons HpDel.head rfl (imp_var (by rw [tvX_end]) rfl) .nil)) rfl)))))
    · trivial
    · rfl
  · try simp only [bs] at h1
    have hxl : x < n.toNat := (by omega)
    refine W_skip ?_
    refine W_seq ?_
    refine W_seq ?_
    refine W_region ?_
    refine Ops_q (q_load_r rfl rfl m2 rfl (by first | exact True.intro | trivial | (first | omega | (dsimp only; omega)) | exact Fin.isLt _ | (dsimp only; omega))) (lt_dec rfl) ?_
    refine Ops_x rfl (x_callRow en_impl_Square_elements rfl (w_impl_Square_elements (by omega)) (View.none _) elems_len (lt_dec rfl) fun b23_1 cb23_1 => ?_)
    refine Ops_p (p_len rfl rfl rfl) (lt_dec rfl) ?_
    refine Ops_p (p_move rfl) (lt_dec rfl) ?_
    refine Ops_nil ?_
    refine W_block ?_
    refine W_loop (α := Nat × Nat × (Nat → Fin 256)) (fun zz0 => ⟨[(0, .int .u8 (x : Int)), (1, .int .i64 (u : Int)), (2, .int .i64 (m : Int)), (3, .ptr bq 0 none), (4, .ptr bv 0 none), (5, .ptr bp 0 none), (6, .ptr bf 0 none), (14, .int .u8 (x : Int)), (15, .int .i64 (x : Int)), (17, .int .i64 n), (22, .agg [.int .i64 n, .arr8 100 t]), (23, .sl b23_1 0 n.toNat cb23_1), (24, .int .i64 (n.toNat : Int)), (25, .int .i64 ((zz0.1) : Int))], [.row b23_1 cb23_1 5 (.u8s (elems n.toNat)), .var bp (.arr8 10 (zz0.2.2)), .var bc (.int .i64 ((zz0.2.1) : Int)), .rvar bq (.agg [.int .i64 n, .arr8 100 t]), .rvar bv (.raw (.func (.func 69) #[] #[ptrV bc]) rfl), .rvar bf (.raw (.func (.func 94) #[] #[ptrV bq, ptrV bv, ptrV bp, ptrV bf]) rfl)]⟩) (fun zz0 => (zz0.1) ≤ n.toNat ∧ (zz0.2.1) = z + sumN (tvG t n.toNat x (fun j => Nat.testBit u j) (fun j => Nat.testBit m j)) (zz0.1)) (fun zz0 => n.toNat - (zz0.1)) (0, z, pp) ?_ ?_ ?_
    · exact ⟨Nat.zero_le _, rfl⟩
    · exact Wk.intro (.cons rfl (by first | rfl | exact veq_int (by first | omega | (dsimp only; omega))) (.cons rfl (by first | rfl | exact veq_int (by first | omega | (dsimp only; omega))) (.cons rfl (by first | rfl | exact veq_int (by first | omega | (dsimp only; omega))) (.cons rfl (by first | rfl | exact veq_int (by first | omega | (dsimp only; omega))) (.cons rfl (by first | rfl | exact veq_int (by first | omega | (dsimp only; omega))) (.cons rfl (by first | rfl | exact veq_int (by first | omega | (dsimp only; omega))) (.cons rfl (by first | rfl | exact veq_int (by first | omega | (dsimp only; omega))) (.cons rfl (by first | rfl | exact veq_int (by first | omega | (dsimp only; omega))) (.cons rfl (by first | rfl | exact veq_int (by first | omega | (dsimp only; omega))) (.cons rfl (by first | rfl | exact veq_int (by first | omega | (dsimp only; omega))) (.cons rfl (by first | rfl | exact veq_int (by first | omega | (dsimp only; omega))) (.cons rfl (by first | rfl | exact veq_int (by first | omega | (dsimp only; omega))) (.cons rfl (by first | rfl | exact veq_int (by first | omega | (dsimp only; omega))) (.cons rfl (by first | rfl | exact veq_int (by first | omega | (dsimp only; omega))) .nil)))))))))))))) (.keep rfl rfl (fun _ h => h) (.keep rfl rfl (imp_var rfl rfl) (.keep rfl rfl (imp_var rfl rfl) (.keep rfl rfl (fun _ h => h) (.keep rfl rfl (fun _ h => h) (.keep rfl rfl (fun _ h => h) .nil))))))
    · rintro ⟨y, zz, pq⟩ ⟨hy, hzz⟩
      try dsimp only at *
      refine W_seq ?_
      have htv := tvX_step (t := t) (c := fun j => Nat.testBit u j) (e := fun j => Nat.testBit m j) hxl
      have hsm := Int.ofNat_le.2 (sumN_le (tvG t n.toNat x (fun j => Nat.testBit u j) (fun j => Nat.testBit m j)) (m := y) (k := n.toNat) hy)
      refine W_region ?_
      refine Ops_p (p_lss rfl rfl) (lt_dec rfl) ?_
      refine Ops_nil ?_
      refine W_seq ?_
      refine W_cond rfl (fun h2 => ?_) (fun h2 => ?_)
      · try simp only [bs] at h2
        refine W_skip ?_
        refine W_seq ?_
        refine W_block ?_
        refine W_seq ?_
        refine W_region ?_
        refine Ops_p (p_ixl1 _ rfl rfl rfl rfl rfl rfl (by first | (first | omega | (dsimp only; omega)) | exact Fin.isLt _)) (lt_dec rfl) ?_
        refine Ops_q ((q_elem rfl rfl m0 (by omega) (by omega) rfl rfl).eq (veq_byte (by omega))) (lt_dec rfl) ?_
        refine Ops_p (p_assign rfl) (lt_dec rfl) ?_
        refine Ops_nil ?_
        refine W_seq ?_
        have hsl := Int.ofNat_le.2 (sumN_at (tvG t n.toNat x (fun j => Nat.testBit u j) (fun j => Nat.testBit m j)) (y := y) (m := n.toNat) (by omega))
        have hvl := sq_lt hs (x := x) (y := y) (by omega) (by omega)
        refine W_region ?_
        refine Ops_p (p_move rfl) (lt_dec rfl) ?_
        refine Ops_p (p_move rfl) (lt_dec rfl) ?_
        refine Ops_p (p_fieldAddr rfl rfl rfl rfl rfl rfl) (lt_dec rfl) ?_
        refine Ops_p (p_ixN 10 x rfl rfl rfl rfl rfl rfl (by first | (first | omega | (dsimp only; omega)) | exact Fin.isLt _)) (lt_dec rfl) ?_
        first | refine Ops_p (p_ix1 y rfl rfl rfl rfl rfl (by rw [ofNat_val (by omega)]) (by first | (first | omega | (dsimp only; omega)) | exact Fin.isLt _)) (lt_dec rfl) ?_ | refine Ops_p (p_ix1s y rfl rfl rfl rfl rfl (by rw [ofNat_val (by omega)]) (by first | (first | omega | (dsimp only; omega)) | exact Fin.isLt _)) (lt_dec rfl) ?_
        refine Ops_q (q_load_r rfl rfl m3 rfl (by first | exact True.intro | trivial | (first | omega | (dsimp only; omega)) | exact Fin.isLt _ | (dsimp only; omega))) (lt_dec rfl) ?_
        refine Ops_p (p_assign rfl) (lt_dec rfl) ?_
        refine Ops_nil ?_
        refine W_seq ?_
        refine W_region ?_
        refine Ops_p (p_move rfl) (lt_dec rfl) ?_
        refine Ops_p (p_move rfl) (lt_dec rfl) ?_
        refine Ops_q (q_call en_impl_set_has rfl ((by have h := w_impl_set_has (s := u) (x := Fin.ofNat 256 y) hu (by rw [ofNat_val (by omega)]; omega); rw [ofNat_val (show y < 256 by omega)] at h; exact h)) (View.none _)) (lt_dec rfl) ?_
        refine Ops_p (p_not rfl) (lt_dec rfl) ?_
        refine Ops_p (p_move rfl) (lt_dec rfl) ?_
        refine Ops_guard rfl rfl (lt_dec rfl) (fun hg1 => ?_) (fun hg1 => ?_)
        · try simp only [bs] at hg1
          refine Ops_p (p_move rfl) (lt_dec rfl) ?_
          refine Ops_guard_t rfl rfl (lt_dec rfl) ?_
          refine Ops_p (p_move rfl) (lt_dec rfl) ?_
          refine Ops_guard_t rfl rfl (lt_dec rfl) ?_
          refine Ops_q (q_call en_impl_set_has rfl (w_impl_set_has (s := m) (x := t (10 * x + y)) hm (by omega)) (View.none _)) (lt_dec rfl) ?_
          refine Ops_guard_t rfl rfl (lt_dec rfl) ?_
          refine Ops_p (p_not rfl) (lt_dec rfl) ?_
          refine Ops_p (p_pick_t rfl rfl) (lt_dec rfl) ?_
          refine Ops_nil ?_
          refine W_cond rfl (fun h3 => ?_) (fun h3 => ?_)
          · try simp only [bs] at h3
            refine W_seq ?_
            have hcy : Nat.testBit u y = false := (by assumption)
            have hev : Nat.testBit m (t (10 * x + y)).val = false := (by assumption)
            have hgo := tvG_go (n := n.toNat) (c := fun j => Nat.testBit u j) (e := fun j => Nat.testBit m j) hcy hev
            have hgs : sumN (tvG t n.toNat x (fun j => Nat.testBit u j) (fun j => Nat.testBit m j)) (y + 1) = sumN (tvG t n.toNat x (fun j => Nat.testBit u j) (fun j => Nat.testBit m j)) y + (tvX t n.toNat (x + 1) (fun j => Nat.testBit (u ||| 2 ^ y) j) (fun j => Nat.testBit (m ||| 2 ^ (t (10 * x + y)).val) j)) := (by show sumN _ y + _ = _; rw [hgo, bit_set, bit_set])
            refine W_region ?_
            refine Ops_p (p_move rfl) (lt_dec rfl) ?_
            refine Ops_p (p_move rfl) (lt_dec rfl) ?_
            first | refine Ops_p (p_ix1 _ rfl rfl rfl rfl rfl rfl (by first | (first | omega | (dsimp only; omega)) | exact Fin.isLt _)) (lt_dec rfl) ?_ | refine Ops_p (p_ix1s _ rfl rfl rfl rfl rfl rfl (by first | (first | omega | (dsimp only; omega)) | exact Fin.isLt _)) (lt_dec rfl) ?_
            refine Ops_x rfl (x_store rfl rfl rfl rfl rfl ((HpRep.head).tail) rfl (by first | trivial | (first | (first | omega | (dsimp only; omega)) | exact Fin.isLt _)) ?_)
            refine Ops_nil ?_
            refine W_seq ?_
            refine W_region ?_
            refine Ops_q (q_load_r rfl rfl m5 rfl (by first | exact True.intro | trivial | (first | omega | (dsimp only; omega)) | exact Fin.isLt _ | (dsimp only; omega))) (lt_dec rfl) ?_
            refine Ops_p (p_move rfl) (lt_dec rfl) ?_
            refine Ops_p (p_add rfl rfl (by exact ⟨(by first | omega | (dsimp only; omega)), (by first | omega | (dsimp only; omega))⟩)) (lt_dec rfl) ?_
            refine Ops_p (p_move rfl) (lt_dec rfl) ?_
            refine Ops_p ((p_move rfl).eq (d' := .int .u8 (y : Int)) (veq_byte (by omega)).symm) (lt_dec rfl) ?_
            refine Ops_p (p_shl rfl rfl (by omega) (by simp only [IntKind.bits]; omega) (shl_in (by omega) (by omega))) (lt_dec rfl) ?_
            refine Ops_p (p_or_bs rfl rfl hu (by omega)) (lt_dec rfl) ?_
            refine Ops_p (p_move rfl) (lt_dec rfl) ?_
            refine Ops_p (p_move rfl) (lt_dec rfl) ?_
            refine Ops_p (p_shl rfl rfl (by omega) (by simp only [IntKind.bits]; omega) (shl_in (by omega) (by omega))) (lt_dec rfl) ?_
            refine Ops_p (p_or_bs rfl rfl hm (by omega)) (lt_dec rfl) ?_
            refine Ops_x rfl (x_callvT en_impl_Square_transversalsX1 rfl rfl (ih (x + 1) (u ||| 2 ^ y) (m ||| 2 ^ (t (10 * x + y)).val) zz (fun j => if j = x then Fin.ofNat 256 y else pq j) hs (by omega) (bit_lt hu (by omega)) (bit_lt hm (by omega)) (by rw [bit_set, bit_set, ← hgo]; omega) (by omega)) (HpDels.cons (HpDel.head).tail (HpDels.cons (HpDel.head).tail HpDels.nil)) (Vw.cons (Vw.rvar m1) (Vw.cons (Vw.rvar m2) (Vw.rvar m3))) (fun _ => (HpDels.cons (HpDel.head).tail (HpDels.cons (HpDel.head).tail HpDels.nil))) (lt_dec rfl) fun w9 _ => ?_)
            refine Ops_nil ?_
            refine W_false rfl ?_
            refine W_skip ?_
            refine W_region ?_
            refine Ops_p (p_add rfl rfl (by exact ⟨(by first | omega | (dsimp only; omega)), (by first | omega | (dsimp only; omega))⟩)) (lt_dec rfl) ?_
            refine Ops_p (p_move rfl) (lt_dec rfl) ?_
            refine Ops_nil ?_
            refine Exists.intro (y + 1, zz + (tvX t n.toNat (x + 1) (fun j => Nat.testBit (u ||| 2 ^ y) j) (fun j => Nat.testBit (m ||| 2 ^ (t (10 * x + y)).val) j)), w9) (And.intro ?_ (And.intro ?_ ?_))
            · first | exact ⟨by show _ ≤ _; omega, by dsimp only; rw [hgs, hzz]; omega⟩ | exact ⟨by show _ ≤ _; omega, by dsimp only; rw [show sumN (tvG t n.toNat x (fun j => Nat.testBit u j) (fun j => Nat.testBit m j)) (y + 1) = sumN (tvG t n.toNat x (fun j => Nat.testBit u j) (fun j => Nat.testBit m j)) y from congrArg (fun q9 => sumN (tvG t n.toNat x (fun j => Nat.testBit u j) (fun j => Nat.testBit m j)) y + q9) (tvG_skip (n := n.toNat) (x := x) (y := y) (t := t) (c := fun j => Nat.testBit u j) (e := fun j => Nat.testBit m j) (by first | exact .inl (by assumption) | exact .inr (by assumption)))]; exact hzz⟩
            · show _ < _; omega
            · exact Wk.intro (.cons rfl (by first | rfl | exact veq_int (by first | omega | (dsimp only; omega))) (.cons rfl (by first | rfl | exact veq_int (by first | omega | (dsimp only; omega))) (.cons rfl (by first | rfl | exact veq_int (by first | omega | (dsimp only; omega))) (.cons rfl (by first | rfl | exact veq_int (by first | omega | (dsimp only; omega))) (.cons rfl (by first | rfl | exact veq_int (by first | omega | (dsimp only; omega))) (.cons rfl (by first | rfl | exact veq_int (by first | omega | (dsimp only; omega))) (.cons rfl (by first | rfl | exact veq_int (by first | omega | (dsimp only; omega))) (.cons rfl (by first | rfl | exact veq_int (by first | omega | (dsimp only; omega))) (.cons rfl (by first | rfl | exact veq_int (by first | omega | (dsimp only; omega))) (.cons rfl (by first | rfl | exact veq_int (by first | omega | (dsimp only; omega))) (.cons rfl (by first | rfl | exact veq_int (by first | omega | (dsimp only; omega))) (.cons rfl (by first | rfl | exact veq_int (by first | omega | (dsimp only; omega))) (.cons rfl (by first | rfl | exact veq_int (by first | omega | (dsimp only; omega))) (.cons rfl (by first | rfl | exact veq_int (by first | omega | (dsimp only; omega))) .nil)))))))))))))) (.keep rfl rfl (fun _ h => h) (.keep rfl rfl (imp_var rfl rfl) (.keep rfl rfl (imp_var rfl rfl) (.keep rfl rfl (fun _ h => h) (.keep rfl rfl (fun _ h => h) (.keep rfl rfl (fun _ h => h) .nil))))))
          · try simp only [bs] at h3
            refine W_skip ?_
            refine W_region ?_
            refine Ops_p (p_add rfl rfl (by exact ⟨(by first | omega | (dsimp only; omega)), (by first | omega | (dsimp only; omega))⟩)) (lt_dec rfl) ?_
            refine Ops_p (p_move rfl) (lt_dec rfl) ?_
            refine Ops_nil ?_
            refine Exists.intro (y + 1, zz, pq) (And.intro ?_ (And.intro ?_ ?_))
            · first | exact ⟨by show _ ≤ _; omega, by dsimp only; rw [hgs, hzz]; omega⟩ | exact ⟨by show _ ≤ _; omega, by dsimp only; rw [show sumN (tvG t n.toNat x (fun j => Nat.testBit u j) (fun j => Nat.testBit m j)) (y + 1) = sumN (tvG t n.toNat x (fun j => Nat.testBit u j) (fun j => Nat.testBit m j)) y from congrArg (fun q9 => sumN (tvG t n.toNat x (fun j => Nat.testBit u j) (fun j => Nat.testBit m j)) y + q9) (tvG_skip (n := n.toNat) (x := x) (y := y) (t := t) (c := fun j => Nat.testBit u j) (e := fun j => Nat.testBit m j) (by first | exact .inl (by assumption) | exact .inr (by assumption)))]; exact hzz⟩
            · show _ < _; omega
            · exact Wk.intro (.cons rfl (by first | rfl | exact veq_int (by first | omega | (dsimp only; omega))) (.cons rfl (by first | rfl | exact veq_int (by first | omega | (dsimp only; omega))) (.cons rfl (by first | rfl | exact veq_int (by first | omega | (dsimp only; omega))) (.cons rfl (by first | rfl | exact veq_int (by first | omega | (dsimp only; omega))) (.cons rfl (by first | rfl | exact veq_int (by first | omega | (dsimp only; omega))) (.cons rfl (by first | rfl | exact veq_int (by first | omega | (dsimp only; omega))) (.cons rfl (by first | rfl | exact veq_int (by first | omega | (dsimp only; omega))) (.cons rfl (by first | rfl | exact veq_int (by first | omega | (dsimp only; omega))) (.cons rfl (by first | rfl | exact veq_int (by first | omega | (dsimp only; omega))) (.cons rfl (by first | rfl | exact veq_int (by first | omega | (dsimp only; omega))) (.cons rfl (by first | rfl | exact veq_int (by first | omega | (dsimp only; omega))) (.cons rfl (by first | rfl | exact veq_int (by first | omega | (dsimp only; omega))) (.cons rfl (by first | rfl | exact veq_int (by first | omega | (dsimp only; omega))) (.cons rfl (by first | rfl | exact veq_int (by first | omega | (dsimp only; omega))) .nil)))))))))))))) (.keep rfl rfl (fun _ h => h) (.keep rfl rfl (imp_var rfl rfl) (.keep rfl rfl (imp_var rfl rfl) (.keep rfl rfl (fun _ h => h) (.keep rfl rfl (fun _ h => h) (.keep rfl rfl (fun _ h => h) .nil))))))
        · try simp only [bs] at hg1
          refine Ops_guard_f rfl rfl rfl (lt_dec rfl) ?_
          refine Ops_guard_f rfl rfl rfl (lt_dec rfl) ?_
          refine Ops_guard_f rfl rfl rfl (lt_dec rfl) ?_
          refine Ops_p (p_pick_f rfl rfl) (lt_dec rfl) ?_
          refine Ops_nil ?_
          refine W_false rfl ?_
          refine W_skip ?_
          refine W_region ?_
          refine Ops_p (p_add rfl rfl (by exact ⟨(by first | omega | (dsimp only; omega)), (by first | omega | (dsimp only; omega))⟩)) (lt_dec rfl) ?_
          refine Ops_p (p_move rfl) (lt_dec rfl) ?_
          refine Ops_nil ?_
          refine Exists.intro (y + 1, zz, pq) (And.intro ?_ (And.intro ?_ ?_))
          · first | exact ⟨by show _ ≤ _; omega, by dsimp only; rw [hgs, hzz]; omega⟩ | exact ⟨by show _ ≤ _; omega, by dsimp only; rw [show sumN (tvG t n.toNat x (fun j => Nat.testBit u j) (fun j => Nat.testBit m j)) (y + 1) = sumN (tvG t n.toNat x (fun j => Nat.testBit u j) (fun j => Nat.testBit m j)) y from congrArg (fun q9 => sumN (tvG t n.toNat x (fun j => Nat.testBit u j) (fun j => Nat.testBit m j)) y + q9) (tvG_skip (n := n.toNat) (x := x) (y := y) (t := t) (c := fun j => Nat.testBit u j) (e := fun j => Nat.testBit m j) (by first | exact .inl (by assumption) | exact .inr (by assumption)))]; exact hzz⟩
          · show _ < _; omega
          · exact Wk.intro (.cons rfl (by first | rfl | exact veq_int (by first | omega | (dsimp only; omega))) (.cons rfl (by first | rfl | exact veq_int (by first | omega | (dsimp only; omega))) (.cons rfl (by first | rfl | exact veq_int (by first | omega | (dsimp only; omega))) (.cons rfl (by first | rfl | exact veq_int (by first | omega | (dsimp only; omega))) (.cons rfl (by first | rfl | exact veq_int (by first | omega | (dsimp only; omega))) (.cons rfl (by first | rfl | exact veq_int (by first | omega | (dsimp only; omega))) (.cons rfl (by first | rfl | exact veq_int (by first | omega | (dsimp only; omega))) (.cons rfl (by first | rfl | exact veq_int (by first | omega | (dsimp only; omega))) (.cons rfl (by first | rfl | exact veq_int (by first | omega | (dsimp only; omega))) (.cons rfl (by first | rfl | exact veq_int (by first | omega | (dsimp only; omega))) (.cons rfl (by first | rfl | exact veq_int (by first | omega | (dsimp only; omega))) (.cons rfl (by first | rfl | exact veq_int (by first | omega | (dsimp only; omega))) (.cons rfl (by first | rfl | exact veq_int (by first | omega | (dsimp only; omega))) (.cons rfl (by first | rfl | exact veq_int (by first | omega | (dsimp only; omega))) .nil)))))))))))))) (.keep rfl rfl (fun _ h => h) (.keep rfl rfl (imp_var rfl rfl) (.keep rfl rfl (imp_var rfl rfl) (.keep rfl rfl (fun _ h => h) (.keep rfl rfl (fun _ h => h) (.keep rfl rfl (fun _ h => h) .nil))))))
      · try simp only [bs] at h2
        obtain rfl : y = n.toNat := (by omega)
        refine W_exit ?_
        refine W_seq ?_
        refine W_region ?_
        refine Ops_p (p_move rfl) (lt_dec rfl) ?_
        first | refine Ops_p (p_ix1 _ rfl rfl rfl rfl rfl rfl (by first | (first | omega | (dsimp only; omega)) | exact Fin.isLt _)) (lt_dec rfl) ?_ | refine Ops_p (p_ix1s _ rfl rfl rfl rfl rfl rfl (by first | (first | omega | (dsimp only; omega)) | exact Fin.isLt _)) (lt_dec rfl) ?_
        refine Ops_x rfl (x_store rfl rfl rfl rfl rfl ((HpRep.head).tail) rfl (by first | trivial | (first | (first | omega | (dsimp only; omega)) | exact Fin.isLt _)) ?_)
        refine Ops_nil ?_
        refine W_seq ?_
        refine W_region ?_
        refine Ops_p (p_assign rfl) (lt_dec rfl) ?_
        refine Ops_nil ?_
        refine W_ret ?_
        refine Exists.intro _ (And.intro (.cons (.tmp rfl) .nil) (Exists.intro (fun j => if j = x then 0 else pq j) (And.intro ?_ (And.intro ?_ (And.intro (.cons (HpDel.head).tail rfl (imp_var rfl rfl) (.cons (HpDel.head).tail rfl (imp_var (by rw [htv, hzz]) rfl) .nil)) rfl)))))
        · trivial
        · rfl
theorem w_impl_Square_transversalsX1 {t : Nat → Fin 256} {n : Int} {bq bv bp bf bc : Nat} {x u m z : Nat} {pp : Nat → Fin 256} (hs : SqP n t) (hx : x ≤ n.toNat) (hu : u < 1024) (hm : m < 1024) (hb : ((z + (tvX t n.toNat x (fun j => Nat.testBit u j) (fun j => Nat.testBit m j)) : Nat) : Int) ≤ 999999) : CT (X := Nat → Fin 256) Try.prog 94 (vals [.int .u8 (x : Int), .int .i64 (u : Int), .int .i64 (m : Int), .ptr bq 0 none, .ptr bv 0 none, .ptr bp 0 none, .ptr bf 0 none]) [.var bp (.arr8 10 pp), .var bc (.int .i64 (z : Int))] [.rvar bq (.agg [.int .i64 n, .arr8 100 t]), .rvar bv (.raw (.func (.func 69) #[] #[ptrV bc]) rfl), .rvar bf (.raw (.func (.func 94) #[] #[ptrV bq, ptrV bv, ptrV bp, ptrV bf]) rfl)] (fun w8 => True) (fun w8 => .bool false) (fun w8 => [.var bp (.arr8 10 w8), .var bc (.int .i64 ((z + (tvX t n.toNat x (fun j => Nat.testBit u j) (fun j => Nat.testBit m j)) : Nat) : Int))]) := w_impl_Square_transversalsX1_all (t := t) (n := n) (bq := bq) (bv := bv) (bp := bp) (bf := bf) (bc := bc) _ x u m z pp hs hx hu hm hb (Nat.lt_succ_self _)
end Go.Proofs.Ytdcpggdbjllmpaa
