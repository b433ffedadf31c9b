/- Texts of this claim put together, part 4: the frame, the plain law and what the functions do; the conditions stand in the statements. -/
import Derived.Test.YtjihhcjpbcmjaaaFG3
import Derived.Test.YtjihhcjpbcmjaaaFGTy
import Derived.Test.YtjihhcjpbcmjaaaFGGx12
import Derived.Test.YtjihhcjpbcmjaaaFGGx20
import Derived.Test.YtjihhcjpbcmjaaaFGM26
import Derived.Test.YtjihhcjpbcmjaaaFGGx25
import Derived.Test.YtjihhcjpbcmjaaaFGGx26
import Derived.Test.YtjihhcjpbcmjaaaFGM29
import Derived.Test.YtjihhcjpbcmjaaaFGM30
import Derived.Test.YtjihhcjpbcmjaaaFGM31
import Derived.Test.YtjihhcjpbcmjaaaFGGx28
import Derived.Test.YtjihhcjpbcmjaaaFGM32
import Derived.Test.YtjihhcjpbcmjaaaFGGx27
import Derived.Test.YtjihhcjpbcmjaaaFGGx34
import Derived.Test.YtjihhcjpbcmjaaaFGGx38
import Derived.Test.YtjihhcjpbcmjaaaFGM49
section
namespace Go.Proofs.Ytjihhcjpbcmjaaa
open Go Gx
set_option linter.unusedVariables false
theorem en_spec_l04Orbits : Enters Try.prog 47 := enters_of Try.func47 (by kernel_rfl) (by kernel_rfl)
set_option maxRecDepth 100000 in
set_option maxHeartbeats 2000000 in
theorem w_spec_l04Orbits {a : Value} {ha : a.oneCell' = true} {l : List (Nat → Fin 256)} {n : Int} (hp : PsOk l n) (hl : l.length ≤ 40) : CT (X := V1 × SL) Try.prog 47 (vals [.raw a ha, .int .i64 n]) [] [rd a (.arrs 10 l)] (fun x => x.2.map (·.2) = oL (orbB l n.toNat) n.toNat n.toNat) (fun x => .raw x.1.1 x.1.2) (fun x => [oss x.1.1 48 2 x.2]) := by
 refine CT_intro (rs := [.tmp 4]) tt tok Try.func47 rfl rfl rfl (by first | rfl | assumption) fun w => ?_
 show W _ _ _ ⟨tmOf 0 [.raw a ha, .int .i64 n], [rd a (.arrs 10 l)]⟩
 have hn := hp.1
 refine W_seq ?_
 refine W_region ?_
 refine o_as rfl rfl ?_
 refine Ops_nil ?_
 refine W_seq ?_
 refine W_region ?_
 refine Ops_x rfl (x_buildSlice rfl rfl rfl rfl rfl rfl rfl rfl (Nat.le_of_ble_eq_true rfl) (lt_dec rfl) fun b11_1 => ?_)
 refine Ops_p (p_build_arr rfl rfl rfl rfl (by first | exact True.intro | omega | exact Fin.isLt _ | trivial | (dsimp only; omega))) (lt_dec rfl) ?_
 refine Ops_x rfl (x_alloc rfl (lt_dec rfl) fun b6_1 => ?_)
 refine o_as rfl rfl ?_
 refine Ops_x rfl (x_store rfl rfl rfl rfl rfl HpRep.head rfl (by first | trivial | (first | (first | omega | (dsimp only; omega)) | exact Fin.isLt _)) ?_)
 refine Ops_nil ?_
 refine W_seq ?_
 refine W_seq ?_
 refine W_region ?_
 refine o_as rfl rfl ?_
 refine Ops_nil ?_
 refine W_block ?_
 refine W_loop (α := Nat × V1 × SL) (fun zz0 => ⟨[(0, .raw a ha), (1, .int .i64 n), (5, .raw (zz0.2.1).1 (zz0.2.1).2), (6, .ptr b6_1 0 none), (7, .int .i64 ((zz0.1) : Int))], [.var b6_1 (.barr 10 (seenT (orbB l n.toNat) n.toNat (zz0.1))), oss (zz0.2.1).1 48 2 (zz0.2.2), rd a (.arrs 10 l)]⟩) (fun zz0 => (zz0.1) ≤ n.toNat ∧ (zz0.2.2).map (·.2) = oL (orbB l n.toNat) n.toNat (zz0.1)) (fun zz0 => n.toNat - (zz0.1)) (0, slv b11_1 0 0, []) ?_ ?_ ?_
 ·exact ⟨Nat.zero_le _, rfl⟩
 ·exact Wk.intro (.c rfl (.c rfl (.cons rfl (by first | rfl | exact veq_int (by first | omega | (dsimp only; omega))) (.c rfl (.cons rfl (by first | rfl | exact veq_int (by first | omega | (dsimp only; omega))) .nil))))) (.keep rfl rfl (imp_var (by exact ceq_barr fun y _ => seenT_zero y) rfl) (.keep rfl rfl (oss_of_row) (.keep rfl rfl (fun _ h => h) .nil)))
 ·rintro ⟨k, vv, D⟩ ⟨hk, hD⟩
  try dsimp only at *
  refine W_seq ?_
  refine W_seq ?_
  refine W_region ?_
  refine o_mv rfl rfl ?_
  refine o_mv rfl rfl ?_
  refine Ops_p (p_lss rfl rfl) (lt_dec rfl) ?_
  refine Ops_nil ?_
  refine W_cond rfl (fun h1 => ?_) (fun h1 => ?_)
  ·try simp only [bs] at h1
   refine W_skip ?_
   refine W_seq ?_
   refine W_block ?_
   refine W_seq ?_
   refine W_seq ?_
   refine W_region ?_
   refine o_mv rfl rfl ?_
   first | refine Ops_p (p_ix1 _ rfl rfl rfl rfl rfl rfl (by first | omega | exact Fin.isLt _ | (dsimp only; omega))) (lt_dec rfl) ?_ | refine Ops_p (p_ix1s _ rfl rfl rfl rfl rfl rfl (by first | omega | exact Fin.isLt _ | (dsimp only; omega))) (lt_dec rfl) ?_
   refine Ops_q (q_load rfl rfl m0 rfl (by first | exact True.intro | omega | exact Fin.isLt _ | trivial | (dsimp only; omega))) (lt_dec rfl) ?_
   refine Ops_nil ?_
   refine W_cond rfl (fun h2 => ?_) (fun h2 => ?_)
   ·try simp only [bs] at h2
    have hsk := h2
    refine W_exit ?_
    refine W_region ?_
    refine o_mv rfl rfl ?_
    refine Ops_p (p_add rfl rfl (by refine ⟨?_, ?_⟩ <;> first | omega | (dsimp only; omega))) (lt_dec rfl) ?_
    refine o_as rfl rfl ?_
    refine Ops_nil ?_
    refine Exists.intro (k + 1, vv, D) (And.intro ?_ (And.intro ?_ ?_))
    ·first | exact ⟨by show _ ≤ _; omega, by show List.map _ D = _; rw [hD]; exact oL_t (by rw [← seenT_at (n := n.toNat) (by omega)]; exact hsk)⟩ | exact ⟨by show _ ≤ _; omega, by rw [List.map_append, hD]; exact oL_f (by rw [← seenT_at (n := n.toNat) (by omega)]; simpa using hsk)⟩
    ·show _ < _; omega
    ·exact Wk.intro (.c rfl (.c rfl (.c rfl (.c rfl (.cons rfl (by first | rfl | exact veq_int (by first | omega | (dsimp only; omega))) .nil))))) (.keep rfl rfl (imp_var (by first | exact ceq_barr fun y _ => seenT_same orbB_trans (by omega) hsk y | exact ceq_barr fun y _ => seenM_end y) rfl) (.keep rfl rfl (oss_eq rfl) (.keep rfl rfl (fun _ h => h) .nil)))
   ·try simp only [bs] at h2
    have hsk := h2
    refine W_skip ?_
    refine W_seq ?_
    refine W_region ?_
    refine o_mv rfl rfl ?_
    refine o_mv rfl rfl ?_
    refine o_mv rfl rfl ?_
    refine Ops_x rfl (x_callT en_spec_l04Orbit rfl (w_spec_l04Orbit hp (by omega) (by omega)) HpDels.nil (Vw.rd m2) (fun _ => HpDels.nil) (lt_dec rfl) fun x24_1 hx1 => ?_)
    refine Ops_x rfl (x_buildSlice rfl rfl rfl rfl rfl rfl rfl rfl (Nat.le_of_ble_eq_true rfl) (lt_dec rfl) fun b25_1 => ?_)
    refine Ops_x rfl (x_alloc rfl (lt_dec rfl) fun b8_1 => ?_)
    refine Ops_x rfl (x_store rfl rfl rfl rfl rfl HpRep.head rfl (by first | trivial | (first | (first | omega | (dsimp only; omega)) | exact Fin.isLt _)) ?_)
    refine o_as rfl rfl ?_
    refine Ops_nil ?_
    refine W_seq ?_
    refine W_seq ?_
    refine W_region ?_
    refine o_as rfl rfl ?_
    refine Ops_nil ?_
    refine W_block ?_
    refine W_loop (α := Nat × Nat × Nat) (fun zz1 => ⟨[(0, .raw a ha), (1, .int .i64 n), (5, .raw vv.1 vv.2), (6, .ptr b6_1 0 none), (7, .int .i64 (k : Int)), (8, .ptr b8_1 0 none), (9, .sl (zz1.2.1) 0 (List.length (filt (orbB l n.toNat k) (zz1.1))) (zz1.2.2)), (10, .int .i64 ((zz1.1) : Int)), (20, .bool (seenT (orbB l n.toNat) n.toNat k k))], [.var b8_1 (.agg [.int .i64 (k : Int), .barr 10 x24_1.1, .arr8 100 x24_1.2]), .row (zz1.2.1) (zz1.2.2) 2 (.ints .i64 (filt (orbB l n.toNat k) (zz1.1))), .var b6_1 (.barr 10 (seenM (orbB l n.toNat) n.toNat k (zz1.1))), oss vv.1 48 2 D, rd a (.arrs 10 l)]⟩) (fun zz1 => (zz1.1) ≤ n.toNat) (fun zz1 => n.toNat - (zz1.1)) (0, b25_1, 0) ?_ ?_ ?_
    ·show _ ≤ _; omega
    ·exact Wk.intro (.c rfl (.c rfl (.c rfl (.c rfl (.c rfl (.c rfl (.cons rfl (by first | rfl | exact veq_int (by first | omega | (dsimp only; omega))) (.cons rfl (by first | rfl | exact veq_int (by first | omega | (dsimp only; omega))) (.c rfl .nil))))))))) (.keep rfl rfl (fun _ h => h) (.keep rfl rfl (fun _ h => h) (.keep rfl rfl (imp_var (by exact ceq_barr fun y _ => seenM_zero y) rfl) (.keep rfl rfl (fun _ h => h) (.keep rfl rfl (fun _ h => h) .nil)))))
    ·rintro ⟨y, bb, cbb⟩ hR
     try dsimp only at *
     have hfl := filt_len (P := orbB l n.toNat k) y
     refine W_seq ?_
     refine W_seq ?_
     refine W_region ?_
     refine o_mv rfl rfl ?_
     refine o_mv rfl rfl ?_
     refine Ops_p (p_lss rfl rfl) (lt_dec rfl) ?_
     refine Ops_nil ?_
     refine W_cond rfl (fun h3 => ?_) (fun h3 => ?_)
     ·try simp only [bs] at h3
      refine W_skip ?_
      refine W_seq ?_
      refine W_block ?_
      refine W_seq ?_
      refine W_region ?_
      refine o_mv rfl rfl ?_
      refine Ops_p (p_fieldAddr rfl rfl rfl rfl rfl rfl) (lt_dec rfl) ?_
      first | refine Ops_p (p_ix1 _ rfl rfl rfl rfl rfl rfl (by first | omega | exact Fin.isLt _ | (dsimp only; omega))) (lt_dec rfl) ?_ | refine Ops_p (p_ix1s _ rfl rfl rfl rfl rfl rfl (by first | omega | exact Fin.isLt _ | (dsimp only; omega))) (lt_dec rfl) ?_
      refine Ops_q (q_load rfl rfl m0 rfl (by first | exact True.intro | omega | exact Fin.isLt _ | trivial | (dsimp only; omega))) (lt_dec rfl) ?_
      refine Ops_nil ?_
      refine W_cond rfl (fun h4 => ?_) (fun h4 => ?_)
      ·try simp only [bs] at h4
       have hxy := (hx1.1 y (by omega)).symm.trans h4
       refine W_seq ?_
       refine W_region ?_
       refine o_mv rfl rfl ?_
       first | refine Ops_p (p_ix1 _ rfl rfl rfl rfl rfl rfl (by first | omega | exact Fin.isLt _ | (dsimp only; omega))) (lt_dec rfl) ?_ | refine Ops_p (p_ix1s _ rfl rfl rfl rfl rfl rfl (by first | omega | exact Fin.isLt _ | (dsimp only; omega))) (lt_dec rfl) ?_
       refine Ops_x rfl (x_store rfl rfl rfl rfl rfl (((HpRep.head).tail).tail) rfl (by first | trivial | (first | (first | omega | (dsimp only; omega)) | exact Fin.isLt _)) ?_)
       refine Ops_nil ?_
       refine W_region ?_
       refine o_mv rfl rfl ?_
       refine o_mv rfl rfl ?_
       refine Ops_x rfl (x_buildSlice rfl rfl rfl rfl rfl rfl rfl rfl (Nat.le_of_ble_eq_true rfl) (lt_dec rfl) fun b39_1 => ?_)
       refine Ops_x rfl (x_append rfl rfl rfl rfl rfl rfl (fun _ _ => ((HpRep.head).tail).tail) (.inl ⟨m0, rfl⟩) rfl (by first | rfl | exact elems_len.symm | simp [Rw.len]) rfl (by first | omega | (dsimp only; omega)) rfl (by first | omega | (dsimp only; omega)) (by first | omega | (dsimp only; omega)) (lt_dec rfl) fun b40_1 cb40_1 => ?_)
       refine o_as rfl rfl ?_
       refine Ops_nil ?_
       refine W_region ?_
       refine o_mv rfl rfl ?_
       refine Ops_p (p_add rfl rfl (by refine ⟨?_, ?_⟩ <;> first | omega | (dsimp only; omega))) (lt_dec rfl) ?_
       refine o_as rfl rfl ?_
       refine Ops_nil ?_
       refine Exists.intro (y + 1, b40_1, cb40_1) (And.intro ?_ (And.intro ?_ ?_))
       ·show _ ≤ _; omega
       ·show _ < _; omega
       ·exact Wk.intro (.c rfl (.c rfl (.c rfl (.c rfl (.c rfl (.c rfl (.cons rfl (by first | exact veq_sl (by rw [← filt_t hxy]; simp) | exact veq_sl (by rw [← filt_f hxy])) (.cons rfl (by first | rfl | exact veq_int (by first | omega | (dsimp only; omega))) (.c rfl .nil))))))))) (.drop (.keep rfl rfl (fun _ h => h) (.keep rfl rfl (fun _ h => by first | (rw [← filt_t hxy]; exact h) | (rw [← filt_f hxy]; exact h)) (.keep rfl rfl (imp_var (by first | exact ceq_barr fun z _ => seenM_t hxy z | exact ceq_barr fun z _ => seenM_f hxy z) rfl) (.keep rfl rfl (fun _ h => h) (.keep rfl rfl (fun _ h => h) .nil))))))
      ·try simp only [bs] at h4
       have hxy := (hx1.1 y (by omega)).symm.trans (by simpa using h4)
       refine W_skip ?_
       refine W_region ?_
       refine o_mv rfl rfl ?_
       refine Ops_p (p_add rfl rfl (by refine ⟨?_, ?_⟩ <;> first | omega | (dsimp only; omega))) (lt_dec rfl) ?_
       refine o_as rfl rfl ?_
       refine Ops_nil ?_
       refine Exists.intro (y + 1, bb, cbb) (And.intro ?_ (And.intro ?_ ?_))
       ·show _ ≤ _; omega
       ·show _ < _; omega
       ·exact Wk.intro (.c rfl (.c rfl (.c rfl (.c rfl (.c rfl (.c rfl (.cons rfl (by first | exact veq_sl (by rw [← filt_t hxy]; simp) | exact veq_sl (by rw [← filt_f hxy])) (.cons rfl (by first | rfl | exact veq_int (by first | omega | (dsimp only; omega))) (.c rfl .nil))))))))) (.keep rfl rfl (fun _ h => h) (.keep rfl rfl (fun _ h => by first | (rw [← filt_t hxy]; exact h) | (rw [← filt_f hxy]; exact h)) (.keep rfl rfl (imp_var (by first | exact ceq_barr fun z _ => seenM_t hxy z | exact ceq_barr fun z _ => seenM_f hxy z) rfl) (.keep rfl rfl (fun _ h => h) (.keep rfl rfl (fun _ h => h) .nil)))))
     ·try simp only [bs] at h3
      obtain rfl : y = n.toNat := (by omega)
      refine W_exit ?_
      refine W_region ?_
      refine o_mv rfl rfl ?_
      refine o_mv rfl rfl ?_
      refine Ops_x rfl (x_buildSlice rfl rfl rfl rfl rfl rfl rfl rfl (Nat.le_of_ble_eq_true rfl) (lt_dec rfl) fun b43_1 => ?_)
      refine Ops_x rfl (x_appendSS (u := (slv bb (List.length (filt (orbB l n.toNat k) n.toNat)) cbb)) (li := (filt (orbB l n.toNat k) n.toNat)) rfl rfl rfl rfl rfl rfl m0 (HpDels.cons ((((HpDel.head).tail).tail).tail).tail (HpDels.cons ((HpDel.head).tail).tail HpDels.nil)) rfl rfl (own_of_row rfl rfl) (fun _ => (HpDels.cons (((HpDel.head).tail).tail).tail HpDels.nil)) (by dsimp only; have := oL_len (R := (orbB l n.toNat)) (n := n.toNat) k; have := congrArg List.length hD; simp at this; omega) (by have := oL_len (R := (orbB l n.toNat)) (n := n.toNat) k; have := congrArg List.length hD; simp at this; omega) (lt_dec rfl) fun v44 => ?_)
      refine o_as rfl rfl ?_
      refine Ops_nil ?_
      refine W_region ?_
      refine o_mv rfl rfl ?_
      refine Ops_p (p_add rfl rfl (by refine ⟨?_, ?_⟩ <;> first | omega | (dsimp only; omega))) (lt_dec rfl) ?_
      refine o_as rfl rfl ?_
      refine Ops_nil ?_
      refine Exists.intro (k + 1, v44, (D ++ [((slv bb (List.length (filt (orbB l n.toNat k) n.toNat)) cbb), (filt (orbB l n.toNat k) n.toNat))])) (And.intro ?_ (And.intro ?_ ?_))
      ·first | exact ⟨by show _ ≤ _; omega, by show List.map _ D = _; rw [hD]; exact oL_t (by rw [← seenT_at (n := n.toNat) (by omega)]; exact hsk)⟩ | exact ⟨by show _ ≤ _; omega, by rw [List.map_append, hD]; exact oL_f (by rw [← seenT_at (n := n.toNat) (by omega)]; simpa using hsk)⟩
      ·show _ < _; omega
      ·exact Wk.intro (.c rfl (.c rfl (.cons rfl (by first | rfl | exact veq_int (by first | omega | (dsimp only; omega))) (.c rfl (.cons rfl (by first | rfl | exact veq_int (by first | omega | (dsimp only; omega))) .nil))))) (.drop (.drop (.keep rfl rfl (imp_var (by first | exact ceq_barr fun y _ => seenT_same orbB_trans (by omega) hsk y | exact ceq_barr fun y _ => seenM_end y) rfl) (.keep rfl rfl (oss_eq rfl) (.keep rfl rfl (fun _ h => h) .nil)))))
  ·try simp only [bs] at h1
   obtain rfl : k = n.toNat := (by omega)
   refine W_exit ?_
   refine W_seq ?_
   refine W_region ?_
   refine o_mv rfl rfl ?_
   refine o_as rfl rfl ?_
   refine Ops_nil ?_
   refine W_ret ?_
   refine Exists.intro _ (And.intro (.cons (.tmp rfl) .nil) (Exists.intro (vv, D) (And.intro ?_ (And.intro ?_ (And.intro (.cons (HpDel.head).tail rfl (oss_eq rfl) .nil) rfl)))))
   ·exact hD
   ·rfl
end Go.Proofs.Ytjihhcjpbcmjaaa
end
section
namespace Go.Proofs.Ytjihhcjpbcmjaaa
open Go Gx
set_option linter.unusedVariables false
theorem en_spec_IsPrimitive : Enters Try.prog 26 := enters_of Try.func26 (by kernel_rfl) (by kernel_rfl)
set_option maxRecDepth 100000 in
theorem w_spec_IsPrimitive {a : Value} {ha : a.oneCell' = true} {l : List (Nat → Fin 256)} {n : Int} (hl : l.length ≤ 1048576) : CR Try.prog 26 (vals [.raw a ha, .int .i64 n]) [rd a (.arrs 10 l)] (.tup [.bool (prB l n), .int .i64 (psC l n)]) := by
 refine CR_intro (rs := [.tmp 4, .tmp 5]) tt tok Try.func26 rfl rfl rfl (by first | rfl | assumption) fun w => ?_
 refine W_seq ?_
 refine W_region ?_
 refine o_as rfl rfl ?_
 refine o_as rfl rfl ?_
 refine Ops_nil ?_
 refine W_seq ?_
 refine W_seq ?_
 refine W_region ?_
 refine o_mv rfl rfl ?_
 refine o_mv rfl rfl ?_
 refine Ops_q (q_call en_spec_l04Code rfl (w_spec_l04Code (by first | assumption | (first | omega | (dsimp only; omega)) | (simp; done) | decide)) (Vw.rd m0).v) (lt_dec rfl) ?_
 refine o_as rfl rfl ?_
 refine Ops_nil ?_
 refine W_seq ?_
 refine W_region ?_
 refine o_mv rfl rfl ?_
 refine Ops_p (p_neq rfl rfl) (lt_dec rfl) ?_
 refine Ops_nil ?_
 refine W_cond rfl (fun h1 => ?_) (fun h1 => ?_)
 ·try simp only [bs] at h1
  refine W_seq ?_
  refine W_region ?_
  refine o_mv rfl rfl ?_
  refine o_as rfl rfl ?_
  refine o_as rfl rfl ?_
  refine Ops_nil ?_
  refine W_ret ?_
  refine Exists.intro _ (And.intro (.cons (.tmp rfl) (.cons (.tmp rfl) .nil)) ?_)
  first | rfl | (exact veq_tup2 (veq_bool (prB_c (by assumption))) rfl) | (exact veq_tup2 (veq_bool (prB_o h0 hx1 (by omega))) (veq_int h0.symm)) | (exact veq_tup2 (veq_bool (prB_b (y := y) (by omega) (by omega) (by assumption))) (veq_int h0.symm)) | (exact veq_tup2 (veq_bool (prB_all h0 hx1 (by omega) hY)) (veq_int h0.symm))
 ·try simp only [bs] at h1
  have h0 : psC l n = 0 := (by omega); have hp := (psC_ok h0).1; have hl40 := (psC_ok h0).2; have hn := hp.1
  refine W_skip ?_
  refine W_seq ?_
  refine W_seq ?_
  refine W_region ?_
  refine o_mv rfl rfl ?_
  refine o_mv rfl rfl ?_
  refine Ops_x rfl (x_callT en_spec_l04Orbits rfl (w_spec_l04Orbits hp hl40) HpDels.nil (Vw.rd m0) (fun _ => (HpDels.cons HpDel.head HpDels.nil)) (lt_dec rfl) fun x16_1 hx1 => ?_)
  refine Ops_q (q_lenO rfl rfl rfl (Rds.ossO m0)) (lt_dec rfl) ?_
  refine Ops_p (p_gtr rfl rfl) (lt_dec rfl) ?_
  refine Ops_nil ?_
  refine W_cond rfl (fun h2 => ?_) (fun h2 => ?_)
  ·try simp only [bs] at h2
   refine W_seq ?_
   refine W_region ?_
   refine o_as rfl rfl ?_
   refine o_as rfl rfl ?_
   refine Ops_nil ?_
   refine W_ret ?_
   refine Exists.intro _ (And.intro (.cons (.tmp rfl) (.cons (.tmp rfl) .nil)) ?_)
   first | rfl | (exact veq_tup2 (veq_bool (prB_c (by assumption))) rfl) | (exact veq_tup2 (veq_bool (prB_o h0 hx1 (by omega))) (veq_int h0.symm)) | (exact veq_tup2 (veq_bool (prB_b (y := y) (by omega) (by omega) (by assumption))) (veq_int h0.symm)) | (exact veq_tup2 (veq_bool (prB_all h0 hx1 (by omega) hY)) (veq_int h0.symm))
  ·try simp only [bs] at h2
   refine W_skip ?_
   refine W_seq ?_
   refine W_seq ?_
   refine W_region ?_
   refine o_as rfl rfl ?_
   refine Ops_nil ?_
   refine W_block ?_
   refine W_loop (α := Nat) (fun y => ⟨[(0, .raw a ha), (1, .int .i64 n), (6, .int .i64 (psC l n)), (7, .int .i64 (y : Int))], [oss x16_1.1.1 48 2 x16_1.2, rd a (.arrs 10 l)]⟩) (fun y => y ≤ n.toNat ∧ 1 ≤ y ∧ ∀ z : Nat, 1 ≤ z → z < y → ¬ (((bkL l n.toNat 0 z).length : Nat) : Int) < n) (fun y => n.toNat - y) 1 ?_ ?_ ?_
   ·exact ⟨by omega, Nat.le_refl _, fun z h1 h2 => by omega⟩
   ·exact Wk.intro (.c rfl (.c rfl (.c rfl (.cons rfl (by first | rfl | exact veq_int (by first | omega | (dsimp only; omega))) .nil)))) (.keep rfl rfl (fun _ h => h) (.keep rfl rfl (fun _ h => h) .nil))
   ·rintro y ⟨hyn, hy1, hY⟩
    refine W_seq ?_
    refine W_seq ?_
    refine W_region ?_
    refine o_mv rfl rfl ?_
    refine o_mv rfl rfl ?_
    refine Ops_p (p_lss rfl rfl) (lt_dec rfl) ?_
    refine Ops_nil ?_
    refine W_cond rfl (fun h3 => ?_) (fun h3 => ?_)
    ·try simp only [bs] at h3
     refine W_skip ?_
     refine W_seq ?_
     refine W_block ?_
     refine W_seq ?_
     refine W_region ?_
     refine o_mv rfl rfl ?_
     refine o_mv rfl rfl ?_
     refine o_mv rfl rfl ?_
     refine Ops_x rfl (x_callT en_spec_l04Block rfl (w_spec_l04Block (x0 := 0) (y0 := y) hp hl40 (by omega) (by omega)) HpDels.nil (Vw.rd m1) (fun _ => (HpDels.cons HpDel.head HpDels.nil)) (lt_dec rfl) fun x27_1 _ => ?_)
     refine Ops_q ((q_lenR rfl rfl rfl (Rds.own m0)).eq (d' := .int .i64 (((bkL l n.toNat 0 y).length : Nat) : Int)) rfl) (lt_dec rfl) ?_
     refine o_mv rfl rfl ?_
     refine Ops_p (p_lss rfl rfl) (lt_dec rfl) ?_
     refine Ops_nil ?_
     refine W_cond rfl (fun h4 => ?_) (fun h4 => ?_)
     ·try simp only [bs] at h4
      refine W_seq ?_
      refine W_region ?_
      refine o_as rfl rfl ?_
      refine o_as rfl rfl ?_
      refine Ops_nil ?_
      refine W_ret ?_
      refine Exists.intro _ (And.intro (.cons (.tmp rfl) (.cons (.tmp rfl) .nil)) ?_)
      first | rfl | (exact veq_tup2 (veq_bool (prB_c (by assumption))) rfl) | (exact veq_tup2 (veq_bool (prB_o h0 hx1 (by omega))) (veq_int h0.symm)) | (exact veq_tup2 (veq_bool (prB_b (y := y) (by omega) (by omega) (by assumption))) (veq_int h0.symm)) | (exact veq_tup2 (veq_bool (prB_all h0 hx1 (by omega) hY)) (veq_int h0.symm))
     ·try simp only [bs] at h4
      refine W_skip ?_
      refine W_region ?_
      refine o_mv rfl rfl ?_
      refine Ops_p (p_add rfl rfl (by refine ⟨?_, ?_⟩ <;> first | omega | (dsimp only; omega))) (lt_dec rfl) ?_
      refine o_as rfl rfl ?_
      refine Ops_nil ?_
      refine Exists.intro (y + 1) (And.intro ?_ (And.intro ?_ ?_))
      ·exact ⟨by omega, by omega, fun z h1 h2 => if e : z = y then by subst e; omega else hY z h1 (by omega)⟩
      ·show _ < _; omega
      ·exact Wk.intro (.c rfl (.c rfl (.c rfl (.cons rfl (by first | rfl | exact veq_int (by first | omega | (dsimp only; omega))) .nil)))) (.drop (.keep rfl rfl (fun _ h => h) (.keep rfl rfl (fun _ h => h) .nil)))
    ·try simp only [bs] at h3
     obtain rfl : y = n.toNat := (by omega)
     refine W_exit ?_
     refine W_seq ?_
     refine W_region ?_
     refine o_as rfl rfl ?_
     refine o_as rfl rfl ?_
     refine Ops_nil ?_
     refine W_ret ?_
     refine Exists.intro _ (And.intro (.cons (.tmp rfl) (.cons (.tmp rfl) .nil)) ?_)
     first | rfl | (exact veq_tup2 (veq_bool (prB_c (by assumption))) rfl) | (exact veq_tup2 (veq_bool (prB_o h0 hx1 (by omega))) (veq_int h0.symm)) | (exact veq_tup2 (veq_bool (prB_b (y := y) (by omega) (by omega) (by assumption))) (veq_int h0.symm)) | (exact veq_tup2 (veq_bool (prB_all h0 hx1 (by omega) hY)) (veq_int h0.symm))
end Go.Proofs.Ytjihhcjpbcmjaaa
end
section
namespace Go.Proofs.Ytjihhcjpbcmjaaa
open Go Gx
set_option linter.unusedVariables false
theorem en_spec_LeastBlock : Enters Try.prog 22 := enters_of Try.func22 (by kernel_rfl) (by kernel_rfl)
set_option maxRecDepth 100000 in
theorem w_spec_LeastBlock {a : Value} {ha : a.oneCell' = true} {l : List (Nat → Fin 256)} {n x y : Int} (hl : l.length ≤ 1048576) : CT (X := V1) Try.prog 22 (vals [.raw a ha, .int .i64 n, .int .i64 x, .int .i64 y]) [] [rd a (.arrs 10 l)] (fun x1 => True) (fun x1 => .tup [.raw x1.1 x1.2, .int .i64 (lbC l n x y)]) (fun x1 => [own x1.1 2 (.ints .i64 (lbL l n x y))]) := by
 refine CT_intro (rs := [.tmp 8, .tmp 9]) tt tok Try.func22 rfl rfl rfl (by first | rfl | assumption) fun w => ?_
 show W _ _ _ ⟨tmOf 0 [.raw a ha, .int .i64 n, .int .i64 x, .int .i64 y], [rd a (.arrs 10 l)]⟩
 refine W_seq ?_
 refine W_region ?_
 refine o_as rfl rfl ?_
 refine o_as rfl rfl ?_
 refine Ops_nil ?_
 refine W_seq ?_
 refine W_region ?_
 refine o_mv rfl rfl ?_
 refine o_mv rfl rfl ?_
 refine Ops_q (q_call en_spec_l04Code rfl (w_spec_l04Code (by first | assumption | (first | omega | (dsimp only; omega)) | (simp; done) | decide)) (Vw.rd m0).v) (lt_dec rfl) ?_
 refine o_as rfl rfl ?_
 refine Ops_nil ?_
 refine W_cutE (fun E s' => ∃ c, (c = psD l n x y) ∧ Wk E s' ⟨[(0, .raw a ha), (1, .int .i64 n), (2, .int .i64 x), (3, .int .i64 y), (10, .int .i64 c)], [rd a (.arrs 10 l)]⟩) ?_ ?_
 ·refine W_seq ?_
  refine W_region ?_
  refine o_mv rfl rfl ?_
  refine Ops_p (p_eql rfl rfl) (lt_dec rfl) ?_
  refine o_mv rfl rfl ?_
  refine Ops_guard rfl rfl (lt_dec rfl) (fun hg1 => ?_) (fun hg1 => ?_)
  ·try simp only [bs] at hg1
   refine o_mv rfl rfl ?_
   refine Ops_guard_t rfl rfl (lt_dec rfl) ?_
   refine o_mv rfl rfl ?_
   refine Ops_guard_t rfl rfl (lt_dec rfl) ?_
   refine Ops_p (p_sub rfl rfl (by refine ⟨?_, ?_⟩ <;> (first | omega | (have h99 := (psC_ok (by assumption : psC l n = 0)).1.1; omega)))) (lt_dec rfl) ?_
   refine Ops_guard_t rfl rfl (lt_dec rfl) ?_
   refine Ops_q (q_call en_spec_l01In rfl (w_spec_l01In) (View.none _)) (lt_dec rfl) ?_
   refine Ops_guard_t rfl rfl (lt_dec rfl) ?_
   refine Ops_p (p_not rfl) (lt_dec rfl) ?_
   refine Ops_guard_t rfl rfl (lt_dec rfl) ?_
   refine o_mv rfl rfl ?_
   refine Ops_guard rfl rfl (lt_dec rfl) (fun hg2 => ?_) (fun hg2 => ?_)
   ·try simp only [bs] at hg2
    refine o_mv rfl rfl ?_
    refine Ops_guard_t rfl rfl (lt_dec rfl) ?_
    refine o_mv rfl rfl ?_
    refine Ops_guard_t rfl rfl (lt_dec rfl) ?_
    refine Ops_p (p_sub rfl rfl (by refine ⟨?_, ?_⟩ <;> (first | omega | (have h99 := (psC_ok (by assumption : psC l n = 0)).1.1; omega)))) (lt_dec rfl) ?_
    refine Ops_guard_t rfl rfl (lt_dec rfl) ?_
    refine Ops_q (q_call en_spec_l01In rfl (w_spec_l01In) (View.none _)) (lt_dec rfl) ?_
    refine Ops_guard_t rfl rfl (lt_dec rfl) ?_
    refine Ops_p (p_not rfl) (lt_dec rfl) ?_
    refine Ops_guard_t rfl rfl (lt_dec rfl) ?_
    refine Ops_p (p_pick_f rfl rfl) (lt_dec rfl) ?_
    refine Ops_p (p_pick_t rfl rfl) (lt_dec rfl) ?_
    refine Ops_nil ?_
    refine W_cond rfl (fun h1 => ?_) (fun h1 => ?_)
    ·try simp only [bs] at h1
     refine W_region ?_
     refine o_as rfl rfl ?_
     refine Ops_nil ?_
     refine ⟨2, ?_, ?_⟩
     ·first | exact (psD_c (by assumption)).symm | exact (psD_2 (by assumption) (by unfold inN; omega)).symm | exact (by assumption : psC l n = 0).trans (psD_0 (by assumption) (by unfold inN; omega)).symm
     ·exact Wk.intro (.c rfl (.c rfl (.c rfl (.c rfl (.cons rfl (by first | rfl | exact veq_int (by first | omega | (dsimp only; omega))) .nil))))) (.keep rfl rfl (fun _ h => h) .nil)
    ·try simp only [bs] at h1
     refine W_skip ?_
     refine ⟨(psC l n), ?_, ?_⟩
     ·first | exact (psD_c (by assumption)).symm | exact (psD_2 (by assumption) (by unfold inN; omega)).symm | exact (by assumption : psC l n = 0).trans (psD_0 (by assumption) (by unfold inN; omega)).symm
     ·exact Wk.intro (.c rfl (.c rfl (.c rfl (.c rfl (.cons rfl (by first | rfl | exact veq_int (by first | omega | (dsimp only; omega))) .nil))))) (.keep rfl rfl (fun _ h => h) .nil)
   ·try simp only [bs] at hg2
    refine Ops_guard_f rfl rfl rfl (lt_dec rfl) ?_
    refine Ops_guard_f rfl rfl rfl (lt_dec rfl) ?_
    refine Ops_guard_f rfl rfl rfl (lt_dec rfl) ?_
    refine Ops_guard_f rfl rfl rfl (lt_dec rfl) ?_
    refine Ops_guard_t rfl rfl (lt_dec rfl) ?_
    refine Ops_p (p_pick_t rfl rfl) (lt_dec rfl) ?_
    refine Ops_p (p_pick_t rfl rfl) (lt_dec rfl) ?_
    refine Ops_nil ?_
    refine W_true rfl ?_
    refine W_region ?_
    refine o_as rfl rfl ?_
    refine Ops_nil ?_
    refine ⟨2, ?_, ?_⟩
    ·first | exact (psD_c (by assumption)).symm | exact (psD_2 (by assumption) (by unfold inN; omega)).symm | exact (by assumption : psC l n = 0).trans (psD_0 (by assumption) (by unfold inN; omega)).symm
    ·exact Wk.intro (.c rfl (.c rfl (.c rfl (.c rfl (.cons rfl (by first | rfl | exact veq_int (by first | omega | (dsimp only; omega))) .nil))))) (.keep rfl rfl (fun _ h => h) .nil)
  ·try simp only [bs] at hg1
   refine Ops_guard_f rfl rfl rfl (lt_dec rfl) ?_
   refine Ops_guard_f rfl rfl rfl (lt_dec rfl) ?_
   refine Ops_guard_f rfl rfl rfl (lt_dec rfl) ?_
   refine Ops_guard_f rfl rfl rfl (lt_dec rfl) ?_
   refine Ops_guard_f rfl rfl rfl (lt_dec rfl) ?_
   refine Ops_guard_u rfl rfl (lt_dec rfl) ?_
   refine Ops_guard_u rfl rfl (lt_dec rfl) ?_
   refine Ops_guard_u rfl rfl (lt_dec rfl) ?_
   refine Ops_guard_u rfl rfl (lt_dec rfl) ?_
   refine Ops_guard_u rfl rfl (lt_dec rfl) ?_
   refine Ops_guard_f rfl rfl rfl (lt_dec rfl) ?_
   refine Ops_p (p_pick_f rfl rfl) (lt_dec rfl) ?_
   refine Ops_nil ?_
   refine W_false rfl ?_
   refine W_skip ?_
   refine ⟨(psC l n), ?_, ?_⟩
   ·first | exact (psD_c (by assumption)).symm | exact (psD_2 (by assumption) (by unfold inN; omega)).symm | exact (by assumption : psC l n = 0).trans (psD_0 (by assumption) (by unfold inN; omega)).symm
   ·exact Wk.intro (.c rfl (.c rfl (.c rfl (.c rfl (.cons rfl (by first | rfl | exact veq_int (by first | omega | (dsimp only; omega))) .nil))))) (.keep rfl rfl (fun _ h => h) .nil)
 ·rintro s' ⟨c, hR, hw⟩
  refine W_wk hw ?_
  clear hw s'
  refine W_cutE (fun E s' => ∃ c, (c = lbC l n x y) ∧ Wk E s' ⟨[(0, .raw a ha), (1, .int .i64 n), (2, .int .i64 x), (3, .int .i64 y), (10, .int .i64 c)], [rd a (.arrs 10 l)]⟩) ?_ ?_
  ·refine W_seq ?_
   refine W_region ?_
   refine o_mv rfl rfl ?_
   refine Ops_p (p_eql rfl rfl) (lt_dec rfl) ?_
   refine o_mv rfl rfl ?_
   refine Ops_guard rfl rfl (lt_dec rfl) (fun hg3 => ?_) (fun hg3 => ?_)
   ·try simp only [bs] at hg3
    refine o_mv rfl rfl ?_
    refine Ops_guard_t rfl rfl (lt_dec rfl) ?_
    refine o_mv rfl rfl ?_
    refine Ops_guard_t rfl rfl (lt_dec rfl) ?_
    refine Ops_x rfl (x_callT en_spec_l04Orbits rfl (w_spec_l04Orbits (psC_ok (psD_ok (show psD l n x y = 0 by omega)).1).1 (psC_ok (psD_ok (show psD l n x y = 0 by omega)).1).2) HpDels.nil (Vw.rd m0) (fun _ => (HpDels.cons HpDel.head HpDels.nil)) (lt_dec rfl) fun x35_1 hx1 => ?_)
    refine Ops_guard_t rfl rfl (lt_dec rfl) ?_
    refine Ops_q (q_lenO rfl rfl rfl (Rds.ossO m0)) (lt_dec rfl) ?_
    refine Ops_guard_t rfl rfl (lt_dec rfl) ?_
    refine Ops_p (p_gtr rfl rfl) (lt_dec rfl) ?_
    refine Ops_p (p_pick_t rfl rfl) (lt_dec rfl) ?_
    refine Ops_nil ?_
    refine W_cond rfl (fun h2 => ?_) (fun h2 => ?_)
    ·try simp only [bs] at h2
     refine W_region ?_
     refine o_as rfl rfl ?_
     refine Ops_nil ?_
     refine ⟨5, ?_, ?_⟩
     ·first | exact hR.trans (psD_n (by omega)).symm | exact (lb_5 (psD_ok (show psD l n x y = 0 by omega)).1 (psD_ok (show psD l n x y = 0 by omega)).2 (by rw [orbS_0 (psD_ok (show psD l n x y = 0 by omega)).1, ← hx1]; simp only [List.length_map]; omega)).symm | exact hR.trans ((show psD l n x y = 0 by omega).trans (lb_0 (psD_ok (show psD l n x y = 0 by omega)).1 (psD_ok (show psD l n x y = 0 by omega)).2 (by rw [orbS_0 (psD_ok (show psD l n x y = 0 by omega)).1, ← hx1]; simp only [List.length_map]; omega)).symm)
     ·exact Wk.intro (.c rfl (.c rfl (.c rfl (.c rfl (.cons rfl (by first | rfl | exact veq_int (by first | omega | (dsimp only; omega))) .nil))))) (.drop (.keep rfl rfl (fun _ h => h) .nil))
    ·try simp only [bs] at h2
     refine W_skip ?_
     refine ⟨c, ?_, ?_⟩
     ·first | exact hR.trans (psD_n (by omega)).symm | exact (lb_5 (psD_ok (show psD l n x y = 0 by omega)).1 (psD_ok (show psD l n x y = 0 by omega)).2 (by rw [orbS_0 (psD_ok (show psD l n x y = 0 by omega)).1, ← hx1]; simp only [List.length_map]; omega)).symm | exact hR.trans ((show psD l n x y = 0 by omega).trans (lb_0 (psD_ok (show psD l n x y = 0 by omega)).1 (psD_ok (show psD l n x y = 0 by omega)).2 (by rw [orbS_0 (psD_ok (show psD l n x y = 0 by omega)).1, ← hx1]; simp only [List.length_map]; omega)).symm)
     ·exact Wk.intro (.c rfl (.c rfl (.c rfl (.c rfl (.c rfl .nil))))) (.drop (.keep rfl rfl (fun _ h => h) .nil))
   ·try simp only [bs] at hg3
    refine Ops_guard_f rfl rfl rfl (lt_dec rfl) ?_
    refine Ops_guard_f rfl rfl rfl (lt_dec rfl) ?_
    refine Ops_guard_f rfl rfl rfl (lt_dec rfl) ?_
    refine Ops_guard_f rfl rfl rfl (lt_dec rfl) ?_
    refine Ops_p (p_pick_f rfl rfl) (lt_dec rfl) ?_
    refine Ops_nil ?_
    refine W_false rfl ?_
    refine W_skip ?_
    refine ⟨c, ?_, ?_⟩
    ·first | exact hR.trans (psD_n (by omega)).symm | exact (lb_5 (psD_ok (show psD l n x y = 0 by omega)).1 (psD_ok (show psD l n x y = 0 by omega)).2 (by rw [orbS_0 (psD_ok (show psD l n x y = 0 by omega)).1, ← hx1]; simp only [List.length_map]; omega)).symm | exact hR.trans ((show psD l n x y = 0 by omega).trans (lb_0 (psD_ok (show psD l n x y = 0 by omega)).1 (psD_ok (show psD l n x y = 0 by omega)).2 (by rw [orbS_0 (psD_ok (show psD l n x y = 0 by omega)).1, ← hx1]; simp only [List.length_map]; omega)).symm)
    ·exact Wk.intro (.c rfl (.c rfl (.c rfl (.c rfl (.c rfl .nil))))) (.keep rfl rfl (fun _ h => h) .nil)
  ·rintro s' ⟨c, hR, hw⟩
   refine W_wk hw ?_
   clear hw s'
   refine W_seq ?_
   refine W_seq ?_
   refine W_region ?_
   refine o_mv rfl rfl ?_
   refine Ops_p (p_neq rfl rfl) (lt_dec rfl) ?_
   refine Ops_nil ?_
   refine W_cond rfl (fun h3 => ?_) (fun h3 => ?_)
   ·try simp only [bs] at h3
    refine W_seq ?_
    refine W_region ?_
    refine o_mv rfl rfl ?_
    refine o_as rfl rfl ?_
    refine o_as rfl rfl ?_
    refine Ops_nil ?_
    refine W_ret ?_
    refine Exists.intro _ (And.intro (.cons (.tmp rfl) (.cons (.tmp rfl) .nil)) (Exists.intro ⟨.slice none 0 0, rfl⟩ (And.intro ?_ (And.intro ?_ (And.intro (.free rfl (own_nil (by rw [lbL_n hR.symm (by omega)]; rfl) (by rw [lbL_n hR.symm (by omega)]; rfl)) .nil) rfl)))))
    ·trivial
    ·rw [← hR]; rfl
   ·try simp only [bs] at h3
    refine W_skip ?_
    refine W_seq ?_
    have h1c : lbC l n x y = 0 := (by omega)
    have hD0 : psD l n x y = 0 := Classical.byContradiction fun h8 => by rw [psD_n h8] at h1c; exact h8 h1c
    have hpo := (psC_ok (psD_ok hD0).1).1
    have hl40 := (psC_ok (psD_ok hD0).1).2
    have hin := (psD_ok hD0).2
    have hin2 : (0 ≤ x ∧ x ≤ n - 1) ∧ (0 ≤ y ∧ y ≤ n - 1) := hin
    have hnb := hpo.1
    have hxC : ((x.toNat : Nat) : Int) = x := (by omega)
    have hyC : ((y.toNat : Nat) : Int) = y := (by omega)
    refine W_region ?_
    refine o_mv rfl rfl ?_
    refine o_mv rfl rfl ?_
    refine o_mv rfl rfl ?_
    refine o_mv rfl rfl ?_
    refine Ops_x rfl (x_callT en_spec_l04Block rfl ((by have h := w_spec_l04Block (a := a) (ha := ha) (x0 := x.toNat) (y0 := y.toNat) hpo hl40 (by omega) (by omega); rw [hxC, hyC] at h; exact h)) HpDels.nil (Vw.rd m0) (fun _ => (HpDels.cons HpDel.head HpDels.nil)) (lt_dec rfl) fun x46_1 _ => ?_)
    refine o_as rfl rfl ?_
    refine o_as rfl rfl ?_
    refine Ops_nil ?_
    refine W_ret ?_
    refine Exists.intro _ (And.intro (.cons (.tmp rfl) (.cons (.tmp rfl) .nil)) (Exists.intro ⟨x46_1.1, x46_1.2⟩ (And.intro ?_ (And.intro ?_ (And.intro (.cons HpDel.head rfl (own_eq (by rw [lbL_0 h1c])) .nil) rfl)))))
    ·trivial
    ·rw [h1c]; rfl
end Go.Proofs.Ytjihhcjpbcmjaaa
end
section
namespace Go.Proofs.Ytjihhcjpbcmjaaa
open Go Gx
set_option linter.unusedVariables false
theorem en_spec_OrbitsOf : Enters Try.prog 18 := enters_of Try.func18 (by kernel_rfl) (by kernel_rfl)
set_option maxRecDepth 100000 in
theorem w_spec_OrbitsOf {a : Value} {ha : a.oneCell' = true} {l : List (Nat → Fin 256)} {n : Int} (hl : l.length ≤ 1048576) : CT (X := V1 × SL) Try.prog 18 (vals [.raw a ha, .int .i64 n]) [] [rd a (.arrs 10 l)] (fun x => x.2.map (·.2) = orbS l n) (fun x => .tup [.raw x.1.1 x.1.2, .int .i64 (psC l n)]) (fun x => [oss x.1.1 48 2 x.2]) := by
 refine CT_intro (rs := [.tmp 4, .tmp 5]) tt tok Try.func18 rfl rfl rfl (by first | rfl | assumption) fun w => ?_
 show W _ _ _ ⟨tmOf 0 [.raw a ha, .int .i64 n], [rd a (.arrs 10 l)]⟩
 refine W_seq ?_
 refine W_region ?_
 refine o_as rfl rfl ?_
 refine o_as rfl rfl ?_
 refine Ops_nil ?_
 refine W_seq ?_
 refine W_seq ?_
 refine W_region ?_
 refine o_mv rfl rfl ?_
 refine o_mv rfl rfl ?_
 refine Ops_q (q_call en_spec_l04Code rfl (w_spec_l04Code (by first | assumption | (first | omega | (dsimp only; omega)) | (simp; done) | decide)) (Vw.rd m0).v) (lt_dec rfl) ?_
 refine o_as rfl rfl ?_
 refine Ops_nil ?_
 refine W_seq ?_
 refine W_region ?_
 refine o_mv rfl rfl ?_
 refine Ops_p (p_neq rfl rfl) (lt_dec rfl) ?_
 refine Ops_nil ?_
 refine W_cond rfl (fun h1 => ?_) (fun h1 => ?_)
 ·try simp only [bs] at h1
  refine W_seq ?_
  refine W_region ?_
  refine o_mv rfl rfl ?_
  refine o_as rfl rfl ?_
  refine o_as rfl rfl ?_
  refine Ops_nil ?_
  refine W_ret ?_
  refine Exists.intro _ (And.intro (.cons (.tmp rfl) (.cons (.tmp rfl) .nil)) (Exists.intro (⟨.slice none 0 0, rfl⟩, []) (And.intro ?_ (And.intro ?_ (And.intro (.free rfl oss_nil .nil) rfl)))))
  ·rw [orbS_n (by assumption)]; rfl
  ·rfl
 ·try simp only [bs] at h1
  have h0 : psC l n = 0 := (by omega)
  refine W_skip ?_
  refine W_seq ?_
  refine W_region ?_
  refine o_mv rfl rfl ?_
  refine o_mv rfl rfl ?_
  refine Ops_x rfl (x_callT en_spec_l04Orbits rfl (w_spec_l04Orbits (psC_ok h0).1 (psC_ok h0).2) HpDels.nil (Vw.rd m0) (fun _ => (HpDels.cons HpDel.head HpDels.nil)) (lt_dec rfl) fun x15_1 hx1 => ?_)
  refine o_as rfl rfl ?_
  refine o_as rfl rfl ?_
  refine Ops_nil ?_
  refine W_ret ?_
  refine Exists.intro _ (And.intro (.cons (.tmp rfl) (.cons (.tmp rfl) .nil)) (Exists.intro x15_1 (And.intro ?_ (And.intro ?_ (And.intro (.cons HpDel.head rfl (oss_eq rfl) .nil) rfl)))))
  ·rw [hx1, orbS_0 h0]
  ·rw [h0]; rfl
end Go.Proofs.Ytjihhcjpbcmjaaa
end
section
namespace Go.Proofs.Ytjihhcjpbcmjaaa
open Go Gx
set_option linter.unusedVariables false
set_option maxRecDepth 100000 in
set_option maxHeartbeats 8000000 in
theorem w_laws_FnGroups {cv : Value} {hcv : cv.oneCell' = true} {code : List (Fin 256)}  : CR Try.prog 5 (vals [.raw cv hcv]) [rd cv (.u8s code)] (.bool true) := by
 refine CR_intro (rs := [.tmp 2]) tt tok Try.func5 rfl rfl rfl (by first | rfl | assumption) fun w => ?_
 refine W_seq ?_
 refine W_region ?_
 refine o_as rfl rfl ?_
 refine Ops_nil ?_
 refine W_seq ?_
 refine W_seq ?_
 refine W_region ?_
 refine o_mv rfl rfl ?_
 refine Ops_q (q_call en_laws_big rfl (w_laws_big) (Vw.rd m0).v) (lt_dec rfl) ?_
 refine Ops_nil ?_
 refine W_cond rfl (fun h1 => ?_) (fun h1 => ?_)
 ·try simp only [bs] at h1
  refine W_seq ?_
  refine W_region ?_
  refine o_as rfl rfl ?_
  refine Ops_nil ?_
  refine W_ret ?_
  refine Exists.intro _ (And.intro (.cons (.tmp rfl) .nil) ?_)
  rfl
 ·try simp only [bs] at h1
  have hc : code.length ≤ 4096 := (by omega)
  refine W_skip ?_
  refine W_seq ?_
  refine W_region ?_
  refine o_mv rfl rfl ?_
  refine Ops_x rfl (x_callT en_spec_DrawGroupOrder rfl (w_spec_DrawGroupOrder hc) HpDels.nil (Vw.rd m0) (fun _ => (HpDels.cons HpDel.head HpDels.nil)) (lt_dec rfl) fun x44_1 hx44 => ?_)
  refine o_mv rfl rfl ?_
  refine Ops_p (p_extract rfl rfl) (lt_dec rfl) ?_
  refine Ops_p (p_extract rfl rfl) (lt_dec rfl) ?_
  refine o_as rfl rfl ?_
  refine o_as rfl rfl ?_
  refine Ops_nil ?_
  refine W_seq ?_
  refine W_region ?_
  refine o_mv rfl rfl ?_
  refine o_mv rfl rfl ?_
  refine Ops_q (q_call en_impl_GroupOrder rfl (w_impl_GroupOrder (by omega)) (Vw.rdO m0).v) (lt_dec rfl) ?_
  refine o_mv rfl rfl ?_
  refine Ops_p (p_extract rfl rfl) (lt_dec rfl) ?_
  refine Ops_p (p_extract rfl rfl) (lt_dec rfl) ?_
  refine o_as rfl rfl ?_
  refine o_as rfl rfl ?_
  refine Ops_nil ?_
  refine W_seq ?_
  refine W_seq ?_
  refine W_region ?_
  refine o_mv rfl rfl ?_
  refine o_mv rfl rfl ?_
  refine Ops_q (q_call en_spec_GroupOrder rfl (w_spec_GroupOrder (by omega)) (Vw.rdO m0).v) (lt_dec rfl) ?_
  refine o_mv rfl rfl ?_
  refine Ops_p (p_extract rfl rfl) (lt_dec rfl) ?_
  refine Ops_p (p_extract rfl rfl) (lt_dec rfl) ?_
  refine o_as rfl rfl ?_
  refine o_as rfl rfl ?_
  refine Ops_nil ?_
  refine W_seq ?_
  refine W_region ?_
  refine o_mv rfl rfl ?_
  refine o_mv rfl rfl ?_
  refine Ops_p (p_neq rfl rfl) (lt_dec rfl) ?_
  refine o_mv rfl rfl ?_
  refine Ops_guard rfl rfl (lt_dec rfl) (fun hg1 => ?_) (fun hg1 => ?_)
  ·try simp only [bs] at hg1
   refine o_mv rfl rfl ?_
   refine Ops_guard_t rfl rfl (lt_dec rfl) ?_
   refine o_mv rfl rfl ?_
   refine Ops_guard_t rfl rfl (lt_dec rfl) ?_
   refine Ops_p (p_neq rfl rfl) (lt_dec rfl) ?_
   refine Ops_p (p_pick_f rfl rfl) (lt_dec rfl) ?_
   refine Ops_nil ?_
   refine W_cond rfl (fun h2 => ?_) (fun h2 => ?_)
   ·try simp only [bs] at h2
    exfalso; exact h2 (by first | rfl | trivial)
   ·try simp only [bs] at h2
    refine W_skip ?_
    refine W_seq ?_
    refine W_region ?_
    refine o_mv rfl rfl ?_
    refine Ops_x rfl (x_callT en_spec_DrawInGroup rfl (w_spec_DrawInGroup hc) HpDels.nil (Vw.rd m1) (fun _ => (HpDels.cons HpDel.head HpDels.nil)) (lt_dec rfl) fun x69_1 hx69 => ?_)
    refine o_mv rfl rfl ?_
    refine Ops_p (p_extract rfl rfl) (lt_dec rfl) ?_
    refine Ops_p (p_extract rfl rfl) (lt_dec rfl) ?_
    refine Ops_p (p_extract rfl rfl) (lt_dec rfl) ?_
    refine Ops_x rfl (x_alloc rfl (lt_dec rfl) fun b11_1 => ?_)
    refine o_as rfl rfl ?_
    refine o_as rfl rfl ?_
    refine Ops_x rfl (x_store rfl rfl rfl rfl rfl HpRep.head rfl (by first | trivial | (first | (first | omega | (dsimp only; omega)) | exact Fin.isLt _)) ?_)
    refine Ops_nil ?_
    refine W_seq ?_
    refine W_region ?_
    refine o_mv rfl rfl ?_
    refine o_mv rfl rfl ?_
    refine Ops_q (q_load rfl rfl m0 rfl (by first | exact True.intro | omega | exact Fin.isLt _ | trivial | (dsimp only; omega))) (lt_dec rfl) ?_
    refine Ops_q (q_call en_impl_InGroup rfl (w_impl_InGroup (by omega)) (Vw.rdO m1).v) (lt_dec rfl) ?_
    refine o_mv rfl rfl ?_
    refine Ops_p (p_extract rfl rfl) (lt_dec rfl) ?_
    refine Ops_p (p_extract rfl rfl) (lt_dec rfl) ?_
    refine o_as rfl rfl ?_
    refine o_as rfl rfl ?_
    refine Ops_nil ?_
    refine W_seq ?_
    refine W_seq ?_
    refine W_region ?_
    refine o_mv rfl rfl ?_
    refine o_mv rfl rfl ?_
    refine Ops_q (q_load rfl rfl m0 rfl (by first | exact True.intro | omega | exact Fin.isLt _ | trivial | (dsimp only; omega))) (lt_dec rfl) ?_
    refine Ops_q (q_call en_spec_InGroup rfl (w_spec_InGroup (by omega)) (Vw.rdO m1).v) (lt_dec rfl) ?_
    refine o_mv rfl rfl ?_
    refine Ops_p (p_extract rfl rfl) (lt_dec rfl) ?_
    refine Ops_p (p_extract rfl rfl) (lt_dec rfl) ?_
    refine o_as rfl rfl ?_
    refine o_as rfl rfl ?_
    refine Ops_nil ?_
    refine W_seq ?_
    refine W_region ?_
    refine o_mv rfl rfl ?_
    refine o_mv rfl rfl ?_
    refine Ops_p (p_neq rfl rfl) (lt_dec rfl) ?_
    refine o_mv rfl rfl ?_
    refine Ops_guard rfl rfl (lt_dec rfl) (fun hg2 => ?_) (fun hg2 => ?_)
    ·try simp only [bs] at hg2
     refine o_mv rfl rfl ?_
     refine Ops_guard_t rfl rfl (lt_dec rfl) ?_
     refine o_mv rfl rfl ?_
     refine Ops_guard_t rfl rfl (lt_dec rfl) ?_
     refine Ops_p (p_neq_b rfl rfl rfl) (lt_dec rfl) ?_
     refine Ops_p (p_pick_f rfl rfl) (lt_dec rfl) ?_
     refine Ops_nil ?_
     refine W_cond rfl (fun h3 => ?_) (fun h3 => ?_)
     ·try simp only [bs] at h3
      exfalso; exact h3 (by first | rfl | trivial)
     ·try simp only [bs] at h3
      refine W_skip ?_
      refine W_seq ?_
      refine W_region ?_
      refine o_mv rfl rfl ?_
      refine o_mv rfl rfl ?_
      refine Ops_x rfl (x_callT en_impl_OrbitsOf rfl (w_impl_OrbitsOf (by omega)) HpDels.nil (Vw.rdO m2) (fun _ => (HpDels.cons HpDel.head HpDels.nil)) (lt_dec rfl) fun x98_1 hx98_1 => ?_)
      refine o_mv rfl rfl ?_
      refine Ops_p (p_extract rfl rfl) (lt_dec rfl) ?_
      refine Ops_p (p_extract rfl rfl) (lt_dec rfl) ?_
      refine o_as rfl rfl ?_
      refine o_as rfl rfl ?_
      refine Ops_nil ?_
      refine W_seq ?_
      refine W_seq ?_
      refine W_region ?_
      refine o_mv rfl rfl ?_
      refine o_mv rfl rfl ?_
      refine Ops_x rfl (x_callT en_spec_OrbitsOf rfl (w_spec_OrbitsOf (by omega)) HpDels.nil (Vw.rdO m3) (fun _ => (HpDels.cons HpDel.head HpDels.nil)) (lt_dec rfl) fun x104_1 hx104_1 => ?_)
      refine o_mv rfl rfl ?_
      refine Ops_p (p_extract rfl rfl) (lt_dec rfl) ?_
      refine Ops_p (p_extract rfl rfl) (lt_dec rfl) ?_
      refine o_as rfl rfl ?_
      refine o_as rfl rfl ?_
      refine Ops_nil ?_
      refine W_seq ?_
      refine W_region ?_
      refine o_mv rfl rfl ?_
      refine o_mv rfl rfl ?_
      refine Ops_p (p_neq rfl rfl) (lt_dec rfl) ?_
      refine o_mv rfl rfl ?_
      refine Ops_guard rfl rfl (lt_dec rfl) (fun hg3 => ?_) (fun hg3 => ?_)
      ·try simp only [bs] at hg3
       refine o_mv rfl rfl ?_
       refine Ops_guard_t rfl rfl (lt_dec rfl) ?_
       refine o_mv rfl rfl ?_
       refine Ops_guard_t rfl rfl (lt_dec rfl) ?_
       refine Ops_q (q_call en_laws_lists9 rfl (w_laws_lists9 (hx98_1.trans hx104_1.symm) (by rw [snd_cnt hx98_1]; exact Nat.le_trans (orbS_b _ _).1 (by omega)) (fun i => Nat.le_trans (len_getD hx98_1 (orbS_b _ _).2 i) (by omega))) (View.cons (Vw.rssO m1).v (Vw.rssO m0).v rfl rfl)) (lt_dec rfl) ?_
       refine Ops_guard_t rfl rfl (lt_dec rfl) ?_
       refine Ops_p (p_not rfl) (lt_dec rfl) ?_
       refine Ops_p (p_pick_f rfl rfl) (lt_dec rfl) ?_
       refine Ops_nil ?_
       refine W_false rfl ?_
       refine W_skip ?_
       refine W_seq ?_
       refine W_region ?_
       refine o_mv rfl rfl ?_
       refine Ops_x rfl (x_callT en_spec_DrawLeastBlock rfl (w_spec_DrawLeastBlock hc) HpDels.nil (Vw.rd m5) (fun _ => (HpDels.cons HpDel.head HpDels.nil)) (lt_dec rfl) fun x118_1 hx118 => ?_)
       refine o_mv rfl rfl ?_
       refine Ops_p (p_extract rfl rfl) (lt_dec rfl) ?_
       refine Ops_p (p_extract rfl rfl) (lt_dec rfl) ?_
       refine Ops_p (p_extract rfl rfl) (lt_dec rfl) ?_
       refine Ops_p (p_extract rfl rfl) (lt_dec rfl) ?_
       refine o_as rfl rfl ?_
       refine o_as rfl rfl ?_
       refine o_as rfl rfl ?_
       refine o_as rfl rfl ?_
       refine Ops_nil ?_
       refine W_seq ?_
       refine W_region ?_
       refine o_mv rfl rfl ?_
       refine o_mv rfl rfl ?_
       refine o_mv rfl rfl ?_
       refine o_mv rfl rfl ?_
       refine Ops_x rfl (x_callT en_impl_LeastBlock rfl (w_impl_LeastBlock (by omega)) HpDels.nil (Vw.rdO m0) (fun _ => (HpDels.cons HpDel.head HpDels.nil)) (lt_dec rfl) fun x128_1 _ => ?_)
       refine o_mv rfl rfl ?_
       refine Ops_p (p_extract rfl rfl) (lt_dec rfl) ?_
       refine Ops_p (p_extract rfl rfl) (lt_dec rfl) ?_
       refine o_as rfl rfl ?_
       refine o_as rfl rfl ?_
       refine Ops_nil ?_
       refine W_cut2 (fun E s' => (True) ∧ Wk E s' ⟨[(0, .raw cv hcv), (4, .int .i64 (Prod.snd (Prod.snd x44_1))), (5, .int .i64 (goV (Prod.fst (Prod.snd x44_1)) (Prod.snd (Prod.snd x44_1)))), (6, .int .i64 (psC (Prod.fst (Prod.snd x44_1)) (Prod.snd (Prod.snd x44_1)))), (9, .raw (Subtype.val (Prod.fst x69_1)) (Subtype.property (Prod.fst x69_1))), (10, .int .i64 (Prod.fst (Prod.snd (Prod.snd x69_1)))), (11, .ptr b11_1 0 none), (12, .bool (inV (Prod.fst (Prod.snd x69_1)) (Prod.fst (Prod.snd (Prod.snd x69_1))) (Prod.snd (Prod.snd (Prod.snd x69_1))))), (13, .int .i64 (inK (Prod.fst (Prod.snd x69_1)) (Prod.fst (Prod.snd (Prod.snd x69_1))) (Prod.snd (Prod.snd (Prod.snd x69_1))))), (16, .raw x98_1.1.1 x98_1.1.2)], [oss x98_1.1.1 48 2 x98_1.2, .var b11_1 (.arr8 10 (Prod.snd (Prod.snd (Prod.snd x69_1)))), own (Subtype.val (Prod.fst x69_1)) 33 (.arrs 10 (Prod.fst (Prod.snd x69_1))), rd cv (.u8s code)]⟩) ?_ ?_
       ·refine W_seq ?_
        refine W_region ?_
        refine o_mv rfl rfl ?_
        refine o_mv rfl rfl ?_
        refine o_mv rfl rfl ?_
        refine o_mv rfl rfl ?_
        refine Ops_x rfl (x_callT en_spec_LeastBlock rfl (w_spec_LeastBlock (by omega)) HpDels.nil (Vw.rdO m1) (fun _ => (HpDels.cons HpDel.head HpDels.nil)) (lt_dec rfl) fun x136_1 _ => ?_)
        refine o_mv rfl rfl ?_
        refine Ops_p (p_extract rfl rfl) (lt_dec rfl) ?_
        refine Ops_p (p_extract rfl rfl) (lt_dec rfl) ?_
        refine o_as rfl rfl ?_
        refine o_as rfl rfl ?_
        refine Ops_nil ?_
        refine W_seq ?_
        refine W_region ?_
        refine o_mv rfl rfl ?_
        refine o_mv rfl rfl ?_
        refine Ops_p (p_neq rfl rfl) (lt_dec rfl) ?_
        refine o_mv rfl rfl ?_
        refine Ops_guard rfl rfl (lt_dec rfl) (fun hg4 => ?_) (fun hg4 => ?_)
        ·try simp only [bs] at hg4
         refine o_mv rfl rfl ?_
         refine Ops_guard_t rfl rfl (lt_dec rfl) ?_
         refine o_mv rfl rfl ?_
         refine Ops_guard_t rfl rfl (lt_dec rfl) ?_
         refine Ops_q (q_call en_laws_likeInts rfl (w_laws_likeInts lbL_len) (View.cons (Vw.rdO m1).v (Vw.rdO m0).v rfl rfl)) (lt_dec rfl) ?_
         refine Ops_guard_t rfl rfl (lt_dec rfl) ?_
         refine Ops_p (p_not rfl) (lt_dec rfl) ?_
         refine Ops_p (p_pick_f rfl rfl) (lt_dec rfl) ?_
         refine Ops_nil ?_
         refine W_false rfl ?_
         refine W_skip ?_
         refine W_seq ?_
         refine W_region ?_
         refine o_mv rfl rfl ?_
         refine Ops_p (p_eql rfl rfl) (lt_dec rfl) ?_
         refine o_mv rfl rfl ?_
         refine Ops_guard rfl rfl (lt_dec rfl) (fun hg5 => ?_) (fun hg5 => ?_)
         ·try simp only [bs] at hg5
          refine o_mv rfl rfl ?_
          refine Ops_guard_t rfl rfl (lt_dec rfl) ?_
          refine o_mv rfl rfl ?_
          refine Ops_guard_t rfl rfl (lt_dec rfl) ?_
          refine Ops_q ((q_lenR rfl rfl rfl (Rds.own m1)).eq (d' := .int .i64 (((lbL (Prod.fst (Prod.snd x118_1)) (Prod.fst (Prod.snd (Prod.snd x118_1))) (Prod.fst (Prod.snd (Prod.snd (Prod.snd x118_1)))) (Prod.snd (Prod.snd (Prod.snd (Prod.snd x118_1))))).length : Nat) : Int)) rfl) (lt_dec rfl) ?_
          refine Ops_guard_t rfl rfl (lt_dec rfl) ?_
          refine Ops_p ((p_rem rfl rfl (by omega) (lb_dvd (by assumption)).1).eq (d' := .int .i64 0) (veq_int (lb_dvd (by assumption)).2)) (lt_dec rfl) ?_
          refine Ops_guard_t rfl rfl (lt_dec rfl) ?_
          refine Ops_p (p_neq rfl rfl) (lt_dec rfl) ?_
          refine Ops_p (p_pick_t rfl rfl) (lt_dec rfl) ?_
          refine Ops_nil ?_
          refine W_cond rfl (fun h4 => ?_) (fun h4 => ?_)
          ·try simp only [bs] at h4
           exfalso; first | omega | exact absurd h4 (by decide)
          ·try simp only [bs] at h4
           refine W_skip ?_
           refine ⟨?_, ?_⟩
           ·trivial
           ·exact Wk.intro (.c rfl (.c rfl (.c rfl (.c rfl (.c rfl (.c rfl (.c rfl (.c rfl (.c rfl (.c rfl .nil)))))))))) (.drop (.drop (.drop (.drop (.keep rfl rfl (fun _ h => h) (.keep rfl rfl (fun _ h => h) (.keep rfl rfl (fun _ h => h) (.drop (.keep rfl rfl (fun _ h => h) .nil)))))))))
         ·try simp only [bs] at hg5
          refine Ops_guard_f rfl rfl rfl (lt_dec rfl) ?_
          refine Ops_guard_f rfl rfl rfl (lt_dec rfl) ?_
          refine Ops_guard_f rfl rfl rfl (lt_dec rfl) ?_
          refine Ops_guard_f rfl rfl rfl (lt_dec rfl) ?_
          refine Ops_p (p_pick_f rfl rfl) (lt_dec rfl) ?_
          refine Ops_nil ?_
          refine W_false rfl ?_
          refine W_skip ?_
          refine ⟨?_, ?_⟩
          ·trivial
          ·exact Wk.intro (.c rfl (.c rfl (.c rfl (.c rfl (.c rfl (.c rfl (.c rfl (.c rfl (.c rfl (.c rfl .nil)))))))))) (.drop (.drop (.drop (.drop (.keep rfl rfl (fun _ h => h) (.keep rfl rfl (fun _ h => h) (.keep rfl rfl (fun _ h => h) (.drop (.keep rfl rfl (fun _ h => h) .nil)))))))))
        ·try simp only [bs] at hg4
         refine Ops_guard_f rfl rfl rfl (lt_dec rfl) ?_
         refine Ops_guard_f rfl rfl rfl (lt_dec rfl) ?_
         refine Ops_guard_f rfl rfl rfl (lt_dec rfl) ?_
         refine Ops_p (p_pick_t rfl rfl) (lt_dec rfl) ?_
         refine Ops_nil ?_
         refine W_true rfl ?_
         refine W_seq ?_
         refine W_region ?_
         refine o_as rfl rfl ?_
         refine Ops_nil ?_
         refine W_ret ?_
         refine Exists.intro _ (And.intro (.cons (.tmp rfl) .nil) ?_)
         refine veq_bool ?_; first | (simp_all; done) | omega
       ·rintro s' ⟨_, hw⟩
        refine W_wk hw ?_
        clear hw s'
        refine W_seq ?_
        refine W_region ?_
        refine o_mv rfl rfl ?_
        refine Ops_x rfl (x_callT en_spec_DrawIsPrimitive rfl (w_spec_DrawIsPrimitive hc) HpDels.nil (Vw.rd m3) (fun _ => (HpDels.cons HpDel.head HpDels.nil)) (lt_dec rfl) fun x159_1 hx159 => ?_)
        refine o_mv rfl rfl ?_
        refine Ops_p (p_extract rfl rfl) (lt_dec rfl) ?_
        refine Ops_p (p_extract rfl rfl) (lt_dec rfl) ?_
        refine o_as rfl rfl ?_
        refine o_as rfl rfl ?_
        refine Ops_nil ?_
        refine W_seq ?_
        refine W_region ?_
        refine o_mv rfl rfl ?_
        refine o_mv rfl rfl ?_
        refine Ops_q (q_call en_impl_IsPrimitive rfl (w_impl_IsPrimitive (by omega)) (Vw.rdO m0).v) (lt_dec rfl) ?_
        refine o_mv rfl rfl ?_
        refine Ops_p (p_extract rfl rfl) (lt_dec rfl) ?_
        refine Ops_p (p_extract rfl rfl) (lt_dec rfl) ?_
        refine o_as rfl rfl ?_
        refine o_as rfl rfl ?_
        refine Ops_nil ?_
        refine W_cut2 (fun E s' => (True) ∧ Wk E s' ⟨[(0, .raw cv hcv), (4, .int .i64 (Prod.snd (Prod.snd x44_1))), (5, .int .i64 (goV (Prod.fst (Prod.snd x44_1)) (Prod.snd (Prod.snd x44_1)))), (6, .int .i64 (psC (Prod.fst (Prod.snd x44_1)) (Prod.snd (Prod.snd x44_1)))), (16, .raw x98_1.1.1 x98_1.1.2)], [oss x98_1.1.1 48 2 x98_1.2]⟩) ?_ ?_
        ·refine W_seq ?_
         refine W_region ?_
         refine o_mv rfl rfl ?_
         refine o_mv rfl rfl ?_
         refine Ops_q (q_call en_spec_IsPrimitive rfl (w_spec_IsPrimitive (by omega)) (Vw.rdO m0).v) (lt_dec rfl) ?_
         refine o_mv rfl rfl ?_
         refine Ops_p (p_extract rfl rfl) (lt_dec rfl) ?_
         refine Ops_p (p_extract rfl rfl) (lt_dec rfl) ?_
         refine o_as rfl rfl ?_
         refine o_as rfl rfl ?_
         refine Ops_nil ?_
         refine W_seq ?_
         refine W_region ?_
         refine o_mv rfl rfl ?_
         refine o_mv rfl rfl ?_
         refine Ops_p (p_neq rfl rfl) (lt_dec rfl) ?_
         refine o_mv rfl rfl ?_
         refine Ops_guard rfl rfl (lt_dec rfl) (fun hg6 => ?_) (fun hg6 => ?_)
         ·try simp only [bs] at hg6
          refine o_mv rfl rfl ?_
          refine Ops_guard_t rfl rfl (lt_dec rfl) ?_
          refine o_mv rfl rfl ?_
          refine Ops_guard_t rfl rfl (lt_dec rfl) ?_
          refine Ops_p (p_neq_b rfl rfl rfl) (lt_dec rfl) ?_
          refine Ops_p (p_pick_f rfl rfl) (lt_dec rfl) ?_
          refine Ops_nil ?_
          refine W_cond rfl (fun h5 => ?_) (fun h5 => ?_)
          ·try simp only [bs] at h5
           exfalso; exact h5 (by first | rfl | trivial)
          ·try simp only [bs] at h5
           refine W_skip ?_
           refine W_seq ?_
           refine W_region ?_
           refine o_mv rfl rfl ?_
           refine Ops_p (p_eql rfl rfl) (lt_dec rfl) ?_
           refine Ops_nil ?_
           refine W_cond rfl (fun h6 => ?_) (fun h6 => ?_)
           ·try simp only [bs] at h6
            have hk0 : inK (Prod.fst (Prod.snd x69_1)) (Prod.fst (Prod.snd (Prod.snd x69_1))) (Prod.snd (Prod.snd (Prod.snd x69_1))) = 0 := h6; have hfp := go_pos (inK_ok hk0).1
            refine W_seq ?_
            refine W_region ?_
            refine o_mv rfl rfl ?_
            refine o_mv rfl rfl ?_
            refine Ops_q (q_call en_impl_GroupOrder rfl (w_impl_GroupOrder (by omega)) (Vw.rdO m3).v) (lt_dec rfl) ?_
            refine o_mv rfl rfl ?_
            refine Ops_p (p_extract rfl rfl) (lt_dec rfl) ?_
            refine Ops_p ((p_extract rfl rfl).eq (d' := .int .i64 0) (veq_int (inK_ok hk0).1)) (lt_dec rfl) ?_
            refine o_as rfl rfl ?_
            refine o_as rfl rfl ?_
            refine Ops_nil ?_
            refine W_seq ?_
            refine W_seq ?_
            refine W_region ?_
            refine o_mv rfl rfl ?_
            refine Ops_p (p_neq rfl rfl) (lt_dec rfl) ?_
            refine o_mv rfl rfl ?_
            refine Ops_guard rfl rfl (lt_dec rfl) (fun hg7 => ?_) (fun hg7 => ?_)
            ·try simp only [bs] at hg7
             refine o_mv rfl rfl ?_
             refine Ops_guard_t rfl rfl (lt_dec rfl) ?_
             refine Ops_p (p_lss rfl rfl) (lt_dec rfl) ?_
             refine Ops_p (p_pick_f rfl rfl) (lt_dec rfl) ?_
             refine Ops_nil ?_
             refine W_cond rfl (fun h7 => ?_) (fun h7 => ?_)
             ·try simp only [bs] at h7
              exfalso; omega
             ·try simp only [bs] at h7
              refine W_skip ?_
              refine W_seq ?_
              refine W_region ?_
              refine o_mv rfl rfl ?_
              refine Ops_q ((q_lenR rfl rfl rfl (Rds.own m3)).eq (d' := .int .i64 (((Prod.fst (Prod.snd x69_1)).length : Nat) : Int)) rfl) (lt_dec rfl) ?_
              refine Ops_p (p_lss rfl rfl) (lt_dec rfl) ?_
              refine Ops_nil ?_
              refine W_cond rfl (fun h8 => ?_) (fun h8 => ?_)
              ·try simp only [bs] at h8
               have hgm := go_more hk0 (by omega)
               refine W_seq ?_
               refine W_draw (by kernel_rfl) ?_
               show RA _ _ 13 _ _ _
               refine RA_take 1 rfl rfl rfl (by kernel_rfl) (by kernel_rfl) (by kernel_rfl) (p_move rfl) (lt_dec rfl) ?_
               refine RA_take 6 rfl rfl rfl (by kernel_rfl) (by kernel_rfl) (by kernel_rfl) (p_move rfl) (lt_dec rfl) ?_
               refine RA_two 0 3 rfl rfl rfl rfl (by kernel_rfl) ?_ ?_
               ·refine x_buildSlice rfl rfl rfl rfl rfl rfl rfl rfl (Nat.le_of_ble_eq_true rfl) (lt_dec rfl) fun b200_1 => ?_
                refine RA_two 2 3 rfl rfl rfl rfl (by kernel_rfl) ?_ ?_
                ·refine x_appendZr (t := 200) (r := .arrs 10 []) (r2 := .arrs 10 (Prod.fst (Prod.snd x69_1))) (q := .arrs 10 ([] ++ (Prod.fst (Prod.snd x69_1)))) rfl rfl rfl rfl rfl rfl rfl (Rds.own m4) rfl rfl (HpDels.cons HpDel.head HpDels.nil) (fun _ => (HpDels.cons HpDel.head HpDels.nil)) (by show (0 + List.length _) * 10 ≤ _; omega) (by show 0 + List.length _ ≤ _; omega) (lt_dec rfl) fun v202 => ?_
                 refine RA_quiet (g := 8) [3] (by kernel_rfl) (by kernel_rfl) (by kernel_rfl) (by kernel_rfl) ?_
                 refine WQ_cons rfl rfl rfl ((q_load rfl rfl m3 rfl (by first | exact True.intro | omega | exact Fin.isLt _ | trivial | (dsimp only; omega)))) (lt_dec rfl) ?_
                 refine WQ_nil ?_
                 refine RA_one 4 rfl rfl (by kernel_rfl) (x_buildSlice rfl rfl rfl rfl rfl rfl rfl rfl (Nat.le_of_ble_eq_true rfl) (lt_dec rfl) fun b204_1 => ?_)
                 refine RA_one 5 rfl rfl (by kernel_rfl) (x_appendO (r := .arrs 10 ([] ++ (Prod.fst (Prod.snd x69_1)))) (r2 := .arrs 10 [Prod.snd (Prod.snd (Prod.snd x69_1))]) (q := .arrs 10 (([] ++ (Prod.fst (Prod.snd x69_1))) ++ [Prod.snd (Prod.snd (Prod.snd x69_1))])) rfl rfl rfl rfl rfl rfl (Rds.row m0 rfl) rfl (by show 0 < 1; omega) rfl (HpDels.cons (HpDel.head).tail HpDels.nil) (fun _ => (HpDels.cons (HpDel.head).tail HpDels.nil)) (by show (List.length _ + List.length _) * 10 ≤ _; simp only [List.length_cons, List.length_nil, List.nil_append]; omega) (by show List.length _ + List.length _ ≤ _; simp only [List.length_cons, List.length_nil, List.nil_append]; omega) (lt_dec rfl) fun v205 => ?_)
                 refine RA_quiet (g := 0) [7, 8, 9, 10, 11, 12] (by kernel_rfl) (by kernel_rfl) (by kernel_rfl) (by kernel_rfl) ?_
                 refine WQ_cons rfl rfl rfl ((q_call en_impl_GroupOrder rfl (w_impl_GroupOrder (l := ((Prod.fst (Prod.snd x69_1)) ++ [(Prod.snd (Prod.snd (Prod.snd x69_1)))])) (by simp only [List.length_append, List.length_cons, List.length_nil]; omega)) (Vw.rdO m1).v)) (lt_dec rfl) ?_
                 refine WQ_cons rfl rfl rfl ((p_move rfl).q) (lt_dec rfl) ?_
                 refine WQ_cons rfl rfl rfl ((p_extract rfl rfl).q) (lt_dec rfl) ?_
                 refine WQ_cons rfl rfl rfl (((p_extract rfl rfl).eq (d' := .int .i64 0) (veq_int hgm.2.1)).q) (lt_dec rfl) ?_
                 refine WQ_cons rfl rfl rfl ((p_assign rfl).q) (lt_dec rfl) ?_
                 refine WQ_cons rfl rfl rfl ((p_assign rfl).q) (lt_dec rfl) ?_
                 refine WQ_nil ?_
                 refine RA_done (by kernel_rfl) ?_
                 refine W_seq ?_
                 refine W_region ?_
                 refine o_mv rfl rfl ?_
                 refine Ops_p (p_neq rfl rfl) (lt_dec rfl) ?_
                 refine o_mv rfl rfl ?_
                 refine Ops_guard rfl rfl (lt_dec rfl) (fun hg8 => ?_) (fun hg8 => ?_)
                 ·try simp only [bs] at hg8
                  refine o_mv rfl rfl ?_
                  refine Ops_guard_t rfl rfl (lt_dec rfl) ?_
                  refine o_mv rfl rfl ?_
                  refine Ops_guard_t rfl rfl (lt_dec rfl) ?_
                  refine Ops_p ((p_rem rfl rfl goV_le (by omega)).eq (d' := .int .i64 0) (veq_int hgm.2.2.2.1)) (lt_dec rfl) ?_
                  refine Ops_guard_t rfl rfl (lt_dec rfl) ?_
                  refine Ops_p (p_neq rfl rfl) (lt_dec rfl) ?_
                  refine Ops_p (p_pick_f rfl rfl) (lt_dec rfl) ?_
                  refine o_mv rfl rfl ?_
                  refine Ops_guard rfl rfl (lt_dec rfl) (fun hg9 => ?_) (fun hg9 => ?_)
                  ·try simp only [bs] at hg9
                   refine o_mv rfl rfl ?_
                   refine Ops_guard_t rfl rfl (lt_dec rfl) ?_
                   refine o_mv rfl rfl ?_
                   refine Ops_guard_t rfl rfl (lt_dec rfl) ?_
                   refine Ops_p ((p_eql rfl rfl).eq (d' := .bool (inV (Prod.fst (Prod.snd x69_1)) (Prod.fst (Prod.snd (Prod.snd x69_1))) (Prod.snd (Prod.snd (Prod.snd x69_1))))) (veq_bool hgm.2.2.2.2)) (lt_dec rfl) ?_
                   refine Ops_guard_t rfl rfl (lt_dec rfl) ?_
                   refine o_mv rfl rfl ?_
                   refine Ops_guard_t rfl rfl (lt_dec rfl) ?_
                   refine Ops_p (p_neq_b rfl rfl rfl) (lt_dec rfl) ?_
                   refine Ops_p (p_pick_f rfl rfl) (lt_dec rfl) ?_
                   refine Ops_nil ?_
                   refine W_cond rfl (fun h9 => ?_) (fun h9 => ?_)
                   ·try simp only [bs] at h9
                    exfalso; exact h9 (by first | rfl | trivial)
                   ·try simp only [bs] at h9
                    refine W_skip ?_
                    refine ⟨?_, ?_⟩
                    ·trivial
                    ·exact Wk.intro (.c rfl (.c rfl (.c rfl (.c rfl (.c rfl .nil))))) (.drop (.drop (.drop (.keep rfl rfl (fun _ h => h) .nil))))
                  ·try simp only [bs] at hg9
                   refine Ops_guard_f rfl rfl rfl (lt_dec rfl) ?_
                   refine Ops_guard_f rfl rfl rfl (lt_dec rfl) ?_
                   refine Ops_guard_f rfl rfl rfl (lt_dec rfl) ?_
                   refine Ops_guard_f rfl rfl rfl (lt_dec rfl) ?_
                   refine Ops_p (p_pick_t rfl rfl) (lt_dec rfl) ?_
                   refine Ops_nil ?_
                   refine W_true rfl ?_
                   refine W_seq ?_
                   refine W_region ?_
                   refine o_as rfl rfl ?_
                   refine Ops_nil ?_
                   refine W_ret ?_
                   refine Exists.intro _ (And.intro (.cons (.tmp rfl) .nil) ?_)
                   refine veq_bool ?_; first | (simp_all; done) | omega
                 ·try simp only [bs] at hg8
                  refine Ops_guard_f rfl rfl rfl (lt_dec rfl) ?_
                  refine Ops_guard_f rfl rfl rfl (lt_dec rfl) ?_
                  refine Ops_guard_f rfl rfl rfl (lt_dec rfl) ?_
                  refine Ops_p (p_pick_t rfl rfl) (lt_dec rfl) ?_
                  refine o_mv rfl rfl ?_
                  refine Ops_guard_f rfl rfl rfl (lt_dec rfl) ?_
                  refine Ops_guard_f rfl rfl rfl (lt_dec rfl) ?_
                  refine Ops_guard_f rfl rfl rfl (lt_dec rfl) ?_
                  refine Ops_guard_f rfl rfl rfl (lt_dec rfl) ?_
                  refine Ops_guard_f rfl rfl rfl (lt_dec rfl) ?_
                  refine Ops_p (p_pick_t rfl rfl) (lt_dec rfl) ?_
                  refine Ops_nil ?_
                  refine W_true rfl ?_
                  refine W_seq ?_
                  refine W_region ?_
                  refine o_as rfl rfl ?_
                  refine Ops_nil ?_
                  refine W_ret ?_
                  refine Exists.intro _ (And.intro (.cons (.tmp rfl) .nil) ?_)
                  refine veq_bool ?_; first | (simp_all; done) | omega
                ·refine Xt_of_Qt rfl (lt_dec rfl) ((q_load rfl rfl m3 rfl (by first | exact True.intro | omega | exact Fin.isLt _ | trivial | (dsimp only; omega)))) ?_
                 refine RA_two 2 4 rfl rfl rfl rfl (by kernel_rfl) ?_ ?_
                 ·refine x_appendZr (t := 200) (r := .arrs 10 []) (r2 := .arrs 10 (Prod.fst (Prod.snd x69_1))) (q := .arrs 10 ([] ++ (Prod.fst (Prod.snd x69_1)))) rfl rfl rfl rfl rfl rfl rfl (Rds.own m4) rfl rfl (HpDels.cons HpDel.head HpDels.nil) (fun _ => (HpDels.cons HpDel.head HpDels.nil)) (by show (0 + List.length _) * 10 ≤ _; omega) (by show 0 + List.length _ ≤ _; omega) (lt_dec rfl) fun v202 => ?_
                  refine RA_one 4 rfl rfl (by kernel_rfl) (x_buildSlice rfl rfl rfl rfl rfl rfl rfl rfl (Nat.le_of_ble_eq_true rfl) (lt_dec rfl) fun b204_2 => ?_)
                  refine RA_one 5 rfl rfl (by kernel_rfl) (x_appendO (r := .arrs 10 ([] ++ (Prod.fst (Prod.snd x69_1)))) (r2 := .arrs 10 [Prod.snd (Prod.snd (Prod.snd x69_1))]) (q := .arrs 10 (([] ++ (Prod.fst (Prod.snd x69_1))) ++ [Prod.snd (Prod.snd (Prod.snd x69_1))])) rfl rfl rfl rfl rfl rfl (Rds.row m0 rfl) rfl (by show 0 < 1; omega) rfl (HpDels.cons (HpDel.head).tail HpDels.nil) (fun _ => (HpDels.cons (HpDel.head).tail HpDels.nil)) (by show (List.length _ + List.length _) * 10 ≤ _; simp only [List.length_cons, List.length_nil, List.nil_append]; omega) (by show List.length _ + List.length _ ≤ _; simp only [List.length_cons, List.length_nil, List.nil_append]; omega) (lt_dec rfl) fun v205 => ?_)
                  refine RA_quiet (g := 0) [7, 8, 9, 10, 11, 12] (by kernel_rfl) (by kernel_rfl) (by kernel_rfl) (by kernel_rfl) ?_
                  refine WQ_cons rfl rfl rfl ((q_call en_impl_GroupOrder rfl (w_impl_GroupOrder (l := ((Prod.fst (Prod.snd x69_1)) ++ [(Prod.snd (Prod.snd (Prod.snd x69_1)))])) (by simp only [List.length_append, List.length_cons, List.length_nil]; omega)) (Vw.rdO m1).v)) (lt_dec rfl) ?_
                  refine WQ_cons rfl rfl rfl ((p_move rfl).q) (lt_dec rfl) ?_
                  refine WQ_cons rfl rfl rfl ((p_extract rfl rfl).q) (lt_dec rfl) ?_
                  refine WQ_cons rfl rfl rfl (((p_extract rfl rfl).eq (d' := .int .i64 0) (veq_int hgm.2.1)).q) (lt_dec rfl) ?_
                  refine WQ_cons rfl rfl rfl ((p_assign rfl).q) (lt_dec rfl) ?_
                  refine WQ_cons rfl rfl rfl ((p_assign rfl).q) (lt_dec rfl) ?_
                  refine WQ_nil ?_
                  refine RA_done (by kernel_rfl) ?_
                  refine W_seq ?_
                  refine W_region ?_
                  refine o_mv rfl rfl ?_
                  refine Ops_p (p_neq rfl rfl) (lt_dec rfl) ?_
                  refine o_mv rfl rfl ?_
                  refine Ops_guard rfl rfl (lt_dec rfl) (fun hg10 => ?_) (fun hg10 => ?_)
                  ·try simp only [bs] at hg10
                   refine o_mv rfl rfl ?_
                   refine Ops_guard_t rfl rfl (lt_dec rfl) ?_
                   refine o_mv rfl rfl ?_
                   refine Ops_guard_t rfl rfl (lt_dec rfl) ?_
                   refine Ops_p ((p_rem rfl rfl goV_le (by omega)).eq (d' := .int .i64 0) (veq_int hgm.2.2.2.1)) (lt_dec rfl) ?_
                   refine Ops_guard_t rfl rfl (lt_dec rfl) ?_
                   refine Ops_p (p_neq rfl rfl) (lt_dec rfl) ?_
                   refine Ops_p (p_pick_f rfl rfl) (lt_dec rfl) ?_
                   refine o_mv rfl rfl ?_
                   refine Ops_guard rfl rfl (lt_dec rfl) (fun hg11 => ?_) (fun hg11 => ?_)
                   ·try simp only [bs] at hg11
                    refine o_mv rfl rfl ?_
                    refine Ops_guard_t rfl rfl (lt_dec rfl) ?_
                    refine o_mv rfl rfl ?_
                    refine Ops_guard_t rfl rfl (lt_dec rfl) ?_
                    refine Ops_p ((p_eql rfl rfl).eq (d' := .bool (inV (Prod.fst (Prod.snd x69_1)) (Prod.fst (Prod.snd (Prod.snd x69_1))) (Prod.snd (Prod.snd (Prod.snd x69_1))))) (veq_bool hgm.2.2.2.2)) (lt_dec rfl) ?_
                    refine Ops_guard_t rfl rfl (lt_dec rfl) ?_
                    refine o_mv rfl rfl ?_
                    refine Ops_guard_t rfl rfl (lt_dec rfl) ?_
                    refine Ops_p (p_neq_b rfl rfl rfl) (lt_dec rfl) ?_
                    refine Ops_p (p_pick_f rfl rfl) (lt_dec rfl) ?_
                    refine Ops_nil ?_
                    refine W_cond rfl (fun h10 => ?_) (fun h10 => ?_)
                    ·try simp only [bs] at h10
                     exfalso; exact h10 (by first | rfl | trivial)
                    ·try simp only [bs] at h10
                     refine W_skip ?_
                     refine ⟨?_, ?_⟩
                     ·trivial
                     ·exact Wk.intro (.c rfl (.c rfl (.c rfl (.c rfl (.c rfl .nil))))) (.drop (.drop (.drop (.keep rfl rfl (fun _ h => h) .nil))))
                   ·try simp only [bs] at hg11
                    refine Ops_guard_f rfl rfl rfl (lt_dec rfl) ?_
                    refine Ops_guard_f rfl rfl rfl (lt_dec rfl) ?_
                    refine Ops_guard_f rfl rfl rfl (lt_dec rfl) ?_
                    refine Ops_guard_f rfl rfl rfl (lt_dec rfl) ?_
                    refine Ops_p (p_pick_t rfl rfl) (lt_dec rfl) ?_
                    refine Ops_nil ?_
                    refine W_true rfl ?_
                    refine W_seq ?_
                    refine W_region ?_
                    refine o_as rfl rfl ?_
                    refine Ops_nil ?_
                    refine W_ret ?_
                    refine Exists.intro _ (And.intro (.cons (.tmp rfl) .nil) ?_)
                    refine veq_bool ?_; first | (simp_all; done) | omega
                  ·try simp only [bs] at hg10
                   refine Ops_guard_f rfl rfl rfl (lt_dec rfl) ?_
                   refine Ops_guard_f rfl rfl rfl (lt_dec rfl) ?_
                   refine Ops_guard_f rfl rfl rfl (lt_dec rfl) ?_
                   refine Ops_p (p_pick_t rfl rfl) (lt_dec rfl) ?_
                   refine o_mv rfl rfl ?_
                   refine Ops_guard_f rfl rfl rfl (lt_dec rfl) ?_
                   refine Ops_guard_f rfl rfl rfl (lt_dec rfl) ?_
                   refine Ops_guard_f rfl rfl rfl (lt_dec rfl) ?_
                   refine Ops_guard_f rfl rfl rfl (lt_dec rfl) ?_
                   refine Ops_guard_f rfl rfl rfl (lt_dec rfl) ?_
                   refine Ops_p (p_pick_t rfl rfl) (lt_dec rfl) ?_
                   refine Ops_nil ?_
                   refine W_true rfl ?_
                   refine W_seq ?_
                   refine W_region ?_
                   refine o_as rfl rfl ?_
                   refine Ops_nil ?_
                   refine W_ret ?_
                   refine Exists.intro _ (And.intro (.cons (.tmp rfl) .nil) ?_)
                   refine veq_bool ?_; first | (simp_all; done) | omega
                 ·refine x_buildSlice rfl rfl rfl rfl rfl rfl rfl rfl (Nat.le_of_ble_eq_true rfl) (lt_dec rfl) fun b204_3 => ?_
                  refine RA_one 2 rfl rfl (by kernel_rfl) (x_appendZr (t := 200) (r := .arrs 10 []) (r2 := .arrs 10 (Prod.fst (Prod.snd x69_1))) (q := .arrs 10 ([] ++ (Prod.fst (Prod.snd x69_1)))) rfl rfl rfl rfl rfl rfl rfl (Rds.own m5) rfl rfl (HpDels.cons (HpDel.head).tail HpDels.nil) (fun _ => (HpDels.cons (HpDel.head).tail HpDels.nil)) (by show (0 + List.length _) * 10 ≤ _; omega) (by show 0 + List.length _ ≤ _; omega) (lt_dec rfl) fun v202 => ?_)
                  refine RA_one 5 rfl rfl (by kernel_rfl) (x_appendO (r := .arrs 10 ([] ++ (Prod.fst (Prod.snd x69_1)))) (r2 := .arrs 10 [Prod.snd (Prod.snd (Prod.snd x69_1))]) (q := .arrs 10 (([] ++ (Prod.fst (Prod.snd x69_1))) ++ [Prod.snd (Prod.snd (Prod.snd x69_1))])) rfl rfl rfl rfl rfl rfl (Rds.row m0 rfl) rfl (by show 0 < 1; omega) rfl (HpDels.cons (HpDel.head).tail HpDels.nil) (fun _ => (HpDels.cons (HpDel.head).tail HpDels.nil)) (by show (List.length _ + List.length _) * 10 ≤ _; simp only [List.length_cons, List.length_nil, List.nil_append]; omega) (by show List.length _ + List.length _ ≤ _; simp only [List.length_cons, List.length_nil, List.nil_append]; omega) (lt_dec rfl) fun v205 => ?_)
                  refine RA_quiet (g := 0) [7, 8, 9, 10, 11, 12] (by kernel_rfl) (by kernel_rfl) (by kernel_rfl) (by kernel_rfl) ?_
                  refine WQ_cons rfl rfl rfl ((q_call en_impl_GroupOrder rfl (w_impl_GroupOrder (l := ((Prod.fst (Prod.snd x69_1)) ++ [(Prod.snd (Prod.snd (Prod.snd x69_1)))])) (by simp only [List.length_append, List.length_cons, List.length_nil]; omega)) (Vw.rdO m1).v)) (lt_dec rfl) ?_
                  refine WQ_cons rfl rfl rfl ((p_move rfl).q) (lt_dec rfl) ?_
                  refine WQ_cons rfl rfl rfl ((p_extract rfl rfl).q) (lt_dec rfl) ?_
                  refine WQ_cons rfl rfl rfl (((p_extract rfl rfl).eq (d' := .int .i64 0) (veq_int hgm.2.1)).q) (lt_dec rfl) ?_
                  refine WQ_cons rfl rfl rfl ((p_assign rfl).q) (lt_dec rfl) ?_
                  refine WQ_cons rfl rfl rfl ((p_assign rfl).q) (lt_dec rfl) ?_
                  refine WQ_nil ?_
                  refine RA_done (by kernel_rfl) ?_
                  refine W_seq ?_
                  refine W_region ?_
                  refine o_mv rfl rfl ?_
                  refine Ops_p (p_neq rfl rfl) (lt_dec rfl) ?_
                  refine o_mv rfl rfl ?_
                  refine Ops_guard rfl rfl (lt_dec rfl) (fun hg12 => ?_) (fun hg12 => ?_)
                  ·try simp only [bs] at hg12
                   refine o_mv rfl rfl ?_
                   refine Ops_guard_t rfl rfl (lt_dec rfl) ?_
                   refine o_mv rfl rfl ?_
                   refine Ops_guard_t rfl rfl (lt_dec rfl) ?_
                   refine Ops_p ((p_rem rfl rfl goV_le (by omega)).eq (d' := .int .i64 0) (veq_int hgm.2.2.2.1)) (lt_dec rfl) ?_
                   refine Ops_guard_t rfl rfl (lt_dec rfl) ?_
                   refine Ops_p (p_neq rfl rfl) (lt_dec rfl) ?_
                   refine Ops_p (p_pick_f rfl rfl) (lt_dec rfl) ?_
                   refine o_mv rfl rfl ?_
                   refine Ops_guard rfl rfl (lt_dec rfl) (fun hg13 => ?_) (fun hg13 => ?_)
                   ·try simp only [bs] at hg13
                    refine o_mv rfl rfl ?_
                    refine Ops_guard_t rfl rfl (lt_dec rfl) ?_
                    refine o_mv rfl rfl ?_
                    refine Ops_guard_t rfl rfl (lt_dec rfl) ?_
                    refine Ops_p ((p_eql rfl rfl).eq (d' := .bool (inV (Prod.fst (Prod.snd x69_1)) (Prod.fst (Prod.snd (Prod.snd x69_1))) (Prod.snd (Prod.snd (Prod.snd x69_1))))) (veq_bool hgm.2.2.2.2)) (lt_dec rfl) ?_
                    refine Ops_guard_t rfl rfl (lt_dec rfl) ?_
                    refine o_mv rfl rfl ?_
                    refine Ops_guard_t rfl rfl (lt_dec rfl) ?_
                    refine Ops_p (p_neq_b rfl rfl rfl) (lt_dec rfl) ?_
                    refine Ops_p (p_pick_f rfl rfl) (lt_dec rfl) ?_
                    refine Ops_nil ?_
                    refine W_cond rfl (fun h11 => ?_) (fun h11 => ?_)
                    ·try simp only [bs] at h11
                     exfalso; exact h11 (by first | rfl | trivial)
                    ·try simp only [bs] at h11
                     refine W_skip ?_
                     refine ⟨?_, ?_⟩
                     ·trivial
                     ·exact Wk.intro (.c rfl (.c rfl (.c rfl (.c rfl (.c rfl .nil))))) (.drop (.drop (.drop (.keep rfl rfl (fun _ h => h) .nil))))
                   ·try simp only [bs] at hg13
                    refine Ops_guard_f rfl rfl rfl (lt_dec rfl) ?_
                    refine Ops_guard_f rfl rfl rfl (lt_dec rfl) ?_
                    refine Ops_guard_f rfl rfl rfl (lt_dec rfl) ?_
                    refine Ops_guard_f rfl rfl rfl (lt_dec rfl) ?_
                    refine Ops_p (p_pick_t rfl rfl) (lt_dec rfl) ?_
                    refine Ops_nil ?_
                    refine W_true rfl ?_
                    refine W_seq ?_
                    refine W_region ?_
                    refine o_as rfl rfl ?_
                    refine Ops_nil ?_
                    refine W_ret ?_
                    refine Exists.intro _ (And.intro (.cons (.tmp rfl) .nil) ?_)
                    refine veq_bool ?_; first | (simp_all; done) | omega
                  ·try simp only [bs] at hg12
                   refine Ops_guard_f rfl rfl rfl (lt_dec rfl) ?_
                   refine Ops_guard_f rfl rfl rfl (lt_dec rfl) ?_
                   refine Ops_guard_f rfl rfl rfl (lt_dec rfl) ?_
                   refine Ops_p (p_pick_t rfl rfl) (lt_dec rfl) ?_
                   refine o_mv rfl rfl ?_
                   refine Ops_guard_f rfl rfl rfl (lt_dec rfl) ?_
                   refine Ops_guard_f rfl rfl rfl (lt_dec rfl) ?_
                   refine Ops_guard_f rfl rfl rfl (lt_dec rfl) ?_
                   refine Ops_guard_f rfl rfl rfl (lt_dec rfl) ?_
                   refine Ops_guard_f rfl rfl rfl (lt_dec rfl) ?_
                   refine Ops_p (p_pick_t rfl rfl) (lt_dec rfl) ?_
                   refine Ops_nil ?_
                   refine W_true rfl ?_
                   refine W_seq ?_
                   refine W_region ?_
                   refine o_as rfl rfl ?_
                   refine Ops_nil ?_
                   refine W_ret ?_
                   refine Exists.intro _ (And.intro (.cons (.tmp rfl) .nil) ?_)
                   refine veq_bool ?_; first | (simp_all; done) | omega
               ·refine Xt_of_Qt rfl (lt_dec rfl) ((q_load rfl rfl m2 rfl (by first | exact True.intro | omega | exact Fin.isLt _ | trivial | (dsimp only; omega)))) ?_
                refine RA_two 0 4 rfl rfl rfl rfl (by kernel_rfl) ?_ ?_
                ·refine x_buildSlice rfl rfl rfl rfl rfl rfl rfl rfl (Nat.le_of_ble_eq_true rfl) (lt_dec rfl) fun b200_2 => ?_
                 refine RA_two 2 4 rfl rfl rfl rfl (by kernel_rfl) ?_ ?_
                 ·refine x_appendZr (t := 200) (r := .arrs 10 []) (r2 := .arrs 10 (Prod.fst (Prod.snd x69_1))) (q := .arrs 10 ([] ++ (Prod.fst (Prod.snd x69_1)))) rfl rfl rfl rfl rfl rfl rfl (Rds.own m4) rfl rfl (HpDels.cons HpDel.head HpDels.nil) (fun _ => (HpDels.cons HpDel.head HpDels.nil)) (by show (0 + List.length _) * 10 ≤ _; omega) (by show 0 + List.length _ ≤ _; omega) (lt_dec rfl) fun v202 => ?_
                  refine RA_one 4 rfl rfl (by kernel_rfl) (x_buildSlice rfl rfl rfl rfl rfl rfl rfl rfl (Nat.le_of_ble_eq_true rfl) (lt_dec rfl) fun b204_4 => ?_)
                  refine RA_one 5 rfl rfl (by kernel_rfl) (x_appendO (r := .arrs 10 ([] ++ (Prod.fst (Prod.snd x69_1)))) (r2 := .arrs 10 [Prod.snd (Prod.snd (Prod.snd x69_1))]) (q := .arrs 10 (([] ++ (Prod.fst (Prod.snd x69_1))) ++ [Prod.snd (Prod.snd (Prod.snd x69_1))])) rfl rfl rfl rfl rfl rfl (Rds.row m0 rfl) rfl (by show 0 < 1; omega) rfl (HpDels.cons (HpDel.head).tail HpDels.nil) (fun _ => (HpDels.cons (HpDel.head).tail HpDels.nil)) (by show (List.length _ + List.length _) * 10 ≤ _; simp only [List.length_cons, List.length_nil, List.nil_append]; omega) (by show List.length _ + List.length _ ≤ _; simp only [List.length_cons, List.length_nil, List.nil_append]; omega) (lt_dec rfl) fun v205 => ?_)
                  refine RA_quiet (g := 0) [7, 8, 9, 10, 11, 12] (by kernel_rfl) (by kernel_rfl) (by kernel_rfl) (by kernel_rfl) ?_
                  refine WQ_cons rfl rfl rfl ((q_call en_impl_GroupOrder rfl (w_impl_GroupOrder (l := ((Prod.fst (Prod.snd x69_1)) ++ [(Prod.snd (Prod.snd (Prod.snd x69_1)))])) (by simp only [List.length_append, List.length_cons, List.length_nil]; omega)) (Vw.rdO m1).v)) (lt_dec rfl) ?_
                  refine WQ_cons rfl rfl rfl ((p_move rfl).q) (lt_dec rfl) ?_
                  refine WQ_cons rfl rfl rfl ((p_extract rfl rfl).q) (lt_dec rfl) ?_
                  refine WQ_cons rfl rfl rfl (((p_extract rfl rfl).eq (d' := .int .i64 0) (veq_int hgm.2.1)).q) (lt_dec rfl) ?_
                  refine WQ_cons rfl rfl rfl ((p_assign rfl).q) (lt_dec rfl) ?_
                  refine WQ_cons rfl rfl rfl ((p_assign rfl).q) (lt_dec rfl) ?_
                  refine WQ_nil ?_
                  refine RA_done (by kernel_rfl) ?_
                  refine W_seq ?_
                  refine W_region ?_
                  refine o_mv rfl rfl ?_
                  refine Ops_p (p_neq rfl rfl) (lt_dec rfl) ?_
                  refine o_mv rfl rfl ?_
                  refine Ops_guard rfl rfl (lt_dec rfl) (fun hg14 => ?_) (fun hg14 => ?_)
                  ·try simp only [bs] at hg14
                   refine o_mv rfl rfl ?_
                   refine Ops_guard_t rfl rfl (lt_dec rfl) ?_
                   refine o_mv rfl rfl ?_
                   refine Ops_guard_t rfl rfl (lt_dec rfl) ?_
                   refine Ops_p ((p_rem rfl rfl goV_le (by omega)).eq (d' := .int .i64 0) (veq_int hgm.2.2.2.1)) (lt_dec rfl) ?_
                   refine Ops_guard_t rfl rfl (lt_dec rfl) ?_
                   refine Ops_p (p_neq rfl rfl) (lt_dec rfl) ?_
                   refine Ops_p (p_pick_f rfl rfl) (lt_dec rfl) ?_
                   refine o_mv rfl rfl ?_
                   refine Ops_guard rfl rfl (lt_dec rfl) (fun hg15 => ?_) (fun hg15 => ?_)
                   ·try simp only [bs] at hg15
                    refine o_mv rfl rfl ?_
                    refine Ops_guard_t rfl rfl (lt_dec rfl) ?_
                    refine o_mv rfl rfl ?_
                    refine Ops_guard_t rfl rfl (lt_dec rfl) ?_
                    refine Ops_p ((p_eql rfl rfl).eq (d' := .bool (inV (Prod.fst (Prod.snd x69_1)) (Prod.fst (Prod.snd (Prod.snd x69_1))) (Prod.snd (Prod.snd (Prod.snd x69_1))))) (veq_bool hgm.2.2.2.2)) (lt_dec rfl) ?_
                    refine Ops_guard_t rfl rfl (lt_dec rfl) ?_
                    refine o_mv rfl rfl ?_
                    refine Ops_guard_t rfl rfl (lt_dec rfl) ?_
                    refine Ops_p (p_neq_b rfl rfl rfl) (lt_dec rfl) ?_
                    refine Ops_p (p_pick_f rfl rfl) (lt_dec rfl) ?_
                    refine Ops_nil ?_
                    refine W_cond rfl (fun h12 => ?_) (fun h12 => ?_)
                    ·try simp only [bs] at h12
                     exfalso; exact h12 (by first | rfl | trivial)
                    ·try simp only [bs] at h12
                     refine W_skip ?_
                     refine ⟨?_, ?_⟩
                     ·trivial
                     ·exact Wk.intro (.c rfl (.c rfl (.c rfl (.c rfl (.c rfl .nil))))) (.drop (.drop (.drop (.keep rfl rfl (fun _ h => h) .nil))))
                   ·try simp only [bs] at hg15
                    refine Ops_guard_f rfl rfl rfl (lt_dec rfl) ?_
                    refine Ops_guard_f rfl rfl rfl (lt_dec rfl) ?_
                    refine Ops_guard_f rfl rfl rfl (lt_dec rfl) ?_
                    refine Ops_guard_f rfl rfl rfl (lt_dec rfl) ?_
                    refine Ops_p (p_pick_t rfl rfl) (lt_dec rfl) ?_
                    refine Ops_nil ?_
                    refine W_true rfl ?_
                    refine W_seq ?_
                    refine W_region ?_
                    refine o_as rfl rfl ?_
                    refine Ops_nil ?_
                    refine W_ret ?_
                    refine Exists.intro _ (And.intro (.cons (.tmp rfl) .nil) ?_)
                    refine veq_bool ?_; first | (simp_all; done) | omega
                  ·try simp only [bs] at hg14
                   refine Ops_guard_f rfl rfl rfl (lt_dec rfl) ?_
                   refine Ops_guard_f rfl rfl rfl (lt_dec rfl) ?_
                   refine Ops_guard_f rfl rfl rfl (lt_dec rfl) ?_
                   refine Ops_p (p_pick_t rfl rfl) (lt_dec rfl) ?_
                   refine o_mv rfl rfl ?_
                   refine Ops_guard_f rfl rfl rfl (lt_dec rfl) ?_
                   refine Ops_guard_f rfl rfl rfl (lt_dec rfl) ?_
                   refine Ops_guard_f rfl rfl rfl (lt_dec rfl) ?_
                   refine Ops_guard_f rfl rfl rfl (lt_dec rfl) ?_
                   refine Ops_guard_f rfl rfl rfl (lt_dec rfl) ?_
                   refine Ops_p (p_pick_t rfl rfl) (lt_dec rfl) ?_
                   refine Ops_nil ?_
                   refine W_true rfl ?_
                   refine W_seq ?_
                   refine W_region ?_
                   refine o_as rfl rfl ?_
                   refine Ops_nil ?_
                   refine W_ret ?_
                   refine Exists.intro _ (And.intro (.cons (.tmp rfl) .nil) ?_)
                   refine veq_bool ?_; first | (simp_all; done) | omega
                 ·refine x_buildSlice rfl rfl rfl rfl rfl rfl rfl rfl (Nat.le_of_ble_eq_true rfl) (lt_dec rfl) fun b204_5 => ?_
                  refine RA_one 2 rfl rfl (by kernel_rfl) (x_appendZr (t := 200) (r := .arrs 10 []) (r2 := .arrs 10 (Prod.fst (Prod.snd x69_1))) (q := .arrs 10 ([] ++ (Prod.fst (Prod.snd x69_1)))) rfl rfl rfl rfl rfl rfl rfl (Rds.own m5) rfl rfl (HpDels.cons (HpDel.head).tail HpDels.nil) (fun _ => (HpDels.cons (HpDel.head).tail HpDels.nil)) (by show (0 + List.length _) * 10 ≤ _; omega) (by show 0 + List.length _ ≤ _; omega) (lt_dec rfl) fun v202 => ?_)
                  refine RA_one 5 rfl rfl (by kernel_rfl) (x_appendO (r := .arrs 10 ([] ++ (Prod.fst (Prod.snd x69_1)))) (r2 := .arrs 10 [Prod.snd (Prod.snd (Prod.snd x69_1))]) (q := .arrs 10 (([] ++ (Prod.fst (Prod.snd x69_1))) ++ [Prod.snd (Prod.snd (Prod.snd x69_1))])) rfl rfl rfl rfl rfl rfl (Rds.row m0 rfl) rfl (by show 0 < 1; omega) rfl (HpDels.cons (HpDel.head).tail HpDels.nil) (fun _ => (HpDels.cons (HpDel.head).tail HpDels.nil)) (by show (List.length _ + List.length _) * 10 ≤ _; simp only [List.length_cons, List.length_nil, List.nil_append]; omega) (by show List.length _ + List.length _ ≤ _; simp only [List.length_cons, List.length_nil, List.nil_append]; omega) (lt_dec rfl) fun v205 => ?_)
                  refine RA_quiet (g := 0) [7, 8, 9, 10, 11, 12] (by kernel_rfl) (by kernel_rfl) (by kernel_rfl) (by kernel_rfl) ?_
                  refine WQ_cons rfl rfl rfl ((q_call en_impl_GroupOrder rfl (w_impl_GroupOrder (l := ((Prod.fst (Prod.snd x69_1)) ++ [(Prod.snd (Prod.snd (Prod.snd x69_1)))])) (by simp only [List.length_append, List.length_cons, List.length_nil]; omega)) (Vw.rdO m1).v)) (lt_dec rfl) ?_
                  refine WQ_cons rfl rfl rfl ((p_move rfl).q) (lt_dec rfl) ?_
                  refine WQ_cons rfl rfl rfl ((p_extract rfl rfl).q) (lt_dec rfl) ?_
                  refine WQ_cons rfl rfl rfl (((p_extract rfl rfl).eq (d' := .int .i64 0) (veq_int hgm.2.1)).q) (lt_dec rfl) ?_
                  refine WQ_cons rfl rfl rfl ((p_assign rfl).q) (lt_dec rfl) ?_
                  refine WQ_cons rfl rfl rfl ((p_assign rfl).q) (lt_dec rfl) ?_
                  refine WQ_nil ?_
                  refine RA_done (by kernel_rfl) ?_
                  refine W_seq ?_
                  refine W_region ?_
                  refine o_mv rfl rfl ?_
                  refine Ops_p (p_neq rfl rfl) (lt_dec rfl) ?_
                  refine o_mv rfl rfl ?_
                  refine Ops_guard rfl rfl (lt_dec rfl) (fun hg16 => ?_) (fun hg16 => ?_)
                  ·try simp only [bs] at hg16
                   refine o_mv rfl rfl ?_
                   refine Ops_guard_t rfl rfl (lt_dec rfl) ?_
                   refine o_mv rfl rfl ?_
                   refine Ops_guard_t rfl rfl (lt_dec rfl) ?_
                   refine Ops_p ((p_rem rfl rfl goV_le (by omega)).eq (d' := .int .i64 0) (veq_int hgm.2.2.2.1)) (lt_dec rfl) ?_
                   refine Ops_guard_t rfl rfl (lt_dec rfl) ?_
                   refine Ops_p (p_neq rfl rfl) (lt_dec rfl) ?_
                   refine Ops_p (p_pick_f rfl rfl) (lt_dec rfl) ?_
                   refine o_mv rfl rfl ?_
                   refine Ops_guard rfl rfl (lt_dec rfl) (fun hg17 => ?_) (fun hg17 => ?_)
                   ·try simp only [bs] at hg17
                    refine o_mv rfl rfl ?_
                    refine Ops_guard_t rfl rfl (lt_dec rfl) ?_
                    refine o_mv rfl rfl ?_
                    refine Ops_guard_t rfl rfl (lt_dec rfl) ?_
                    refine Ops_p ((p_eql rfl rfl).eq (d' := .bool (inV (Prod.fst (Prod.snd x69_1)) (Prod.fst (Prod.snd (Prod.snd x69_1))) (Prod.snd (Prod.snd (Prod.snd x69_1))))) (veq_bool hgm.2.2.2.2)) (lt_dec rfl) ?_
                    refine Ops_guard_t rfl rfl (lt_dec rfl) ?_
                    refine o_mv rfl rfl ?_
                    refine Ops_guard_t rfl rfl (lt_dec rfl) ?_
                    refine Ops_p (p_neq_b rfl rfl rfl) (lt_dec rfl) ?_
                    refine Ops_p (p_pick_f rfl rfl) (lt_dec rfl) ?_
                    refine Ops_nil ?_
                    refine W_cond rfl (fun h13 => ?_) (fun h13 => ?_)
                    ·try simp only [bs] at h13
                     exfalso; exact h13 (by first | rfl | trivial)
                    ·try simp only [bs] at h13
                     refine W_skip ?_
                     refine ⟨?_, ?_⟩
                     ·trivial
                     ·exact Wk.intro (.c rfl (.c rfl (.c rfl (.c rfl (.c rfl .nil))))) (.drop (.drop (.drop (.keep rfl rfl (fun _ h => h) .nil))))
                   ·try simp only [bs] at hg17
                    refine Ops_guard_f rfl rfl rfl (lt_dec rfl) ?_
                    refine Ops_guard_f rfl rfl rfl (lt_dec rfl) ?_
                    refine Ops_guard_f rfl rfl rfl (lt_dec rfl) ?_
                    refine Ops_guard_f rfl rfl rfl (lt_dec rfl) ?_
                    refine Ops_p (p_pick_t rfl rfl) (lt_dec rfl) ?_
                    refine Ops_nil ?_
                    refine W_true rfl ?_
                    refine W_seq ?_
                    refine W_region ?_
                    refine o_as rfl rfl ?_
                    refine Ops_nil ?_
                    refine W_ret ?_
                    refine Exists.intro _ (And.intro (.cons (.tmp rfl) .nil) ?_)
                    refine veq_bool ?_; first | (simp_all; done) | omega
                  ·try simp only [bs] at hg16
                   refine Ops_guard_f rfl rfl rfl (lt_dec rfl) ?_
                   refine Ops_guard_f rfl rfl rfl (lt_dec rfl) ?_
                   refine Ops_guard_f rfl rfl rfl (lt_dec rfl) ?_
                   refine Ops_p (p_pick_t rfl rfl) (lt_dec rfl) ?_
                   refine o_mv rfl rfl ?_
                   refine Ops_guard_f rfl rfl rfl (lt_dec rfl) ?_
                   refine Ops_guard_f rfl rfl rfl (lt_dec rfl) ?_
                   refine Ops_guard_f rfl rfl rfl (lt_dec rfl) ?_
                   refine Ops_guard_f rfl rfl rfl (lt_dec rfl) ?_
                   refine Ops_guard_f rfl rfl rfl (lt_dec rfl) ?_
                   refine Ops_p (p_pick_t rfl rfl) (lt_dec rfl) ?_
                   refine Ops_nil ?_
                   refine W_true rfl ?_
                   refine W_seq ?_
                   refine W_region ?_
                   refine o_as rfl rfl ?_
                   refine Ops_nil ?_
                   refine W_ret ?_
                   refine Exists.intro _ (And.intro (.cons (.tmp rfl) .nil) ?_)
                   refine veq_bool ?_; first | (simp_all; done) | omega
                ·refine x_buildSlice rfl rfl rfl rfl rfl rfl rfl rfl (Nat.le_of_ble_eq_true rfl) (lt_dec rfl) fun b204_6 => ?_
                 refine RA_one 0 rfl rfl (by kernel_rfl) (x_buildSlice rfl rfl rfl rfl rfl rfl rfl rfl (Nat.le_of_ble_eq_true rfl) (lt_dec rfl) fun b200_3 => ?_)
                 refine RA_one 2 rfl rfl (by kernel_rfl) (x_appendZr (t := 200) (r := .arrs 10 []) (r2 := .arrs 10 (Prod.fst (Prod.snd x69_1))) (q := .arrs 10 ([] ++ (Prod.fst (Prod.snd x69_1)))) rfl rfl rfl rfl rfl rfl rfl (Rds.own m5) rfl rfl (HpDels.cons HpDel.head HpDels.nil) (fun _ => (HpDels.cons HpDel.head HpDels.nil)) (by show (0 + List.length _) * 10 ≤ _; omega) (by show 0 + List.length _ ≤ _; omega) (lt_dec rfl) fun v202 => ?_)
                 refine RA_one 5 rfl rfl (by kernel_rfl) (x_appendO (r := .arrs 10 ([] ++ (Prod.fst (Prod.snd x69_1)))) (r2 := .arrs 10 [Prod.snd (Prod.snd (Prod.snd x69_1))]) (q := .arrs 10 (([] ++ (Prod.fst (Prod.snd x69_1))) ++ [Prod.snd (Prod.snd (Prod.snd x69_1))])) rfl rfl rfl rfl rfl rfl (Rds.row m1 rfl) rfl (by show 0 < 1; omega) rfl (HpDels.cons HpDel.head HpDels.nil) (fun _ => (HpDels.cons HpDel.head HpDels.nil)) (by show (List.length _ + List.length _) * 10 ≤ _; simp only [List.length_cons, List.length_nil, List.nil_append]; omega) (by show List.length _ + List.length _ ≤ _; simp only [List.length_cons, List.length_nil, List.nil_append]; omega) (lt_dec rfl) fun v205 => ?_)
                 refine RA_quiet (g := 0) [7, 8, 9, 10, 11, 12] (by kernel_rfl) (by kernel_rfl) (by kernel_rfl) (by kernel_rfl) ?_
                 refine WQ_cons rfl rfl rfl ((q_call en_impl_GroupOrder rfl (w_impl_GroupOrder (l := ((Prod.fst (Prod.snd x69_1)) ++ [(Prod.snd (Prod.snd (Prod.snd x69_1)))])) (by simp only [List.length_append, List.length_cons, List.length_nil]; omega)) (Vw.rdO m0).v)) (lt_dec rfl) ?_
                 refine WQ_cons rfl rfl rfl ((p_move rfl).q) (lt_dec rfl) ?_
                 refine WQ_cons rfl rfl rfl ((p_extract rfl rfl).q) (lt_dec rfl) ?_
                 refine WQ_cons rfl rfl rfl (((p_extract rfl rfl).eq (d' := .int .i64 0) (veq_int hgm.2.1)).q) (lt_dec rfl) ?_
                 refine WQ_cons rfl rfl rfl ((p_assign rfl).q) (lt_dec rfl) ?_
                 refine WQ_cons rfl rfl rfl ((p_assign rfl).q) (lt_dec rfl) ?_
                 refine WQ_nil ?_
                 refine RA_done (by kernel_rfl) ?_
                 refine W_seq ?_
                 refine W_region ?_
                 refine o_mv rfl rfl ?_
                 refine Ops_p (p_neq rfl rfl) (lt_dec rfl) ?_
                 refine o_mv rfl rfl ?_
                 refine Ops_guard rfl rfl (lt_dec rfl) (fun hg18 => ?_) (fun hg18 => ?_)
                 ·try simp only [bs] at hg18
                  refine o_mv rfl rfl ?_
                  refine Ops_guard_t rfl rfl (lt_dec rfl) ?_
                  refine o_mv rfl rfl ?_
                  refine Ops_guard_t rfl rfl (lt_dec rfl) ?_
                  refine Ops_p ((p_rem rfl rfl goV_le (by omega)).eq (d' := .int .i64 0) (veq_int hgm.2.2.2.1)) (lt_dec rfl) ?_
                  refine Ops_guard_t rfl rfl (lt_dec rfl) ?_
                  refine Ops_p (p_neq rfl rfl) (lt_dec rfl) ?_
                  refine Ops_p (p_pick_f rfl rfl) (lt_dec rfl) ?_
                  refine o_mv rfl rfl ?_
                  refine Ops_guard rfl rfl (lt_dec rfl) (fun hg19 => ?_) (fun hg19 => ?_)
                  ·try simp only [bs] at hg19
                   refine o_mv rfl rfl ?_
                   refine Ops_guard_t rfl rfl (lt_dec rfl) ?_
                   refine o_mv rfl rfl ?_
                   refine Ops_guard_t rfl rfl (lt_dec rfl) ?_
                   refine Ops_p ((p_eql rfl rfl).eq (d' := .bool (inV (Prod.fst (Prod.snd x69_1)) (Prod.fst (Prod.snd (Prod.snd x69_1))) (Prod.snd (Prod.snd (Prod.snd x69_1))))) (veq_bool hgm.2.2.2.2)) (lt_dec rfl) ?_
                   refine Ops_guard_t rfl rfl (lt_dec rfl) ?_
                   refine o_mv rfl rfl ?_
                   refine Ops_guard_t rfl rfl (lt_dec rfl) ?_
                   refine Ops_p (p_neq_b rfl rfl rfl) (lt_dec rfl) ?_
                   refine Ops_p (p_pick_f rfl rfl) (lt_dec rfl) ?_
                   refine Ops_nil ?_
                   refine W_cond rfl (fun h14 => ?_) (fun h14 => ?_)
                   ·try simp only [bs] at h14
                    exfalso; exact h14 (by first | rfl | trivial)
                   ·try simp only [bs] at h14
                    refine W_skip ?_
                    refine ⟨?_, ?_⟩
                    ·trivial
                    ·exact Wk.intro (.c rfl (.c rfl (.c rfl (.c rfl (.c rfl .nil))))) (.drop (.drop (.drop (.keep rfl rfl (fun _ h => h) .nil))))
                  ·try simp only [bs] at hg19
                   refine Ops_guard_f rfl rfl rfl (lt_dec rfl) ?_
                   refine Ops_guard_f rfl rfl rfl (lt_dec rfl) ?_
                   refine Ops_guard_f rfl rfl rfl (lt_dec rfl) ?_
                   refine Ops_guard_f rfl rfl rfl (lt_dec rfl) ?_
                   refine Ops_p (p_pick_t rfl rfl) (lt_dec rfl) ?_
                   refine Ops_nil ?_
                   refine W_true rfl ?_
                   refine W_seq ?_
                   refine W_region ?_
                   refine o_as rfl rfl ?_
                   refine Ops_nil ?_
                   refine W_ret ?_
                   refine Exists.intro _ (And.intro (.cons (.tmp rfl) .nil) ?_)
                   refine veq_bool ?_; first | (simp_all; done) | omega
                 ·try simp only [bs] at hg18
                  refine Ops_guard_f rfl rfl rfl (lt_dec rfl) ?_
                  refine Ops_guard_f rfl rfl rfl (lt_dec rfl) ?_
                  refine Ops_guard_f rfl rfl rfl (lt_dec rfl) ?_
                  refine Ops_p (p_pick_t rfl rfl) (lt_dec rfl) ?_
                  refine o_mv rfl rfl ?_
                  refine Ops_guard_f rfl rfl rfl (lt_dec rfl) ?_
                  refine Ops_guard_f rfl rfl rfl (lt_dec rfl) ?_
                  refine Ops_guard_f rfl rfl rfl (lt_dec rfl) ?_
                  refine Ops_guard_f rfl rfl rfl (lt_dec rfl) ?_
                  refine Ops_guard_f rfl rfl rfl (lt_dec rfl) ?_
                  refine Ops_p (p_pick_t rfl rfl) (lt_dec rfl) ?_
                  refine Ops_nil ?_
                  refine W_true rfl ?_
                  refine W_seq ?_
                  refine W_region ?_
                  refine o_as rfl rfl ?_
                  refine Ops_nil ?_
                  refine W_ret ?_
                  refine Exists.intro _ (And.intro (.cons (.tmp rfl) .nil) ?_)
                  refine veq_bool ?_; first | (simp_all; done) | omega
              ·try simp only [bs] at h8
               refine W_skip ?_
               refine ⟨?_, ?_⟩
               ·trivial
               ·exact Wk.intro (.c rfl (.c rfl (.c rfl (.c rfl (.c rfl .nil))))) (.drop (.keep rfl rfl (fun _ h => h) .nil))
            ·try simp only [bs] at hg7
             refine Ops_guard_f rfl rfl rfl (lt_dec rfl) ?_
             refine Ops_p (p_pick_t rfl rfl) (lt_dec rfl) ?_
             refine Ops_nil ?_
             refine W_true rfl ?_
             refine W_seq ?_
             refine W_region ?_
             refine o_as rfl rfl ?_
             refine Ops_nil ?_
             refine W_ret ?_
             refine Exists.intro _ (And.intro (.cons (.tmp rfl) .nil) ?_)
             refine veq_bool ?_; first | (simp_all; done) | omega
           ·try simp only [bs] at h6
            refine W_skip ?_
            refine ⟨?_, ?_⟩
            ·trivial
            ·exact Wk.intro (.c rfl (.c rfl (.c rfl (.c rfl (.c rfl .nil))))) (.drop (.keep rfl rfl (fun _ h => h) .nil))
         ·try simp only [bs] at hg6
          refine Ops_guard_f rfl rfl rfl (lt_dec rfl) ?_
          refine Ops_guard_f rfl rfl rfl (lt_dec rfl) ?_
          refine Ops_p (p_pick_t rfl rfl) (lt_dec rfl) ?_
          refine Ops_nil ?_
          refine W_true rfl ?_
          refine W_seq ?_
          refine W_region ?_
          refine o_as rfl rfl ?_
          refine Ops_nil ?_
          refine W_ret ?_
          refine Exists.intro _ (And.intro (.cons (.tmp rfl) .nil) ?_)
          refine veq_bool ?_; first | (simp_all; done) | omega
        ·rintro s' ⟨_, hw⟩
         refine W_wk hw ?_
         clear hw s'
         refine W_seq ?_
         refine W_seq ?_
         refine W_region ?_
         refine o_mv rfl rfl ?_
         refine Ops_p (p_neq rfl rfl) (lt_dec rfl) ?_
         refine Ops_nil ?_
         refine W_cond rfl (fun h15 => ?_) (fun h15 => ?_)
         ·try simp only [bs] at h15
          have hn0 := h15
          refine W_seq ?_
          refine W_region ?_
          refine o_mv rfl rfl ?_
          refine Ops_p (p_eql rfl rfl) (lt_dec rfl) ?_
          refine o_as rfl rfl ?_
          refine Ops_nil ?_
          refine W_ret ?_
          refine Exists.intro _ (And.intro (.cons (.tmp rfl) .nil) ?_)
          first | rfl | (refine veq_bool ?_; simp_all; done) | (refine veq_bool ?_; simp; omega) | (refine veq_bool ?_; rw [eq_comm, decide_eq_false_iff_not]; omega) | (refine veq_bool ?_; rw [eq_comm, decide_eq_true_iff]; omega) | (exact veq_bool (decide_eq_true (goV_n hn0))) | (exact veq_bool (decide_eq_true (orb_end hx98_1 h0)))
         ·try simp only [bs] at h15
          have h0 : psC (Prod.fst (Prod.snd x44_1)) (Prod.snd (Prod.snd x44_1)) = 0 := (by omega)
          refine W_skip ?_
          refine W_seq ?_
          refine W_region ?_
          refine o_as rfl rfl ?_
          refine Ops_nil ?_
          refine W_seq ?_
          refine W_seq ?_
          have hcl : x98_1.2.length ≤ 100000 := (by rw [snd_cnt hx98_1]; exact (orbS_b _ _).1)
          refine W_region ?_
          refine o_as rfl rfl ?_
          refine Ops_nil ?_
          refine W_block ?_
          refine W_loop (α := Nat) (fun i => ⟨[(0, .raw cv hcv), (4, .int .i64 (Prod.snd (Prod.snd x44_1))), (5, .int .i64 (goV (Prod.fst (Prod.snd x44_1)) (Prod.snd (Prod.snd x44_1)))), (6, .int .i64 (psC (Prod.fst (Prod.snd x44_1)) (Prod.snd (Prod.snd x44_1)))), (16, .raw x98_1.1.1 x98_1.1.2), (38, .int .i64 ((sumO (orbS (Prod.fst (Prod.snd x44_1)) (Prod.snd (Prod.snd x44_1))) i : Nat) : Int)), (39, .int .i64 (i : Int))], [oss x98_1.1.1 48 2 x98_1.2]⟩) (fun i => i ≤ x98_1.2.length) (fun i => x98_1.2.length - i) 0 ?_ ?_ ?_
          ·show _ ≤ _; omega
          ·exact Wk.intro (.c rfl (.c rfl (.c rfl (.c rfl (.c rfl (.cons rfl (by first | rfl | exact veq_int (by first | omega | (dsimp only; omega))) (.cons rfl (by first | rfl | exact veq_int (by first | omega | (dsimp only; omega))) .nil))))))) (.keep rfl rfl (fun _ h => h) .nil)
          ·rintro i hR
           refine W_seq ?_
           refine W_seq ?_
           refine W_region ?_
           refine o_mv rfl rfl ?_
           refine o_mv rfl rfl ?_
           refine Ops_q (q_lenO rfl rfl rfl (Rds.ossO m0)) (lt_dec rfl) ?_
           refine Ops_p (p_lss rfl rfl) (lt_dec rfl) ?_
           refine Ops_nil ?_
           refine W_cond rfl (fun h16 => ?_) (fun h16 => ?_)
           ·try simp only [bs] at h16
            refine W_skip ?_
            refine W_seq ?_
            refine W_block ?_
            refine W_seq ?_
            refine W_region ?_
            refine o_mv rfl rfl ?_
            refine o_mv rfl rfl ?_
            refine o_mv rfl rfl ?_
            refine Ops_q (q_ixR (i) rfl rfl rfl (Rds.ossO m0) rfl rfl (by rw [valsR_len]; first | omega | (dsimp only; omega)) rfl) (lt_dec rfl) ?_
            refine Ops_q (q_loadI (j := i) rfl rfl (Rds.ossO m0) rfl (by first | omega | assumption) rfl rfl) (lt_dec rfl) ?_
            refine Ops_q ((q_lenR rfl rfl rfl (Rds.ossI (j := i) m0 (by first | omega | assumption))).eq (d' := .int .i64 (((x98_1.2.getD i sd).2.length : Nat) : Int)) rfl) (lt_dec rfl) ?_
            refine Ops_p ((p_add rfl rfl (by have := orb_cnt hx98_1 (i := i) (by omega); exact ⟨by omega, by omega⟩)).eq (d' := .int .i64 ((sumO (orbS (Prod.fst (Prod.snd x44_1)) (Prod.snd (Prod.snd x44_1))) (i + 1) : Nat) : Int)) (veq_int (by have := orb_cnt hx98_1 (i := i) (by omega); omega))) (lt_dec rfl) ?_
            refine o_as rfl rfl ?_
            refine Ops_nil ?_
            refine W_seq ?_
            have hcnt := orb_cnt hx98_1 (i := i) (by omega)
            refine W_region ?_
            refine o_mv rfl rfl ?_
            refine o_mv rfl rfl ?_
            refine o_mv rfl rfl ?_
            refine Ops_q (q_ixR (i) rfl rfl rfl (Rds.ossO m0) rfl rfl (by rw [valsR_len]; first | omega | (dsimp only; omega)) rfl) (lt_dec rfl) ?_
            refine Ops_q (q_loadI (j := i) rfl rfl (Rds.ossO m0) rfl (by first | omega | assumption) rfl rfl) (lt_dec rfl) ?_
            refine Ops_q ((q_lenR rfl rfl rfl (Rds.ossI (j := i) m0 (by first | omega | assumption))).eq (d' := .int .i64 (((x98_1.2.getD i sd).2.length : Nat) : Int)) rfl) (lt_dec rfl) ?_
            refine Ops_p (p_rem rfl rfl goV_le (orb_div hx98_1 h0 (by omega)).1) (lt_dec rfl) ?_
            refine Ops_p (p_neq rfl rfl) (lt_dec rfl) ?_
            refine Ops_nil ?_
            refine W_cond rfl (fun h17 => ?_) (fun h17 => ?_)
            ·try simp only [bs] at h17
             exfalso; exact h17 (orb_div hx98_1 h0 (by omega)).2
            ·try simp only [bs] at h17
             refine W_skip ?_
             refine W_region ?_
             refine o_mv rfl rfl ?_
             refine Ops_p (p_add rfl rfl (by refine ⟨?_, ?_⟩ <;> first | omega | (dsimp only; omega))) (lt_dec rfl) ?_
             refine o_as rfl rfl ?_
             refine Ops_nil ?_
             refine Exists.intro (i + 1) (And.intro ?_ (And.intro ?_ ?_))
             ·show _ ≤ _; omega
             ·show _ < _; omega
             ·exact Wk.intro (.c rfl (.c rfl (.c rfl (.c rfl (.c rfl (.cons rfl (by first | rfl | exact veq_int (by first | omega | (dsimp only; omega))) (.cons rfl (by first | rfl | exact veq_int (by first | omega | (dsimp only; omega))) .nil))))))) (.keep rfl rfl (fun _ h => h) .nil)
           ·try simp only [bs] at h16
            obtain rfl : i = x98_1.2.length := (by omega)
            refine W_exit ?_
            refine W_seq ?_
            refine W_region ?_
            refine o_mv rfl rfl ?_
            refine o_mv rfl rfl ?_
            refine Ops_p (p_eql rfl rfl) (lt_dec rfl) ?_
            refine o_as rfl rfl ?_
            refine Ops_nil ?_
            refine W_ret ?_
            refine Exists.intro _ (And.intro (.cons (.tmp rfl) .nil) ?_)
            first | rfl | (refine veq_bool ?_; simp_all; done) | (refine veq_bool ?_; simp; omega) | (refine veq_bool ?_; rw [eq_comm, decide_eq_false_iff_not]; omega) | (refine veq_bool ?_; rw [eq_comm, decide_eq_true_iff]; omega) | (exact veq_bool (decide_eq_true (goV_n hn0))) | (exact veq_bool (decide_eq_true (orb_end hx98_1 h0)))
      ·try simp only [bs] at hg3
       refine Ops_guard_f rfl rfl rfl (lt_dec rfl) ?_
       refine Ops_guard_f rfl rfl rfl (lt_dec rfl) ?_
       refine Ops_guard_f rfl rfl rfl (lt_dec rfl) ?_
       refine Ops_p (p_pick_t rfl rfl) (lt_dec rfl) ?_
       refine Ops_nil ?_
       refine W_true rfl ?_
       refine W_seq ?_
       refine W_region ?_
       refine o_as rfl rfl ?_
       refine Ops_nil ?_
       refine W_ret ?_
       refine Exists.intro _ (And.intro (.cons (.tmp rfl) .nil) ?_)
       refine veq_bool ?_; first | (simp_all; done) | omega
    ·try simp only [bs] at hg2
     refine Ops_guard_f rfl rfl rfl (lt_dec rfl) ?_
     refine Ops_guard_f rfl rfl rfl (lt_dec rfl) ?_
     refine Ops_p (p_pick_t rfl rfl) (lt_dec rfl) ?_
     refine Ops_nil ?_
     refine W_true rfl ?_
     refine W_seq ?_
     refine W_region ?_
     refine o_as rfl rfl ?_
     refine Ops_nil ?_
     refine W_ret ?_
     refine Exists.intro _ (And.intro (.cons (.tmp rfl) .nil) ?_)
     refine veq_bool ?_; first | (simp_all; done) | omega
  ·try simp only [bs] at hg1
   refine Ops_guard_f rfl rfl rfl (lt_dec rfl) ?_
   refine Ops_guard_f rfl rfl rfl (lt_dec rfl) ?_
   refine Ops_p (p_pick_t rfl rfl) (lt_dec rfl) ?_
   refine Ops_nil ?_
   refine W_true rfl ?_
   refine W_seq ?_
   refine W_region ?_
   refine o_as rfl rfl ?_
   refine Ops_nil ?_
   refine W_ret ?_
   refine Exists.intro _ (And.intro (.cons (.tmp rfl) .nil) ?_)
   refine veq_bool ?_; first | (simp_all; done) | omega
end Go.Proofs.Ytjihhcjpbcmjaaa
end
