/- Texts of this claim put together, part 3: the frame, the plain law and what the functions do; the conditions stand in the statements. -/
import Derived.Test.YtjihhcjpbcmjaaaFG2
import Derived.Test.YtjihhcjpbcmjaaaFGTy
import Derived.Test.YtjihhcjpbcmjaaaFGGx12
import Derived.Test.YtjihhcjpbcmjaaaFGGx20
import Derived.Test.YtjihhcjpbcmjaaaFGGx28
import Derived.Test.YtjihhcjpbcmjaaaFGGx38
import Derived.Test.YtjihhcjpbcmjaaaFGM49
import Derived.Test.YtjihhcjpbcmjaaaFGM15
import Derived.Test.YtjihhcjpbcmjaaaFGM42
import Derived.Test.YtjihhcjpbcmjaaaFGM26
import Derived.Test.YtjihhcjpbcmjaaaFGM47
import Derived.Test.YtjihhcjpbcmjaaaFGM7
import Derived.Test.YtjihhcjpbcmjaaaFGGx27
import Derived.Test.YtjihhcjpbcmjaaaFGGx34
import Derived.Test.YtjihhcjpbcmjaaaFGGx25
import Derived.Test.YtjihhcjpbcmjaaaFGM28
section
namespace Go.Proofs.Ytjihhcjpbcmjaaa
open Go Gx
set_option linter.unusedVariables false
theorem en_spec_l01Draw : Enters Try.prog 66 := enters_of Try.func66 (by kernel_rfl) (by kernel_rfl)
set_option maxRecDepth 100000 in
set_option maxHeartbeats 4000000 in
theorem w_spec_l01Draw {cv : Value} {hcv : cv.oneCell' = true} {code : List (Fin 256)} {sb a h : Nat} (hc : code.length ≤ 4096) (ha : a ≤ code.length) (hh : h < 18446744073709551616) : CT (X := (Nat × Nat) × (Int × (Nat → Fin 256))) Try.prog 66 (vals [.ptr sb 0 none]) [.var sb (.agg [.raw cv hcv, .int .i64 ((a : Nat) : Int), .int .u64 ((h : Nat) : Int)])] [rd cv (.u8s code)] (fun x => (Prod.fst (Prod.fst x) ≤ code.length ∧ Prod.snd (Prod.fst x) < 18446744073709551616) ∧ SqP (Prod.fst (Prod.snd x)) (Prod.snd (Prod.snd x))) (fun x => .agg [.int .i64 (Prod.fst (Prod.snd x)), .arr8 100 (Prod.snd (Prod.snd x))]) (fun x => [.var sb (.agg [.raw cv hcv, .int .i64 (((Prod.fst (Prod.fst x)) : Nat) : Int), .int .u64 (((Prod.snd (Prod.fst x)) : Nat) : Int)])]) := by
 refine CT_intro (rs := [.cell 2 76]) tt tok Try.func66 rfl rfl rfl (by first | rfl | assumption) fun w => ?_
 show W _ _ _ ⟨tmOf 0 [.ptr sb 0 none], [.var sb (.agg [.raw cv hcv, .int .i64 ((a : Nat) : Int), .int .u64 ((h : Nat) : Int)]), rd cv (.u8s code)]⟩
 refine W_seq ?_
 refine W_region ?_
 refine Ops_x rfl (x_alloc rfl (lt_dec rfl) fun b2_1 => ?_)
 refine Ops_nil ?_
 refine W_seq ?_
 refine W_region ?_
 refine o_mv rfl rfl ?_
 refine Ops_x rfl (x_callT en_spec_l01Known rfl (w_spec_l01Known hc ha hh) (HpDels.cons (HpDel.head).tail HpDels.nil) (Vw.rd m1) (fun _ => (HpDels.cons (HpDel.head).tail HpDels.nil)) (lt_dec rfl) fun x7_1 hx7 => ?_)
 refine Ops_x rfl (x_alloc rfl (lt_dec rfl) fun b3_1 => ?_)
 refine Ops_x rfl (x_store rfl rfl rfl rfl rfl HpRep.head rfl (by first | trivial | (first | (first | omega | (dsimp only; omega)) | exact Fin.isLt _)) ?_)
 refine Ops_nil ?_
 refine W_seq ?_
 refine W_region ?_
 refine Ops_p (p_fieldAddr rfl rfl rfl rfl rfl rfl) (lt_dec rfl) ?_
 refine Ops_q (q_load rfl rfl m0 rfl (by first | exact True.intro | omega | exact Fin.isLt _ | trivial | (dsimp only; omega))) (lt_dec rfl) ?_
 refine o_as rfl rfl ?_
 refine Ops_nil ?_
 refine W_seq ?_
 refine W_seq ?_
 refine W_region ?_
 refine o_mv rfl rfl ?_
 refine Ops_x rfl (x_buildSlice rfl rfl rfl rfl rfl rfl rfl rfl (Nat.le_of_ble_eq_true rfl) (lt_dec rfl) fun b11_1 => ?_)
 refine Ops_x rfl (x_callT en_spec_l01Pick rfl (w_spec_l01Pick (hls := rfl) (L := [0, 0, 1, 2, 4]) hc (And.left (And.left hx7)) (And.right (And.left hx7)) (by decide) (by decide)) (HpDels.cons (((HpDel.head).tail).tail).tail HpDels.nil) (Vw.cons (Vw.rd m3) (Vw.rdW m0 rfl)) (fun _ => (HpDels.cons (((HpDel.head).tail).tail).tail HpDels.nil)) (lt_dec rfl) fun x12_1 hx12 => ?_)
 refine o_as rfl rfl ?_
 refine Ops_nil ?_
 refine W_block ?_
 refine W_loop (α := Int × (Nat → Fin 256) × Nat × Nat) (fun zz0 => ⟨[(0, .ptr sb 0 none), (2, .ptr b2_1 0 none), (3, .ptr b3_1 0 none), (4, .int .i64 (Prod.fst (Prod.snd x7_1))), (5, .int .i64 (zz0.1))], [.row b11_1 5 2 (.ints .i64 [0, 0, 1, 2, 4]), .var b3_1 (.agg [.int .i64 (Prod.fst (Prod.snd x7_1)), .arr8 100 (zz0.2.1)]), .var b2_1 (.agg [.int .i64 0, .arr8 100 fun _ => 0]), .var sb (.agg [.raw cv hcv, .int .i64 (((zz0.2.2.1) : Nat) : Int), .int .u64 (((zz0.2.2.2) : Nat) : Int)]), rd cv (.u8s code)]⟩) (fun zz0 => (0 ≤ (zz0.1) ∧ (zz0.1) ≤ 4) ∧ ((zz0.2.2.1) ≤ code.length ∧ (zz0.2.2.2) < 18446744073709551616) ∧ SqP (Prod.fst (Prod.snd x7_1)) (zz0.2.1)) (fun zz0 => Int.toNat (zz0.1)) (Prod.snd x12_1, (Prod.snd (Prod.snd x7_1)), Prod.fst (Prod.fst x12_1), Prod.snd (Prod.fst x12_1)) ?_ ?_ ?_
 ·exact ⟨pk5 hx12.2, hx12.1, hx7.2⟩
 ·exact Wk.intro (.c rfl (.c rfl (.c rfl (.c rfl (.cons rfl (by first | rfl | exact veq_int (by first | omega | (dsimp only; omega))) .nil))))) (.keep rfl rfl (fun _ h => h) (.keep rfl rfl (fun _ h => h) (.keep rfl rfl (fun _ h => h) (.keep rfl rfl (fun _ h => h) (.keep rfl rfl (fun _ h => h) .nil)))))
 ·rintro ⟨k, t, na, nh⟩ ⟨hk, ⟨hna, hnh⟩, hq⟩
  try dsimp only at *
  refine W_seq ?_
  refine W_seq ?_
  refine W_region ?_
  refine o_mv rfl rfl ?_
  refine Ops_p (p_gtr rfl rfl) (lt_dec rfl) ?_
  refine Ops_nil ?_
  refine W_cond rfl (fun h1 => ?_) (fun h1 => ?_)
  ·try simp only [bs] at h1
   refine W_skip ?_
   refine W_seq ?_
   refine W_block ?_
   refine W_seq ?_
   refine W_seq ?_
   refine W_region ?_
   refine o_mv rfl rfl ?_
   refine Ops_x rfl (x_callT en_spec_l01Next rfl (w_spec_l01Next hc hna hnh) (HpDels.cons (((HpDel.head).tail).tail).tail HpDels.nil) (Vw.rd m3) (fun _ => (HpDels.cons (((HpDel.head).tail).tail).tail HpDels.nil)) (lt_dec rfl) fun x18_1 hx18 => ?_)
   refine Ops_p (p_eql rfl rfl) (lt_dec rfl) ?_
   refine Ops_nil ?_
   refine W_cond rfl (fun h2 => ?_) (fun h2 => ?_)
   ·try simp only [bs] at h2
    refine W_region ?_
    refine Ops_q (q_load rfl rfl m1 rfl (by first | exact True.intro | omega | exact Fin.isLt _ | trivial | (dsimp only; omega))) (lt_dec rfl) ?_
    refine Ops_q (q_call en_spec_l01Opposite rfl (w_spec_l01Opposite) (View.none _)) (lt_dec rfl) ?_
    refine Ops_x rfl (x_store rfl rfl rfl rfl rfl ((HpRep.head).tail) rfl (by first | trivial | (first | (first | omega | (dsimp only; omega)) | exact Fin.isLt _)) ?_)
    refine Ops_nil ?_
    have hn7 := hx7.2.1
    refine W_draw (by kernel_rfl) ?_
    show RA _ _ 15 _ _ _
    refine RA_take 5 rfl rfl rfl (by kernel_rfl) (by kernel_rfl) (by kernel_rfl) (p_move rfl) (lt_dec rfl) ?_
    refine RA_take 6 rfl rfl rfl (by kernel_rfl) (by kernel_rfl) (by kernel_rfl) (p_move rfl) (lt_dec rfl) ?_
    refine RA_take 9 rfl rfl rfl (by kernel_rfl) (by kernel_rfl) (by kernel_rfl) (p_move rfl) (lt_dec rfl) ?_
    refine RA_take 10 rfl rfl rfl (by kernel_rfl) (by kernel_rfl) (by kernel_rfl) (p_move rfl) (lt_dec rfl) ?_
    refine RA_take 1 rfl rfl rfl (by kernel_rfl) (by kernel_rfl) (by kernel_rfl) (p_move rfl) (lt_dec rfl) ?_
    refine RA_take 2 rfl rfl rfl (by kernel_rfl) (by kernel_rfl) (by kernel_rfl) (p_move rfl) (lt_dec rfl) ?_
    refine RA_two 0 3 rfl rfl rfl rfl (by kernel_rfl) ?_ ?_
    ·refine Xt_of_Qt rfl (lt_dec rfl) ((q_load rfl rfl m1 rfl (by first | exact True.intro | omega | exact Fin.isLt _ | trivial | (dsimp only; omega)))) ?_
     refine RA_one 3 rfl rfl (by kernel_rfl) (x_callT en_spec_l01Next rfl (w_spec_l01Next hc (And.left (And.left hx18)) (And.right (And.left hx18))) (HpDels.cons (((HpDel.head).tail).tail).tail HpDels.nil) (Vw.rd m3) (fun _ => (HpDels.cons (((HpDel.head).tail).tail).tail HpDels.nil)) (lt_dec rfl) fun x25_1 hx25 => ?_)
     refine RA_take 4 rfl rfl rfl (by kernel_rfl) (by kernel_rfl) (by kernel_rfl) ((p_conv rfl rfl rfl (by exact ⟨by omega, by omega⟩)).eq (d' := .u8 (Fin.ofNat 256 (Prod.snd x25_1))) (veq_byte (by omega))) (lt_dec rfl) ?_
     refine RA_one 7 rfl rfl (by kernel_rfl) (x_callT en_spec_l01Next rfl (w_spec_l01Next hc (And.left (And.left hx25)) (And.right (And.left hx25))) (HpDels.cons (((HpDel.head).tail).tail).tail HpDels.nil) (Vw.rd m3) (fun _ => (HpDels.cons (((HpDel.head).tail).tail).tail HpDels.nil)) (lt_dec rfl) fun x29_1 hx29 => ?_)
     refine RA_take 8 rfl rfl rfl (by kernel_rfl) (by kernel_rfl) (by kernel_rfl) ((p_conv rfl rfl rfl (by exact ⟨by omega, by omega⟩)).eq (d' := .u8 (Fin.ofNat 256 (Prod.snd x29_1))) (veq_byte (by omega))) (lt_dec rfl) ?_
     refine RA_one 11 rfl rfl (by kernel_rfl) (x_callT en_spec_l01Next rfl (w_spec_l01Next hc (And.left (And.left hx29)) (And.right (And.left hx29))) (HpDels.cons (((HpDel.head).tail).tail).tail HpDels.nil) (Vw.rd m3) (fun _ => (HpDels.cons (((HpDel.head).tail).tail).tail HpDels.nil)) (lt_dec rfl) fun x33_1 hx33 => ?_)
     refine RA_quiet (g := 2) [12] (by kernel_rfl) (by kernel_rfl) (by kernel_rfl) (by kernel_rfl) ?_
     refine WQ_cons rfl rfl rfl (((p_conv rfl rfl rfl (by exact ⟨by omega, by omega⟩)).eq (d' := .u8 (Fin.ofNat 256 (Prod.snd x33_1))) (veq_byte (by omega))).q) (lt_dec rfl) ?_
     refine WQ_nil ?_
     refine RA_one 13 rfl rfl (by kernel_rfl) (x_callT en_spec_l01Switch rfl (w_spec_l01Switch (by first | exact turned_sqI hq | exact hq) (by rw [ofNat_val (by omega)]; omega) (by rw [ofNat_val (by omega)]; omega) (by rw [ofNat_val (by omega)]; omega)) HpDels.nil (Vw.none _) (fun _ => HpDels.nil) (lt_dec rfl) fun x35_1 hx35 => ?_)
     refine RA_one 14 rfl rfl (by kernel_rfl) (x_store rfl rfl rfl rfl rfl ((HpRep.head).tail) rfl (by first | trivial | (first | (first | omega | (dsimp only; omega)) | exact Fin.isLt _)) ?_)
     refine RA_done (by kernel_rfl) ?_
     refine W_region ?_
     refine o_mv rfl rfl ?_
     refine Ops_p (p_sub rfl rfl (by refine ⟨?_, ?_⟩ <;> first | omega | (dsimp only; omega))) (lt_dec rfl) ?_
     refine o_as rfl rfl ?_
     refine Ops_nil ?_
     refine Exists.intro (k - 1, x35_1, Prod.fst (Prod.fst x33_1), Prod.snd (Prod.fst x33_1)) (And.intro ?_ (And.intro ?_ ?_))
     ·exact ⟨by show 0 ≤ k - 1 ∧ k - 1 ≤ 4; omega, hx33.1, hx35⟩
     ·show Int.toNat (_ - 1) < _; omega
     ·exact Wk.intro (.c rfl (.c rfl (.c rfl (.c rfl (.cons rfl (by first | rfl | exact veq_int (by first | omega | (dsimp only; omega))) .nil))))) (.keep rfl rfl (fun _ h => h) (.keep rfl rfl (fun _ h => h) (.keep rfl rfl (fun _ h => h) (.keep rfl rfl (fun _ h => h) (.keep rfl rfl (fun _ h => h) .nil)))))
    ·refine x_callT en_spec_l01Next rfl (w_spec_l01Next hc (And.left (And.left hx18)) (And.right (And.left hx18))) (HpDels.cons (((HpDel.head).tail).tail).tail HpDels.nil) (Vw.rd m3) (fun _ => (HpDels.cons (((HpDel.head).tail).tail).tail HpDels.nil)) (lt_dec rfl) fun x25_1 hx25 => ?_
     refine RA_take 4 rfl rfl rfl (by kernel_rfl) (by kernel_rfl) (by kernel_rfl) ((p_conv rfl rfl rfl (by exact ⟨by omega, by omega⟩)).eq (d' := .u8 (Fin.ofNat 256 (Prod.snd x25_1))) (veq_byte (by omega))) (lt_dec rfl) ?_
     refine RA_two 0 7 rfl rfl rfl rfl (by kernel_rfl) ?_ ?_
     ·refine Xt_of_Qt rfl (lt_dec rfl) ((q_load rfl rfl m1 rfl (by first | exact True.intro | omega | exact Fin.isLt _ | trivial | (dsimp only; omega)))) ?_
      refine RA_one 7 rfl rfl (by kernel_rfl) (x_callT en_spec_l01Next rfl (w_spec_l01Next hc (And.left (And.left hx25)) (And.right (And.left hx25))) (HpDels.cons (((HpDel.head).tail).tail).tail HpDels.nil) (Vw.rd m3) (fun _ => (HpDels.cons (((HpDel.head).tail).tail).tail HpDels.nil)) (lt_dec rfl) fun x29_1 hx29 => ?_)
      refine RA_take 8 rfl rfl rfl (by kernel_rfl) (by kernel_rfl) (by kernel_rfl) ((p_conv rfl rfl rfl (by exact ⟨by omega, by omega⟩)).eq (d' := .u8 (Fin.ofNat 256 (Prod.snd x29_1))) (veq_byte (by omega))) (lt_dec rfl) ?_
      refine RA_one 11 rfl rfl (by kernel_rfl) (x_callT en_spec_l01Next rfl (w_spec_l01Next hc (And.left (And.left hx29)) (And.right (And.left hx29))) (HpDels.cons (((HpDel.head).tail).tail).tail HpDels.nil) (Vw.rd m3) (fun _ => (HpDels.cons (((HpDel.head).tail).tail).tail HpDels.nil)) (lt_dec rfl) fun x33_1 hx33 => ?_)
      refine RA_quiet (g := 2) [12] (by kernel_rfl) (by kernel_rfl) (by kernel_rfl) (by kernel_rfl) ?_
      refine WQ_cons rfl rfl rfl (((p_conv rfl rfl rfl (by exact ⟨by omega, by omega⟩)).eq (d' := .u8 (Fin.ofNat 256 (Prod.snd x33_1))) (veq_byte (by omega))).q) (lt_dec rfl) ?_
      refine WQ_nil ?_
      refine RA_one 13 rfl rfl (by kernel_rfl) (x_callT en_spec_l01Switch rfl (w_spec_l01Switch (by first | exact turned_sqI hq | exact hq) (by rw [ofNat_val (by omega)]; omega) (by rw [ofNat_val (by omega)]; omega) (by rw [ofNat_val (by omega)]; omega)) HpDels.nil (Vw.none _) (fun _ => HpDels.nil) (lt_dec rfl) fun x35_1 hx35 => ?_)
      refine RA_one 14 rfl rfl (by kernel_rfl) (x_store rfl rfl rfl rfl rfl ((HpRep.head).tail) rfl (by first | trivial | (first | (first | omega | (dsimp only; omega)) | exact Fin.isLt _)) ?_)
      refine RA_done (by kernel_rfl) ?_
      refine W_region ?_
      refine o_mv rfl rfl ?_
      refine Ops_p (p_sub rfl rfl (by refine ⟨?_, ?_⟩ <;> first | omega | (dsimp only; omega))) (lt_dec rfl) ?_
      refine o_as rfl rfl ?_
      refine Ops_nil ?_
      refine Exists.intro (k - 1, x35_1, Prod.fst (Prod.fst x33_1), Prod.snd (Prod.fst x33_1)) (And.intro ?_ (And.intro ?_ ?_))
      ·exact ⟨by show 0 ≤ k - 1 ∧ k - 1 ≤ 4; omega, hx33.1, hx35⟩
      ·show Int.toNat (_ - 1) < _; omega
      ·exact Wk.intro (.c rfl (.c rfl (.c rfl (.c rfl (.cons rfl (by first | rfl | exact veq_int (by first | omega | (dsimp only; omega))) .nil))))) (.keep rfl rfl (fun _ h => h) (.keep rfl rfl (fun _ h => h) (.keep rfl rfl (fun _ h => h) (.keep rfl rfl (fun _ h => h) (.keep rfl rfl (fun _ h => h) .nil)))))
     ·refine x_callT en_spec_l01Next rfl (w_spec_l01Next hc (And.left (And.left hx25)) (And.right (And.left hx25))) (HpDels.cons (((HpDel.head).tail).tail).tail HpDels.nil) (Vw.rd m3) (fun _ => (HpDels.cons (((HpDel.head).tail).tail).tail HpDels.nil)) (lt_dec rfl) fun x29_1 hx29 => ?_
      refine RA_take 8 rfl rfl rfl (by kernel_rfl) (by kernel_rfl) (by kernel_rfl) ((p_conv rfl rfl rfl (by exact ⟨by omega, by omega⟩)).eq (d' := .u8 (Fin.ofNat 256 (Prod.snd x29_1))) (veq_byte (by omega))) (lt_dec rfl) ?_
      refine RA_two 0 11 rfl rfl rfl rfl (by kernel_rfl) ?_ ?_
      ·refine Xt_of_Qt rfl (lt_dec rfl) ((q_load rfl rfl m1 rfl (by first | exact True.intro | omega | exact Fin.isLt _ | trivial | (dsimp only; omega)))) ?_
       refine RA_one 11 rfl rfl (by kernel_rfl) (x_callT en_spec_l01Next rfl (w_spec_l01Next hc (And.left (And.left hx29)) (And.right (And.left hx29))) (HpDels.cons (((HpDel.head).tail).tail).tail HpDels.nil) (Vw.rd m3) (fun _ => (HpDels.cons (((HpDel.head).tail).tail).tail HpDels.nil)) (lt_dec rfl) fun x33_1 hx33 => ?_)
       refine RA_quiet (g := 2) [12] (by kernel_rfl) (by kernel_rfl) (by kernel_rfl) (by kernel_rfl) ?_
       refine WQ_cons rfl rfl rfl (((p_conv rfl rfl rfl (by exact ⟨by omega, by omega⟩)).eq (d' := .u8 (Fin.ofNat 256 (Prod.snd x33_1))) (veq_byte (by omega))).q) (lt_dec rfl) ?_
       refine WQ_nil ?_
       refine RA_one 13 rfl rfl (by kernel_rfl) (x_callT en_spec_l01Switch rfl (w_spec_l01Switch (by first | exact turned_sqI hq | exact hq) (by rw [ofNat_val (by omega)]; omega) (by rw [ofNat_val (by omega)]; omega) (by rw [ofNat_val (by omega)]; omega)) HpDels.nil (Vw.none _) (fun _ => HpDels.nil) (lt_dec rfl) fun x35_1 hx35 => ?_)
       refine RA_one 14 rfl rfl (by kernel_rfl) (x_store rfl rfl rfl rfl rfl ((HpRep.head).tail) rfl (by first | trivial | (first | (first | omega | (dsimp only; omega)) | exact Fin.isLt _)) ?_)
       refine RA_done (by kernel_rfl) ?_
       refine W_region ?_
       refine o_mv rfl rfl ?_
       refine Ops_p (p_sub rfl rfl (by refine ⟨?_, ?_⟩ <;> first | omega | (dsimp only; omega))) (lt_dec rfl) ?_
       refine o_as rfl rfl ?_
       refine Ops_nil ?_
       refine Exists.intro (k - 1, x35_1, Prod.fst (Prod.fst x33_1), Prod.snd (Prod.fst x33_1)) (And.intro ?_ (And.intro ?_ ?_))
       ·exact ⟨by show 0 ≤ k - 1 ∧ k - 1 ≤ 4; omega, hx33.1, hx35⟩
       ·show Int.toNat (_ - 1) < _; omega
       ·exact Wk.intro (.c rfl (.c rfl (.c rfl (.c rfl (.cons rfl (by first | rfl | exact veq_int (by first | omega | (dsimp only; omega))) .nil))))) (.keep rfl rfl (fun _ h => h) (.keep rfl rfl (fun _ h => h) (.keep rfl rfl (fun _ h => h) (.keep rfl rfl (fun _ h => h) (.keep rfl rfl (fun _ h => h) .nil)))))
      ·refine x_callT en_spec_l01Next rfl (w_spec_l01Next hc (And.left (And.left hx29)) (And.right (And.left hx29))) (HpDels.cons (((HpDel.head).tail).tail).tail HpDels.nil) (Vw.rd m3) (fun _ => (HpDels.cons (((HpDel.head).tail).tail).tail HpDels.nil)) (lt_dec rfl) fun x33_1 hx33 => ?_
       refine RA_quiet (g := 2) [0, 12] (by kernel_rfl) (by kernel_rfl) (by kernel_rfl) (by kernel_rfl) ?_
       refine WQ_cons rfl rfl rfl ((q_load rfl rfl m1 rfl (by first | exact True.intro | omega | exact Fin.isLt _ | trivial | (dsimp only; omega)))) (lt_dec rfl) ?_
       refine WQ_cons rfl rfl rfl (((p_conv rfl rfl rfl (by exact ⟨by omega, by omega⟩)).eq (d' := .u8 (Fin.ofNat 256 (Prod.snd x33_1))) (veq_byte (by omega))).q) (lt_dec rfl) ?_
       refine WQ_nil ?_
       refine RA_one 13 rfl rfl (by kernel_rfl) (x_callT en_spec_l01Switch rfl (w_spec_l01Switch (by first | exact turned_sqI hq | exact hq) (by rw [ofNat_val (by omega)]; omega) (by rw [ofNat_val (by omega)]; omega) (by rw [ofNat_val (by omega)]; omega)) HpDels.nil (Vw.none _) (fun _ => HpDels.nil) (lt_dec rfl) fun x35_1 hx35 => ?_)
       refine RA_one 14 rfl rfl (by kernel_rfl) (x_store rfl rfl rfl rfl rfl ((HpRep.head).tail) rfl (by first | trivial | (first | (first | omega | (dsimp only; omega)) | exact Fin.isLt _)) ?_)
       refine RA_done (by kernel_rfl) ?_
       refine W_region ?_
       refine o_mv rfl rfl ?_
       refine Ops_p (p_sub rfl rfl (by refine ⟨?_, ?_⟩ <;> first | omega | (dsimp only; omega))) (lt_dec rfl) ?_
       refine o_as rfl rfl ?_
       refine Ops_nil ?_
       refine Exists.intro (k - 1, x35_1, Prod.fst (Prod.fst x33_1), Prod.snd (Prod.fst x33_1)) (And.intro ?_ (And.intro ?_ ?_))
       ·exact ⟨by show 0 ≤ k - 1 ∧ k - 1 ≤ 4; omega, hx33.1, hx35⟩
       ·show Int.toNat (_ - 1) < _; omega
       ·exact Wk.intro (.c rfl (.c rfl (.c rfl (.c rfl (.cons rfl (by first | rfl | exact veq_int (by first | omega | (dsimp only; omega))) .nil))))) (.keep rfl rfl (fun _ h => h) (.keep rfl rfl (fun _ h => h) (.keep rfl rfl (fun _ h => h) (.keep rfl rfl (fun _ h => h) (.keep rfl rfl (fun _ h => h) .nil)))))
   ·try simp only [bs] at h2
    refine W_skip ?_
    have hn7 := hx7.2.1
    refine W_draw (by kernel_rfl) ?_
    show RA _ _ 15 _ _ _
    refine RA_take 5 rfl rfl rfl (by kernel_rfl) (by kernel_rfl) (by kernel_rfl) (p_move rfl) (lt_dec rfl) ?_
    refine RA_take 6 rfl rfl rfl (by kernel_rfl) (by kernel_rfl) (by kernel_rfl) (p_move rfl) (lt_dec rfl) ?_
    refine RA_take 9 rfl rfl rfl (by kernel_rfl) (by kernel_rfl) (by kernel_rfl) (p_move rfl) (lt_dec rfl) ?_
    refine RA_take 10 rfl rfl rfl (by kernel_rfl) (by kernel_rfl) (by kernel_rfl) (p_move rfl) (lt_dec rfl) ?_
    refine RA_take 1 rfl rfl rfl (by kernel_rfl) (by kernel_rfl) (by kernel_rfl) (p_move rfl) (lt_dec rfl) ?_
    refine RA_take 2 rfl rfl rfl (by kernel_rfl) (by kernel_rfl) (by kernel_rfl) (p_move rfl) (lt_dec rfl) ?_
    refine RA_two 0 3 rfl rfl rfl rfl (by kernel_rfl) ?_ ?_
    ·refine Xt_of_Qt rfl (lt_dec rfl) ((q_load rfl rfl m1 rfl (by first | exact True.intro | omega | exact Fin.isLt _ | trivial | (dsimp only; omega)))) ?_
     refine RA_one 3 rfl rfl (by kernel_rfl) (x_callT en_spec_l01Next rfl (w_spec_l01Next hc (And.left (And.left hx18)) (And.right (And.left hx18))) (HpDels.cons (((HpDel.head).tail).tail).tail HpDels.nil) (Vw.rd m3) (fun _ => (HpDels.cons (((HpDel.head).tail).tail).tail HpDels.nil)) (lt_dec rfl) fun x25_1 hx25 => ?_)
     refine RA_take 4 rfl rfl rfl (by kernel_rfl) (by kernel_rfl) (by kernel_rfl) ((p_conv rfl rfl rfl (by exact ⟨by omega, by omega⟩)).eq (d' := .u8 (Fin.ofNat 256 (Prod.snd x25_1))) (veq_byte (by omega))) (lt_dec rfl) ?_
     refine RA_one 7 rfl rfl (by kernel_rfl) (x_callT en_spec_l01Next rfl (w_spec_l01Next hc (And.left (And.left hx25)) (And.right (And.left hx25))) (HpDels.cons (((HpDel.head).tail).tail).tail HpDels.nil) (Vw.rd m3) (fun _ => (HpDels.cons (((HpDel.head).tail).tail).tail HpDels.nil)) (lt_dec rfl) fun x29_1 hx29 => ?_)
     refine RA_take 8 rfl rfl rfl (by kernel_rfl) (by kernel_rfl) (by kernel_rfl) ((p_conv rfl rfl rfl (by exact ⟨by omega, by omega⟩)).eq (d' := .u8 (Fin.ofNat 256 (Prod.snd x29_1))) (veq_byte (by omega))) (lt_dec rfl) ?_
     refine RA_one 11 rfl rfl (by kernel_rfl) (x_callT en_spec_l01Next rfl (w_spec_l01Next hc (And.left (And.left hx29)) (And.right (And.left hx29))) (HpDels.cons (((HpDel.head).tail).tail).tail HpDels.nil) (Vw.rd m3) (fun _ => (HpDels.cons (((HpDel.head).tail).tail).tail HpDels.nil)) (lt_dec rfl) fun x33_1 hx33 => ?_)
     refine RA_quiet (g := 2) [12] (by kernel_rfl) (by kernel_rfl) (by kernel_rfl) (by kernel_rfl) ?_
     refine WQ_cons rfl rfl rfl (((p_conv rfl rfl rfl (by exact ⟨by omega, by omega⟩)).eq (d' := .u8 (Fin.ofNat 256 (Prod.snd x33_1))) (veq_byte (by omega))).q) (lt_dec rfl) ?_
     refine WQ_nil ?_
     refine RA_one 13 rfl rfl (by kernel_rfl) (x_callT en_spec_l01Switch rfl (w_spec_l01Switch (by first | exact turned_sqI hq | exact hq) (by rw [ofNat_val (by omega)]; omega) (by rw [ofNat_val (by omega)]; omega) (by rw [ofNat_val (by omega)]; omega)) HpDels.nil (Vw.none _) (fun _ => HpDels.nil) (lt_dec rfl) fun x35_1 hx35 => ?_)
     refine RA_one 14 rfl rfl (by kernel_rfl) (x_store rfl rfl rfl rfl rfl ((HpRep.head).tail) rfl (by first | trivial | (first | (first | omega | (dsimp only; omega)) | exact Fin.isLt _)) ?_)
     refine RA_done (by kernel_rfl) ?_
     refine W_region ?_
     refine o_mv rfl rfl ?_
     refine Ops_p (p_sub rfl rfl (by refine ⟨?_, ?_⟩ <;> first | omega | (dsimp only; omega))) (lt_dec rfl) ?_
     refine o_as rfl rfl ?_
     refine Ops_nil ?_
     refine Exists.intro (k - 1, x35_1, Prod.fst (Prod.fst x33_1), Prod.snd (Prod.fst x33_1)) (And.intro ?_ (And.intro ?_ ?_))
     ·exact ⟨by show 0 ≤ k - 1 ∧ k - 1 ≤ 4; omega, hx33.1, hx35⟩
     ·show Int.toNat (_ - 1) < _; omega
     ·exact Wk.intro (.c rfl (.c rfl (.c rfl (.c rfl (.cons rfl (by first | rfl | exact veq_int (by first | omega | (dsimp only; omega))) .nil))))) (.keep rfl rfl (fun _ h => h) (.keep rfl rfl (fun _ h => h) (.keep rfl rfl (fun _ h => h) (.keep rfl rfl (fun _ h => h) (.keep rfl rfl (fun _ h => h) .nil)))))
    ·refine x_callT en_spec_l01Next rfl (w_spec_l01Next hc (And.left (And.left hx18)) (And.right (And.left hx18))) (HpDels.cons (((HpDel.head).tail).tail).tail HpDels.nil) (Vw.rd m3) (fun _ => (HpDels.cons (((HpDel.head).tail).tail).tail HpDels.nil)) (lt_dec rfl) fun x25_1 hx25 => ?_
     refine RA_take 4 rfl rfl rfl (by kernel_rfl) (by kernel_rfl) (by kernel_rfl) ((p_conv rfl rfl rfl (by exact ⟨by omega, by omega⟩)).eq (d' := .u8 (Fin.ofNat 256 (Prod.snd x25_1))) (veq_byte (by omega))) (lt_dec rfl) ?_
     refine RA_two 0 7 rfl rfl rfl rfl (by kernel_rfl) ?_ ?_
     ·refine Xt_of_Qt rfl (lt_dec rfl) ((q_load rfl rfl m1 rfl (by first | exact True.intro | omega | exact Fin.isLt _ | trivial | (dsimp only; omega)))) ?_
      refine RA_one 7 rfl rfl (by kernel_rfl) (x_callT en_spec_l01Next rfl (w_spec_l01Next hc (And.left (And.left hx25)) (And.right (And.left hx25))) (HpDels.cons (((HpDel.head).tail).tail).tail HpDels.nil) (Vw.rd m3) (fun _ => (HpDels.cons (((HpDel.head).tail).tail).tail HpDels.nil)) (lt_dec rfl) fun x29_1 hx29 => ?_)
      refine RA_take 8 rfl rfl rfl (by kernel_rfl) (by kernel_rfl) (by kernel_rfl) ((p_conv rfl rfl rfl (by exact ⟨by omega, by omega⟩)).eq (d' := .u8 (Fin.ofNat 256 (Prod.snd x29_1))) (veq_byte (by omega))) (lt_dec rfl) ?_
      refine RA_one 11 rfl rfl (by kernel_rfl) (x_callT en_spec_l01Next rfl (w_spec_l01Next hc (And.left (And.left hx29)) (And.right (And.left hx29))) (HpDels.cons (((HpDel.head).tail).tail).tail HpDels.nil) (Vw.rd m3) (fun _ => (HpDels.cons (((HpDel.head).tail).tail).tail HpDels.nil)) (lt_dec rfl) fun x33_1 hx33 => ?_)
      refine RA_quiet (g := 2) [12] (by kernel_rfl) (by kernel_rfl) (by kernel_rfl) (by kernel_rfl) ?_
      refine WQ_cons rfl rfl rfl (((p_conv rfl rfl rfl (by exact ⟨by omega, by omega⟩)).eq (d' := .u8 (Fin.ofNat 256 (Prod.snd x33_1))) (veq_byte (by omega))).q) (lt_dec rfl) ?_
      refine WQ_nil ?_
      refine RA_one 13 rfl rfl (by kernel_rfl) (x_callT en_spec_l01Switch rfl (w_spec_l01Switch (by first | exact turned_sqI hq | exact hq) (by rw [ofNat_val (by omega)]; omega) (by rw [ofNat_val (by omega)]; omega) (by rw [ofNat_val (by omega)]; omega)) HpDels.nil (Vw.none _) (fun _ => HpDels.nil) (lt_dec rfl) fun x35_1 hx35 => ?_)
      refine RA_one 14 rfl rfl (by kernel_rfl) (x_store rfl rfl rfl rfl rfl ((HpRep.head).tail) rfl (by first | trivial | (first | (first | omega | (dsimp only; omega)) | exact Fin.isLt _)) ?_)
      refine RA_done (by kernel_rfl) ?_
      refine W_region ?_
      refine o_mv rfl rfl ?_
      refine Ops_p (p_sub rfl rfl (by refine ⟨?_, ?_⟩ <;> first | omega | (dsimp only; omega))) (lt_dec rfl) ?_
      refine o_as rfl rfl ?_
      refine Ops_nil ?_
      refine Exists.intro (k - 1, x35_1, Prod.fst (Prod.fst x33_1), Prod.snd (Prod.fst x33_1)) (And.intro ?_ (And.intro ?_ ?_))
      ·exact ⟨by show 0 ≤ k - 1 ∧ k - 1 ≤ 4; omega, hx33.1, hx35⟩
      ·show Int.toNat (_ - 1) < _; omega
      ·exact Wk.intro (.c rfl (.c rfl (.c rfl (.c rfl (.cons rfl (by first | rfl | exact veq_int (by first | omega | (dsimp only; omega))) .nil))))) (.keep rfl rfl (fun _ h => h) (.keep rfl rfl (fun _ h => h) (.keep rfl rfl (fun _ h => h) (.keep rfl rfl (fun _ h => h) (.keep rfl rfl (fun _ h => h) .nil)))))
     ·refine x_callT en_spec_l01Next rfl (w_spec_l01Next hc (And.left (And.left hx25)) (And.right (And.left hx25))) (HpDels.cons (((HpDel.head).tail).tail).tail HpDels.nil) (Vw.rd m3) (fun _ => (HpDels.cons (((HpDel.head).tail).tail).tail HpDels.nil)) (lt_dec rfl) fun x29_1 hx29 => ?_
      refine RA_take 8 rfl rfl rfl (by kernel_rfl) (by kernel_rfl) (by kernel_rfl) ((p_conv rfl rfl rfl (by exact ⟨by omega, by omega⟩)).eq (d' := .u8 (Fin.ofNat 256 (Prod.snd x29_1))) (veq_byte (by omega))) (lt_dec rfl) ?_
      refine RA_two 0 11 rfl rfl rfl rfl (by kernel_rfl) ?_ ?_
      ·refine Xt_of_Qt rfl (lt_dec rfl) ((q_load rfl rfl m1 rfl (by first | exact True.intro | omega | exact Fin.isLt _ | trivial | (dsimp only; omega)))) ?_
       refine RA_one 11 rfl rfl (by kernel_rfl) (x_callT en_spec_l01Next rfl (w_spec_l01Next hc (And.left (And.left hx29)) (And.right (And.left hx29))) (HpDels.cons (((HpDel.head).tail).tail).tail HpDels.nil) (Vw.rd m3) (fun _ => (HpDels.cons (((HpDel.head).tail).tail).tail HpDels.nil)) (lt_dec rfl) fun x33_1 hx33 => ?_)
       refine RA_quiet (g := 2) [12] (by kernel_rfl) (by kernel_rfl) (by kernel_rfl) (by kernel_rfl) ?_
       refine WQ_cons rfl rfl rfl (((p_conv rfl rfl rfl (by exact ⟨by omega, by omega⟩)).eq (d' := .u8 (Fin.ofNat 256 (Prod.snd x33_1))) (veq_byte (by omega))).q) (lt_dec rfl) ?_
       refine WQ_nil ?_
       refine RA_one 13 rfl rfl (by kernel_rfl) (x_callT en_spec_l01Switch rfl (w_spec_l01Switch (by first | exact turned_sqI hq | exact hq) (by rw [ofNat_val (by omega)]; omega) (by rw [ofNat_val (by omega)]; omega) (by rw [ofNat_val (by omega)]; omega)) HpDels.nil (Vw.none _) (fun _ => HpDels.nil) (lt_dec rfl) fun x35_1 hx35 => ?_)
       refine RA_one 14 rfl rfl (by kernel_rfl) (x_store rfl rfl rfl rfl rfl ((HpRep.head).tail) rfl (by first | trivial | (first | (first | omega | (dsimp only; omega)) | exact Fin.isLt _)) ?_)
       refine RA_done (by kernel_rfl) ?_
       refine W_region ?_
       refine o_mv rfl rfl ?_
       refine Ops_p (p_sub rfl rfl (by refine ⟨?_, ?_⟩ <;> first | omega | (dsimp only; omega))) (lt_dec rfl) ?_
       refine o_as rfl rfl ?_
       refine Ops_nil ?_
       refine Exists.intro (k - 1, x35_1, Prod.fst (Prod.fst x33_1), Prod.snd (Prod.fst x33_1)) (And.intro ?_ (And.intro ?_ ?_))
       ·exact ⟨by show 0 ≤ k - 1 ∧ k - 1 ≤ 4; omega, hx33.1, hx35⟩
       ·show Int.toNat (_ - 1) < _; omega
       ·exact Wk.intro (.c rfl (.c rfl (.c rfl (.c rfl (.cons rfl (by first | rfl | exact veq_int (by first | omega | (dsimp only; omega))) .nil))))) (.keep rfl rfl (fun _ h => h) (.keep rfl rfl (fun _ h => h) (.keep rfl rfl (fun _ h => h) (.keep rfl rfl (fun _ h => h) (.keep rfl rfl (fun _ h => h) .nil)))))
      ·refine x_callT en_spec_l01Next rfl (w_spec_l01Next hc (And.left (And.left hx29)) (And.right (And.left hx29))) (HpDels.cons (((HpDel.head).tail).tail).tail HpDels.nil) (Vw.rd m3) (fun _ => (HpDels.cons (((HpDel.head).tail).tail).tail HpDels.nil)) (lt_dec rfl) fun x33_1 hx33 => ?_
       refine RA_quiet (g := 2) [0, 12] (by kernel_rfl) (by kernel_rfl) (by kernel_rfl) (by kernel_rfl) ?_
       refine WQ_cons rfl rfl rfl ((q_load rfl rfl m1 rfl (by first | exact True.intro | omega | exact Fin.isLt _ | trivial | (dsimp only; omega)))) (lt_dec rfl) ?_
       refine WQ_cons rfl rfl rfl (((p_conv rfl rfl rfl (by exact ⟨by omega, by omega⟩)).eq (d' := .u8 (Fin.ofNat 256 (Prod.snd x33_1))) (veq_byte (by omega))).q) (lt_dec rfl) ?_
       refine WQ_nil ?_
       refine RA_one 13 rfl rfl (by kernel_rfl) (x_callT en_spec_l01Switch rfl (w_spec_l01Switch (by first | exact turned_sqI hq | exact hq) (by rw [ofNat_val (by omega)]; omega) (by rw [ofNat_val (by omega)]; omega) (by rw [ofNat_val (by omega)]; omega)) HpDels.nil (Vw.none _) (fun _ => HpDels.nil) (lt_dec rfl) fun x35_1 hx35 => ?_)
       refine RA_one 14 rfl rfl (by kernel_rfl) (x_store rfl rfl rfl rfl rfl ((HpRep.head).tail) rfl (by first | trivial | (first | (first | omega | (dsimp only; omega)) | exact Fin.isLt _)) ?_)
       refine RA_done (by kernel_rfl) ?_
       refine W_region ?_
       refine o_mv rfl rfl ?_
       refine Ops_p (p_sub rfl rfl (by refine ⟨?_, ?_⟩ <;> first | omega | (dsimp only; omega))) (lt_dec rfl) ?_
       refine o_as rfl rfl ?_
       refine Ops_nil ?_
       refine Exists.intro (k - 1, x35_1, Prod.fst (Prod.fst x33_1), Prod.snd (Prod.fst x33_1)) (And.intro ?_ (And.intro ?_ ?_))
       ·exact ⟨by show 0 ≤ k - 1 ∧ k - 1 ≤ 4; omega, hx33.1, hx35⟩
       ·show Int.toNat (_ - 1) < _; omega
       ·exact Wk.intro (.c rfl (.c rfl (.c rfl (.c rfl (.cons rfl (by first | rfl | exact veq_int (by first | omega | (dsimp only; omega))) .nil))))) (.keep rfl rfl (fun _ h => h) (.keep rfl rfl (fun _ h => h) (.keep rfl rfl (fun _ h => h) (.keep rfl rfl (fun _ h => h) (.keep rfl rfl (fun _ h => h) .nil)))))
  ·try simp only [bs] at h1
   refine W_exit ?_
   refine W_seq ?_
   refine W_seq ?_
   refine W_region ?_
   refine o_mv rfl rfl ?_
   refine Ops_x rfl (x_callT en_spec_l01Next rfl (w_spec_l01Next hc hna hnh) (HpDels.cons (((HpDel.head).tail).tail).tail HpDels.nil) (Vw.rd m3) (fun _ => (HpDels.cons (((HpDel.head).tail).tail).tail HpDels.nil)) (lt_dec rfl) fun x37_1 hx37 => ?_)
   refine Ops_p (p_eql rfl rfl) (lt_dec rfl) ?_
   refine Ops_nil ?_
   refine W_cond rfl (fun h3 => ?_) (fun h3 => ?_)
   ·try simp only [bs] at h3
    refine W_draw (by kernel_rfl) ?_
    show RA _ _ 12 _ _ _
    refine RA_take 4 rfl rfl rfl (by kernel_rfl) (by kernel_rfl) (by kernel_rfl) (p_move rfl) (lt_dec rfl) ?_
    refine RA_take 5 rfl rfl rfl (by kernel_rfl) (by kernel_rfl) (by kernel_rfl) (p_move rfl) (lt_dec rfl) ?_
    refine RA_take 7 rfl rfl rfl (by kernel_rfl) (by kernel_rfl) (by kernel_rfl) (p_move rfl) (lt_dec rfl) ?_
    refine RA_take 8 rfl rfl rfl (by kernel_rfl) (by kernel_rfl) (by kernel_rfl) (p_move rfl) (lt_dec rfl) ?_
    refine RA_take 1 rfl rfl rfl (by kernel_rfl) (by kernel_rfl) (by kernel_rfl) (p_move rfl) (lt_dec rfl) ?_
    refine RA_take 2 rfl rfl rfl (by kernel_rfl) (by kernel_rfl) (by kernel_rfl) (p_move rfl) (lt_dec rfl) ?_
    refine RA_two 0 3 rfl rfl rfl rfl (by kernel_rfl) ?_ ?_
    ·refine Xt_of_Qt rfl (lt_dec rfl) ((q_load rfl rfl m1 rfl (by first | exact True.intro | omega | exact Fin.isLt _ | trivial | (dsimp only; omega)))) ?_
     refine RA_one 3 rfl rfl (by kernel_rfl) (x_callT en_spec_l01DrawPlaces rfl (w_spec_l01DrawPlaces hc (And.left (And.left hx37)) (And.right (And.left hx37)) hq.1) (HpDels.cons (((HpDel.head).tail).tail).tail HpDels.nil) (Vw.rd m3) (fun _ => (HpDels.cons (((HpDel.head).tail).tail).tail HpDels.nil)) (lt_dec rfl) fun x42_1 hx42 => ?_)
     refine RA_one 6 rfl rfl (by kernel_rfl) (x_callT en_spec_l01DrawPlaces rfl (w_spec_l01DrawPlaces hc (And.left (And.left hx42)) (And.right (And.left hx42)) hq.1) (HpDels.cons (((HpDel.head).tail).tail).tail HpDels.nil) (Vw.rd m3) (fun _ => (HpDels.cons (((HpDel.head).tail).tail).tail HpDels.nil)) (lt_dec rfl) fun x45_1 hx45 => ?_)
     refine RA_one 9 rfl rfl (by kernel_rfl) (x_callT en_spec_l01DrawPlaces rfl (w_spec_l01DrawPlaces hc (And.left (And.left hx45)) (And.right (And.left hx45)) hq.1) (HpDels.cons (((HpDel.head).tail).tail).tail HpDels.nil) (Vw.rd m3) (fun _ => (HpDels.cons (((HpDel.head).tail).tail).tail HpDels.nil)) (lt_dec rfl) fun x48_1 hx48 => ?_)
     refine RA_quiet (g := 1) [10] (by kernel_rfl) (by kernel_rfl) (by kernel_rfl) (by kernel_rfl) ?_
     refine WQ_cons rfl rfl rfl ((q_call en_spec_l01Moved rfl (w_spec_l01Moved hq hx42.2 hx45.2 hx48.2) (View.none _))) (lt_dec rfl) ?_
     refine WQ_nil ?_
     refine RA_one 11 rfl rfl (by kernel_rfl) (x_store rfl rfl rfl rfl rfl ((HpRep.head).tail) rfl (by first | trivial | (first | (first | omega | (dsimp only; omega)) | exact Fin.isLt _)) ?_)
     refine RA_done (by kernel_rfl) ?_
     refine W_seq ?_
     refine W_region ?_
     refine Ops_q (q_load rfl rfl m1 rfl (by first | exact True.intro | omega | exact Fin.isLt _ | trivial | (dsimp only; omega))) (lt_dec rfl) ?_
     refine Ops_x rfl (x_callT en_spec_l01Ordered rfl (w_spec_l01Ordered (by first | exact iso_sqI hq hx42.2 hx45.2 hx48.2 | exact hq)) HpDels.nil (Vw.none _) (fun _ => HpDels.nil) (lt_dec rfl) fun x51_1 hx51 => ?_)
     refine Ops_x rfl (x_store rfl rfl rfl rfl rfl (((HpRep.head).tail).tail) rfl (by first | trivial | (first | (first | omega | (dsimp only; omega)) | exact Fin.isLt _)) ?_)
     refine Ops_nil ?_
     refine W_ret ?_
     refine Exists.intro _ (And.intro (.cons (.cell rfl rfl m2 rfl trivial) .nil) (Exists.intro (((Prod.fst (Prod.fst x48_1)), (Prod.snd (Prod.fst x48_1))), ((Prod.fst (Prod.snd x7_1)), x51_1)) (And.intro ?_ (And.intro ?_ (And.intro (.cons (((HpDel.head).tail).tail).tail rfl (fun _ h => h) .nil) rfl)))))
     ·exact ⟨And.left hx48, hx51⟩
     ·rfl
    ·refine x_callT en_spec_l01DrawPlaces rfl (w_spec_l01DrawPlaces hc (And.left (And.left hx37)) (And.right (And.left hx37)) hq.1) (HpDels.cons (((HpDel.head).tail).tail).tail HpDels.nil) (Vw.rd m3) (fun _ => (HpDels.cons (((HpDel.head).tail).tail).tail HpDels.nil)) (lt_dec rfl) fun x42_1 hx42 => ?_
     refine RA_two 0 6 rfl rfl rfl rfl (by kernel_rfl) ?_ ?_
     ·refine Xt_of_Qt rfl (lt_dec rfl) ((q_load rfl rfl m1 rfl (by first | exact True.intro | omega | exact Fin.isLt _ | trivial | (dsimp only; omega)))) ?_
      refine RA_one 6 rfl rfl (by kernel_rfl) (x_callT en_spec_l01DrawPlaces rfl (w_spec_l01DrawPlaces hc (And.left (And.left hx42)) (And.right (And.left hx42)) hq.1) (HpDels.cons (((HpDel.head).tail).tail).tail HpDels.nil) (Vw.rd m3) (fun _ => (HpDels.cons (((HpDel.head).tail).tail).tail HpDels.nil)) (lt_dec rfl) fun x45_1 hx45 => ?_)
      refine RA_one 9 rfl rfl (by kernel_rfl) (x_callT en_spec_l01DrawPlaces rfl (w_spec_l01DrawPlaces hc (And.left (And.left hx45)) (And.right (And.left hx45)) hq.1) (HpDels.cons (((HpDel.head).tail).tail).tail HpDels.nil) (Vw.rd m3) (fun _ => (HpDels.cons (((HpDel.head).tail).tail).tail HpDels.nil)) (lt_dec rfl) fun x48_1 hx48 => ?_)
      refine RA_quiet (g := 1) [10] (by kernel_rfl) (by kernel_rfl) (by kernel_rfl) (by kernel_rfl) ?_
      refine WQ_cons rfl rfl rfl ((q_call en_spec_l01Moved rfl (w_spec_l01Moved hq hx42.2 hx45.2 hx48.2) (View.none _))) (lt_dec rfl) ?_
      refine WQ_nil ?_
      refine RA_one 11 rfl rfl (by kernel_rfl) (x_store rfl rfl rfl rfl rfl ((HpRep.head).tail) rfl (by first | trivial | (first | (first | omega | (dsimp only; omega)) | exact Fin.isLt _)) ?_)
      refine RA_done (by kernel_rfl) ?_
      refine W_seq ?_
      refine W_region ?_
      refine Ops_q (q_load rfl rfl m1 rfl (by first | exact True.intro | omega | exact Fin.isLt _ | trivial | (dsimp only; omega))) (lt_dec rfl) ?_
      refine Ops_x rfl (x_callT en_spec_l01Ordered rfl (w_spec_l01Ordered (by first | exact iso_sqI hq hx42.2 hx45.2 hx48.2 | exact hq)) HpDels.nil (Vw.none _) (fun _ => HpDels.nil) (lt_dec rfl) fun x51_1 hx51 => ?_)
      refine Ops_x rfl (x_store rfl rfl rfl rfl rfl (((HpRep.head).tail).tail) rfl (by first | trivial | (first | (first | omega | (dsimp only; omega)) | exact Fin.isLt _)) ?_)
      refine Ops_nil ?_
      refine W_ret ?_
      refine Exists.intro _ (And.intro (.cons (.cell rfl rfl m2 rfl trivial) .nil) (Exists.intro (((Prod.fst (Prod.fst x48_1)), (Prod.snd (Prod.fst x48_1))), ((Prod.fst (Prod.snd x7_1)), x51_1)) (And.intro ?_ (And.intro ?_ (And.intro (.cons (((HpDel.head).tail).tail).tail rfl (fun _ h => h) .nil) rfl)))))
      ·exact ⟨And.left hx48, hx51⟩
      ·rfl
     ·refine x_callT en_spec_l01DrawPlaces rfl (w_spec_l01DrawPlaces hc (And.left (And.left hx42)) (And.right (And.left hx42)) hq.1) (HpDels.cons (((HpDel.head).tail).tail).tail HpDels.nil) (Vw.rd m3) (fun _ => (HpDels.cons (((HpDel.head).tail).tail).tail HpDels.nil)) (lt_dec rfl) fun x45_1 hx45 => ?_
      refine RA_two 0 9 rfl rfl rfl rfl (by kernel_rfl) ?_ ?_
      ·refine Xt_of_Qt rfl (lt_dec rfl) ((q_load rfl rfl m1 rfl (by first | exact True.intro | omega | exact Fin.isLt _ | trivial | (dsimp only; omega)))) ?_
       refine RA_one 9 rfl rfl (by kernel_rfl) (x_callT en_spec_l01DrawPlaces rfl (w_spec_l01DrawPlaces hc (And.left (And.left hx45)) (And.right (And.left hx45)) hq.1) (HpDels.cons (((HpDel.head).tail).tail).tail HpDels.nil) (Vw.rd m3) (fun _ => (HpDels.cons (((HpDel.head).tail).tail).tail HpDels.nil)) (lt_dec rfl) fun x48_1 hx48 => ?_)
       refine RA_quiet (g := 1) [10] (by kernel_rfl) (by kernel_rfl) (by kernel_rfl) (by kernel_rfl) ?_
       refine WQ_cons rfl rfl rfl ((q_call en_spec_l01Moved rfl (w_spec_l01Moved hq hx42.2 hx45.2 hx48.2) (View.none _))) (lt_dec rfl) ?_
       refine WQ_nil ?_
       refine RA_one 11 rfl rfl (by kernel_rfl) (x_store rfl rfl rfl rfl rfl ((HpRep.head).tail) rfl (by first | trivial | (first | (first | omega | (dsimp only; omega)) | exact Fin.isLt _)) ?_)
       refine RA_done (by kernel_rfl) ?_
       refine W_seq ?_
       refine W_region ?_
       refine Ops_q (q_load rfl rfl m1 rfl (by first | exact True.intro | omega | exact Fin.isLt _ | trivial | (dsimp only; omega))) (lt_dec rfl) ?_
       refine Ops_x rfl (x_callT en_spec_l01Ordered rfl (w_spec_l01Ordered (by first | exact iso_sqI hq hx42.2 hx45.2 hx48.2 | exact hq)) HpDels.nil (Vw.none _) (fun _ => HpDels.nil) (lt_dec rfl) fun x51_1 hx51 => ?_)
       refine Ops_x rfl (x_store rfl rfl rfl rfl rfl (((HpRep.head).tail).tail) rfl (by first | trivial | (first | (first | omega | (dsimp only; omega)) | exact Fin.isLt _)) ?_)
       refine Ops_nil ?_
       refine W_ret ?_
       refine Exists.intro _ (And.intro (.cons (.cell rfl rfl m2 rfl trivial) .nil) (Exists.intro (((Prod.fst (Prod.fst x48_1)), (Prod.snd (Prod.fst x48_1))), ((Prod.fst (Prod.snd x7_1)), x51_1)) (And.intro ?_ (And.intro ?_ (And.intro (.cons (((HpDel.head).tail).tail).tail rfl (fun _ h => h) .nil) rfl)))))
       ·exact ⟨And.left hx48, hx51⟩
       ·rfl
      ·refine x_callT en_spec_l01DrawPlaces rfl (w_spec_l01DrawPlaces hc (And.left (And.left hx45)) (And.right (And.left hx45)) hq.1) (HpDels.cons (((HpDel.head).tail).tail).tail HpDels.nil) (Vw.rd m3) (fun _ => (HpDels.cons (((HpDel.head).tail).tail).tail HpDels.nil)) (lt_dec rfl) fun x48_1 hx48 => ?_
       refine RA_quiet (g := 1) [0, 10] (by kernel_rfl) (by kernel_rfl) (by kernel_rfl) (by kernel_rfl) ?_
       refine WQ_cons rfl rfl rfl ((q_load rfl rfl m1 rfl (by first | exact True.intro | omega | exact Fin.isLt _ | trivial | (dsimp only; omega)))) (lt_dec rfl) ?_
       refine WQ_cons rfl rfl rfl ((q_call en_spec_l01Moved rfl (w_spec_l01Moved hq hx42.2 hx45.2 hx48.2) (View.none _))) (lt_dec rfl) ?_
       refine WQ_nil ?_
       refine RA_one 11 rfl rfl (by kernel_rfl) (x_store rfl rfl rfl rfl rfl ((HpRep.head).tail) rfl (by first | trivial | (first | (first | omega | (dsimp only; omega)) | exact Fin.isLt _)) ?_)
       refine RA_done (by kernel_rfl) ?_
       refine W_seq ?_
       refine W_region ?_
       refine Ops_q (q_load rfl rfl m1 rfl (by first | exact True.intro | omega | exact Fin.isLt _ | trivial | (dsimp only; omega))) (lt_dec rfl) ?_
       refine Ops_x rfl (x_callT en_spec_l01Ordered rfl (w_spec_l01Ordered (by first | exact iso_sqI hq hx42.2 hx45.2 hx48.2 | exact hq)) HpDels.nil (Vw.none _) (fun _ => HpDels.nil) (lt_dec rfl) fun x51_1 hx51 => ?_)
       refine Ops_x rfl (x_store rfl rfl rfl rfl rfl (((HpRep.head).tail).tail) rfl (by first | trivial | (first | (first | omega | (dsimp only; omega)) | exact Fin.isLt _)) ?_)
       refine Ops_nil ?_
       refine W_ret ?_
       refine Exists.intro _ (And.intro (.cons (.cell rfl rfl m2 rfl trivial) .nil) (Exists.intro (((Prod.fst (Prod.fst x48_1)), (Prod.snd (Prod.fst x48_1))), ((Prod.fst (Prod.snd x7_1)), x51_1)) (And.intro ?_ (And.intro ?_ (And.intro (.cons (((HpDel.head).tail).tail).tail rfl (fun _ h => h) .nil) rfl)))))
       ·exact ⟨And.left hx48, hx51⟩
       ·rfl
   ·try simp only [bs] at h3
    refine W_skip ?_
    refine W_seq ?_
    refine W_region ?_
    refine Ops_q (q_load rfl rfl m1 rfl (by first | exact True.intro | omega | exact Fin.isLt _ | trivial | (dsimp only; omega))) (lt_dec rfl) ?_
    refine Ops_x rfl (x_callT en_spec_l01Ordered rfl (w_spec_l01Ordered (by first | exact iso_sqI hq hx42.2 hx45.2 hx48.2 | exact hq)) HpDels.nil (Vw.none _) (fun _ => HpDels.nil) (lt_dec rfl) fun x51_1 hx51 => ?_)
    refine Ops_x rfl (x_store rfl rfl rfl rfl rfl (((HpRep.head).tail).tail) rfl (by first | trivial | (first | (first | omega | (dsimp only; omega)) | exact Fin.isLt _)) ?_)
    refine Ops_nil ?_
    refine W_ret ?_
    refine Exists.intro _ (And.intro (.cons (.cell rfl rfl m2 rfl trivial) .nil) (Exists.intro (((Prod.fst (Prod.fst x37_1)), (Prod.snd (Prod.fst x37_1))), ((Prod.fst (Prod.snd x7_1)), x51_1)) (And.intro ?_ (And.intro ?_ (And.intro (.cons (((HpDel.head).tail).tail).tail rfl (fun _ h => h) .nil) rfl)))))
    ·exact ⟨And.left hx37, hx51⟩
    ·rfl
end Go.Proofs.Ytjihhcjpbcmjaaa
end
section
namespace Go.Proofs.Ytjihhcjpbcmjaaa
open Go Gx
set_option linter.unusedVariables false
theorem en_spec_l01DrawSquare : Enters Try.prog 48 := enters_of Try.func48 (by kernel_rfl) (by kernel_rfl)
set_option maxRecDepth 100000 in
set_option maxHeartbeats 2000000 in
theorem w_spec_l01DrawSquare {cv : Value} {hcv : cv.oneCell' = true} {code : List (Fin 256)} {sb a h : Nat} (hc : code.length ≤ 4096) (ha : a ≤ code.length) (hh : h < 18446744073709551616) : CT (X := (Nat × Nat) × (Int × (Nat → Fin 256))) Try.prog 48 (vals [.ptr sb 0 none]) [.var sb (.agg [.raw cv hcv, .int .i64 ((a : Nat) : Int), .int .u64 ((h : Nat) : Int)])] [rd cv (.u8s code)] (fun x => (Prod.fst (Prod.fst x) ≤ code.length ∧ Prod.snd (Prod.fst x) < 18446744073709551616) ∧ SqP (Prod.fst (Prod.snd x)) (Prod.snd (Prod.snd x))) (fun x => .agg [.int .i64 (Prod.fst (Prod.snd x)), .arr8 100 (Prod.snd (Prod.snd x))]) (fun x => [.var sb (.agg [.raw cv hcv, .int .i64 (((Prod.fst (Prod.fst x)) : Nat) : Int), .int .u64 (((Prod.snd (Prod.fst x)) : Nat) : Int)])]) := by
 refine CT_intro (rs := [.cell 2 76]) tt tok Try.func48 rfl rfl rfl (by first | rfl | assumption) fun w => ?_
 show W _ _ _ ⟨tmOf 0 [.ptr sb 0 none], [.var sb (.agg [.raw cv hcv, .int .i64 ((a : Nat) : Int), .int .u64 ((h : Nat) : Int)]), rd cv (.u8s code)]⟩
 refine W_seq ?_
 refine W_region ?_
 refine Ops_x rfl (x_alloc rfl (lt_dec rfl) fun b2_1 => ?_)
 refine Ops_nil ?_
 refine W_seq ?_
 refine W_region ?_
 refine o_mv rfl rfl ?_
 refine Ops_x rfl (x_callT en_spec_l01Draw rfl (w_spec_l01Draw hc ha hh) (HpDels.cons (HpDel.head).tail HpDels.nil) (Vw.rd m1) (fun _ => (HpDels.cons (HpDel.head).tail HpDels.nil)) (lt_dec rfl) fun x6_1 hx6 => ?_)
 refine Ops_x rfl (x_alloc rfl (lt_dec rfl) fun b3_1 => ?_)
 refine Ops_x rfl (x_store rfl rfl rfl rfl rfl HpRep.head rfl (by first | trivial | (first | (first | omega | (dsimp only; omega)) | exact Fin.isLt _)) ?_)
 refine Ops_nil ?_
 refine W_seq ?_
 refine W_region ?_
 refine Ops_p (p_fieldAddr rfl rfl rfl rfl rfl rfl) (lt_dec rfl) ?_
 refine Ops_q (q_load rfl rfl m0 rfl (by first | exact True.intro | omega | exact Fin.isLt _ | trivial | (dsimp only; omega))) (lt_dec rfl) ?_
 refine o_as rfl rfl ?_
 refine Ops_nil ?_
 refine W_seq ?_
 refine W_seq ?_
 refine W_region ?_
 refine o_mv rfl rfl ?_
 refine Ops_x rfl (x_callT en_spec_l01Next rfl (w_spec_l01Next hc (And.left (And.left hx6)) (And.right (And.left hx6))) (HpDels.cons ((HpDel.head).tail).tail HpDels.nil) (Vw.rd m2) (fun _ => (HpDels.cons ((HpDel.head).tail).tail HpDels.nil)) (lt_dec rfl) fun x10_1 hx10 => ?_)
 refine Ops_p (p_eql rfl rfl) (lt_dec rfl) ?_
 refine Ops_nil ?_
 refine W_cond rfl (fun h1 => ?_) (fun h1 => ?_)
 ·try simp only [bs] at h1
  refine W_seq ?_
  refine W_region ?_
  refine Ops_q (q_load rfl rfl m0 rfl (by first | exact True.intro | omega | exact Fin.isLt _ | trivial | (dsimp only; omega))) (lt_dec rfl) ?_
  refine Ops_x rfl (x_store rfl rfl rfl rfl rfl ((HpRep.head).tail) rfl (by first | trivial | (first | (first | omega | (dsimp only; omega)) | exact Fin.isLt _)) ?_)
  refine Ops_nil ?_
  refine W_ret ?_
  refine Exists.intro _ (And.intro (.cons (.cell rfl rfl m1 rfl trivial) .nil) (Exists.intro (((Prod.fst (Prod.fst x10_1)), (Prod.snd (Prod.fst x10_1))), ((Prod.fst (Prod.snd x6_1)), (Prod.snd (Prod.snd x6_1)))) (And.intro ?_ (And.intro ?_ (And.intro (.cons ((HpDel.head).tail).tail rfl (fun _ h => h) .nil) rfl)))))
  ·exact ⟨And.left hx10, by first | exact iso_sqI hx6.2 hx16.2 hx19.2 hx22.2 | exact hx6.2⟩
  ·rfl
 ·try simp only [bs] at h1
  refine W_skip ?_
  refine W_seq ?_
  refine W_draw (by kernel_rfl) ?_
  show RA _ _ 12 _ _ _
  refine RA_take 4 rfl rfl rfl (by kernel_rfl) (by kernel_rfl) (by kernel_rfl) (p_move rfl) (lt_dec rfl) ?_
  refine RA_take 5 rfl rfl rfl (by kernel_rfl) (by kernel_rfl) (by kernel_rfl) (p_move rfl) (lt_dec rfl) ?_
  refine RA_take 7 rfl rfl rfl (by kernel_rfl) (by kernel_rfl) (by kernel_rfl) (p_move rfl) (lt_dec rfl) ?_
  refine RA_take 8 rfl rfl rfl (by kernel_rfl) (by kernel_rfl) (by kernel_rfl) (p_move rfl) (lt_dec rfl) ?_
  refine RA_take 1 rfl rfl rfl (by kernel_rfl) (by kernel_rfl) (by kernel_rfl) (p_move rfl) (lt_dec rfl) ?_
  refine RA_take 2 rfl rfl rfl (by kernel_rfl) (by kernel_rfl) (by kernel_rfl) (p_move rfl) (lt_dec rfl) ?_
  refine RA_two 0 3 rfl rfl rfl rfl (by kernel_rfl) ?_ ?_
  ·refine Xt_of_Qt rfl (lt_dec rfl) ((q_load rfl rfl m0 rfl (by first | exact True.intro | omega | exact Fin.isLt _ | trivial | (dsimp only; omega)))) ?_
   refine RA_one 3 rfl rfl (by kernel_rfl) (x_callT en_spec_l01DrawPlaces rfl (w_spec_l01DrawPlaces hc (And.left (And.left hx10)) (And.right (And.left hx10)) hx6.2.1) (HpDels.cons ((HpDel.head).tail).tail HpDels.nil) (Vw.rd m2) (fun _ => (HpDels.cons ((HpDel.head).tail).tail HpDels.nil)) (lt_dec rfl) fun x16_1 hx16 => ?_)
   refine RA_one 6 rfl rfl (by kernel_rfl) (x_callT en_spec_l01DrawPlaces rfl (w_spec_l01DrawPlaces hc (And.left (And.left hx16)) (And.right (And.left hx16)) hx6.2.1) (HpDels.cons ((HpDel.head).tail).tail HpDels.nil) (Vw.rd m2) (fun _ => (HpDels.cons ((HpDel.head).tail).tail HpDels.nil)) (lt_dec rfl) fun x19_1 hx19 => ?_)
   refine RA_one 9 rfl rfl (by kernel_rfl) (x_callT en_spec_l01DrawPlaces rfl (w_spec_l01DrawPlaces hc (And.left (And.left hx19)) (And.right (And.left hx19)) hx6.2.1) (HpDels.cons ((HpDel.head).tail).tail HpDels.nil) (Vw.rd m2) (fun _ => (HpDels.cons ((HpDel.head).tail).tail HpDels.nil)) (lt_dec rfl) fun x22_1 hx22 => ?_)
   refine RA_quiet (g := 1) [10] (by kernel_rfl) (by kernel_rfl) (by kernel_rfl) (by kernel_rfl) ?_
   refine WQ_cons rfl rfl rfl ((q_call en_spec_l01Moved rfl (w_spec_l01Moved hx6.2 hx16.2 hx19.2 hx22.2) (View.none _))) (lt_dec rfl) ?_
   refine WQ_nil ?_
   refine RA_one 11 rfl rfl (by kernel_rfl) (x_store rfl rfl rfl rfl rfl ((HpRep.head).tail) rfl (by first | trivial | (first | (first | omega | (dsimp only; omega)) | exact Fin.isLt _)) ?_)
   refine RA_done (by kernel_rfl) ?_
   refine W_ret ?_
   refine Exists.intro _ (And.intro (.cons (.cell rfl rfl m1 rfl trivial) .nil) (Exists.intro (((Prod.fst (Prod.fst x22_1)), (Prod.snd (Prod.fst x22_1))), ((Prod.fst (Prod.snd x6_1)), (isoW (Prod.snd (Prod.snd x6_1)) (Prod.snd x16_1) (Prod.snd x19_1) (Prod.snd x22_1) (Int.toNat (Prod.fst (Prod.snd x6_1))) (Int.toNat (Prod.fst (Prod.snd x6_1)) * Int.toNat (Prod.fst (Prod.snd x6_1)) + 0)))) (And.intro ?_ (And.intro ?_ (And.intro (.cons ((HpDel.head).tail).tail rfl (fun _ h => h) .nil) rfl)))))
   ·exact ⟨And.left hx22, by first | exact iso_sqI hx6.2 hx16.2 hx19.2 hx22.2 | exact hx6.2⟩
   ·rfl
  ·refine x_callT en_spec_l01DrawPlaces rfl (w_spec_l01DrawPlaces hc (And.left (And.left hx10)) (And.right (And.left hx10)) hx6.2.1) (HpDels.cons ((HpDel.head).tail).tail HpDels.nil) (Vw.rd m2) (fun _ => (HpDels.cons ((HpDel.head).tail).tail HpDels.nil)) (lt_dec rfl) fun x16_1 hx16 => ?_
   refine RA_two 0 6 rfl rfl rfl rfl (by kernel_rfl) ?_ ?_
   ·refine Xt_of_Qt rfl (lt_dec rfl) ((q_load rfl rfl m0 rfl (by first | exact True.intro | omega | exact Fin.isLt _ | trivial | (dsimp only; omega)))) ?_
    refine RA_one 6 rfl rfl (by kernel_rfl) (x_callT en_spec_l01DrawPlaces rfl (w_spec_l01DrawPlaces hc (And.left (And.left hx16)) (And.right (And.left hx16)) hx6.2.1) (HpDels.cons ((HpDel.head).tail).tail HpDels.nil) (Vw.rd m2) (fun _ => (HpDels.cons ((HpDel.head).tail).tail HpDels.nil)) (lt_dec rfl) fun x19_1 hx19 => ?_)
    refine RA_one 9 rfl rfl (by kernel_rfl) (x_callT en_spec_l01DrawPlaces rfl (w_spec_l01DrawPlaces hc (And.left (And.left hx19)) (And.right (And.left hx19)) hx6.2.1) (HpDels.cons ((HpDel.head).tail).tail HpDels.nil) (Vw.rd m2) (fun _ => (HpDels.cons ((HpDel.head).tail).tail HpDels.nil)) (lt_dec rfl) fun x22_1 hx22 => ?_)
    refine RA_quiet (g := 1) [10] (by kernel_rfl) (by kernel_rfl) (by kernel_rfl) (by kernel_rfl) ?_
    refine WQ_cons rfl rfl rfl ((q_call en_spec_l01Moved rfl (w_spec_l01Moved hx6.2 hx16.2 hx19.2 hx22.2) (View.none _))) (lt_dec rfl) ?_
    refine WQ_nil ?_
    refine RA_one 11 rfl rfl (by kernel_rfl) (x_store rfl rfl rfl rfl rfl ((HpRep.head).tail) rfl (by first | trivial | (first | (first | omega | (dsimp only; omega)) | exact Fin.isLt _)) ?_)
    refine RA_done (by kernel_rfl) ?_
    refine W_ret ?_
    refine Exists.intro _ (And.intro (.cons (.cell rfl rfl m1 rfl trivial) .nil) (Exists.intro (((Prod.fst (Prod.fst x22_1)), (Prod.snd (Prod.fst x22_1))), ((Prod.fst (Prod.snd x6_1)), (isoW (Prod.snd (Prod.snd x6_1)) (Prod.snd x16_1) (Prod.snd x19_1) (Prod.snd x22_1) (Int.toNat (Prod.fst (Prod.snd x6_1))) (Int.toNat (Prod.fst (Prod.snd x6_1)) * Int.toNat (Prod.fst (Prod.snd x6_1)) + 0)))) (And.intro ?_ (And.intro ?_ (And.intro (.cons ((HpDel.head).tail).tail rfl (fun _ h => h) .nil) rfl)))))
    ·exact ⟨And.left hx22, by first | exact iso_sqI hx6.2 hx16.2 hx19.2 hx22.2 | exact hx6.2⟩
    ·rfl
   ·refine x_callT en_spec_l01DrawPlaces rfl (w_spec_l01DrawPlaces hc (And.left (And.left hx16)) (And.right (And.left hx16)) hx6.2.1) (HpDels.cons ((HpDel.head).tail).tail HpDels.nil) (Vw.rd m2) (fun _ => (HpDels.cons ((HpDel.head).tail).tail HpDels.nil)) (lt_dec rfl) fun x19_1 hx19 => ?_
    refine RA_two 0 9 rfl rfl rfl rfl (by kernel_rfl) ?_ ?_
    ·refine Xt_of_Qt rfl (lt_dec rfl) ((q_load rfl rfl m0 rfl (by first | exact True.intro | omega | exact Fin.isLt _ | trivial | (dsimp only; omega)))) ?_
     refine RA_one 9 rfl rfl (by kernel_rfl) (x_callT en_spec_l01DrawPlaces rfl (w_spec_l01DrawPlaces hc (And.left (And.left hx19)) (And.right (And.left hx19)) hx6.2.1) (HpDels.cons ((HpDel.head).tail).tail HpDels.nil) (Vw.rd m2) (fun _ => (HpDels.cons ((HpDel.head).tail).tail HpDels.nil)) (lt_dec rfl) fun x22_1 hx22 => ?_)
     refine RA_quiet (g := 1) [10] (by kernel_rfl) (by kernel_rfl) (by kernel_rfl) (by kernel_rfl) ?_
     refine WQ_cons rfl rfl rfl ((q_call en_spec_l01Moved rfl (w_spec_l01Moved hx6.2 hx16.2 hx19.2 hx22.2) (View.none _))) (lt_dec rfl) ?_
     refine WQ_nil ?_
     refine RA_one 11 rfl rfl (by kernel_rfl) (x_store rfl rfl rfl rfl rfl ((HpRep.head).tail) rfl (by first | trivial | (first | (first | omega | (dsimp only; omega)) | exact Fin.isLt _)) ?_)
     refine RA_done (by kernel_rfl) ?_
     refine W_ret ?_
     refine Exists.intro _ (And.intro (.cons (.cell rfl rfl m1 rfl trivial) .nil) (Exists.intro (((Prod.fst (Prod.fst x22_1)), (Prod.snd (Prod.fst x22_1))), ((Prod.fst (Prod.snd x6_1)), (isoW (Prod.snd (Prod.snd x6_1)) (Prod.snd x16_1) (Prod.snd x19_1) (Prod.snd x22_1) (Int.toNat (Prod.fst (Prod.snd x6_1))) (Int.toNat (Prod.fst (Prod.snd x6_1)) * Int.toNat (Prod.fst (Prod.snd x6_1)) + 0)))) (And.intro ?_ (And.intro ?_ (And.intro (.cons ((HpDel.head).tail).tail rfl (fun _ h => h) .nil) rfl)))))
     ·exact ⟨And.left hx22, by first | exact iso_sqI hx6.2 hx16.2 hx19.2 hx22.2 | exact hx6.2⟩
     ·rfl
    ·refine x_callT en_spec_l01DrawPlaces rfl (w_spec_l01DrawPlaces hc (And.left (And.left hx19)) (And.right (And.left hx19)) hx6.2.1) (HpDels.cons ((HpDel.head).tail).tail HpDels.nil) (Vw.rd m2) (fun _ => (HpDels.cons ((HpDel.head).tail).tail HpDels.nil)) (lt_dec rfl) fun x22_1 hx22 => ?_
     refine RA_quiet (g := 1) [0, 10] (by kernel_rfl) (by kernel_rfl) (by kernel_rfl) (by kernel_rfl) ?_
     refine WQ_cons rfl rfl rfl ((q_load rfl rfl m0 rfl (by first | exact True.intro | omega | exact Fin.isLt _ | trivial | (dsimp only; omega)))) (lt_dec rfl) ?_
     refine WQ_cons rfl rfl rfl ((q_call en_spec_l01Moved rfl (w_spec_l01Moved hx6.2 hx16.2 hx19.2 hx22.2) (View.none _))) (lt_dec rfl) ?_
     refine WQ_nil ?_
     refine RA_one 11 rfl rfl (by kernel_rfl) (x_store rfl rfl rfl rfl rfl ((HpRep.head).tail) rfl (by first | trivial | (first | (first | omega | (dsimp only; omega)) | exact Fin.isLt _)) ?_)
     refine RA_done (by kernel_rfl) ?_
     refine W_ret ?_
     refine Exists.intro _ (And.intro (.cons (.cell rfl rfl m1 rfl trivial) .nil) (Exists.intro (((Prod.fst (Prod.fst x22_1)), (Prod.snd (Prod.fst x22_1))), ((Prod.fst (Prod.snd x6_1)), (isoW (Prod.snd (Prod.snd x6_1)) (Prod.snd x16_1) (Prod.snd x19_1) (Prod.snd x22_1) (Int.toNat (Prod.fst (Prod.snd x6_1))) (Int.toNat (Prod.fst (Prod.snd x6_1)) * Int.toNat (Prod.fst (Prod.snd x6_1)) + 0)))) (And.intro ?_ (And.intro ?_ (And.intro (.cons ((HpDel.head).tail).tail rfl (fun _ h => h) .nil) rfl)))))
     ·exact ⟨And.left hx22, by first | exact iso_sqI hx6.2 hx16.2 hx19.2 hx22.2 | exact hx6.2⟩
     ·rfl
end Go.Proofs.Ytjihhcjpbcmjaaa
end
section
namespace Go.Proofs.Ytjihhcjpbcmjaaa
open Go Gx
set_option linter.unusedVariables false
theorem en_spec_l04Rows : Enters Try.prog 49 := enters_of Try.func49 (by kernel_rfl) (by kernel_rfl)
set_option maxRecDepth 100000 in
theorem w_spec_l04Rows {t : Nat → Fin 256} {n : Int} (hs : SqP n t) : CT (X := V1) Try.prog 49 (vals [.agg [.int .i64 n, .arr8 100 t]]) [] [] (fun x => True) (fun x => .raw x.1 x.2) (fun x => [own x.1 33 (.arrs 10 (rowsL t n.toNat))]) := by
 refine CT_intro (rs := [.tmp 2]) tt tok Try.func49 rfl rfl rfl (by first | rfl | assumption) fun w => ?_
 show W _ _ _ ⟨tmOf 0 [.agg [.int .i64 n, .arr8 100 t]], []⟩
 have hn := hs.1
 refine W_seq ?_
 refine W_region ?_
 refine Ops_x rfl (x_box rfl rfl (lt_dec rfl) fun b1_1 => ?_)
 refine o_as rfl rfl ?_
 refine Ops_nil ?_
 refine W_seq ?_
 refine W_region ?_
 refine Ops_x rfl (x_buildSlice rfl rfl rfl rfl rfl rfl rfl rfl (Nat.le_of_ble_eq_true rfl) (lt_dec rfl) fun b5_1 => ?_)
 refine o_as rfl rfl ?_
 refine Ops_nil ?_
 refine W_seq ?_
 refine W_seq ?_
 refine W_region ?_
 refine o_as rfl rfl ?_
 refine Ops_nil ?_
 refine W_block ?_
 refine W_loop (α := Nat × Nat × Nat) (fun zz0 => ⟨[(0, .agg [.int .i64 n, .arr8 100 t]), (1, .ptr b1_1 0 none), (3, .sl (zz0.2.1) 0 (zz0.1) (zz0.2.2)), (4, .int .i64 ((zz0.1) : Int))], [.row (zz0.2.1) (zz0.2.2) 33 (.arrs 10 (rowsL t (zz0.1))), .var b1_1 (.agg [.int .i64 n, .arr8 100 t])]⟩) (fun zz0 => (zz0.1) ≤ n.toNat) (fun zz0 => n.toNat - (zz0.1)) (0, b5_1, 0) ?_ ?_ ?_
 ·show _ ≤ _; omega
 ·exact Wk.intro (.c rfl (.c rfl (.cons rfl (by first | rfl | exact veq_int (by first | omega | (dsimp only; omega))) (.cons rfl (by first | rfl | exact veq_int (by first | omega | (dsimp only; omega))) .nil)))) (.keep rfl rfl (fun _ h => h) (.keep rfl rfl (fun _ h => h) .nil))
 ·rintro ⟨x, bb, cbb⟩ hR
  try dsimp only at *
  have hll := rowsL_len t x
  refine W_seq ?_
  refine W_seq ?_
  refine W_region ?_
  refine o_mv rfl rfl ?_
  refine Ops_p (p_fieldAddr rfl rfl rfl rfl rfl rfl) (lt_dec rfl) ?_
  refine Ops_q (q_load rfl rfl m1 rfl (by first | exact True.intro | omega | exact Fin.isLt _ | trivial | (dsimp only; omega))) (lt_dec rfl) ?_
  refine Ops_p (p_lss rfl rfl) (lt_dec rfl) ?_
  refine Ops_nil ?_
  refine W_cond rfl (fun h1 => ?_) (fun h1 => ?_)
  ·try simp only [bs] at h1
   refine W_skip ?_
   refine W_seq ?_
   refine W_block ?_
   refine W_region ?_
   refine o_mv rfl rfl ?_
   refine Ops_q (q_load rfl rfl m1 rfl (by first | exact True.intro | omega | exact Fin.isLt _ | trivial | (dsimp only; omega))) (lt_dec rfl) ?_
   refine o_mv rfl rfl ?_
   refine Ops_p ((p_conv rfl rfl rfl (by exact ⟨by omega, by omega⟩)).eq (veq_byte (by omega))) (lt_dec rfl) ?_
   refine Ops_q ((q_call en_spec_l01Row rfl (w_spec_l01Row (by rw [ofNat_val (by omega)]; omega)) (View.none _)).eq (d' := .arr8 10 (rowOf t x)) (veq_arr8 fun j hj => by simp only [rowOf, colOf, ofNat_val (show x < 256 by omega)])) (lt_dec rfl) ?_
   refine Ops_x rfl (x_buildSlice rfl rfl rfl rfl rfl rfl rfl rfl (Nat.le_of_ble_eq_true rfl) (lt_dec rfl) fun b17_1 => ?_)
   refine Ops_x rfl (x_append rfl rfl rfl rfl rfl rfl (fun _ _ => (HpRep.head).tail) (.inl ⟨m0, rfl⟩) rfl (by show _ = List.length _; rw [rowsL_len]) rfl (by first | omega | (dsimp only; omega)) rfl (by first | omega | (dsimp only; omega)) (by first | omega | (dsimp only; omega)) (lt_dec rfl) fun b18_1 cb18_1 => ?_)
   refine o_as rfl rfl ?_
   refine Ops_nil ?_
   refine W_region ?_
   refine o_mv rfl rfl ?_
   refine Ops_p (p_add rfl rfl (by refine ⟨?_, ?_⟩ <;> first | omega | (dsimp only; omega))) (lt_dec rfl) ?_
   refine o_as rfl rfl ?_
   refine Ops_nil ?_
   refine Exists.intro (x + 1, b18_1, cb18_1) (And.intro ?_ (And.intro ?_ ?_))
   ·show _ ≤ _; omega
   ·show _ < _; omega
   ·exact Wk.intro (.c rfl (.c rfl (.cons rfl (veq_sl rfl) (.cons rfl (by first | rfl | exact veq_int (by first | omega | (dsimp only; omega))) .nil)))) (.drop (.keep rfl rfl (fun _ h => h) (.keep rfl rfl (fun _ h => h) .nil)))
  ·try simp only [bs] at h1
   obtain rfl : x = n.toNat := (by omega)
   refine W_exit ?_
   refine W_seq ?_
   refine W_region ?_
   refine o_mv rfl rfl ?_
   refine o_as rfl rfl ?_
   refine Ops_nil ?_
   refine W_ret ?_
   refine Exists.intro _ (And.intro (.cons (.tmp rfl) .nil) (Exists.intro ⟨.slice (some ⟨bb, 0, none⟩) n.toNat cbb, rfl⟩ (And.intro ?_ (And.intro ?_ (And.intro (.cons HpDel.head rfl (own_of_row (by show _ = List.length _; rw [rowsL_len]) rfl) .nil) rfl)))))
   ·trivial
   ·rfl
end Go.Proofs.Ytjihhcjpbcmjaaa
end
section
namespace Go.Proofs.Ytjihhcjpbcmjaaa
open Go Gx
set_option linter.unusedVariables false
theorem en_spec_DrawLeastBlock : Enters Try.prog 20 := enters_of Try.func20 (by kernel_rfl) (by kernel_rfl)
set_option maxRecDepth 100000 in
set_option maxHeartbeats 2000000 in
theorem w_spec_DrawLeastBlock {cv : Value} {hcv : cv.oneCell' = true} {code : List (Fin 256)} (hc : code.length ≤ 4096) : CT (X := V1 × (List (Nat → Fin 256) × (Int × (Int × Int)))) Try.prog 20 (vals [.raw cv hcv]) [] [rd cv (.u8s code)] (fun x => List.length (Prod.fst (Prod.snd x)) ≤ 41 ∧ (0 ≤ Prod.fst (Prod.snd (Prod.snd x)) ∧ Prod.fst (Prod.snd (Prod.snd x)) ≤ 11)) (fun x => .tup [.raw (Subtype.val (Prod.fst x)) (Subtype.property (Prod.fst x)), .int .i64 (Prod.fst (Prod.snd (Prod.snd x))), .int .i64 (Prod.fst (Prod.snd (Prod.snd (Prod.snd x)))), .int .i64 (Prod.snd (Prod.snd (Prod.snd (Prod.snd x))))]) (fun x => [own (Subtype.val (Prod.fst x)) 33 (.arrs 10 (Prod.fst (Prod.snd x)))]) := by
 refine CT_intro (rs := [.tmp 2, .tmp 3, .tmp 4, .tmp 5]) tt tok Try.func20 rfl rfl rfl (by first | rfl | assumption) fun w => ?_
 show W _ _ _ ⟨tmOf 0 [.raw cv hcv], [rd cv (.u8s code)]⟩
 refine W_seq ?_
 refine W_region ?_
 refine o_as rfl rfl ?_
 refine o_as rfl rfl ?_
 refine o_as rfl rfl ?_
 refine o_as rfl rfl ?_
 refine Ops_nil ?_
 refine W_seq ?_
 refine W_region ?_
 refine o_mv rfl rfl ?_
 refine Ops_x rfl (x_callT en_spec_l01From rfl (w_spec_l01From hc) HpDels.nil (Vw.rd m0) (fun _ => (HpDels.cons HpDel.head HpDels.nil)) (lt_dec rfl) fun x11_1 hx11 => ?_)
 refine o_as rfl rfl ?_
 refine Ops_nil ?_
 refine W_seq ?_
 refine W_region ?_
 refine o_mv rfl rfl ?_
 refine Ops_x rfl (x_callT en_spec_l04Draw rfl (w_spec_l04Draw (sb := Prod.fst x11_1) (a := 0) (h := Prod.snd x11_1) hc (Nat.zero_le _) hx11) (HpDels.cons HpDel.head HpDels.nil) (Vw.rd m0) (fun _ => (HpDels.cons (HpDel.head).tail (HpDels.cons HpDel.head HpDels.nil))) (lt_dec rfl) fun x14_1 hx14 => ?_)
 refine o_mv rfl rfl ?_
 refine Ops_p (p_extract rfl rfl) (lt_dec rfl) ?_
 refine Ops_p (p_extract rfl rfl) (lt_dec rfl) ?_
 refine o_as rfl rfl ?_
 refine o_as rfl rfl ?_
 refine Ops_nil ?_
 refine W_seq ?_
 refine W_seq ?_
 refine W_region ?_
 refine o_mv rfl rfl ?_
 refine Ops_x rfl (x_callT en_spec_l01Next rfl (w_spec_l01Next hc (And.left (And.left hx14)) (And.right (And.left hx14))) (HpDels.cons (HpDel.head).tail HpDels.nil) (Vw.rd m1) (fun _ => (HpDels.cons (HpDel.head).tail HpDels.nil)) (lt_dec rfl) fun x18_1 hx18 => ?_)
 refine Ops_p (p_eql rfl rfl) (lt_dec rfl) ?_
 refine Ops_nil ?_
 refine W_cond rfl (fun h1 => ?_) (fun h1 => ?_)
 ·try simp only [bs] at h1
  refine W_seq ?_
  refine W_region ?_
  refine o_mv rfl rfl ?_
  refine Ops_x rfl (x_callT en_spec_l01DrawSquare rfl (w_spec_l01DrawSquare hc (And.left (And.left hx18)) (And.right (And.left hx18))) (HpDels.cons (HpDel.head).tail HpDels.nil) (Vw.rd m1) (fun _ => (HpDels.cons (HpDel.head).tail HpDels.nil)) (lt_dec rfl) fun x21_1 hx21 => ?_)
  refine Ops_x rfl (x_alloc rfl (lt_dec rfl) fun b9_1 => ?_)
  refine Ops_x rfl (x_store rfl rfl rfl rfl rfl HpRep.head rfl (by first | trivial | (first | (first | omega | (dsimp only; omega)) | exact Fin.isLt _)) ?_)
  refine Ops_nil ?_
  refine W_seq ?_
  refine W_region ?_
  refine Ops_q (q_load rfl rfl m0 rfl (by first | exact True.intro | omega | exact Fin.isLt _ | trivial | (dsimp only; omega))) (lt_dec rfl) ?_
  refine Ops_x rfl (x_callT en_spec_l04Rows rfl (w_spec_l04Rows hx21.2) HpDels.nil (Vw.none _) (fun _ => (HpDels.cons HpDel.head HpDels.nil)) (lt_dec rfl) fun x23_1 _ => ?_)
  refine o_as rfl rfl ?_
  refine Ops_nil ?_
  refine W_region ?_
  refine Ops_p (p_fieldAddr rfl rfl rfl rfl rfl rfl) (lt_dec rfl) ?_
  refine Ops_q (q_load rfl rfl m1 rfl (by first | exact True.intro | omega | exact Fin.isLt _ | trivial | (dsimp only; omega))) (lt_dec rfl) ?_
  refine o_as rfl rfl ?_
  refine Ops_nil ?_
  refine W_seq ?_
  refine W_region ?_
  refine o_mv rfl rfl ?_
  refine o_mv rfl rfl ?_
  refine o_mv rfl rfl ?_
  refine o_mv rfl rfl ?_
  refine Ops_x rfl (x_callT en_spec_l01Next rfl (w_spec_l01Next hc (by first | exact (And.left (And.left hx21)) | exact (And.left (And.left hx18))) (by first | exact (And.right (And.left hx21)) | exact (And.right (And.left hx18)))) (HpDels.cons (((HpDel.head).tail).tail).tail HpDels.nil) (Vw.rd m3) (fun _ => (HpDels.cons (((HpDel.head).tail).tail).tail HpDels.nil)) (lt_dec rfl) fun x30_1 hx30 => ?_)
  refine o_mv rfl rfl ?_
  refine o_mv rfl rfl ?_
  refine o_mv rfl rfl ?_
  refine Ops_x rfl (x_callT en_spec_l01Next rfl (w_spec_l01Next hc (And.left (And.left hx30)) (And.right (And.left hx30))) (HpDels.cons (((HpDel.head).tail).tail).tail HpDels.nil) (Vw.rd m3) (fun _ => (HpDels.cons (((HpDel.head).tail).tail).tail HpDels.nil)) (lt_dec rfl) fun x34_1 hx34 => ?_)
  refine Ops_p ((p_quo rfl rfl (by omega) (by omega) (by exact ⟨by omega, by omega⟩))) (lt_dec rfl) ?_
  refine Ops_p (p_add rfl rfl (by refine ⟨?_, ?_⟩ <;> (first | (have h14 := hx14.2.2; have h34 := hx34.2.2 (by decide); omega) | (have h21 := hx21.2.1; have h34 := hx34.2.2 (by decide); omega)))) (lt_dec rfl) ?_
  refine Ops_x rfl (x_callT en_spec_l01Next rfl (w_spec_l01Next hc (And.left (And.left hx34)) (And.right (And.left hx34))) (HpDels.cons (((HpDel.head).tail).tail).tail HpDels.nil) (Vw.rd m3) (fun _ => (HpDels.cons (((HpDel.head).tail).tail).tail HpDels.nil)) (lt_dec rfl) fun x37_1 hx37 => ?_)
  refine o_as rfl rfl ?_
  refine o_as rfl rfl ?_
  refine o_as rfl rfl ?_
  refine o_as rfl rfl ?_
  refine Ops_nil ?_
  refine W_ret ?_
  refine Exists.intro _ (And.intro (.cons (.tmp rfl) (.cons (.tmp rfl) (.cons (.tmp rfl) (.cons (.tmp rfl) .nil)))) (Exists.intro (x23_1, ((rowsL (Prod.snd (Prod.snd x21_1)) (Int.toNat (Prod.fst (Prod.snd x21_1)))), ((Prod.fst (Prod.snd x21_1)), (((Prod.snd x30_1 : Nat) : Int), ((Prod.snd x37_1 : Nat) : Int))))) (And.intro ?_ (And.intro ?_ (And.intro (.cons HpDel.head rfl (fun _ h => h) .nil) rfl)))))
  ·exact ⟨by show List.length (rowsL _ _) ≤ 41; rw [rowsL_len]; have := hx21.2.1; omega, by have := hx21.2.1; show 0 ≤ Prod.fst (Prod.snd x21_1) ∧ Prod.fst (Prod.snd x21_1) ≤ 11; omega⟩
  ·rfl
 ·try simp only [bs] at h1
  refine W_skip ?_
  refine W_seq ?_
  refine W_region ?_
  refine o_mv rfl rfl ?_
  refine o_mv rfl rfl ?_
  refine o_mv rfl rfl ?_
  refine o_mv rfl rfl ?_
  refine Ops_x rfl (x_callT en_spec_l01Next rfl (w_spec_l01Next hc (by first | exact (And.left (And.left hx21)) | exact (And.left (And.left hx18))) (by first | exact (And.right (And.left hx21)) | exact (And.right (And.left hx18)))) (HpDels.cons (HpDel.head).tail HpDels.nil) (Vw.rd m1) (fun _ => (HpDels.cons (HpDel.head).tail HpDels.nil)) (lt_dec rfl) fun x30_1 hx30 => ?_)
  refine o_mv rfl rfl ?_
  refine o_mv rfl rfl ?_
  refine o_mv rfl rfl ?_
  refine Ops_x rfl (x_callT en_spec_l01Next rfl (w_spec_l01Next hc (And.left (And.left hx30)) (And.right (And.left hx30))) (HpDels.cons (HpDel.head).tail HpDels.nil) (Vw.rd m1) (fun _ => (HpDels.cons (HpDel.head).tail HpDels.nil)) (lt_dec rfl) fun x34_1 hx34 => ?_)
  refine Ops_p ((p_quo rfl rfl (by omega) (by omega) (by exact ⟨by omega, by omega⟩))) (lt_dec rfl) ?_
  refine Ops_p (p_add rfl rfl (by refine ⟨?_, ?_⟩ <;> (first | (have h14 := hx14.2.2; have h34 := hx34.2.2 (by decide); omega) | (have h21 := hx21.2.1; have h34 := hx34.2.2 (by decide); omega)))) (lt_dec rfl) ?_
  refine Ops_x rfl (x_callT en_spec_l01Next rfl (w_spec_l01Next hc (And.left (And.left hx34)) (And.right (And.left hx34))) (HpDels.cons (HpDel.head).tail HpDels.nil) (Vw.rd m1) (fun _ => (HpDels.cons (HpDel.head).tail HpDels.nil)) (lt_dec rfl) fun x37_1 hx37 => ?_)
  refine o_as rfl rfl ?_
  refine o_as rfl rfl ?_
  refine o_as rfl rfl ?_
  refine o_as rfl rfl ?_
  refine Ops_nil ?_
  refine W_ret ?_
  refine Exists.intro _ (And.intro (.cons (.tmp rfl) (.cons (.tmp rfl) (.cons (.tmp rfl) (.cons (.tmp rfl) .nil)))) (Exists.intro ((Prod.fst (Prod.snd x14_1)), ((Prod.fst (Prod.snd (Prod.snd x14_1))), ((Prod.snd (Prod.snd (Prod.snd x14_1))), (((Prod.snd x30_1 : Nat) : Int), ((Prod.snd x37_1 : Nat) : Int))))) (And.intro ?_ (And.intro ?_ (And.intro (.cons HpDel.head rfl (fun _ h => h) .nil) rfl)))))
  ·exact hx14.2
  ·rfl
end Go.Proofs.Ytjihhcjpbcmjaaa
end
section
namespace Go.Proofs.Ytjihhcjpbcmjaaa
open Go Gx
set_option linter.unusedVariables false
theorem en_spec_DrawIsPrimitive : Enters Try.prog 24 := enters_of Try.func24 (by kernel_rfl) (by kernel_rfl)
set_option maxRecDepth 100000 in
theorem w_spec_DrawIsPrimitive {cv : Value} {hcv : cv.oneCell' = true} {code : List (Fin 256)} (hc : code.length ≤ 4096) : CT (X := V1 × (List (Nat → Fin 256) × Int)) Try.prog 24 (vals [.raw cv hcv]) [] [rd cv (.u8s code)] (fun x => List.length (Prod.fst (Prod.snd x)) ≤ 41 ∧ (0 ≤ Prod.snd (Prod.snd x) ∧ Prod.snd (Prod.snd x) ≤ 11)) (fun x => .tup [.raw (Subtype.val (Prod.fst x)) (Subtype.property (Prod.fst x)), .int .i64 (Prod.snd (Prod.snd x))]) (fun x => [own (Subtype.val (Prod.fst x)) 33 (.arrs 10 (Prod.fst (Prod.snd x)))]) := by
 refine CT_intro (rs := [.tmp 2, .tmp 3]) tt tok Try.func24 rfl rfl rfl (by first | rfl | assumption) fun w => ?_
 show W _ _ _ ⟨tmOf 0 [.raw cv hcv], [rd cv (.u8s code)]⟩
 refine W_seq ?_
 refine W_region ?_
 refine o_as rfl rfl ?_
 refine o_as rfl rfl ?_
 refine Ops_nil ?_
 refine W_seq ?_
 refine W_region ?_
 refine o_mv rfl rfl ?_
 refine Ops_x rfl (x_callT en_spec_DrawLeastBlock rfl (w_spec_DrawLeastBlock hc) HpDels.nil (Vw.rd m0) (fun _ => (HpDels.cons HpDel.head HpDels.nil)) (lt_dec rfl) fun x10_1 hx10 => ?_)
 refine o_mv rfl rfl ?_
 refine Ops_p (p_extract rfl rfl) (lt_dec rfl) ?_
 refine Ops_p (p_extract rfl rfl) (lt_dec rfl) ?_
 refine Ops_p (p_extract rfl rfl) (lt_dec rfl) ?_
 refine Ops_p (p_extract rfl rfl) (lt_dec rfl) ?_
 refine o_as rfl rfl ?_
 refine o_as rfl rfl ?_
 refine o_as rfl rfl ?_
 refine o_as rfl rfl ?_
 refine Ops_nil ?_
 refine W_seq ?_
 refine W_region ?_
 refine o_mv rfl rfl ?_
 refine o_mv rfl rfl ?_
 refine o_as rfl rfl ?_
 refine o_as rfl rfl ?_
 refine Ops_nil ?_
 refine W_ret ?_
 refine Exists.intro _ (And.intro (.cons (.tmp rfl) (.cons (.tmp rfl) .nil)) (Exists.intro (Prod.fst x10_1, ((Prod.fst (Prod.snd x10_1)), (Prod.fst (Prod.snd (Prod.snd x10_1))))) (And.intro ?_ (And.intro ?_ (And.intro (.cons HpDel.head rfl (fun _ h => h) .nil) rfl)))))
 ·exact hx10
 ·rfl
end Go.Proofs.Ytjihhcjpbcmjaaa
end
section
namespace Go.Proofs.Ytjihhcjpbcmjaaa
open Go Gx
set_option linter.unusedVariables false
theorem en_spec_l04Keeping : Enters Try.prog 71 := enters_of Try.func71 (by kernel_rfl) (by kernel_rfl)
set_option maxRecDepth 100000 in
theorem w_spec_l04Keeping {a : Value} {ha : a.oneCell' = true} {l : List (Nat → Fin 256)} {k : Nat} (hl : l.length ≤ 1000) (hk : k ≤ 10) : FR Try.prog 71 (vals [.raw a ha, .int .i64 (k : Int)]) [rd a (.arrs 10 l)] 33 (.arrs 10 (kpI l k (List.length l))) := by
 refine CF_intro (rs := [.tmp 4]) tt tok Try.func71 rfl rfl rfl (by first | rfl | assumption) fun w => ?_
 refine W_seq ?_
 refine W_region ?_
 refine o_as rfl rfl ?_
 refine Ops_nil ?_
 refine W_seq ?_
 refine W_region ?_
 refine Ops_x rfl (x_buildSlice rfl rfl rfl rfl rfl rfl rfl rfl (Nat.le_of_ble_eq_true rfl) (lt_dec rfl) fun b9_1 => ?_)
 refine o_as rfl rfl ?_
 refine Ops_nil ?_
 refine W_seq ?_
 refine W_seq ?_
 refine W_region ?_
 refine o_as rfl rfl ?_
 refine Ops_nil ?_
 refine W_block ?_
 refine W_loop (α := Nat × Nat × Nat) (fun zz0 => ⟨[(0, .raw a ha), (1, .int .i64 (k : Int)), (5, .sl (zz0.2.1) 0 (List.length (kpI l k (zz0.1))) (zz0.2.2)), (6, .int .i64 ((zz0.1) : Int))], [.row (zz0.2.1) (zz0.2.2) 33 (.arrs 10 (kpI l k (zz0.1))), rd a (.arrs 10 l)]⟩) (fun zz0 => (zz0.1) ≤ l.length) (fun zz0 => l.length - (zz0.1)) (0, b9_1, 0) ?_ ?_ ?_
 ·show _ ≤ _; omega
 ·exact Wk.intro (.c rfl (.c rfl (.cons rfl (by first | rfl | exact veq_int (by first | omega | (dsimp only; omega))) (.cons rfl (by first | rfl | exact veq_int (by first | omega | (dsimp only; omega))) .nil)))) (.keep rfl rfl (fun _ h => h) (.keep rfl rfl (fun _ h => h) .nil))
 ·rintro ⟨i, bb, cbb⟩ hR
  try dsimp only at *
  have hkl := kpI_len (l := l) (k := k) i
  refine W_seq ?_
  refine W_seq ?_
  refine W_region ?_
  refine o_mv rfl rfl ?_
  refine o_mv rfl rfl ?_
  refine Ops_q ((q_lenR rfl rfl rfl (Rds.rd m1)).eq (d' := .int .i64 ((l.length : Nat) : Int)) rfl) (lt_dec rfl) ?_
  refine Ops_p (p_lss rfl rfl) (lt_dec rfl) ?_
  refine Ops_nil ?_
  refine W_cond rfl (fun h1 => ?_) (fun h1 => ?_)
  ·try simp only [bs] at h1
   refine W_skip ?_
   refine W_seq ?_
   refine W_block ?_
   refine W_seq ?_
   refine W_region ?_
   refine o_as rfl rfl ?_
   refine Ops_nil ?_
   refine W_seq ?_
   refine W_seq ?_
   refine W_region ?_
   refine o_as rfl rfl ?_
   refine Ops_nil ?_
   refine W_block ?_
   refine W_loop (α := Nat) (fun j => ⟨[(0, .raw a ha), (1, .int .i64 (k : Int)), (5, .sl bb 0 (List.length (kpI l k i)) cbb), (6, .int .i64 (i : Int)), (7, .bool (keepB (l.getD i fun _ => 0) j)), (8, .int .i64 (j : Int))], [.row bb cbb 33 (.arrs 10 (kpI l k i)), rd a (.arrs 10 l)]⟩) (fun j => j ≤ k) (fun j => k - j) 0 ?_ ?_ ?_
   ·show _ ≤ _; omega
   ·exact Wk.intro (.c rfl (.c rfl (.c rfl (.c rfl (.cons rfl (veq_bool rfl) (.cons rfl (by first | rfl | exact veq_int (by first | omega | (dsimp only; omega))) .nil)))))) (.keep rfl rfl (fun _ h => h) (.keep rfl rfl (fun _ h => h) .nil))
   ·rintro j hR
    refine W_seq ?_
    refine W_seq ?_
    refine W_region ?_
    refine o_mv rfl rfl ?_
    refine o_mv rfl rfl ?_
    refine Ops_p (p_lss rfl rfl) (lt_dec rfl) ?_
    refine Ops_nil ?_
    refine W_cond rfl (fun h2 => ?_) (fun h2 => ?_)
    ·try simp only [bs] at h2
     refine W_skip ?_
     refine W_seq ?_
     refine W_block ?_
     refine W_region ?_
     refine o_mv rfl rfl ?_
     refine o_mv rfl rfl ?_
     refine Ops_guard rfl rfl (lt_dec rfl) (fun hg1 => ?_) (fun hg1 => ?_)
     ·try simp only [bs] at hg1
      refine o_mv rfl rfl ?_
      refine Ops_guard_t rfl rfl (lt_dec rfl) ?_
      refine o_mv rfl rfl ?_
      refine Ops_guard_t rfl rfl (lt_dec rfl) ?_
      refine o_mv rfl rfl ?_
      refine Ops_guard_t rfl rfl (lt_dec rfl) ?_
      refine Ops_q (q_ixR _ rfl rfl rfl (Rds.rd m1) rfl rfl (by first | (show _ < List.length _; omega) | (show _ < List.length _; first | omega | (dsimp only; omega))) rfl) (lt_dec rfl) ?_
      refine Ops_guard_t rfl rfl (lt_dec rfl) ?_
      refine Ops_q (q_ixA j rfl rfl rfl rfl (Rds.rd m1) (by show 0 < List.length _; omega) rfl rfl (by omega)) (lt_dec rfl) ?_
      refine Ops_guard_t rfl rfl (lt_dec rfl) ?_
      refine Ops_q (q_loadA (m := 10) (i := i) (j := j) rfl rfl (Rds.rd m1) rfl (by omega) (by omega) rfl rfl) (lt_dec rfl) ?_
      refine Ops_guard_t rfl rfl (lt_dec rfl) ?_
      first | refine Ops_p (p_conv8 rfl rfl rfl (by decide)) (lt_dec rfl) ?_ | refine Ops_p (p_conv rfl rfl rfl (by exact ⟨(by first | omega | (dsimp only; omega)), (by first | omega | (dsimp only; omega))⟩)) (lt_dec rfl) ?_
      refine Ops_guard_t rfl rfl (lt_dec rfl) ?_
      refine o_mv rfl rfl ?_
      refine Ops_guard_t rfl rfl (lt_dec rfl) ?_
      refine Ops_p (p_eql rfl rfl) (lt_dec rfl) ?_
      refine Ops_p (p_pick_t rfl rfl) (lt_dec rfl) ?_
      refine o_as rfl rfl ?_
      refine Ops_nil ?_
      refine W_region ?_
      refine o_mv rfl rfl ?_
      refine Ops_p (p_add rfl rfl (by refine ⟨?_, ?_⟩ <;> first | omega | (dsimp only; omega))) (lt_dec rfl) ?_
      refine o_as rfl rfl ?_
      refine Ops_nil ?_
      refine Exists.intro (j + 1) (And.intro ?_ (And.intro ?_ ?_))
      ·show _ ≤ _; omega
      ·show _ < _; omega
      ·exact Wk.intro (.c rfl (.c rfl (.c rfl (.c rfl (.cons rfl (veq_bool (by unfold keepB; first | (rw [hkj]; simp; done) | simp_all)) (.cons rfl (by first | rfl | exact veq_int (by first | omega | (dsimp only; omega))) .nil)))))) (.keep rfl rfl (fun _ h => h) (.keep rfl rfl (fun _ h => h) .nil))
     ·try simp only [bs] at hg1
      refine Ops_guard_f rfl rfl rfl (lt_dec rfl) ?_
      refine Ops_guard_f rfl rfl rfl (lt_dec rfl) ?_
      refine Ops_guard_f rfl rfl rfl (lt_dec rfl) ?_
      refine Ops_guard_f rfl rfl rfl (lt_dec rfl) ?_
      refine Ops_guard_f rfl rfl rfl (lt_dec rfl) ?_
      refine Ops_guard_f rfl rfl rfl (lt_dec rfl) ?_
      refine Ops_guard_f rfl rfl rfl (lt_dec rfl) ?_
      refine Ops_guard_f rfl rfl rfl (lt_dec rfl) ?_
      refine Ops_p (p_pick_f rfl rfl) (lt_dec rfl) ?_
      refine o_as rfl rfl ?_
      refine Ops_nil ?_
      refine W_region ?_
      refine o_mv rfl rfl ?_
      refine Ops_p (p_add rfl rfl (by refine ⟨?_, ?_⟩ <;> first | omega | (dsimp only; omega))) (lt_dec rfl) ?_
      refine o_as rfl rfl ?_
      refine Ops_nil ?_
      refine Exists.intro (j + 1) (And.intro ?_ (And.intro ?_ ?_))
      ·show _ ≤ _; omega
      ·show _ < _; omega
      ·exact Wk.intro (.c rfl (.c rfl (.c rfl (.c rfl (.cons rfl (veq_bool (by unfold keepB; first | (rw [hkj]; simp; done) | simp_all)) (.cons rfl (by first | rfl | exact veq_int (by first | omega | (dsimp only; omega))) .nil)))))) (.keep rfl rfl (fun _ h => h) (.keep rfl rfl (fun _ h => h) .nil))
    ·try simp only [bs] at h2
     have ejk : j = k := (by omega)
     refine W_exit ?_
     refine W_seq ?_
     refine W_region ?_
     refine o_mv rfl rfl ?_
     refine Ops_nil ?_
     refine W_cond rfl (fun h3 => ?_) (fun h3 => ?_)
     ·try simp only [bs] at h3
      have eS := kpI_t (k := k) (show keepB (l.getD i fun _ => 0) k = true from ejk ▸ h3)
      refine W_region ?_
      refine o_mv rfl rfl ?_
      refine o_mv rfl rfl ?_
      refine o_mv rfl rfl ?_
      refine Ops_q (q_ixR _ rfl rfl rfl (Rds.rd m1) rfl rfl (by first | (show _ < List.length _; omega) | (show _ < List.length _; first | omega | (dsimp only; omega))) rfl) (lt_dec rfl) ?_
      refine Ops_q (q_loadR rfl rfl (Rds.rd m1) rfl rfl (by first | (show _ < List.length _; omega) | (show _ < List.length _; first | omega | (dsimp only; omega))) rfl rfl rfl) (lt_dec rfl) ?_
      refine Ops_x rfl (x_buildSlice rfl rfl rfl rfl rfl rfl rfl rfl (Nat.le_of_ble_eq_true rfl) (lt_dec rfl) fun b39_1 => ?_)
      refine Ops_x rfl (x_append rfl rfl rfl rfl rfl rfl (fun _ _ => (HpRep.head).tail) (.inl ⟨m0, rfl⟩) rfl (by first | rfl | exact elems_len.symm | simp [Rw.len]) rfl (by first | omega | (dsimp only; omega)) rfl (by first | omega | (dsimp only; omega)) (by first | omega | (dsimp only; omega)) (lt_dec rfl) fun b40_1 cb40_1 => ?_)
      refine o_as rfl rfl ?_
      refine Ops_nil ?_
      refine W_region ?_
      refine o_mv rfl rfl ?_
      refine Ops_p (p_add rfl rfl (by refine ⟨?_, ?_⟩ <;> first | omega | (dsimp only; omega))) (lt_dec rfl) ?_
      refine o_as rfl rfl ?_
      refine Ops_nil ?_
      refine Exists.intro (i + 1, b40_1, cb40_1) (And.intro ?_ (And.intro ?_ ?_))
      ·show _ ≤ _; omega
      ·show _ < _; omega
      ·exact Wk.intro (.c rfl (.c rfl (.cons rfl (by dsimp only; first | (rw [eS]; done) | (rw [eS]; exact veq_sl (by simp))) (.cons rfl (by first | rfl | exact veq_int (by first | omega | (dsimp only; omega))) .nil)))) (.drop (.keep rfl rfl (fun _ h => by dsimp only; rw [eS]; exact h) (.keep rfl rfl (fun _ h => h) .nil)))
     ·try simp only [bs] at h3
      have eS := kpI_f (k := k) (l := l) (i := i) (fun hh => by rw [← ejk, h3] at hh; cases hh)
      refine W_skip ?_
      refine W_region ?_
      refine o_mv rfl rfl ?_
      refine Ops_p (p_add rfl rfl (by refine ⟨?_, ?_⟩ <;> first | omega | (dsimp only; omega))) (lt_dec rfl) ?_
      refine o_as rfl rfl ?_
      refine Ops_nil ?_
      refine Exists.intro (i + 1, bb, cbb) (And.intro ?_ (And.intro ?_ ?_))
      ·show _ ≤ _; omega
      ·show _ < _; omega
      ·exact Wk.intro (.c rfl (.c rfl (.cons rfl (by dsimp only; first | (rw [eS]; done) | (rw [eS]; exact veq_sl (by simp))) (.cons rfl (by first | rfl | exact veq_int (by first | omega | (dsimp only; omega))) .nil)))) (.keep rfl rfl (fun _ h => by dsimp only; rw [eS]; exact h) (.keep rfl rfl (fun _ h => h) .nil))
  ·try simp only [bs] at h1
   obtain rfl : i = l.length := (by omega)
   refine W_exit ?_
   refine W_seq ?_
   refine W_region ?_
   refine o_mv rfl rfl ?_
   refine o_as rfl rfl ?_
   refine Ops_nil ?_
   refine W_ret ?_
   refine FR_post' (.cons (.tmp rfl) .nil) m0 ?_ ?_
   ·rfl
   ·rfl
end Go.Proofs.Ytjihhcjpbcmjaaa
end
section
namespace Go.Proofs.Ytjihhcjpbcmjaaa
open Go Gx
set_option linter.unusedVariables false
theorem en_spec_l04Orbit : Enters Try.prog 65 := enters_of Try.func65 (by kernel_rfl) (by kernel_rfl)
set_option maxRecDepth 100000 in
set_option maxHeartbeats 2000000 in
theorem w_spec_l04Orbit {a : Value} {ha : a.oneCell' = true} {l : List (Nat → Fin 256)} {n : Int} {x0 : Nat} (hp : PsOk l n) (hl : l.length ≤ 1000) (hx : x0 < n.toNat) : CT (X := (Nat → Bool) × (Nat → Fin 256)) Try.prog 65 (vals [.int .i64 (x0 : Int), .raw a ha, .int .i64 n]) [] [rd a (.arrs 10 l)] (fun x => (∀ y, y < n.toNat → x.1 y = orbB l n.toNat x0 y) ∧ Tg l n x0 x.2 x.1) (fun x => .agg [.int .i64 (x0 : Int), .barr 10 x.1, .arr8 100 x.2]) (fun x => []) := by
 refine CT_intro (rs := [.cell 6 84]) tt tok Try.func65 rfl rfl rfl (by first | rfl | assumption) fun w => ?_
 show W _ _ _ ⟨tmOf 0 [.int .i64 (x0 : Int), .raw a ha, .int .i64 n], [rd a (.arrs 10 l)]⟩
 have hn := hp.1
 refine W_seq ?_
 refine W_region ?_
 refine Ops_x rfl (x_alloc rfl (lt_dec rfl) fun b6_1 => ?_)
 refine Ops_nil ?_
 refine W_seq ?_
 refine W_region ?_
 refine o_mv rfl rfl ?_
 refine Ops_p (p_build rfl rfl rfl rfl (by first | exact True.intro | omega | exact Fin.isLt _ | trivial | (dsimp only; omega))) (lt_dec rfl) ?_
 refine Ops_x rfl (x_alloc rfl (lt_dec rfl) fun b7_1 => ?_)
 refine Ops_x rfl (x_store rfl rfl rfl rfl rfl HpRep.head rfl (by first | trivial | (first | (first | omega | (dsimp only; omega)) | exact Fin.isLt _)) ?_)
 refine Ops_nil ?_
 refine W_seq ?_
 refine W_region ?_
 refine o_mv rfl rfl ?_
 refine Ops_p (p_fieldAddr rfl rfl rfl rfl rfl rfl) (lt_dec rfl) ?_
 first | refine Ops_p (p_ix1 x0 rfl rfl rfl rfl rfl rfl (by first | omega | exact Fin.isLt _ | (dsimp only; omega))) (lt_dec rfl) ?_ | refine Ops_p (p_ix1s x0 rfl rfl rfl rfl rfl rfl (by first | omega | exact Fin.isLt _ | (dsimp only; omega))) (lt_dec rfl) ?_
 refine Ops_x rfl (x_store rfl rfl rfl rfl rfl HpRep.head rfl (by first | trivial | (first | (first | omega | (dsimp only; omega)) | exact Fin.isLt _)) ?_)
 refine Ops_nil ?_
 refine W_seq ?_
 refine W_region ?_
 refine o_mv rfl rfl ?_
 refine o_mv rfl rfl ?_
 refine Ops_q (q_call en_spec_l01Same rfl (w_spec_l01Same hn) (View.none _)) (lt_dec rfl) ?_
 refine Ops_p (p_fieldAddr rfl rfl rfl rfl rfl rfl) (lt_dec rfl) ?_
 refine Ops_p (p_ixN 10 x0 rfl rfl rfl rfl rfl rfl (by first | omega | exact Fin.isLt _ | (dsimp only; omega))) (lt_dec rfl) ?_
 refine Ops_x rfl (x_store rfl rfl rfl rfl rfl HpRep.head rfl (by first | trivial | (first | (first | omega | (dsimp only; omega)) | exact Fin.isLt _)) ?_)
 refine Ops_nil ?_
 refine W_seq ?_
 refine W_region ?_
 refine o_mv rfl rfl ?_
 refine Ops_x rfl (x_buildSlice rfl rfl rfl rfl rfl rfl rfl rfl (Nat.le_of_ble_eq_true rfl) (lt_dec rfl) fun b23_1 => ?_)
 refine o_as rfl rfl ?_
 refine Ops_nil ?_
 refine W_seq ?_
 refine W_seq ?_
 refine W_region ?_
 refine o_as rfl rfl ?_
 refine Ops_nil ?_
 refine W_block ?_
 refine W_loop (α := Nat × List Int × Nat × Nat × (Nat → Bool) × (Nat → Fin 256)) (fun zz0 => ⟨[(0, .int .i64 (x0 : Int)), (1, .raw a ha), (2, .int .i64 n), (6, .ptr b6_1 0 none), (7, .ptr b7_1 0 none), (8, .sl (zz0.2.2.1) 0 (zz0.2.1).length (zz0.2.2.2.1)), (9, .int .i64 ((zz0.1) : Int))], [.row (zz0.2.2.1) (zz0.2.2.2.1) 2 (.ints .i64 (zz0.2.1)), .var b7_1 (.agg [.int .i64 (x0 : Int), .barr 10 (zz0.2.2.2.2.1), .arr8 100 (zz0.2.2.2.2.2)]), .var b6_1 (.agg [.int .i64 0, .barr 10 fun _ => false, .arr8 100 fun _ => 0]), rd a (.arrs 10 l)]⟩) (fun zz0 => (zz0.1) ≤ (zz0.2.1).length ∧ Bfs l n.toNat x0 (zz0.1) 0 (zz0.2.1) (zz0.2.2.2.2.1) ∧ Tg l n x0 (zz0.2.2.2.2.2) (zz0.2.2.2.2.1)) (fun zz0 => n.toNat - (zz0.1)) (0, [(x0 : Int)], b23_1, 1, (fun y => if y = x0 then true else false), (fun j => if 10 * x0 ≤ j ∧ j < 10 * x0 + 10 then idT n.toNat (j - 10 * x0) else 0)) ?_ ?_ ?_
 ·exact ⟨Nat.zero_le _, Bfs.zero hx, Tg.start hn hx⟩
 ·exact Wk.intro (.c rfl (.c rfl (.c rfl (.c rfl (.c rfl (.cons rfl (by first | rfl | exact veq_int (by first | omega | (dsimp only; omega))) (.cons rfl (by first | rfl | exact veq_int (by first | omega | (dsimp only; omega))) .nil))))))) (.keep rfl rfl (fun _ h => h) (.keep rfl rfl (imp_var (by first | rfl | (exact ceq_cons (by first | rfl | (refine ceq_int ?_; first | rfl | omega)) (ceq_cons (by first | rfl | (refine ceq_barr fun j hj => ?_; (try dsimp only); first | (simp; done) | ((repeat' split) <;> first | rfl | (exfalso; omega) | (congr 1; omega) | (simp_all; done) | omega))) (ceq_cons (by first | rfl | (refine ceq_arr8 fun j hj => ?_; (try dsimp only); first | (simp; done) | ((repeat' split) <;> first | rfl | (exfalso; omega) | (congr 1; omega) | (simp_all; done) | omega))) (rfl))))) rfl) (.keep rfl rfl (fun _ h => h) (.keep rfl rfl (fun _ h => h) .nil))))
 ·rintro ⟨i, Q, bb, cbb, gg, f⟩ ⟨hi, hB, hT⟩
  try dsimp only at *
  have hlenQ := hB.len
  refine W_seq ?_
  refine W_seq ?_
  refine W_region ?_
  refine o_mv rfl rfl ?_
  refine o_mv rfl rfl ?_
  refine Ops_p (p_len rfl rfl rfl) (lt_dec rfl) ?_
  refine Ops_p (p_lss rfl rfl) (lt_dec rfl) ?_
  refine Ops_nil ?_
  refine W_cond rfl (fun h1 => ?_) (fun h1 => ?_)
  ·try simp only [bs] at h1
   refine W_skip ?_
   refine W_seq ?_
   refine W_block ?_
   refine W_seq ?_
   refine W_region ?_
   refine o_as rfl rfl ?_
   refine Ops_nil ?_
   refine W_block ?_
   refine W_loop (α := Nat × List Int × Nat × Nat × (Nat → Bool) × (Nat → Fin 256)) (fun zz1 => ⟨[(0, .int .i64 (x0 : Int)), (1, .raw a ha), (2, .int .i64 n), (6, .ptr b6_1 0 none), (7, .ptr b7_1 0 none), (8, .sl (zz1.2.2.1) 0 (zz1.2.1).length (zz1.2.2.2.1)), (9, .int .i64 (i : Int)), (10, .int .i64 ((zz1.1) : Int))], [.row (zz1.2.2.1) (zz1.2.2.2.1) 2 (.ints .i64 (zz1.2.1)), .var b7_1 (.agg [.int .i64 (x0 : Int), .barr 10 (zz1.2.2.2.2.1), .arr8 100 (zz1.2.2.2.2.2)]), .var b6_1 (.agg [.int .i64 0, .barr 10 fun _ => false, .arr8 100 fun _ => 0]), rd a (.arrs 10 l)]⟩) (fun zz1 => ((zz1.1) ≤ l.length ∧ i < (zz1.2.1).length) ∧ Bfs l n.toNat x0 i (zz1.1) (zz1.2.1) (zz1.2.2.2.2.1) ∧ Tg l n x0 (zz1.2.2.2.2.2) (zz1.2.2.2.2.1)) (fun zz1 => l.length - (zz1.1)) (0, Q, bb, cbb, gg, f) ?_ ?_ ?_
   ·exact ⟨⟨Nat.zero_le _, by show i < Q.length; omega⟩, hB, hT⟩
   ·exact Wk.intro (.c rfl (.c rfl (.c rfl (.c rfl (.c rfl (.cons rfl (by first | rfl | exact veq_int (by first | omega | (dsimp only; omega))) (.c rfl (.cons rfl (by first | rfl | exact veq_int (by first | omega | (dsimp only; omega))) .nil)))))))) (.keep rfl rfl (fun _ h => h) (.keep rfl rfl (imp_var (by first | rfl | (exact ceq_cons (by first | rfl | (refine ceq_int ?_; first | rfl | omega)) (ceq_cons (by first | rfl | (refine ceq_barr fun j hj => ?_; (try dsimp only); first | (simp; done) | ((repeat' split) <;> first | rfl | (exfalso; omega) | (congr 1; omega) | (simp_all; done) | omega))) (ceq_cons (by first | rfl | (refine ceq_arr8 fun j hj => ?_; (try dsimp only); first | (simp; done) | ((repeat' split) <;> first | rfl | (exfalso; omega) | (congr 1; omega) | (simp_all; done) | omega))) (rfl))))) rfl) (.keep rfl rfl (fun _ h => h) (.keep rfl rfl (fun _ h => h) .nil))))
   ·rintro ⟨k, Q2, b2, c2, gg2, f2⟩ ⟨hR2, hB2, hT2⟩
    try dsimp only at *
    have hlenQ2 := hB2.len
    refine W_seq ?_
    refine W_seq ?_
    refine W_region ?_
    refine o_mv rfl rfl ?_
    refine o_mv rfl rfl ?_
    refine Ops_q ((q_lenR rfl rfl rfl (Rds.rd m3)).eq (d' := .int .i64 ((l.length : Nat) : Int)) rfl) (lt_dec rfl) ?_
    refine Ops_p (p_lss rfl rfl) (lt_dec rfl) ?_
    refine Ops_nil ?_
    refine W_cond rfl (fun h2 => ?_) (fun h2 => ?_)
    ·try simp only [bs] at h2
     refine W_skip ?_
     refine W_seq ?_
     refine W_block ?_
     refine W_seq ?_
     obtain ⟨u, hu, hun, hou⟩ := hB2.at hR2.2
     have hpk := hp.at (k := k) (by omega)
     have huk := perm_lt (i := u) hpk (by omega)
     have hhu := hB2.has hR2.2 hu (by omega)
     have hlen := hB2.len
     refine W_draw (by kernel_rfl) ?_
     show RA _ _ 11 _ _ _
     refine RA_quietF [0, 1, 2, 3, 4, 5, 6, 7, 8, 9, 10] rfl rfl rfl (by kernel_rfl) (by kernel_rfl) ?_
     refine WQ_cons rfl rfl rfl ((p_move rfl).q) (lt_dec rfl) ?_
     refine WQ_cons rfl rfl rfl ((p_move rfl).q) (lt_dec rfl) ?_
     refine WQ_cons rfl rfl rfl ((p_move rfl).q) (lt_dec rfl) ?_
     refine WQ_cons rfl rfl rfl ((p_move rfl).q) (lt_dec rfl) ?_
     refine WQ_cons rfl rfl rfl ((p_ixl1 _ rfl rfl rfl rfl rfl rfl (by first | omega | exact Fin.isLt _ | (dsimp only; omega))).q) (lt_dec rfl) ?_
     refine WQ_cons rfl rfl rfl ((q_load_row rfl rfl m0 rfl rfl (by first | omega | (dsimp only; omega)) rfl rfl)) (lt_dec rfl) ?_
     refine WQ_cons rfl rfl rfl ((q_ixR _ rfl rfl rfl (Rds.rd m3) rfl rfl (by first | (show _ < List.length _; omega) | (show _ < List.length _; first | omega | (dsimp only; omega))) rfl)) (lt_dec rfl) ?_
     refine WQ_cons rfl rfl rfl ((q_ixA u rfl rfl rfl rfl (Rds.rd m3) (by show 0 < List.length _; omega) rfl hu (by omega))) (lt_dec rfl) ?_
     refine WQ_cons rfl rfl rfl ((q_loadA (m := 10) (i := k) (j := u) rfl rfl (Rds.rd m3) rfl (by omega) (by omega) rfl rfl)) (lt_dec rfl) ?_
     first | refine WQ_cons rfl rfl rfl ((p_conv8 rfl rfl rfl (by decide)).q) (lt_dec rfl) ?_ | refine WQ_cons rfl rfl rfl ((p_conv rfl rfl rfl (by exact ⟨(by first | omega | (dsimp only; omega)), (by first | omega | (dsimp only; omega))⟩)).q) (lt_dec rfl) ?_
     refine WQ_cons rfl rfl rfl ((p_assign rfl).q) (lt_dec rfl) ?_
     refine WQ_nil ?_
     refine W_seq ?_
     refine W_region ?_
     refine o_mv rfl rfl ?_
     refine Ops_p (p_fieldAddr rfl rfl rfl rfl rfl rfl) (lt_dec rfl) ?_
     first | refine Ops_p (p_ix1 ((l.getD k fun _ => 0) u).val rfl rfl rfl rfl rfl rfl (by first | omega | exact Fin.isLt _ | (dsimp only; omega))) (lt_dec rfl) ?_ | refine Ops_p (p_ix1s ((l.getD k fun _ => 0) u).val rfl rfl rfl rfl rfl rfl (by first | omega | exact Fin.isLt _ | (dsimp only; omega))) (lt_dec rfl) ?_
     refine Ops_q (q_load rfl rfl m1 rfl (by first | exact True.intro | omega | exact Fin.isLt _ | trivial | (dsimp only; omega))) (lt_dec rfl) ?_
     refine Ops_p (p_not rfl) (lt_dec rfl) ?_
     refine Ops_nil ?_
     refine W_cond rfl (fun h3 => ?_) (fun h3 => ?_)
     ·try simp only [bs] at h3
      refine W_seq ?_
      refine W_region ?_
      refine o_mv rfl rfl ?_
      refine Ops_p (p_fieldAddr rfl rfl rfl rfl rfl rfl) (lt_dec rfl) ?_
      first | refine Ops_p (p_ix1 ((l.getD k fun _ => 0) u).val rfl rfl rfl rfl rfl rfl (by first | omega | exact Fin.isLt _ | (dsimp only; omega))) (lt_dec rfl) ?_ | refine Ops_p (p_ix1s ((l.getD k fun _ => 0) u).val rfl rfl rfl rfl rfl rfl (by first | omega | exact Fin.isLt _ | (dsimp only; omega))) (lt_dec rfl) ?_
      refine Ops_x rfl (x_store rfl rfl rfl rfl rfl ((HpRep.head).tail) rfl (by first | trivial | (first | (first | omega | (dsimp only; omega)) | exact Fin.isLt _)) ?_)
      refine Ops_nil ?_
      refine W_seq ?_
      refine W_draw (by kernel_rfl) ?_
      show RA _ _ 17 _ _ _
      refine RA_quiet (g := 1) [0, 1, 2, 3, 4, 5, 6, 7, 8, 9, 10, 11, 12, 13, 14, 15] (by kernel_rfl) (by kernel_rfl) (by kernel_rfl) (by kernel_rfl) ?_
      refine WQ_cons rfl rfl rfl ((p_move rfl).q) (lt_dec rfl) ?_
      refine WQ_cons rfl rfl rfl ((p_move rfl).q) (lt_dec rfl) ?_
      refine WQ_cons rfl rfl rfl ((p_move rfl).q) (lt_dec rfl) ?_
      refine WQ_cons rfl rfl rfl ((p_ixl1 _ rfl rfl rfl rfl rfl rfl (by first | omega | exact Fin.isLt _ | (dsimp only; omega))).q) (lt_dec rfl) ?_
      refine WQ_cons rfl rfl rfl ((q_load_row rfl rfl m0 rfl rfl (by first | omega | (dsimp only; omega)) rfl rfl)) (lt_dec rfl) ?_
      refine WQ_cons rfl rfl rfl ((p_fieldAddr rfl rfl rfl rfl rfl rfl).q) (lt_dec rfl) ?_
      refine WQ_cons rfl rfl rfl ((p_ixN 10 u rfl rfl rfl rfl rfl hu (by first | omega | exact Fin.isLt _ | (dsimp only; omega))).q) (lt_dec rfl) ?_
      refine WQ_cons rfl rfl rfl ((q_load rfl rfl m1 rfl (by first | exact True.intro | omega | exact Fin.isLt _ | trivial | (dsimp only; omega)))) (lt_dec rfl) ?_
      refine WQ_cons rfl rfl rfl ((p_move rfl).q) (lt_dec rfl) ?_
      refine WQ_cons rfl rfl rfl ((p_move rfl).q) (lt_dec rfl) ?_
      refine WQ_cons rfl rfl rfl ((q_ixR _ rfl rfl rfl (Rds.rd m3) rfl rfl (by first | (show _ < List.length _; omega) | (show _ < List.length _; first | omega | (dsimp only; omega))) rfl)) (lt_dec rfl) ?_
      refine WQ_cons rfl rfl rfl ((q_loadR rfl rfl (Rds.rd m3) rfl rfl (by first | (show _ < List.length _; omega) | (show _ < List.length _; first | omega | (dsimp only; omega))) rfl rfl rfl)) (lt_dec rfl) ?_
      refine WQ_cons rfl rfl rfl ((p_move rfl).q) (lt_dec rfl) ?_
      refine WQ_cons rfl rfl rfl ((q_call en_spec_l01Then rfl (w_spec_l01Then (hT2.perm u hun hhu)) (View.none _))) (lt_dec rfl) ?_
      refine WQ_cons rfl rfl rfl ((p_fieldAddr rfl rfl rfl rfl rfl rfl).q) (lt_dec rfl) ?_
      refine WQ_cons rfl rfl rfl ((p_ixN 10 ((l.getD k fun _ => 0) u).val rfl rfl rfl rfl rfl rfl (by first | omega | exact Fin.isLt _ | (dsimp only; omega))).q) (lt_dec rfl) ?_
      refine WQ_nil ?_
      refine RA_one 16 rfl rfl (by kernel_rfl) (x_store rfl rfl rfl rfl rfl ((HpRep.head).tail) rfl (by first | trivial | (first | (first | omega | (dsimp only; omega)) | exact Fin.isLt _)) ?_)
      refine RA_done (by kernel_rfl) ?_
      refine W_region ?_
      refine o_mv rfl rfl ?_
      refine o_mv rfl rfl ?_
      refine Ops_x rfl (x_buildSlice rfl rfl rfl rfl rfl rfl rfl rfl (Nat.le_of_ble_eq_true rfl) (lt_dec rfl) fun b72_1 => ?_)
      refine Ops_x rfl (x_append rfl rfl rfl rfl rfl rfl (fun _ _ => (HpRep.head).tail) (.inl ⟨m0, rfl⟩) rfl rfl rfl (by first | omega | (dsimp only; omega)) rfl (by first | omega | (dsimp only; omega)) (by first | omega | (dsimp only; omega)) (lt_dec rfl) fun b73_1 cb73_1 => ?_)
      refine o_as rfl rfl ?_
      refine Ops_nil ?_
      refine W_region ?_
      refine o_mv rfl rfl ?_
      refine Ops_p (p_add rfl rfl (by refine ⟨?_, ?_⟩ <;> first | omega | (dsimp only; omega))) (lt_dec rfl) ?_
      refine o_as rfl rfl ?_
      refine Ops_nil ?_
      refine Exists.intro (k + 1, Q2 ++ [((((l.getD k fun _ => 0) u).val : Nat) : Int)], b73_1, cb73_1, (fun y => if y = ((l.getD k fun _ => 0) u).val then true else gg2 y), (fun j => if 10 * ((l.getD k fun _ => 0) u).val ≤ j ∧ j < 10 * ((l.getD k fun _ => 0) u).val + 10 then thenT (fun j => f2 (10 * u + j)) (l.getD k fun _ => 0) n.toNat (j - 10 * ((l.getD k fun _ => 0) u).val) else f2 j)) (And.intro ?_ (And.intro ?_ ?_))
      ·first | exact ⟨⟨by show _ ≤ _; omega, hR2.2⟩, hB2.old hu (by simp_all), hT2⟩ | exact ⟨⟨by show _ ≤ _; omega, by show _ < List.length _; simp; omega⟩, Bfs.new hp hB2 hR2.2 (by omega) hu hun hou (by simp_all), Tg.new hp hx hB2.start (by omega) hun hhu (by simp_all) hT2⟩
      ·show _ < _; omega
      ·exact Wk.intro (.c rfl (.c rfl (.c rfl (.c rfl (.c rfl (.cons rfl (veq_sl (by first | rfl | simp)) (.c rfl (.cons rfl (by first | rfl | exact veq_int (by first | omega | (dsimp only; omega))) .nil)))))))) (.drop (.keep rfl rfl (fun _ h => h) (.keep rfl rfl (imp_var (by first | rfl | (exact ceq_cons (by first | rfl | (refine ceq_int ?_; first | rfl | omega)) (ceq_cons (by first | rfl | (refine ceq_barr fun j hj => ?_; (try dsimp only); first | (simp; done) | ((repeat' split) <;> first | rfl | (exfalso; omega) | (congr 1; omega) | (simp_all; done) | omega))) (ceq_cons (by first | rfl | (refine ceq_arr8 fun j hj => ?_; (try dsimp only); first | (simp; done) | ((repeat' split) <;> first | rfl | (exfalso; omega) | (congr 1; omega) | (simp_all; done) | omega))) (rfl))))) rfl) (.keep rfl rfl (fun _ h => h) (.keep rfl rfl (fun _ h => h) .nil)))))
     ·try simp only [bs] at h3
      refine W_skip ?_
      refine W_region ?_
      refine o_mv rfl rfl ?_
      refine Ops_p (p_add rfl rfl (by refine ⟨?_, ?_⟩ <;> first | omega | (dsimp only; omega))) (lt_dec rfl) ?_
      refine o_as rfl rfl ?_
      refine Ops_nil ?_
      refine Exists.intro (k + 1, Q2, b2, c2, gg2, f2) (And.intro ?_ (And.intro ?_ ?_))
      ·first | exact ⟨⟨by show _ ≤ _; omega, hR2.2⟩, hB2.old hu (by simp_all), hT2⟩ | exact ⟨⟨by show _ ≤ _; omega, by show _ < List.length _; simp; omega⟩, Bfs.new hp hB2 hR2.2 (by omega) hu hun hou (by simp_all), Tg.new hp hx hB2.start (by omega) hun hhu (by simp_all) hT2⟩
      ·show _ < _; omega
      ·exact Wk.intro (.c rfl (.c rfl (.c rfl (.c rfl (.c rfl (.cons rfl (veq_sl (by first | rfl | simp)) (.c rfl (.cons rfl (by first | rfl | exact veq_int (by first | omega | (dsimp only; omega))) .nil)))))))) (.keep rfl rfl (fun _ h => h) (.keep rfl rfl (imp_var (by first | rfl | (exact ceq_cons (by first | rfl | (refine ceq_int ?_; first | rfl | omega)) (ceq_cons (by first | rfl | (refine ceq_barr fun j hj => ?_; (try dsimp only); first | (simp; done) | ((repeat' split) <;> first | rfl | (exfalso; omega) | (congr 1; omega) | (simp_all; done) | omega))) (ceq_cons (by first | rfl | (refine ceq_arr8 fun j hj => ?_; (try dsimp only); first | (simp; done) | ((repeat' split) <;> first | rfl | (exfalso; omega) | (congr 1; omega) | (simp_all; done) | omega))) (rfl))))) rfl) (.keep rfl rfl (fun _ h => h) (.keep rfl rfl (fun _ h => h) .nil))))
    ·try simp only [bs] at h2
     obtain rfl : k = l.length := (by omega)
     refine W_exit ?_
     refine W_region ?_
     refine o_mv rfl rfl ?_
     refine Ops_p (p_add rfl rfl (by refine ⟨?_, ?_⟩ <;> first | omega | (dsimp only; omega))) (lt_dec rfl) ?_
     refine o_as rfl rfl ?_
     refine Ops_nil ?_
     refine Exists.intro (i + 1, Q2, b2, c2, gg2, f2) (And.intro ?_ (And.intro ?_ ?_))
     ·exact ⟨by show i + 1 ≤ Q2.length; omega, hB2.row, hT2⟩
     ·show _ < _; omega
     ·exact Wk.intro (.c rfl (.c rfl (.c rfl (.c rfl (.c rfl (.cons rfl (veq_sl rfl) (.cons rfl (by first | rfl | exact veq_int (by first | omega | (dsimp only; omega))) .nil))))))) (.keep rfl rfl (fun _ h => h) (.keep rfl rfl (imp_var (by first | rfl | (exact ceq_cons (by first | rfl | (refine ceq_int ?_; first | rfl | omega)) (ceq_cons (by first | rfl | (refine ceq_barr fun j hj => ?_; (try dsimp only); first | (simp; done) | ((repeat' split) <;> first | rfl | (exfalso; omega) | (congr 1; omega) | (simp_all; done) | omega))) (ceq_cons (by first | rfl | (refine ceq_arr8 fun j hj => ?_; (try dsimp only); first | (simp; done) | ((repeat' split) <;> first | rfl | (exfalso; omega) | (congr 1; omega) | (simp_all; done) | omega))) (rfl))))) rfl) (.keep rfl rfl (fun _ h => h) (.keep rfl rfl (fun _ h => h) .nil))))
  ·try simp only [bs] at h1
   obtain rfl : i = Q.length := (by omega)
   refine W_exit ?_
   refine W_seq ?_
   refine W_region ?_
   refine Ops_q (q_load rfl rfl m1 rfl (by first | exact True.intro | omega | exact Fin.isLt _ | trivial | (dsimp only; omega))) (lt_dec rfl) ?_
   refine Ops_x rfl (x_store rfl rfl rfl rfl rfl (((HpRep.head).tail).tail) rfl (by first | trivial | (first | (first | omega | (dsimp only; omega)) | exact Fin.isLt _)) ?_)
   refine Ops_nil ?_
   refine W_ret ?_
   refine Exists.intro _ (And.intro (.cons (.cell rfl rfl m2 rfl trivial) .nil) (Exists.intro (gg, f) (And.intro ?_ (And.intro ?_ (And.intro .nil rfl)))))
   ·exact ⟨fun y hy => hB.end hp hx hy, hT⟩
   ·rfl
end Go.Proofs.Ytjihhcjpbcmjaaa
end
section
namespace Go.Proofs.Ytjihhcjpbcmjaaa
open Go Gx
set_option linter.unusedVariables false
theorem en_spec_l04Build : Enters Try.prog 57 := enters_of Try.func57 (by kernel_rfl) (by kernel_rfl)
set_option maxRecDepth 100000 in
set_option maxHeartbeats 1000000 in
theorem w_spec_l04Build {a : Value} {ha : a.oneCell' = true} {l : List (Nat → Fin 256)} {n : Nat} (hp : PsOk l (n : Int)) (hl : l.length ≤ 1000) : CT (X := V1 × List Lv) Try.prog 57 (vals [.raw a ha, .int .i64 (n : Int)]) [] [rd a (.arrs 10 l)] (fun x => ChOk l n x.2) (fun x => .raw x.1.1 x.1.2) (fun x => [own x.1.1 84 (.levs x.2)]) := by
 refine CT_intro (rs := [.tmp 4]) tt tok Try.func57 rfl rfl rfl (by first | rfl | assumption) fun w => ?_
 show W _ _ _ ⟨tmOf 0 [.raw a ha, .int .i64 (n : Int)], [rd a (.arrs 10 l)]⟩
 have hn := hp.1
 refine W_seq ?_
 refine W_region ?_
 refine o_as rfl rfl ?_
 refine Ops_nil ?_
 refine W_seq ?_
 refine W_region ?_
 refine Ops_x rfl (x_buildSlice rfl rfl rfl rfl rfl rfl rfl rfl (Nat.le_of_ble_eq_true rfl) (lt_dec rfl) fun b7_1 => ?_)
 refine o_as rfl rfl ?_
 refine Ops_nil ?_
 refine W_seq ?_
 refine W_seq ?_
 refine W_region ?_
 refine o_as rfl rfl ?_
 refine Ops_nil ?_
 refine W_block ?_
 refine W_loop (α := Nat × Nat × Nat × List Lv) (fun zz0 => ⟨[(0, .raw a ha), (1, .int .i64 (n : Int)), (5, .sl (zz0.2.1) 0 (List.length (zz0.2.2.2)) (zz0.2.2.1)), (6, .int .i64 ((zz0.1) : Int))], [.row (zz0.2.1) (zz0.2.2.1) 84 (.levs (zz0.2.2.2)), rd a (.arrs 10 l)]⟩) (fun zz0 => (zz0.1) ≤ n ∧ (zz0.2.2.2).length = (zz0.1) ∧ ∀ k, k < (zz0.1) → LvOk l n k ((zz0.2.2.2).getD k lv0)) (fun zz0 => n - (zz0.1)) (0, b7_1, 0, []) ?_ ?_ ?_
 ·exact ⟨Nat.zero_le _, rfl, fun k hk => absurd hk (Nat.not_lt_zero _)⟩
 ·exact Wk.intro (.c rfl (.c rfl (.cons rfl (by first | rfl | exact veq_int (by first | omega | (dsimp only; omega))) (.cons rfl (by first | rfl | exact veq_int (by first | omega | (dsimp only; omega))) .nil)))) (.keep rfl rfl (fun _ h => h) (.keep rfl rfl (fun _ h => h) .nil))
 ·rintro ⟨i, bb, cbb, D⟩ ⟨hi, hDl, hD⟩
  try dsimp only at *
  refine W_seq ?_
  refine W_seq ?_
  refine W_region ?_
  refine o_mv rfl rfl ?_
  refine o_mv rfl rfl ?_
  refine Ops_p (p_lss rfl rfl) (lt_dec rfl) ?_
  refine Ops_nil ?_
  refine W_cond rfl (fun h1 => ?_) (fun h1 => ?_)
  ·try simp only [bs] at h1
   refine W_skip ?_
   refine W_seq ?_
   refine W_block ?_
   have hkl : List.length (kp l i) ≤ l.length := kpI_len (l := l) (k := i) l.length
   refine W_region ?_
   refine o_mv rfl rfl ?_
   refine o_mv rfl rfl ?_
   refine o_mv rfl rfl ?_
   refine o_mv rfl rfl ?_
   refine Ops_x rfl (x_callRow en_spec_l04Keeping rfl (w_spec_l04Keeping (by omega) (by omega)) (Vw.rd m1).v rfl (lt_dec rfl) fun b17_1 cb17_1 => ?_)
   refine o_mv rfl rfl ?_
   refine Ops_x rfl (x_callT en_spec_l04Orbit rfl (w_spec_l04Orbit (ha := rfl) (l := kp l i) (x0 := i) (kp_ok hp i) (by omega) (by omega)) HpDels.nil (Vw.rdW m0 rfl) (fun _ => HpDels.nil) (lt_dec rfl) fun x19_1 hx1 => ?_)
   refine Ops_x rfl (x_buildSlice rfl rfl rfl rfl rfl rfl rfl rfl (Nat.le_of_ble_eq_true rfl) (lt_dec rfl) fun b20_1 => ?_)
   refine Ops_x rfl (x_append rfl rfl rfl rfl rfl rfl (fun _ _ => ((HpRep.head).tail).tail) (.inl ⟨m0, rfl⟩) rfl rfl rfl (by first | omega | (dsimp only; omega)) rfl (by first | omega | (dsimp only; omega)) (by first | omega | (dsimp only; omega)) (lt_dec rfl) fun b21_1 cb21_1 => ?_)
   refine o_as rfl rfl ?_
   refine Ops_nil ?_
   refine W_region ?_
   refine o_mv rfl rfl ?_
   refine Ops_p (p_add rfl rfl (by refine ⟨?_, ?_⟩ <;> first | omega | (dsimp only; omega))) (lt_dec rfl) ?_
   refine o_as rfl rfl ?_
   refine Ops_nil ?_
   refine Exists.intro (i + 1, b21_1, cb21_1, D ++ [((i : Int), (x19_1.1, x19_1.2))]) (And.intro ?_ (And.intro ?_ ?_))
   ·exact ⟨by show _ ≤ _; omega, by show List.length (D ++ [_]) = _; rw [List.length_append, hDl]; rfl, lv_snoc hDl hD ⟨rfl, hx1.1, hx1.2⟩⟩
   ·show _ < _; omega
   ·exact Wk.intro (.c rfl (.c rfl (.cons rfl (veq_sl (by simp)) (.cons rfl (by first | rfl | exact veq_int (by first | omega | (dsimp only; omega))) .nil)))) (.drop (.drop (.keep rfl rfl (fun _ h => h) (.keep rfl rfl (fun _ h => h) .nil))))
  ·try simp only [bs] at h1
   obtain rfl : i = n := (by omega)
   refine W_exit ?_
   refine W_seq ?_
   refine W_region ?_
   refine o_mv rfl rfl ?_
   refine o_as rfl rfl ?_
   refine Ops_nil ?_
   refine W_ret ?_
   refine Exists.intro _ (And.intro (.cons (.tmp rfl) .nil) (Exists.intro (slv bb (List.length D) cbb, D) (And.intro ?_ (And.intro ?_ (And.intro (.cons HpDel.head rfl (own_of_row rfl rfl) .nil) rfl)))))
   ·exact ⟨hDl, hD⟩
   ·rfl
end Go.Proofs.Ytjihhcjpbcmjaaa
end
section
namespace Go.Proofs.Ytjihhcjpbcmjaaa
open Go Gx
set_option linter.unusedVariables false
theorem en_spec_l01Back : Enters Try.prog 56 := enters_of Try.func56 (by kernel_rfl) (by kernel_rfl)
set_option maxRecDepth 100000 in
theorem w_spec_l01Back {p : Nat → Fin 256} {n : Int} (hP : IsPerm p n) : CR Try.prog 56 (vals [.arr8 10 p, .int .i64 n]) [] (.arr8 10 (backT p n.toNat)) := by
 refine CR_intro (rs := [.cell 4 33]) tt tok Try.func56 rfl rfl rfl (by first | rfl | assumption) fun w => ?_
 refine W_seq ?_
 refine W_region ?_
 refine Ops_x rfl (x_box rfl rfl (lt_dec rfl) fun b2_1 => ?_)
 refine Ops_x rfl (x_alloc rfl (lt_dec rfl) fun b4_1 => ?_)
 refine Ops_nil ?_
 refine W_seq ?_
 refine W_region ?_
 refine Ops_p (p_build_arr rfl rfl rfl rfl (by first | exact True.intro | omega | exact Fin.isLt _ | trivial | (dsimp only; omega))) (lt_dec rfl) ?_
 refine Ops_x rfl (x_alloc rfl (lt_dec rfl) fun b5_1 => ?_)
 refine Ops_x rfl (x_store rfl rfl rfl rfl rfl HpRep.head rfl (by first | trivial | (first | (first | omega | (dsimp only; omega)) | exact Fin.isLt _)) ?_)
 refine Ops_nil ?_
 refine W_seq ?_
 refine W_seq ?_
 refine W_region ?_
 refine o_as rfl rfl ?_
 refine Ops_nil ?_
 refine W_block ?_
 refine W_loop (α := Nat) (fun i => ⟨[(0, .arr8 10 p), (1, .int .i64 n), (2, .ptr b2_1 0 none), (4, .ptr b4_1 0 none), (5, .ptr b5_1 0 none), (6, .int .i64 (i : Int))], [.var b5_1 (.arr8 10 (backT p i)), .var b4_1 (.arr8 10 fun _ => 0), .var b2_1 (.arr8 10 p)]⟩) (fun i => i ≤ n.toNat) (fun i => n.toNat - i) 0 ?_ ?_ ?_
 ·show _ ≤ _; omega
 ·exact Wk.intro (.c rfl (.c rfl (.c rfl (.c rfl (.c rfl (.cons rfl (by first | rfl | exact veq_int (by first | omega | (dsimp only; omega))) .nil)))))) (.keep rfl rfl (imp_var (by rfl) rfl) (.keep rfl rfl (fun _ h => h) (.keep rfl rfl (fun _ h => h) .nil)))
 ·rintro i hR
  refine W_seq ?_
  refine W_seq ?_
  refine W_region ?_
  refine o_mv rfl rfl ?_
  refine o_mv rfl rfl ?_
  refine Ops_p (p_lss rfl rfl) (lt_dec rfl) ?_
  refine Ops_nil ?_
  refine W_cond rfl (fun h1 => ?_) (fun h1 => ?_)
  ·try simp only [bs] at h1
   have hpi := perm_lt hP h1
   refine W_skip ?_
   refine W_seq ?_
   refine W_block ?_
   refine W_region ?_
   refine o_mv rfl rfl ?_
   first | refine Ops_p (p_ix1 _ rfl rfl rfl rfl rfl rfl (by first | omega | exact Fin.isLt _ | (dsimp only; omega))) (lt_dec rfl) ?_ | refine Ops_p (p_ix1s _ rfl rfl rfl rfl rfl rfl (by first | omega | exact Fin.isLt _ | (dsimp only; omega))) (lt_dec rfl) ?_
   refine Ops_q (q_load rfl rfl m2 rfl (by first | exact True.intro | omega | exact Fin.isLt _ | trivial | (dsimp only; omega))) (lt_dec rfl) ?_
   refine o_mv rfl rfl ?_
   refine Ops_p (p_conv rfl rfl rfl (by exact ⟨(by first | omega | (dsimp only; omega)), (by first | omega | (dsimp only; omega))⟩)) (lt_dec rfl) ?_
   first | refine Ops_p (p_ix1 _ rfl rfl rfl rfl rfl rfl (by first | omega | exact Fin.isLt _ | (dsimp only; omega))) (lt_dec rfl) ?_ | refine Ops_p (p_ix1s _ rfl rfl rfl rfl rfl rfl (by first | omega | exact Fin.isLt _ | (dsimp only; omega))) (lt_dec rfl) ?_
   refine Ops_x rfl (x_store rfl rfl rfl rfl rfl HpRep.head rfl (by first | trivial | (first | (first | omega | (dsimp only; omega)) | exact Fin.isLt _)) ?_)
   refine Ops_nil ?_
   refine W_region ?_
   refine o_mv rfl rfl ?_
   refine Ops_p (p_add rfl rfl (by refine ⟨?_, ?_⟩ <;> first | omega | (dsimp only; omega))) (lt_dec rfl) ?_
   refine o_as rfl rfl ?_
   refine Ops_nil ?_
   refine Exists.intro (i + 1) (And.intro ?_ (And.intro ?_ ?_))
   ·show _ ≤ _; omega
   ·show _ < _; omega
   ·exact Wk.intro (.c rfl (.c rfl (.c rfl (.c rfl (.c rfl (.cons rfl (by first | rfl | exact veq_int (by first | omega | (dsimp only; omega))) .nil)))))) (.keep rfl rfl (imp_var (by exact ceq_arr8 fun j hj => rfl) rfl) (.keep rfl rfl (fun _ h => h) (.keep rfl rfl (fun _ h => h) .nil)))
  ·try simp only [bs] at h1
   refine W_exit ?_
   refine W_seq ?_
   refine W_region ?_
   refine Ops_q (q_load rfl rfl m0 rfl (by first | exact True.intro | omega | exact Fin.isLt _ | trivial | (dsimp only; omega))) (lt_dec rfl) ?_
   refine Ops_x rfl (x_store rfl rfl rfl rfl rfl ((HpRep.head).tail) rfl (by first | trivial | (first | (first | omega | (dsimp only; omega)) | exact Fin.isLt _)) ?_)
   refine Ops_nil ?_
   refine W_ret ?_
   refine Exists.intro _ (And.intro (.cons (.cell rfl rfl m1 rfl trivial) .nil) ?_)
   first | rfl | (refine veq_bool ?_; simp_all; done) | (refine veq_bool ?_; simp; omega) | (refine veq_bool ?_; rw [eq_comm, decide_eq_false_iff_not]; omega) | (refine veq_bool ?_; rw [eq_comm, decide_eq_true_iff]; omega) | (refine veq_int ?_; omega) | (refine veq_arr8 fun j hj => ?_; (try dsimp only); first | (simp; done) | (simp; omega) | ((repeat' split) <;> first | rfl | (exfalso; omega) | (congr 1; omega) | (simp_all; done))) | (obtain rfl : i = n.toNat := (by omega); rfl)
end Go.Proofs.Ytjihhcjpbcmjaaa
end
section
namespace Go.Proofs.Ytjihhcjpbcmjaaa
open Go Gx
set_option linter.unusedVariables false
theorem en_spec_l04Sift : Enters Try.prog 35 := enters_of Try.func35 (by kernel_rfl) (by kernel_rfl)
set_option maxRecDepth 100000 in
theorem w_spec_l04Sift {a : Value} {ha : a.oneCell' = true} {C : List Lv} {l : List (Nat → Fin 256)} {n : Nat} {p : Nat → Fin 256} (hC : ChOk l n C) (hp : IsPerm p (n : Int)) : CR Try.prog 35 (vals [.raw a ha, .arr8 10 p, .int .i64 (n : Int)]) [rd a (.levs C)] (.tup [.arr8 10 (Prod.fst (sfP C n n 0 p)), .int .i64 ((Prod.snd (sfP C n n 0 p) : Nat) : Int)]) := by
 refine CR_intro (rs := [.cell 6 33, .tmp 7]) tt tok Try.func35 rfl rfl rfl (by first | rfl | assumption) fun w => ?_
 have hn := hp.2.1
 have hCl := hC.len
 refine W_seq ?_
 refine W_region ?_
 refine Ops_x rfl (x_box rfl rfl (lt_dec rfl) fun b4_1 => ?_)
 refine Ops_x rfl (x_alloc rfl (lt_dec rfl) fun b6_1 => ?_)
 refine o_as rfl rfl ?_
 refine Ops_nil ?_
 refine W_seq ?_
 refine W_seq ?_
 refine W_region ?_
 refine o_as rfl rfl ?_
 refine Ops_nil ?_
 refine W_block ?_
 refine W_loop (α := Nat × (Nat → Fin 256)) (fun zz0 => ⟨[(0, .raw a ha), (1, .arr8 10 p), (2, .int .i64 (n : Int)), (4, .ptr b4_1 0 none), (6, .ptr b6_1 0 none), (8, .int .i64 ((zz0.1) : Int))], [.var b6_1 (.arr8 10 fun _ => 0), .var b4_1 (.arr8 10 (zz0.2)), rd a (.levs C)]⟩) (fun zz0 => (zz0.1) ≤ n ∧ IsPerm (zz0.2) (n : Int) ∧ sfP C n n 0 p = sfP C n (n - (zz0.1)) (zz0.1) (zz0.2)) (fun zz0 => n - (zz0.1)) (0, p) ?_ ?_ ?_
 ·exact ⟨Nat.zero_le _, hp, rfl⟩
 ·exact Wk.intro (.c rfl (.c rfl (.c rfl (.c rfl (.c rfl (.cons rfl (by first | rfl | exact veq_int (by first | omega | (dsimp only; omega))) .nil)))))) (.keep rfl rfl (fun _ h => h) (.keep rfl rfl (fun _ h => h) (.keep rfl rfl (fun _ h => h) .nil)))
 ·rintro ⟨k, w⟩ ⟨hk, hW, hS⟩
  try dsimp only at *
  refine W_seq ?_
  refine W_seq ?_
  refine W_region ?_
  refine o_mv rfl rfl ?_
  refine o_mv rfl rfl ?_
  refine Ops_q ((q_lenR rfl rfl rfl (Rds.rd m2)).eq (d' := .int .i64 ((C.length : Nat) : Int)) rfl) (lt_dec rfl) ?_
  refine Ops_p (p_lss rfl rfl) (lt_dec rfl) ?_
  refine Ops_nil ?_
  refine W_cond rfl (fun h1 => ?_) (fun h1 => ?_)
  ·try simp only [bs] at h1
   refine W_skip ?_
   refine W_seq ?_
   refine W_block ?_
   refine W_seq ?_
   have hwl := (perm_lt hW (i := k) (by omega)).1
   have hbk := (hC.lv k (by omega)).base
   refine W_region ?_
   refine o_mv rfl rfl ?_
   refine o_mv rfl rfl ?_
   refine Ops_q (q_ixLev k rfl rfl rfl rfl (Rds.rd m2) rfl rfl (by omega)) (lt_dec rfl) ?_
   refine Ops_q (q_fieldR rfl rfl rfl rfl rfl rfl (Rds.rd m2) (by show 0 < List.length _; omega)) (lt_dec rfl) ?_
   refine Ops_q ((q_levBase (k := k) rfl rfl (Rds.rd m2) (by omega) (by omega) rfl rfl).eq (d' := .int .i64 (k : Int)) (veq_int hbk)) (lt_dec rfl) ?_
   first | refine Ops_p (p_ix1 k rfl rfl rfl rfl rfl rfl (by first | omega | exact Fin.isLt _ | (dsimp only; omega))) (lt_dec rfl) ?_ | refine Ops_p (p_ix1s k rfl rfl rfl rfl rfl rfl (by first | omega | exact Fin.isLt _ | (dsimp only; omega))) (lt_dec rfl) ?_
   refine Ops_q (q_load rfl rfl m1 rfl (by first | exact True.intro | omega | exact Fin.isLt _ | trivial | (dsimp only; omega))) (lt_dec rfl) ?_
   refine o_as rfl rfl ?_
   refine Ops_nil ?_
   refine W_seq ?_
   refine W_seq ?_
   refine W_region ?_
   refine o_mv rfl rfl ?_
   refine o_mv rfl rfl ?_
   refine o_mv rfl rfl ?_
   refine Ops_q (q_ixLev k rfl rfl rfl rfl (Rds.rd m2) rfl rfl (by omega)) (lt_dec rfl) ?_
   refine Ops_q (q_fieldR rfl rfl rfl rfl rfl rfl (Rds.rd m2) (by show 0 < List.length _; omega)) (lt_dec rfl) ?_
   refine Ops_q (q_ixAN 1 (w k).val rfl rfl rfl rfl (Rds.rd m2) (by show 0 < List.length _; omega) rfl rfl (by omega)) (lt_dec rfl) ?_
   refine Ops_q (q_levHas (k := k) (y := (w k).val) rfl rfl (Rds.rd m2) (by omega) (by omega) (by omega) rfl rfl) (lt_dec rfl) ?_
   refine Ops_p (p_not rfl) (lt_dec rfl) ?_
   refine Ops_nil ?_
   refine W_cond rfl (fun h2 => ?_) (fun h2 => ?_)
   ·try simp only [bs] at h2
    have hh : (C.getD k lv0).2.1 (w k).val = false := (by simpa using h2)
    refine W_seq ?_
    refine W_region ?_
    refine Ops_q (q_load rfl rfl m1 rfl (by first | exact True.intro | omega | exact Fin.isLt _ | trivial | (dsimp only; omega))) (lt_dec rfl) ?_
    refine o_mv rfl rfl ?_
    refine Ops_x rfl (x_store rfl rfl rfl rfl rfl HpRep.head rfl (by first | trivial | (first | (first | omega | (dsimp only; omega)) | exact Fin.isLt _)) ?_)
    refine o_as rfl rfl ?_
    refine Ops_nil ?_
    refine W_ret ?_
    refine Exists.intro _ (And.intro (.cons (.cell rfl rfl m0 rfl trivial) (.cons (.tmp rfl) .nil)) ?_)
    first | rfl | (exact veq_tup2 (by rw [hS, sfP_f (by omega) hh]) (by rw [hS, sfP_f (by omega) hh])) | (exact veq_tup2 (by rw [hS, sfP_end]) (by rw [hS, sfP_end, hCl]))
   ·try simp only [bs] at h2
    have hh : (C.getD k lv0).2.1 (w k).val = true := (by simpa using h2)
    refine W_skip ?_
    refine W_draw (by kernel_rfl) ?_
    show RA _ _ 13 _ _ _
    refine RA_quiet (g := 1) [0, 1, 2, 3, 4, 5, 6, 7, 8, 9, 10, 11] (by kernel_rfl) (by kernel_rfl) (by kernel_rfl) (by kernel_rfl) ?_
    refine WQ_cons rfl rfl rfl ((q_load rfl rfl m1 rfl (by first | exact True.intro | omega | exact Fin.isLt _ | trivial | (dsimp only; omega)))) (lt_dec rfl) ?_
    refine WQ_cons rfl rfl rfl ((p_move rfl).q) (lt_dec rfl) ?_
    refine WQ_cons rfl rfl rfl ((p_move rfl).q) (lt_dec rfl) ?_
    refine WQ_cons rfl rfl rfl ((p_move rfl).q) (lt_dec rfl) ?_
    refine WQ_cons rfl rfl rfl ((q_ixLev k rfl rfl rfl rfl (Rds.rd m2) rfl rfl (by omega))) (lt_dec rfl) ?_
    refine WQ_cons rfl rfl rfl ((q_fieldR rfl rfl rfl rfl rfl rfl (Rds.rd m2) (by show 0 < List.length _; omega))) (lt_dec rfl) ?_
    refine WQ_cons rfl rfl rfl ((q_ixAN 10 (w k).val rfl rfl rfl rfl (Rds.rd m2) (by show 0 < List.length _; omega) rfl rfl (by omega))) (lt_dec rfl) ?_
    refine WQ_cons rfl rfl rfl ((q_levRow (k := k) (y := (w k).val) rfl rfl (Rds.rd m2) (by omega) (by omega) (by omega) rfl rfl)) (lt_dec rfl) ?_
    refine WQ_cons rfl rfl rfl ((p_move rfl).q) (lt_dec rfl) ?_
    refine WQ_cons rfl rfl rfl ((q_call en_spec_l01Back rfl (w_spec_l01Back (hC.perm (by omega) (by omega) hh)) (View.none _))) (lt_dec rfl) ?_
    refine WQ_cons rfl rfl rfl ((p_move rfl).q) (lt_dec rfl) ?_
    refine WQ_cons rfl rfl rfl ((q_call en_spec_l01Then rfl (w_spec_l01Then hW) (View.none _))) (lt_dec rfl) ?_
    refine WQ_nil ?_
    refine RA_one 12 rfl rfl (by kernel_rfl) (x_store rfl rfl rfl rfl rfl ((HpRep.head).tail) rfl (by first | trivial | (first | (first | omega | (dsimp only; omega)) | exact Fin.isLt _)) ?_)
    refine RA_done (by kernel_rfl) ?_
    refine W_region ?_
    refine o_mv rfl rfl ?_
    refine Ops_p (p_add rfl rfl (by refine ⟨?_, ?_⟩ <;> first | omega | (dsimp only; omega))) (lt_dec rfl) ?_
    refine o_as rfl rfl ?_
    refine Ops_nil ?_
    refine Exists.intro (k + 1, rstC C n k w) (And.intro ?_ (And.intro ?_ ?_))
    ·exact ⟨by show _ ≤ _; omega, rst_perm hC hW (by omega) hh, hS.trans (sfP_t (by omega) hh)⟩
    ·show _ < _; omega
    ·exact Wk.intro (.c rfl (.c rfl (.c rfl (.c rfl (.c rfl (.cons rfl (by first | rfl | exact veq_int (by first | omega | (dsimp only; omega))) .nil)))))) (.keep rfl rfl (fun _ h => h) (.keep rfl rfl (imp_var rfl rfl) (.keep rfl rfl (fun _ h => h) .nil)))
  ·try simp only [bs] at h1
   obtain rfl : k = n := (by omega)
   refine W_exit ?_
   refine W_seq ?_
   refine W_region ?_
   refine Ops_q (q_load rfl rfl m1 rfl (by first | exact True.intro | omega | exact Fin.isLt _ | trivial | (dsimp only; omega))) (lt_dec rfl) ?_
   refine o_mv rfl rfl ?_
   refine Ops_q ((q_lenR rfl rfl rfl (Rds.rd m2)).eq (d' := .int .i64 ((C.length : Nat) : Int)) rfl) (lt_dec rfl) ?_
   refine Ops_x rfl (x_store rfl rfl rfl rfl rfl HpRep.head rfl (by first | trivial | (first | (first | omega | (dsimp only; omega)) | exact Fin.isLt _)) ?_)
   refine o_as rfl rfl ?_
   refine Ops_nil ?_
   refine W_ret ?_
   refine Exists.intro _ (And.intro (.cons (.cell rfl rfl m0 rfl trivial) (.cons (.tmp rfl) .nil)) ?_)
   first | rfl | (exact veq_tup2 (by rw [hS, sfP_f (by omega) hh]) (by rw [hS, sfP_f (by omega) hh])) | (exact veq_tup2 (by rw [hS, sfP_end]) (by rw [hS, sfP_end, hCl]))
end Go.Proofs.Ytjihhcjpbcmjaaa
end
section
namespace Go.Proofs.Ytjihhcjpbcmjaaa
open Go Gx
set_option linter.unusedVariables false
theorem en_spec_l04Missing : Enters Try.prog 58 := enters_of Try.func58 (by kernel_rfl) (by kernel_rfl)
set_option maxRecDepth 100000 in
set_option maxHeartbeats 2000000 in
theorem w_spec_l04Missing {a : Value} {ha : a.oneCell' = true} {C : List Lv} {l : List (Nat → Fin 256)} {a2 : Value} {ha2 : a2.oneCell' = true} {n : Nat} (hC : ChOk l n C) (hp : PsOk l (n : Int)) (hl : l.length ≤ 1000) : CT (X := (Nat → Fin 256) × Bool) Try.prog 58 (vals [.raw a ha, .raw a2 ha2, .int .i64 (n : Int)]) [] [rd a (.levs C), rd a2 (.arrs 10 l)] (fun x => (Prod.snd x = false → ∀ j, j < n → ClC n l C j) ∧ (Prod.snd x = true → Miss l n C (Prod.fst x))) (fun x => .tup [.arr8 10 (Prod.fst x), .bool (Prod.snd x)]) (fun x => []) := by
 refine CT_intro (rs := [.cell 6 33, .tmp 7]) tt tok Try.func58 rfl rfl rfl (by first | rfl | assumption) fun w => ?_
 show W _ _ _ ⟨tmOf 0 [.raw a ha, .raw a2 ha2, .int .i64 (n : Int)], [rd a (.levs C), rd a2 (.arrs 10 l)]⟩
 have hn := hp.1
 have hCl := hC.len
 refine W_seq ?_
 refine W_region ?_
 refine Ops_x rfl (x_alloc rfl (lt_dec rfl) fun b6_1 => ?_)
 refine o_as rfl rfl ?_
 refine Ops_nil ?_
 refine W_seq ?_
 refine W_seq ?_
 refine W_region ?_
 refine o_mv rfl rfl ?_
 refine Ops_p (p_sub rfl rfl (by refine ⟨?_, ?_⟩ <;> first | omega | (dsimp only; omega))) (lt_dec rfl) ?_
 refine o_as rfl rfl ?_
 refine Ops_nil ?_
 refine W_block ?_
 refine W_loop (α := Nat) (fun b => ⟨[(0, .raw a ha), (1, .raw a2 ha2), (2, .int .i64 (n : Int)), (6, .ptr b6_1 0 none), (7, .bool false), (8, .int .i64 ((b : Int) - 1))], [.var b6_1 (.arr8 10 fun _ => 0), rd a (.levs C), rd a2 (.arrs 10 l)]⟩) (fun b => b ≤ n ∧ ∀ j, b ≤ j → j < n → ClC n l C j) (fun b => b) n ?_ ?_ ?_
 ·exact ⟨Nat.le_refl _, fun j h1 h2 => by omega⟩
 ·exact Wk.intro (.c rfl (.c rfl (.c rfl (.c rfl (.c rfl (.cons rfl (by first | rfl | exact veq_int (by first | omega | (dsimp only; omega))) .nil)))))) (.keep rfl rfl (fun _ h => h) (.keep rfl rfl (fun _ h => h) (.keep rfl rfl (fun _ h => h) .nil)))
 ·rintro b ⟨hb, hR⟩
  refine W_seq ?_
  refine W_seq ?_
  refine W_region ?_
  refine o_mv rfl rfl ?_
  refine Ops_p (p_geq rfl rfl) (lt_dec rfl) ?_
  refine Ops_nil ?_
  refine W_cond rfl (fun h1 => ?_) (fun h1 => ?_)
  ·try simp only [bs] at h1
   obtain ⟨k, hbk⟩ : ∃ k, b = k + 1 := ⟨b - 1, by omega⟩; have hkl : List.length (kp l k) ≤ l.length := kpI_len (l := l) (k := k) l.length
   refine W_skip ?_
   refine W_seq ?_
   refine W_block ?_
   refine W_cutE (fun E s' => ∃ vb : Nat, ∃ rb : Nat, ∃ rc : Nat, (True) ∧ Wk E s' ⟨[(0, .raw a ha), (1, .raw a2 ha2), (2, .int .i64 (n : Int)), (6, .ptr b6_1 0 none), (7, .bool false), (8, .int .i64 ((b : Int) - 1)), (9, .ptr vb 0 none), (10, .sl rb 0 (List.length (kp l k)) rc)], [.var vb (.agg [.int .i64 (Prod.fst (List.getD C k lv0)), .barr 10 (Prod.fst (Prod.snd (List.getD C k lv0))), .arr8 100 (Prod.snd (Prod.snd (List.getD C k lv0)))]), .row rb rc 33 (.arrs 10 (kp l k)), .var b6_1 (.arr8 10 fun _ => 0), rd a (.levs C), rd a2 (.arrs 10 l)]⟩) ?_ ?_
   ·refine W_draw (by kernel_rfl) ?_
    show RA _ _ 10 _ _ _
    refine RA_take 0 rfl rfl rfl (by kernel_rfl) (by kernel_rfl) (by kernel_rfl) (p_move rfl) (lt_dec rfl) ?_
    refine RA_take 1 rfl rfl rfl (by kernel_rfl) (by kernel_rfl) (by kernel_rfl) ((p_move rfl).eq (d' := .int .i64 (k : Int)) (veq_int (by omega))) (lt_dec rfl) ?_
    refine RA_take 4 rfl rfl rfl (by kernel_rfl) (by kernel_rfl) (by kernel_rfl) (p_move rfl) (lt_dec rfl) ?_
    refine RA_take 5 rfl rfl rfl (by kernel_rfl) (by kernel_rfl) (by kernel_rfl) ((p_move rfl).eq (d' := .int .i64 (k : Int)) (veq_int (by omega))) (lt_dec rfl) ?_
    refine RA_three 2 6 7 rfl rfl rfl rfl rfl rfl (by kernel_rfl) ?_ ?_ ?_
    ·refine Xt_of_Qt rfl (lt_dec rfl) ((q_ixLev k rfl rfl rfl rfl (Rds.rd m1) rfl rfl (by omega))) ?_
     refine RA_three 3 6 7 rfl rfl rfl rfl rfl rfl (by kernel_rfl) ?_ ?_ ?_
     ·refine Xt_of_Qt rfl (lt_dec rfl) ((q_lev (k := k) rfl rfl (Rds.rd m1) rfl (by omega) rfl rfl)) ?_
      refine RA_two 6 7 rfl rfl rfl rfl (by kernel_rfl) ?_ ?_
      ·refine x_callRow en_spec_l04Keeping rfl (w_spec_l04Keeping (by omega) (by omega)) (Vw.rd m2).v rfl (lt_dec rfl) fun b28_1 cb28_1 => ?_
       refine RA_one 7 rfl rfl (by kernel_rfl) (x_alloc rfl (lt_dec rfl) fun b9_1 => ?_)
       refine RA_one 8 rfl rfl (by kernel_rfl) (x_store rfl rfl rfl rfl rfl HpRep.head rfl (by first | trivial | (first | (first | omega | (dsimp only; omega)) | exact Fin.isLt _)) ?_)
       refine RA_quiet (g := 0) [9] (by kernel_rfl) (by kernel_rfl) (by kernel_rfl) (by kernel_rfl) ?_
       refine WQ_cons rfl rfl rfl ((p_assign rfl).q) (lt_dec rfl) ?_
       refine WQ_nil ?_
       refine RA_done (by kernel_rfl) ?_
       refine ⟨b9_1, b28_1, cb28_1, ?_, ?_⟩
       ·trivial
       ·exact Wk.intro (.c rfl (.c rfl (.c rfl (.c rfl (.c rfl (.c rfl (.cons rfl (by first | rfl | exact veq_int (by first | omega | (dsimp only; omega))) (.cons rfl (by first | rfl | exact veq_int (by first | omega | (dsimp only; omega))) .nil)))))))) (.keep rfl rfl (fun _ h => h) (.keep rfl rfl (fun _ h => h) (.keep rfl rfl (fun _ h => h) (.keep rfl rfl (fun _ h => h) (.keep rfl rfl (fun _ h => h) .nil)))))
      ·refine x_alloc rfl (lt_dec rfl) fun b9_2 => ?_
       refine RA_one 6 rfl rfl (by kernel_rfl) (x_callRow en_spec_l04Keeping rfl (w_spec_l04Keeping (by omega) (by omega)) (Vw.rd m3).v rfl (lt_dec rfl) fun b28_2 cb28_2 => ?_)
       refine RA_one 8 rfl rfl (by kernel_rfl) (x_store rfl rfl rfl rfl rfl ((HpRep.head).tail) rfl (by first | trivial | (first | (first | omega | (dsimp only; omega)) | exact Fin.isLt _)) ?_)
       refine RA_quiet (g := 0) [9] (by kernel_rfl) (by kernel_rfl) (by kernel_rfl) (by kernel_rfl) ?_
       refine WQ_cons rfl rfl rfl ((p_assign rfl).q) (lt_dec rfl) ?_
       refine WQ_nil ?_
       refine RA_done (by kernel_rfl) ?_
       refine ⟨b9_2, b28_2, cb28_2, ?_, ?_⟩
       ·trivial
       ·exact Wk.pick (.c rfl (.c rfl (.c rfl (.c rfl (.c rfl (.c rfl (.cons rfl (by first | rfl | exact veq_int (by first | omega | (dsimp only; omega))) (.cons rfl (by first | rfl | exact veq_int (by first | omega | (dsimp only; omega))) .nil)))))))) (.cons (HpDel.head).tail rfl rfl (fun _ h => h) (.cons HpDel.head rfl rfl (fun _ h => h) (.cons HpDel.head rfl rfl (fun _ h => h) (.cons HpDel.head rfl rfl (fun _ h => h) (.cons HpDel.head rfl rfl (fun _ h => h) .nil)))))
     ·refine x_callRow en_spec_l04Keeping rfl (w_spec_l04Keeping (by omega) (by omega)) (Vw.rd m2).v rfl (lt_dec rfl) fun b28_3 cb28_3 => ?_
      refine RA_quietA (g := 2) (hs := [3]) (ia := 7) rfl rfl (lt_dec rfl) (by kernel_rfl) ?_
      refine SQ_cons rfl rfl rfl ((q_lev (k := k) rfl rfl (Rds.rd m2) rfl (by omega) rfl rfl)) (lt_dec rfl) ?_
      refine SQ_nil ?_
      refine ⟨fun b9_3 => ?_, ?_⟩
      ·refine RA_one 8 rfl rfl (by kernel_rfl) (x_store rfl rfl rfl rfl rfl HpRep.head rfl (by first | trivial | (first | (first | omega | (dsimp only; omega)) | exact Fin.isLt _)) ?_)
       refine RA_quiet (g := 0) [9] (by kernel_rfl) (by kernel_rfl) (by kernel_rfl) (by kernel_rfl) ?_
       refine WQ_cons rfl rfl rfl ((p_assign rfl).q) (lt_dec rfl) ?_
       refine WQ_nil ?_
       refine RA_done (by kernel_rfl) ?_
       refine ⟨b9_3, b28_3, cb28_3, ?_, ?_⟩
       ·trivial
       ·exact Wk.intro (.c rfl (.c rfl (.c rfl (.c rfl (.c rfl (.c rfl (.cons rfl (by first | rfl | exact veq_int (by first | omega | (dsimp only; omega))) (.cons rfl (by first | rfl | exact veq_int (by first | omega | (dsimp only; omega))) .nil)))))))) (.keep rfl rfl (fun _ h => h) (.keep rfl rfl (fun _ h => h) (.keep rfl rfl (fun _ h => h) (.keep rfl rfl (fun _ h => h) (.keep rfl rfl (fun _ h => h) .nil)))))
      ·refine RA_one 7 rfl rfl (by kernel_rfl) (x_alloc rfl (lt_dec rfl) fun b9_4 => ?_)
       refine RA_one 8 rfl rfl (by kernel_rfl) (x_store rfl rfl rfl rfl rfl HpRep.head rfl (by first | trivial | (first | (first | omega | (dsimp only; omega)) | exact Fin.isLt _)) ?_)
       refine RA_quiet (g := 0) [9] (by kernel_rfl) (by kernel_rfl) (by kernel_rfl) (by kernel_rfl) ?_
       refine WQ_cons rfl rfl rfl ((p_assign rfl).q) (lt_dec rfl) ?_
       refine WQ_nil ?_
       refine RA_done (by kernel_rfl) ?_
       refine ⟨b9_4, b28_3, cb28_3, ?_, ?_⟩
       ·trivial
       ·exact Wk.intro (.c rfl (.c rfl (.c rfl (.c rfl (.c rfl (.c rfl (.cons rfl (by first | rfl | exact veq_int (by first | omega | (dsimp only; omega))) (.cons rfl (by first | rfl | exact veq_int (by first | omega | (dsimp only; omega))) .nil)))))))) (.keep rfl rfl (fun _ h => h) (.keep rfl rfl (fun _ h => h) (.keep rfl rfl (fun _ h => h) (.keep rfl rfl (fun _ h => h) (.keep rfl rfl (fun _ h => h) .nil)))))
     ·refine x_alloc rfl (lt_dec rfl) fun b9_5 => ?_
      refine RA_two 3 6 rfl rfl rfl rfl (by kernel_rfl) ?_ ?_
      ·refine Xt_of_Qt rfl (lt_dec rfl) ((q_lev (k := k) rfl rfl (Rds.rd m2) rfl (by omega) rfl rfl)) ?_
       refine RA_one 6 rfl rfl (by kernel_rfl) (x_callRow en_spec_l04Keeping rfl (w_spec_l04Keeping (by omega) (by omega)) (Vw.rd m3).v rfl (lt_dec rfl) fun b28_4 cb28_4 => ?_)
       refine RA_one 8 rfl rfl (by kernel_rfl) (x_store rfl rfl rfl rfl rfl ((HpRep.head).tail) rfl (by first | trivial | (first | (first | omega | (dsimp only; omega)) | exact Fin.isLt _)) ?_)
       refine RA_quiet (g := 0) [9] (by kernel_rfl) (by kernel_rfl) (by kernel_rfl) (by kernel_rfl) ?_
       refine WQ_cons rfl rfl rfl ((p_assign rfl).q) (lt_dec rfl) ?_
       refine WQ_nil ?_
       refine RA_done (by kernel_rfl) ?_
       refine ⟨b9_5, b28_4, cb28_4, ?_, ?_⟩
       ·trivial
       ·exact Wk.pick (.c rfl (.c rfl (.c rfl (.c rfl (.c rfl (.c rfl (.cons rfl (by first | rfl | exact veq_int (by first | omega | (dsimp only; omega))) (.cons rfl (by first | rfl | exact veq_int (by first | omega | (dsimp only; omega))) .nil)))))))) (.cons (HpDel.head).tail rfl rfl (fun _ h => h) (.cons HpDel.head rfl rfl (fun _ h => h) (.cons HpDel.head rfl rfl (fun _ h => h) (.cons HpDel.head rfl rfl (fun _ h => h) (.cons HpDel.head rfl rfl (fun _ h => h) .nil)))))
      ·refine x_callRow en_spec_l04Keeping rfl (w_spec_l04Keeping (by omega) (by omega)) (Vw.rd m3).v rfl (lt_dec rfl) fun b28_5 cb28_5 => ?_
       refine RA_quiet (g := 2) [3] (by kernel_rfl) (by kernel_rfl) (by kernel_rfl) (by kernel_rfl) ?_
       refine WQ_cons rfl rfl rfl ((q_lev (k := k) rfl rfl (Rds.rd m3) rfl (by omega) rfl rfl)) (lt_dec rfl) ?_
       refine WQ_nil ?_
       refine RA_one 8 rfl rfl (by kernel_rfl) (x_store rfl rfl rfl rfl rfl ((HpRep.head).tail) rfl (by first | trivial | (first | (first | omega | (dsimp only; omega)) | exact Fin.isLt _)) ?_)
       refine RA_quiet (g := 0) [9] (by kernel_rfl) (by kernel_rfl) (by kernel_rfl) (by kernel_rfl) ?_
       refine WQ_cons rfl rfl rfl ((p_assign rfl).q) (lt_dec rfl) ?_
       refine WQ_nil ?_
       refine RA_done (by kernel_rfl) ?_
       refine ⟨b9_5, b28_5, cb28_5, ?_, ?_⟩
       ·trivial
       ·exact Wk.pick (.c rfl (.c rfl (.c rfl (.c rfl (.c rfl (.c rfl (.cons rfl (by first | rfl | exact veq_int (by first | omega | (dsimp only; omega))) (.cons rfl (by first | rfl | exact veq_int (by first | omega | (dsimp only; omega))) .nil)))))))) (.cons (HpDel.head).tail rfl rfl (fun _ h => h) (.cons HpDel.head rfl rfl (fun _ h => h) (.cons HpDel.head rfl rfl (fun _ h => h) (.cons HpDel.head rfl rfl (fun _ h => h) (.cons HpDel.head rfl rfl (fun _ h => h) .nil)))))
    ·refine x_callRow en_spec_l04Keeping rfl (w_spec_l04Keeping (by omega) (by omega)) (Vw.rd m2).v rfl (lt_dec rfl) fun b28_6 cb28_6 => ?_
     refine RA_quietA (g := 2) (hs := [2, 3]) (ia := 7) rfl rfl (lt_dec rfl) (by kernel_rfl) ?_
     refine SQ_cons rfl rfl rfl ((q_ixLev k rfl rfl rfl rfl (Rds.rd m2) rfl rfl (by omega))) (lt_dec rfl) ?_
     refine SQ_cons rfl rfl rfl ((q_lev (k := k) rfl rfl (Rds.rd m2) rfl (by omega) rfl rfl)) (lt_dec rfl) ?_
     refine SQ_nil ?_
     refine ⟨fun b9_6 => ?_, ?_⟩
     ·refine RA_one 8 rfl rfl (by kernel_rfl) (x_store rfl rfl rfl rfl rfl HpRep.head rfl (by first | trivial | (first | (first | omega | (dsimp only; omega)) | exact Fin.isLt _)) ?_)
      refine RA_quiet (g := 0) [9] (by kernel_rfl) (by kernel_rfl) (by kernel_rfl) (by kernel_rfl) ?_
      refine WQ_cons rfl rfl rfl ((p_assign rfl).q) (lt_dec rfl) ?_
      refine WQ_nil ?_
      refine RA_done (by kernel_rfl) ?_
      refine ⟨b9_6, b28_6, cb28_6, ?_, ?_⟩
      ·trivial
      ·exact Wk.intro (.c rfl (.c rfl (.c rfl (.c rfl (.c rfl (.c rfl (.cons rfl (by first | rfl | exact veq_int (by first | omega | (dsimp only; omega))) (.cons rfl (by first | rfl | exact veq_int (by first | omega | (dsimp only; omega))) .nil)))))))) (.keep rfl rfl (fun _ h => h) (.keep rfl rfl (fun _ h => h) (.keep rfl rfl (fun _ h => h) (.keep rfl rfl (fun _ h => h) (.keep rfl rfl (fun _ h => h) .nil)))))
     ·refine RA_one 7 rfl rfl (by kernel_rfl) (x_alloc rfl (lt_dec rfl) fun b9_7 => ?_)
      refine RA_one 8 rfl rfl (by kernel_rfl) (x_store rfl rfl rfl rfl rfl HpRep.head rfl (by first | trivial | (first | (first | omega | (dsimp only; omega)) | exact Fin.isLt _)) ?_)
      refine RA_quiet (g := 0) [9] (by kernel_rfl) (by kernel_rfl) (by kernel_rfl) (by kernel_rfl) ?_
      refine WQ_cons rfl rfl rfl ((p_assign rfl).q) (lt_dec rfl) ?_
      refine WQ_nil ?_
      refine RA_done (by kernel_rfl) ?_
      refine ⟨b9_7, b28_6, cb28_6, ?_, ?_⟩
      ·trivial
      ·exact Wk.intro (.c rfl (.c rfl (.c rfl (.c rfl (.c rfl (.c rfl (.cons rfl (by first | rfl | exact veq_int (by first | omega | (dsimp only; omega))) (.cons rfl (by first | rfl | exact veq_int (by first | omega | (dsimp only; omega))) .nil)))))))) (.keep rfl rfl (fun _ h => h) (.keep rfl rfl (fun _ h => h) (.keep rfl rfl (fun _ h => h) (.keep rfl rfl (fun _ h => h) (.keep rfl rfl (fun _ h => h) .nil)))))
    ·refine x_alloc rfl (lt_dec rfl) fun b9_8 => ?_
     refine RA_two 2 6 rfl rfl rfl rfl (by kernel_rfl) ?_ ?_
     ·refine Xt_of_Qt rfl (lt_dec rfl) ((q_ixLev k rfl rfl rfl rfl (Rds.rd m2) rfl rfl (by omega))) ?_
      refine RA_two 3 6 rfl rfl rfl rfl (by kernel_rfl) ?_ ?_
      ·refine Xt_of_Qt rfl (lt_dec rfl) ((q_lev (k := k) rfl rfl (Rds.rd m2) rfl (by omega) rfl rfl)) ?_
       refine RA_one 6 rfl rfl (by kernel_rfl) (x_callRow en_spec_l04Keeping rfl (w_spec_l04Keeping (by omega) (by omega)) (Vw.rd m3).v rfl (lt_dec rfl) fun b28_7 cb28_7 => ?_)
       refine RA_one 8 rfl rfl (by kernel_rfl) (x_store rfl rfl rfl rfl rfl ((HpRep.head).tail) rfl (by first | trivial | (first | (first | omega | (dsimp only; omega)) | exact Fin.isLt _)) ?_)
       refine RA_quiet (g := 0) [9] (by kernel_rfl) (by kernel_rfl) (by kernel_rfl) (by kernel_rfl) ?_
       refine WQ_cons rfl rfl rfl ((p_assign rfl).q) (lt_dec rfl) ?_
       refine WQ_nil ?_
       refine RA_done (by kernel_rfl) ?_
       refine ⟨b9_8, b28_7, cb28_7, ?_, ?_⟩
       ·trivial
       ·exact Wk.pick (.c rfl (.c rfl (.c rfl (.c rfl (.c rfl (.c rfl (.cons rfl (by first | rfl | exact veq_int (by first | omega | (dsimp only; omega))) (.cons rfl (by first | rfl | exact veq_int (by first | omega | (dsimp only; omega))) .nil)))))))) (.cons (HpDel.head).tail rfl rfl (fun _ h => h) (.cons HpDel.head rfl rfl (fun _ h => h) (.cons HpDel.head rfl rfl (fun _ h => h) (.cons HpDel.head rfl rfl (fun _ h => h) (.cons HpDel.head rfl rfl (fun _ h => h) .nil)))))
      ·refine x_callRow en_spec_l04Keeping rfl (w_spec_l04Keeping (by omega) (by omega)) (Vw.rd m3).v rfl (lt_dec rfl) fun b28_8 cb28_8 => ?_
       refine RA_quiet (g := 2) [3] (by kernel_rfl) (by kernel_rfl) (by kernel_rfl) (by kernel_rfl) ?_
       refine WQ_cons rfl rfl rfl ((q_lev (k := k) rfl rfl (Rds.rd m3) rfl (by omega) rfl rfl)) (lt_dec rfl) ?_
       refine WQ_nil ?_
       refine RA_one 8 rfl rfl (by kernel_rfl) (x_store rfl rfl rfl rfl rfl ((HpRep.head).tail) rfl (by first | trivial | (first | (first | omega | (dsimp only; omega)) | exact Fin.isLt _)) ?_)
       refine RA_quiet (g := 0) [9] (by kernel_rfl) (by kernel_rfl) (by kernel_rfl) (by kernel_rfl) ?_
       refine WQ_cons rfl rfl rfl ((p_assign rfl).q) (lt_dec rfl) ?_
       refine WQ_nil ?_
       refine RA_done (by kernel_rfl) ?_
       refine ⟨b9_8, b28_8, cb28_8, ?_, ?_⟩
       ·trivial
       ·exact Wk.pick (.c rfl (.c rfl (.c rfl (.c rfl (.c rfl (.c rfl (.cons rfl (by first | rfl | exact veq_int (by first | omega | (dsimp only; omega))) (.cons rfl (by first | rfl | exact veq_int (by first | omega | (dsimp only; omega))) .nil)))))))) (.cons (HpDel.head).tail rfl rfl (fun _ h => h) (.cons HpDel.head rfl rfl (fun _ h => h) (.cons HpDel.head rfl rfl (fun _ h => h) (.cons HpDel.head rfl rfl (fun _ h => h) (.cons HpDel.head rfl rfl (fun _ h => h) .nil)))))
     ·refine x_callRow en_spec_l04Keeping rfl (w_spec_l04Keeping (by omega) (by omega)) (Vw.rd m3).v rfl (lt_dec rfl) fun b28_9 cb28_9 => ?_
      refine RA_quiet (g := 2) [2, 3] (by kernel_rfl) (by kernel_rfl) (by kernel_rfl) (by kernel_rfl) ?_
      refine WQ_cons rfl rfl rfl ((q_ixLev k rfl rfl rfl rfl (Rds.rd m3) rfl rfl (by omega))) (lt_dec rfl) ?_
      refine WQ_cons rfl rfl rfl ((q_lev (k := k) rfl rfl (Rds.rd m3) rfl (by omega) rfl rfl)) (lt_dec rfl) ?_
      refine WQ_nil ?_
      refine RA_one 8 rfl rfl (by kernel_rfl) (x_store rfl rfl rfl rfl rfl ((HpRep.head).tail) rfl (by first | trivial | (first | (first | omega | (dsimp only; omega)) | exact Fin.isLt _)) ?_)
      refine RA_quiet (g := 0) [9] (by kernel_rfl) (by kernel_rfl) (by kernel_rfl) (by kernel_rfl) ?_
      refine WQ_cons rfl rfl rfl ((p_assign rfl).q) (lt_dec rfl) ?_
      refine WQ_nil ?_
      refine RA_done (by kernel_rfl) ?_
      refine ⟨b9_8, b28_9, cb28_9, ?_, ?_⟩
      ·trivial
      ·exact Wk.pick (.c rfl (.c rfl (.c rfl (.c rfl (.c rfl (.c rfl (.cons rfl (by first | rfl | exact veq_int (by first | omega | (dsimp only; omega))) (.cons rfl (by first | rfl | exact veq_int (by first | omega | (dsimp only; omega))) .nil)))))))) (.cons (HpDel.head).tail rfl rfl (fun _ h => h) (.cons HpDel.head rfl rfl (fun _ h => h) (.cons HpDel.head rfl rfl (fun _ h => h) (.cons HpDel.head rfl rfl (fun _ h => h) (.cons HpDel.head rfl rfl (fun _ h => h) .nil)))))
   ·rintro s' ⟨vb, rb, rc, _, hw⟩
    refine W_wk hw ?_
    clear hw s'
    refine W_seq ?_
    refine W_region ?_
    refine o_as rfl rfl ?_
    refine Ops_nil ?_
    refine W_block ?_
    refine W_loop (α := Nat) (fun x => ⟨[(0, .raw a ha), (1, .raw a2 ha2), (2, .int .i64 (n : Int)), (6, .ptr b6_1 0 none), (7, .bool false), (8, .int .i64 ((b : Int) - 1)), (9, .ptr vb 0 none), (10, .sl rb 0 (List.length (kp l k)) rc), (11, .int .i64 (x : Int))], [.var vb (.agg [.int .i64 (Prod.fst (List.getD C k lv0)), .barr 10 (Prod.fst (Prod.snd (List.getD C k lv0))), .arr8 100 (Prod.snd (Prod.snd (List.getD C k lv0)))]), .row rb rc 33 (.arrs 10 (kp l k)), .var b6_1 (.arr8 10 fun _ => 0), rd a (.levs C), rd a2 (.arrs 10 l)]⟩) (fun x => x ≤ n ∧ HlC l n C k x) (fun x => n - x) 0 ?_ ?_ ?_
    ·exact ⟨Nat.zero_le _, HlC.zero⟩
    ·exact Wk.intro (.c rfl (.c rfl (.c rfl (.c rfl (.c rfl (.c rfl (.c rfl (.c rfl (.cons rfl (by first | rfl | exact veq_int (by first | omega | (dsimp only; omega))) .nil))))))))) (.keep rfl rfl (fun _ h => h) (.keep rfl rfl (fun _ h => h) (.keep rfl rfl (fun _ h => h) (.keep rfl rfl (fun _ h => h) (.keep rfl rfl (fun _ h => h) .nil)))))
    ·rintro x ⟨hx, hX⟩
     refine W_seq ?_
     refine W_seq ?_
     refine W_region ?_
     refine o_mv rfl rfl ?_
     refine o_mv rfl rfl ?_
     refine Ops_p (p_lss rfl rfl) (lt_dec rfl) ?_
     refine Ops_nil ?_
     refine W_cond rfl (fun h2 => ?_) (fun h2 => ?_)
     ·try simp only [bs] at h2
      refine W_skip ?_
      refine W_seq ?_
      refine W_block ?_
      refine W_seq ?_
      refine W_region ?_
      refine o_as rfl rfl ?_
      refine Ops_nil ?_
      refine W_block ?_
      refine W_loop (α := Nat) (fun i => ⟨[(0, .raw a ha), (1, .raw a2 ha2), (2, .int .i64 (n : Int)), (6, .ptr b6_1 0 none), (7, .bool false), (8, .int .i64 ((b : Int) - 1)), (9, .ptr vb 0 none), (10, .sl rb 0 (List.length (kp l k)) rc), (11, .int .i64 (x : Int)), (12, .int .i64 (i : Int))], [.var vb (.agg [.int .i64 (Prod.fst (List.getD C k lv0)), .barr 10 (Prod.fst (Prod.snd (List.getD C k lv0))), .arr8 100 (Prod.snd (Prod.snd (List.getD C k lv0)))]), .row rb rc 33 (.arrs 10 (kp l k)), .var b6_1 (.arr8 10 fun _ => 0), rd a (.levs C), rd a2 (.arrs 10 l)]⟩) (fun i => i ≤ (kp l k).length ∧ HrC l n C k x i) (fun i => (kp l k).length - i) 0 ?_ ?_ ?_
      ·exact ⟨Nat.zero_le _, HrC.zero⟩
      ·exact Wk.intro (.c rfl (.c rfl (.c rfl (.c rfl (.c rfl (.c rfl (.c rfl (.c rfl (.c rfl (.cons rfl (by first | rfl | exact veq_int (by first | omega | (dsimp only; omega))) .nil)))))))))) (.keep rfl rfl (fun _ h => h) (.keep rfl rfl (fun _ h => h) (.keep rfl rfl (fun _ h => h) (.keep rfl rfl (fun _ h => h) (.keep rfl rfl (fun _ h => h) .nil)))))
      ·rintro i ⟨hi, hI⟩
       refine W_seq ?_
       refine W_seq ?_
       refine W_region ?_
       refine o_mv rfl rfl ?_
       refine o_mv rfl rfl ?_
       refine Ops_p (p_len rfl rfl rfl) (lt_dec rfl) ?_
       refine Ops_p (p_lss rfl rfl) (lt_dec rfl) ?_
       refine o_mv rfl rfl ?_
       refine Ops_guard rfl rfl (lt_dec rfl) (fun hg1 => ?_) (fun hg1 => ?_)
       ·try simp only [bs] at hg1
        refine o_mv rfl rfl ?_
        refine Ops_guard_t rfl rfl (lt_dec rfl) ?_
        refine Ops_p (p_fieldAddr rfl rfl rfl rfl rfl rfl) (lt_dec rfl) ?_
        refine Ops_guard_t rfl rfl (lt_dec rfl) ?_
        first | refine Ops_p (p_ix1 x rfl rfl rfl rfl rfl rfl (by first | omega | exact Fin.isLt _ | (dsimp only; omega))) (lt_dec rfl) ?_ | refine Ops_p (p_ix1s x rfl rfl rfl rfl rfl rfl (by first | omega | exact Fin.isLt _ | (dsimp only; omega))) (lt_dec rfl) ?_
        refine Ops_guard_t rfl rfl (lt_dec rfl) ?_
        refine Ops_q (q_load rfl rfl m0 rfl (by first | exact True.intro | omega | exact Fin.isLt _ | trivial | (dsimp only; omega))) (lt_dec rfl) ?_
        refine Ops_p (p_pick_t rfl rfl) (lt_dec rfl) ?_
        refine Ops_nil ?_
        refine W_cond rfl (fun h3 => ?_) (fun h3 => ?_)
        ·try simp only [bs] at h3
         have hhx : (C.getD k lv0).2.1 x = true := (by first | exact h3 | simpa using h3)
         refine W_skip ?_
         refine W_seq ?_
         refine W_block ?_
         refine W_seq ?_
         obtain ⟨ms1, ms2, ms3⟩ := miss_step hC hp (k := k) (x := x) (by omega) (by omega) hhx (kp_getD (i := i) (by omega))
         refine W_draw (by kernel_rfl) ?_
         show RA _ _ 12 _ _ _
         refine RA_quietA (g := 1) (hs := [0, 1, 2, 3, 4, 5, 6, 7, 8, 9]) (ia := 10) rfl rfl (lt_dec rfl) (by kernel_rfl) ?_
         refine SQ_cons rfl rfl rfl ((p_move rfl).q) (lt_dec rfl) ?_
         refine SQ_cons rfl rfl rfl ((p_fieldAddr rfl rfl rfl rfl rfl rfl).q) (lt_dec rfl) ?_
         refine SQ_cons rfl rfl rfl ((p_ixN 10 x rfl rfl rfl rfl rfl rfl (by first | omega | exact Fin.isLt _ | (dsimp only; omega))).q) (lt_dec rfl) ?_
         refine SQ_cons rfl rfl rfl ((q_load rfl rfl m0 rfl (by first | exact True.intro | omega | exact Fin.isLt _ | trivial | (dsimp only; omega)))) (lt_dec rfl) ?_
         refine SQ_cons rfl rfl rfl ((p_move rfl).q) (lt_dec rfl) ?_
         refine SQ_cons rfl rfl rfl ((p_move rfl).q) (lt_dec rfl) ?_
         refine SQ_cons rfl rfl rfl ((p_ixlN 10 i rfl rfl rfl rfl rfl rfl (by first | omega | exact Fin.isLt _ | (dsimp only; omega))).q) (lt_dec rfl) ?_
         refine SQ_cons rfl rfl rfl ((q_load_row rfl rfl m1 rfl rfl (by first | omega | (dsimp only; omega)) rfl rfl)) (lt_dec rfl) ?_
         refine SQ_cons rfl rfl rfl ((p_move rfl).q) (lt_dec rfl) ?_
         refine SQ_cons rfl rfl rfl ((q_call en_spec_l01Then rfl (w_spec_l01Then (hC.perm (by omega) (by omega) hhx)) (View.none _))) (lt_dec rfl) ?_
         refine SQ_nil ?_
         refine ⟨fun b13_1 => ?_, ?_⟩
         ·refine RA_one 11 rfl rfl (by kernel_rfl) (x_store rfl rfl rfl rfl rfl HpRep.head rfl (by first | trivial | (first | (first | omega | (dsimp only; omega)) | exact Fin.isLt _)) ?_)
          refine RA_done (by kernel_rfl) ?_
          refine W_seq ?_
          refine W_region ?_
          refine o_mv rfl rfl ?_
          refine Ops_q (q_load rfl rfl m0 rfl (by first | exact True.intro | omega | exact Fin.isLt _ | trivial | (dsimp only; omega))) (lt_dec rfl) ?_
          refine o_mv rfl rfl ?_
          refine Ops_q (q_call en_spec_l04Sift rfl (w_spec_l04Sift hC ms1) (Vw.rd m4).v) (lt_dec rfl) ?_
          refine o_mv rfl rfl ?_
          refine Ops_p (p_extract rfl rfl) (lt_dec rfl) ?_
          refine Ops_p (p_extract rfl rfl) (lt_dec rfl) ?_
          refine Ops_x rfl (x_alloc rfl (lt_dec rfl) fun b14_1 => ?_)
          refine Ops_x rfl (x_store rfl rfl rfl rfl rfl HpRep.head rfl (by first | trivial | (first | (first | omega | (dsimp only; omega)) | exact Fin.isLt _)) ?_)
          refine o_as rfl rfl ?_
          refine Ops_nil ?_
          refine W_seq ?_
          refine W_draw (by kernel_rfl) ?_
          show RA _ _ 4 _ _ _
          refine RA_quietF [0, 1, 2, 3] rfl rfl rfl (by kernel_rfl) (by kernel_rfl) ?_
          refine WQ_cons rfl rfl rfl ((q_load rfl rfl m0 rfl (by first | exact True.intro | omega | exact Fin.isLt _ | trivial | (dsimp only; omega)))) (lt_dec rfl) ?_
          refine WQ_cons rfl rfl rfl ((p_move rfl).q) (lt_dec rfl) ?_
          refine WQ_cons rfl rfl rfl ((q_call en_spec_l01Same rfl (w_spec_l01Same hn) (View.none _))) (lt_dec rfl) ?_
          refine WQ_cons rfl rfl rfl ((p_neq8 rfl rfl rfl rfl (by kernel_rfl) (by kernel_rfl) (by kernel_rfl)).q) (lt_dec rfl) ?_
          refine WQ_nil ?_
          refine W_cond rfl (fun h4 => ?_) (fun h4 => ?_)
          ·try simp only [bs] at h4
           have hne := h4
           refine W_seq ?_
           refine W_region ?_
           refine Ops_q (q_load rfl rfl m0 rfl (by first | exact True.intro | omega | exact Fin.isLt _ | trivial | (dsimp only; omega))) (lt_dec rfl) ?_
           refine Ops_x rfl (x_store rfl rfl rfl rfl rfl (((((HpRep.head).tail).tail).tail).tail) rfl (by first | trivial | (first | (first | omega | (dsimp only; omega)) | exact Fin.isLt _)) ?_)
           refine o_as rfl rfl ?_
           refine Ops_nil ?_
           refine W_ret ?_
           refine Exists.intro _ (And.intro (.cons (.cell rfl rfl m4 rfl trivial) (.cons (.tmp rfl) .nil)) (Exists.intro ((Prod.fst (sfP C n n 0 (thenT (rowC C k x) (List.getD (kp l k) i (fun _ => 0)) n))), true) (And.intro ?_ (And.intro ?_ (And.intro .nil rfl)))))
           ·exact ⟨fun h => (by cases h), fun _ => ms3 hne⟩
           ·rfl
          ·try simp only [bs] at h4
           have hne := h4
           refine W_skip ?_
           refine W_region ?_
           refine o_mv rfl rfl ?_
           refine Ops_p (p_add rfl rfl (by refine ⟨?_, ?_⟩ <;> first | omega | (dsimp only; omega))) (lt_dec rfl) ?_
           refine o_as rfl rfl ?_
           refine Ops_nil ?_
           refine Exists.intro (i + 1) (And.intro ?_ (And.intro ?_ ?_))
           ·exact ⟨by omega, hI.next (ms2 hne)⟩
           ·show _ < _; omega
           ·exact Wk.intro (.c rfl (.c rfl (.c rfl (.c rfl (.c rfl (.c rfl (.c rfl (.c rfl (.c rfl (.cons rfl (by first | rfl | exact veq_int (by first | omega | (dsimp only; omega))) .nil)))))))))) (.drop (.drop (.keep rfl rfl (fun _ h => h) (.keep rfl rfl (fun _ h => h) (.keep rfl rfl (fun _ h => h) (.keep rfl rfl (fun _ h => h) (.keep rfl rfl (fun _ h => h) .nil)))))))
         ·refine RA_one 10 rfl rfl (by kernel_rfl) (x_alloc rfl (lt_dec rfl) fun b13_2 => ?_)
          refine RA_one 11 rfl rfl (by kernel_rfl) (x_store rfl rfl rfl rfl rfl HpRep.head rfl (by first | trivial | (first | (first | omega | (dsimp only; omega)) | exact Fin.isLt _)) ?_)
          refine RA_done (by kernel_rfl) ?_
          refine W_seq ?_
          refine W_region ?_
          refine o_mv rfl rfl ?_
          refine Ops_q (q_load rfl rfl m0 rfl (by first | exact True.intro | omega | exact Fin.isLt _ | trivial | (dsimp only; omega))) (lt_dec rfl) ?_
          refine o_mv rfl rfl ?_
          refine Ops_q (q_call en_spec_l04Sift rfl (w_spec_l04Sift hC ms1) (Vw.rd m4).v) (lt_dec rfl) ?_
          refine o_mv rfl rfl ?_
          refine Ops_p (p_extract rfl rfl) (lt_dec rfl) ?_
          refine Ops_p (p_extract rfl rfl) (lt_dec rfl) ?_
          refine Ops_x rfl (x_alloc rfl (lt_dec rfl) fun b14_2 => ?_)
          refine Ops_x rfl (x_store rfl rfl rfl rfl rfl HpRep.head rfl (by first | trivial | (first | (first | omega | (dsimp only; omega)) | exact Fin.isLt _)) ?_)
          refine o_as rfl rfl ?_
          refine Ops_nil ?_
          refine W_seq ?_
          refine W_draw (by kernel_rfl) ?_
          show RA _ _ 4 _ _ _
          refine RA_quietF [0, 1, 2, 3] rfl rfl rfl (by kernel_rfl) (by kernel_rfl) ?_
          refine WQ_cons rfl rfl rfl ((q_load rfl rfl m0 rfl (by first | exact True.intro | omega | exact Fin.isLt _ | trivial | (dsimp only; omega)))) (lt_dec rfl) ?_
          refine WQ_cons rfl rfl rfl ((p_move rfl).q) (lt_dec rfl) ?_
          refine WQ_cons rfl rfl rfl ((q_call en_spec_l01Same rfl (w_spec_l01Same hn) (View.none _))) (lt_dec rfl) ?_
          refine WQ_cons rfl rfl rfl ((p_neq8 rfl rfl rfl rfl (by kernel_rfl) (by kernel_rfl) (by kernel_rfl)).q) (lt_dec rfl) ?_
          refine WQ_nil ?_
          refine W_cond rfl (fun h5 => ?_) (fun h5 => ?_)
          ·try simp only [bs] at h5
           have hne := h5
           refine W_seq ?_
           refine W_region ?_
           refine Ops_q (q_load rfl rfl m0 rfl (by first | exact True.intro | omega | exact Fin.isLt _ | trivial | (dsimp only; omega))) (lt_dec rfl) ?_
           refine Ops_x rfl (x_store rfl rfl rfl rfl rfl (((((HpRep.head).tail).tail).tail).tail) rfl (by first | trivial | (first | (first | omega | (dsimp only; omega)) | exact Fin.isLt _)) ?_)
           refine o_as rfl rfl ?_
           refine Ops_nil ?_
           refine W_ret ?_
           refine Exists.intro _ (And.intro (.cons (.cell rfl rfl m4 rfl trivial) (.cons (.tmp rfl) .nil)) (Exists.intro ((Prod.fst (sfP C n n 0 (thenT (rowC C k x) (List.getD (kp l k) i (fun _ => 0)) n))), true) (And.intro ?_ (And.intro ?_ (And.intro .nil rfl)))))
           ·exact ⟨fun h => (by cases h), fun _ => ms3 hne⟩
           ·rfl
          ·try simp only [bs] at h5
           have hne := h5
           refine W_skip ?_
           refine W_region ?_
           refine o_mv rfl rfl ?_
           refine Ops_p (p_add rfl rfl (by refine ⟨?_, ?_⟩ <;> first | omega | (dsimp only; omega))) (lt_dec rfl) ?_
           refine o_as rfl rfl ?_
           refine Ops_nil ?_
           refine Exists.intro (i + 1) (And.intro ?_ (And.intro ?_ ?_))
           ·exact ⟨by omega, hI.next (ms2 hne)⟩
           ·show _ < _; omega
           ·exact Wk.intro (.c rfl (.c rfl (.c rfl (.c rfl (.c rfl (.c rfl (.c rfl (.c rfl (.c rfl (.cons rfl (by first | rfl | exact veq_int (by first | omega | (dsimp only; omega))) .nil)))))))))) (.drop (.drop (.keep rfl rfl (fun _ h => h) (.keep rfl rfl (fun _ h => h) (.keep rfl rfl (fun _ h => h) (.keep rfl rfl (fun _ h => h) (.keep rfl rfl (fun _ h => h) .nil)))))))
        ·try simp only [bs] at h3
         have hhx : (C.getD k lv0).2.1 x = false := (by first | exact h3 | simpa using h3)
         refine W_exit ?_
         refine W_region ?_
         refine o_mv rfl rfl ?_
         refine Ops_p (p_add rfl rfl (by refine ⟨?_, ?_⟩ <;> first | omega | (dsimp only; omega))) (lt_dec rfl) ?_
         refine o_as rfl rfl ?_
         refine Ops_nil ?_
         refine Exists.intro (x + 1) (And.intro ?_ (And.intro ?_ ?_))
         ·first | exact ⟨by omega, hX.not hhx⟩ | exact ⟨by omega, hX.all hI (by omega)⟩
         ·show _ < _; omega
         ·exact Wk.intro (.c rfl (.c rfl (.c rfl (.c rfl (.c rfl (.c rfl (.c rfl (.c rfl (.cons rfl (by first | rfl | exact veq_int (by first | omega | (dsimp only; omega))) .nil))))))))) (.keep rfl rfl (fun _ h => h) (.keep rfl rfl (fun _ h => h) (.keep rfl rfl (fun _ h => h) (.keep rfl rfl (fun _ h => h) (.keep rfl rfl (fun _ h => h) .nil)))))
       ·try simp only [bs] at hg1
        refine Ops_guard_f rfl rfl rfl (lt_dec rfl) ?_
        refine Ops_guard_f rfl rfl rfl (lt_dec rfl) ?_
        refine Ops_guard_f rfl rfl rfl (lt_dec rfl) ?_
        refine Ops_p (p_pick_f rfl rfl) (lt_dec rfl) ?_
        refine Ops_nil ?_
        refine W_false rfl ?_
        refine W_exit ?_
        refine W_region ?_
        refine o_mv rfl rfl ?_
        refine Ops_p (p_add rfl rfl (by refine ⟨?_, ?_⟩ <;> first | omega | (dsimp only; omega))) (lt_dec rfl) ?_
        refine o_as rfl rfl ?_
        refine Ops_nil ?_
        refine Exists.intro (x + 1) (And.intro ?_ (And.intro ?_ ?_))
        ·first | exact ⟨by omega, hX.not hhx⟩ | exact ⟨by omega, hX.all hI (by omega)⟩
        ·show _ < _; omega
        ·exact Wk.intro (.c rfl (.c rfl (.c rfl (.c rfl (.c rfl (.c rfl (.c rfl (.c rfl (.cons rfl (by first | rfl | exact veq_int (by first | omega | (dsimp only; omega))) .nil))))))))) (.keep rfl rfl (fun _ h => h) (.keep rfl rfl (fun _ h => h) (.keep rfl rfl (fun _ h => h) (.keep rfl rfl (fun _ h => h) (.keep rfl rfl (fun _ h => h) .nil)))))
     ·try simp only [bs] at h2
      obtain rfl : x = n := (by omega)
      refine W_exit ?_
      refine W_region ?_
      refine o_mv rfl rfl ?_
      refine Ops_p (p_sub rfl rfl (by refine ⟨?_, ?_⟩ <;> first | omega | (dsimp only; omega))) (lt_dec rfl) ?_
      refine o_as rfl rfl ?_
      refine Ops_nil ?_
      refine Exists.intro k (And.intro ?_ (And.intro ?_ ?_))
      ·exact ⟨by omega, fun j h1 h2 => if e : j = k then e ▸ hX.end else hR j (by omega) h2⟩
      ·show _ < _; omega
      ·exact Wk.intro (.c rfl (.c rfl (.c rfl (.c rfl (.c rfl (.cons rfl (veq_int (by omega)) .nil)))))) (.drop (.drop (.keep rfl rfl (fun _ h => h) (.keep rfl rfl (fun _ h => h) (.keep rfl rfl (fun _ h => h) .nil)))))
  ·try simp only [bs] at h1
   refine W_exit ?_
   refine W_seq ?_
   refine W_region ?_
   refine Ops_p (p_build_arr rfl rfl rfl rfl (by first | exact True.intro | omega | exact Fin.isLt _ | trivial | (dsimp only; omega))) (lt_dec rfl) ?_
   refine Ops_x rfl (x_store rfl rfl rfl rfl rfl HpRep.head rfl (by first | trivial | (first | (first | omega | (dsimp only; omega)) | exact Fin.isLt _)) ?_)
   refine o_as rfl rfl ?_
   refine Ops_nil ?_
   refine W_ret ?_
   refine Exists.intro _ (And.intro (.cons (.cell rfl rfl m0 rfl trivial) (.cons (.tmp rfl) .nil)) (Exists.intro ((fun _ => 0), false) (And.intro ?_ (And.intro ?_ (And.intro .nil rfl)))))
   ·exact ⟨fun _ j hj => hR j (by omega) hj, fun h => by cases h⟩
   ·rfl
end Go.Proofs.Ytjihhcjpbcmjaaa
end
section
namespace Go.Proofs.Ytjihhcjpbcmjaaa
open Go Gx
set_option linter.unusedVariables false
theorem en_spec_l04Chain : Enters Try.prog 36 := enters_of Try.func36 (by kernel_rfl) (by kernel_rfl)
set_option maxRecDepth 100000 in
set_option maxHeartbeats 1000000 in
theorem w_spec_l04Chain {a : Value} {ha : a.oneCell' = true} {l : List (Nat → Fin 256)} {n : Nat} (hp : PsOk l (n : Int)) (hl : l.length ≤ 40) : CT (X := V1 × (List Lv × List (Nat → Fin 256))) Try.prog 36 (vals [.raw a ha, .int .i64 (n : Int)]) [] [rd a (.arrs 10 l)] (fun x => ChOk (Prod.snd (Prod.snd x)) n (Prod.fst (Prod.snd x)) ∧ PsOk (Prod.snd (Prod.snd x)) (n : Int) ∧ (∀ a, Gen (Sp (Prod.snd (Prod.snd x)) n) a ↔ Gen (Sp l n) a) ∧ ∀ j, j < n → ClC n (Prod.snd (Prod.snd x)) (Prod.fst (Prod.snd x)) j) (fun x => .raw x.1.1 x.1.2) (fun x => [own x.1.1 84 (.levs (Prod.fst (Prod.snd x)))]) := by
 refine CT_intro (rs := [.tmp 4]) tt tok Try.func36 rfl rfl rfl (by first | rfl | assumption) fun w => ?_
 show W _ _ _ ⟨tmOf 0 [.raw a ha, .int .i64 (n : Int)], [rd a (.arrs 10 l)]⟩
 have hn := hp.1
 refine W_seq ?_
 refine W_region ?_
 refine o_as rfl rfl ?_
 refine Ops_nil ?_
 refine W_seq ?_
 refine W_region ?_
 refine Ops_x rfl (x_buildSlice rfl rfl rfl rfl rfl rfl rfl rfl (Nat.le_of_ble_eq_true rfl) (lt_dec rfl) fun b8_1 => ?_)
 refine o_mv rfl rfl ?_
 refine Ops_x rfl (x_appendZr (t := 8) (r := .arrs 10 []) (r2 := .arrs 10 l) (q := .arrs 10 ([] ++ l)) rfl rfl rfl rfl rfl rfl rfl (Rds.rd (s := ⟨_, own (slv b8_1 0 0).1 33 (.arrs 10 []) :: [rd a (.arrs 10 l)]⟩) (List.Mem.tail _ (List.Mem.head _))) rfl rfl (.cons .head .nil) (fun _ => .cons .head .nil) (by show (0 + List.length _) * 10 ≤ _; omega) (by show 0 + List.length _ ≤ _; omega) (lt_dec rfl) fun v10 => ?_)
 refine o_as rfl rfl ?_
 refine Ops_nil ?_
 refine W_block ?_
 refine W_loop (α := V1 × List (Nat → Fin 256)) (fun zz0 => ⟨[(0, .raw (zz0.1).1 (zz0.1).2), (1, .int .i64 (n : Int))], [own (zz0.1).1 33 (.arrs 10 (zz0.2)), rd a (.arrs 10 l)]⟩) (fun zz0 => PsOk (zz0.2) (n : Int) ∧ (∀ a, Gen (Sp (zz0.2) n) a ↔ Gen (Sp l n) a) ∧ (zz0.2).length ≤ 40 + rcN (zz0.2) n) (fun zz0 => 100 - rcN (zz0.2) n) (v10, [] ++ l) ?_ ?_ ?_
 ·exact ⟨hp, fun _ => Iff.rfl, by show l.length ≤ _; omega⟩
 ·exact Wk.intro (.cons rfl (by first | rfl | exact veq_int (by first | omega | (dsimp only; omega))) (.c rfl .nil)) (.keep rfl rfl (fun _ h => h) (.keep rfl rfl (fun _ h => h) .nil))
 ·rintro ⟨vv, l2⟩ ⟨hP, hG, hL⟩
  try dsimp only at *
  refine W_block ?_
  refine W_seq ?_
  refine W_region ?_
  refine o_mv rfl rfl ?_
  refine o_mv rfl rfl ?_
  refine Ops_x rfl (x_callT en_spec_l04Build rfl (w_spec_l04Build hP (by have := rcN_bd l2 n; omega)) HpDels.nil (Vw.rdO m0) (fun _ => (HpDels.cons HpDel.head HpDels.nil)) (lt_dec rfl) fun x13_1 hx1 => ?_)
  refine o_as rfl rfl ?_
  refine Ops_nil ?_
  refine W_seq ?_
  refine W_region ?_
  refine o_mv rfl rfl ?_
  refine o_mv rfl rfl ?_
  refine o_mv rfl rfl ?_
  refine Ops_x rfl (x_callT en_spec_l04Missing rfl (w_spec_l04Missing hx1 hP (by have := rcN_bd l2 n; omega)) HpDels.nil (Vw.cons (Vw.rdO m0) (Vw.rdO m1)) (fun _ => HpDels.nil) (lt_dec rfl) fun x18_1 hx2 => ?_)
  refine o_mv rfl rfl ?_
  refine Ops_p (p_extract rfl rfl) (lt_dec rfl) ?_
  refine Ops_p (p_extract rfl rfl) (lt_dec rfl) ?_
  refine Ops_x rfl (x_alloc rfl (lt_dec rfl) fun b6_1 => ?_)
  refine Ops_x rfl (x_store rfl rfl rfl rfl rfl HpRep.head rfl (by first | trivial | (first | (first | omega | (dsimp only; omega)) | exact Fin.isLt _)) ?_)
  refine o_as rfl rfl ?_
  refine Ops_nil ?_
  refine W_seq ?_
  refine W_seq ?_
  refine W_region ?_
  refine o_mv rfl rfl ?_
  refine Ops_p (p_not rfl) (lt_dec rfl) ?_
  refine Ops_nil ?_
  refine W_cond rfl (fun h1 => ?_) (fun h1 => ?_)
  ·try simp only [bs] at h1
   have hmm : Prod.snd x18_1 = false := (by simpa using h1)
   refine W_seq ?_
   refine W_region ?_
   refine o_mv rfl rfl ?_
   refine o_as rfl rfl ?_
   refine Ops_nil ?_
   refine W_ret ?_
   refine Exists.intro _ (And.intro (.cons (.tmp rfl) .nil) (Exists.intro (x13_1.1, (x13_1.2, l2)) (And.intro ?_ (And.intro ?_ (And.intro (.cons (HpDel.head).tail rfl (own_eq rfl) .nil) rfl)))))
   ·exact ⟨hx1, hP, hG, hx2.1 hmm⟩
   ·rfl
  ·try simp only [bs] at h1
   have hmm : Prod.snd x18_1 = true := (by simpa using h1)
   refine W_skip ?_
   refine W_region ?_
   refine o_mv rfl rfl ?_
   refine Ops_q (q_load rfl rfl m0 rfl (by first | exact True.intro | omega | exact Fin.isLt _ | trivial | (dsimp only; omega))) (lt_dec rfl) ?_
   refine Ops_x rfl (x_buildSlice rfl rfl rfl rfl rfl rfl rfl rfl (Nat.le_of_ble_eq_true rfl) (lt_dec rfl) fun b26_1 => ?_)
   refine Ops_x rfl (x_appendO (r := .arrs 10 l2) (r2 := .arrs 10 [Prod.fst x18_1]) (q := .arrs 10 (l2 ++ [Prod.fst x18_1])) rfl rfl rfl rfl rfl rfl (Rds.row m0 rfl) rfl (by show 0 < 1; omega) rfl (HpDels.cons (((HpDel.head).tail).tail).tail HpDels.nil) (fun _ => (HpDels.cons (((HpDel.head).tail).tail).tail HpDels.nil)) (by show (List.length _ + List.length _) * 10 ≤ _; simp only [List.length_cons, List.length_nil]; have := rcN_bd l2 n; omega) (by show List.length _ + List.length _ ≤ _; simp only [List.length_cons, List.length_nil]; have := rcN_bd l2 n; omega) (lt_dec rfl) fun v27 => ?_)
   refine o_as rfl rfl ?_
   refine Ops_nil ?_
   refine Exists.intro (v27, l2 ++ [Prod.fst x18_1]) (And.intro ?_ (And.intro ?_ ?_))
   ·exact ⟨miss_ok hP (hx2.2 hmm), fun a => (miss_gen (hx2.2 hmm) a).trans (hG a), by show List.length (l2 ++ [_]) ≤ _; have := rcN_up hx1 hP (hx2.2 hmm); rw [List.length_append]; show l2.length + 1 ≤ 40 + rcN (l2 ++ [Prod.fst x18_1]) n; omega⟩
   ·show _ - rcN (l2 ++ [_]) n < _; have := rcN_up hx1 hP (hx2.2 hmm); have := rcN_bd (l2 ++ [Prod.fst x18_1]) n; omega
   ·exact Wk.intro (.cons rfl (by first | rfl | exact veq_int (by first | omega | (dsimp only; omega))) (.c rfl .nil)) (.drop (.drop (.drop (.keep rfl rfl (fun _ h => h) (.keep rfl rfl (fun _ h => h) .nil)))))
end Go.Proofs.Ytjihhcjpbcmjaaa
end
section
namespace Go.Proofs.Ytjihhcjpbcmjaaa
open Go Gx
set_option linter.unusedVariables false
theorem en_spec_l04Order : Enters Try.prog 28 := enters_of Try.func28 (by kernel_rfl) (by kernel_rfl)
set_option maxRecDepth 100000 in
set_option maxHeartbeats 1000000 in
theorem w_spec_l04Order {a : Value} {ha : a.oneCell' = true} {l : List (Nat → Fin 256)} {n : Nat} (hp : PsOk l (n : Int)) (hl : l.length ≤ 40) : CR Try.prog 28 (vals [.raw a ha, .int .i64 (n : Int)]) [rd a (.arrs 10 l)] (.int .i64 ((ordG l n : Nat) : Int)) := by
 refine CR_intro (rs := [.tmp 4]) tt tok Try.func28 rfl rfl rfl (by first | rfl | assumption) fun w => ?_
 have hn := hp.1
 refine W_seq ?_
 refine W_region ?_
 refine o_as rfl rfl ?_
 refine Ops_nil ?_
 refine W_seq ?_
 refine W_region ?_
 refine o_mv rfl rfl ?_
 refine o_mv rfl rfl ?_
 refine Ops_x rfl (x_callT en_spec_l04Chain rfl (w_spec_l04Chain hp hl) HpDels.nil (Vw.rd m0) (fun _ => (HpDels.cons HpDel.head HpDels.nil)) (lt_dec rfl) fun x12_1 hx1 => ?_)
 refine o_as rfl rfl ?_
 refine o_as rfl rfl ?_
 refine Ops_nil ?_
 refine W_seq ?_
 refine W_seq ?_
 obtain ⟨hC, hP, hG, hCl⟩ := hx1
 have hCn := hC.len
 refine W_region ?_
 refine o_as rfl rfl ?_
 refine Ops_nil ?_
 refine W_block ?_
 refine W_loop (α := Nat) (fun k => ⟨[(0, .raw a ha), (1, .int .i64 (n : Int)), (4, .int .i64 0), (5, .raw x12_1.1.1 x12_1.1.2), (6, .int .i64 ((ordP (hsC (Prod.fst (Prod.snd x12_1))) k : Nat) : Int)), (7, .int .i64 (k : Int))], [own x12_1.1.1 84 (.levs (Prod.fst (Prod.snd x12_1))), rd a (.arrs 10 l)]⟩) (fun k => k ≤ n) (fun k => n - k) 0 ?_ ?_ ?_
 ·show _ ≤ _; omega
 ·exact Wk.intro (.c rfl (.c rfl (.c rfl (.c rfl (.cons rfl (by first | rfl | exact veq_int (by first | omega | (dsimp only; omega))) (.cons rfl (by first | rfl | exact veq_int (by first | omega | (dsimp only; omega))) .nil)))))) (.keep rfl rfl (fun _ h => h) (.keep rfl rfl (fun _ h => h) .nil))
 ·rintro k hR
  refine W_seq ?_
  refine W_seq ?_
  refine W_region ?_
  refine o_mv rfl rfl ?_
  refine o_mv rfl rfl ?_
  refine Ops_q ((q_lenR rfl rfl rfl (Rds.own m0)).eq (d' := .int .i64 (((Prod.fst (Prod.snd x12_1)).length : Nat) : Int)) rfl) (lt_dec rfl) ?_
  refine Ops_p (p_lss rfl rfl) (lt_dec rfl) ?_
  refine Ops_nil ?_
  refine W_cond rfl (fun h1 => ?_) (fun h1 => ?_)
  ·try simp only [bs] at h1
   refine W_skip ?_
   refine W_seq ?_
   refine W_block ?_
   refine W_seq ?_
   refine W_region ?_
   refine o_as rfl rfl ?_
   refine Ops_nil ?_
   refine W_seq ?_
   refine W_seq ?_
   refine W_region ?_
   refine o_as rfl rfl ?_
   refine Ops_nil ?_
   refine W_block ?_
   refine W_loop (α := Nat) (fun y => ⟨[(0, .raw a ha), (1, .int .i64 (n : Int)), (4, .int .i64 0), (5, .raw x12_1.1.1 x12_1.1.2), (6, .int .i64 ((ordP (hsC (Prod.fst (Prod.snd x12_1))) k : Nat) : Int)), (7, .int .i64 (k : Int)), (8, .int .i64 ((cnR (hsC (Prod.fst (Prod.snd x12_1))) k y : Nat) : Int)), (9, .int .i64 (y : Int))], [own x12_1.1.1 84 (.levs (Prod.fst (Prod.snd x12_1))), rd a (.arrs 10 l)]⟩) (fun y => y ≤ 10) (fun y => 10 - y) 0 ?_ ?_ ?_
   ·show _ ≤ _; omega
   ·exact Wk.intro (.c rfl (.c rfl (.c rfl (.c rfl (.c rfl (.c rfl (.cons rfl (by first | rfl | exact veq_int (by first | omega | (dsimp only; omega))) (.cons rfl (by first | rfl | exact veq_int (by first | omega | (dsimp only; omega))) .nil)))))))) (.keep rfl rfl (fun _ h => h) (.keep rfl rfl (fun _ h => h) .nil))
   ·rintro y hR
    have hcx := cnR_le (hsC (Prod.fst (Prod.snd x12_1))) k y
    refine W_seq ?_
    refine W_seq ?_
    refine W_region ?_
    refine o_mv rfl rfl ?_
    refine Ops_p (p_lss rfl rfl) (lt_dec rfl) ?_
    refine Ops_nil ?_
    refine W_cond rfl (fun h2 => ?_) (fun h2 => ?_)
    ·try simp only [bs] at h2
     refine W_skip ?_
     refine W_seq ?_
     refine W_block ?_
     refine W_seq ?_
     refine W_region ?_
     refine o_mv rfl rfl ?_
     refine o_mv rfl rfl ?_
     refine o_mv rfl rfl ?_
     refine Ops_q (q_ixLev k rfl rfl rfl rfl (Rds.own m0) rfl rfl (by omega)) (lt_dec rfl) ?_
     refine Ops_q (q_fieldR rfl rfl rfl rfl rfl rfl (Rds.own m0) (by show 0 < List.length _; omega)) (lt_dec rfl) ?_
     refine Ops_q (q_ixAN 1 y rfl rfl rfl rfl (Rds.own m0) (by show 0 < List.length _; omega) rfl rfl (by omega)) (lt_dec rfl) ?_
     refine Ops_q ((q_levHas (k := k) (y := y) rfl rfl (Rds.own m0) (by omega) (by omega) (by omega) rfl rfl).eq (d' := .bool (hsC (Prod.fst (Prod.snd x12_1)) (10 * k + y))) (veq_bool (hsC_at (by omega)).symm)) (lt_dec rfl) ?_
     refine Ops_nil ?_
     refine W_cond rfl (fun h3 => ?_) (fun h3 => ?_)
     ·try simp only [bs] at h3
      have hh : hsC (Prod.fst (Prod.snd x12_1)) (10 * k + y) = true := h3
      refine W_region ?_
      refine o_mv rfl rfl ?_
      refine Ops_p (p_add rfl rfl (by refine ⟨?_, ?_⟩ <;> first | omega | (dsimp only; omega))) (lt_dec rfl) ?_
      refine o_as rfl rfl ?_
      refine Ops_nil ?_
      refine W_region ?_
      refine o_mv rfl rfl ?_
      refine Ops_p (p_add rfl rfl (by refine ⟨?_, ?_⟩ <;> first | omega | (dsimp only; omega))) (lt_dec rfl) ?_
      refine o_as rfl rfl ?_
      refine Ops_nil ?_
      refine Exists.intro (y + 1) (And.intro ?_ (And.intro ?_ ?_))
      ·show _ ≤ _; omega
      ·show _ < _; omega
      ·exact Wk.intro (.c rfl (.c rfl (.c rfl (.c rfl (.c rfl (.c rfl (.cons rfl (veq_int (by first | (rw [cnR_t hh]; omega) | (rw [cnR_f hh]))) (.cons rfl (by first | rfl | exact veq_int (by first | omega | (dsimp only; omega))) .nil)))))))) (.keep rfl rfl (fun _ h => h) (.keep rfl rfl (fun _ h => h) .nil))
     ·try simp only [bs] at h3
      have hh : hsC (Prod.fst (Prod.snd x12_1)) (10 * k + y) = false := h3
      refine W_skip ?_
      refine W_region ?_
      refine o_mv rfl rfl ?_
      refine Ops_p (p_add rfl rfl (by refine ⟨?_, ?_⟩ <;> first | omega | (dsimp only; omega))) (lt_dec rfl) ?_
      refine o_as rfl rfl ?_
      refine Ops_nil ?_
      refine Exists.intro (y + 1) (And.intro ?_ (And.intro ?_ ?_))
      ·show _ ≤ _; omega
      ·show _ < _; omega
      ·exact Wk.intro (.c rfl (.c rfl (.c rfl (.c rfl (.c rfl (.c rfl (.cons rfl (veq_int (by first | (rw [cnR_t hh]; omega) | (rw [cnR_f hh]))) (.cons rfl (by first | rfl | exact veq_int (by first | omega | (dsimp only; omega))) .nil)))))))) (.keep rfl rfl (fun _ h => h) (.keep rfl rfl (fun _ h => h) .nil))
    ·try simp only [bs] at h2
     obtain rfl : y = 10 := (by omega)
     refine W_exit ?_
     have hom := ordP_mul (hs := hsC (Prod.fst (Prod.snd x12_1))) (k := k) (by omega)
     refine W_region ?_
     refine o_mv rfl rfl ?_
     refine o_mv rfl rfl ?_
     refine Ops_p ((p_mul rfl rfl (by exact ⟨by omega, by omega⟩)).eq (d' := .int .i64 ((ordP (hsC (Prod.fst (Prod.snd x12_1))) (k + 1) : Nat) : Int)) (veq_int hom.2.2)) (lt_dec rfl) ?_
     refine o_as rfl rfl ?_
     refine Ops_nil ?_
     refine W_region ?_
     refine o_mv rfl rfl ?_
     refine Ops_p (p_add rfl rfl (by refine ⟨?_, ?_⟩ <;> first | omega | (dsimp only; omega))) (lt_dec rfl) ?_
     refine o_as rfl rfl ?_
     refine Ops_nil ?_
     refine Exists.intro (k + 1) (And.intro ?_ (And.intro ?_ ?_))
     ·show _ ≤ _; omega
     ·show _ < _; omega
     ·exact Wk.intro (.c rfl (.c rfl (.c rfl (.c rfl (.cons rfl (by first | rfl | exact veq_int (by first | omega | (dsimp only; omega))) (.cons rfl (by first | rfl | exact veq_int (by first | omega | (dsimp only; omega))) .nil)))))) (.keep rfl rfl (fun _ h => h) (.keep rfl rfl (fun _ h => h) .nil))
  ·try simp only [bs] at h1
   obtain rfl : k = n := (by omega)
   refine W_exit ?_
   refine W_seq ?_
   refine W_region ?_
   refine o_mv rfl rfl ?_
   refine o_as rfl rfl ?_
   refine Ops_nil ?_
   refine W_ret ?_
   refine Exists.intro _ (And.intro (.cons (.tmp rfl) .nil) ?_)
   exact veq_int (congrArg _ (ordC hC hP hG hCl))
end Go.Proofs.Ytjihhcjpbcmjaaa
end
section
namespace Go.Proofs.Ytjihhcjpbcmjaaa
open Go Gx
set_option linter.unusedVariables false
theorem en_spec_GroupOrder : Enters Try.prog 7 := enters_of Try.func7 (by kernel_rfl) (by kernel_rfl)
set_option maxRecDepth 100000 in
theorem w_spec_GroupOrder {a : Value} {ha : a.oneCell' = true} {l : List (Nat → Fin 256)} {n : Int} (hl : l.length ≤ 1048576) : CR Try.prog 7 (vals [.raw a ha, .int .i64 n]) [rd a (.arrs 10 l)] (.tup [.int .i64 (goV l n), .int .i64 (psC l n)]) := by
 refine CR_intro (rs := [.tmp 4, .tmp 5]) tt tok Try.func7 rfl rfl rfl (by first | rfl | assumption) fun w => ?_
 refine W_seq ?_
 refine W_region ?_
 refine o_as rfl rfl ?_
 refine o_as rfl rfl ?_
 refine Ops_nil ?_
 refine W_seq ?_
 refine W_seq ?_
 refine W_region ?_
 refine o_mv rfl rfl ?_
 refine o_mv rfl rfl ?_
 refine Ops_q (q_call en_spec_l04Code rfl (w_spec_l04Code (by first | assumption | (first | omega | (dsimp only; omega)) | (simp; done) | decide)) (Vw.rd m0).v) (lt_dec rfl) ?_
 refine o_as rfl rfl ?_
 refine Ops_nil ?_
 refine W_seq ?_
 refine W_region ?_
 refine o_mv rfl rfl ?_
 refine Ops_p (p_neq rfl rfl) (lt_dec rfl) ?_
 refine Ops_nil ?_
 refine W_cond rfl (fun h1 => ?_) (fun h1 => ?_)
 ·try simp only [bs] at h1
  have h0 : psC l n ≠ 0 := (fun e => h1 e)
  refine W_seq ?_
  refine W_region ?_
  refine o_mv rfl rfl ?_
  refine o_as rfl rfl ?_
  refine o_as rfl rfl ?_
  refine Ops_nil ?_
  refine W_ret ?_
  refine Exists.intro _ (And.intro (.cons (.tmp rfl) (.cons (.tmp rfl) .nil)) ?_)
  first | rfl | (exact veq_tup2 (veq_int (goV_n h0).symm) rfl) | (exact veq_tup2 (veq_int (goV_0 h0).symm) (veq_int h0.symm))
 ·try simp only [bs] at h1
  have h0 : psC l n = 0 := (by omega); obtain ⟨m, rfl⟩ := psn h0
  refine W_skip ?_
  refine W_seq ?_
  refine W_region ?_
  refine o_mv rfl rfl ?_
  refine o_mv rfl rfl ?_
  refine Ops_q (q_call en_spec_l04Order rfl (w_spec_l04Order (n := m) (psC_ok h0).1 (psC_ok h0).2) (Vw.rd m0).v) (lt_dec rfl) ?_
  refine o_as rfl rfl ?_
  refine o_as rfl rfl ?_
  refine Ops_nil ?_
  refine W_ret ?_
  refine Exists.intro _ (And.intro (.cons (.tmp rfl) (.cons (.tmp rfl) .nil)) ?_)
  first | rfl | (exact veq_tup2 (veq_int (goV_n h0).symm) rfl) | (exact veq_tup2 (veq_int (goV_0 h0).symm) (veq_int h0.symm))
end Go.Proofs.Ytjihhcjpbcmjaaa
end
section
namespace Go.Proofs.Ytjihhcjpbcmjaaa
open Go Gx
set_option linter.unusedVariables false
theorem en_spec_InGroup : Enters Try.prog 11 := enters_of Try.func11 (by kernel_rfl) (by kernel_rfl)
set_option maxRecDepth 100000 in
set_option maxHeartbeats 1000000 in
theorem w_spec_InGroup {a : Value} {ha : a.oneCell' = true} {l : List (Nat → Fin 256)} {n : Int} {p : Nat → Fin 256} (hl : l.length ≤ 1048576) : CR Try.prog 11 (vals [.raw a ha, .int .i64 n, .arr8 10 p]) [rd a (.arrs 10 l)] (.tup [.bool (inV l n p), .int .i64 (inK l n p)]) := by
 refine CR_intro (rs := [.tmp 6, .tmp 7]) tt tok Try.func11 rfl rfl rfl (by first | rfl | assumption) fun w => ?_
 refine W_seq ?_
 refine W_region ?_
 refine Ops_x rfl (x_box rfl rfl (lt_dec rfl) fun b5_1 => ?_)
 refine o_as rfl rfl ?_
 refine o_as rfl rfl ?_
 refine Ops_nil ?_
 refine W_seq ?_
 refine W_region ?_
 refine o_mv rfl rfl ?_
 refine o_mv rfl rfl ?_
 refine Ops_q (q_call en_spec_l04Code rfl (w_spec_l04Code (by first | assumption | (first | omega | (dsimp only; omega)) | (simp; done) | decide)) (Vw.rd m1).v) (lt_dec rfl) ?_
 refine o_as rfl rfl ?_
 refine Ops_nil ?_
 refine W_seq ?_
 refine W_seq ?_
 refine W_region ?_
 refine o_mv rfl rfl ?_
 refine Ops_q (q_call en_spec_l01In rfl (w_spec_l01In) (View.none _)) (lt_dec rfl) ?_
 refine o_mv rfl rfl ?_
 refine Ops_guard rfl rfl (lt_dec rfl) (fun hg1 => ?_) (fun hg1 => ?_)
 ·try simp only [bs] at hg1
  refine Ops_q (q_load rfl rfl m0 rfl (by first | exact True.intro | omega | exact Fin.isLt _ | trivial | (dsimp only; omega))) (lt_dec rfl) ?_
  refine Ops_guard_t rfl rfl (lt_dec rfl) ?_
  refine o_mv rfl rfl ?_
  refine Ops_guard_t rfl rfl (lt_dec rfl) ?_
  refine Ops_q (q_call en_spec_l01Perm rfl (w_spec_l01Perm) (View.none _)) (lt_dec rfl) ?_
  refine Ops_guard_t rfl rfl (lt_dec rfl) ?_
  refine Ops_p (p_not rfl) (lt_dec rfl) ?_
  refine Ops_p (p_pick_t rfl rfl) (lt_dec rfl) ?_
  refine Ops_nil ?_
  refine W_cond rfl (fun h1 => ?_) (fun h1 => ?_)
  ·try simp only [bs] at h1
   have hk1 : inK l n p = 1 := (by first | exact inK_1 (by omega) (by assumption) | exact inK_1 (by omega) (by simp_all))
   refine W_region ?_
   refine o_as rfl rfl ?_
   refine Ops_nil ?_
   refine W_seq ?_
   refine W_seq ?_
   refine W_region ?_
   refine o_mv rfl rfl ?_
   refine Ops_p (p_neq rfl rfl) (lt_dec rfl) ?_
   refine Ops_nil ?_
   refine W_cond rfl (fun h2 => ?_) (fun h2 => ?_)
   ·try simp only [bs] at h2
    refine W_seq ?_
    refine W_region ?_
    refine o_mv rfl rfl ?_
    refine o_as rfl rfl ?_
    refine o_as rfl rfl ?_
    refine Ops_nil ?_
    refine W_ret ?_
    refine Exists.intro _ (And.intro (.cons (.tmp rfl) (.cons (.tmp rfl) .nil)) ?_)
    first | rfl | (exact veq_tup2 (veq_bool (inV_n (by rw [hk1]; decide)).symm) (veq_int hk1.symm)) | (exact veq_tup2 (veq_bool (inV_n hkn).symm) (veq_int hk1.symm)) | (exact veq_tup2 (veq_bool ((Bool.eq_iff_iff.2 ((@decide_eq_true_iff _ (Classical.propDecidable _)).trans (inC hx28.1 hx28.2.1 hx28.2.2.1 hx28.2.2.2 hpp))).trans (inV_0 hk0).symm)) (veq_int hk0.symm))
   ·try simp only [bs] at h2
    exfalso; first | omega | exact absurd h2 (by decide)
  ·try simp only [bs] at h1
   have hk1 : inK l n p = psC l n := (by first | exact inK_n (by omega) | exact inK_p (by assumption) | exact inK_p (by simp_all))
   refine W_skip ?_
   refine W_seq ?_
   refine W_seq ?_
   refine W_region ?_
   refine o_mv rfl rfl ?_
   refine Ops_p (p_neq rfl rfl) (lt_dec rfl) ?_
   refine Ops_nil ?_
   refine W_cond rfl (fun h3 => ?_) (fun h3 => ?_)
   ·try simp only [bs] at h3
    have hk1 : inK l n p = psC l n := (by first | assumption | exact inK_n (by assumption)); have hkn : inK l n p ≠ 0 := (fun e => by rw [hk1] at e; omega)
    refine W_seq ?_
    refine W_region ?_
    refine o_mv rfl rfl ?_
    refine o_as rfl rfl ?_
    refine o_as rfl rfl ?_
    refine Ops_nil ?_
    refine W_ret ?_
    refine Exists.intro _ (And.intro (.cons (.tmp rfl) (.cons (.tmp rfl) .nil)) ?_)
    first | rfl | (exact veq_tup2 (veq_bool (inV_n (by rw [hk1]; decide)).symm) (veq_int hk1.symm)) | (exact veq_tup2 (veq_bool (inV_n hkn).symm) (veq_int hk1.symm)) | (exact veq_tup2 (veq_bool ((Bool.eq_iff_iff.2 ((@decide_eq_true_iff _ (Classical.propDecidable _)).trans (inC hx28.1 hx28.2.1 hx28.2.2.1 hx28.2.2.2 hpp))).trans (inV_0 hk0).symm)) (veq_int hk0.symm))
   ·try simp only [bs] at h3
    have hk1 : inK l n p = psC l n := (by first | assumption | exact inK_n (by assumption)); have hk0 : inK l n p = 0 := (by rw [hk1]; omega); obtain ⟨h0, hpp⟩ := inK_ok hk0; obtain ⟨m, rfl⟩ := psn h0
    refine W_skip ?_
    refine W_seq ?_
    refine W_draw (by kernel_rfl) ?_
    show RA _ _ 12 _ _ _
    refine RA_take 4 rfl rfl rfl (by kernel_rfl) (by kernel_rfl) (by kernel_rfl) (p_move rfl) (lt_dec rfl) ?_
    refine RA_take 0 rfl rfl rfl (by kernel_rfl) (by kernel_rfl) (by kernel_rfl) (p_move rfl) (lt_dec rfl) ?_
    refine RA_take 1 rfl rfl rfl (by kernel_rfl) (by kernel_rfl) (by kernel_rfl) (p_move rfl) (lt_dec rfl) ?_
    refine RA_three 2 3 9 rfl rfl rfl rfl rfl rfl (by kernel_rfl) ?_ ?_ ?_
    ·refine x_callT en_spec_l04Chain rfl (w_spec_l04Chain (n := m) (psC_ok h0).1 (psC_ok h0).2) HpDels.nil (Vw.rd m1) (fun _ => (HpDels.cons HpDel.head HpDels.nil)) (lt_dec rfl) fun x28_1 hx28 => ?_
     refine RA_quietA (g := 4) (hs := [3, 5, 6]) (ia := 9) rfl rfl (lt_dec rfl) (by kernel_rfl) ?_
     refine SQ_cons rfl rfl rfl ((q_load rfl rfl m1 rfl (by first | exact True.intro | omega | exact Fin.isLt _ | trivial | (dsimp only; omega)))) (lt_dec rfl) ?_
     refine SQ_cons rfl rfl rfl ((q_call en_spec_l04Sift rfl (w_spec_l04Sift (n := m) (And.left hx28) hpp) (Vw.rdO m0).v)) (lt_dec rfl) ?_
     refine SQ_cons rfl rfl rfl ((p_move rfl).q) (lt_dec rfl) ?_
     refine SQ_nil ?_
     refine ⟨fun b9_1 => ?_, ?_⟩
     ·refine RA_take 8 rfl rfl rfl (by kernel_rfl) (by kernel_rfl) (by kernel_rfl) (p_extract rfl rfl) (lt_dec rfl) ?_
      refine RA_quiet (g := 2) [7] (by kernel_rfl) (by kernel_rfl) (by kernel_rfl) (by kernel_rfl) ?_
      refine WQ_cons rfl rfl rfl ((p_extract rfl rfl).q) (lt_dec rfl) ?_
      refine WQ_nil ?_
      refine RA_one 10 rfl rfl (by kernel_rfl) (x_store rfl rfl rfl rfl rfl HpRep.head rfl (by first | trivial | (first | (first | omega | (dsimp only; omega)) | exact Fin.isLt _)) ?_)
      refine RA_quiet (g := 0) [11] (by kernel_rfl) (by kernel_rfl) (by kernel_rfl) (by kernel_rfl) ?_
      refine WQ_cons rfl rfl rfl ((p_assign rfl).q) (lt_dec rfl) ?_
      refine WQ_nil ?_
      refine RA_done (by kernel_rfl) ?_
      refine W_seq ?_
      refine W_draw (by kernel_rfl) ?_
      show RA _ _ 6 _ _ _
      refine RA_quietF [0, 1, 2, 3, 4, 5] rfl rfl rfl (by kernel_rfl) (by kernel_rfl) ?_
      refine WQ_cons rfl rfl rfl ((q_load rfl rfl m0 rfl (by first | exact True.intro | omega | exact Fin.isLt _ | trivial | (dsimp only; omega)))) (lt_dec rfl) ?_
      refine WQ_cons rfl rfl rfl ((p_move rfl).q) (lt_dec rfl) ?_
      refine WQ_cons rfl rfl rfl ((q_call en_spec_l01Same rfl (w_spec_l01Same (psC_ok h0).1.1) (View.none _))) (lt_dec rfl) ?_
      refine WQ_cons rfl rfl rfl ((p_eql8 rfl rfl rfl rfl (by kernel_rfl) (by kernel_rfl) (by kernel_rfl)).q) (lt_dec rfl) ?_
      refine WQ_cons rfl rfl rfl ((p_assign rfl).q) (lt_dec rfl) ?_
      refine WQ_cons rfl rfl rfl ((p_assign rfl).q) (lt_dec rfl) ?_
      refine WQ_nil ?_
      refine W_ret ?_
      refine Exists.intro _ (And.intro (.cons (.tmp rfl) (.cons (.tmp rfl) .nil)) ?_)
      first | rfl | (exact veq_tup2 (veq_bool (inV_n (by rw [hk1]; decide)).symm) (veq_int hk1.symm)) | (exact veq_tup2 (veq_bool (inV_n hkn).symm) (veq_int hk1.symm)) | (exact veq_tup2 (veq_bool ((Bool.eq_iff_iff.2 ((@decide_eq_true_iff _ (Classical.propDecidable _)).trans (inC hx28.1 hx28.2.1 hx28.2.2.1 hx28.2.2.2 hpp))).trans (inV_0 hk0).symm)) (veq_int hk0.symm))
     ·refine RA_take 7 rfl rfl rfl (by kernel_rfl) (by kernel_rfl) (by kernel_rfl) (p_extract rfl rfl) (lt_dec rfl) ?_
      refine RA_take 8 rfl rfl rfl (by kernel_rfl) (by kernel_rfl) (by kernel_rfl) (p_extract rfl rfl) (lt_dec rfl) ?_
      refine RA_one 9 rfl rfl (by kernel_rfl) (x_alloc rfl (lt_dec rfl) fun b9_2 => ?_)
      refine RA_one 10 rfl rfl (by kernel_rfl) (x_store rfl rfl rfl rfl rfl HpRep.head rfl (by first | trivial | (first | (first | omega | (dsimp only; omega)) | exact Fin.isLt _)) ?_)
      refine RA_quiet (g := 0) [11] (by kernel_rfl) (by kernel_rfl) (by kernel_rfl) (by kernel_rfl) ?_
      refine WQ_cons rfl rfl rfl ((p_assign rfl).q) (lt_dec rfl) ?_
      refine WQ_nil ?_
      refine RA_done (by kernel_rfl) ?_
      refine W_seq ?_
      refine W_draw (by kernel_rfl) ?_
      show RA _ _ 6 _ _ _
      refine RA_quietF [0, 1, 2, 3, 4, 5] rfl rfl rfl (by kernel_rfl) (by kernel_rfl) ?_
      refine WQ_cons rfl rfl rfl ((q_load rfl rfl m0 rfl (by first | exact True.intro | omega | exact Fin.isLt _ | trivial | (dsimp only; omega)))) (lt_dec rfl) ?_
      refine WQ_cons rfl rfl rfl ((p_move rfl).q) (lt_dec rfl) ?_
      refine WQ_cons rfl rfl rfl ((q_call en_spec_l01Same rfl (w_spec_l01Same (psC_ok h0).1.1) (View.none _))) (lt_dec rfl) ?_
      refine WQ_cons rfl rfl rfl ((p_eql8 rfl rfl rfl rfl (by kernel_rfl) (by kernel_rfl) (by kernel_rfl)).q) (lt_dec rfl) ?_
      refine WQ_cons rfl rfl rfl ((p_assign rfl).q) (lt_dec rfl) ?_
      refine WQ_cons rfl rfl rfl ((p_assign rfl).q) (lt_dec rfl) ?_
      refine WQ_nil ?_
      refine W_ret ?_
      refine Exists.intro _ (And.intro (.cons (.tmp rfl) (.cons (.tmp rfl) .nil)) ?_)
      first | rfl | (exact veq_tup2 (veq_bool (inV_n (by rw [hk1]; decide)).symm) (veq_int hk1.symm)) | (exact veq_tup2 (veq_bool (inV_n hkn).symm) (veq_int hk1.symm)) | (exact veq_tup2 (veq_bool ((Bool.eq_iff_iff.2 ((@decide_eq_true_iff _ (Classical.propDecidable _)).trans (inC hx28.1 hx28.2.1 hx28.2.2.1 hx28.2.2.2 hpp))).trans (inV_0 hk0).symm)) (veq_int hk0.symm))
    ·refine Xt_of_Qt rfl (lt_dec rfl) ((q_load rfl rfl m0 rfl (by first | exact True.intro | omega | exact Fin.isLt _ | trivial | (dsimp only; omega)))) ?_
     refine RA_two 2 9 rfl rfl rfl rfl (by kernel_rfl) ?_ ?_
     ·refine x_callT en_spec_l04Chain rfl (w_spec_l04Chain (n := m) (psC_ok h0).1 (psC_ok h0).2) HpDels.nil (Vw.rd m1) (fun _ => (HpDels.cons HpDel.head HpDels.nil)) (lt_dec rfl) fun x28_1 hx28 => ?_
      refine RA_quietA (g := 4) (hs := [5, 6]) (ia := 9) rfl rfl (lt_dec rfl) (by kernel_rfl) ?_
      refine SQ_cons rfl rfl rfl ((q_call en_spec_l04Sift rfl (w_spec_l04Sift (n := m) (And.left hx28) hpp) (Vw.rdO m0).v)) (lt_dec rfl) ?_
      refine SQ_cons rfl rfl rfl ((p_move rfl).q) (lt_dec rfl) ?_
      refine SQ_nil ?_
      refine ⟨fun b9_3 => ?_, ?_⟩
      ·refine RA_take 8 rfl rfl rfl (by kernel_rfl) (by kernel_rfl) (by kernel_rfl) (p_extract rfl rfl) (lt_dec rfl) ?_
       refine RA_quiet (g := 2) [7] (by kernel_rfl) (by kernel_rfl) (by kernel_rfl) (by kernel_rfl) ?_
       refine WQ_cons rfl rfl rfl ((p_extract rfl rfl).q) (lt_dec rfl) ?_
       refine WQ_nil ?_
       refine RA_one 10 rfl rfl (by kernel_rfl) (x_store rfl rfl rfl rfl rfl HpRep.head rfl (by first | trivial | (first | (first | omega | (dsimp only; omega)) | exact Fin.isLt _)) ?_)
       refine RA_quiet (g := 0) [11] (by kernel_rfl) (by kernel_rfl) (by kernel_rfl) (by kernel_rfl) ?_
       refine WQ_cons rfl rfl rfl ((p_assign rfl).q) (lt_dec rfl) ?_
       refine WQ_nil ?_
       refine RA_done (by kernel_rfl) ?_
       refine W_seq ?_
       refine W_draw (by kernel_rfl) ?_
       show RA _ _ 6 _ _ _
       refine RA_quietF [0, 1, 2, 3, 4, 5] rfl rfl rfl (by kernel_rfl) (by kernel_rfl) ?_
       refine WQ_cons rfl rfl rfl ((q_load rfl rfl m0 rfl (by first | exact True.intro | omega | exact Fin.isLt _ | trivial | (dsimp only; omega)))) (lt_dec rfl) ?_
       refine WQ_cons rfl rfl rfl ((p_move rfl).q) (lt_dec rfl) ?_
       refine WQ_cons rfl rfl rfl ((q_call en_spec_l01Same rfl (w_spec_l01Same (psC_ok h0).1.1) (View.none _))) (lt_dec rfl) ?_
       refine WQ_cons rfl rfl rfl ((p_eql8 rfl rfl rfl rfl (by kernel_rfl) (by kernel_rfl) (by kernel_rfl)).q) (lt_dec rfl) ?_
       refine WQ_cons rfl rfl rfl ((p_assign rfl).q) (lt_dec rfl) ?_
       refine WQ_cons rfl rfl rfl ((p_assign rfl).q) (lt_dec rfl) ?_
       refine WQ_nil ?_
       refine W_ret ?_
       refine Exists.intro _ (And.intro (.cons (.tmp rfl) (.cons (.tmp rfl) .nil)) ?_)
       first | rfl | (exact veq_tup2 (veq_bool (inV_n (by rw [hk1]; decide)).symm) (veq_int hk1.symm)) | (exact veq_tup2 (veq_bool (inV_n hkn).symm) (veq_int hk1.symm)) | (exact veq_tup2 (veq_bool ((Bool.eq_iff_iff.2 ((@decide_eq_true_iff _ (Classical.propDecidable _)).trans (inC hx28.1 hx28.2.1 hx28.2.2.1 hx28.2.2.2 hpp))).trans (inV_0 hk0).symm)) (veq_int hk0.symm))
      ·refine RA_take 7 rfl rfl rfl (by kernel_rfl) (by kernel_rfl) (by kernel_rfl) (p_extract rfl rfl) (lt_dec rfl) ?_
       refine RA_take 8 rfl rfl rfl (by kernel_rfl) (by kernel_rfl) (by kernel_rfl) (p_extract rfl rfl) (lt_dec rfl) ?_
       refine RA_one 9 rfl rfl (by kernel_rfl) (x_alloc rfl (lt_dec rfl) fun b9_4 => ?_)
       refine RA_one 10 rfl rfl (by kernel_rfl) (x_store rfl rfl rfl rfl rfl HpRep.head rfl (by first | trivial | (first | (first | omega | (dsimp only; omega)) | exact Fin.isLt _)) ?_)
       refine RA_quiet (g := 0) [11] (by kernel_rfl) (by kernel_rfl) (by kernel_rfl) (by kernel_rfl) ?_
       refine WQ_cons rfl rfl rfl ((p_assign rfl).q) (lt_dec rfl) ?_
       refine WQ_nil ?_
       refine RA_done (by kernel_rfl) ?_
       refine W_seq ?_
       refine W_draw (by kernel_rfl) ?_
       show RA _ _ 6 _ _ _
       refine RA_quietF [0, 1, 2, 3, 4, 5] rfl rfl rfl (by kernel_rfl) (by kernel_rfl) ?_
       refine WQ_cons rfl rfl rfl ((q_load rfl rfl m0 rfl (by first | exact True.intro | omega | exact Fin.isLt _ | trivial | (dsimp only; omega)))) (lt_dec rfl) ?_
       refine WQ_cons rfl rfl rfl ((p_move rfl).q) (lt_dec rfl) ?_
       refine WQ_cons rfl rfl rfl ((q_call en_spec_l01Same rfl (w_spec_l01Same (psC_ok h0).1.1) (View.none _))) (lt_dec rfl) ?_
       refine WQ_cons rfl rfl rfl ((p_eql8 rfl rfl rfl rfl (by kernel_rfl) (by kernel_rfl) (by kernel_rfl)).q) (lt_dec rfl) ?_
       refine WQ_cons rfl rfl rfl ((p_assign rfl).q) (lt_dec rfl) ?_
       refine WQ_cons rfl rfl rfl ((p_assign rfl).q) (lt_dec rfl) ?_
       refine WQ_nil ?_
       refine W_ret ?_
       refine Exists.intro _ (And.intro (.cons (.tmp rfl) (.cons (.tmp rfl) .nil)) ?_)
       first | rfl | (exact veq_tup2 (veq_bool (inV_n (by rw [hk1]; decide)).symm) (veq_int hk1.symm)) | (exact veq_tup2 (veq_bool (inV_n hkn).symm) (veq_int hk1.symm)) | (exact veq_tup2 (veq_bool ((Bool.eq_iff_iff.2 ((@decide_eq_true_iff _ (Classical.propDecidable _)).trans (inC hx28.1 hx28.2.1 hx28.2.2.1 hx28.2.2.2 hpp))).trans (inV_0 hk0).symm)) (veq_int hk0.symm))
     ·refine x_alloc rfl (lt_dec rfl) fun b9_5 => ?_
      refine RA_one 2 rfl rfl (by kernel_rfl) (x_callT en_spec_l04Chain rfl (w_spec_l04Chain (n := m) (psC_ok h0).1 (psC_ok h0).2) HpDels.nil (Vw.rd m2) (fun _ => (HpDels.cons HpDel.head HpDels.nil)) (lt_dec rfl) fun x28_1 hx28 => ?_)
      refine RA_quiet (g := 4) [5, 6] (by kernel_rfl) (by kernel_rfl) (by kernel_rfl) (by kernel_rfl) ?_
      refine WQ_cons rfl rfl rfl ((q_call en_spec_l04Sift rfl (w_spec_l04Sift (n := m) (And.left hx28) hpp) (Vw.rdO m0).v)) (lt_dec rfl) ?_
      refine WQ_cons rfl rfl rfl ((p_move rfl).q) (lt_dec rfl) ?_
      refine WQ_nil ?_
      refine RA_take 8 rfl rfl rfl (by kernel_rfl) (by kernel_rfl) (by kernel_rfl) (p_extract rfl rfl) (lt_dec rfl) ?_
      refine RA_quiet (g := 2) [7] (by kernel_rfl) (by kernel_rfl) (by kernel_rfl) (by kernel_rfl) ?_
      refine WQ_cons rfl rfl rfl ((p_extract rfl rfl).q) (lt_dec rfl) ?_
      refine WQ_nil ?_
      refine RA_one 10 rfl rfl (by kernel_rfl) (x_store rfl rfl rfl rfl rfl ((HpRep.head).tail) rfl (by first | trivial | (first | (first | omega | (dsimp only; omega)) | exact Fin.isLt _)) ?_)
      refine RA_quiet (g := 0) [11] (by kernel_rfl) (by kernel_rfl) (by kernel_rfl) (by kernel_rfl) ?_
      refine WQ_cons rfl rfl rfl ((p_assign rfl).q) (lt_dec rfl) ?_
      refine WQ_nil ?_
      refine RA_done (by kernel_rfl) ?_
      refine W_seq ?_
      refine W_draw (by kernel_rfl) ?_
      show RA _ _ 6 _ _ _
      refine RA_quietF [0, 1, 2, 3, 4, 5] rfl rfl rfl (by kernel_rfl) (by kernel_rfl) ?_
      refine WQ_cons rfl rfl rfl ((q_load rfl rfl m1 rfl (by first | exact True.intro | omega | exact Fin.isLt _ | trivial | (dsimp only; omega)))) (lt_dec rfl) ?_
      refine WQ_cons rfl rfl rfl ((p_move rfl).q) (lt_dec rfl) ?_
      refine WQ_cons rfl rfl rfl ((q_call en_spec_l01Same rfl (w_spec_l01Same (psC_ok h0).1.1) (View.none _))) (lt_dec rfl) ?_
      refine WQ_cons rfl rfl rfl ((p_eql8 rfl rfl rfl rfl (by kernel_rfl) (by kernel_rfl) (by kernel_rfl)).q) (lt_dec rfl) ?_
      refine WQ_cons rfl rfl rfl ((p_assign rfl).q) (lt_dec rfl) ?_
      refine WQ_cons rfl rfl rfl ((p_assign rfl).q) (lt_dec rfl) ?_
      refine WQ_nil ?_
      refine W_ret ?_
      refine Exists.intro _ (And.intro (.cons (.tmp rfl) (.cons (.tmp rfl) .nil)) ?_)
      first | rfl | (exact veq_tup2 (veq_bool (inV_n (by rw [hk1]; decide)).symm) (veq_int hk1.symm)) | (exact veq_tup2 (veq_bool (inV_n hkn).symm) (veq_int hk1.symm)) | (exact veq_tup2 (veq_bool ((Bool.eq_iff_iff.2 ((@decide_eq_true_iff _ (Classical.propDecidable _)).trans (inC hx28.1 hx28.2.1 hx28.2.2.1 hx28.2.2.2 hpp))).trans (inV_0 hk0).symm)) (veq_int hk0.symm))
    ·refine x_alloc rfl (lt_dec rfl) fun b9_6 => ?_
     refine RA_two 2 3 rfl rfl rfl rfl (by kernel_rfl) ?_ ?_
     ·refine x_callT en_spec_l04Chain rfl (w_spec_l04Chain (n := m) (psC_ok h0).1 (psC_ok h0).2) HpDels.nil (Vw.rd m2) (fun _ => (HpDels.cons HpDel.head HpDels.nil)) (lt_dec rfl) fun x28_1 hx28 => ?_
      refine RA_quiet (g := 4) [3, 5, 6] (by kernel_rfl) (by kernel_rfl) (by kernel_rfl) (by kernel_rfl) ?_
      refine WQ_cons rfl rfl rfl ((q_load rfl rfl m2 rfl (by first | exact True.intro | omega | exact Fin.isLt _ | trivial | (dsimp only; omega)))) (lt_dec rfl) ?_
      refine WQ_cons rfl rfl rfl ((q_call en_spec_l04Sift rfl (w_spec_l04Sift (n := m) (And.left hx28) hpp) (Vw.rdO m0).v)) (lt_dec rfl) ?_
      refine WQ_cons rfl rfl rfl ((p_move rfl).q) (lt_dec rfl) ?_
      refine WQ_nil ?_
      refine RA_take 8 rfl rfl rfl (by kernel_rfl) (by kernel_rfl) (by kernel_rfl) (p_extract rfl rfl) (lt_dec rfl) ?_
      refine RA_quiet (g := 2) [7] (by kernel_rfl) (by kernel_rfl) (by kernel_rfl) (by kernel_rfl) ?_
      refine WQ_cons rfl rfl rfl ((p_extract rfl rfl).q) (lt_dec rfl) ?_
      refine WQ_nil ?_
      refine RA_one 10 rfl rfl (by kernel_rfl) (x_store rfl rfl rfl rfl rfl ((HpRep.head).tail) rfl (by first | trivial | (first | (first | omega | (dsimp only; omega)) | exact Fin.isLt _)) ?_)
      refine RA_quiet (g := 0) [11] (by kernel_rfl) (by kernel_rfl) (by kernel_rfl) (by kernel_rfl) ?_
      refine WQ_cons rfl rfl rfl ((p_assign rfl).q) (lt_dec rfl) ?_
      refine WQ_nil ?_
      refine RA_done (by kernel_rfl) ?_
      refine W_seq ?_
      refine W_draw (by kernel_rfl) ?_
      show RA _ _ 6 _ _ _
      refine RA_quietF [0, 1, 2, 3, 4, 5] rfl rfl rfl (by kernel_rfl) (by kernel_rfl) ?_
      refine WQ_cons rfl rfl rfl ((q_load rfl rfl m1 rfl (by first | exact True.intro | omega | exact Fin.isLt _ | trivial | (dsimp only; omega)))) (lt_dec rfl) ?_
      refine WQ_cons rfl rfl rfl ((p_move rfl).q) (lt_dec rfl) ?_
      refine WQ_cons rfl rfl rfl ((q_call en_spec_l01Same rfl (w_spec_l01Same (psC_ok h0).1.1) (View.none _))) (lt_dec rfl) ?_
      refine WQ_cons rfl rfl rfl ((p_eql8 rfl rfl rfl rfl (by kernel_rfl) (by kernel_rfl) (by kernel_rfl)).q) (lt_dec rfl) ?_
      refine WQ_cons rfl rfl rfl ((p_assign rfl).q) (lt_dec rfl) ?_
      refine WQ_cons rfl rfl rfl ((p_assign rfl).q) (lt_dec rfl) ?_
      refine WQ_nil ?_
      refine W_ret ?_
      refine Exists.intro _ (And.intro (.cons (.tmp rfl) (.cons (.tmp rfl) .nil)) ?_)
      first | rfl | (exact veq_tup2 (veq_bool (inV_n (by rw [hk1]; decide)).symm) (veq_int hk1.symm)) | (exact veq_tup2 (veq_bool (inV_n hkn).symm) (veq_int hk1.symm)) | (exact veq_tup2 (veq_bool ((Bool.eq_iff_iff.2 ((@decide_eq_true_iff _ (Classical.propDecidable _)).trans (inC hx28.1 hx28.2.1 hx28.2.2.1 hx28.2.2.2 hpp))).trans (inV_0 hk0).symm)) (veq_int hk0.symm))
     ·refine Xt_of_Qt rfl (lt_dec rfl) ((q_load rfl rfl m1 rfl (by first | exact True.intro | omega | exact Fin.isLt _ | trivial | (dsimp only; omega)))) ?_
      refine RA_one 2 rfl rfl (by kernel_rfl) (x_callT en_spec_l04Chain rfl (w_spec_l04Chain (n := m) (psC_ok h0).1 (psC_ok h0).2) HpDels.nil (Vw.rd m2) (fun _ => (HpDels.cons HpDel.head HpDels.nil)) (lt_dec rfl) fun x28_1 hx28 => ?_)
      refine RA_quiet (g := 4) [5, 6] (by kernel_rfl) (by kernel_rfl) (by kernel_rfl) (by kernel_rfl) ?_
      refine WQ_cons rfl rfl rfl ((q_call en_spec_l04Sift rfl (w_spec_l04Sift (n := m) (And.left hx28) hpp) (Vw.rdO m0).v)) (lt_dec rfl) ?_
      refine WQ_cons rfl rfl rfl ((p_move rfl).q) (lt_dec rfl) ?_
      refine WQ_nil ?_
      refine RA_take 8 rfl rfl rfl (by kernel_rfl) (by kernel_rfl) (by kernel_rfl) (p_extract rfl rfl) (lt_dec rfl) ?_
      refine RA_quiet (g := 2) [7] (by kernel_rfl) (by kernel_rfl) (by kernel_rfl) (by kernel_rfl) ?_
      refine WQ_cons rfl rfl rfl ((p_extract rfl rfl).q) (lt_dec rfl) ?_
      refine WQ_nil ?_
      refine RA_one 10 rfl rfl (by kernel_rfl) (x_store rfl rfl rfl rfl rfl ((HpRep.head).tail) rfl (by first | trivial | (first | (first | omega | (dsimp only; omega)) | exact Fin.isLt _)) ?_)
      refine RA_quiet (g := 0) [11] (by kernel_rfl) (by kernel_rfl) (by kernel_rfl) (by kernel_rfl) ?_
      refine WQ_cons rfl rfl rfl ((p_assign rfl).q) (lt_dec rfl) ?_
      refine WQ_nil ?_
      refine RA_done (by kernel_rfl) ?_
      refine W_seq ?_
      refine W_draw (by kernel_rfl) ?_
      show RA _ _ 6 _ _ _
      refine RA_quietF [0, 1, 2, 3, 4, 5] rfl rfl rfl (by kernel_rfl) (by kernel_rfl) ?_
      refine WQ_cons rfl rfl rfl ((q_load rfl rfl m1 rfl (by first | exact True.intro | omega | exact Fin.isLt _ | trivial | (dsimp only; omega)))) (lt_dec rfl) ?_
      refine WQ_cons rfl rfl rfl ((p_move rfl).q) (lt_dec rfl) ?_
      refine WQ_cons rfl rfl rfl ((q_call en_spec_l01Same rfl (w_spec_l01Same (psC_ok h0).1.1) (View.none _))) (lt_dec rfl) ?_
      refine WQ_cons rfl rfl rfl ((p_eql8 rfl rfl rfl rfl (by kernel_rfl) (by kernel_rfl) (by kernel_rfl)).q) (lt_dec rfl) ?_
      refine WQ_cons rfl rfl rfl ((p_assign rfl).q) (lt_dec rfl) ?_
      refine WQ_cons rfl rfl rfl ((p_assign rfl).q) (lt_dec rfl) ?_
      refine WQ_nil ?_
      refine W_ret ?_
      refine Exists.intro _ (And.intro (.cons (.tmp rfl) (.cons (.tmp rfl) .nil)) ?_)
      first | rfl | (exact veq_tup2 (veq_bool (inV_n (by rw [hk1]; decide)).symm) (veq_int hk1.symm)) | (exact veq_tup2 (veq_bool (inV_n hkn).symm) (veq_int hk1.symm)) | (exact veq_tup2 (veq_bool ((Bool.eq_iff_iff.2 ((@decide_eq_true_iff _ (Classical.propDecidable _)).trans (inC hx28.1 hx28.2.1 hx28.2.2.1 hx28.2.2.2 hpp))).trans (inV_0 hk0).symm)) (veq_int hk0.symm))
 ·try simp only [bs] at hg1
  refine Ops_guard_f rfl rfl rfl (lt_dec rfl) ?_
  refine Ops_guard_f rfl rfl rfl (lt_dec rfl) ?_
  refine Ops_guard_f rfl rfl rfl (lt_dec rfl) ?_
  refine Ops_p (p_pick_f rfl rfl) (lt_dec rfl) ?_
  refine Ops_nil ?_
  refine W_false rfl ?_
  refine W_skip ?_
  refine W_seq ?_
  refine W_seq ?_
  refine W_region ?_
  refine o_mv rfl rfl ?_
  refine Ops_p (p_neq rfl rfl) (lt_dec rfl) ?_
  refine Ops_nil ?_
  refine W_cond rfl (fun h4 => ?_) (fun h4 => ?_)
  ·try simp only [bs] at h4
   have hk1 : inK l n p = psC l n := (by first | assumption | exact inK_n (by assumption)); have hkn : inK l n p ≠ 0 := (fun e => by rw [hk1] at e; omega)
   refine W_seq ?_
   refine W_region ?_
   refine o_mv rfl rfl ?_
   refine o_as rfl rfl ?_
   refine o_as rfl rfl ?_
   refine Ops_nil ?_
   refine W_ret ?_
   refine Exists.intro _ (And.intro (.cons (.tmp rfl) (.cons (.tmp rfl) .nil)) ?_)
   first | rfl | (exact veq_tup2 (veq_bool (inV_n (by rw [hk1]; decide)).symm) (veq_int hk1.symm)) | (exact veq_tup2 (veq_bool (inV_n hkn).symm) (veq_int hk1.symm)) | (exact veq_tup2 (veq_bool ((Bool.eq_iff_iff.2 ((@decide_eq_true_iff _ (Classical.propDecidable _)).trans (inC hx28.1 hx28.2.1 hx28.2.2.1 hx28.2.2.2 hpp))).trans (inV_0 hk0).symm)) (veq_int hk0.symm))
  ·try simp only [bs] at h4
   have hk1 : inK l n p = psC l n := (by first | assumption | exact inK_n (by assumption)); have hk0 : inK l n p = 0 := (by rw [hk1]; omega); obtain ⟨h0, hpp⟩ := inK_ok hk0; obtain ⟨m, rfl⟩ := psn h0
   refine W_skip ?_
   refine W_seq ?_
   refine W_draw (by kernel_rfl) ?_
   show RA _ _ 12 _ _ _
   refine RA_take 4 rfl rfl rfl (by kernel_rfl) (by kernel_rfl) (by kernel_rfl) (p_move rfl) (lt_dec rfl) ?_
   refine RA_take 0 rfl rfl rfl (by kernel_rfl) (by kernel_rfl) (by kernel_rfl) (p_move rfl) (lt_dec rfl) ?_
   refine RA_take 1 rfl rfl rfl (by kernel_rfl) (by kernel_rfl) (by kernel_rfl) (p_move rfl) (lt_dec rfl) ?_
   refine RA_three 2 3 9 rfl rfl rfl rfl rfl rfl (by kernel_rfl) ?_ ?_ ?_
   ·refine x_callT en_spec_l04Chain rfl (w_spec_l04Chain (n := m) (psC_ok h0).1 (psC_ok h0).2) HpDels.nil (Vw.rd m1) (fun _ => (HpDels.cons HpDel.head HpDels.nil)) (lt_dec rfl) fun x28_1 hx28 => ?_
    refine RA_quietA (g := 4) (hs := [3, 5, 6]) (ia := 9) rfl rfl (lt_dec rfl) (by kernel_rfl) ?_
    refine SQ_cons rfl rfl rfl ((q_load rfl rfl m1 rfl (by first | exact True.intro | omega | exact Fin.isLt _ | trivial | (dsimp only; omega)))) (lt_dec rfl) ?_
    refine SQ_cons rfl rfl rfl ((q_call en_spec_l04Sift rfl (w_spec_l04Sift (n := m) (And.left hx28) hpp) (Vw.rdO m0).v)) (lt_dec rfl) ?_
    refine SQ_cons rfl rfl rfl ((p_move rfl).q) (lt_dec rfl) ?_
    refine SQ_nil ?_
    refine ⟨fun b9_7 => ?_, ?_⟩
    ·refine RA_take 8 rfl rfl rfl (by kernel_rfl) (by kernel_rfl) (by kernel_rfl) (p_extract rfl rfl) (lt_dec rfl) ?_
     refine RA_quiet (g := 2) [7] (by kernel_rfl) (by kernel_rfl) (by kernel_rfl) (by kernel_rfl) ?_
     refine WQ_cons rfl rfl rfl ((p_extract rfl rfl).q) (lt_dec rfl) ?_
     refine WQ_nil ?_
     refine RA_one 10 rfl rfl (by kernel_rfl) (x_store rfl rfl rfl rfl rfl HpRep.head rfl (by first | trivial | (first | (first | omega | (dsimp only; omega)) | exact Fin.isLt _)) ?_)
     refine RA_quiet (g := 0) [11] (by kernel_rfl) (by kernel_rfl) (by kernel_rfl) (by kernel_rfl) ?_
     refine WQ_cons rfl rfl rfl ((p_assign rfl).q) (lt_dec rfl) ?_
     refine WQ_nil ?_
     refine RA_done (by kernel_rfl) ?_
     refine W_seq ?_
     refine W_draw (by kernel_rfl) ?_
     show RA _ _ 6 _ _ _
     refine RA_quietF [0, 1, 2, 3, 4, 5] rfl rfl rfl (by kernel_rfl) (by kernel_rfl) ?_
     refine WQ_cons rfl rfl rfl ((q_load rfl rfl m0 rfl (by first | exact True.intro | omega | exact Fin.isLt _ | trivial | (dsimp only; omega)))) (lt_dec rfl) ?_
     refine WQ_cons rfl rfl rfl ((p_move rfl).q) (lt_dec rfl) ?_
     refine WQ_cons rfl rfl rfl ((q_call en_spec_l01Same rfl (w_spec_l01Same (psC_ok h0).1.1) (View.none _))) (lt_dec rfl) ?_
     refine WQ_cons rfl rfl rfl ((p_eql8 rfl rfl rfl rfl (by kernel_rfl) (by kernel_rfl) (by kernel_rfl)).q) (lt_dec rfl) ?_
     refine WQ_cons rfl rfl rfl ((p_assign rfl).q) (lt_dec rfl) ?_
     refine WQ_cons rfl rfl rfl ((p_assign rfl).q) (lt_dec rfl) ?_
     refine WQ_nil ?_
     refine W_ret ?_
     refine Exists.intro _ (And.intro (.cons (.tmp rfl) (.cons (.tmp rfl) .nil)) ?_)
     first | rfl | (exact veq_tup2 (veq_bool (inV_n (by rw [hk1]; decide)).symm) (veq_int hk1.symm)) | (exact veq_tup2 (veq_bool (inV_n hkn).symm) (veq_int hk1.symm)) | (exact veq_tup2 (veq_bool ((Bool.eq_iff_iff.2 ((@decide_eq_true_iff _ (Classical.propDecidable _)).trans (inC hx28.1 hx28.2.1 hx28.2.2.1 hx28.2.2.2 hpp))).trans (inV_0 hk0).symm)) (veq_int hk0.symm))
    ·refine RA_take 7 rfl rfl rfl (by kernel_rfl) (by kernel_rfl) (by kernel_rfl) (p_extract rfl rfl) (lt_dec rfl) ?_
     refine RA_take 8 rfl rfl rfl (by kernel_rfl) (by kernel_rfl) (by kernel_rfl) (p_extract rfl rfl) (lt_dec rfl) ?_
     refine RA_one 9 rfl rfl (by kernel_rfl) (x_alloc rfl (lt_dec rfl) fun b9_8 => ?_)
     refine RA_one 10 rfl rfl (by kernel_rfl) (x_store rfl rfl rfl rfl rfl HpRep.head rfl (by first | trivial | (first | (first | omega | (dsimp only; omega)) | exact Fin.isLt _)) ?_)
     refine RA_quiet (g := 0) [11] (by kernel_rfl) (by kernel_rfl) (by kernel_rfl) (by kernel_rfl) ?_
     refine WQ_cons rfl rfl rfl ((p_assign rfl).q) (lt_dec rfl) ?_
     refine WQ_nil ?_
     refine RA_done (by kernel_rfl) ?_
     refine W_seq ?_
     refine W_draw (by kernel_rfl) ?_
     show RA _ _ 6 _ _ _
     refine RA_quietF [0, 1, 2, 3, 4, 5] rfl rfl rfl (by kernel_rfl) (by kernel_rfl) ?_
     refine WQ_cons rfl rfl rfl ((q_load rfl rfl m0 rfl (by first | exact True.intro | omega | exact Fin.isLt _ | trivial | (dsimp only; omega)))) (lt_dec rfl) ?_
     refine WQ_cons rfl rfl rfl ((p_move rfl).q) (lt_dec rfl) ?_
     refine WQ_cons rfl rfl rfl ((q_call en_spec_l01Same rfl (w_spec_l01Same (psC_ok h0).1.1) (View.none _))) (lt_dec rfl) ?_
     refine WQ_cons rfl rfl rfl ((p_eql8 rfl rfl rfl rfl (by kernel_rfl) (by kernel_rfl) (by kernel_rfl)).q) (lt_dec rfl) ?_
     refine WQ_cons rfl rfl rfl ((p_assign rfl).q) (lt_dec rfl) ?_
     refine WQ_cons rfl rfl rfl ((p_assign rfl).q) (lt_dec rfl) ?_
     refine WQ_nil ?_
     refine W_ret ?_
     refine Exists.intro _ (And.intro (.cons (.tmp rfl) (.cons (.tmp rfl) .nil)) ?_)
     first | rfl | (exact veq_tup2 (veq_bool (inV_n (by rw [hk1]; decide)).symm) (veq_int hk1.symm)) | (exact veq_tup2 (veq_bool (inV_n hkn).symm) (veq_int hk1.symm)) | (exact veq_tup2 (veq_bool ((Bool.eq_iff_iff.2 ((@decide_eq_true_iff _ (Classical.propDecidable _)).trans (inC hx28.1 hx28.2.1 hx28.2.2.1 hx28.2.2.2 hpp))).trans (inV_0 hk0).symm)) (veq_int hk0.symm))
   ·refine Xt_of_Qt rfl (lt_dec rfl) ((q_load rfl rfl m0 rfl (by first | exact True.intro | omega | exact Fin.isLt _ | trivial | (dsimp only; omega)))) ?_
    refine RA_two 2 9 rfl rfl rfl rfl (by kernel_rfl) ?_ ?_
    ·refine x_callT en_spec_l04Chain rfl (w_spec_l04Chain (n := m) (psC_ok h0).1 (psC_ok h0).2) HpDels.nil (Vw.rd m1) (fun _ => (HpDels.cons HpDel.head HpDels.nil)) (lt_dec rfl) fun x28_1 hx28 => ?_
     refine RA_quietA (g := 4) (hs := [5, 6]) (ia := 9) rfl rfl (lt_dec rfl) (by kernel_rfl) ?_
     refine SQ_cons rfl rfl rfl ((q_call en_spec_l04Sift rfl (w_spec_l04Sift (n := m) (And.left hx28) hpp) (Vw.rdO m0).v)) (lt_dec rfl) ?_
     refine SQ_cons rfl rfl rfl ((p_move rfl).q) (lt_dec rfl) ?_
     refine SQ_nil ?_
     refine ⟨fun b9_9 => ?_, ?_⟩
     ·refine RA_take 8 rfl rfl rfl (by kernel_rfl) (by kernel_rfl) (by kernel_rfl) (p_extract rfl rfl) (lt_dec rfl) ?_
      refine RA_quiet (g := 2) [7] (by kernel_rfl) (by kernel_rfl) (by kernel_rfl) (by kernel_rfl) ?_
      refine WQ_cons rfl rfl rfl ((p_extract rfl rfl).q) (lt_dec rfl) ?_
      refine WQ_nil ?_
      refine RA_one 10 rfl rfl (by kernel_rfl) (x_store rfl rfl rfl rfl rfl HpRep.head rfl (by first | trivial | (first | (first | omega | (dsimp only; omega)) | exact Fin.isLt _)) ?_)
      refine RA_quiet (g := 0) [11] (by kernel_rfl) (by kernel_rfl) (by kernel_rfl) (by kernel_rfl) ?_
      refine WQ_cons rfl rfl rfl ((p_assign rfl).q) (lt_dec rfl) ?_
      refine WQ_nil ?_
      refine RA_done (by kernel_rfl) ?_
      refine W_seq ?_
      refine W_draw (by kernel_rfl) ?_
      show RA _ _ 6 _ _ _
      refine RA_quietF [0, 1, 2, 3, 4, 5] rfl rfl rfl (by kernel_rfl) (by kernel_rfl) ?_
      refine WQ_cons rfl rfl rfl ((q_load rfl rfl m0 rfl (by first | exact True.intro | omega | exact Fin.isLt _ | trivial | (dsimp only; omega)))) (lt_dec rfl) ?_
      refine WQ_cons rfl rfl rfl ((p_move rfl).q) (lt_dec rfl) ?_
      refine WQ_cons rfl rfl rfl ((q_call en_spec_l01Same rfl (w_spec_l01Same (psC_ok h0).1.1) (View.none _))) (lt_dec rfl) ?_
      refine WQ_cons rfl rfl rfl ((p_eql8 rfl rfl rfl rfl (by kernel_rfl) (by kernel_rfl) (by kernel_rfl)).q) (lt_dec rfl) ?_
      refine WQ_cons rfl rfl rfl ((p_assign rfl).q) (lt_dec rfl) ?_
      refine WQ_cons rfl rfl rfl ((p_assign rfl).q) (lt_dec rfl) ?_
      refine WQ_nil ?_
      refine W_ret ?_
      refine Exists.intro _ (And.intro (.cons (.tmp rfl) (.cons (.tmp rfl) .nil)) ?_)
      first | rfl | (exact veq_tup2 (veq_bool (inV_n (by rw [hk1]; decide)).symm) (veq_int hk1.symm)) | (exact veq_tup2 (veq_bool (inV_n hkn).symm) (veq_int hk1.symm)) | (exact veq_tup2 (veq_bool ((Bool.eq_iff_iff.2 ((@decide_eq_true_iff _ (Classical.propDecidable _)).trans (inC hx28.1 hx28.2.1 hx28.2.2.1 hx28.2.2.2 hpp))).trans (inV_0 hk0).symm)) (veq_int hk0.symm))
     ·refine RA_take 7 rfl rfl rfl (by kernel_rfl) (by kernel_rfl) (by kernel_rfl) (p_extract rfl rfl) (lt_dec rfl) ?_
      refine RA_take 8 rfl rfl rfl (by kernel_rfl) (by kernel_rfl) (by kernel_rfl) (p_extract rfl rfl) (lt_dec rfl) ?_
      refine RA_one 9 rfl rfl (by kernel_rfl) (x_alloc rfl (lt_dec rfl) fun b9_10 => ?_)
      refine RA_one 10 rfl rfl (by kernel_rfl) (x_store rfl rfl rfl rfl rfl HpRep.head rfl (by first | trivial | (first | (first | omega | (dsimp only; omega)) | exact Fin.isLt _)) ?_)
      refine RA_quiet (g := 0) [11] (by kernel_rfl) (by kernel_rfl) (by kernel_rfl) (by kernel_rfl) ?_
      refine WQ_cons rfl rfl rfl ((p_assign rfl).q) (lt_dec rfl) ?_
      refine WQ_nil ?_
      refine RA_done (by kernel_rfl) ?_
      refine W_seq ?_
      refine W_draw (by kernel_rfl) ?_
      show RA _ _ 6 _ _ _
      refine RA_quietF [0, 1, 2, 3, 4, 5] rfl rfl rfl (by kernel_rfl) (by kernel_rfl) ?_
      refine WQ_cons rfl rfl rfl ((q_load rfl rfl m0 rfl (by first | exact True.intro | omega | exact Fin.isLt _ | trivial | (dsimp only; omega)))) (lt_dec rfl) ?_
      refine WQ_cons rfl rfl rfl ((p_move rfl).q) (lt_dec rfl) ?_
      refine WQ_cons rfl rfl rfl ((q_call en_spec_l01Same rfl (w_spec_l01Same (psC_ok h0).1.1) (View.none _))) (lt_dec rfl) ?_
      refine WQ_cons rfl rfl rfl ((p_eql8 rfl rfl rfl rfl (by kernel_rfl) (by kernel_rfl) (by kernel_rfl)).q) (lt_dec rfl) ?_
      refine WQ_cons rfl rfl rfl ((p_assign rfl).q) (lt_dec rfl) ?_
      refine WQ_cons rfl rfl rfl ((p_assign rfl).q) (lt_dec rfl) ?_
      refine WQ_nil ?_
      refine W_ret ?_
      refine Exists.intro _ (And.intro (.cons (.tmp rfl) (.cons (.tmp rfl) .nil)) ?_)
      first | rfl | (exact veq_tup2 (veq_bool (inV_n (by rw [hk1]; decide)).symm) (veq_int hk1.symm)) | (exact veq_tup2 (veq_bool (inV_n hkn).symm) (veq_int hk1.symm)) | (exact veq_tup2 (veq_bool ((Bool.eq_iff_iff.2 ((@decide_eq_true_iff _ (Classical.propDecidable _)).trans (inC hx28.1 hx28.2.1 hx28.2.2.1 hx28.2.2.2 hpp))).trans (inV_0 hk0).symm)) (veq_int hk0.symm))
    ·refine x_alloc rfl (lt_dec rfl) fun b9_11 => ?_
     refine RA_one 2 rfl rfl (by kernel_rfl) (x_callT en_spec_l04Chain rfl (w_spec_l04Chain (n := m) (psC_ok h0).1 (psC_ok h0).2) HpDels.nil (Vw.rd m2) (fun _ => (HpDels.cons HpDel.head HpDels.nil)) (lt_dec rfl) fun x28_1 hx28 => ?_)
     refine RA_quiet (g := 4) [5, 6] (by kernel_rfl) (by kernel_rfl) (by kernel_rfl) (by kernel_rfl) ?_
     refine WQ_cons rfl rfl rfl ((q_call en_spec_l04Sift rfl (w_spec_l04Sift (n := m) (And.left hx28) hpp) (Vw.rdO m0).v)) (lt_dec rfl) ?_
     refine WQ_cons rfl rfl rfl ((p_move rfl).q) (lt_dec rfl) ?_
     refine WQ_nil ?_
     refine RA_take 8 rfl rfl rfl (by kernel_rfl) (by kernel_rfl) (by kernel_rfl) (p_extract rfl rfl) (lt_dec rfl) ?_
     refine RA_quiet (g := 2) [7] (by kernel_rfl) (by kernel_rfl) (by kernel_rfl) (by kernel_rfl) ?_
     refine WQ_cons rfl rfl rfl ((p_extract rfl rfl).q) (lt_dec rfl) ?_
     refine WQ_nil ?_
     refine RA_one 10 rfl rfl (by kernel_rfl) (x_store rfl rfl rfl rfl rfl ((HpRep.head).tail) rfl (by first | trivial | (first | (first | omega | (dsimp only; omega)) | exact Fin.isLt _)) ?_)
     refine RA_quiet (g := 0) [11] (by kernel_rfl) (by kernel_rfl) (by kernel_rfl) (by kernel_rfl) ?_
     refine WQ_cons rfl rfl rfl ((p_assign rfl).q) (lt_dec rfl) ?_
     refine WQ_nil ?_
     refine RA_done (by kernel_rfl) ?_
     refine W_seq ?_
     refine W_draw (by kernel_rfl) ?_
     show RA _ _ 6 _ _ _
     refine RA_quietF [0, 1, 2, 3, 4, 5] rfl rfl rfl (by kernel_rfl) (by kernel_rfl) ?_
     refine WQ_cons rfl rfl rfl ((q_load rfl rfl m1 rfl (by first | exact True.intro | omega | exact Fin.isLt _ | trivial | (dsimp only; omega)))) (lt_dec rfl) ?_
     refine WQ_cons rfl rfl rfl ((p_move rfl).q) (lt_dec rfl) ?_
     refine WQ_cons rfl rfl rfl ((q_call en_spec_l01Same rfl (w_spec_l01Same (psC_ok h0).1.1) (View.none _))) (lt_dec rfl) ?_
     refine WQ_cons rfl rfl rfl ((p_eql8 rfl rfl rfl rfl (by kernel_rfl) (by kernel_rfl) (by kernel_rfl)).q) (lt_dec rfl) ?_
     refine WQ_cons rfl rfl rfl ((p_assign rfl).q) (lt_dec rfl) ?_
     refine WQ_cons rfl rfl rfl ((p_assign rfl).q) (lt_dec rfl) ?_
     refine WQ_nil ?_
     refine W_ret ?_
     refine Exists.intro _ (And.intro (.cons (.tmp rfl) (.cons (.tmp rfl) .nil)) ?_)
     first | rfl | (exact veq_tup2 (veq_bool (inV_n (by rw [hk1]; decide)).symm) (veq_int hk1.symm)) | (exact veq_tup2 (veq_bool (inV_n hkn).symm) (veq_int hk1.symm)) | (exact veq_tup2 (veq_bool ((Bool.eq_iff_iff.2 ((@decide_eq_true_iff _ (Classical.propDecidable _)).trans (inC hx28.1 hx28.2.1 hx28.2.2.1 hx28.2.2.2 hpp))).trans (inV_0 hk0).symm)) (veq_int hk0.symm))
   ·refine x_alloc rfl (lt_dec rfl) fun b9_12 => ?_
    refine RA_two 2 3 rfl rfl rfl rfl (by kernel_rfl) ?_ ?_
    ·refine x_callT en_spec_l04Chain rfl (w_spec_l04Chain (n := m) (psC_ok h0).1 (psC_ok h0).2) HpDels.nil (Vw.rd m2) (fun _ => (HpDels.cons HpDel.head HpDels.nil)) (lt_dec rfl) fun x28_1 hx28 => ?_
     refine RA_quiet (g := 4) [3, 5, 6] (by kernel_rfl) (by kernel_rfl) (by kernel_rfl) (by kernel_rfl) ?_
     refine WQ_cons rfl rfl rfl ((q_load rfl rfl m2 rfl (by first | exact True.intro | omega | exact Fin.isLt _ | trivial | (dsimp only; omega)))) (lt_dec rfl) ?_
     refine WQ_cons rfl rfl rfl ((q_call en_spec_l04Sift rfl (w_spec_l04Sift (n := m) (And.left hx28) hpp) (Vw.rdO m0).v)) (lt_dec rfl) ?_
     refine WQ_cons rfl rfl rfl ((p_move rfl).q) (lt_dec rfl) ?_
     refine WQ_nil ?_
     refine RA_take 8 rfl rfl rfl (by kernel_rfl) (by kernel_rfl) (by kernel_rfl) (p_extract rfl rfl) (lt_dec rfl) ?_
     refine RA_quiet (g := 2) [7] (by kernel_rfl) (by kernel_rfl) (by kernel_rfl) (by kernel_rfl) ?_
     refine WQ_cons rfl rfl rfl ((p_extract rfl rfl).q) (lt_dec rfl) ?_
     refine WQ_nil ?_
     refine RA_one 10 rfl rfl (by kernel_rfl) (x_store rfl rfl rfl rfl rfl ((HpRep.head).tail) rfl (by first | trivial | (first | (first | omega | (dsimp only; omega)) | exact Fin.isLt _)) ?_)
     refine RA_quiet (g := 0) [11] (by kernel_rfl) (by kernel_rfl) (by kernel_rfl) (by kernel_rfl) ?_
     refine WQ_cons rfl rfl rfl ((p_assign rfl).q) (lt_dec rfl) ?_
     refine WQ_nil ?_
     refine RA_done (by kernel_rfl) ?_
     refine W_seq ?_
     refine W_draw (by kernel_rfl) ?_
     show RA _ _ 6 _ _ _
     refine RA_quietF [0, 1, 2, 3, 4, 5] rfl rfl rfl (by kernel_rfl) (by kernel_rfl) ?_
     refine WQ_cons rfl rfl rfl ((q_load rfl rfl m1 rfl (by first | exact True.intro | omega | exact Fin.isLt _ | trivial | (dsimp only; omega)))) (lt_dec rfl) ?_
     refine WQ_cons rfl rfl rfl ((p_move rfl).q) (lt_dec rfl) ?_
     refine WQ_cons rfl rfl rfl ((q_call en_spec_l01Same rfl (w_spec_l01Same (psC_ok h0).1.1) (View.none _))) (lt_dec rfl) ?_
     refine WQ_cons rfl rfl rfl ((p_eql8 rfl rfl rfl rfl (by kernel_rfl) (by kernel_rfl) (by kernel_rfl)).q) (lt_dec rfl) ?_
     refine WQ_cons rfl rfl rfl ((p_assign rfl).q) (lt_dec rfl) ?_
     refine WQ_cons rfl rfl rfl ((p_assign rfl).q) (lt_dec rfl) ?_
     refine WQ_nil ?_
     refine W_ret ?_
     refine Exists.intro _ (And.intro (.cons (.tmp rfl) (.cons (.tmp rfl) .nil)) ?_)
     first | rfl | (exact veq_tup2 (veq_bool (inV_n (by rw [hk1]; decide)).symm) (veq_int hk1.symm)) | (exact veq_tup2 (veq_bool (inV_n hkn).symm) (veq_int hk1.symm)) | (exact veq_tup2 (veq_bool ((Bool.eq_iff_iff.2 ((@decide_eq_true_iff _ (Classical.propDecidable _)).trans (inC hx28.1 hx28.2.1 hx28.2.2.1 hx28.2.2.2 hpp))).trans (inV_0 hk0).symm)) (veq_int hk0.symm))
    ·refine Xt_of_Qt rfl (lt_dec rfl) ((q_load rfl rfl m1 rfl (by first | exact True.intro | omega | exact Fin.isLt _ | trivial | (dsimp only; omega)))) ?_
     refine RA_one 2 rfl rfl (by kernel_rfl) (x_callT en_spec_l04Chain rfl (w_spec_l04Chain (n := m) (psC_ok h0).1 (psC_ok h0).2) HpDels.nil (Vw.rd m2) (fun _ => (HpDels.cons HpDel.head HpDels.nil)) (lt_dec rfl) fun x28_1 hx28 => ?_)
     refine RA_quiet (g := 4) [5, 6] (by kernel_rfl) (by kernel_rfl) (by kernel_rfl) (by kernel_rfl) ?_
     refine WQ_cons rfl rfl rfl ((q_call en_spec_l04Sift rfl (w_spec_l04Sift (n := m) (And.left hx28) hpp) (Vw.rdO m0).v)) (lt_dec rfl) ?_
     refine WQ_cons rfl rfl rfl ((p_move rfl).q) (lt_dec rfl) ?_
     refine WQ_nil ?_
     refine RA_take 8 rfl rfl rfl (by kernel_rfl) (by kernel_rfl) (by kernel_rfl) (p_extract rfl rfl) (lt_dec rfl) ?_
     refine RA_quiet (g := 2) [7] (by kernel_rfl) (by kernel_rfl) (by kernel_rfl) (by kernel_rfl) ?_
     refine WQ_cons rfl rfl rfl ((p_extract rfl rfl).q) (lt_dec rfl) ?_
     refine WQ_nil ?_
     refine RA_one 10 rfl rfl (by kernel_rfl) (x_store rfl rfl rfl rfl rfl ((HpRep.head).tail) rfl (by first | trivial | (first | (first | omega | (dsimp only; omega)) | exact Fin.isLt _)) ?_)
     refine RA_quiet (g := 0) [11] (by kernel_rfl) (by kernel_rfl) (by kernel_rfl) (by kernel_rfl) ?_
     refine WQ_cons rfl rfl rfl ((p_assign rfl).q) (lt_dec rfl) ?_
     refine WQ_nil ?_
     refine RA_done (by kernel_rfl) ?_
     refine W_seq ?_
     refine W_draw (by kernel_rfl) ?_
     show RA _ _ 6 _ _ _
     refine RA_quietF [0, 1, 2, 3, 4, 5] rfl rfl rfl (by kernel_rfl) (by kernel_rfl) ?_
     refine WQ_cons rfl rfl rfl ((q_load rfl rfl m1 rfl (by first | exact True.intro | omega | exact Fin.isLt _ | trivial | (dsimp only; omega)))) (lt_dec rfl) ?_
     refine WQ_cons rfl rfl rfl ((p_move rfl).q) (lt_dec rfl) ?_
     refine WQ_cons rfl rfl rfl ((q_call en_spec_l01Same rfl (w_spec_l01Same (psC_ok h0).1.1) (View.none _))) (lt_dec rfl) ?_
     refine WQ_cons rfl rfl rfl ((p_eql8 rfl rfl rfl rfl (by kernel_rfl) (by kernel_rfl) (by kernel_rfl)).q) (lt_dec rfl) ?_
     refine WQ_cons rfl rfl rfl ((p_assign rfl).q) (lt_dec rfl) ?_
     refine WQ_cons rfl rfl rfl ((p_assign rfl).q) (lt_dec rfl) ?_
     refine WQ_nil ?_
     refine W_ret ?_
     refine Exists.intro _ (And.intro (.cons (.tmp rfl) (.cons (.tmp rfl) .nil)) ?_)
     first | rfl | (exact veq_tup2 (veq_bool (inV_n (by rw [hk1]; decide)).symm) (veq_int hk1.symm)) | (exact veq_tup2 (veq_bool (inV_n hkn).symm) (veq_int hk1.symm)) | (exact veq_tup2 (veq_bool ((Bool.eq_iff_iff.2 ((@decide_eq_true_iff _ (Classical.propDecidable _)).trans (inC hx28.1 hx28.2.1 hx28.2.2.1 hx28.2.2.2 hpp))).trans (inV_0 hk0).symm)) (veq_int hk0.symm))
end Go.Proofs.Ytjihhcjpbcmjaaa
end
section
namespace Go.Proofs.Ytjihhcjpbcmjaaa
open Go Gx
set_option linter.unusedVariables false
theorem en_spec_l04Block : Enters Try.prog 51 := enters_of Try.func51 (by kernel_rfl) (by kernel_rfl)
set_option maxRecDepth 100000 in
set_option maxHeartbeats 4000000 in
theorem w_spec_l04Block {a : Value} {ha : a.oneCell' = true} {l : List (Nat → Fin 256)} {n : Int} {x0 y0 : Nat} (hp : PsOk l n) (hl : l.length ≤ 40) (hx : x0 < n.toNat) (hy : y0 < n.toNat) : CT (X := V1) Try.prog 51 (vals [.raw a ha, .int .i64 n, .int .i64 (x0 : Int), .int .i64 (y0 : Int)]) [] [rd a (.arrs 10 l)] (fun x => True) (fun x => .raw x.1 x.2) (fun x => [own x.1 2 (.ints .i64 (bkL l n.toNat x0 y0))]) := by
 refine CT_intro (rs := [.tmp 8]) tt tok Try.func51 rfl rfl rfl (by first | rfl | assumption) fun w => ?_
 show W _ _ _ ⟨tmOf 0 [.raw a ha, .int .i64 n, .int .i64 (x0 : Int), .int .i64 (y0 : Int)], [rd a (.arrs 10 l)]⟩
 have hn := hp.1
 refine W_seq ?_
 refine W_region ?_
 refine o_as rfl rfl ?_
 refine Ops_nil ?_
 refine W_seq ?_
 refine W_region ?_
 refine Ops_p (p_build_arr rfl rfl rfl rfl (by first | exact True.intro | omega | exact Fin.isLt _ | trivial | (dsimp only; omega))) (lt_dec rfl) ?_
 refine Ops_x rfl (x_alloc rfl (lt_dec rfl) fun b9_1 => ?_)
 refine Ops_x rfl (x_store rfl rfl rfl rfl rfl HpRep.head rfl (by first | trivial | (first | (first | omega | (dsimp only; omega)) | exact Fin.isLt _)) ?_)
 refine Ops_nil ?_
 refine W_seq ?_
 refine W_seq ?_
 refine W_region ?_
 refine o_as rfl rfl ?_
 refine Ops_nil ?_
 refine W_block ?_
 refine W_loop (α := Nat) (fun i => ⟨[(0, .raw a ha), (1, .int .i64 n), (2, .int .i64 (x0 : Int)), (3, .int .i64 (y0 : Int)), (9, .ptr b9_1 0 none), (10, .int .i64 (i : Int))], [.var b9_1 (.arr .i64 10 (idC i)), rd a (.arrs 10 l)]⟩) (fun i => i ≤ n.toNat) (fun i => n.toNat - i) 0 ?_ ?_ ?_
 ·show _ ≤ _; omega
 ·exact Wk.intro (.c rfl (.c rfl (.c rfl (.c rfl (.c rfl (.cons rfl (by first | rfl | exact veq_int (by first | omega | (dsimp only; omega))) .nil)))))) (.keep rfl rfl (imp_var (by exact ceq_arr fun j hj => (by simp [idC])) rfl) (.keep rfl rfl (fun _ h => h) .nil))
 ·rintro i hR
  refine W_seq ?_
  refine W_seq ?_
  refine W_region ?_
  refine o_mv rfl rfl ?_
  refine o_mv rfl rfl ?_
  refine Ops_p (p_lss rfl rfl) (lt_dec rfl) ?_
  refine Ops_nil ?_
  refine W_cond rfl (fun h1 => ?_) (fun h1 => ?_)
  ·try simp only [bs] at h1
   refine W_skip ?_
   refine W_seq ?_
   refine W_block ?_
   refine W_region ?_
   refine o_mv rfl rfl ?_
   refine o_mv rfl rfl ?_
   first | refine Ops_p (p_ix1 _ rfl rfl rfl rfl rfl rfl (by first | omega | exact Fin.isLt _ | (dsimp only; omega))) (lt_dec rfl) ?_ | refine Ops_p (p_ix1s _ rfl rfl rfl rfl rfl rfl (by first | omega | exact Fin.isLt _ | (dsimp only; omega))) (lt_dec rfl) ?_
   refine Ops_x rfl (x_store rfl rfl rfl rfl rfl HpRep.head rfl (by first | trivial | (first | (first | omega | (dsimp only; omega)) | exact Fin.isLt _)) ?_)
   refine Ops_nil ?_
   refine W_region ?_
   refine o_mv rfl rfl ?_
   refine Ops_p (p_add rfl rfl (by refine ⟨?_, ?_⟩ <;> first | omega | (dsimp only; omega))) (lt_dec rfl) ?_
   refine o_as rfl rfl ?_
   refine Ops_nil ?_
   refine Exists.intro (i + 1) (And.intro ?_ (And.intro ?_ ?_))
   ·show _ ≤ _; omega
   ·show _ < _; omega
   ·exact Wk.intro (.c rfl (.c rfl (.c rfl (.c rfl (.c rfl (.cons rfl (by first | rfl | exact veq_int (by first | omega | (dsimp only; omega))) .nil)))))) (.keep rfl rfl (imp_var (by exact ceq_arr fun j hj => idC_step j) rfl) (.keep rfl rfl (fun _ h => h) .nil))
  ·try simp only [bs] at h1
   obtain rfl : i = n.toNat := (by omega)
   refine W_exit ?_
   refine W_seq ?_
   refine W_region ?_
   refine o_mv rfl rfl ?_
   refine o_mv rfl rfl ?_
   refine Ops_p ((p_build_arr rfl rfl rfl rfl (by simp only [mulS_eq]; (repeat' apply And.intro) <;> first | trivial | omega)).eq (veq_arr (g := pr0 x0 y0) fun j hj => (by rcases j with _ | _ | j <;> first | rfl | omega))) (lt_dec rfl) ?_
   refine Ops_x rfl (x_buildSlice rfl rfl rfl rfl rfl rfl rfl rfl (Nat.le_of_ble_eq_true rfl) (lt_dec rfl) fun b31_1 => ?_)
   refine o_as rfl rfl ?_
   refine Ops_nil ?_
   refine W_seq ?_
   refine W_seq ?_
   refine W_region ?_
   refine o_as rfl rfl ?_
   refine Ops_nil ?_
   refine W_block ?_
   refine W_loop (α := Nat × (Nat → Int) × List (Nat → Int) × Nat × Nat) (fun zz1 => ⟨[(0, .raw a ha), (1, .int .i64 n), (2, .int .i64 (x0 : Int)), (3, .int .i64 (y0 : Int)), (9, .ptr b9_1 0 none), (11, .sl (zz1.2.2.2.1) 0 (List.length (zz1.2.2.1)) (zz1.2.2.2.2)), (12, .int .i64 ((zz1.1) : Int))], [.row (zz1.2.2.2.1) (zz1.2.2.2.2) 109 (.arri .i64 2 (zz1.2.2.1)), .var b9_1 (.arr .i64 10 (zz1.2.1)), rd a (.arrs 10 l)]⟩) (fun zz1 => (zz1.1) ≤ (zz1.2.2.1).length ∧ BI l n.toNat x0 y0 (zz1.2.1) (zz1.2.2.1) (zz1.1) ∧ BQ (zz1.2.1) n.toNat l.length (zz1.2.2.1).length) (fun zz1 => lbN (zz1.2.1) n.toNat * (l.length + 1) + ((zz1.2.2.1).length - (zz1.1))) (0, idC n.toNat, [pr0 x0 y0], b31_1, 1) ?_ ?_ ?_
   ·exact ⟨Nat.zero_le _, BI.start hx hy (fun u hu => if_pos hu) rfl rfl, BQ.start⟩
   ·exact Wk.intro (.c rfl (.c rfl (.c rfl (.c rfl (.c rfl (.cons rfl (by first | rfl | exact veq_int (by first | omega | (dsimp only; omega))) (.cons rfl (by first | rfl | exact veq_int (by first | omega | (dsimp only; omega))) .nil))))))) (.keep rfl rfl (fun _ h => h) (.keep rfl rfl (imp_var (by rfl) rfl) (.keep rfl rfl (fun _ h => h) .nil)))
   ·rintro ⟨i, c, Q, bb, cbb⟩ ⟨hi, hI, hq⟩
    try dsimp only at *
    have hqb := hq.b (by omega) hl
    refine W_seq ?_
    refine W_seq ?_
    refine W_region ?_
    refine o_mv rfl rfl ?_
    refine o_mv rfl rfl ?_
    refine Ops_p (p_len rfl rfl rfl) (lt_dec rfl) ?_
    refine Ops_p (p_lss rfl rfl) (lt_dec rfl) ?_
    refine Ops_nil ?_
    refine W_cond rfl (fun h2 => ?_) (fun h2 => ?_)
    ·try simp only [bs] at h2
     refine W_skip ?_
     refine W_seq ?_
     refine W_block ?_
     refine W_seq ?_
     obtain ⟨a0, b0, ha0, hb0, han, hbn, hB⟩ := hI.at (by omega)
     refine W_draw (by kernel_rfl) ?_
     show RA _ _ 16 _ _ _
     refine RA_quietF [0, 1, 2, 3, 4, 5, 6, 7, 8, 9, 10, 11, 12, 13, 14, 15] rfl rfl rfl (by kernel_rfl) (by kernel_rfl) ?_
     refine WQ_cons rfl rfl rfl ((p_move rfl).q) (lt_dec rfl) ?_
     refine WQ_cons rfl rfl rfl ((p_move rfl).q) (lt_dec rfl) ?_
     refine WQ_cons rfl rfl rfl ((p_ixlN 2 _ rfl rfl rfl rfl rfl rfl (by first | omega | exact Fin.isLt _ | (dsimp only; omega))).q) (lt_dec rfl) ?_
     first | refine WQ_cons rfl rfl rfl ((p_ix1 0 rfl rfl rfl rfl rfl rfl (by first | omega | exact Fin.isLt _ | (dsimp only; omega))).q) (lt_dec rfl) ?_ | refine WQ_cons rfl rfl rfl ((p_ix1s 0 rfl rfl rfl rfl rfl rfl (by first | omega | exact Fin.isLt _ | (dsimp only; omega))).q) (lt_dec rfl) ?_
     refine WQ_cons rfl rfl rfl (((q_loadRi (i := i) (j := 0) (m := 2) rfl rfl m0 (by first | rfl | (simp only [mulS_eq]; omega)) (by omega) (by omega) rfl rfl).eq (d' := .int .i64 (a0 : Int)) (veq_int ha0))) (lt_dec rfl) ?_
     first | refine WQ_cons rfl rfl rfl ((p_ix1 a0 rfl rfl rfl rfl rfl rfl (by first | omega | exact Fin.isLt _ | (dsimp only; omega))).q) (lt_dec rfl) ?_ | refine WQ_cons rfl rfl rfl ((p_ix1s a0 rfl rfl rfl rfl rfl rfl (by first | omega | exact Fin.isLt _ | (dsimp only; omega))).q) (lt_dec rfl) ?_
     refine WQ_cons rfl rfl rfl ((q_load rfl rfl m1 rfl (by first | exact True.intro | omega | exact Fin.isLt _ | trivial | (dsimp only; omega)))) (lt_dec rfl) ?_
     refine WQ_cons rfl rfl rfl ((p_move rfl).q) (lt_dec rfl) ?_
     refine WQ_cons rfl rfl rfl ((p_move rfl).q) (lt_dec rfl) ?_
     refine WQ_cons rfl rfl rfl ((p_ixlN 2 _ rfl rfl rfl rfl rfl rfl (by first | omega | exact Fin.isLt _ | (dsimp only; omega))).q) (lt_dec rfl) ?_
     first | refine WQ_cons rfl rfl rfl ((p_ix1 1 rfl rfl rfl rfl rfl rfl (by first | omega | exact Fin.isLt _ | (dsimp only; omega))).q) (lt_dec rfl) ?_ | refine WQ_cons rfl rfl rfl ((p_ix1s 1 rfl rfl rfl rfl rfl rfl (by first | omega | exact Fin.isLt _ | (dsimp only; omega))).q) (lt_dec rfl) ?_
     refine WQ_cons rfl rfl rfl (((q_loadRi (i := i) (j := 1) (m := 2) rfl rfl m0 (by first | rfl | (simp only [mulS_eq]; omega)) (by omega) (by omega) rfl rfl).eq (d' := .int .i64 (b0 : Int)) (veq_int hb0))) (lt_dec rfl) ?_
     first | refine WQ_cons rfl rfl rfl ((p_ix1 b0 rfl rfl rfl rfl rfl rfl (by first | omega | exact Fin.isLt _ | (dsimp only; omega))).q) (lt_dec rfl) ?_ | refine WQ_cons rfl rfl rfl ((p_ix1s b0 rfl rfl rfl rfl rfl rfl (by first | omega | exact Fin.isLt _ | (dsimp only; omega))).q) (lt_dec rfl) ?_
     refine WQ_cons rfl rfl rfl ((q_load rfl rfl m1 rfl (by first | exact True.intro | omega | exact Fin.isLt _ | trivial | (dsimp only; omega)))) (lt_dec rfl) ?_
     refine WQ_cons rfl rfl rfl ((p_assign rfl).q) (lt_dec rfl) ?_
     refine WQ_cons rfl rfl rfl ((p_assign rfl).q) (lt_dec rfl) ?_
     refine WQ_nil ?_
     refine W_seq ?_
     refine W_seq ?_
     refine W_region ?_
     refine o_mv rfl rfl ?_
     refine o_mv rfl rfl ?_
     refine Ops_p (p_eql rfl rfl) (lt_dec rfl) ?_
     refine Ops_nil ?_
     refine W_cond rfl (fun h3 => ?_) (fun h3 => ?_)
     ·try simp only [bs] at h3
      have hab := h3
      refine W_exit ?_
      refine W_region ?_
      refine o_mv rfl rfl ?_
      refine Ops_p (p_add rfl rfl (by refine ⟨?_, ?_⟩ <;> first | omega | (dsimp only; omega))) (lt_dec rfl) ?_
      refine o_as rfl rfl ?_
      refine Ops_nil ?_
      refine Exists.intro (i + 1, c, Q, bb, cbb) (And.intro ?_ (And.intro ?_ ?_))
      ·first | exact ⟨by show i + 1 ≤ Q.length; omega, hI.same ha0 hb0 hab, hq⟩ | exact ⟨by show i + 1 ≤ List.length (qz Q l a0 b0 l.length); rw [qz_len (Nat.le_refl _)]; omega, by rw [qz_end]; exact hI.merge hp (by omega) ha0 hb0 han hbn hB hab mrg_end, by show BQ _ _ _ (List.length (qz Q l a0 b0 l.length)); rw [qz_len (Nat.le_refl _)]; exact hq.step (hI.lb han hbn hab)⟩
      ·first | (show lbN c n.toNat * (l.length + 1) + (Q.length - (i + 1)) < lbN c n.toNat * (l.length + 1) + (Q.length - i); omega) | (show lbN (mrg c a0 b0 n.toNat) n.toNat * (l.length + 1) + (List.length (qz Q l a0 b0 l.length) - (i + 1)) < _; rw [qz_len (Nat.le_refl _)]; exact BQ.less (hI.lb han hbn hab) (by omega))
      ·exact Wk.intro (.c rfl (.c rfl (.c rfl (.c rfl (.c rfl (.cons rfl (veq_sl rfl) (.cons rfl (by first | rfl | exact veq_int (by first | omega | (dsimp only; omega))) .nil))))))) (.keep rfl rfl (fun _ h => h) (.keep rfl rfl (imp_var (by rfl) rfl) (.keep rfl rfl (fun _ h => h) .nil)))
     ·try simp only [bs] at h3
      have hab := h3
      refine W_skip ?_
      refine W_seq ?_
      refine W_seq ?_
      refine W_region ?_
      refine o_as rfl rfl ?_
      refine Ops_nil ?_
      refine W_block ?_
      refine W_loop (α := Nat) (fun u => ⟨[(0, .raw a ha), (1, .int .i64 n), (2, .int .i64 (x0 : Int)), (3, .int .i64 (y0 : Int)), (9, .ptr b9_1 0 none), (11, .sl bb 0 (List.length Q) cbb), (12, .int .i64 (i : Int)), (13, .int .i64 (c a0)), (14, .int .i64 (c b0)), (15, .int .i64 (u : Int))], [.row bb cbb 109 (.arri .i64 2 Q), .var b9_1 (.arr .i64 10 (mrg c a0 b0 u)), rd a (.arrs 10 l)]⟩) (fun u => u ≤ n.toNat) (fun u => n.toNat - u) 0 ?_ ?_ ?_
      ·show _ ≤ _; omega
      ·exact Wk.intro (.c rfl (.c rfl (.c rfl (.c rfl (.c rfl (.c rfl (.c rfl (.c rfl (.c rfl (.cons rfl (by first | rfl | exact veq_int (by first | omega | (dsimp only; omega))) .nil)))))))))) (.keep rfl rfl (fun _ h => h) (.keep rfl rfl (imp_var (by exact ceq_arr fun j hj => mrg_zero j) rfl) (.keep rfl rfl (fun _ h => h) .nil)))
      ·rintro u hR
       refine W_seq ?_
       refine W_seq ?_
       refine W_region ?_
       refine o_mv rfl rfl ?_
       refine o_mv rfl rfl ?_
       refine Ops_p (p_lss rfl rfl) (lt_dec rfl) ?_
       refine Ops_nil ?_
       refine W_cond rfl (fun h4 => ?_) (fun h4 => ?_)
       ·try simp only [bs] at h4
        refine W_skip ?_
        refine W_seq ?_
        refine W_block ?_
        refine W_seq ?_
        refine W_region ?_
        refine o_mv rfl rfl ?_
        first | refine Ops_p (p_ix1 _ rfl rfl rfl rfl rfl rfl (by first | omega | exact Fin.isLt _ | (dsimp only; omega))) (lt_dec rfl) ?_ | refine Ops_p (p_ix1s _ rfl rfl rfl rfl rfl rfl (by first | omega | exact Fin.isLt _ | (dsimp only; omega))) (lt_dec rfl) ?_
        refine Ops_q (q_load rfl rfl m1 rfl (by first | exact True.intro | omega | exact Fin.isLt _ | trivial | (dsimp only; omega))) (lt_dec rfl) ?_
        refine o_mv rfl rfl ?_
        refine Ops_p (p_eql rfl rfl) (lt_dec rfl) ?_
        refine Ops_nil ?_
        refine W_cond rfl (fun h5 => ?_) (fun h5 => ?_)
        ·try simp only [bs] at h5
         rw [mrg_at] at h5
         refine W_region ?_
         refine o_mv rfl rfl ?_
         refine o_mv rfl rfl ?_
         first | refine Ops_p (p_ix1 _ rfl rfl rfl rfl rfl rfl (by first | omega | exact Fin.isLt _ | (dsimp only; omega))) (lt_dec rfl) ?_ | refine Ops_p (p_ix1s _ rfl rfl rfl rfl rfl rfl (by first | omega | exact Fin.isLt _ | (dsimp only; omega))) (lt_dec rfl) ?_
         refine Ops_x rfl (x_store rfl rfl rfl rfl rfl ((HpRep.head).tail) rfl (by first | trivial | (first | (first | omega | (dsimp only; omega)) | exact Fin.isLt _)) ?_)
         refine Ops_nil ?_
         refine W_region ?_
         refine o_mv rfl rfl ?_
         refine Ops_p (p_add rfl rfl (by refine ⟨?_, ?_⟩ <;> first | omega | (dsimp only; omega))) (lt_dec rfl) ?_
         refine o_as rfl rfl ?_
         refine Ops_nil ?_
         refine Exists.intro (u + 1) (And.intro ?_ (And.intro ?_ ?_))
         ·show _ ≤ _; omega
         ·show _ < _; omega
         ·exact Wk.intro (.c rfl (.c rfl (.c rfl (.c rfl (.c rfl (.c rfl (.c rfl (.c rfl (.c rfl (.cons rfl (by first | rfl | exact veq_int (by first | omega | (dsimp only; omega))) .nil)))))))))) (.keep rfl rfl (fun _ h => h) (.keep rfl rfl (imp_var (by first | exact ceq_arr fun j hj => mrg_t (by assumption) j | exact ceq_arr fun j hj => mrg_f (by assumption) j) rfl) (.keep rfl rfl (fun _ h => h) .nil)))
        ·try simp only [bs] at h5
         rw [mrg_at] at h5
         refine W_skip ?_
         refine W_region ?_
         refine o_mv rfl rfl ?_
         refine Ops_p (p_add rfl rfl (by refine ⟨?_, ?_⟩ <;> first | omega | (dsimp only; omega))) (lt_dec rfl) ?_
         refine o_as rfl rfl ?_
         refine Ops_nil ?_
         refine Exists.intro (u + 1) (And.intro ?_ (And.intro ?_ ?_))
         ·show _ ≤ _; omega
         ·show _ < _; omega
         ·exact Wk.intro (.c rfl (.c rfl (.c rfl (.c rfl (.c rfl (.c rfl (.c rfl (.c rfl (.c rfl (.cons rfl (by first | rfl | exact veq_int (by first | omega | (dsimp only; omega))) .nil)))))))))) (.keep rfl rfl (fun _ h => h) (.keep rfl rfl (imp_var (by first | exact ceq_arr fun j hj => mrg_t (by assumption) j | exact ceq_arr fun j hj => mrg_f (by assumption) j) rfl) (.keep rfl rfl (fun _ h => h) .nil)))
       ·try simp only [bs] at h4
        obtain rfl : u = n.toNat := (by omega)
        refine W_exit ?_
        refine W_seq ?_
        refine W_region ?_
        refine o_as rfl rfl ?_
        refine Ops_nil ?_
        refine W_block ?_
        refine W_loop (α := Nat × Nat × Nat) (fun zz3 => ⟨[(0, .raw a ha), (1, .int .i64 n), (2, .int .i64 (x0 : Int)), (3, .int .i64 (y0 : Int)), (9, .ptr b9_1 0 none), (11, .sl (zz3.2.1) 0 (List.length (qz Q l a0 b0 (zz3.1))) (zz3.2.2)), (12, .int .i64 (i : Int)), (13, .int .i64 (c a0)), (14, .int .i64 (c b0)), (15, .int .i64 (n.toNat : Int)), (16, .int .i64 ((zz3.1) : Int))], [.row (zz3.2.1) (zz3.2.2) 109 (.arri .i64 2 (qz Q l a0 b0 (zz3.1))), .var b9_1 (.arr .i64 10 (mrg c a0 b0 n.toNat)), rd a (.arrs 10 l)]⟩) (fun zz3 => (zz3.1) ≤ l.length) (fun zz3 => l.length - (zz3.1)) (0, bb, cbb) ?_ ?_ ?_
        ·show _ ≤ _; omega
        ·exact Wk.intro (.c rfl (.c rfl (.c rfl (.c rfl (.c rfl (.cons rfl (by rw [qz_zero]) (.c rfl (.c rfl (.c rfl (.c rfl (.cons rfl (by first | rfl | exact veq_int (by first | omega | (dsimp only; omega))) .nil))))))))))) (.keep rfl rfl (fun _ h => by rw [qz_zero]; exact h) (.keep rfl rfl (fun _ h => h) (.keep rfl rfl (fun _ h => h) .nil)))
        ·rintro ⟨k, b2, c2⟩ hR
         try dsimp only at *
         have hzl0 := qz_len (Q := Q) (l := l) (a := a0) (b := b0) (k := k) (by omega)
         refine W_seq ?_
         refine W_seq ?_
         refine W_region ?_
         refine o_mv rfl rfl ?_
         refine o_mv rfl rfl ?_
         refine Ops_q ((q_lenR rfl rfl rfl (Rds.rd m2)).eq (d' := .int .i64 ((l.length : Nat) : Int)) rfl) (lt_dec rfl) ?_
         refine Ops_p (p_lss rfl rfl) (lt_dec rfl) ?_
         refine Ops_nil ?_
         refine W_cond rfl (fun h6 => ?_) (fun h6 => ?_)
         ·try simp only [bs] at h6
          refine W_skip ?_
          refine W_seq ?_
          refine W_block ?_
          have hzl := qz_len (Q := Q) (l := l) (a := a0) (b := b0) (k := k) (by omega)
          have hzg := qz_get (Q := Q) (l := l) (a := a0) (b := b0) (k := k) (i := i) (by omega)
          refine W_draw (by kernel_rfl) ?_
          show RA _ _ 27 _ _ _
          refine RA_take 0 rfl rfl rfl (by kernel_rfl) (by kernel_rfl) (by kernel_rfl) (p_move rfl) (lt_dec rfl) ?_
          refine RA_quiet (g := 3) [1, 2, 3, 4, 5, 6, 7, 8, 9, 10, 11, 12, 13, 14, 15, 16, 17, 18, 19, 20, 21, 22, 23] (by kernel_rfl) (by kernel_rfl) (by kernel_rfl) (by kernel_rfl) ?_
          refine WQ_cons rfl rfl rfl ((p_move rfl).q) (lt_dec rfl) ?_
          refine WQ_cons rfl rfl rfl ((p_move rfl).q) (lt_dec rfl) ?_
          refine WQ_cons rfl rfl rfl ((p_move rfl).q) (lt_dec rfl) ?_
          refine WQ_cons rfl rfl rfl ((p_move rfl).q) (lt_dec rfl) ?_
          refine WQ_cons rfl rfl rfl ((p_ixlN 2 _ rfl rfl rfl rfl rfl rfl (by first | omega | exact Fin.isLt _ | (dsimp only; omega))).q) (lt_dec rfl) ?_
          first | refine WQ_cons rfl rfl rfl ((p_ix1 0 rfl rfl rfl rfl rfl rfl (by first | omega | exact Fin.isLt _ | (dsimp only; omega))).q) (lt_dec rfl) ?_ | refine WQ_cons rfl rfl rfl ((p_ix1s 0 rfl rfl rfl rfl rfl rfl (by first | omega | exact Fin.isLt _ | (dsimp only; omega))).q) (lt_dec rfl) ?_
          refine WQ_cons rfl rfl rfl (((q_loadRi (i := i) (j := 0) (m := 2) rfl rfl m0 (by first | rfl | (simp only [mulS_eq]; omega)) (by omega) (by omega) rfl rfl).eq (d' := .int .i64 (a0 : Int)) (veq_int (by rw [hzg]; exact ha0)))) (lt_dec rfl) ?_
          refine WQ_cons rfl rfl rfl ((q_ixR _ rfl rfl rfl (Rds.rd m2) rfl rfl (by first | (show _ < List.length _; omega) | (show _ < List.length _; first | omega | (dsimp only; omega))) rfl)) (lt_dec rfl) ?_
          refine WQ_cons rfl rfl rfl ((q_ixA a0 rfl rfl rfl rfl (Rds.rd m2) (by show 0 < List.length _; omega) rfl rfl (by omega))) (lt_dec rfl) ?_
          refine WQ_cons rfl rfl rfl ((q_loadA (m := 10) (i := k) (j := a0) rfl rfl (Rds.rd m2) rfl (by omega) (by omega) rfl rfl)) (lt_dec rfl) ?_
          first | refine WQ_cons rfl rfl rfl ((p_conv8 rfl rfl rfl (by decide)).q) (lt_dec rfl) ?_ | refine WQ_cons rfl rfl rfl ((p_conv rfl rfl rfl (by exact ⟨(by first | omega | (dsimp only; omega)), (by first | omega | (dsimp only; omega))⟩)).q) (lt_dec rfl) ?_
          refine WQ_cons rfl rfl rfl ((p_move rfl).q) (lt_dec rfl) ?_
          refine WQ_cons rfl rfl rfl ((p_move rfl).q) (lt_dec rfl) ?_
          refine WQ_cons rfl rfl rfl ((p_move rfl).q) (lt_dec rfl) ?_
          refine WQ_cons rfl rfl rfl ((p_move rfl).q) (lt_dec rfl) ?_
          refine WQ_cons rfl rfl rfl ((p_ixlN 2 _ rfl rfl rfl rfl rfl rfl (by first | omega | exact Fin.isLt _ | (dsimp only; omega))).q) (lt_dec rfl) ?_
          first | refine WQ_cons rfl rfl rfl ((p_ix1 1 rfl rfl rfl rfl rfl rfl (by first | omega | exact Fin.isLt _ | (dsimp only; omega))).q) (lt_dec rfl) ?_ | refine WQ_cons rfl rfl rfl ((p_ix1s 1 rfl rfl rfl rfl rfl rfl (by first | omega | exact Fin.isLt _ | (dsimp only; omega))).q) (lt_dec rfl) ?_
          refine WQ_cons rfl rfl rfl (((q_loadRi (i := i) (j := 1) (m := 2) rfl rfl m0 (by first | rfl | (simp only [mulS_eq]; omega)) (by omega) (by omega) rfl rfl).eq (d' := .int .i64 (b0 : Int)) (veq_int (by rw [hzg]; exact hb0)))) (lt_dec rfl) ?_
          refine WQ_cons rfl rfl rfl ((q_ixR _ rfl rfl rfl (Rds.rd m2) rfl rfl (by first | (show _ < List.length _; omega) | (show _ < List.length _; first | omega | (dsimp only; omega))) rfl)) (lt_dec rfl) ?_
          refine WQ_cons rfl rfl rfl ((q_ixA b0 rfl rfl rfl rfl (Rds.rd m2) (by show 0 < List.length _; omega) rfl rfl (by omega))) (lt_dec rfl) ?_
          refine WQ_cons rfl rfl rfl ((q_loadA (m := 10) (i := k) (j := b0) rfl rfl (Rds.rd m2) rfl (by omega) (by omega) rfl rfl)) (lt_dec rfl) ?_
          first | refine WQ_cons rfl rfl rfl ((p_conv8 rfl rfl rfl (by decide)).q) (lt_dec rfl) ?_ | refine WQ_cons rfl rfl rfl ((p_conv rfl rfl rfl (by exact ⟨(by first | omega | (dsimp only; omega)), (by first | omega | (dsimp only; omega))⟩)).q) (lt_dec rfl) ?_
          refine WQ_cons rfl rfl rfl (((p_build_arr rfl rfl rfl rfl (by simp only [mulS_eq]; (repeat' apply And.intro) <;> first | trivial | omega)).eq (veq_arr (g := pr (l.getD k fun _ => 0) a0 b0) fun j hj => (by rcases j with _ | _ | j <;> first | rfl | omega))).q) (lt_dec rfl) ?_
          refine WQ_nil ?_
          refine RA_one 24 rfl rfl (by kernel_rfl) (x_buildSlice rfl rfl rfl rfl rfl rfl rfl rfl (Nat.le_of_ble_eq_true rfl) (lt_dec rfl) fun b98_1 => ?_)
          refine RA_one 25 rfl rfl (by kernel_rfl) (x_append rfl rfl rfl rfl rfl rfl (fun _ _ => (HpRep.head).tail) (.inl ⟨m0, rfl⟩) rfl rfl rfl (by first | omega | (dsimp only; omega)) rfl (by first | omega | (dsimp only; omega)) (by first | omega | (dsimp only; omega)) (lt_dec rfl) fun b99_1 cb99_1 => ?_)
          refine RA_quiet (g := 0) [26] (by kernel_rfl) (by kernel_rfl) (by kernel_rfl) (by kernel_rfl) ?_
          refine WQ_cons rfl rfl rfl ((p_assign rfl).q) (lt_dec rfl) ?_
          refine WQ_nil ?_
          refine RA_done (by kernel_rfl) ?_
          refine W_region ?_
          refine o_mv rfl rfl ?_
          refine Ops_p (p_add rfl rfl (by refine ⟨?_, ?_⟩ <;> first | omega | (dsimp only; omega))) (lt_dec rfl) ?_
          refine o_as rfl rfl ?_
          refine Ops_nil ?_
          refine Exists.intro (k + 1, b99_1, cb99_1) (And.intro ?_ (And.intro ?_ ?_))
          ·show _ ≤ _; omega
          ·show _ < _; omega
          ·exact Wk.intro (.c rfl (.c rfl (.c rfl (.c rfl (.c rfl (.cons rfl (by rw [← qz_step (by omega)]; exact veq_sl (by simp)) (.c rfl (.c rfl (.c rfl (.c rfl (.cons rfl (by first | rfl | exact veq_int (by first | omega | (dsimp only; omega))) .nil))))))))))) (.drop (.keep rfl rfl (fun _ h => by rw [← qz_step (by omega)]; exact h) (.keep rfl rfl (fun _ h => h) (.keep rfl rfl (fun _ h => h) .nil))))
         ·try simp only [bs] at h6
          obtain rfl : k = l.length := (by omega)
          refine W_exit ?_
          refine W_region ?_
          refine o_mv rfl rfl ?_
          refine Ops_p (p_add rfl rfl (by refine ⟨?_, ?_⟩ <;> first | omega | (dsimp only; omega))) (lt_dec rfl) ?_
          refine o_as rfl rfl ?_
          refine Ops_nil ?_
          refine Exists.intro (i + 1, mrg c a0 b0 n.toNat, qz Q l a0 b0 l.length, b2, c2) (And.intro ?_ (And.intro ?_ ?_))
          ·first | exact ⟨by show i + 1 ≤ Q.length; omega, hI.same ha0 hb0 hab, hq⟩ | exact ⟨by show i + 1 ≤ List.length (qz Q l a0 b0 l.length); rw [qz_len (Nat.le_refl _)]; omega, by rw [qz_end]; exact hI.merge hp (by omega) ha0 hb0 han hbn hB hab mrg_end, by show BQ _ _ _ (List.length (qz Q l a0 b0 l.length)); rw [qz_len (Nat.le_refl _)]; exact hq.step (hI.lb han hbn hab)⟩
          ·first | (show lbN c n.toNat * (l.length + 1) + (Q.length - (i + 1)) < lbN c n.toNat * (l.length + 1) + (Q.length - i); omega) | (show lbN (mrg c a0 b0 n.toNat) n.toNat * (l.length + 1) + (List.length (qz Q l a0 b0 l.length) - (i + 1)) < _; rw [qz_len (Nat.le_refl _)]; exact BQ.less (hI.lb han hbn hab) (by omega))
          ·exact Wk.intro (.c rfl (.c rfl (.c rfl (.c rfl (.c rfl (.cons rfl (veq_sl rfl) (.cons rfl (by first | rfl | exact veq_int (by first | omega | (dsimp only; omega))) .nil))))))) (.keep rfl rfl (fun _ h => h) (.keep rfl rfl (imp_var (by rfl) rfl) (.keep rfl rfl (fun _ h => h) .nil)))
    ·try simp only [bs] at h2
     obtain rfl : i = Q.length := (by omega)
     refine W_exit ?_
     refine W_seq ?_
     refine W_region ?_
     refine Ops_x rfl (x_buildSlice rfl rfl rfl rfl rfl rfl rfl rfl (Nat.le_of_ble_eq_true rfl) (lt_dec rfl) fun b100_1 => ?_)
     refine o_as rfl rfl ?_
     refine Ops_nil ?_
     refine W_seq ?_
     refine W_seq ?_
     refine W_region ?_
     refine o_as rfl rfl ?_
     refine Ops_nil ?_
     refine W_block ?_
     refine W_loop (α := Nat × Nat × Nat) (fun zz4 => ⟨[(0, .raw a ha), (1, .int .i64 n), (2, .int .i64 (x0 : Int)), (3, .int .i64 (y0 : Int)), (9, .ptr b9_1 0 none), (11, .sl bb 0 (List.length Q) cbb), (12, .int .i64 (Q.length : Int)), (17, .sl (zz4.2.1) 0 (List.length (filt (lbP c x0) (zz4.1))) (zz4.2.2)), (18, .int .i64 ((zz4.1) : Int))], [.row (zz4.2.1) (zz4.2.2) 2 (.ints .i64 (filt (lbP c x0) (zz4.1))), .row bb cbb 109 (.arri .i64 2 Q), .var b9_1 (.arr .i64 10 c), rd a (.arrs 10 l)]⟩) (fun zz4 => (zz4.1) ≤ n.toNat) (fun zz4 => n.toNat - (zz4.1)) (0, b100_1, 0) ?_ ?_ ?_
     ·show _ ≤ _; omega
     ·exact Wk.intro (.c rfl (.c rfl (.c rfl (.c rfl (.c rfl (.c rfl (.c rfl (.cons rfl (by first | rfl | exact veq_int (by first | omega | (dsimp only; omega))) (.cons rfl (by first | rfl | exact veq_int (by first | omega | (dsimp only; omega))) .nil))))))))) (.keep rfl rfl (fun _ h => h) (.keep rfl rfl (fun _ h => h) (.keep rfl rfl (fun _ h => h) (.keep rfl rfl (fun _ h => h) .nil))))
     ·rintro ⟨v, b3, cb3⟩ hR
      try dsimp only at *
      have hfl := filt_len (P := (lbP c x0)) v
      refine W_seq ?_
      refine W_seq ?_
      refine W_region ?_
      refine o_mv rfl rfl ?_
      refine o_mv rfl rfl ?_
      refine Ops_p (p_lss rfl rfl) (lt_dec rfl) ?_
      refine Ops_nil ?_
      refine W_cond rfl (fun h7 => ?_) (fun h7 => ?_)
      ·try simp only [bs] at h7
       refine W_skip ?_
       refine W_seq ?_
       refine W_block ?_
       refine W_seq ?_
       refine W_draw (by kernel_rfl) ?_
       show RA _ _ 7 _ _ _
       refine RA_quietF [0, 1, 2, 3, 4, 5, 6] rfl rfl rfl (by kernel_rfl) (by kernel_rfl) ?_
       refine WQ_cons rfl rfl rfl ((p_move rfl).q) (lt_dec rfl) ?_
       first | refine WQ_cons rfl rfl rfl ((p_ix1 _ rfl rfl rfl rfl rfl rfl (by first | omega | exact Fin.isLt _ | (dsimp only; omega))).q) (lt_dec rfl) ?_ | refine WQ_cons rfl rfl rfl ((p_ix1s _ rfl rfl rfl rfl rfl rfl (by first | omega | exact Fin.isLt _ | (dsimp only; omega))).q) (lt_dec rfl) ?_
       refine WQ_cons rfl rfl rfl ((q_load rfl rfl m2 rfl (by first | exact True.intro | omega | exact Fin.isLt _ | trivial | (dsimp only; omega)))) (lt_dec rfl) ?_
       refine WQ_cons rfl rfl rfl ((p_move rfl).q) (lt_dec rfl) ?_
       first | refine WQ_cons rfl rfl rfl ((p_ix1 x0 rfl rfl rfl rfl rfl rfl (by first | omega | exact Fin.isLt _ | (dsimp only; omega))).q) (lt_dec rfl) ?_ | refine WQ_cons rfl rfl rfl ((p_ix1s x0 rfl rfl rfl rfl rfl rfl (by first | omega | exact Fin.isLt _ | (dsimp only; omega))).q) (lt_dec rfl) ?_
       refine WQ_cons rfl rfl rfl ((q_load rfl rfl m2 rfl (by first | exact True.intro | omega | exact Fin.isLt _ | trivial | (dsimp only; omega)))) (lt_dec rfl) ?_
       refine WQ_cons rfl rfl rfl ((p_eql rfl rfl).q) (lt_dec rfl) ?_
       refine WQ_nil ?_
       refine W_cond rfl (fun h8 => ?_) (fun h8 => ?_)
       ·try simp only [bs] at h8
        have hcv : lbP c x0 v = true := decide_eq_true h8; clear h8
        refine W_region ?_
        refine o_mv rfl rfl ?_
        refine o_mv rfl rfl ?_
        refine Ops_x rfl (x_buildSlice rfl rfl rfl rfl rfl rfl rfl rfl (Nat.le_of_ble_eq_true rfl) (lt_dec rfl) fun b115_1 => ?_)
        refine Ops_x rfl (x_append rfl rfl rfl rfl rfl rfl (fun _ _ => (HpRep.head).tail) (.inl ⟨m0, rfl⟩) rfl (by first | rfl | exact elems_len.symm | simp [Rw.len]) rfl (by first | omega | (dsimp only; omega)) rfl (by first | omega | (dsimp only; omega)) (by first | omega | (dsimp only; omega)) (lt_dec rfl) fun b116_1 cb116_1 => ?_)
        refine o_as rfl rfl ?_
        refine Ops_nil ?_
        refine W_region ?_
        refine o_mv rfl rfl ?_
        refine Ops_p (p_add rfl rfl (by refine ⟨?_, ?_⟩ <;> first | omega | (dsimp only; omega))) (lt_dec rfl) ?_
        refine o_as rfl rfl ?_
        refine Ops_nil ?_
        refine Exists.intro (v + 1, b116_1, cb116_1) (And.intro ?_ (And.intro ?_ ?_))
        ·show _ ≤ _; omega
        ·show _ < _; omega
        ·exact Wk.intro (.c rfl (.c rfl (.c rfl (.c rfl (.c rfl (.c rfl (.c rfl (.cons rfl (by first | exact veq_sl (by rw [← filt_t hcv]; simp) | exact veq_sl (by rw [← filt_f hcv])) (.cons rfl (by first | rfl | exact veq_int (by first | omega | (dsimp only; omega))) .nil))))))))) (.drop (.keep rfl rfl (fun _ h => by first | (rw [← filt_t hcv]; exact h) | (rw [← filt_f hcv]; exact h)) (.keep rfl rfl (fun _ h => h) (.keep rfl rfl (fun _ h => h) (.keep rfl rfl (fun _ h => h) .nil)))))
       ·try simp only [bs] at h8
        have hcv : lbP c x0 v = false := decide_eq_false h8; clear h8
        refine W_skip ?_
        refine W_region ?_
        refine o_mv rfl rfl ?_
        refine Ops_p (p_add rfl rfl (by refine ⟨?_, ?_⟩ <;> first | omega | (dsimp only; omega))) (lt_dec rfl) ?_
        refine o_as rfl rfl ?_
        refine Ops_nil ?_
        refine Exists.intro (v + 1, b3, cb3) (And.intro ?_ (And.intro ?_ ?_))
        ·show _ ≤ _; omega
        ·show _ < _; omega
        ·exact Wk.intro (.c rfl (.c rfl (.c rfl (.c rfl (.c rfl (.c rfl (.c rfl (.cons rfl (by first | exact veq_sl (by rw [← filt_t hcv]; simp) | exact veq_sl (by rw [← filt_f hcv])) (.cons rfl (by first | rfl | exact veq_int (by first | omega | (dsimp only; omega))) .nil))))))))) (.keep rfl rfl (fun _ h => by first | (rw [← filt_t hcv]; exact h) | (rw [← filt_f hcv]; exact h)) (.keep rfl rfl (fun _ h => h) (.keep rfl rfl (fun _ h => h) (.keep rfl rfl (fun _ h => h) .nil))))
      ·try simp only [bs] at h7
       obtain rfl : v = n.toNat := (by omega)
       refine W_exit ?_
       refine W_seq ?_
       refine W_region ?_
       refine o_mv rfl rfl ?_
       refine o_as rfl rfl ?_
       refine Ops_nil ?_
       refine W_ret ?_
       refine Exists.intro _ (And.intro (.cons (.tmp rfl) .nil) (Exists.intro ⟨.slice (some ⟨b3, 0, none⟩) (filt (lbP c x0) n.toNat).length cb3, rfl⟩ (And.intro ?_ (And.intro ?_ (And.intro (.cons HpDel.head rfl (own_of_row rfl (by rw [hI.list hp hx])) .nil) rfl)))))
       ·trivial
       ·rfl
end Go.Proofs.Ytjihhcjpbcmjaaa
end
