/- Texts of this claim put together, part 2: the frame, the plain law and what the functions do; the conditions stand in the statements. -/
import Derived.Test.YtjihhcjpbcmjaaaFG1
import Derived.Test.YtjihhcjpbcmjaaaFGTy
import Derived.Test.YtjihhcjpbcmjaaaFGM26
import Derived.Test.YtjihhcjpbcmjaaaFGGx12
import Derived.Test.YtjihhcjpbcmjaaaFGGx20
import Derived.Test.YtjihhcjpbcmjaaaFGGx38
import Derived.Test.YtjihhcjpbcmjaaaFGM49
import Derived.Test.YtjihhcjpbcmjaaaFGM7
import Derived.Test.YtjihhcjpbcmjaaaFGGx28
import Derived.Test.YtjihhcjpbcmjaaaFGM8
import Derived.Test.YtjihhcjpbcmjaaaFGM19
import Derived.Test.YtjihhcjpbcmjaaaFGGx14
import Derived.Test.YtjihhcjpbcmjaaaFGGx27
import Derived.Test.YtjihhcjpbcmjaaaFGGx31
import Derived.Test.YtjihhcjpbcmjaaaFGM39
import Derived.Test.YtjihhcjpbcmjaaaFGGx26
import Derived.Test.YtjihhcjpbcmjaaaFGGx35
section
namespace Go.Proofs.Ytjihhcjpbcmjaaa
open Go Gx
set_option linter.unusedVariables false
theorem en_spec_l01Same : Enters Try.prog 37 := enters_of Try.func37 (by kernel_rfl) (by kernel_rfl)
set_option maxRecDepth 100000 in
theorem w_spec_l01Same {n : Int} (hn : 1 ≤ n ∧ n ≤ 10) : CR Try.prog 37 (vals [.int .i64 n]) [] (.arr8 10 (idT n.toNat)) := by
 refine CR_intro (rs := [.cell 2 33]) tt tok Try.func37 rfl rfl rfl (by first | rfl | assumption) fun w => ?_
 refine W_seq ?_
 refine W_region ?_
 refine Ops_x rfl (x_alloc rfl (lt_dec rfl) fun b2_1 => ?_)
 refine Ops_nil ?_
 refine W_seq ?_
 refine W_region ?_
 refine Ops_p (p_build_arr rfl rfl rfl rfl (by first | exact True.intro | omega | exact Fin.isLt _ | trivial | (dsimp only; omega))) (lt_dec rfl) ?_
 refine Ops_x rfl (x_alloc rfl (lt_dec rfl) fun b3_1 => ?_)
 refine Ops_x rfl (x_store rfl rfl rfl rfl rfl HpRep.head rfl (by first | trivial | (first | (first | omega | (dsimp only; omega)) | exact Fin.isLt _)) ?_)
 refine Ops_nil ?_
 refine W_seq ?_
 refine W_seq ?_
 refine W_region ?_
 refine o_as rfl rfl ?_
 refine Ops_nil ?_
 refine W_block ?_
 refine W_loop (α := Nat) (fun i => ⟨[(0, .int .i64 n), (2, .ptr b2_1 0 none), (3, .ptr b3_1 0 none), (4, .int .i64 (i : Int))], [.var b3_1 (.arr8 10 (idT i)), .var b2_1 (.arr8 10 fun _ => 0)]⟩) (fun i => i ≤ n.toNat) (fun i => n.toNat - i) 0 ?_ ?_ ?_
 ·show _ ≤ _; omega
 ·exact Wk.intro (.c rfl (.c rfl (.c rfl (.cons rfl (by first | rfl | exact veq_int (by first | omega | (dsimp only; omega))) .nil)))) (.keep rfl rfl (imp_var (by exact ceq_arr8 fun j hj => rfl) rfl) (.keep rfl rfl (fun _ h => h) .nil))
 ·rintro i hR
  refine W_seq ?_
  refine W_seq ?_
  refine W_region ?_
  refine o_mv rfl rfl ?_
  refine o_mv rfl rfl ?_
  refine Ops_p (p_lss rfl rfl) (lt_dec rfl) ?_
  refine Ops_nil ?_
  refine W_cond rfl (fun h1 => ?_) (fun h1 => ?_)
  ·try simp only [bs] at h1
   refine W_skip ?_
   refine W_seq ?_
   refine W_block ?_
   refine W_region ?_
   refine o_mv rfl rfl ?_
   refine o_mv rfl rfl ?_
   refine Ops_p ((p_conv rfl rfl rfl (by exact ⟨by omega, by omega⟩)).eq (veq_byte (by omega))) (lt_dec rfl) ?_
   first | refine Ops_p (p_ix1 _ rfl rfl rfl rfl rfl rfl (by first | omega | exact Fin.isLt _ | (dsimp only; omega))) (lt_dec rfl) ?_ | refine Ops_p (p_ix1s _ rfl rfl rfl rfl rfl rfl (by first | omega | exact Fin.isLt _ | (dsimp only; omega))) (lt_dec rfl) ?_
   refine Ops_x rfl (x_store rfl rfl rfl rfl rfl HpRep.head rfl (by first | trivial | (first | (first | omega | (dsimp only; omega)) | exact Fin.isLt _)) ?_)
   refine Ops_nil ?_
   refine W_region ?_
   refine o_mv rfl rfl ?_
   refine Ops_p (p_add rfl rfl (by refine ⟨?_, ?_⟩ <;> first | omega | (dsimp only; omega))) (lt_dec rfl) ?_
   refine o_as rfl rfl ?_
   refine Ops_nil ?_
   refine Exists.intro (i + 1) (And.intro ?_ (And.intro ?_ ?_))
   ·show _ ≤ _; omega
   ·show _ < _; omega
   ·exact Wk.intro (.c rfl (.c rfl (.c rfl (.cons rfl (by first | rfl | exact veq_int (by first | omega | (dsimp only; omega))) .nil)))) (.keep rfl rfl (imp_var (by exact ceq_arr8 fun j hj => idT_step j) rfl) (.keep rfl rfl (fun _ h => h) .nil))
  ·try simp only [bs] at h1
   obtain rfl : i = n.toNat := (by omega)
   refine W_exit ?_
   refine W_seq ?_
   refine W_region ?_
   refine Ops_q (q_load rfl rfl m0 rfl (by first | exact True.intro | omega | exact Fin.isLt _ | trivial | (dsimp only; omega))) (lt_dec rfl) ?_
   refine Ops_x rfl (x_store rfl rfl rfl rfl rfl ((HpRep.head).tail) rfl (by first | trivial | (first | (first | omega | (dsimp only; omega)) | exact Fin.isLt _)) ?_)
   refine Ops_nil ?_
   refine W_ret ?_
   refine Exists.intro _ (And.intro (.cons (.cell rfl rfl m1 rfl trivial) .nil) ?_)
   rfl
end Go.Proofs.Ytjihhcjpbcmjaaa
end
section
namespace Go.Proofs.Ytjihhcjpbcmjaaa
open Go Gx
set_option linter.unusedVariables false
theorem en_spec_l01DrawPlaces : Enters Try.prog 43 := enters_of Try.func43 (by kernel_rfl) (by kernel_rfl)
set_option maxRecDepth 100000 in
set_option maxHeartbeats 1000000 in
theorem w_spec_l01DrawPlaces {cv : Value} {hcv : cv.oneCell' = true} {code : List (Fin 256)} {sb a h : Nat} {n : Int} (hc : code.length ≤ 4096) (ha : a ≤ code.length) (hh : h < 18446744073709551616) (hn : 1 ≤ n ∧ n ≤ 10) : CT (X := (Nat × Nat) × (Nat → Fin 256)) Try.prog 43 (vals [.ptr sb 0 none, .int .i64 n]) [.var sb (.agg [.raw cv hcv, .int .i64 ((a : Nat) : Int), .int .u64 ((h : Nat) : Int)])] [rd cv (.u8s code)] (fun x => (Prod.fst (Prod.fst x) ≤ code.length ∧ Prod.snd (Prod.fst x) < 18446744073709551616) ∧ IsPerm (Prod.snd x) n) (fun x => .arr8 10 (Prod.snd x)) (fun x => [.var sb (.agg [.raw cv hcv, .int .i64 (((Prod.fst (Prod.fst x)) : Nat) : Int), .int .u64 (((Prod.snd (Prod.fst x)) : Nat) : Int)])]) := by
 refine CT_intro (rs := [.cell 4 33]) tt tok Try.func43 rfl rfl rfl (by first | rfl | assumption) fun w => ?_
 show W _ _ _ ⟨tmOf 0 [.ptr sb 0 none, .int .i64 n], [.var sb (.agg [.raw cv hcv, .int .i64 ((a : Nat) : Int), .int .u64 ((h : Nat) : Int)]), rd cv (.u8s code)]⟩
 refine W_seq ?_
 refine W_region ?_
 refine Ops_x rfl (x_alloc rfl (lt_dec rfl) fun b4_1 => ?_)
 refine Ops_nil ?_
 refine W_seq ?_
 refine W_region ?_
 refine o_mv rfl rfl ?_
 refine Ops_q (q_call en_spec_l01Same rfl (w_spec_l01Same hn) (View.none _)) (lt_dec rfl) ?_
 refine Ops_x rfl (x_alloc rfl (lt_dec rfl) fun b5_1 => ?_)
 refine Ops_x rfl (x_store rfl rfl rfl rfl rfl HpRep.head rfl (by first | trivial | (first | (first | omega | (dsimp only; omega)) | exact Fin.isLt _)) ?_)
 refine Ops_nil ?_
 refine W_seq ?_
 refine W_seq ?_
 refine W_region ?_
 refine o_mv rfl rfl ?_
 refine Ops_x rfl (x_callT en_spec_l01Next rfl (w_spec_l01Next hc ha hh) (HpDels.cons ((HpDel.head).tail).tail HpDels.nil) (Vw.rd m2) (fun _ => (HpDels.cons ((HpDel.head).tail).tail HpDels.nil)) (lt_dec rfl) fun x12_1 hx12 => ?_)
 refine Ops_p (p_eql rfl rfl) (lt_dec rfl) ?_
 refine Ops_nil ?_
 refine W_cond rfl (fun h1 => ?_) (fun h1 => ?_)
 ·try simp only [bs] at h1
  refine W_seq ?_
  refine W_region ?_
  refine Ops_q (q_load rfl rfl m0 rfl (by first | exact True.intro | omega | exact Fin.isLt _ | trivial | (dsimp only; omega))) (lt_dec rfl) ?_
  refine Ops_x rfl (x_store rfl rfl rfl rfl rfl ((HpRep.head).tail) rfl (by first | trivial | (first | (first | omega | (dsimp only; omega)) | exact Fin.isLt _)) ?_)
  refine Ops_nil ?_
  refine W_ret ?_
  refine Exists.intro _ (And.intro (.cons (.cell rfl rfl m1 rfl trivial) .nil) (Exists.intro (Prod.fst x12_1, idT n.toNat) (And.intro ?_ (And.intro ?_ (And.intro (.cons ((HpDel.head).tail).tail rfl (imp_var rfl rfl) .nil) rfl)))))
  ·exact ⟨hx12.1, idT_perm hn⟩
  ·rfl
 ·try simp only [bs] at h1
  refine W_skip ?_
  refine W_seq ?_
  refine W_seq ?_
  refine W_region ?_
  refine o_mv rfl rfl ?_
  refine Ops_p (p_sub rfl rfl (by refine ⟨?_, ?_⟩ <;> first | omega | (dsimp only; omega))) (lt_dec rfl) ?_
  refine o_as rfl rfl ?_
  refine Ops_nil ?_
  refine W_block ?_
  refine W_loop (α := Nat × Nat × Nat × (Nat → Fin 256)) (fun zz0 => ⟨[(0, .ptr sb 0 none), (1, .int .i64 n), (4, .ptr b4_1 0 none), (5, .ptr b5_1 0 none), (6, .int .i64 ((zz0.1) : Int))], [.var b5_1 (.arr8 10 (zz0.2.2.2)), .var b4_1 (.arr8 10 fun _ => 0), .var sb (.agg [.raw cv hcv, .int .i64 (((zz0.2.1) : Nat) : Int), .int .u64 (((zz0.2.2.1) : Nat) : Int)]), rd cv (.u8s code)]⟩) (fun zz0 => ((zz0.1) : Int) < n ∧ ((zz0.2.1) ≤ code.length ∧ (zz0.2.2.1) < 18446744073709551616) ∧ IsPerm (zz0.2.2.2) n) (fun zz0 => (zz0.1)) (n.toNat - 1, Prod.fst (Prod.fst x12_1), Prod.snd (Prod.fst x12_1), idT n.toNat) ?_ ?_ ?_
  ·exact ⟨by show ((n.toNat - 1 : Nat) : Int) < n; omega, hx12.1, idT_perm hn⟩
  ·exact Wk.intro (.c rfl (.c rfl (.c rfl (.c rfl (.cons rfl (by first | rfl | exact veq_int (by first | omega | (dsimp only; omega))) .nil))))) (.keep rfl rfl (fun _ h => h) (.keep rfl rfl (fun _ h => h) (.keep rfl rfl (fun _ h => h) (.keep rfl rfl (fun _ h => h) .nil))))
  ·rintro ⟨i, na, nh, w⟩ ⟨hi, ⟨hna, hnh⟩, hw⟩
   try dsimp only at *
   refine W_seq ?_
   refine W_seq ?_
   refine W_region ?_
   refine o_mv rfl rfl ?_
   refine Ops_p (p_gtr rfl rfl) (lt_dec rfl) ?_
   refine Ops_nil ?_
   refine W_cond rfl (fun h2 => ?_) (fun h2 => ?_)
   ·try simp only [bs] at h2
    refine W_skip ?_
    refine W_seq ?_
    refine W_block ?_
    refine W_seq ?_
    refine W_region ?_
    refine o_mv rfl rfl ?_
    refine o_mv rfl rfl ?_
    refine Ops_p (p_add rfl rfl (by refine ⟨?_, ?_⟩ <;> first | omega | (dsimp only; omega))) (lt_dec rfl) ?_
    refine Ops_x rfl (x_callT en_spec_l01Next rfl (w_spec_l01Next hc hna hnh) (HpDels.cons ((HpDel.head).tail).tail HpDels.nil) (Vw.rd m2) (fun _ => (HpDels.cons ((HpDel.head).tail).tail HpDels.nil)) (lt_dec rfl) fun x24_1 hx24 => ?_)
    refine o_as rfl rfl ?_
    refine Ops_nil ?_
    refine W_seq ?_
    have hr24 := hx24.2.2 (by omega)
    refine W_region ?_
    refine o_mv rfl rfl ?_
    first | refine Ops_p (p_ix1 i rfl rfl rfl rfl rfl rfl (by first | omega | exact Fin.isLt _ | (dsimp only; omega))) (lt_dec rfl) ?_ | refine Ops_p (p_ix1s i rfl rfl rfl rfl rfl rfl (by first | omega | exact Fin.isLt _ | (dsimp only; omega))) (lt_dec rfl) ?_
    refine Ops_q (q_load rfl rfl m0 rfl (by first | exact True.intro | omega | exact Fin.isLt _ | trivial | (dsimp only; omega))) (lt_dec rfl) ?_
    refine o_as rfl rfl ?_
    refine Ops_nil ?_
    refine W_seq ?_
    refine W_region ?_
    refine o_mv rfl rfl ?_
    refine o_mv rfl rfl ?_
    first | refine Ops_p (p_ix1 (Prod.snd x24_1) rfl rfl rfl rfl rfl rfl (by first | omega | exact Fin.isLt _ | (dsimp only; omega))) (lt_dec rfl) ?_ | refine Ops_p (p_ix1s (Prod.snd x24_1) rfl rfl rfl rfl rfl rfl (by first | omega | exact Fin.isLt _ | (dsimp only; omega))) (lt_dec rfl) ?_
    refine Ops_q (q_load rfl rfl m0 rfl (by first | exact True.intro | omega | exact Fin.isLt _ | trivial | (dsimp only; omega))) (lt_dec rfl) ?_
    first | refine Ops_p (p_ix1 i rfl rfl rfl rfl rfl rfl (by first | omega | exact Fin.isLt _ | (dsimp only; omega))) (lt_dec rfl) ?_ | refine Ops_p (p_ix1s i rfl rfl rfl rfl rfl rfl (by first | omega | exact Fin.isLt _ | (dsimp only; omega))) (lt_dec rfl) ?_
    refine Ops_x rfl (x_store rfl rfl rfl rfl rfl HpRep.head rfl (by first | trivial | (first | (first | omega | (dsimp only; omega)) | exact Fin.isLt _)) ?_)
    refine Ops_nil ?_
    refine W_region ?_
    refine o_mv rfl rfl ?_
    refine o_mv rfl rfl ?_
    first | refine Ops_p (p_ix1 (Prod.snd x24_1) rfl rfl rfl rfl rfl rfl (by first | omega | exact Fin.isLt _ | (dsimp only; omega))) (lt_dec rfl) ?_ | refine Ops_p (p_ix1s (Prod.snd x24_1) rfl rfl rfl rfl rfl rfl (by first | omega | exact Fin.isLt _ | (dsimp only; omega))) (lt_dec rfl) ?_
    refine Ops_x rfl (x_store rfl rfl rfl rfl rfl HpRep.head rfl (by first | trivial | (first | (first | omega | (dsimp only; omega)) | exact Fin.isLt _)) ?_)
    refine Ops_nil ?_
    refine W_region ?_
    refine o_mv rfl rfl ?_
    refine Ops_p (p_sub rfl rfl (by refine ⟨?_, ?_⟩ <;> first | omega | (dsimp only; omega))) (lt_dec rfl) ?_
    refine o_as rfl rfl ?_
    refine Ops_nil ?_
    refine Exists.intro (i - 1, Prod.fst (Prod.fst x24_1), Prod.snd (Prod.fst x24_1), (fun j => if j = Prod.snd x24_1 then w i else if j = i then w (Prod.snd x24_1) else w j)) (And.intro ?_ (And.intro ?_ ?_))
    ·exact ⟨by show ((i - 1 : Nat) : Int) < n; omega, hx24.1, swap_perm hw hi (by omega)⟩
    ·show _ - 1 < _; omega
    ·exact Wk.intro (.c rfl (.c rfl (.c rfl (.c rfl (.cons rfl (by first | rfl | exact veq_int (by first | omega | (dsimp only; omega))) .nil))))) (.keep rfl rfl (imp_var rfl rfl) (.keep rfl rfl (fun _ h => h) (.keep rfl rfl (fun _ h => h) (.keep rfl rfl (fun _ h => h) .nil))))
   ·try simp only [bs] at h2
    refine W_exit ?_
    refine W_seq ?_
    refine W_region ?_
    refine Ops_q (q_load rfl rfl m0 rfl (by first | exact True.intro | omega | exact Fin.isLt _ | trivial | (dsimp only; omega))) (lt_dec rfl) ?_
    refine Ops_x rfl (x_store rfl rfl rfl rfl rfl ((HpRep.head).tail) rfl (by first | trivial | (first | (first | omega | (dsimp only; omega)) | exact Fin.isLt _)) ?_)
    refine Ops_nil ?_
    refine W_ret ?_
    refine Exists.intro _ (And.intro (.cons (.cell rfl rfl m1 rfl trivial) .nil) (Exists.intro ((na, nh), w) (And.intro ?_ (And.intro ?_ (And.intro (.cons ((HpDel.head).tail).tail rfl (fun _ h => h) .nil) rfl)))))
    ·exact ⟨⟨hna, hnh⟩, hw⟩
    ·rfl
end Go.Proofs.Ytjihhcjpbcmjaaa
end
section
namespace Go.Proofs.Ytjihhcjpbcmjaaa
open Go Gx
set_option linter.unusedVariables false
theorem en_spec_l01Pick : Enters Try.prog 61 := enters_of Try.func61 (by kernel_rfl) (by kernel_rfl)
set_option maxRecDepth 100000 in
theorem w_spec_l01Pick {cv : Value} {hcv : cv.oneCell' = true} {code : List (Fin 256)} {sb a h : Nat} {ls : Value} {hls : ls.oneCell' = true} {L : List Int} (hc : code.length ≤ 4096) (ha : a ≤ code.length) (hh : h < 18446744073709551616) (h0 : 0 < L.length) (hL : L.length ≤ 100) : CT (X := (Nat × Nat) × Int) Try.prog 61 (vals [.ptr sb 0 none, .raw ls hls]) [.var sb (.agg [.raw cv hcv, .int .i64 ((a : Nat) : Int), .int .u64 ((h : Nat) : Int)])] [rd cv (.u8s code), rd ls (.ints .i64 L)] (fun x => (Prod.fst (Prod.fst x) ≤ code.length ∧ Prod.snd (Prod.fst x) < 18446744073709551616) ∧ Prod.snd x ∈ L) (fun x => .int .i64 (Prod.snd x)) (fun x => [.var sb (.agg [.raw cv hcv, .int .i64 (((Prod.fst (Prod.fst x)) : Nat) : Int), .int .u64 (((Prod.snd (Prod.fst x)) : Nat) : Int)])]) := by
 refine CT_intro (rs := [.tmp 4]) tt tok Try.func61 rfl rfl rfl (by first | rfl | assumption) fun w => ?_
 show W _ _ _ ⟨tmOf 0 [.ptr sb 0 none, .raw ls hls], [.var sb (.agg [.raw cv hcv, .int .i64 ((a : Nat) : Int), .int .u64 ((h : Nat) : Int)]), rd cv (.u8s code), rd ls (.ints .i64 L)]⟩
 refine W_seq ?_
 refine W_region ?_
 refine o_as rfl rfl ?_
 refine Ops_nil ?_
 refine W_seq ?_
 refine W_region ?_
 refine o_mv rfl rfl ?_
 refine o_mv rfl rfl ?_
 refine o_mv rfl rfl ?_
 refine Ops_q ((q_lenR rfl rfl rfl (Rds.rd m2)).eq (d' := .int .i64 ((L.length : Nat) : Int)) rfl) (lt_dec rfl) ?_
 refine Ops_x rfl (x_callT en_spec_l01Next rfl (w_spec_l01Next hc ha hh) (HpDels.cons HpDel.head HpDels.nil) (Vw.rd m0) (fun _ => (HpDels.cons HpDel.head HpDels.nil)) (lt_dec rfl) fun x9_1 hx9 => ?_)
 refine Ops_q (q_ixR (Prod.snd x9_1) rfl rfl rfl (Rds.rd m2) rfl rfl (by have := hx9.2.2 (by omega); show _ < List.length _; omega) rfl) (lt_dec rfl) ?_
 refine Ops_q (q_loadR rfl rfl (Rds.rd m2) rfl rfl (by have := hx9.2.2 (by omega); show _ < List.length _; omega) rfl rfl rfl) (lt_dec rfl) ?_
 refine o_as rfl rfl ?_
 refine Ops_nil ?_
 refine W_ret ?_
 refine Exists.intro _ (And.intro (.cons (.tmp rfl) .nil) (Exists.intro (Prod.fst x9_1, List.getD L (Prod.snd x9_1) 0) (And.intro ?_ (And.intro ?_ (And.intro (.cons HpDel.head rfl (imp_var rfl rfl) .nil) rfl)))))
 ·exact ⟨hx9.1, (by have := hx9.2.2 (by omega); exact getD_in (by omega))⟩
 ·rfl
end Go.Proofs.Ytjihhcjpbcmjaaa
end
section
namespace Go.Proofs.Ytjihhcjpbcmjaaa
open Go Gx
set_option linter.unusedVariables false
theorem en_spec_l04Draw : Enters Try.prog 41 := enters_of Try.func41 (by kernel_rfl) (by kernel_rfl)
set_option maxRecDepth 100000 in
set_option maxHeartbeats 4000000 in
theorem w_spec_l04Draw {cv : Value} {hcv : cv.oneCell' = true} {code : List (Fin 256)} {sb a h : Nat} (hc : code.length ≤ 4096) (ha : a ≤ code.length) (hh : h < 18446744073709551616) : CT (X := (Nat × Nat) × (V1 × (List (Nat → Fin 256) × Int))) Try.prog 41 (vals [.ptr sb 0 none]) [.var sb (.agg [.raw cv hcv, .int .i64 ((a : Nat) : Int), .int .u64 ((h : Nat) : Int)])] [rd cv (.u8s code)] (fun x => (Prod.fst (Prod.fst x) ≤ code.length ∧ Prod.snd (Prod.fst x) < 18446744073709551616) ∧ (List.length (Prod.fst (Prod.snd (Prod.snd x))) ≤ 41 ∧ (0 ≤ Prod.snd (Prod.snd (Prod.snd x)) ∧ Prod.snd (Prod.snd (Prod.snd x)) ≤ 11))) (fun x => .tup [.raw (Subtype.val (Prod.fst (Prod.snd x))) (Subtype.property (Prod.fst (Prod.snd x))), .int .i64 (Prod.snd (Prod.snd (Prod.snd x)))]) (fun x => [.var sb (.agg [.raw cv hcv, .int .i64 (((Prod.fst (Prod.fst x)) : Nat) : Int), .int .u64 (((Prod.snd (Prod.fst x)) : Nat) : Int)]), own (Subtype.val (Prod.fst (Prod.snd x))) 33 (.arrs 10 (Prod.fst (Prod.snd (Prod.snd x))))]) := by
 refine CT_intro (rs := [.tmp 2, .tmp 3]) tt tok Try.func41 rfl rfl rfl (by first | rfl | assumption) fun w => ?_
 show W _ _ _ ⟨tmOf 0 [.ptr sb 0 none], [.var sb (.agg [.raw cv hcv, .int .i64 ((a : Nat) : Int), .int .u64 ((h : Nat) : Int)]), rd cv (.u8s code)]⟩
 refine W_seq ?_
 refine W_region ?_
 refine o_as rfl rfl ?_
 refine o_as rfl rfl ?_
 refine Ops_nil ?_
 refine W_seq ?_
 refine W_region ?_
 refine o_mv rfl rfl ?_
 refine Ops_x rfl (x_buildSlice rfl rfl rfl rfl rfl rfl rfl rfl (Nat.le_of_ble_eq_true rfl) (lt_dec rfl) fun b11_1 => ?_)
 refine Ops_x rfl (x_callT en_spec_l01Pick rfl (w_spec_l01Pick (hls := rfl) (L := [1, 2, 3, 4, 5, 6, 8, 9, 10]) hc ha hh (by decide) (by decide)) (HpDels.cons (HpDel.head).tail HpDels.nil) (Vw.cons (Vw.rd m1) (Vw.rdW m0 rfl)) (fun _ => (HpDels.cons (HpDel.head).tail HpDels.nil)) (lt_dec rfl) fun x12_1 hx12 => ?_)
 refine Ops_x rfl (x_buildSlice rfl rfl rfl rfl rfl rfl rfl rfl (Nat.le_of_ble_eq_true rfl) (lt_dec rfl) fun b13_1 => ?_)
 refine o_as rfl rfl ?_
 refine o_as rfl rfl ?_
 refine Ops_nil ?_
 refine W_seq ?_
 refine W_seq ?_
 have hn9 := pk9a hx12.2
 refine W_region ?_
 refine o_mv rfl rfl ?_
 refine Ops_x rfl (x_callT en_spec_l01Next rfl (w_spec_l01Next hc (And.left (And.left hx12)) (And.right (And.left hx12))) (HpDels.cons ((HpDel.head).tail).tail HpDels.nil) (Vw.rd m2) (fun _ => (HpDels.cons ((HpDel.head).tail).tail HpDels.nil)) (lt_dec rfl) fun x15_1 hx15 => ?_)
 refine o_as rfl rfl ?_
 refine Ops_nil ?_
 refine W_block ?_
 refine W_loop (α := Nat × Nat × Nat × List (Nat → Fin 256) × Nat × Nat) (fun zz0 => ⟨[(0, .ptr sb 0 none), (3, .int .i64 0), (4, .int .i64 (Prod.snd x12_1)), (5, .sl (zz0.2.1) 0 (List.length (zz0.2.2.2.1)) (zz0.2.2.1)), (6, .int .i64 ((zz0.1) : Int))], [.row (zz0.2.1) (zz0.2.2.1) 33 (.arrs 10 (zz0.2.2.2.1)), .row b11_1 9 2 (.ints .i64 [1, 2, 3, 4, 5, 6, 8, 9, 10]), .var sb (.agg [.raw cv hcv, .int .i64 (((zz0.2.2.2.2.1) : Nat) : Int), .int .u64 (((zz0.2.2.2.2.2) : Nat) : Int)]), rd cv (.u8s code)]⟩) (fun zz0 => (zz0.2.2.2.1).length + (zz0.1) ≤ 3 ∧ ((zz0.2.2.2.2.1) ≤ code.length ∧ (zz0.2.2.2.2.2) < 18446744073709551616)) (fun zz0 => (zz0.1)) (Prod.snd x15_1, b13_1, 0, [], Prod.fst (Prod.fst x15_1), Prod.snd (Prod.fst x15_1)) ?_ ?_ ?_
 ·exact ⟨by have := hx15.2.2 (by decide); show 0 + Prod.snd x15_1 ≤ 3; omega, hx15.1⟩
 ·exact Wk.intro (.c rfl (.c rfl (.c rfl (.cons rfl (by first | rfl | exact veq_int (by first | omega | (dsimp only; omega))) (.cons rfl (by first | rfl | exact veq_int (by first | omega | (dsimp only; omega))) .nil))))) (.keep rfl rfl (fun _ h => h) (.keep rfl rfl (fun _ h => h) (.keep rfl rfl (fun _ h => h) (.keep rfl rfl (fun _ h => h) .nil))))
 ·rintro ⟨k, bb, cbb, L, na, nh⟩ ⟨hLk, ⟨hna, hnh⟩⟩
  try dsimp only at *
  refine W_seq ?_
  refine W_seq ?_
  refine W_region ?_
  refine o_mv rfl rfl ?_
  refine Ops_p (p_gtr rfl rfl) (lt_dec rfl) ?_
  refine Ops_nil ?_
  refine W_cond rfl (fun h1 => ?_) (fun h1 => ?_)
  ·try simp only [bs] at h1
   refine W_skip ?_
   refine W_seq ?_
   refine W_block ?_
   refine W_seq ?_
   refine W_region ?_
   refine o_mv rfl rfl ?_
   refine o_mv rfl rfl ?_
   refine Ops_x rfl (x_callT en_spec_l01DrawPlaces rfl (w_spec_l01DrawPlaces hc hna hnh hn9) (HpDels.cons ((HpDel.head).tail).tail HpDels.nil) (Vw.rd m2) (fun _ => (HpDels.cons ((HpDel.head).tail).tail HpDels.nil)) (lt_dec rfl) fun x22_1 hx22 => ?_)
   refine Ops_x rfl (x_alloc rfl (lt_dec rfl) fun b7_1 => ?_)
   refine Ops_x rfl (x_store rfl rfl rfl rfl rfl HpRep.head rfl (by first | trivial | (first | (first | omega | (dsimp only; omega)) | exact Fin.isLt _)) ?_)
   refine Ops_nil ?_
   refine W_seq ?_
   refine W_seq ?_
   refine W_region ?_
   refine o_mv rfl rfl ?_
   refine Ops_x rfl (x_callT en_spec_l01Next rfl (w_spec_l01Next hc (And.left (And.left hx22)) (And.right (And.left hx22))) (HpDels.cons (((HpDel.head).tail).tail).tail HpDels.nil) (Vw.rd m3) (fun _ => (HpDels.cons (((HpDel.head).tail).tail).tail HpDels.nil)) (lt_dec rfl) fun x24_1 hx24 => ?_)
   refine Ops_p (p_eql rfl rfl) (lt_dec rfl) ?_
   refine Ops_nil ?_
   refine W_cond rfl (fun h2 => ?_) (fun h2 => ?_)
   ·try simp only [bs] at h2
    have hr30 := True.intro
    refine W_seq ?_
    refine W_region ?_
    refine o_mv rfl rfl ?_
    refine Ops_q (q_call en_spec_l01Same rfl (w_spec_l01Same hn9) (View.none _)) (lt_dec rfl) ?_
    refine Ops_x rfl (x_store rfl rfl rfl rfl rfl HpRep.head rfl (by first | trivial | (first | (first | omega | (dsimp only; omega)) | exact Fin.isLt _)) ?_)
    refine Ops_nil ?_
    refine W_seq ?_
    refine W_region ?_
    refine o_mv rfl rfl ?_
    refine o_mv rfl rfl ?_
    refine Ops_x rfl (x_callT en_spec_l01Next rfl (w_spec_l01Next hc (And.left (And.left hx24)) (And.right (And.left hx24))) (HpDels.cons (((HpDel.head).tail).tail).tail HpDels.nil) (Vw.rd m3) (fun _ => (HpDels.cons (((HpDel.head).tail).tail).tail HpDels.nil)) (lt_dec rfl) fun x30_1 hx30 => ?_)
    refine Ops_p (p_add rfl rfl (by refine ⟨?_, ?_⟩ <;> first | omega | (dsimp only; omega))) (lt_dec rfl) ?_
    refine o_as rfl rfl ?_
    refine Ops_nil ?_
    refine W_seq ?_
    refine W_region ?_
    refine o_as rfl rfl ?_
    refine Ops_nil ?_
    refine W_block ?_
    refine W_loop (α := Nat × (Nat → Fin 256)) (fun zz1 => ⟨[(0, .ptr sb 0 none), (3, .int .i64 0), (4, .int .i64 (Prod.snd x12_1)), (5, .sl bb 0 (List.length L) cbb), (6, .int .i64 (k : Int)), (7, .ptr b7_1 0 none), (8, .int .i64 (1 + ((Prod.snd x30_1 : Nat) : Int))), (9, .int .i64 ((zz1.1) : Int))], [.var b7_1 (.arr8 10 (zz1.2)), .row bb cbb 33 (.arrs 10 L), .row b11_1 9 2 (.ints .i64 [1, 2, 3, 4, 5, 6, 8, 9, 10]), .var sb (.agg [.raw cv hcv, .int .i64 (((Prod.fst (Prod.fst x30_1)) : Nat) : Int), .int .u64 (((Prod.snd (Prod.fst x30_1)) : Nat) : Int)]), rd cv (.u8s code)]⟩) (fun zz1 => ((zz1.1) : Int) ≤ 1 + ((Prod.snd x30_1 : Nat) : Int)) (fun zz1 => 1 + Prod.snd x30_1 - (zz1.1)) (0, idT (Int.toNat (Prod.snd x12_1))) ?_ ?_ ?_
    ·show _ ≤ _; omega
    ·exact Wk.intro (.c rfl (.c rfl (.c rfl (.c rfl (.c rfl (.c rfl (.c rfl (.cons rfl (by first | rfl | exact veq_int (by first | omega | (dsimp only; omega))) .nil)))))))) (.keep rfl rfl (fun _ h => h) (.keep rfl rfl (fun _ h => h) (.keep rfl rfl (fun _ h => h) (.keep rfl rfl (fun _ h => h) (.keep rfl rfl (fun _ h => h) .nil)))))
    ·rintro ⟨i, w⟩ hR
     try dsimp only at *
     have hr30 := hx30.2.2 (by omega)
     refine W_seq ?_
     refine W_seq ?_
     refine W_region ?_
     refine o_mv rfl rfl ?_
     refine o_mv rfl rfl ?_
     refine Ops_p (p_lss rfl rfl) (lt_dec rfl) ?_
     refine Ops_nil ?_
     refine W_cond rfl (fun h3 => ?_) (fun h3 => ?_)
     ·try simp only [bs] at h3
      refine W_skip ?_
      refine W_seq ?_
      refine W_block ?_
      refine W_region ?_
      refine o_mv rfl rfl ?_
      refine o_mv rfl rfl ?_
      refine Ops_p (p_add rfl rfl (by refine ⟨?_, ?_⟩ <;> first | omega | (dsimp only; omega))) (lt_dec rfl) ?_
      refine o_mv rfl rfl ?_
      refine Ops_p ((p_rem rfl rfl (by omega) (by omega)).eq (d' := .int .i64 (((i : Int) + 1) % (1 + ((Prod.snd x30_1 : Nat) : Int)))) rfl) (lt_dec rfl) ?_
      refine Ops_p (p_conv rfl rfl rfl (mod_u8 (by omega) (by omega))) (lt_dec rfl) ?_
      first | refine Ops_p (p_ix1 i rfl rfl rfl rfl rfl rfl (by first | omega | exact Fin.isLt _ | (dsimp only; omega))) (lt_dec rfl) ?_ | refine Ops_p (p_ix1s i rfl rfl rfl rfl rfl rfl (by first | omega | exact Fin.isLt _ | (dsimp only; omega))) (lt_dec rfl) ?_
      refine Ops_x rfl (x_store rfl rfl rfl rfl rfl HpRep.head rfl (by first | trivial | (exact ⟨by omega, (mod_in (by omega) (by omega)).1, Int.lt_of_lt_of_le (mod_in (by omega) (by omega)).2 (by omega)⟩)) ?_)
      refine Ops_nil ?_
      refine W_region ?_
      refine o_mv rfl rfl ?_
      refine Ops_p (p_add rfl rfl (by refine ⟨?_, ?_⟩ <;> first | omega | (dsimp only; omega))) (lt_dec rfl) ?_
      refine o_as rfl rfl ?_
      refine Ops_nil ?_
      refine Exists.intro (i + 1, fun j => if j = i then Fin.ofNat 256 (Int.toNat (((i : Int) + 1) % (1 + ((Prod.snd x30_1 : Nat) : Int)))) else w j) (And.intro ?_ (And.intro ?_ ?_))
      ·show _ ≤ _; omega
      ·show _ < _; omega
      ·exact Wk.intro (.c rfl (.c rfl (.c rfl (.c rfl (.c rfl (.c rfl (.c rfl (.cons rfl (by first | rfl | exact veq_int (by first | omega | (dsimp only; omega))) .nil)))))))) (.keep rfl rfl (imp_var rfl rfl) (.keep rfl rfl (fun _ h => h) (.keep rfl rfl (fun _ h => h) (.keep rfl rfl (fun _ h => h) (.keep rfl rfl (fun _ h => h) .nil)))))
     ·try simp only [bs] at h3
      refine W_exit ?_
      refine W_region ?_
      refine o_mv rfl rfl ?_
      refine Ops_q (q_load rfl rfl m0 rfl (by first | exact True.intro | omega | exact Fin.isLt _ | trivial | (dsimp only; omega))) (lt_dec rfl) ?_
      refine Ops_x rfl (x_buildSlice rfl rfl rfl rfl rfl rfl rfl rfl (Nat.le_of_ble_eq_true rfl) (lt_dec rfl) fun b46_1 => ?_)
      refine Ops_x rfl (x_append rfl rfl rfl rfl rfl rfl (fun _ _ => ((HpRep.head).tail).tail) (.inl ⟨m0, rfl⟩) rfl rfl rfl (by first | omega | (dsimp only; omega)) rfl (by first | omega | (dsimp only; omega)) (by first | omega | (dsimp only; omega)) (lt_dec rfl) fun b47_1 cb47_1 => ?_)
      refine o_as rfl rfl ?_
      refine Ops_nil ?_
      refine W_region ?_
      refine o_mv rfl rfl ?_
      refine Ops_p (p_sub rfl rfl (by refine ⟨?_, ?_⟩ <;> first | omega | (dsimp only; omega))) (lt_dec rfl) ?_
      refine o_as rfl rfl ?_
      refine Ops_nil ?_
      refine Exists.intro (k - 1, b47_1, cb47_1, (L ++ [w]), (Prod.fst (Prod.fst x30_1)), (Prod.snd (Prod.fst x30_1))) (And.intro ?_ (And.intro ?_ ?_))
      ·first | exact ⟨by show List.length _ + _ ≤ 3; simp only [List.length_append, List.length_cons, List.length_nil]; omega, hx30.1⟩ | exact ⟨by show List.length _ + _ ≤ 3; simp only [List.length_append, List.length_cons, List.length_nil]; omega, hx24.1⟩
      ·show _ - 1 < _; omega
      ·exact Wk.intro (.c rfl (.c rfl (.c rfl (.cons rfl (veq_sl (by simp)) (.cons rfl (by first | rfl | exact veq_int (by first | omega | (dsimp only; omega))) .nil))))) (.drop (.drop (.keep rfl rfl (fun _ h => h) (.keep rfl rfl (fun _ h => h) (.keep rfl rfl (fun _ h => h) (.keep rfl rfl (fun _ h => h) .nil))))))
   ·try simp only [bs] at h2
    refine W_skip ?_
    refine W_region ?_
    refine o_mv rfl rfl ?_
    refine Ops_q (q_load rfl rfl m0 rfl (by first | exact True.intro | omega | exact Fin.isLt _ | trivial | (dsimp only; omega))) (lt_dec rfl) ?_
    refine Ops_x rfl (x_buildSlice rfl rfl rfl rfl rfl rfl rfl rfl (Nat.le_of_ble_eq_true rfl) (lt_dec rfl) fun b46_2 => ?_)
    refine Ops_x rfl (x_append rfl rfl rfl rfl rfl rfl (fun _ _ => ((HpRep.head).tail).tail) (.inl ⟨m0, rfl⟩) rfl rfl rfl (by first | omega | (dsimp only; omega)) rfl (by first | omega | (dsimp only; omega)) (by first | omega | (dsimp only; omega)) (lt_dec rfl) fun b47_2 cb47_2 => ?_)
    refine o_as rfl rfl ?_
    refine Ops_nil ?_
    refine W_region ?_
    refine o_mv rfl rfl ?_
    refine Ops_p (p_sub rfl rfl (by refine ⟨?_, ?_⟩ <;> first | omega | (dsimp only; omega))) (lt_dec rfl) ?_
    refine o_as rfl rfl ?_
    refine Ops_nil ?_
    refine Exists.intro (k - 1, b47_2, cb47_2, (L ++ [(Prod.snd x22_1)]), (Prod.fst (Prod.fst x24_1)), (Prod.snd (Prod.fst x24_1))) (And.intro ?_ (And.intro ?_ ?_))
    ·first | exact ⟨by show List.length _ + _ ≤ 3; simp only [List.length_append, List.length_cons, List.length_nil]; omega, hx30.1⟩ | exact ⟨by show List.length _ + _ ≤ 3; simp only [List.length_append, List.length_cons, List.length_nil]; omega, hx24.1⟩
    ·show _ - 1 < _; omega
    ·exact Wk.intro (.c rfl (.c rfl (.c rfl (.cons rfl (veq_sl (by simp)) (.cons rfl (by first | rfl | exact veq_int (by first | omega | (dsimp only; omega))) .nil))))) (.drop (.drop (.keep rfl rfl (fun _ h => h) (.keep rfl rfl (fun _ h => h) (.keep rfl rfl (fun _ h => h) (.keep rfl rfl (fun _ h => h) .nil))))))
  ·try simp only [bs] at h1
   refine W_exit ?_
   refine W_seq ?_
   refine W_seq ?_
   refine W_region ?_
   refine o_mv rfl rfl ?_
   refine Ops_x rfl (x_callT en_spec_l01Next rfl (w_spec_l01Next hc hna hnh) (HpDels.cons ((HpDel.head).tail).tail HpDels.nil) (Vw.rd m2) (fun _ => (HpDels.cons ((HpDel.head).tail).tail HpDels.nil)) (lt_dec rfl) fun x49_1 hx49 => ?_)
   refine Ops_nil ?_
   refine W_block ?_
   refine W_seq ?_
   refine W_region ?_
   refine Ops_p (p_eql rfl rfl) (lt_dec rfl) ?_
   refine o_as rfl rfl ?_
   refine Ops_nil ?_
   refine W_cond rfl (fun h4 => ?_) (fun h4 => ?_)
   ·try simp only [bs] at h4
    refine W_block ?_
    refine W_loop (α := Nat × Nat × List (Nat → Fin 256)) (fun zz2 => ⟨[(0, .ptr sb 0 none), (3, .int .i64 0), (4, .int .i64 (Prod.snd x12_1)), (5, .sl (zz2.1) 0 (List.length (zz2.2.2)) (zz2.2.1)), (6, .int .i64 (k : Int)), (49, .int .i64 ((Prod.snd x49_1 : Nat) : Int))], [.row (zz2.1) (zz2.2.1) 33 (.arrs 10 (zz2.2.2)), .row b11_1 9 2 (.ints .i64 [1, 2, 3, 4, 5, 6, 8, 9, 10]), .var sb (.agg [.raw cv hcv, .int .i64 (((Prod.fst (Prod.fst x49_1)) : Nat) : Int), .int .u64 (((Prod.snd (Prod.fst x49_1)) : Nat) : Int)]), rd cv (.u8s code)]⟩) (fun zz2 => (zz2.2.2).length ≤ 41) (fun zz2 => 41 - (zz2.2.2).length) (bb, cbb, L) ?_ ?_ ?_
    ·show L.length ≤ 41; omega
    ·exact Wk.intro (.c rfl (.c rfl (.c rfl (.cons rfl (by first | rfl | exact veq_int (by first | omega | (dsimp only; omega))) (.c rfl (.c rfl .nil)))))) (.keep rfl rfl (fun _ h => h) (.keep rfl rfl (fun _ h => h) (.keep rfl rfl (fun _ h => h) (.keep rfl rfl (fun _ h => h) .nil))))
    ·rintro ⟨b5, c5, L5⟩ hR
     try dsimp only at *
     refine W_seq ?_
     refine W_seq ?_
     refine W_region ?_
     refine o_mv rfl rfl ?_
     refine Ops_p (p_len rfl rfl rfl) (lt_dec rfl) ?_
     refine Ops_p (p_leq rfl rfl) (lt_dec rfl) ?_
     refine Ops_nil ?_
     refine W_cond rfl (fun h5 => ?_) (fun h5 => ?_)
     ·try simp only [bs] at h5
      refine W_skip ?_
      refine W_block ?_
      refine W_region ?_
      refine o_mv rfl rfl ?_
      refine o_mv rfl rfl ?_
      refine Ops_q (q_call en_spec_l01Same rfl (w_spec_l01Same hn9) (View.none _)) (lt_dec rfl) ?_
      refine Ops_x rfl (x_buildSlice rfl rfl rfl rfl rfl rfl rfl rfl (Nat.le_of_ble_eq_true rfl) (lt_dec rfl) fun b58_1 => ?_)
      refine Ops_x rfl (x_append rfl rfl rfl rfl rfl rfl (fun _ _ => (HpRep.head).tail) (.inl ⟨m0, rfl⟩) rfl rfl rfl (by first | omega | (dsimp only; omega)) rfl (by first | omega | (dsimp only; omega)) (by first | omega | (dsimp only; omega)) (lt_dec rfl) fun b59_1 cb59_1 => ?_)
      refine o_as rfl rfl ?_
      refine Ops_nil ?_
      refine Exists.intro (b59_1, cb59_1, (L5 ++ [(idT (Int.toNat (Prod.snd x12_1)))])) (And.intro ?_ (And.intro ?_ ?_))
      ·show List.length _ ≤ 41; simp only [List.length_append, List.length_cons, List.length_nil]; omega
      ·show 41 - List.length _ < _; simp only [List.length_append, List.length_cons, List.length_nil]; omega
      ·exact Wk.intro (.c rfl (.c rfl (.c rfl (.cons rfl (veq_sl (by simp)) (.c rfl (.c rfl .nil)))))) (.drop (.keep rfl rfl (fun _ h => h) (.keep rfl rfl (fun _ h => h) (.keep rfl rfl (fun _ h => h) (.keep rfl rfl (fun _ h => h) .nil)))))
     ·try simp only [bs] at h5
      refine W_exit ?_
      refine W_seq ?_
      refine W_region ?_
      refine o_mv rfl rfl ?_
      refine o_mv rfl rfl ?_
      refine o_as rfl rfl ?_
      refine o_as rfl rfl ?_
      refine Ops_nil ?_
      refine W_ret ?_
      refine Exists.intro _ (And.intro (.cons (.tmp rfl) (.cons (.tmp rfl) .nil)) (Exists.intro (((Prod.fst (Prod.fst x49_1)), (Prod.snd (Prod.fst x49_1))), ((slv b5 (List.length L5) c5), (L5, (Prod.snd x12_1)))) (And.intro ?_ (And.intro ?_ (And.intro (.cons ((HpDel.head).tail).tail rfl (fun _ h => h) (.cons HpDel.head rfl (own_of_row (by first | rfl | simp) rfl) .nil)) rfl)))))
      ·exact ⟨(And.left hx49), by show List.length L5 ≤ 41; (try simp only [List.length_append, List.length_cons, List.length_nil]); omega, by first | exact pk9 hx12.2 | exact pk2 hx70.2⟩
      ·first | rfl | exact veq_tup2 (veq_sl (by simp)) rfl
   ·try simp only [bs] at h4
    refine W_seq ?_
    refine W_region ?_
    refine Ops_p (p_eql rfl rfl) (lt_dec rfl) ?_
    refine o_as rfl rfl ?_
    refine Ops_nil ?_
    refine W_cond rfl (fun h6 => ?_) (fun h6 => ?_)
    ·try simp only [bs] at h6
     refine W_region ?_
     refine o_mv rfl rfl ?_
     refine Ops_p (p_build_arr rfl rfl rfl rfl (by first | exact True.intro | omega | exact Fin.isLt _ | trivial | (dsimp only; omega))) (lt_dec rfl) ?_
     refine Ops_x rfl (x_buildSlice rfl rfl rfl rfl rfl rfl rfl rfl (Nat.le_of_ble_eq_true rfl) (lt_dec rfl) fun b64_1 => ?_)
     refine Ops_x rfl (x_append rfl rfl rfl rfl rfl rfl (fun _ _ => (HpRep.head).tail) (.inl ⟨m0, rfl⟩) rfl rfl rfl (by first | omega | (dsimp only; omega)) rfl (by first | omega | (dsimp only; omega)) (by first | omega | (dsimp only; omega)) (lt_dec rfl) fun b65_1 cb65_1 => ?_)
     refine o_as rfl rfl ?_
     refine Ops_nil ?_
     refine W_seq ?_
     refine W_region ?_
     refine o_mv rfl rfl ?_
     refine o_mv rfl rfl ?_
     refine o_as rfl rfl ?_
     refine o_as rfl rfl ?_
     refine Ops_nil ?_
     refine W_ret ?_
     refine Exists.intro _ (And.intro (.cons (.tmp rfl) (.cons (.tmp rfl) .nil)) (Exists.intro (((Prod.fst (Prod.fst x49_1)), (Prod.snd (Prod.fst x49_1))), ((slv b65_1 (List.length (L ++ [(fun j => if j = 1 then (1 : Fin 256) else if j = 0 then 1 else 0)])) cb65_1), ((L ++ [(fun j => if j = 1 then (1 : Fin 256) else if j = 0 then 1 else 0)]), (Prod.snd x12_1)))) (And.intro ?_ (And.intro ?_ (And.intro (.cons (((HpDel.head).tail).tail).tail rfl (fun _ h => h) (.cons (HpDel.head).tail rfl (own_of_row (by first | rfl | simp) rfl) .nil)) rfl)))))
     ·exact ⟨(And.left hx49), by show List.length (L ++ [(fun j => if j = 1 then (1 : Fin 256) else if j = 0 then 1 else 0)]) ≤ 41; (try simp only [List.length_append, List.length_cons, List.length_nil]); omega, by first | exact pk9 hx12.2 | exact pk2 hx70.2⟩
     ·first | rfl | exact veq_tup2 (veq_sl (by simp)) rfl
    ·try simp only [bs] at h6
     refine W_seq ?_
     refine W_region ?_
     refine Ops_p (p_eql rfl rfl) (lt_dec rfl) ?_
     refine o_as rfl rfl ?_
     refine Ops_nil ?_
     refine W_cond rfl (fun h7 => ?_) (fun h7 => ?_)
     ·try simp only [bs] at h7
      refine W_region ?_
      refine o_mv rfl rfl ?_
      refine Ops_x rfl (x_buildSlice rfl rfl rfl rfl rfl rfl rfl rfl (Nat.le_of_ble_eq_true rfl) (lt_dec rfl) fun b69_1 => ?_)
      refine Ops_x rfl (x_callT en_spec_l01Pick rfl (w_spec_l01Pick (hls := rfl) (L := [0, 11]) hc (And.left (And.left hx49)) (And.right (And.left hx49)) (by decide) (by decide)) (HpDels.cons (((HpDel.head).tail).tail).tail HpDels.nil) (Vw.cons (Vw.rd m3) (Vw.rdW m0 rfl)) (fun _ => (HpDels.cons (((HpDel.head).tail).tail).tail HpDels.nil)) (lt_dec rfl) fun x70_1 hx70 => ?_)
      refine o_as rfl rfl ?_
      refine Ops_nil ?_
      refine W_seq ?_
      refine W_region ?_
      refine o_mv rfl rfl ?_
      refine o_mv rfl rfl ?_
      refine o_as rfl rfl ?_
      refine o_as rfl rfl ?_
      refine Ops_nil ?_
      refine W_ret ?_
      refine Exists.intro _ (And.intro (.cons (.tmp rfl) (.cons (.tmp rfl) .nil)) (Exists.intro (((Prod.fst (Prod.fst x70_1)), (Prod.snd (Prod.fst x70_1))), ((slv bb (List.length L) cbb), (L, (Prod.snd x70_1)))) (And.intro ?_ (And.intro ?_ (And.intro (.cons (((HpDel.head).tail).tail).tail rfl (fun _ h => h) (.cons (HpDel.head).tail rfl (own_of_row (by first | rfl | simp) rfl) .nil)) rfl)))))
      ·exact ⟨(And.left hx70), by show List.length L ≤ 41; (try simp only [List.length_append, List.length_cons, List.length_nil]); omega, by first | exact pk9 hx12.2 | exact pk2 hx70.2⟩
      ·first | rfl | exact veq_tup2 (veq_sl (by simp)) rfl
     ·try simp only [bs] at h7
      refine W_skip ?_
      refine W_seq ?_
      refine W_region ?_
      refine o_mv rfl rfl ?_
      refine o_mv rfl rfl ?_
      refine o_as rfl rfl ?_
      refine o_as rfl rfl ?_
      refine Ops_nil ?_
      refine W_ret ?_
      refine Exists.intro _ (And.intro (.cons (.tmp rfl) (.cons (.tmp rfl) .nil)) (Exists.intro (((Prod.fst (Prod.fst x49_1)), (Prod.snd (Prod.fst x49_1))), ((slv bb (List.length L) cbb), (L, (Prod.snd x12_1)))) (And.intro ?_ (And.intro ?_ (And.intro (.cons ((HpDel.head).tail).tail rfl (fun _ h => h) (.cons HpDel.head rfl (own_of_row (by first | rfl | simp) rfl) .nil)) rfl)))))
      ·exact ⟨(And.left hx49), by show List.length L ≤ 41; (try simp only [List.length_append, List.length_cons, List.length_nil]); omega, by first | exact pk9 hx12.2 | exact pk2 hx70.2⟩
      ·first | rfl | exact veq_tup2 (veq_sl (by simp)) rfl
end Go.Proofs.Ytjihhcjpbcmjaaa
end
section
namespace Go.Proofs.Ytjihhcjpbcmjaaa
open Go Gx
set_option linter.unusedVariables false
theorem en_spec_DrawGroupOrder : Enters Try.prog 15 := enters_of Try.func15 (by kernel_rfl) (by kernel_rfl)
set_option maxRecDepth 100000 in
theorem w_spec_DrawGroupOrder {cv : Value} {hcv : cv.oneCell' = true} {code : List (Fin 256)} (hc : code.length ≤ 4096) : CT (X := V1 × (List (Nat → Fin 256) × Int)) Try.prog 15 (vals [.raw cv hcv]) [] [rd cv (.u8s code)] (fun x => List.length (Prod.fst (Prod.snd x)) ≤ 41 ∧ (0 ≤ Prod.snd (Prod.snd x) ∧ Prod.snd (Prod.snd x) ≤ 11)) (fun x => .tup [.raw (Subtype.val (Prod.fst x)) (Subtype.property (Prod.fst x)), .int .i64 (Prod.snd (Prod.snd x))]) (fun x => [own (Subtype.val (Prod.fst x)) 33 (.arrs 10 (Prod.fst (Prod.snd x)))]) := by
 refine CT_intro (rs := [.tmp 2, .tmp 3]) tt tok Try.func15 rfl rfl rfl (by first | rfl | assumption) fun w => ?_
 show W _ _ _ ⟨tmOf 0 [.raw cv hcv], [rd cv (.u8s code)]⟩
 refine W_seq ?_
 refine W_region ?_
 refine o_as rfl rfl ?_
 refine o_as rfl rfl ?_
 refine Ops_nil ?_
 refine W_seq ?_
 refine W_region ?_
 refine o_mv rfl rfl ?_
 refine Ops_x rfl (x_callT en_spec_l01From rfl (w_spec_l01From hc) HpDels.nil (Vw.rd m0) (fun _ => (HpDels.cons HpDel.head HpDels.nil)) (lt_dec rfl) fun x8_1 hx8 => ?_)
 refine Ops_x rfl (x_callT en_spec_l04Draw rfl (w_spec_l04Draw (sb := Prod.fst x8_1) (a := 0) (h := Prod.snd x8_1) hc (Nat.zero_le _) hx8) (HpDels.cons HpDel.head HpDels.nil) (Vw.rd m0) (fun _ => (HpDels.cons (HpDel.head).tail (HpDels.cons HpDel.head HpDels.nil))) (lt_dec rfl) fun x9_1 hx9 => ?_)
 refine o_mv rfl rfl ?_
 refine Ops_p (p_extract rfl rfl) (lt_dec rfl) ?_
 refine Ops_p (p_extract rfl rfl) (lt_dec rfl) ?_
 refine o_as rfl rfl ?_
 refine o_as rfl rfl ?_
 refine Ops_nil ?_
 refine W_seq ?_
 refine W_region ?_
 refine o_mv rfl rfl ?_
 refine o_mv rfl rfl ?_
 refine o_as rfl rfl ?_
 refine o_as rfl rfl ?_
 refine Ops_nil ?_
 refine W_ret ?_
 refine Exists.intro _ (And.intro (.cons (.tmp rfl) (.cons (.tmp rfl) .nil)) (Exists.intro (Prod.snd x9_1) (And.intro ?_ (And.intro ?_ (And.intro (.cons HpDel.head rfl (fun _ h => h) .nil) rfl)))))
 ·exact hx9.2
 ·rfl
end Go.Proofs.Ytjihhcjpbcmjaaa
end
section
namespace Go.Proofs.Ytjihhcjpbcmjaaa
open Go Gx
set_option linter.unusedVariables false
theorem en_spec_l01Then : Enters Try.prog 45 := enters_of Try.func45 (by kernel_rfl) (by kernel_rfl)
set_option maxRecDepth 100000 in
theorem w_spec_l01Then {p q : Nat → Fin 256} {n : Int} (hP : IsPerm p n) : CR Try.prog 45 (vals [.arr8 10 p, .arr8 10 q, .int .i64 n]) [] (.arr8 10 (thenT p q n.toNat)) := by
 refine CR_intro (rs := [.cell 6 33]) tt tok Try.func45 rfl rfl rfl (by first | rfl | assumption) fun w => ?_
 refine W_seq ?_
 refine W_region ?_
 refine Ops_x rfl (x_box rfl rfl (lt_dec rfl) fun b3_1 => ?_)
 refine Ops_x rfl (x_box rfl rfl (lt_dec rfl) fun b4_1 => ?_)
 refine Ops_x rfl (x_alloc rfl (lt_dec rfl) fun b6_1 => ?_)
 refine Ops_nil ?_
 refine W_seq ?_
 refine W_region ?_
 refine Ops_p (p_build_arr rfl rfl rfl rfl (by first | exact True.intro | omega | exact Fin.isLt _ | trivial | (dsimp only; omega))) (lt_dec rfl) ?_
 refine Ops_x rfl (x_alloc rfl (lt_dec rfl) fun b7_1 => ?_)
 refine Ops_x rfl (x_store rfl rfl rfl rfl rfl HpRep.head rfl (by first | trivial | (first | (first | omega | (dsimp only; omega)) | exact Fin.isLt _)) ?_)
 refine Ops_nil ?_
 refine W_seq ?_
 refine W_seq ?_
 refine W_region ?_
 refine o_as rfl rfl ?_
 refine Ops_nil ?_
 refine W_block ?_
 refine W_loop (α := Nat) (fun i => ⟨[(0, .arr8 10 p), (1, .arr8 10 q), (2, .int .i64 n), (3, .ptr b3_1 0 none), (4, .ptr b4_1 0 none), (6, .ptr b6_1 0 none), (7, .ptr b7_1 0 none), (8, .int .i64 (i : Int))], [.var b7_1 (.arr8 10 (fun j => if j < i then q (p j).val else 0)), .var b6_1 (.arr8 10 fun _ => 0), .var b4_1 (.arr8 10 q), .var b3_1 (.arr8 10 p)]⟩) (fun i => i ≤ n.toNat) (fun i => n.toNat - i) 0 ?_ ?_ ?_
 ·show _ ≤ _; omega
 ·exact Wk.intro (.c rfl (.c rfl (.c rfl (.c rfl (.c rfl (.c rfl (.c rfl (.cons rfl (by first | rfl | exact veq_int (by first | omega | (dsimp only; omega))) .nil)))))))) (.keep rfl rfl (imp_var (by first | rfl | (refine ceq_arr8 fun j hj => ?_; (try dsimp only); first | (simp; done) | ((repeat' split) <;> first | rfl | (exfalso; omega) | (congr 1; omega) | (simp_all; done) | omega))) rfl) (.keep rfl rfl (fun _ h => h) (.keep rfl rfl (fun _ h => h) (.keep rfl rfl (fun _ h => h) .nil))))
 ·rintro i hR
  refine W_seq ?_
  refine W_seq ?_
  refine W_region ?_
  refine o_mv rfl rfl ?_
  refine o_mv rfl rfl ?_
  refine Ops_p (p_lss rfl rfl) (lt_dec rfl) ?_
  refine Ops_nil ?_
  refine W_cond rfl (fun h1 => ?_) (fun h1 => ?_)
  ·try simp only [bs] at h1
   have hpi := perm_lt hP h1
   refine W_skip ?_
   refine W_seq ?_
   refine W_block ?_
   refine W_region ?_
   refine o_mv rfl rfl ?_
   refine o_mv rfl rfl ?_
   first | refine Ops_p (p_ix1 _ rfl rfl rfl rfl rfl rfl (by first | omega | exact Fin.isLt _ | (dsimp only; omega))) (lt_dec rfl) ?_ | refine Ops_p (p_ix1s _ rfl rfl rfl rfl rfl rfl (by first | omega | exact Fin.isLt _ | (dsimp only; omega))) (lt_dec rfl) ?_
   refine Ops_q (q_load rfl rfl m3 rfl (by first | exact True.intro | omega | exact Fin.isLt _ | trivial | (dsimp only; omega))) (lt_dec rfl) ?_
   first | refine Ops_p (p_ix1 _ rfl rfl rfl rfl rfl rfl (by first | omega | exact Fin.isLt _ | (dsimp only; omega))) (lt_dec rfl) ?_ | refine Ops_p (p_ix1s _ rfl rfl rfl rfl rfl rfl (by first | omega | exact Fin.isLt _ | (dsimp only; omega))) (lt_dec rfl) ?_
   refine Ops_q (q_load rfl rfl m2 rfl (by first | exact True.intro | omega | exact Fin.isLt _ | trivial | (dsimp only; omega))) (lt_dec rfl) ?_
   first | refine Ops_p (p_ix1 _ rfl rfl rfl rfl rfl rfl (by first | omega | exact Fin.isLt _ | (dsimp only; omega))) (lt_dec rfl) ?_ | refine Ops_p (p_ix1s _ rfl rfl rfl rfl rfl rfl (by first | omega | exact Fin.isLt _ | (dsimp only; omega))) (lt_dec rfl) ?_
   refine Ops_x rfl (x_store rfl rfl rfl rfl rfl HpRep.head rfl (by first | trivial | (first | (first | omega | (dsimp only; omega)) | exact Fin.isLt _)) ?_)
   refine Ops_nil ?_
   refine W_region ?_
   refine o_mv rfl rfl ?_
   refine Ops_p (p_add rfl rfl (by refine ⟨?_, ?_⟩ <;> first | omega | (dsimp only; omega))) (lt_dec rfl) ?_
   refine o_as rfl rfl ?_
   refine Ops_nil ?_
   refine Exists.intro (i + 1) (And.intro ?_ (And.intro ?_ ?_))
   ·show _ ≤ _; omega
   ·show _ < _; omega
   ·exact Wk.intro (.c rfl (.c rfl (.c rfl (.c rfl (.c rfl (.c rfl (.c rfl (.cons rfl (by first | rfl | exact veq_int (by first | omega | (dsimp only; omega))) .nil)))))))) (.keep rfl rfl (imp_var (by first | rfl | (refine ceq_arr8 fun j hj => ?_; (try dsimp only); first | (simp; done) | ((repeat' split) <;> first | rfl | (exfalso; omega) | (congr 1; omega) | (simp_all; done) | omega))) rfl) (.keep rfl rfl (fun _ h => h) (.keep rfl rfl (fun _ h => h) (.keep rfl rfl (fun _ h => h) .nil))))
  ·try simp only [bs] at h1
   refine W_exit ?_
   refine W_seq ?_
   refine W_region ?_
   refine Ops_q (q_load rfl rfl m0 rfl (by first | exact True.intro | omega | exact Fin.isLt _ | trivial | (dsimp only; omega))) (lt_dec rfl) ?_
   refine Ops_x rfl (x_store rfl rfl rfl rfl rfl ((HpRep.head).tail) rfl (by first | trivial | (first | (first | omega | (dsimp only; omega)) | exact Fin.isLt _)) ?_)
   refine Ops_nil ?_
   refine W_ret ?_
   refine Exists.intro _ (And.intro (.cons (.cell rfl rfl m1 rfl trivial) .nil) ?_)
   first | rfl | (refine veq_bool ?_; simp_all; done) | (refine veq_bool ?_; simp; omega) | (refine veq_bool ?_; rw [eq_comm, decide_eq_false_iff_not]; omega) | (refine veq_bool ?_; rw [eq_comm, decide_eq_true_iff]; omega) | (refine veq_int ?_; omega) | (refine veq_arr8 fun j hj => ?_; (try dsimp only); first | (simp; done) | (simp; omega) | ((repeat' split) <;> first | rfl | (exfalso; omega) | (congr 1; omega) | (simp_all; done))) | (obtain rfl : i = n.toNat := (by omega); rfl)
end Go.Proofs.Ytjihhcjpbcmjaaa
end
section
namespace Go.Proofs.Ytjihhcjpbcmjaaa
open Go Gx
set_option linter.unusedVariables false
theorem en_spec_l01In : Enters Try.prog 33 := enters_of Try.func33 (by kernel_rfl) (by kernel_rfl)
set_option maxRecDepth 100000 in
theorem w_spec_l01In {n lo hi : Int}  : CR Try.prog 33 (vals [.int .i64 n, .int .i64 lo, .int .i64 hi]) [] (.bool (decide (lo ≤ n ∧ n ≤ hi))) := by
 refine CR_intro (rs := [.tmp 6]) tt tok Try.func33 rfl rfl rfl (by first | rfl | assumption) fun w => ?_
 refine W_seq ?_
 refine W_region ?_
 refine o_as rfl rfl ?_
 refine Ops_nil ?_
 refine W_seq ?_
 refine W_region ?_
 refine o_mv rfl rfl ?_
 refine o_mv rfl rfl ?_
 refine Ops_p (p_geq rfl rfl) (lt_dec rfl) ?_
 refine o_mv rfl rfl ?_
 refine Ops_guard rfl rfl (lt_dec rfl) (fun hg1 => ?_) (fun hg1 => ?_)
 ·try simp only [bs] at hg1
  refine o_mv rfl rfl ?_
  refine Ops_guard_t rfl rfl (lt_dec rfl) ?_
  refine o_mv rfl rfl ?_
  refine Ops_guard_t rfl rfl (lt_dec rfl) ?_
  refine Ops_p (p_leq rfl rfl) (lt_dec rfl) ?_
  refine Ops_p (p_pick_t rfl rfl) (lt_dec rfl) ?_
  refine o_as rfl rfl ?_
  refine Ops_nil ?_
  refine W_ret ?_
  refine Exists.intro _ (And.intro (.cons (.tmp rfl) .nil) ?_)
  first | rfl | (refine veq_bool ?_; simp_all; done) | (refine veq_bool ?_; simp; omega) | (refine veq_bool ?_; rw [eq_comm, decide_eq_false_iff_not]; omega) | (refine veq_bool ?_; rw [eq_comm, decide_eq_true_iff]; omega)
 ·try simp only [bs] at hg1
  refine Ops_guard_f rfl rfl rfl (lt_dec rfl) ?_
  refine Ops_guard_f rfl rfl rfl (lt_dec rfl) ?_
  refine Ops_p (p_pick_f rfl rfl) (lt_dec rfl) ?_
  refine o_as rfl rfl ?_
  refine Ops_nil ?_
  refine W_ret ?_
  refine Exists.intro _ (And.intro (.cons (.tmp rfl) .nil) ?_)
  first | rfl | (refine veq_bool ?_; simp_all; done) | (refine veq_bool ?_; simp; omega) | (refine veq_bool ?_; rw [eq_comm, decide_eq_false_iff_not]; omega) | (refine veq_bool ?_; rw [eq_comm, decide_eq_true_iff]; omega)
end Go.Proofs.Ytjihhcjpbcmjaaa
end
section
namespace Go.Proofs.Ytjihhcjpbcmjaaa
open Go Gx
set_option linter.unusedVariables false
theorem en_spec_l01Perm : Enters Try.prog 34 := enters_of Try.func34 (by kernel_rfl) (by kernel_rfl)
set_option maxRecDepth 100000 in
theorem w_spec_l01Perm {p : Nat → Fin 256} {n : Int}  : CR Try.prog 34 (vals [.arr8 10 p, .int .i64 n]) [] (.bool (isPerm p n)) := by
 refine CR_intro (rs := [.tmp 4]) tt tok Try.func34 rfl rfl rfl (by first | rfl | assumption) fun w => ?_
 refine W_seq ?_
 refine W_region ?_
 refine Ops_x rfl (x_box rfl rfl (lt_dec rfl) fun b2_1 => ?_)
 refine o_as rfl rfl ?_
 refine Ops_nil ?_
 refine W_seq ?_
 refine W_seq ?_
 refine W_region ?_
 refine o_mv rfl rfl ?_
 refine Ops_q (q_call en_spec_l01In rfl (w_spec_l01In) (View.none _)) (lt_dec rfl) ?_
 refine Ops_p (p_not rfl) (lt_dec rfl) ?_
 refine Ops_nil ?_
 refine W_cond rfl (fun h1 => ?_) (fun h1 => ?_)
 ·try simp only [bs] at h1
  refine W_seq ?_
  refine W_region ?_
  refine o_as rfl rfl ?_
  refine Ops_nil ?_
  refine W_ret ?_
  refine Exists.intro _ (And.intro (.cons (.tmp rfl) .nil) ?_)
  first | rfl | (refine veq_bool ?_; simp_all; done) | (refine veq_bool ?_; simp; omega) | (refine veq_bool ?_; rw [eq_comm, decide_eq_false_iff_not]; omega) | (refine veq_bool ?_; rw [eq_comm, decide_eq_true_iff]; omega) | (exact veq_bool (isPerm_f (not_perm_n (by first | omega | (simp_all; omega))))) | (exact veq_bool (isPerm_f (not_perm_zero (k := i) (by omega) (by omega) (by assumption)))) | (exact veq_bool (isPerm_f (not_perm_big (k := i) (by omega) (by omega) (by omega)))) | (exact veq_bool (isPerm_f (not_perm_met (k := i) (by omega) (by omega) (by assumption)))) | (obtain rfl : i = 10 := (by omega); exact veq_bool (isPerm_t ⟨h1.1, h1.2, hA, hB⟩))
 ·try simp only [bs] at h1
  refine W_skip ?_
  refine W_seq ?_
  refine W_region ?_
  refine Ops_p (p_build_arr rfl rfl rfl rfl (by first | exact True.intro | omega | exact Fin.isLt _ | trivial | (dsimp only; omega))) (lt_dec rfl) ?_
  refine Ops_x rfl (x_alloc rfl (lt_dec rfl) fun b5_1 => ?_)
  refine Ops_x rfl (x_store rfl rfl rfl rfl rfl HpRep.head rfl (by first | trivial | (first | (first | omega | (dsimp only; omega)) | exact Fin.isLt _)) ?_)
  refine Ops_nil ?_
  refine W_seq ?_
  refine W_seq ?_
  refine W_region ?_
  refine o_as rfl rfl ?_
  refine Ops_nil ?_
  refine W_block ?_
  refine W_loop (α := Nat) (fun i => ⟨[(0, .arr8 10 p), (1, .int .i64 n), (2, .ptr b2_1 0 none), (5, .ptr b5_1 0 none), (6, .int .i64 (i : Int))], [.var b5_1 (.barr 10 (met p n i)), .var b2_1 (.arr8 10 p)]⟩) (fun i => i ≤ 10 ∧ PermA p n i ∧ PermB p n i) (fun i => 10 - i) 0 ?_ ?_ ?_
  ·exact ⟨by omega, PermA.zero, PermB.zero⟩
  ·exact Wk.intro (.c rfl (.c rfl (.c rfl (.c rfl (.cons rfl (by first | rfl | exact veq_int (by first | omega | (dsimp only; omega))) .nil))))) (.keep rfl rfl (imp_var (by exact ceq_barr fun j hj => (met_zero j).symm) rfl) (.keep rfl rfl (fun _ h => h) .nil))
  ·rintro i ⟨hi, hA, hB⟩
   refine W_seq ?_
   refine W_seq ?_
   refine W_region ?_
   refine o_mv rfl rfl ?_
   refine Ops_p (p_lss rfl rfl) (lt_dec rfl) ?_
   refine Ops_nil ?_
   refine W_cond rfl (fun h2 => ?_) (fun h2 => ?_)
   ·try simp only [bs] at h2
    refine W_skip ?_
    refine W_seq ?_
    refine W_block ?_
    refine W_block ?_
    refine W_seq ?_
    refine W_region ?_
    refine o_mv rfl rfl ?_
    refine o_mv rfl rfl ?_
    refine Ops_p (p_geq rfl rfl) (lt_dec rfl) ?_
    refine o_as rfl rfl ?_
    refine Ops_nil ?_
    refine W_cond rfl (fun h3 => ?_) (fun h3 => ?_)
    ·try simp only [bs] at h3
     refine W_seq ?_
     refine W_region ?_
     refine o_mv rfl rfl ?_
     first | refine Ops_p (p_ix1 _ rfl rfl rfl rfl rfl rfl (by first | omega | exact Fin.isLt _ | (dsimp only; omega))) (lt_dec rfl) ?_ | refine Ops_p (p_ix1s _ rfl rfl rfl rfl rfl rfl (by first | omega | exact Fin.isLt _ | (dsimp only; omega))) (lt_dec rfl) ?_
     refine Ops_q (q_load rfl rfl m1 rfl (by first | exact True.intro | omega | exact Fin.isLt _ | trivial | (dsimp only; omega))) (lt_dec rfl) ?_
     first | refine Ops_p (p_neq_8 rfl rfl) (lt_dec rfl) ?_ | refine Ops_p (p_neq rfl rfl) (lt_dec rfl) ?_
     refine Ops_nil ?_
     refine W_cond rfl (fun h4 => ?_) (fun h4 => ?_)
     ·try simp only [bs] at h4
      refine W_seq ?_
      refine W_region ?_
      refine o_as rfl rfl ?_
      refine Ops_nil ?_
      refine W_ret ?_
      refine Exists.intro _ (And.intro (.cons (.tmp rfl) .nil) ?_)
      first | rfl | (refine veq_bool ?_; simp_all; done) | (refine veq_bool ?_; simp; omega) | (refine veq_bool ?_; rw [eq_comm, decide_eq_false_iff_not]; omega) | (refine veq_bool ?_; rw [eq_comm, decide_eq_true_iff]; omega) | (exact veq_bool (isPerm_f (not_perm_n (by first | omega | (simp_all; omega))))) | (exact veq_bool (isPerm_f (not_perm_zero (k := i) (by omega) (by omega) (by assumption)))) | (exact veq_bool (isPerm_f (not_perm_big (k := i) (by omega) (by omega) (by omega)))) | (exact veq_bool (isPerm_f (not_perm_met (k := i) (by omega) (by omega) (by assumption)))) | (obtain rfl : i = 10 := (by omega); exact veq_bool (isPerm_t ⟨h1.1, h1.2, hA, hB⟩))
     ·try simp only [bs] at h4
      refine W_skip ?_
      refine W_region ?_
      refine o_mv rfl rfl ?_
      refine Ops_p (p_add rfl rfl (by refine ⟨?_, ?_⟩ <;> first | omega | (dsimp only; omega))) (lt_dec rfl) ?_
      refine o_as rfl rfl ?_
      refine Ops_nil ?_
      refine Exists.intro (i + 1) (And.intro ?_ (And.intro ?_ ?_))
      ·first | (exact ⟨by omega, hA.hi (by omega) (by simp_all), hB.hi (by omega)⟩) | (exact ⟨by omega, hA.lo (by omega) (by omega), hB.lo (by simp_all)⟩)
      ·show _ < _; omega
      ·exact Wk.intro (.c rfl (.c rfl (.c rfl (.c rfl (.cons rfl (by first | rfl | exact veq_int (by first | omega | (dsimp only; omega))) .nil))))) (.keep rfl rfl (imp_var (by first | exact ceq_barr fun j hj => (met_lo (by omega) j).symm | exact ceq_barr fun j hj => (met_hi (by omega) j).symm) rfl) (.keep rfl rfl (fun _ h => h) .nil))
    ·try simp only [bs] at h3
     refine W_seq ?_
     refine W_region ?_
     refine o_mv rfl rfl ?_
     first | refine Ops_p (p_ix1 _ rfl rfl rfl rfl rfl rfl (by first | omega | exact Fin.isLt _ | (dsimp only; omega))) (lt_dec rfl) ?_ | refine Ops_p (p_ix1s _ rfl rfl rfl rfl rfl rfl (by first | omega | exact Fin.isLt _ | (dsimp only; omega))) (lt_dec rfl) ?_
     refine Ops_q (q_load rfl rfl m1 rfl (by first | exact True.intro | omega | exact Fin.isLt _ | trivial | (dsimp only; omega))) (lt_dec rfl) ?_
     first | refine Ops_p (p_conv8 rfl rfl rfl (by decide)) (lt_dec rfl) ?_ | refine Ops_p (p_conv rfl rfl rfl (by exact ⟨(by first | omega | (dsimp only; omega)), (by first | omega | (dsimp only; omega))⟩)) (lt_dec rfl) ?_
     refine o_mv rfl rfl ?_
     refine Ops_p (p_geq rfl rfl) (lt_dec rfl) ?_
     refine o_mv rfl rfl ?_
     refine Ops_guard rfl rfl (lt_dec rfl) (fun hg1 => ?_) (fun hg1 => ?_)
     ·try simp only [bs] at hg1
      refine o_mv rfl rfl ?_
      refine Ops_guard_t rfl rfl (lt_dec rfl) ?_
      first | refine Ops_p (p_ix1 _ rfl rfl rfl rfl rfl rfl (by first | omega | exact Fin.isLt _ | (dsimp only; omega))) (lt_dec rfl) ?_ | refine Ops_p (p_ix1s _ rfl rfl rfl rfl rfl rfl (by first | omega | exact Fin.isLt _ | (dsimp only; omega))) (lt_dec rfl) ?_
      refine Ops_guard_t rfl rfl (lt_dec rfl) ?_
      refine Ops_q (q_load rfl rfl m1 rfl (by first | exact True.intro | omega | exact Fin.isLt _ | trivial | (dsimp only; omega))) (lt_dec rfl) ?_
      refine Ops_guard_t rfl rfl (lt_dec rfl) ?_
      first | refine Ops_p (p_ix1 _ rfl rfl rfl rfl rfl rfl (by first | omega | exact Fin.isLt _ | (dsimp only; omega))) (lt_dec rfl) ?_ | refine Ops_p (p_ix1s _ rfl rfl rfl rfl rfl rfl (by first | omega | exact Fin.isLt _ | (dsimp only; omega))) (lt_dec rfl) ?_
      refine Ops_guard_t rfl rfl (lt_dec rfl) ?_
      refine Ops_q (q_load rfl rfl m0 rfl (by first | exact True.intro | omega | exact Fin.isLt _ | trivial | (dsimp only; omega))) (lt_dec rfl) ?_
      refine Ops_p (p_pick_f rfl rfl) (lt_dec rfl) ?_
      refine o_as rfl rfl ?_
      refine Ops_nil ?_
      refine W_cond rfl (fun h5 => ?_) (fun h5 => ?_)
      ·try simp only [bs] at h5
       refine W_seq ?_
       refine W_region ?_
       refine o_as rfl rfl ?_
       refine Ops_nil ?_
       refine W_ret ?_
       refine Exists.intro _ (And.intro (.cons (.tmp rfl) .nil) ?_)
       first | rfl | (refine veq_bool ?_; simp_all; done) | (refine veq_bool ?_; simp; omega) | (refine veq_bool ?_; rw [eq_comm, decide_eq_false_iff_not]; omega) | (refine veq_bool ?_; rw [eq_comm, decide_eq_true_iff]; omega) | (exact veq_bool (isPerm_f (not_perm_n (by first | omega | (simp_all; omega))))) | (exact veq_bool (isPerm_f (not_perm_zero (k := i) (by omega) (by omega) (by assumption)))) | (exact veq_bool (isPerm_f (not_perm_big (k := i) (by omega) (by omega) (by omega)))) | (exact veq_bool (isPerm_f (not_perm_met (k := i) (by omega) (by omega) (by assumption)))) | (obtain rfl : i = 10 := (by omega); exact veq_bool (isPerm_t ⟨h1.1, h1.2, hA, hB⟩))
      ·try simp only [bs] at h5
       refine W_region ?_
       refine o_mv rfl rfl ?_
       first | refine Ops_p (p_ix1 _ rfl rfl rfl rfl rfl rfl (by first | omega | exact Fin.isLt _ | (dsimp only; omega))) (lt_dec rfl) ?_ | refine Ops_p (p_ix1s _ rfl rfl rfl rfl rfl rfl (by first | omega | exact Fin.isLt _ | (dsimp only; omega))) (lt_dec rfl) ?_
       refine Ops_q (q_load rfl rfl m1 rfl (by first | exact True.intro | omega | exact Fin.isLt _ | trivial | (dsimp only; omega))) (lt_dec rfl) ?_
       first | refine Ops_p (p_ix1 _ rfl rfl rfl rfl rfl rfl (by first | omega | exact Fin.isLt _ | (dsimp only; omega))) (lt_dec rfl) ?_ | refine Ops_p (p_ix1s _ rfl rfl rfl rfl rfl rfl (by first | omega | exact Fin.isLt _ | (dsimp only; omega))) (lt_dec rfl) ?_
       refine Ops_x rfl (x_store rfl rfl rfl rfl rfl HpRep.head rfl (by first | trivial | (first | (first | omega | (dsimp only; omega)) | exact Fin.isLt _)) ?_)
       refine Ops_nil ?_
       refine W_region ?_
       refine o_mv rfl rfl ?_
       refine Ops_p (p_add rfl rfl (by refine ⟨?_, ?_⟩ <;> first | omega | (dsimp only; omega))) (lt_dec rfl) ?_
       refine o_as rfl rfl ?_
       refine Ops_nil ?_
       refine Exists.intro (i + 1) (And.intro ?_ (And.intro ?_ ?_))
       ·first | (exact ⟨by omega, hA.hi (by omega) (by simp_all), hB.hi (by omega)⟩) | (exact ⟨by omega, hA.lo (by omega) (by omega), hB.lo (by simp_all)⟩)
       ·show _ < _; omega
       ·exact Wk.intro (.c rfl (.c rfl (.c rfl (.c rfl (.cons rfl (by first | rfl | exact veq_int (by first | omega | (dsimp only; omega))) .nil))))) (.keep rfl rfl (imp_var (by first | exact ceq_barr fun j hj => (met_lo (by omega) j).symm | exact ceq_barr fun j hj => (met_hi (by omega) j).symm) rfl) (.keep rfl rfl (fun _ h => h) .nil))
     ·try simp only [bs] at hg1
      refine Ops_guard_f rfl rfl rfl (lt_dec rfl) ?_
      refine Ops_guard_f rfl rfl rfl (lt_dec rfl) ?_
      refine Ops_guard_f rfl rfl rfl (lt_dec rfl) ?_
      refine Ops_guard_f rfl rfl rfl (lt_dec rfl) ?_
      refine Ops_p (p_pick_t rfl rfl) (lt_dec rfl) ?_
      refine o_as rfl rfl ?_
      refine Ops_nil ?_
      refine W_true rfl ?_
      refine W_seq ?_
      refine W_region ?_
      refine o_as rfl rfl ?_
      refine Ops_nil ?_
      refine W_ret ?_
      refine Exists.intro _ (And.intro (.cons (.tmp rfl) .nil) ?_)
      first | rfl | (refine veq_bool ?_; simp_all; done) | (refine veq_bool ?_; simp; omega) | (refine veq_bool ?_; rw [eq_comm, decide_eq_false_iff_not]; omega) | (refine veq_bool ?_; rw [eq_comm, decide_eq_true_iff]; omega) | (exact veq_bool (isPerm_f (not_perm_n (by first | omega | (simp_all; omega))))) | (exact veq_bool (isPerm_f (not_perm_zero (k := i) (by omega) (by omega) (by assumption)))) | (exact veq_bool (isPerm_f (not_perm_big (k := i) (by omega) (by omega) (by omega)))) | (exact veq_bool (isPerm_f (not_perm_met (k := i) (by omega) (by omega) (by assumption)))) | (obtain rfl : i = 10 := (by omega); exact veq_bool (isPerm_t ⟨h1.1, h1.2, hA, hB⟩))
   ·try simp only [bs] at h2
    refine W_exit ?_
    refine W_seq ?_
    refine W_region ?_
    refine o_as rfl rfl ?_
    refine Ops_nil ?_
    refine W_ret ?_
    refine Exists.intro _ (And.intro (.cons (.tmp rfl) .nil) ?_)
    first | rfl | (refine veq_bool ?_; simp_all; done) | (refine veq_bool ?_; simp; omega) | (refine veq_bool ?_; rw [eq_comm, decide_eq_false_iff_not]; omega) | (refine veq_bool ?_; rw [eq_comm, decide_eq_true_iff]; omega) | (exact veq_bool (isPerm_f (not_perm_n (by first | omega | (simp_all; omega))))) | (exact veq_bool (isPerm_f (not_perm_zero (k := i) (by omega) (by omega) (by assumption)))) | (exact veq_bool (isPerm_f (not_perm_big (k := i) (by omega) (by omega) (by omega)))) | (exact veq_bool (isPerm_f (not_perm_met (k := i) (by omega) (by omega) (by assumption)))) | (obtain rfl : i = 10 := (by omega); exact veq_bool (isPerm_t ⟨h1.1, h1.2, hA, hB⟩))
end Go.Proofs.Ytjihhcjpbcmjaaa
end
section
namespace Go.Proofs.Ytjihhcjpbcmjaaa
open Go Gx
set_option linter.unusedVariables false
theorem en_spec_l04List : Enters Try.prog 52 := enters_of Try.func52 (by kernel_rfl) (by kernel_rfl)
set_option maxRecDepth 100000 in
theorem w_spec_l04List {a : Value} {ha : a.oneCell' = true} {l : List (Nat → Fin 256)} {n : Int} (hl : l.length ≤ 1048576) : CR Try.prog 52 (vals [.raw a ha, .int .i64 n]) [rd a (.arrs 10 l)] (.bool (psB l n)) := by
 refine CR_intro (rs := [.tmp 4]) tt tok Try.func52 rfl rfl rfl (by first | rfl | assumption) fun w => ?_
 refine W_seq ?_
 refine W_region ?_
 refine o_as rfl rfl ?_
 refine Ops_nil ?_
 refine W_seq ?_
 refine W_seq ?_
 refine W_region ?_
 refine o_as rfl rfl ?_
 refine Ops_nil ?_
 refine W_block ?_
 refine W_loop (α := Nat) (fun i => ⟨[(0, .raw a ha), (1, .int .i64 n), (5, .int .i64 (i : Int))], [rd a (.arrs 10 l)]⟩) (fun i => i ≤ l.length ∧ ∀ j, j < i → isPerm (l.getD j fun _ => 0) n = true) (fun i => l.length - i) 0 ?_ ?_ ?_
 ·exact ⟨by omega, fun j h => by omega⟩
 ·exact Wk.intro (.c rfl (.c rfl (.cons rfl (by first | rfl | exact veq_int (by first | omega | (dsimp only; omega))) .nil))) (.keep rfl rfl (fun _ h => h) .nil)
 ·rintro i ⟨hi, hR⟩
  refine W_seq ?_
  refine W_seq ?_
  refine W_region ?_
  refine o_mv rfl rfl ?_
  refine o_mv rfl rfl ?_
  refine Ops_q ((q_lenR rfl rfl rfl (Rds.rd m0)).eq (d' := .int .i64 ((l.length : Nat) : Int)) rfl) (lt_dec rfl) ?_
  refine Ops_p (p_lss rfl rfl) (lt_dec rfl) ?_
  refine Ops_nil ?_
  refine W_cond rfl (fun h1 => ?_) (fun h1 => ?_)
  ·try simp only [bs] at h1
   refine W_skip ?_
   refine W_seq ?_
   refine W_block ?_
   refine W_seq ?_
   refine W_region ?_
   refine o_mv rfl rfl ?_
   refine o_mv rfl rfl ?_
   refine Ops_q (q_ixR _ rfl rfl rfl (Rds.rd m0) rfl rfl (by first | (show _ < List.length _; omega) | (show _ < List.length _; first | omega | (dsimp only; omega))) rfl) (lt_dec rfl) ?_
   refine Ops_q (q_loadR rfl rfl (Rds.rd m0) rfl rfl (by first | (show _ < List.length _; omega) | (show _ < List.length _; first | omega | (dsimp only; omega))) rfl rfl rfl) (lt_dec rfl) ?_
   refine o_mv rfl rfl ?_
   refine Ops_q (q_call en_spec_l01Perm rfl (w_spec_l01Perm) (View.none _)) (lt_dec rfl) ?_
   refine Ops_p (p_not rfl) (lt_dec rfl) ?_
   refine Ops_nil ?_
   refine W_cond rfl (fun h2 => ?_) (fun h2 => ?_)
   ·try simp only [bs] at h2
    refine W_seq ?_
    refine W_region ?_
    refine o_as rfl rfl ?_
    refine Ops_nil ?_
    refine W_ret ?_
    refine Exists.intro _ (And.intro (.cons (.tmp rfl) .nil) ?_)
    first | rfl | (refine veq_bool ?_; simp_all; done) | (refine veq_bool ?_; simp; omega) | (refine veq_bool ?_; rw [eq_comm, decide_eq_false_iff_not]; omega) | (refine veq_bool ?_; rw [eq_comm, decide_eq_true_iff]; omega) | (exact veq_bool (psB_f (i := i) (by omega) h2)) | (exact veq_bool (psB_t hR))
   ·try simp only [bs] at h2
    refine W_skip ?_
    refine W_region ?_
    refine o_mv rfl rfl ?_
    refine Ops_p (p_add rfl rfl (by refine ⟨?_, ?_⟩ <;> first | omega | (dsimp only; omega))) (lt_dec rfl) ?_
    refine o_as rfl rfl ?_
    refine Ops_nil ?_
    refine Exists.intro (i + 1) (And.intro ?_ (And.intro ?_ ?_))
    ·exact ⟨by omega, fun j h => if e : j = i then e ▸ h2 else hR j (by omega)⟩
    ·show _ < _; omega
    ·exact Wk.intro (.c rfl (.c rfl (.cons rfl (by first | rfl | exact veq_int (by first | omega | (dsimp only; omega))) .nil))) (.keep rfl rfl (fun _ h => h) .nil)
  ·try simp only [bs] at h1
   obtain rfl : i = l.length := (by omega)
   refine W_exit ?_
   refine W_seq ?_
   refine W_region ?_
   refine o_as rfl rfl ?_
   refine Ops_nil ?_
   refine W_ret ?_
   refine Exists.intro _ (And.intro (.cons (.tmp rfl) .nil) ?_)
   first | rfl | (refine veq_bool ?_; simp_all; done) | (refine veq_bool ?_; simp; omega) | (refine veq_bool ?_; rw [eq_comm, decide_eq_false_iff_not]; omega) | (refine veq_bool ?_; rw [eq_comm, decide_eq_true_iff]; omega) | (exact veq_bool (psB_f (i := i) (by omega) h2)) | (exact veq_bool (psB_t hR))
end Go.Proofs.Ytjihhcjpbcmjaaa
end
section
namespace Go.Proofs.Ytjihhcjpbcmjaaa
open Go Gx
set_option linter.unusedVariables false
theorem en_spec_l04Code : Enters Try.prog 27 := enters_of Try.func27 (by kernel_rfl) (by kernel_rfl)
set_option maxRecDepth 100000 in
theorem w_spec_l04Code {a : Value} {ha : a.oneCell' = true} {l : List (Nat → Fin 256)} {n : Int} (hl : l.length ≤ 1048576) : CR Try.prog 27 (vals [.raw a ha, .int .i64 n]) [rd a (.arrs 10 l)] (.int .i64 (psC l n)) := by
 refine CR_intro (rs := [.tmp 4]) tt tok Try.func27 rfl rfl rfl (by first | rfl | assumption) fun w => ?_
 refine W_seq ?_
 refine W_region ?_
 refine o_as rfl rfl ?_
 refine Ops_nil ?_
 refine W_seq ?_
 refine W_block ?_
 refine W_seq ?_
 refine W_region ?_
 refine o_mv rfl rfl ?_
 refine Ops_q (q_call en_spec_l01In rfl (w_spec_l01In) (View.none _)) (lt_dec rfl) ?_
 refine Ops_p (p_not rfl) (lt_dec rfl) ?_
 refine o_as rfl rfl ?_
 refine Ops_nil ?_
 refine W_cond rfl (fun h1 => ?_) (fun h1 => ?_)
 ·try simp only [bs] at h1
  refine W_seq ?_
  refine W_region ?_
  refine o_as rfl rfl ?_
  refine Ops_nil ?_
  refine W_ret ?_
  refine Exists.intro _ (And.intro (.cons (.tmp rfl) .nil) ?_)
  first | rfl | (refine veq_int ?_; omega) | (exact veq_int (psC_n (by assumption)).symm) | (exact veq_int (psC_1 (by assumption) (by assumption)).symm) | (exact veq_int (psC_2 (by assumption) (by assumption) (by omega)).symm) | (exact veq_int (psC_0 (by assumption) (by assumption) (by omega)).symm)
 ·try simp only [bs] at h1
  refine W_seq ?_
  refine W_region ?_
  refine o_mv rfl rfl ?_
  refine o_mv rfl rfl ?_
  refine Ops_q (q_call en_spec_l04List rfl (w_spec_l04List (by first | assumption | (first | omega | (dsimp only; omega)) | (simp; done) | decide)) (Vw.rd m0).v) (lt_dec rfl) ?_
  refine Ops_p (p_not rfl) (lt_dec rfl) ?_
  refine o_as rfl rfl ?_
  refine Ops_nil ?_
  refine W_cond rfl (fun h2 => ?_) (fun h2 => ?_)
  ·try simp only [bs] at h2
   refine W_seq ?_
   refine W_region ?_
   refine o_as rfl rfl ?_
   refine Ops_nil ?_
   refine W_ret ?_
   refine Exists.intro _ (And.intro (.cons (.tmp rfl) .nil) ?_)
   first | rfl | (refine veq_int ?_; omega) | (exact veq_int (psC_n (by assumption)).symm) | (exact veq_int (psC_1 (by assumption) (by assumption)).symm) | (exact veq_int (psC_2 (by assumption) (by assumption) (by omega)).symm) | (exact veq_int (psC_0 (by assumption) (by assumption) (by omega)).symm)
  ·try simp only [bs] at h2
   refine W_seq ?_
   refine W_region ?_
   refine o_mv rfl rfl ?_
   refine Ops_q ((q_lenR rfl rfl rfl (Rds.rd m0)).eq (d' := .int .i64 ((l.length : Nat) : Int)) rfl) (lt_dec rfl) ?_
   refine Ops_p (p_gtr rfl rfl) (lt_dec rfl) ?_
   refine o_as rfl rfl ?_
   refine Ops_nil ?_
   refine W_cond rfl (fun h3 => ?_) (fun h3 => ?_)
   ·try simp only [bs] at h3
    refine W_seq ?_
    refine W_region ?_
    refine o_as rfl rfl ?_
    refine Ops_nil ?_
    refine W_ret ?_
    refine Exists.intro _ (And.intro (.cons (.tmp rfl) .nil) ?_)
    first | rfl | (refine veq_int ?_; omega) | (exact veq_int (psC_n (by assumption)).symm) | (exact veq_int (psC_1 (by assumption) (by assumption)).symm) | (exact veq_int (psC_2 (by assumption) (by assumption) (by omega)).symm) | (exact veq_int (psC_0 (by assumption) (by assumption) (by omega)).symm)
   ·try simp only [bs] at h3
    refine W_skip ?_
    refine W_seq ?_
    refine W_region ?_
    refine o_as rfl rfl ?_
    refine Ops_nil ?_
    refine W_ret ?_
    refine Exists.intro _ (And.intro (.cons (.tmp rfl) .nil) ?_)
    first | rfl | (refine veq_int ?_; omega) | (exact veq_int (psC_n (by assumption)).symm) | (exact veq_int (psC_1 (by assumption) (by assumption)).symm) | (exact veq_int (psC_2 (by assumption) (by assumption) (by omega)).symm) | (exact veq_int (psC_0 (by assumption) (by assumption) (by omega)).symm)
end Go.Proofs.Ytjihhcjpbcmjaaa
end
section
namespace Go.Proofs.Ytjihhcjpbcmjaaa
open Go Gx
set_option linter.unusedVariables false
theorem en_spec_DrawInGroup : Enters Try.prog 16 := enters_of Try.func16 (by kernel_rfl) (by kernel_rfl)
set_option maxRecDepth 100000 in
set_option maxHeartbeats 2000000 in
theorem w_spec_DrawInGroup {cv : Value} {hcv : cv.oneCell' = true} {code : List (Fin 256)} (hc : code.length ≤ 4096) : CT (X := V1 × (List (Nat → Fin 256) × (Int × (Nat → Fin 256)))) Try.prog 16 (vals [.raw cv hcv]) [] [rd cv (.u8s code)] (fun x => List.length (Prod.fst (Prod.snd x)) ≤ 41 ∧ (0 ≤ Prod.fst (Prod.snd (Prod.snd x)) ∧ Prod.fst (Prod.snd (Prod.snd x)) ≤ 11)) (fun x => .tup [.raw (Subtype.val (Prod.fst x)) (Subtype.property (Prod.fst x)), .int .i64 (Prod.fst (Prod.snd (Prod.snd x))), .arr8 10 (Prod.snd (Prod.snd (Prod.snd x)))]) (fun x => [own (Subtype.val (Prod.fst x)) 33 (.arrs 10 (Prod.fst (Prod.snd x)))]) := by
 refine CT_intro (rs := [.tmp 2, .tmp 3, .cell 4 33]) tt tok Try.func16 rfl rfl rfl (by first | rfl | assumption) fun w => ?_
 show W _ _ _ ⟨tmOf 0 [.raw cv hcv], [rd cv (.u8s code)]⟩
 refine W_seq ?_
 refine W_region ?_
 refine o_as rfl rfl ?_
 refine o_as rfl rfl ?_
 refine Ops_x rfl (x_alloc rfl (lt_dec rfl) fun b4_1 => ?_)
 refine Ops_nil ?_
 refine W_seq ?_
 refine W_region ?_
 refine o_mv rfl rfl ?_
 refine Ops_x rfl (x_callT en_spec_l01From rfl (w_spec_l01From hc) HpDels.nil (Vw.rd m1) (fun _ => (HpDels.cons HpDel.head HpDels.nil)) (lt_dec rfl) fun x10_1 hx10 => ?_)
 refine o_as rfl rfl ?_
 refine Ops_nil ?_
 refine W_seq ?_
 refine W_region ?_
 refine o_mv rfl rfl ?_
 refine Ops_x rfl (x_callT en_spec_l04Draw rfl (w_spec_l04Draw (sb := Prod.fst x10_1) (a := 0) (h := Prod.snd x10_1) hc (Nat.zero_le _) hx10) (HpDels.cons HpDel.head HpDels.nil) (Vw.rd m1) (fun _ => (HpDels.cons (HpDel.head).tail (HpDels.cons HpDel.head HpDels.nil))) (lt_dec rfl) fun x13_1 hx13 => ?_)
 refine o_mv rfl rfl ?_
 refine Ops_p (p_extract rfl rfl) (lt_dec rfl) ?_
 refine Ops_p (p_extract rfl rfl) (lt_dec rfl) ?_
 refine o_as rfl rfl ?_
 refine o_as rfl rfl ?_
 refine Ops_nil ?_
 refine W_seq ?_
 refine W_region ?_
 refine o_mv rfl rfl ?_
 refine o_mv rfl rfl ?_
 refine Ops_p (p_min rfl rfl) (lt_dec rfl) ?_
 refine Ops_p (p_max rfl rfl) (lt_dec rfl) ?_
 refine Ops_x rfl (x_callT en_spec_l01DrawPlaces rfl (w_spec_l01DrawPlaces hc (And.left (And.left hx13)) (And.right (And.left hx13)) (by omega)) (HpDels.cons (HpDel.head).tail HpDels.nil) (Vw.rd m2) (fun _ => (HpDels.cons (HpDel.head).tail HpDels.nil)) (lt_dec rfl) fun x20_1 hx20 => ?_)
 refine Ops_x rfl (x_alloc rfl (lt_dec rfl) fun b8_1 => ?_)
 refine Ops_x rfl (x_store rfl rfl rfl rfl rfl HpRep.head rfl (by first | trivial | (first | (first | omega | (dsimp only; omega)) | exact Fin.isLt _)) ?_)
 refine Ops_nil ?_
 refine W_seq ?_
 refine W_seq ?_
 refine W_region ?_
 refine o_mv rfl rfl ?_
 refine Ops_q ((q_lenR rfl rfl rfl (Rds.own m1)).eq (d' := .int .i64 (((Prod.fst (Prod.snd (Prod.snd x13_1))).length : Nat) : Int)) rfl) (lt_dec rfl) ?_
 refine Ops_p (p_gtr rfl rfl) (lt_dec rfl) ?_
 refine o_mv rfl rfl ?_
 refine Ops_guard rfl rfl (lt_dec rfl) (fun hg1 => ?_) (fun hg1 => ?_)
 ·try simp only [bs] at hg1
  refine o_mv rfl rfl ?_
  refine Ops_guard_t rfl rfl (lt_dec rfl) ?_
  refine o_mv rfl rfl ?_
  refine Ops_guard_t rfl rfl (lt_dec rfl) ?_
  refine Ops_q (q_call en_spec_l04Code rfl (w_spec_l04Code (by omega)) (Vw.rdO m1).v) (lt_dec rfl) ?_
  refine Ops_guard_t rfl rfl (lt_dec rfl) ?_
  refine Ops_p (p_eql rfl rfl) (lt_dec rfl) ?_
  refine Ops_p (p_pick_t rfl rfl) (lt_dec rfl) ?_
  refine o_mv rfl rfl ?_
  refine Ops_guard rfl rfl (lt_dec rfl) (fun hg2 => ?_) (fun hg2 => ?_)
  ·try simp only [bs] at hg2
   refine o_mv rfl rfl ?_
   refine Ops_guard_t rfl rfl (lt_dec rfl) ?_
   refine Ops_x rfl (x_callT en_spec_l01Next rfl (w_spec_l01Next hc (And.left (And.left hx20)) (And.right (And.left hx20))) (HpDels.cons ((HpDel.head).tail).tail HpDels.nil) (Vw.rd m3) (fun _ => (HpDels.cons ((HpDel.head).tail).tail HpDels.nil)) (lt_dec rfl) fun x32_1 hx32 => ?_)
   refine Ops_guard_t rfl rfl (lt_dec rfl) ?_
   refine Ops_p (p_eql rfl rfl) (lt_dec rfl) ?_
   refine Ops_p (p_pick_t rfl rfl) (lt_dec rfl) ?_
   refine Ops_nil ?_
   refine W_cond rfl (fun h1 => ?_) (fun h1 => ?_)
   ·try simp only [bs] at h1
    refine W_draw (by kernel_rfl) ?_
    show RA _ _ 13 _ _ _
    refine RA_take 0 rfl rfl rfl (by kernel_rfl) (by kernel_rfl) (by kernel_rfl) (p_move rfl) (lt_dec rfl) ?_
    refine RA_take 7 rfl rfl rfl (by kernel_rfl) (by kernel_rfl) (by kernel_rfl) (p_move rfl) (lt_dec rfl) ?_
    refine RA_take 10 rfl rfl rfl (by kernel_rfl) (by kernel_rfl) (by kernel_rfl) (p_move rfl) (lt_dec rfl) ?_
    refine RA_take 1 rfl rfl rfl (by kernel_rfl) (by kernel_rfl) (by kernel_rfl) (p_move rfl) (lt_dec rfl) ?_
    refine RA_take 2 rfl rfl rfl (by kernel_rfl) (by kernel_rfl) (by kernel_rfl) (p_move rfl) (lt_dec rfl) ?_
    refine RA_two 3 8 rfl rfl rfl rfl (by kernel_rfl) ?_ ?_
    ·refine Xt_of_Qt rfl (lt_dec rfl) (((q_lenR rfl rfl rfl (Rds.own m1)).eq (d' := .int .i64 (((Prod.fst (Prod.snd (Prod.snd x13_1))).length : Nat) : Int)) rfl)) ?_
     refine RA_two 4 8 rfl rfl rfl rfl (by kernel_rfl) ?_ ?_
     ·refine x_callT en_spec_l01Next rfl (w_spec_l01Next hc (And.left (And.left hx32)) (And.right (And.left hx32))) (HpDels.cons ((HpDel.head).tail).tail HpDels.nil) (Vw.rd m3) (fun _ => (HpDels.cons ((HpDel.head).tail).tail HpDels.nil)) (lt_dec rfl) fun x39_1 hx39 => ?_
      refine RA_quiet (g := 1) [5, 6, 8, 9, 11] (by kernel_rfl) (by kernel_rfl) (by kernel_rfl) (by kernel_rfl) ?_
      refine WQ_cons rfl rfl rfl ((q_ixR (Prod.snd x39_1) rfl rfl rfl (Rds.own m1) rfl rfl (by have := hx39.2.2 (by omega); show _ < List.length _; omega) rfl)) (lt_dec rfl) ?_
      refine WQ_cons rfl rfl rfl ((q_loadR rfl rfl (Rds.own m1) rfl rfl (by have := hx39.2.2 (by omega); show _ < List.length _; omega) rfl rfl rfl)) (lt_dec rfl) ?_
      refine WQ_cons rfl rfl rfl ((q_ixR 0 rfl rfl rfl (Rds.own m1) rfl rfl (by show _ < List.length _; omega) rfl)) (lt_dec rfl) ?_
      refine WQ_cons rfl rfl rfl ((q_loadR rfl rfl (Rds.own m1) rfl rfl (by show _ < List.length _; omega) rfl rfl rfl)) (lt_dec rfl) ?_
      refine WQ_cons rfl rfl rfl ((q_call en_spec_l01Then rfl (w_spec_l01Then ((psC_ok (show psC (Prod.fst (Prod.snd (Prod.snd x13_1))) (Prod.snd (Prod.snd (Prod.snd x13_1))) = 0 by assumption)).1.at (by have := hx39.2.2 (by omega); omega))) (View.none _))) (lt_dec rfl) ?_
      refine WQ_nil ?_
      refine RA_one 12 rfl rfl (by kernel_rfl) (x_store rfl rfl rfl rfl rfl HpRep.head rfl (by first | trivial | (first | (first | omega | (dsimp only; omega)) | exact Fin.isLt _)) ?_)
      refine RA_done (by kernel_rfl) ?_
      refine W_seq ?_
      refine W_draw (by kernel_rfl) ?_
      show RA _ _ 6 _ _ _
      refine RA_quiet (g := 1) [0, 1, 2, 3, 4] (by kernel_rfl) (by kernel_rfl) (by kernel_rfl) (by kernel_rfl) ?_
      refine WQ_cons rfl rfl rfl ((p_move rfl).q) (lt_dec rfl) ?_
      refine WQ_cons rfl rfl rfl ((p_move rfl).q) (lt_dec rfl) ?_
      refine WQ_cons rfl rfl rfl ((q_load rfl rfl m0 rfl (by first | exact True.intro | omega | exact Fin.isLt _ | trivial | (dsimp only; omega)))) (lt_dec rfl) ?_
      refine WQ_cons rfl rfl rfl ((p_assign rfl).q) (lt_dec rfl) ?_
      refine WQ_cons rfl rfl rfl ((p_assign rfl).q) (lt_dec rfl) ?_
      refine WQ_nil ?_
      refine RA_one 5 rfl rfl (by kernel_rfl) (x_store rfl rfl rfl rfl rfl ((((HpRep.head).tail).tail).tail) rfl (by first | trivial | (first | (first | omega | (dsimp only; omega)) | exact Fin.isLt _)) ?_)
      refine RA_done (by kernel_rfl) ?_
      refine W_ret ?_
      refine Exists.intro _ (And.intro (.cons (.tmp rfl) (.cons (.tmp rfl) (.cons (.cell rfl rfl m3 rfl trivial) .nil))) (Exists.intro (Prod.fst (Prod.snd x13_1), ((Prod.fst (Prod.snd (Prod.snd x13_1))), ((Prod.snd (Prod.snd (Prod.snd x13_1))), (thenT (List.getD (Prod.fst (Prod.snd (Prod.snd x13_1))) (Prod.snd x39_1) (fun _ => 0)) (List.getD (Prod.fst (Prod.snd (Prod.snd x13_1))) 0 (fun _ => 0)) (Int.toNat (Prod.snd (Prod.snd (Prod.snd x13_1)))))))) (And.intro ?_ (And.intro ?_ (And.intro (.cons (HpDel.head).tail rfl (fun _ h => h) .nil) rfl)))))
      ·exact hx13.2
      ·rfl
     ·refine Xt_of_Qt rfl (lt_dec rfl) ((q_ixR 0 rfl rfl rfl (Rds.own m1) rfl rfl (by show _ < List.length _; omega) rfl)) ?_
      refine RA_two 4 9 rfl rfl rfl rfl (by kernel_rfl) ?_ ?_
      ·refine x_callT en_spec_l01Next rfl (w_spec_l01Next hc (And.left (And.left hx32)) (And.right (And.left hx32))) (HpDels.cons ((HpDel.head).tail).tail HpDels.nil) (Vw.rd m3) (fun _ => (HpDels.cons ((HpDel.head).tail).tail HpDels.nil)) (lt_dec rfl) fun x39_1 hx39 => ?_
       refine RA_quiet (g := 1) [5, 6, 9, 11] (by kernel_rfl) (by kernel_rfl) (by kernel_rfl) (by kernel_rfl) ?_
       refine WQ_cons rfl rfl rfl ((q_ixR (Prod.snd x39_1) rfl rfl rfl (Rds.own m1) rfl rfl (by have := hx39.2.2 (by omega); show _ < List.length _; omega) rfl)) (lt_dec rfl) ?_
       refine WQ_cons rfl rfl rfl ((q_loadR rfl rfl (Rds.own m1) rfl rfl (by have := hx39.2.2 (by omega); show _ < List.length _; omega) rfl rfl rfl)) (lt_dec rfl) ?_
       refine WQ_cons rfl rfl rfl ((q_loadR rfl rfl (Rds.own m1) rfl rfl (by show _ < List.length _; omega) rfl rfl rfl)) (lt_dec rfl) ?_
       refine WQ_cons rfl rfl rfl ((q_call en_spec_l01Then rfl (w_spec_l01Then ((psC_ok (show psC (Prod.fst (Prod.snd (Prod.snd x13_1))) (Prod.snd (Prod.snd (Prod.snd x13_1))) = 0 by assumption)).1.at (by have := hx39.2.2 (by omega); omega))) (View.none _))) (lt_dec rfl) ?_
       refine WQ_nil ?_
       refine RA_one 12 rfl rfl (by kernel_rfl) (x_store rfl rfl rfl rfl rfl HpRep.head rfl (by first | trivial | (first | (first | omega | (dsimp only; omega)) | exact Fin.isLt _)) ?_)
       refine RA_done (by kernel_rfl) ?_
       refine W_seq ?_
       refine W_draw (by kernel_rfl) ?_
       show RA _ _ 6 _ _ _
       refine RA_quiet (g := 1) [0, 1, 2, 3, 4] (by kernel_rfl) (by kernel_rfl) (by kernel_rfl) (by kernel_rfl) ?_
       refine WQ_cons rfl rfl rfl ((p_move rfl).q) (lt_dec rfl) ?_
       refine WQ_cons rfl rfl rfl ((p_move rfl).q) (lt_dec rfl) ?_
       refine WQ_cons rfl rfl rfl ((q_load rfl rfl m0 rfl (by first | exact True.intro | omega | exact Fin.isLt _ | trivial | (dsimp only; omega)))) (lt_dec rfl) ?_
       refine WQ_cons rfl rfl rfl ((p_assign rfl).q) (lt_dec rfl) ?_
       refine WQ_cons rfl rfl rfl ((p_assign rfl).q) (lt_dec rfl) ?_
       refine WQ_nil ?_
       refine RA_one 5 rfl rfl (by kernel_rfl) (x_store rfl rfl rfl rfl rfl ((((HpRep.head).tail).tail).tail) rfl (by first | trivial | (first | (first | omega | (dsimp only; omega)) | exact Fin.isLt _)) ?_)
       refine RA_done (by kernel_rfl) ?_
       refine W_ret ?_
       refine Exists.intro _ (And.intro (.cons (.tmp rfl) (.cons (.tmp rfl) (.cons (.cell rfl rfl m3 rfl trivial) .nil))) (Exists.intro (Prod.fst (Prod.snd x13_1), ((Prod.fst (Prod.snd (Prod.snd x13_1))), ((Prod.snd (Prod.snd (Prod.snd x13_1))), (thenT (List.getD (Prod.fst (Prod.snd (Prod.snd x13_1))) (Prod.snd x39_1) (fun _ => 0)) (List.getD (Prod.fst (Prod.snd (Prod.snd x13_1))) 0 (fun _ => 0)) (Int.toNat (Prod.snd (Prod.snd (Prod.snd x13_1)))))))) (And.intro ?_ (And.intro ?_ (And.intro (.cons (HpDel.head).tail rfl (fun _ h => h) .nil) rfl)))))
       ·exact hx13.2
       ·rfl
      ·refine Xt_of_Qt rfl (lt_dec rfl) ((q_loadR rfl rfl (Rds.own m1) rfl rfl (by show _ < List.length _; omega) rfl rfl rfl)) ?_
       refine RA_one 4 rfl rfl (by kernel_rfl) (x_callT en_spec_l01Next rfl (w_spec_l01Next hc (And.left (And.left hx32)) (And.right (And.left hx32))) (HpDels.cons ((HpDel.head).tail).tail HpDels.nil) (Vw.rd m3) (fun _ => (HpDels.cons ((HpDel.head).tail).tail HpDels.nil)) (lt_dec rfl) fun x39_1 hx39 => ?_)
       refine RA_quiet (g := 1) [5, 6, 11] (by kernel_rfl) (by kernel_rfl) (by kernel_rfl) (by kernel_rfl) ?_
       refine WQ_cons rfl rfl rfl ((q_ixR (Prod.snd x39_1) rfl rfl rfl (Rds.own m1) rfl rfl (by have := hx39.2.2 (by omega); show _ < List.length _; omega) rfl)) (lt_dec rfl) ?_
       refine WQ_cons rfl rfl rfl ((q_loadR rfl rfl (Rds.own m1) rfl rfl (by have := hx39.2.2 (by omega); show _ < List.length _; omega) rfl rfl rfl)) (lt_dec rfl) ?_
       refine WQ_cons rfl rfl rfl ((q_call en_spec_l01Then rfl (w_spec_l01Then ((psC_ok (show psC (Prod.fst (Prod.snd (Prod.snd x13_1))) (Prod.snd (Prod.snd (Prod.snd x13_1))) = 0 by assumption)).1.at (by have := hx39.2.2 (by omega); omega))) (View.none _))) (lt_dec rfl) ?_
       refine WQ_nil ?_
       refine RA_one 12 rfl rfl (by kernel_rfl) (x_store rfl rfl rfl rfl rfl HpRep.head rfl (by first | trivial | (first | (first | omega | (dsimp only; omega)) | exact Fin.isLt _)) ?_)
       refine RA_done (by kernel_rfl) ?_
       refine W_seq ?_
       refine W_draw (by kernel_rfl) ?_
       show RA _ _ 6 _ _ _
       refine RA_quiet (g := 1) [0, 1, 2, 3, 4] (by kernel_rfl) (by kernel_rfl) (by kernel_rfl) (by kernel_rfl) ?_
       refine WQ_cons rfl rfl rfl ((p_move rfl).q) (lt_dec rfl) ?_
       refine WQ_cons rfl rfl rfl ((p_move rfl).q) (lt_dec rfl) ?_
       refine WQ_cons rfl rfl rfl ((q_load rfl rfl m0 rfl (by first | exact True.intro | omega | exact Fin.isLt _ | trivial | (dsimp only; omega)))) (lt_dec rfl) ?_
       refine WQ_cons rfl rfl rfl ((p_assign rfl).q) (lt_dec rfl) ?_
       refine WQ_cons rfl rfl rfl ((p_assign rfl).q) (lt_dec rfl) ?_
       refine WQ_nil ?_
       refine RA_one 5 rfl rfl (by kernel_rfl) (x_store rfl rfl rfl rfl rfl ((((HpRep.head).tail).tail).tail) rfl (by first | trivial | (first | (first | omega | (dsimp only; omega)) | exact Fin.isLt _)) ?_)
       refine RA_done (by kernel_rfl) ?_
       refine W_ret ?_
       refine Exists.intro _ (And.intro (.cons (.tmp rfl) (.cons (.tmp rfl) (.cons (.cell rfl rfl m3 rfl trivial) .nil))) (Exists.intro (Prod.fst (Prod.snd x13_1), ((Prod.fst (Prod.snd (Prod.snd x13_1))), ((Prod.snd (Prod.snd (Prod.snd x13_1))), (thenT (List.getD (Prod.fst (Prod.snd (Prod.snd x13_1))) (Prod.snd x39_1) (fun _ => 0)) (List.getD (Prod.fst (Prod.snd (Prod.snd x13_1))) 0 (fun _ => 0)) (Int.toNat (Prod.snd (Prod.snd (Prod.snd x13_1)))))))) (And.intro ?_ (And.intro ?_ (And.intro (.cons (HpDel.head).tail rfl (fun _ h => h) .nil) rfl)))))
       ·exact hx13.2
       ·rfl
    ·refine Xt_of_Qt rfl (lt_dec rfl) ((q_ixR 0 rfl rfl rfl (Rds.own m1) rfl rfl (by show _ < List.length _; omega) rfl)) ?_
     refine RA_two 3 9 rfl rfl rfl rfl (by kernel_rfl) ?_ ?_
     ·refine Xt_of_Qt rfl (lt_dec rfl) (((q_lenR rfl rfl rfl (Rds.own m1)).eq (d' := .int .i64 (((Prod.fst (Prod.snd (Prod.snd x13_1))).length : Nat) : Int)) rfl)) ?_
      refine RA_two 4 9 rfl rfl rfl rfl (by kernel_rfl) ?_ ?_
      ·refine x_callT en_spec_l01Next rfl (w_spec_l01Next hc (And.left (And.left hx32)) (And.right (And.left hx32))) (HpDels.cons ((HpDel.head).tail).tail HpDels.nil) (Vw.rd m3) (fun _ => (HpDels.cons ((HpDel.head).tail).tail HpDels.nil)) (lt_dec rfl) fun x39_1 hx39 => ?_
       refine RA_quiet (g := 1) [5, 6, 9, 11] (by kernel_rfl) (by kernel_rfl) (by kernel_rfl) (by kernel_rfl) ?_
       refine WQ_cons rfl rfl rfl ((q_ixR (Prod.snd x39_1) rfl rfl rfl (Rds.own m1) rfl rfl (by have := hx39.2.2 (by omega); show _ < List.length _; omega) rfl)) (lt_dec rfl) ?_
       refine WQ_cons rfl rfl rfl ((q_loadR rfl rfl (Rds.own m1) rfl rfl (by have := hx39.2.2 (by omega); show _ < List.length _; omega) rfl rfl rfl)) (lt_dec rfl) ?_
       refine WQ_cons rfl rfl rfl ((q_loadR rfl rfl (Rds.own m1) rfl rfl (by show _ < List.length _; omega) rfl rfl rfl)) (lt_dec rfl) ?_
       refine WQ_cons rfl rfl rfl ((q_call en_spec_l01Then rfl (w_spec_l01Then ((psC_ok (show psC (Prod.fst (Prod.snd (Prod.snd x13_1))) (Prod.snd (Prod.snd (Prod.snd x13_1))) = 0 by assumption)).1.at (by have := hx39.2.2 (by omega); omega))) (View.none _))) (lt_dec rfl) ?_
       refine WQ_nil ?_
       refine RA_one 12 rfl rfl (by kernel_rfl) (x_store rfl rfl rfl rfl rfl HpRep.head rfl (by first | trivial | (first | (first | omega | (dsimp only; omega)) | exact Fin.isLt _)) ?_)
       refine RA_done (by kernel_rfl) ?_
       refine W_seq ?_
       refine W_draw (by kernel_rfl) ?_
       show RA _ _ 6 _ _ _
       refine RA_quiet (g := 1) [0, 1, 2, 3, 4] (by kernel_rfl) (by kernel_rfl) (by kernel_rfl) (by kernel_rfl) ?_
       refine WQ_cons rfl rfl rfl ((p_move rfl).q) (lt_dec rfl) ?_
       refine WQ_cons rfl rfl rfl ((p_move rfl).q) (lt_dec rfl) ?_
       refine WQ_cons rfl rfl rfl ((q_load rfl rfl m0 rfl (by first | exact True.intro | omega | exact Fin.isLt _ | trivial | (dsimp only; omega)))) (lt_dec rfl) ?_
       refine WQ_cons rfl rfl rfl ((p_assign rfl).q) (lt_dec rfl) ?_
       refine WQ_cons rfl rfl rfl ((p_assign rfl).q) (lt_dec rfl) ?_
       refine WQ_nil ?_
       refine RA_one 5 rfl rfl (by kernel_rfl) (x_store rfl rfl rfl rfl rfl ((((HpRep.head).tail).tail).tail) rfl (by first | trivial | (first | (first | omega | (dsimp only; omega)) | exact Fin.isLt _)) ?_)
       refine RA_done (by kernel_rfl) ?_
       refine W_ret ?_
       refine Exists.intro _ (And.intro (.cons (.tmp rfl) (.cons (.tmp rfl) (.cons (.cell rfl rfl m3 rfl trivial) .nil))) (Exists.intro (Prod.fst (Prod.snd x13_1), ((Prod.fst (Prod.snd (Prod.snd x13_1))), ((Prod.snd (Prod.snd (Prod.snd x13_1))), (thenT (List.getD (Prod.fst (Prod.snd (Prod.snd x13_1))) (Prod.snd x39_1) (fun _ => 0)) (List.getD (Prod.fst (Prod.snd (Prod.snd x13_1))) 0 (fun _ => 0)) (Int.toNat (Prod.snd (Prod.snd (Prod.snd x13_1)))))))) (And.intro ?_ (And.intro ?_ (And.intro (.cons (HpDel.head).tail rfl (fun _ h => h) .nil) rfl)))))
       ·exact hx13.2
       ·rfl
      ·refine Xt_of_Qt rfl (lt_dec rfl) ((q_loadR rfl rfl (Rds.own m1) rfl rfl (by show _ < List.length _; omega) rfl rfl rfl)) ?_
       refine RA_one 4 rfl rfl (by kernel_rfl) (x_callT en_spec_l01Next rfl (w_spec_l01Next hc (And.left (And.left hx32)) (And.right (And.left hx32))) (HpDels.cons ((HpDel.head).tail).tail HpDels.nil) (Vw.rd m3) (fun _ => (HpDels.cons ((HpDel.head).tail).tail HpDels.nil)) (lt_dec rfl) fun x39_1 hx39 => ?_)
       refine RA_quiet (g := 1) [5, 6, 11] (by kernel_rfl) (by kernel_rfl) (by kernel_rfl) (by kernel_rfl) ?_
       refine WQ_cons rfl rfl rfl ((q_ixR (Prod.snd x39_1) rfl rfl rfl (Rds.own m1) rfl rfl (by have := hx39.2.2 (by omega); show _ < List.length _; omega) rfl)) (lt_dec rfl) ?_
       refine WQ_cons rfl rfl rfl ((q_loadR rfl rfl (Rds.own m1) rfl rfl (by have := hx39.2.2 (by omega); show _ < List.length _; omega) rfl rfl rfl)) (lt_dec rfl) ?_
       refine WQ_cons rfl rfl rfl ((q_call en_spec_l01Then rfl (w_spec_l01Then ((psC_ok (show psC (Prod.fst (Prod.snd (Prod.snd x13_1))) (Prod.snd (Prod.snd (Prod.snd x13_1))) = 0 by assumption)).1.at (by have := hx39.2.2 (by omega); omega))) (View.none _))) (lt_dec rfl) ?_
       refine WQ_nil ?_
       refine RA_one 12 rfl rfl (by kernel_rfl) (x_store rfl rfl rfl rfl rfl HpRep.head rfl (by first | trivial | (first | (first | omega | (dsimp only; omega)) | exact Fin.isLt _)) ?_)
       refine RA_done (by kernel_rfl) ?_
       refine W_seq ?_
       refine W_draw (by kernel_rfl) ?_
       show RA _ _ 6 _ _ _
       refine RA_quiet (g := 1) [0, 1, 2, 3, 4] (by kernel_rfl) (by kernel_rfl) (by kernel_rfl) (by kernel_rfl) ?_
       refine WQ_cons rfl rfl rfl ((p_move rfl).q) (lt_dec rfl) ?_
       refine WQ_cons rfl rfl rfl ((p_move rfl).q) (lt_dec rfl) ?_
       refine WQ_cons rfl rfl rfl ((q_load rfl rfl m0 rfl (by first | exact True.intro | omega | exact Fin.isLt _ | trivial | (dsimp only; omega)))) (lt_dec rfl) ?_
       refine WQ_cons rfl rfl rfl ((p_assign rfl).q) (lt_dec rfl) ?_
       refine WQ_cons rfl rfl rfl ((p_assign rfl).q) (lt_dec rfl) ?_
       refine WQ_nil ?_
       refine RA_one 5 rfl rfl (by kernel_rfl) (x_store rfl rfl rfl rfl rfl ((((HpRep.head).tail).tail).tail) rfl (by first | trivial | (first | (first | omega | (dsimp only; omega)) | exact Fin.isLt _)) ?_)
       refine RA_done (by kernel_rfl) ?_
       refine W_ret ?_
       refine Exists.intro _ (And.intro (.cons (.tmp rfl) (.cons (.tmp rfl) (.cons (.cell rfl rfl m3 rfl trivial) .nil))) (Exists.intro (Prod.fst (Prod.snd x13_1), ((Prod.fst (Prod.snd (Prod.snd x13_1))), ((Prod.snd (Prod.snd (Prod.snd x13_1))), (thenT (List.getD (Prod.fst (Prod.snd (Prod.snd x13_1))) (Prod.snd x39_1) (fun _ => 0)) (List.getD (Prod.fst (Prod.snd (Prod.snd x13_1))) 0 (fun _ => 0)) (Int.toNat (Prod.snd (Prod.snd (Prod.snd x13_1)))))))) (And.intro ?_ (And.intro ?_ (And.intro (.cons (HpDel.head).tail rfl (fun _ h => h) .nil) rfl)))))
       ·exact hx13.2
       ·rfl
     ·refine Xt_of_Qt rfl (lt_dec rfl) ((q_loadR rfl rfl (Rds.own m1) rfl rfl (by show _ < List.length _; omega) rfl rfl rfl)) ?_
      refine RA_quiet (g := 5) [3] (by kernel_rfl) (by kernel_rfl) (by kernel_rfl) (by kernel_rfl) ?_
      refine WQ_cons rfl rfl rfl (((q_lenR rfl rfl rfl (Rds.own m1)).eq (d' := .int .i64 (((Prod.fst (Prod.snd (Prod.snd x13_1))).length : Nat) : Int)) rfl)) (lt_dec rfl) ?_
      refine WQ_nil ?_
      refine RA_one 4 rfl rfl (by kernel_rfl) (x_callT en_spec_l01Next rfl (w_spec_l01Next hc (And.left (And.left hx32)) (And.right (And.left hx32))) (HpDels.cons ((HpDel.head).tail).tail HpDels.nil) (Vw.rd m3) (fun _ => (HpDels.cons ((HpDel.head).tail).tail HpDels.nil)) (lt_dec rfl) fun x39_1 hx39 => ?_)
      refine RA_quiet (g := 1) [5, 6, 11] (by kernel_rfl) (by kernel_rfl) (by kernel_rfl) (by kernel_rfl) ?_
      refine WQ_cons rfl rfl rfl ((q_ixR (Prod.snd x39_1) rfl rfl rfl (Rds.own m1) rfl rfl (by have := hx39.2.2 (by omega); show _ < List.length _; omega) rfl)) (lt_dec rfl) ?_
      refine WQ_cons rfl rfl rfl ((q_loadR rfl rfl (Rds.own m1) rfl rfl (by have := hx39.2.2 (by omega); show _ < List.length _; omega) rfl rfl rfl)) (lt_dec rfl) ?_
      refine WQ_cons rfl rfl rfl ((q_call en_spec_l01Then rfl (w_spec_l01Then ((psC_ok (show psC (Prod.fst (Prod.snd (Prod.snd x13_1))) (Prod.snd (Prod.snd (Prod.snd x13_1))) = 0 by assumption)).1.at (by have := hx39.2.2 (by omega); omega))) (View.none _))) (lt_dec rfl) ?_
      refine WQ_nil ?_
      refine RA_one 12 rfl rfl (by kernel_rfl) (x_store rfl rfl rfl rfl rfl HpRep.head rfl (by first | trivial | (first | (first | omega | (dsimp only; omega)) | exact Fin.isLt _)) ?_)
      refine RA_done (by kernel_rfl) ?_
      refine W_seq ?_
      refine W_draw (by kernel_rfl) ?_
      show RA _ _ 6 _ _ _
      refine RA_quiet (g := 1) [0, 1, 2, 3, 4] (by kernel_rfl) (by kernel_rfl) (by kernel_rfl) (by kernel_rfl) ?_
      refine WQ_cons rfl rfl rfl ((p_move rfl).q) (lt_dec rfl) ?_
      refine WQ_cons rfl rfl rfl ((p_move rfl).q) (lt_dec rfl) ?_
      refine WQ_cons rfl rfl rfl ((q_load rfl rfl m0 rfl (by first | exact True.intro | omega | exact Fin.isLt _ | trivial | (dsimp only; omega)))) (lt_dec rfl) ?_
      refine WQ_cons rfl rfl rfl ((p_assign rfl).q) (lt_dec rfl) ?_
      refine WQ_cons rfl rfl rfl ((p_assign rfl).q) (lt_dec rfl) ?_
      refine WQ_nil ?_
      refine RA_one 5 rfl rfl (by kernel_rfl) (x_store rfl rfl rfl rfl rfl ((((HpRep.head).tail).tail).tail) rfl (by first | trivial | (first | (first | omega | (dsimp only; omega)) | exact Fin.isLt _)) ?_)
      refine RA_done (by kernel_rfl) ?_
      refine W_ret ?_
      refine Exists.intro _ (And.intro (.cons (.tmp rfl) (.cons (.tmp rfl) (.cons (.cell rfl rfl m3 rfl trivial) .nil))) (Exists.intro (Prod.fst (Prod.snd x13_1), ((Prod.fst (Prod.snd (Prod.snd x13_1))), ((Prod.snd (Prod.snd (Prod.snd x13_1))), (thenT (List.getD (Prod.fst (Prod.snd (Prod.snd x13_1))) (Prod.snd x39_1) (fun _ => 0)) (List.getD (Prod.fst (Prod.snd (Prod.snd x13_1))) 0 (fun _ => 0)) (Int.toNat (Prod.snd (Prod.snd (Prod.snd x13_1)))))))) (And.intro ?_ (And.intro ?_ (And.intro (.cons (HpDel.head).tail rfl (fun _ h => h) .nil) rfl)))))
      ·exact hx13.2
      ·rfl
   ·try simp only [bs] at h1
    refine W_skip ?_
    refine W_seq ?_
    refine W_draw (by kernel_rfl) ?_
    show RA _ _ 6 _ _ _
    refine RA_quiet (g := 1) [0, 1, 2, 3, 4] (by kernel_rfl) (by kernel_rfl) (by kernel_rfl) (by kernel_rfl) ?_
    refine WQ_cons rfl rfl rfl ((p_move rfl).q) (lt_dec rfl) ?_
    refine WQ_cons rfl rfl rfl ((p_move rfl).q) (lt_dec rfl) ?_
    refine WQ_cons rfl rfl rfl ((q_load rfl rfl m0 rfl (by first | exact True.intro | omega | exact Fin.isLt _ | trivial | (dsimp only; omega)))) (lt_dec rfl) ?_
    refine WQ_cons rfl rfl rfl ((p_assign rfl).q) (lt_dec rfl) ?_
    refine WQ_cons rfl rfl rfl ((p_assign rfl).q) (lt_dec rfl) ?_
    refine WQ_nil ?_
    refine RA_one 5 rfl rfl (by kernel_rfl) (x_store rfl rfl rfl rfl rfl ((((HpRep.head).tail).tail).tail) rfl (by first | trivial | (first | (first | omega | (dsimp only; omega)) | exact Fin.isLt _)) ?_)
    refine RA_done (by kernel_rfl) ?_
    refine W_ret ?_
    refine Exists.intro _ (And.intro (.cons (.tmp rfl) (.cons (.tmp rfl) (.cons (.cell rfl rfl m3 rfl trivial) .nil))) (Exists.intro (Prod.fst (Prod.snd x13_1), ((Prod.fst (Prod.snd (Prod.snd x13_1))), ((Prod.snd (Prod.snd (Prod.snd x13_1))), (Prod.snd x20_1)))) (And.intro ?_ (And.intro ?_ (And.intro (.cons (HpDel.head).tail rfl (fun _ h => h) .nil) rfl)))))
    ·exact hx13.2
    ·rfl
  ·try simp only [bs] at hg2
   refine Ops_guard_f rfl rfl rfl (lt_dec rfl) ?_
   refine Ops_guard_f rfl rfl rfl (lt_dec rfl) ?_
   refine Ops_p (p_pick_f rfl rfl) (lt_dec rfl) ?_
   refine Ops_nil ?_
   refine W_false rfl ?_
   refine W_skip ?_
   refine W_seq ?_
   refine W_draw (by kernel_rfl) ?_
   show RA _ _ 6 _ _ _
   refine RA_quiet (g := 1) [0, 1, 2, 3, 4] (by kernel_rfl) (by kernel_rfl) (by kernel_rfl) (by kernel_rfl) ?_
   refine WQ_cons rfl rfl rfl ((p_move rfl).q) (lt_dec rfl) ?_
   refine WQ_cons rfl rfl rfl ((p_move rfl).q) (lt_dec rfl) ?_
   refine WQ_cons rfl rfl rfl ((q_load rfl rfl m0 rfl (by first | exact True.intro | omega | exact Fin.isLt _ | trivial | (dsimp only; omega)))) (lt_dec rfl) ?_
   refine WQ_cons rfl rfl rfl ((p_assign rfl).q) (lt_dec rfl) ?_
   refine WQ_cons rfl rfl rfl ((p_assign rfl).q) (lt_dec rfl) ?_
   refine WQ_nil ?_
   refine RA_one 5 rfl rfl (by kernel_rfl) (x_store rfl rfl rfl rfl rfl ((((HpRep.head).tail).tail).tail) rfl (by first | trivial | (first | (first | omega | (dsimp only; omega)) | exact Fin.isLt _)) ?_)
   refine RA_done (by kernel_rfl) ?_
   refine W_ret ?_
   refine Exists.intro _ (And.intro (.cons (.tmp rfl) (.cons (.tmp rfl) (.cons (.cell rfl rfl m3 rfl trivial) .nil))) (Exists.intro (Prod.fst (Prod.snd x13_1), ((Prod.fst (Prod.snd (Prod.snd x13_1))), ((Prod.snd (Prod.snd (Prod.snd x13_1))), (Prod.snd x20_1)))) (And.intro ?_ (And.intro ?_ (And.intro (.cons (HpDel.head).tail rfl (fun _ h => h) .nil) rfl)))))
   ·exact hx13.2
   ·rfl
 ·try simp only [bs] at hg1
  refine Ops_guard_f rfl rfl rfl (lt_dec rfl) ?_
  refine Ops_guard_f rfl rfl rfl (lt_dec rfl) ?_
  refine Ops_guard_f rfl rfl rfl (lt_dec rfl) ?_
  refine Ops_p (p_pick_f rfl rfl) (lt_dec rfl) ?_
  refine o_mv rfl rfl ?_
  refine Ops_guard_f rfl rfl rfl (lt_dec rfl) ?_
  refine Ops_guard_f rfl rfl rfl (lt_dec rfl) ?_
  refine Ops_guard_f rfl rfl rfl (lt_dec rfl) ?_
  refine Ops_p (p_pick_f rfl rfl) (lt_dec rfl) ?_
  refine Ops_nil ?_
  refine W_false rfl ?_
  refine W_skip ?_
  refine W_seq ?_
  refine W_draw (by kernel_rfl) ?_
  show RA _ _ 6 _ _ _
  refine RA_quiet (g := 1) [0, 1, 2, 3, 4] (by kernel_rfl) (by kernel_rfl) (by kernel_rfl) (by kernel_rfl) ?_
  refine WQ_cons rfl rfl rfl ((p_move rfl).q) (lt_dec rfl) ?_
  refine WQ_cons rfl rfl rfl ((p_move rfl).q) (lt_dec rfl) ?_
  refine WQ_cons rfl rfl rfl ((q_load rfl rfl m0 rfl (by first | exact True.intro | omega | exact Fin.isLt _ | trivial | (dsimp only; omega)))) (lt_dec rfl) ?_
  refine WQ_cons rfl rfl rfl ((p_assign rfl).q) (lt_dec rfl) ?_
  refine WQ_cons rfl rfl rfl ((p_assign rfl).q) (lt_dec rfl) ?_
  refine WQ_nil ?_
  refine RA_one 5 rfl rfl (by kernel_rfl) (x_store rfl rfl rfl rfl rfl ((((HpRep.head).tail).tail).tail) rfl (by first | trivial | (first | (first | omega | (dsimp only; omega)) | exact Fin.isLt _)) ?_)
  refine RA_done (by kernel_rfl) ?_
  refine W_ret ?_
  refine Exists.intro _ (And.intro (.cons (.tmp rfl) (.cons (.tmp rfl) (.cons (.cell rfl rfl m3 rfl trivial) .nil))) (Exists.intro (Prod.fst (Prod.snd x13_1), ((Prod.fst (Prod.snd (Prod.snd x13_1))), ((Prod.snd (Prod.snd (Prod.snd x13_1))), (Prod.snd x20_1)))) (And.intro ?_ (And.intro ?_ (And.intro (.cons (HpDel.head).tail rfl (fun _ h => h) .nil) rfl)))))
  ·exact hx13.2
  ·rfl
end Go.Proofs.Ytjihhcjpbcmjaaa
end
section
namespace Go.Proofs.Ytjihhcjpbcmjaaa
open Go Gx
set_option linter.unusedVariables false
theorem en_spec_l01Cyclic : Enters Try.prog 80 := enters_of Try.func80 (by kernel_rfl) (by kernel_rfl)
set_option maxRecDepth 100000 in
theorem w_spec_l01Cyclic {n : Int} (hn : 1 ≤ n ∧ n ≤ 10) : CR Try.prog 80 (vals [.int .i64 n]) [] (.agg [.int .i64 n, .arr8 100 (part (n).toNat (cyc n) (n).toNat 0)]) := by
 refine CR_intro (rs := [.cell 2 76]) tt tok Try.func80 rfl rfl rfl (by first | rfl | assumption) fun w => ?_
 refine W_seq ?_
 refine W_region ?_
 refine Ops_x rfl (x_alloc rfl (lt_dec rfl) fun b2_1 => ?_)
 refine Ops_nil ?_
 refine W_seq ?_
 refine W_region ?_
 refine o_mv rfl rfl ?_
 refine Ops_p (p_build rfl rfl rfl rfl (by first | exact True.intro | omega | exact Fin.isLt _ | trivial | (dsimp only; omega))) (lt_dec rfl) ?_
 refine Ops_x rfl (x_alloc rfl (lt_dec rfl) fun b3_1 => ?_)
 refine Ops_x rfl (x_store rfl rfl rfl rfl rfl HpRep.head rfl (by first | trivial | (first | (first | omega | (dsimp only; omega)) | exact Fin.isLt _)) ?_)
 refine Ops_nil ?_
 refine W_seq ?_
 refine W_seq ?_
 refine W_region ?_
 refine o_as rfl rfl ?_
 refine Ops_nil ?_
 refine W_block ?_
 refine W_loop (α := Nat) (fun x => ⟨[(0, .int .i64 n), (2, .ptr b2_1 0 none), (3, .ptr b3_1 0 none), (4, .int .i64 (x : Int))], [.var b3_1 (.agg [.int .i64 n, .arr8 100 (part (n).toNat (cyc n) x 0)]), .var b2_1 (.agg [.int .i64 0, .arr8 100 fun _ => 0])]⟩) (fun x => x ≤ (n).toNat) (fun x => (n).toNat - x) 0 ?_ ?_ ?_
 ·show _ ≤ _; omega
 ·exact Wk.intro (.c rfl (.c rfl (.c rfl (.cons rfl (by first | rfl | exact veq_int (by first | omega | (dsimp only; omega))) .nil)))) (.keep rfl rfl (imp_var (by exact ceq_cons rfl (ceq_cons (ceq_arr8 fun k _ => (part_zero k).symm) rfl)) rfl) (.keep rfl rfl (fun _ h => h) .nil))
 ·rintro x hR
  refine W_seq ?_
  refine W_seq ?_
  refine W_region ?_
  refine o_mv rfl rfl ?_
  refine o_mv rfl rfl ?_
  refine Ops_p (p_lss rfl rfl) (lt_dec rfl) ?_
  refine Ops_nil ?_
  refine W_cond rfl (fun h1 => ?_) (fun h1 => ?_)
  ·try simp only [bs] at h1
   refine W_skip ?_
   refine W_seq ?_
   refine W_block ?_
   refine W_seq ?_
   refine W_region ?_
   refine o_as rfl rfl ?_
   refine Ops_nil ?_
   refine W_block ?_
   refine W_loop (α := Nat) (fun y => ⟨[(0, .int .i64 n), (2, .ptr b2_1 0 none), (3, .ptr b3_1 0 none), (4, .int .i64 (x : Int)), (5, .int .i64 (y : Int))], [.var b3_1 (.agg [.int .i64 n, .arr8 100 (part (n).toNat (cyc n) x y)]), .var b2_1 (.agg [.int .i64 0, .arr8 100 fun _ => 0])]⟩) (fun y => y ≤ (n).toNat) (fun y => (n).toNat - y) 0 ?_ ?_ ?_
   ·show _ ≤ _; omega
   ·exact Wk.intro (.c rfl (.c rfl (.c rfl (.c rfl (.cons rfl (by first | rfl | exact veq_int (by first | omega | (dsimp only; omega))) .nil))))) (.keep rfl rfl (imp_var (by rfl) rfl) (.keep rfl rfl (fun _ h => h) .nil))
   ·rintro y hR
    refine W_seq ?_
    refine W_seq ?_
    refine W_region ?_
    refine o_mv rfl rfl ?_
    refine o_mv rfl rfl ?_
    refine Ops_p (p_lss rfl rfl) (lt_dec rfl) ?_
    refine Ops_nil ?_
    refine W_cond rfl (fun h2 => ?_) (fun h2 => ?_)
    ·try simp only [bs] at h2
     refine W_skip ?_
     refine W_seq ?_
     refine W_block ?_
     refine W_draw (by kernel_rfl) ?_
     show RA _ _ 12 _ _ _
     refine RA_quiet (g := 1) [0, 1, 2, 3, 4, 5, 6, 7, 8, 9, 10] (by kernel_rfl) (by kernel_rfl) (by kernel_rfl) (by kernel_rfl) ?_
     refine WQ_cons rfl rfl rfl ((p_move rfl).q) (lt_dec rfl) ?_
     refine WQ_cons rfl rfl rfl ((p_move rfl).q) (lt_dec rfl) ?_
     refine WQ_cons rfl rfl rfl ((p_move rfl).q) (lt_dec rfl) ?_
     refine WQ_cons rfl rfl rfl ((p_move rfl).q) (lt_dec rfl) ?_
     refine WQ_cons rfl rfl rfl ((p_add rfl rfl (by refine ⟨?_, ?_⟩ <;> first | omega | (dsimp only; omega))).q) (lt_dec rfl) ?_
     refine WQ_cons rfl rfl rfl ((p_move rfl).q) (lt_dec rfl) ?_
     refine WQ_cons rfl rfl rfl ((p_rem rfl rfl (by first | omega | (dsimp only; omega)) (by first | omega | (dsimp only; omega))).q) (lt_dec rfl) ?_
     refine WQ_cons rfl rfl rfl ((p_conv rfl rfl rfl (mod_u8 (by omega) (by omega))).q) (lt_dec rfl) ?_
     refine WQ_cons rfl rfl rfl ((p_fieldAddr rfl rfl rfl rfl rfl rfl).q) (lt_dec rfl) ?_
     refine WQ_cons rfl rfl rfl ((p_ixN 10 _ rfl rfl rfl rfl rfl rfl (by first | omega | exact Fin.isLt _ | (dsimp only; omega))).q) (lt_dec rfl) ?_
     first | refine WQ_cons rfl rfl rfl ((p_ix1 _ rfl rfl rfl rfl rfl rfl (by first | omega | exact Fin.isLt _ | (dsimp only; omega))).q) (lt_dec rfl) ?_ | refine WQ_cons rfl rfl rfl ((p_ix1s _ rfl rfl rfl rfl rfl rfl (by first | omega | exact Fin.isLt _ | (dsimp only; omega))).q) (lt_dec rfl) ?_
     refine WQ_nil ?_
     refine RA_one 11 rfl rfl (by kernel_rfl) (x_store rfl rfl rfl rfl rfl HpRep.head rfl (by first | trivial | (exact mod_st (by omega) (by omega) (by omega))) ?_)
     refine RA_done (by kernel_rfl) ?_
     refine W_region ?_
     refine o_mv rfl rfl ?_
     refine Ops_p (p_add rfl rfl (by refine ⟨?_, ?_⟩ <;> first | omega | (dsimp only; omega))) (lt_dec rfl) ?_
     refine o_as rfl rfl ?_
     refine Ops_nil ?_
     refine Exists.intro (y + 1) (And.intro ?_ (And.intro ?_ ?_))
     ·show _ ≤ _; omega
     ·show _ < _; omega
     ·exact Wk.intro (.c rfl (.c rfl (.c rfl (.c rfl (.cons rfl (by first | rfl | exact veq_int (by first | omega | (dsimp only; omega))) .nil))))) (.keep rfl rfl (imp_var (by exact ceq_cons rfl (ceq_cons (ceq_arr8 fun k _ => part_step (by omega) k) rfl)) rfl) (.keep rfl rfl (fun _ h => h) .nil))
    ·try simp only [bs] at h2
     obtain rfl : y = (n).toNat := (by omega)
     refine W_exit ?_
     refine W_region ?_
     refine o_mv rfl rfl ?_
     refine Ops_p (p_add rfl rfl (by refine ⟨?_, ?_⟩ <;> first | omega | (dsimp only; omega))) (lt_dec rfl) ?_
     refine o_as rfl rfl ?_
     refine Ops_nil ?_
     refine Exists.intro (x + 1) (And.intro ?_ (And.intro ?_ ?_))
     ·show _ ≤ _; omega
     ·show _ < _; omega
     ·exact Wk.intro (.c rfl (.c rfl (.c rfl (.cons rfl (by first | rfl | exact veq_int (by first | omega | (dsimp only; omega))) .nil)))) (.keep rfl rfl (imp_var (by exact ceq_cons rfl (ceq_cons (ceq_arr8 fun k _ => part_row k) rfl)) rfl) (.keep rfl rfl (fun _ h => h) .nil))
  ·try simp only [bs] at h1
   obtain rfl : x = (n).toNat := (by omega)
   refine W_exit ?_
   refine W_seq ?_
   refine W_region ?_
   refine Ops_q (q_load rfl rfl m0 rfl (by first | exact True.intro | omega | exact Fin.isLt _ | trivial | (dsimp only; omega))) (lt_dec rfl) ?_
   refine Ops_x rfl (x_store rfl rfl rfl rfl rfl ((HpRep.head).tail) rfl (by first | trivial | (first | (first | omega | (dsimp only; omega)) | exact Fin.isLt _)) ?_)
   refine Ops_nil ?_
   refine W_ret ?_
   refine Exists.intro _ (And.intro (.cons (.cell rfl rfl m1 rfl trivial) .nil) ?_)
   rfl
end Go.Proofs.Ytjihhcjpbcmjaaa
end
section
namespace Go.Proofs.Ytjihhcjpbcmjaaa
open Go Gx
set_option linter.unusedVariables false
theorem en_spec_l01Direct : Enters Try.prog 79 := enters_of Try.func79 (by kernel_rfl) (by kernel_rfl)
set_option maxRecDepth 100000 in
theorem w_spec_l01Direct {n m : Int} {t u : Nat → Fin 256} (hs1 : SqP n t) (hs2 : SqP m u) (hnm : n * m ≤ 10) : CR Try.prog 79 (vals [.agg [.int .i64 n, .arr8 100 t], .agg [.int .i64 m, .arr8 100 u]]) [] (.agg [.int .i64 (n * m), .arr8 100 (part (n * m).toNat (dir m t u) (n * m).toNat 0)]) := by
 refine CR_intro (rs := [.cell 4 76]) tt tok Try.func79 rfl rfl rfl (by first | rfl | assumption) fun w => ?_
 have hn := hs1.1
 have hm := hs2.1
 have hp := mul_b hn hm
 refine W_seq ?_
 refine W_region ?_
 refine Ops_x rfl (x_box rfl rfl (lt_dec rfl) fun b2_1 => ?_)
 refine Ops_x rfl (x_box rfl rfl (lt_dec rfl) fun b3_1 => ?_)
 refine Ops_x rfl (x_alloc rfl (lt_dec rfl) fun b4_1 => ?_)
 refine Ops_nil ?_
 refine W_seq ?_
 refine W_region ?_
 refine Ops_p (p_fieldAddr rfl rfl rfl rfl rfl rfl) (lt_dec rfl) ?_
 refine Ops_q (q_load rfl rfl m1 rfl (by first | exact True.intro | omega | exact Fin.isLt _ | trivial | (dsimp only; omega))) (lt_dec rfl) ?_
 refine o_as rfl rfl ?_
 refine Ops_nil ?_
 refine W_seq ?_
 refine W_region ?_
 refine Ops_p (p_fieldAddr rfl rfl rfl rfl rfl rfl) (lt_dec rfl) ?_
 refine Ops_q (q_load rfl rfl m2 rfl (by first | exact True.intro | omega | exact Fin.isLt _ | trivial | (dsimp only; omega))) (lt_dec rfl) ?_
 refine o_mv rfl rfl ?_
 refine Ops_p (p_mul rfl rfl (by refine ⟨?_, ?_⟩ <;> first | omega | (dsimp only; omega))) (lt_dec rfl) ?_
 refine Ops_p (p_build rfl rfl rfl rfl (by first | exact True.intro | omega | exact Fin.isLt _ | trivial | (dsimp only; omega))) (lt_dec rfl) ?_
 refine Ops_x rfl (x_alloc rfl (lt_dec rfl) fun b6_1 => ?_)
 refine Ops_x rfl (x_store rfl rfl rfl rfl rfl HpRep.head rfl (by first | trivial | (first | (first | omega | (dsimp only; omega)) | exact Fin.isLt _)) ?_)
 refine Ops_nil ?_
 refine W_seq ?_
 refine W_seq ?_
 refine W_region ?_
 refine o_as rfl rfl ?_
 refine Ops_nil ?_
 refine W_block ?_
 refine W_loop (α := Nat) (fun x => ⟨[(0, .agg [.int .i64 n, .arr8 100 t]), (1, .agg [.int .i64 m, .arr8 100 u]), (2, .ptr b2_1 0 none), (3, .ptr b3_1 0 none), (4, .ptr b4_1 0 none), (5, .int .i64 m), (6, .ptr b6_1 0 none), (7, .int .i64 (x : Int))], [.var b6_1 (.agg [.int .i64 (n * m), .arr8 100 (part ((n * m)).toNat (dir m t u) x 0)]), .var b4_1 (.agg [.int .i64 0, .arr8 100 fun _ => 0]), .var b3_1 (.agg [.int .i64 m, .arr8 100 u]), .var b2_1 (.agg [.int .i64 n, .arr8 100 t])]⟩) (fun x => x ≤ ((n * m)).toNat) (fun x => ((n * m)).toNat - x) 0 ?_ ?_ ?_
 ·show _ ≤ _; omega
 ·exact Wk.intro (.c rfl (.c rfl (.c rfl (.c rfl (.c rfl (.c rfl (.c rfl (.cons rfl (by first | rfl | exact veq_int (by first | omega | (dsimp only; omega))) .nil)))))))) (.keep rfl rfl (imp_var (by exact ceq_cons rfl (ceq_cons (ceq_arr8 fun k _ => (part_zero k).symm) rfl)) rfl) (.keep rfl rfl (fun _ h => h) (.keep rfl rfl (fun _ h => h) (.keep rfl rfl (fun _ h => h) .nil))))
 ·rintro x hR
  refine W_seq ?_
  refine W_seq ?_
  refine W_region ?_
  refine o_mv rfl rfl ?_
  refine Ops_p (p_fieldAddr rfl rfl rfl rfl rfl rfl) (lt_dec rfl) ?_
  refine Ops_q (q_load rfl rfl m0 rfl (by first | exact True.intro | omega | exact Fin.isLt _ | trivial | (dsimp only; omega))) (lt_dec rfl) ?_
  refine Ops_p (p_lss rfl rfl) (lt_dec rfl) ?_
  refine Ops_nil ?_
  refine W_cond rfl (fun h1 => ?_) (fun h1 => ?_)
  ·try simp only [bs] at h1
   refine W_skip ?_
   refine W_seq ?_
   refine W_block ?_
   refine W_seq ?_
   refine W_region ?_
   refine o_as rfl rfl ?_
   refine Ops_nil ?_
   refine W_block ?_
   refine W_loop (α := Nat) (fun y => ⟨[(0, .agg [.int .i64 n, .arr8 100 t]), (1, .agg [.int .i64 m, .arr8 100 u]), (2, .ptr b2_1 0 none), (3, .ptr b3_1 0 none), (4, .ptr b4_1 0 none), (5, .int .i64 m), (6, .ptr b6_1 0 none), (7, .int .i64 (x : Int)), (8, .int .i64 (y : Int))], [.var b6_1 (.agg [.int .i64 (n * m), .arr8 100 (part ((n * m)).toNat (dir m t u) x y)]), .var b4_1 (.agg [.int .i64 0, .arr8 100 fun _ => 0]), .var b3_1 (.agg [.int .i64 m, .arr8 100 u]), .var b2_1 (.agg [.int .i64 n, .arr8 100 t])]⟩) (fun y => y ≤ ((n * m)).toNat) (fun y => ((n * m)).toNat - y) 0 ?_ ?_ ?_
   ·show _ ≤ _; omega
   ·exact Wk.intro (.c rfl (.c rfl (.c rfl (.c rfl (.c rfl (.c rfl (.c rfl (.c rfl (.cons rfl (by first | rfl | exact veq_int (by first | omega | (dsimp only; omega))) .nil))))))))) (.keep rfl rfl (imp_var (by rfl) rfl) (.keep rfl rfl (fun _ h => h) (.keep rfl rfl (fun _ h => h) (.keep rfl rfl (fun _ h => h) .nil))))
   ·rintro y hR
    refine W_seq ?_
    refine W_seq ?_
    refine W_region ?_
    refine o_mv rfl rfl ?_
    refine Ops_p (p_fieldAddr rfl rfl rfl rfl rfl rfl) (lt_dec rfl) ?_
    refine Ops_q (q_load rfl rfl m0 rfl (by first | exact True.intro | omega | exact Fin.isLt _ | trivial | (dsimp only; omega))) (lt_dec rfl) ?_
    refine Ops_p (p_lss rfl rfl) (lt_dec rfl) ?_
    refine Ops_nil ?_
    refine W_cond rfl (fun h2 => ?_) (fun h2 => ?_)
    ·try simp only [bs] at h2
     have q1 := divlt (x := x) (n := n) hm.1 (by omega); have q2 := divlt (x := y) (n := n) hm.1 (by omega); have q3 := modlt (x := x) hm.1; have q4 := modlt (x := y) hm.1; have f1 := sq_lt hs1 q1 q2; have f2 := sq_lt hs2 q3 q4; have vb := val_lt (n := n) (m := m) hm.1 (Int.natCast_nonneg (t (10 * (x / m.toNat) + y / m.toNat)).val) f1 (Int.natCast_nonneg (u (10 * (x % m.toNat) + y % m.toNat)).val) f2 hnm
     refine W_skip ?_
     refine W_seq ?_
     refine W_block ?_
     refine W_seq ?_
     refine W_draw (by kernel_rfl) ?_
     show RA _ _ 22 _ _ _
     refine RA_quietF [0, 1, 2, 3, 4, 5, 6, 7, 8, 9, 10, 11, 12, 13, 14, 15, 16, 17, 18, 19, 20, 21] rfl rfl rfl (by kernel_rfl) (by kernel_rfl) ?_
     refine WQ_cons rfl rfl rfl ((p_move rfl).q) (lt_dec rfl) ?_
     refine WQ_cons rfl rfl rfl ((p_move rfl).q) (lt_dec rfl) ?_
     refine WQ_cons rfl rfl rfl ((p_quo rfl rfl (by omega) (by omega) (quoD_in (.inl rfl) (by omega) (by omega))).q) (lt_dec rfl) ?_
     refine WQ_cons rfl rfl rfl ((p_move rfl).q) (lt_dec rfl) ?_
     refine WQ_cons rfl rfl rfl ((p_move rfl).q) (lt_dec rfl) ?_
     refine WQ_cons rfl rfl rfl ((p_quo rfl rfl (by omega) (by omega) (quoD_in (.inl rfl) (by omega) (by omega))).q) (lt_dec rfl) ?_
     refine WQ_cons rfl rfl rfl ((p_fieldAddr rfl rfl rfl rfl rfl rfl).q) (lt_dec rfl) ?_
     refine WQ_cons rfl rfl rfl ((p_ixN 10 (x / m.toNat) rfl rfl rfl rfl rfl (divj (by omega)) (by first | omega | exact Fin.isLt _ | (dsimp only; omega))).q) (lt_dec rfl) ?_
     first | refine WQ_cons rfl rfl rfl ((p_ix1 (y / m.toNat) rfl rfl rfl rfl rfl (divj (by omega)) (by first | omega | exact Fin.isLt _ | (dsimp only; omega))).q) (lt_dec rfl) ?_ | refine WQ_cons rfl rfl rfl ((p_ix1s (y / m.toNat) rfl rfl rfl rfl rfl (divj (by omega)) (by first | omega | exact Fin.isLt _ | (dsimp only; omega))).q) (lt_dec rfl) ?_
     refine WQ_cons rfl rfl rfl ((q_load rfl rfl m3 rfl (by first | exact True.intro | omega | exact Fin.isLt _ | trivial | (dsimp only; omega)))) (lt_dec rfl) ?_
     refine WQ_cons rfl rfl rfl ((p_move rfl).q) (lt_dec rfl) ?_
     refine WQ_cons rfl rfl rfl ((p_move rfl).q) (lt_dec rfl) ?_
     refine WQ_cons rfl rfl rfl ((p_rem rfl rfl (by first | omega | (dsimp only; omega)) (by first | omega | (dsimp only; omega))).q) (lt_dec rfl) ?_
     refine WQ_cons rfl rfl rfl ((p_move rfl).q) (lt_dec rfl) ?_
     refine WQ_cons rfl rfl rfl ((p_move rfl).q) (lt_dec rfl) ?_
     refine WQ_cons rfl rfl rfl ((p_rem rfl rfl (by first | omega | (dsimp only; omega)) (by first | omega | (dsimp only; omega))).q) (lt_dec rfl) ?_
     refine WQ_cons rfl rfl rfl ((p_fieldAddr rfl rfl rfl rfl rfl rfl).q) (lt_dec rfl) ?_
     refine WQ_cons rfl rfl rfl ((p_ixN 10 (x % m.toNat) rfl rfl rfl rfl rfl (modj (by omega)) (by first | omega | exact Fin.isLt _ | (dsimp only; omega))).q) (lt_dec rfl) ?_
     first | refine WQ_cons rfl rfl rfl ((p_ix1 (y % m.toNat) rfl rfl rfl rfl rfl (modj (by omega)) (by first | omega | exact Fin.isLt _ | (dsimp only; omega))).q) (lt_dec rfl) ?_ | refine WQ_cons rfl rfl rfl ((p_ix1s (y % m.toNat) rfl rfl rfl rfl rfl (modj (by omega)) (by first | omega | exact Fin.isLt _ | (dsimp only; omega))).q) (lt_dec rfl) ?_
     refine WQ_cons rfl rfl rfl ((q_load rfl rfl m2 rfl (by first | exact True.intro | omega | exact Fin.isLt _ | trivial | (dsimp only; omega)))) (lt_dec rfl) ?_
     refine WQ_cons rfl rfl rfl ((p_assign rfl).q) (lt_dec rfl) ?_
     refine WQ_cons rfl rfl rfl ((p_assign rfl).q) (lt_dec rfl) ?_
     refine WQ_nil ?_
     refine W_region ?_
     refine o_mv rfl rfl ?_
     refine o_mv rfl rfl ?_
     refine o_mv rfl rfl ?_
     refine Ops_p (p_conv rfl rfl rfl (by exact ⟨(by first | omega | (dsimp only; omega)), (by first | omega | (dsimp only; omega))⟩)) (lt_dec rfl) ?_
     refine o_mv rfl rfl ?_
     refine Ops_p (p_mul rfl rfl (by refine ⟨?_, ?_⟩ <;> first | omega | (dsimp only; omega))) (lt_dec rfl) ?_
     refine o_mv rfl rfl ?_
     refine Ops_p (p_add rfl rfl (by refine ⟨?_, ?_⟩ <;> first | omega | (dsimp only; omega))) (lt_dec rfl) ?_
     refine Ops_p (p_fieldAddr rfl rfl rfl rfl rfl rfl) (lt_dec rfl) ?_
     refine Ops_p (p_ixN 10 _ rfl rfl rfl rfl rfl rfl (by first | omega | exact Fin.isLt _ | (dsimp only; omega))) (lt_dec rfl) ?_
     first | refine Ops_p (p_ix1 _ rfl rfl rfl rfl rfl rfl (by first | omega | exact Fin.isLt _ | (dsimp only; omega))) (lt_dec rfl) ?_ | refine Ops_p (p_ix1s _ rfl rfl rfl rfl rfl rfl (by first | omega | exact Fin.isLt _ | (dsimp only; omega))) (lt_dec rfl) ?_
     refine Ops_x rfl (x_store rfl rfl rfl rfl rfl HpRep.head rfl (by first | trivial | (first | (first | omega | (dsimp only; omega)) | exact Fin.isLt _)) ?_)
     refine Ops_nil ?_
     refine W_region ?_
     refine o_mv rfl rfl ?_
     refine Ops_p (p_add rfl rfl (by refine ⟨?_, ?_⟩ <;> first | omega | (dsimp only; omega))) (lt_dec rfl) ?_
     refine o_as rfl rfl ?_
     refine Ops_nil ?_
     refine Exists.intro (y + 1) (And.intro ?_ (And.intro ?_ ?_))
     ·show _ ≤ _; omega
     ·show _ < _; omega
     ·exact Wk.intro (.c rfl (.c rfl (.c rfl (.c rfl (.c rfl (.c rfl (.c rfl (.c rfl (.cons rfl (by first | rfl | exact veq_int (by first | omega | (dsimp only; omega))) .nil))))))))) (.keep rfl rfl (imp_var (by exact ceq_cons rfl (ceq_cons (ceq_arr8 fun k _ => part_step (by omega) k) rfl)) rfl) (.keep rfl rfl (fun _ h => h) (.keep rfl rfl (fun _ h => h) (.keep rfl rfl (fun _ h => h) .nil))))
    ·try simp only [bs] at h2
     obtain rfl : y = ((n * m)).toNat := (by omega)
     refine W_exit ?_
     refine W_region ?_
     refine o_mv rfl rfl ?_
     refine Ops_p (p_add rfl rfl (by refine ⟨?_, ?_⟩ <;> first | omega | (dsimp only; omega))) (lt_dec rfl) ?_
     refine o_as rfl rfl ?_
     refine Ops_nil ?_
     refine Exists.intro (x + 1) (And.intro ?_ (And.intro ?_ ?_))
     ·show _ ≤ _; omega
     ·show _ < _; omega
     ·exact Wk.intro (.c rfl (.c rfl (.c rfl (.c rfl (.c rfl (.c rfl (.c rfl (.cons rfl (by first | rfl | exact veq_int (by first | omega | (dsimp only; omega))) .nil)))))))) (.keep rfl rfl (imp_var (by exact ceq_cons rfl (ceq_cons (ceq_arr8 fun k _ => part_row k) rfl)) rfl) (.keep rfl rfl (fun _ h => h) (.keep rfl rfl (fun _ h => h) (.keep rfl rfl (fun _ h => h) .nil))))
  ·try simp only [bs] at h1
   obtain rfl : x = ((n * m)).toNat := (by omega)
   refine W_exit ?_
   refine W_seq ?_
   refine W_region ?_
   refine Ops_q (q_load rfl rfl m0 rfl (by first | exact True.intro | omega | exact Fin.isLt _ | trivial | (dsimp only; omega))) (lt_dec rfl) ?_
   refine Ops_x rfl (x_store rfl rfl rfl rfl rfl ((HpRep.head).tail) rfl (by first | trivial | (first | (first | omega | (dsimp only; omega)) | exact Fin.isLt _)) ?_)
   refine Ops_nil ?_
   refine W_ret ?_
   refine Exists.intro _ (And.intro (.cons (.cell rfl rfl m1 rfl trivial) .nil) ?_)
   rfl
end Go.Proofs.Ytjihhcjpbcmjaaa
end
section
namespace Go.Proofs.Ytjihhcjpbcmjaaa
open Go Gx
set_option linter.unusedVariables false
theorem en_spec_l01Elementary : Enters Try.prog 78 := enters_of Try.func78 (by kernel_rfl) (by kernel_rfl)
set_option maxRecDepth 100000 in
theorem w_spec_l01Elementary {k : Int} (hk : 0 ≤ k ∧ k ≤ 3) : CR Try.prog 78 (vals [.int .i64 k]) [] (.agg [.int .i64 (1 * 2 ^ k.toNat : Int), .arr8 100 (part ((1 * 2 ^ k.toNat : Int)).toNat elm ((1 * 2 ^ k.toNat : Int)).toNat 0)]) := by
 refine CR_intro (rs := [.cell 2 76]) tt tok Try.func78 rfl rfl rfl (by first | rfl | assumption) fun w => ?_
 have hN := pow3 hk
 refine W_seq ?_
 refine W_region ?_
 refine Ops_x rfl (x_alloc rfl (lt_dec rfl) fun b2_1 => ?_)
 refine Ops_nil ?_
 refine W_seq ?_
 refine W_region ?_
 refine o_mv rfl rfl ?_
 refine Ops_p (p_conv rfl rfl rfl (by exact ⟨(by first | omega | (dsimp only; omega)), (by first | omega | (dsimp only; omega))⟩)) (lt_dec rfl) ?_
 refine Ops_p (p_shl rfl rfl (by omega) (by simp only [IntKind.bits]; omega) (shl_in (by omega) (by omega))) (lt_dec rfl) ?_
 refine o_as rfl rfl ?_
 refine Ops_nil ?_
 refine W_seq ?_
 refine W_region ?_
 refine o_mv rfl rfl ?_
 refine Ops_p (p_build rfl rfl rfl rfl (by first | exact True.intro | omega | exact Fin.isLt _ | trivial | (dsimp only; omega))) (lt_dec rfl) ?_
 refine Ops_x rfl (x_alloc rfl (lt_dec rfl) fun b4_1 => ?_)
 refine Ops_x rfl (x_store rfl rfl rfl rfl rfl HpRep.head rfl (by first | trivial | (first | (first | omega | (dsimp only; omega)) | exact Fin.isLt _)) ?_)
 refine Ops_nil ?_
 refine W_seq ?_
 refine W_seq ?_
 refine W_region ?_
 refine o_as rfl rfl ?_
 refine Ops_nil ?_
 refine W_block ?_
 refine W_loop (α := Nat) (fun x => ⟨[(0, .int .i64 k), (2, .ptr b2_1 0 none), (3, .int .i64 (1 * 2 ^ k.toNat : Int)), (4, .ptr b4_1 0 none), (5, .int .i64 (x : Int))], [.var b4_1 (.agg [.int .i64 (1 * 2 ^ k.toNat : Int), .arr8 100 (part ((1 * 2 ^ k.toNat : Int)).toNat elm x 0)]), .var b2_1 (.agg [.int .i64 0, .arr8 100 fun _ => 0])]⟩) (fun x => x ≤ ((1 * 2 ^ k.toNat : Int)).toNat) (fun x => ((1 * 2 ^ k.toNat : Int)).toNat - x) 0 ?_ ?_ ?_
 ·show _ ≤ _; omega
 ·exact Wk.intro (.c rfl (.c rfl (.c rfl (.c rfl (.cons rfl (by first | rfl | exact veq_int (by first | omega | (dsimp only; omega))) .nil))))) (.keep rfl rfl (imp_var (by exact ceq_cons rfl (ceq_cons (ceq_arr8 fun k _ => (part_zero k).symm) rfl)) rfl) (.keep rfl rfl (fun _ h => h) .nil))
 ·rintro x hR
  refine W_seq ?_
  refine W_seq ?_
  refine W_region ?_
  refine o_mv rfl rfl ?_
  refine o_mv rfl rfl ?_
  refine Ops_p (p_lss rfl rfl) (lt_dec rfl) ?_
  refine Ops_nil ?_
  refine W_cond rfl (fun h1 => ?_) (fun h1 => ?_)
  ·try simp only [bs] at h1
   refine W_skip ?_
   refine W_seq ?_
   refine W_block ?_
   refine W_seq ?_
   refine W_region ?_
   refine o_as rfl rfl ?_
   refine Ops_nil ?_
   refine W_block ?_
   refine W_loop (α := Nat) (fun y => ⟨[(0, .int .i64 k), (2, .ptr b2_1 0 none), (3, .int .i64 (1 * 2 ^ k.toNat : Int)), (4, .ptr b4_1 0 none), (5, .int .i64 (x : Int)), (6, .int .i64 (y : Int))], [.var b4_1 (.agg [.int .i64 (1 * 2 ^ k.toNat : Int), .arr8 100 (part ((1 * 2 ^ k.toNat : Int)).toNat elm x y)]), .var b2_1 (.agg [.int .i64 0, .arr8 100 fun _ => 0])]⟩) (fun y => y ≤ ((1 * 2 ^ k.toNat : Int)).toNat) (fun y => ((1 * 2 ^ k.toNat : Int)).toNat - y) 0 ?_ ?_ ?_
   ·show _ ≤ _; omega
   ·exact Wk.intro (.c rfl (.c rfl (.c rfl (.c rfl (.c rfl (.cons rfl (by first | rfl | exact veq_int (by first | omega | (dsimp only; omega))) .nil)))))) (.keep rfl rfl (imp_var (by rfl) rfl) (.keep rfl rfl (fun _ h => h) .nil))
   ·rintro y hR
    refine W_seq ?_
    refine W_seq ?_
    refine W_region ?_
    refine o_mv rfl rfl ?_
    refine o_mv rfl rfl ?_
    refine Ops_p (p_lss rfl rfl) (lt_dec rfl) ?_
    refine Ops_nil ?_
    refine W_cond rfl (fun h2 => ?_) (fun h2 => ?_)
    ·try simp only [bs] at h2
     refine W_skip ?_
     refine W_seq ?_
     refine W_block ?_
     refine W_region ?_
     refine o_mv rfl rfl ?_
     refine o_mv rfl rfl ?_
     refine o_mv rfl rfl ?_
     refine o_mv rfl rfl ?_
     refine Ops_p (p_xor rfl rfl (by omega) (by omega) ⟨by omega, by omega⟩ ⟨by omega, by omega⟩ (xor_in (by omega) (by omega))) (lt_dec rfl) ?_
     refine Ops_p (p_conv rfl rfl rfl (xor_u8 (by omega) (by omega))) (lt_dec rfl) ?_
     refine Ops_p (p_fieldAddr rfl rfl rfl rfl rfl rfl) (lt_dec rfl) ?_
     refine Ops_p (p_ixN 10 _ rfl rfl rfl rfl rfl rfl (by first | omega | exact Fin.isLt _ | (dsimp only; omega))) (lt_dec rfl) ?_
     first | refine Ops_p (p_ix1 _ rfl rfl rfl rfl rfl rfl (by first | omega | exact Fin.isLt _ | (dsimp only; omega))) (lt_dec rfl) ?_ | refine Ops_p (p_ix1s _ rfl rfl rfl rfl rfl rfl (by first | omega | exact Fin.isLt _ | (dsimp only; omega))) (lt_dec rfl) ?_
     refine Ops_x rfl (x_store rfl rfl rfl rfl rfl HpRep.head rfl (by first | trivial | (exact xor_st (by omega) (by omega) (by omega))) ?_)
     refine Ops_nil ?_
     refine W_region ?_
     refine o_mv rfl rfl ?_
     refine Ops_p (p_add rfl rfl (by refine ⟨?_, ?_⟩ <;> first | omega | (dsimp only; omega))) (lt_dec rfl) ?_
     refine o_as rfl rfl ?_
     refine Ops_nil ?_
     refine Exists.intro (y + 1) (And.intro ?_ (And.intro ?_ ?_))
     ·show _ ≤ _; omega
     ·show _ < _; omega
     ·exact Wk.intro (.c rfl (.c rfl (.c rfl (.c rfl (.c rfl (.cons rfl (by first | rfl | exact veq_int (by first | omega | (dsimp only; omega))) .nil)))))) (.keep rfl rfl (imp_var (by exact ceq_cons rfl (ceq_cons (ceq_arr8 fun k _ => part_step (by omega) k) rfl)) rfl) (.keep rfl rfl (fun _ h => h) .nil))
    ·try simp only [bs] at h2
     obtain rfl : y = ((1 * 2 ^ k.toNat : Int)).toNat := (by omega)
     refine W_exit ?_
     refine W_region ?_
     refine o_mv rfl rfl ?_
     refine Ops_p (p_add rfl rfl (by refine ⟨?_, ?_⟩ <;> first | omega | (dsimp only; omega))) (lt_dec rfl) ?_
     refine o_as rfl rfl ?_
     refine Ops_nil ?_
     refine Exists.intro (x + 1) (And.intro ?_ (And.intro ?_ ?_))
     ·show _ ≤ _; omega
     ·show _ < _; omega
     ·exact Wk.intro (.c rfl (.c rfl (.c rfl (.c rfl (.cons rfl (by first | rfl | exact veq_int (by first | omega | (dsimp only; omega))) .nil))))) (.keep rfl rfl (imp_var (by exact ceq_cons rfl (ceq_cons (ceq_arr8 fun k _ => part_row k) rfl)) rfl) (.keep rfl rfl (fun _ h => h) .nil))
  ·try simp only [bs] at h1
   obtain rfl : x = ((1 * 2 ^ k.toNat : Int)).toNat := (by omega)
   refine W_exit ?_
   refine W_seq ?_
   refine W_region ?_
   refine Ops_q (q_load rfl rfl m0 rfl (by first | exact True.intro | omega | exact Fin.isLt _ | trivial | (dsimp only; omega))) (lt_dec rfl) ?_
   refine Ops_x rfl (x_store rfl rfl rfl rfl rfl ((HpRep.head).tail) rfl (by first | trivial | (first | (first | omega | (dsimp only; omega)) | exact Fin.isLt _)) ?_)
   refine Ops_nil ?_
   refine W_ret ?_
   refine Exists.intro _ (And.intro (.cons (.cell rfl rfl m1 rfl trivial) .nil) ?_)
   rfl
end Go.Proofs.Ytjihhcjpbcmjaaa
end
section
namespace Go.Proofs.Ytjihhcjpbcmjaaa
open Go Gx
set_option linter.unusedVariables false
theorem en_spec_l01Column : Enters Try.prog 82 := enters_of Try.func82 (by kernel_rfl) (by kernel_rfl)
set_option maxRecDepth 100000 in
theorem w_spec_l01Column {t : Nat → Fin 256} {n : Int} {x : Fin 256} (hs : SqP n t) (hx : x.val < 10) : CR Try.prog 82 (vals [.agg [.int .i64 n, .arr8 100 t], .u8 x]) [] (.arr8 10 (colOf t x.val)) := by
 refine CR_intro (rs := [.cell 4 33]) tt tok Try.func82 rfl rfl rfl (by first | rfl | assumption) fun w => ?_
 have hn := hs.1
 refine W_seq ?_
 refine W_region ?_
 refine Ops_x rfl (x_box rfl rfl (lt_dec rfl) fun b2_1 => ?_)
 refine Ops_x rfl (x_alloc rfl (lt_dec rfl) fun b4_1 => ?_)
 refine Ops_nil ?_
 refine W_seq ?_
 refine W_region ?_
 refine Ops_p (p_build_arr rfl rfl rfl rfl (by first | exact True.intro | omega | exact Fin.isLt _ | trivial | (dsimp only; omega))) (lt_dec rfl) ?_
 refine Ops_x rfl (x_alloc rfl (lt_dec rfl) fun b5_1 => ?_)
 refine Ops_x rfl (x_store rfl rfl rfl rfl rfl HpRep.head rfl (by first | trivial | (first | (first | omega | (dsimp only; omega)) | exact Fin.isLt _)) ?_)
 refine Ops_nil ?_
 refine W_seq ?_
 refine W_seq ?_
 refine W_region ?_
 refine o_as rfl rfl ?_
 refine Ops_nil ?_
 refine W_block ?_
 refine W_loop (α := Nat) (fun i => ⟨[(0, .agg [.int .i64 n, .arr8 100 t]), (1, .u8 x), (2, .ptr b2_1 0 none), (4, .ptr b4_1 0 none), (5, .ptr b5_1 0 none), (6, .int .i64 (i : Int))], [.var b5_1 (.arr8 10 (fun j => if j < i then t (10 * j + x.val) else 0)), .var b4_1 (.arr8 10 fun _ => 0), .var b2_1 (.agg [.int .i64 n, .arr8 100 t])]⟩) (fun i => i ≤ n.toNat) (fun i => n.toNat - i) 0 ?_ ?_ ?_
 ·show _ ≤ _; omega
 ·exact Wk.intro (.c rfl (.c rfl (.c rfl (.c rfl (.c rfl (.cons rfl (by first | rfl | exact veq_int (by first | omega | (dsimp only; omega))) .nil)))))) (.keep rfl rfl (imp_var (by first | rfl | (refine ceq_arr8 fun j hj => ?_; (try dsimp only); first | (simp; done) | ((repeat' split) <;> first | rfl | (exfalso; omega) | (congr 1; omega) | (simp_all; done) | omega))) rfl) (.keep rfl rfl (fun _ h => h) (.keep rfl rfl (fun _ h => h) .nil)))
 ·rintro i hR
  refine W_seq ?_
  refine W_seq ?_
  refine W_region ?_
  refine o_mv rfl rfl ?_
  refine Ops_p (p_fieldAddr rfl rfl rfl rfl rfl rfl) (lt_dec rfl) ?_
  refine Ops_q (q_load rfl rfl m2 rfl (by first | exact True.intro | omega | exact Fin.isLt _ | trivial | (dsimp only; omega))) (lt_dec rfl) ?_
  refine Ops_p (p_lss rfl rfl) (lt_dec rfl) ?_
  refine Ops_nil ?_
  refine W_cond rfl (fun h1 => ?_) (fun h1 => ?_)
  ·try simp only [bs] at h1
   refine W_skip ?_
   refine W_seq ?_
   refine W_block ?_
   refine W_region ?_
   refine o_mv rfl rfl ?_
   refine o_mv rfl rfl ?_
   refine o_mv rfl rfl ?_
   refine Ops_p (p_fieldAddr rfl rfl rfl rfl rfl rfl) (lt_dec rfl) ?_
   refine Ops_p (p_ixN 10 _ rfl rfl rfl rfl rfl rfl (by first | omega | exact Fin.isLt _ | (dsimp only; omega))) (lt_dec rfl) ?_
   first | refine Ops_p (p_ix1 _ rfl rfl rfl rfl rfl rfl (by first | omega | exact Fin.isLt _ | (dsimp only; omega))) (lt_dec rfl) ?_ | refine Ops_p (p_ix1s _ rfl rfl rfl rfl rfl rfl (by first | omega | exact Fin.isLt _ | (dsimp only; omega))) (lt_dec rfl) ?_
   refine Ops_q (q_load rfl rfl m2 rfl (by first | exact True.intro | omega | exact Fin.isLt _ | trivial | (dsimp only; omega))) (lt_dec rfl) ?_
   first | refine Ops_p (p_ix1 _ rfl rfl rfl rfl rfl rfl (by first | omega | exact Fin.isLt _ | (dsimp only; omega))) (lt_dec rfl) ?_ | refine Ops_p (p_ix1s _ rfl rfl rfl rfl rfl rfl (by first | omega | exact Fin.isLt _ | (dsimp only; omega))) (lt_dec rfl) ?_
   refine Ops_x rfl (x_store rfl rfl rfl rfl rfl HpRep.head rfl (by first | trivial | (first | (first | omega | (dsimp only; omega)) | exact Fin.isLt _)) ?_)
   refine Ops_nil ?_
   refine W_region ?_
   refine o_mv rfl rfl ?_
   refine Ops_p (p_add rfl rfl (by refine ⟨?_, ?_⟩ <;> first | omega | (dsimp only; omega))) (lt_dec rfl) ?_
   refine o_as rfl rfl ?_
   refine Ops_nil ?_
   refine Exists.intro (i + 1) (And.intro ?_ (And.intro ?_ ?_))
   ·show _ ≤ _; omega
   ·show _ < _; omega
   ·exact Wk.intro (.c rfl (.c rfl (.c rfl (.c rfl (.c rfl (.cons rfl (by first | rfl | exact veq_int (by first | omega | (dsimp only; omega))) .nil)))))) (.keep rfl rfl (imp_var (by first | rfl | (refine ceq_arr8 fun j hj => ?_; (try dsimp only); first | (simp; done) | ((repeat' split) <;> first | rfl | (exfalso; omega) | (congr 1; omega) | (simp_all; done) | omega))) rfl) (.keep rfl rfl (fun _ h => h) (.keep rfl rfl (fun _ h => h) .nil)))
  ·try simp only [bs] at h1
   obtain rfl : i = n.toNat := (by omega)
   refine W_exit ?_
   refine W_seq ?_
   refine W_region ?_
   refine Ops_q (q_load rfl rfl m0 rfl (by first | exact True.intro | omega | exact Fin.isLt _ | trivial | (dsimp only; omega))) (lt_dec rfl) ?_
   refine Ops_x rfl (x_store rfl rfl rfl rfl rfl ((HpRep.head).tail) rfl (by first | trivial | (first | (first | omega | (dsimp only; omega)) | exact Fin.isLt _)) ?_)
   refine Ops_nil ?_
   refine W_ret ?_
   refine Exists.intro _ (And.intro (.cons (.cell rfl rfl m1 rfl trivial) .nil) ?_)
   exact veq_arr8 fun j hj => col_all hs hx hj
end Go.Proofs.Ytjihhcjpbcmjaaa
end
section
namespace Go.Proofs.Ytjihhcjpbcmjaaa
open Go Gx
set_option linter.unusedVariables false
theorem en_spec_l01Moved : Enters Try.prog 67 := enters_of Try.func67 (by kernel_rfl) (by kernel_rfl)
set_option maxRecDepth 100000 in
set_option maxHeartbeats 1000000 in
theorem w_spec_l01Moved {t a b c : Nat → Fin 256} {n : Int} (hs : SqP n t) (pa : IsPerm a n) (pb : IsPerm b n) (pc : IsPerm c n) : CR Try.prog 67 (vals [.agg [.int .i64 n, .arr8 100 t], .arr8 10 a, .arr8 10 b, .arr8 10 c]) [] (.agg [.int .i64 n, .arr8 100 (isoW t a b c n.toNat (n.toNat * n.toNat + 0))]) := by
 refine CR_intro (rs := [.cell 8 76]) tt tok Try.func67 rfl rfl rfl (by first | rfl | assumption) fun w => ?_
 have hn := hs.1
 refine W_seq ?_
 refine W_region ?_
 refine Ops_x rfl (x_box rfl rfl (lt_dec rfl) fun b4_1 => ?_)
 refine Ops_x rfl (x_box rfl rfl (lt_dec rfl) fun b5_1 => ?_)
 refine Ops_x rfl (x_box rfl rfl (lt_dec rfl) fun b6_1 => ?_)
 refine Ops_x rfl (x_box rfl rfl (lt_dec rfl) fun b7_1 => ?_)
 refine Ops_x rfl (x_alloc rfl (lt_dec rfl) fun b8_1 => ?_)
 refine Ops_nil ?_
 refine W_seq ?_
 refine W_region ?_
 refine Ops_p (p_fieldAddr rfl rfl rfl rfl rfl rfl) (lt_dec rfl) ?_
 refine Ops_q (q_load rfl rfl m4 rfl (by first | exact True.intro | omega | exact Fin.isLt _ | trivial | (dsimp only; omega))) (lt_dec rfl) ?_
 refine Ops_p (p_build rfl rfl rfl rfl (by first | exact True.intro | omega | exact Fin.isLt _ | trivial | (dsimp only; omega))) (lt_dec rfl) ?_
 refine Ops_x rfl (x_alloc rfl (lt_dec rfl) fun b9_1 => ?_)
 refine Ops_x rfl (x_store rfl rfl rfl rfl rfl HpRep.head rfl (by first | trivial | (first | (first | omega | (dsimp only; omega)) | exact Fin.isLt _)) ?_)
 refine Ops_nil ?_
 refine W_seq ?_
 refine W_seq ?_
 refine W_region ?_
 refine o_as rfl rfl ?_
 refine Ops_nil ?_
 refine W_block ?_
 refine W_loop (α := Nat) (fun x => ⟨[(0, .agg [.int .i64 n, .arr8 100 t]), (1, .arr8 10 a), (2, .arr8 10 b), (3, .arr8 10 c), (4, .ptr b4_1 0 none), (5, .ptr b5_1 0 none), (6, .ptr b6_1 0 none), (7, .ptr b7_1 0 none), (8, .ptr b8_1 0 none), (9, .ptr b9_1 0 none), (10, .int .i64 (x : Int))], [.var b9_1 (.agg [.int .i64 n, .arr8 100 (isoW t a b c n.toNat (x * n.toNat + 0))]), .var b8_1 (.agg [.int .i64 0, .arr8 100 fun _ => 0]), .var b7_1 (.arr8 10 c), .var b6_1 (.arr8 10 b), .var b5_1 (.arr8 10 a), .var b4_1 (.agg [.int .i64 n, .arr8 100 t])]⟩) (fun x => x ≤ n.toNat) (fun x => n.toNat - x) 0 ?_ ?_ ?_
 ·show _ ≤ _; omega
 ·exact Wk.intro (.c rfl (.c rfl (.c rfl (.c rfl (.c rfl (.c rfl (.c rfl (.c rfl (.c rfl (.c rfl (.cons rfl (by first | rfl | exact veq_int (by first | omega | (dsimp only; omega))) .nil))))))))))) (.keep rfl rfl (imp_var (by exact ceq_cons rfl (ceq_cons (ceq_arr8 fun k _ => by rw [Nat.zero_mul]; rfl) rfl)) rfl) (.keep rfl rfl (fun _ h => h) (.keep rfl rfl (fun _ h => h) (.keep rfl rfl (fun _ h => h) (.keep rfl rfl (fun _ h => h) (.keep rfl rfl (fun _ h => h) .nil))))))
 ·rintro x hR
  refine W_seq ?_
  refine W_seq ?_
  refine W_region ?_
  refine o_mv rfl rfl ?_
  refine Ops_p (p_fieldAddr rfl rfl rfl rfl rfl rfl) (lt_dec rfl) ?_
  refine Ops_q (q_load rfl rfl m5 rfl (by first | exact True.intro | omega | exact Fin.isLt _ | trivial | (dsimp only; omega))) (lt_dec rfl) ?_
  refine Ops_p (p_lss rfl rfl) (lt_dec rfl) ?_
  refine Ops_nil ?_
  refine W_cond rfl (fun h1 => ?_) (fun h1 => ?_)
  ·try simp only [bs] at h1
   refine W_skip ?_
   refine W_seq ?_
   refine W_block ?_
   refine W_seq ?_
   refine W_region ?_
   refine o_as rfl rfl ?_
   refine Ops_nil ?_
   refine W_block ?_
   refine W_loop (α := Nat) (fun y => ⟨[(0, .agg [.int .i64 n, .arr8 100 t]), (1, .arr8 10 a), (2, .arr8 10 b), (3, .arr8 10 c), (4, .ptr b4_1 0 none), (5, .ptr b5_1 0 none), (6, .ptr b6_1 0 none), (7, .ptr b7_1 0 none), (8, .ptr b8_1 0 none), (9, .ptr b9_1 0 none), (10, .int .i64 (x : Int)), (11, .int .i64 (y : Int))], [.var b9_1 (.agg [.int .i64 n, .arr8 100 (isoW t a b c n.toNat (x * n.toNat + y))]), .var b8_1 (.agg [.int .i64 0, .arr8 100 fun _ => 0]), .var b7_1 (.arr8 10 c), .var b6_1 (.arr8 10 b), .var b5_1 (.arr8 10 a), .var b4_1 (.agg [.int .i64 n, .arr8 100 t])]⟩) (fun y => y ≤ n.toNat) (fun y => n.toNat - y) 0 ?_ ?_ ?_
   ·show _ ≤ _; omega
   ·exact Wk.intro (.c rfl (.c rfl (.c rfl (.c rfl (.c rfl (.c rfl (.c rfl (.c rfl (.c rfl (.c rfl (.c rfl (.cons rfl (by first | rfl | exact veq_int (by first | omega | (dsimp only; omega))) .nil)))))))))))) (.keep rfl rfl (imp_var (by rfl) rfl) (.keep rfl rfl (fun _ h => h) (.keep rfl rfl (fun _ h => h) (.keep rfl rfl (fun _ h => h) (.keep rfl rfl (fun _ h => h) (.keep rfl rfl (fun _ h => h) .nil))))))
   ·rintro y hR
    refine W_seq ?_
    refine W_seq ?_
    refine W_region ?_
    refine o_mv rfl rfl ?_
    refine Ops_p (p_fieldAddr rfl rfl rfl rfl rfl rfl) (lt_dec rfl) ?_
    refine Ops_q (q_load rfl rfl m5 rfl (by first | exact True.intro | omega | exact Fin.isLt _ | trivial | (dsimp only; omega))) (lt_dec rfl) ?_
    refine Ops_p (p_lss rfl rfl) (lt_dec rfl) ?_
    refine Ops_nil ?_
    refine W_cond rfl (fun h2 => ?_) (fun h2 => ?_)
    ·try simp only [bs] at h2
     refine W_skip ?_
     refine W_seq ?_
     refine W_block ?_
     have hxa := perm_lt (i := x) pa (by omega)
     have hyb := perm_lt (i := y) pb (by omega)
     have hxy := sq_lt hs (x := x) (y := y) (by omega) (by omega)
     have hzc := perm_lt (i := (t (10 * x + y)).val) pc hxy
     refine W_draw (by kernel_rfl) ?_
     show RA _ _ 18 _ _ _
     refine RA_quiet (g := 1) [0, 1, 2, 3, 4, 5, 6, 7, 8, 9, 10, 11, 12, 13, 14, 15, 16] (by kernel_rfl) (by kernel_rfl) (by kernel_rfl) (by kernel_rfl) ?_
     refine WQ_cons rfl rfl rfl ((p_move rfl).q) (lt_dec rfl) ?_
     first | refine WQ_cons rfl rfl rfl ((p_ix1 x rfl rfl rfl rfl rfl rfl (by first | omega | exact Fin.isLt _ | (dsimp only; omega))).q) (lt_dec rfl) ?_ | refine WQ_cons rfl rfl rfl ((p_ix1s x rfl rfl rfl rfl rfl rfl (by first | omega | exact Fin.isLt _ | (dsimp only; omega))).q) (lt_dec rfl) ?_
     refine WQ_cons rfl rfl rfl ((q_load rfl rfl m4 rfl (by first | exact True.intro | omega | exact Fin.isLt _ | trivial | (dsimp only; omega)))) (lt_dec rfl) ?_
     refine WQ_cons rfl rfl rfl ((p_move rfl).q) (lt_dec rfl) ?_
     first | refine WQ_cons rfl rfl rfl ((p_ix1 y rfl rfl rfl rfl rfl rfl (by first | omega | exact Fin.isLt _ | (dsimp only; omega))).q) (lt_dec rfl) ?_ | refine WQ_cons rfl rfl rfl ((p_ix1s y rfl rfl rfl rfl rfl rfl (by first | omega | exact Fin.isLt _ | (dsimp only; omega))).q) (lt_dec rfl) ?_
     refine WQ_cons rfl rfl rfl ((q_load rfl rfl m3 rfl (by first | exact True.intro | omega | exact Fin.isLt _ | trivial | (dsimp only; omega)))) (lt_dec rfl) ?_
     refine WQ_cons rfl rfl rfl ((p_move rfl).q) (lt_dec rfl) ?_
     refine WQ_cons rfl rfl rfl ((p_move rfl).q) (lt_dec rfl) ?_
     refine WQ_cons rfl rfl rfl ((p_fieldAddr rfl rfl rfl rfl rfl rfl).q) (lt_dec rfl) ?_
     refine WQ_cons rfl rfl rfl ((p_ixN 10 x rfl rfl rfl rfl rfl rfl (by first | omega | exact Fin.isLt _ | (dsimp only; omega))).q) (lt_dec rfl) ?_
     first | refine WQ_cons rfl rfl rfl ((p_ix1 y rfl rfl rfl rfl rfl rfl (by first | omega | exact Fin.isLt _ | (dsimp only; omega))).q) (lt_dec rfl) ?_ | refine WQ_cons rfl rfl rfl ((p_ix1s y rfl rfl rfl rfl rfl rfl (by first | omega | exact Fin.isLt _ | (dsimp only; omega))).q) (lt_dec rfl) ?_
     refine WQ_cons rfl rfl rfl ((q_load rfl rfl m5 rfl (by first | exact True.intro | omega | exact Fin.isLt _ | trivial | (dsimp only; omega)))) (lt_dec rfl) ?_
     first | refine WQ_cons rfl rfl rfl ((p_ix1 (t (10 * x + y)).val rfl rfl rfl rfl rfl rfl (by first | omega | exact Fin.isLt _ | (dsimp only; omega))).q) (lt_dec rfl) ?_ | refine WQ_cons rfl rfl rfl ((p_ix1s (t (10 * x + y)).val rfl rfl rfl rfl rfl rfl (by first | omega | exact Fin.isLt _ | (dsimp only; omega))).q) (lt_dec rfl) ?_
     refine WQ_cons rfl rfl rfl ((q_load rfl rfl m2 rfl (by first | exact True.intro | omega | exact Fin.isLt _ | trivial | (dsimp only; omega)))) (lt_dec rfl) ?_
     refine WQ_cons rfl rfl rfl ((p_fieldAddr rfl rfl rfl rfl rfl rfl).q) (lt_dec rfl) ?_
     refine WQ_cons rfl rfl rfl ((p_ixN 10 (a x).val rfl rfl rfl rfl rfl rfl (by first | omega | exact Fin.isLt _ | (dsimp only; omega))).q) (lt_dec rfl) ?_
     first | refine WQ_cons rfl rfl rfl ((p_ix1 (b y).val rfl rfl rfl rfl rfl rfl (by first | omega | exact Fin.isLt _ | (dsimp only; omega))).q) (lt_dec rfl) ?_ | refine WQ_cons rfl rfl rfl ((p_ix1s (b y).val rfl rfl rfl rfl rfl rfl (by first | omega | exact Fin.isLt _ | (dsimp only; omega))).q) (lt_dec rfl) ?_
     refine WQ_nil ?_
     refine RA_one 17 rfl rfl (by kernel_rfl) (x_store rfl rfl rfl rfl rfl HpRep.head rfl (by first | trivial | (first | (first | omega | (dsimp only; omega)) | exact Fin.isLt _)) ?_)
     refine RA_done (by kernel_rfl) ?_
     refine W_region ?_
     refine o_mv rfl rfl ?_
     refine Ops_p (p_add rfl rfl (by refine ⟨?_, ?_⟩ <;> first | omega | (dsimp only; omega))) (lt_dec rfl) ?_
     refine o_as rfl rfl ?_
     refine Ops_nil ?_
     refine Exists.intro (y + 1) (And.intro ?_ (And.intro ?_ ?_))
     ·show _ ≤ _; omega
     ·show _ < _; omega
     ·exact Wk.intro (.c rfl (.c rfl (.c rfl (.c rfl (.c rfl (.c rfl (.c rfl (.c rfl (.c rfl (.c rfl (.c rfl (.cons rfl (by first | rfl | exact veq_int (by first | omega | (dsimp only; omega))) .nil)))))))))))) (.keep rfl rfl (imp_var (by exact ceq_cons rfl (ceq_cons (ceq_arr8 fun k _ => isoW_step (by omega) k) rfl)) rfl) (.keep rfl rfl (fun _ h => h) (.keep rfl rfl (fun _ h => h) (.keep rfl rfl (fun _ h => h) (.keep rfl rfl (fun _ h => h) (.keep rfl rfl (fun _ h => h) .nil))))))
    ·try simp only [bs] at h2
     obtain rfl : y = n.toNat := (by omega)
     refine W_exit ?_
     refine W_region ?_
     refine o_mv rfl rfl ?_
     refine Ops_p (p_add rfl rfl (by refine ⟨?_, ?_⟩ <;> first | omega | (dsimp only; omega))) (lt_dec rfl) ?_
     refine o_as rfl rfl ?_
     refine Ops_nil ?_
     refine Exists.intro (x + 1) (And.intro ?_ (And.intro ?_ ?_))
     ·show _ ≤ _; omega
     ·show _ < _; omega
     ·exact Wk.intro (.c rfl (.c rfl (.c rfl (.c rfl (.c rfl (.c rfl (.c rfl (.c rfl (.c rfl (.c rfl (.cons rfl (by first | rfl | exact veq_int (by first | omega | (dsimp only; omega))) .nil))))))))))) (.keep rfl rfl (imp_var (by exact ceq_cons rfl (ceq_cons (ceq_arr8 fun k _ => congrFun isoW_row k) rfl)) rfl) (.keep rfl rfl (fun _ h => h) (.keep rfl rfl (fun _ h => h) (.keep rfl rfl (fun _ h => h) (.keep rfl rfl (fun _ h => h) (.keep rfl rfl (fun _ h => h) .nil))))))
  ·try simp only [bs] at h1
   obtain rfl : x = n.toNat := (by omega)
   refine W_exit ?_
   refine W_seq ?_
   refine W_region ?_
   refine Ops_q (q_load rfl rfl m0 rfl (by first | exact True.intro | omega | exact Fin.isLt _ | trivial | (dsimp only; omega))) (lt_dec rfl) ?_
   refine Ops_x rfl (x_store rfl rfl rfl rfl rfl ((HpRep.head).tail) rfl (by first | trivial | (first | (first | omega | (dsimp only; omega)) | exact Fin.isLt _)) ?_)
   refine Ops_nil ?_
   refine W_ret ?_
   refine Exists.intro _ (And.intro (.cons (.cell rfl rfl m1 rfl trivial) .nil) ?_)
   rfl
end Go.Proofs.Ytjihhcjpbcmjaaa
end
section
namespace Go.Proofs.Ytjihhcjpbcmjaaa
open Go Gx
set_option linter.unusedVariables false
theorem en_spec_l01Row : Enters Try.prog 68 := enters_of Try.func68 (by kernel_rfl) (by kernel_rfl)
set_option maxRecDepth 100000 in
theorem w_spec_l01Row {t : Nat → Fin 256} {n : Int} {x : Fin 256} (hx : x.val < 10) : CR Try.prog 68 (vals [.agg [.int .i64 n, .arr8 100 t], .u8 x]) [] (.arr8 10 (rowOf t x.val)) := by
 refine CR_intro (rs := [.cell 4 33]) tt tok Try.func68 rfl rfl rfl (by first | rfl | assumption) fun w => ?_
 refine W_seq ?_
 refine W_region ?_
 refine Ops_x rfl (x_box rfl rfl (lt_dec rfl) fun b2_1 => ?_)
 refine Ops_x rfl (x_alloc rfl (lt_dec rfl) fun b4_1 => ?_)
 refine Ops_nil ?_
 refine W_seq ?_
 refine W_region ?_
 refine o_mv rfl rfl ?_
 refine Ops_p (p_fieldAddr rfl rfl rfl rfl rfl rfl) (lt_dec rfl) ?_
 refine Ops_p (p_ixN 10 _ rfl rfl rfl rfl rfl rfl (by first | omega | exact Fin.isLt _ | (dsimp only; omega))) (lt_dec rfl) ?_
 refine Ops_q (q_load rfl rfl m1 rfl (by first | exact True.intro | omega | exact Fin.isLt _ | trivial | (dsimp only; omega))) (lt_dec rfl) ?_
 refine Ops_x rfl (x_store rfl rfl rfl rfl rfl HpRep.head rfl (by first | trivial | (first | (first | omega | (dsimp only; omega)) | exact Fin.isLt _)) ?_)
 refine Ops_nil ?_
 refine W_ret ?_
 refine Exists.intro _ (And.intro (.cons (.cell rfl rfl m0 rfl trivial) .nil) ?_)
 first | rfl | (refine veq_bool ?_; simp_all; done) | (refine veq_bool ?_; simp; omega) | (refine veq_bool ?_; rw [eq_comm, decide_eq_false_iff_not]; omega) | (refine veq_bool ?_; rw [eq_comm, decide_eq_true_iff]; omega) | (refine veq_int ?_; omega) | (refine veq_arr8 fun j hj => ?_; (try dsimp only); first | (simp; done) | (simp; omega) | ((repeat' split) <;> first | rfl | (exfalso; omega) | (congr 1; omega) | (simp_all; done)))
end Go.Proofs.Ytjihhcjpbcmjaaa
end
section
namespace Go.Proofs.Ytjihhcjpbcmjaaa
open Go Gx
set_option linter.unusedVariables false
theorem en_spec_l01Ordered : Enters Try.prog 75 := enters_of Try.func75 (by kernel_rfl) (by kernel_rfl)
set_option maxRecDepth 100000 in
set_option maxHeartbeats 1000000 in
theorem w_spec_l01Ordered {t : Nat → Fin 256} {n : Int} (hs : SqP n t) : CT (X := Nat → Fin 256) Try.prog 75 (vals [.agg [.int .i64 n, .arr8 100 t]]) [] [] (fun x => SqP n x) (fun x => .agg [.int .i64 n, .arr8 100 x]) (fun x => []) := by
 refine CT_intro (rs := [.cell 2 76]) tt tok Try.func75 rfl rfl rfl (by first | rfl | assumption) fun w => ?_
 show W _ _ _ ⟨tmOf 0 [.agg [.int .i64 n, .arr8 100 t]], []⟩
 have hn := hs.1
 have hid := idT_perm hn
 have hr0 := sq_row hs (x := 0) (by omega)
 have h1s := iso_sqI hs hid hr0 hid
 have hc0 := col_perm h1s (y := 0) (by omega)
 have h2s := iso_sqI h1s hc0 hid hid
 refine W_seq ?_
 refine W_region ?_
 refine Ops_x rfl (x_box rfl rfl (lt_dec rfl) fun b1_1 => ?_)
 refine Ops_x rfl (x_alloc rfl (lt_dec rfl) fun b2_1 => ?_)
 refine Ops_nil ?_
 refine W_seq ?_
 refine W_region ?_
 refine Ops_p (p_fieldAddr rfl rfl rfl rfl rfl rfl) (lt_dec rfl) ?_
 refine Ops_q (q_load rfl rfl m1 rfl (by first | exact True.intro | omega | exact Fin.isLt _ | trivial | (dsimp only; omega))) (lt_dec rfl) ?_
 refine o_as rfl rfl ?_
 refine Ops_nil ?_
 refine W_seq ?_
 refine W_draw (by kernel_rfl) ?_
 show RA _ _ 9 _ _ _
 refine RA_quiet (g := 1) [0, 1, 2, 3, 4, 5, 6, 7] (by kernel_rfl) (by kernel_rfl) (by kernel_rfl) (by kernel_rfl) ?_
 refine WQ_cons rfl rfl rfl ((q_load rfl rfl m1 rfl (by first | exact True.intro | omega | exact Fin.isLt _ | trivial | (dsimp only; omega)))) (lt_dec rfl) ?_
 refine WQ_cons rfl rfl rfl ((p_move rfl).q) (lt_dec rfl) ?_
 refine WQ_cons rfl rfl rfl ((q_call en_spec_l01Same rfl (w_spec_l01Same hn) (View.none _))) (lt_dec rfl) ?_
 refine WQ_cons rfl rfl rfl ((q_load rfl rfl m1 rfl (by first | exact True.intro | omega | exact Fin.isLt _ | trivial | (dsimp only; omega)))) (lt_dec rfl) ?_
 refine WQ_cons rfl rfl rfl ((q_call en_spec_l01Row rfl (w_spec_l01Row (by decide)) (View.none _))) (lt_dec rfl) ?_
 refine WQ_cons rfl rfl rfl ((p_move rfl).q) (lt_dec rfl) ?_
 refine WQ_cons rfl rfl rfl ((q_call en_spec_l01Same rfl (w_spec_l01Same hn) (View.none _))) (lt_dec rfl) ?_
 refine WQ_cons rfl rfl rfl ((q_call en_spec_l01Moved rfl (w_spec_l01Moved hs hid hr0 hid) (View.none _))) (lt_dec rfl) ?_
 refine WQ_nil ?_
 refine RA_one 8 rfl rfl (by kernel_rfl) (x_store rfl rfl rfl rfl rfl ((HpRep.head).tail) rfl (by first | trivial | (first | (first | omega | (dsimp only; omega)) | exact Fin.isLt _)) ?_)
 refine RA_done (by kernel_rfl) ?_
 refine W_seq ?_
 refine W_draw (by kernel_rfl) ?_
 show RA _ _ 9 _ _ _
 refine RA_quiet (g := 1) [0, 1, 2, 3, 4, 5, 6, 7] (by kernel_rfl) (by kernel_rfl) (by kernel_rfl) (by kernel_rfl) ?_
 refine WQ_cons rfl rfl rfl ((q_load rfl rfl m1 rfl (by first | exact True.intro | omega | exact Fin.isLt _ | trivial | (dsimp only; omega)))) (lt_dec rfl) ?_
 refine WQ_cons rfl rfl rfl ((q_load rfl rfl m1 rfl (by first | exact True.intro | omega | exact Fin.isLt _ | trivial | (dsimp only; omega)))) (lt_dec rfl) ?_
 refine WQ_cons rfl rfl rfl ((q_call en_spec_l01Column rfl (w_spec_l01Column h1s (by decide)) (View.none _))) (lt_dec rfl) ?_
 refine WQ_cons rfl rfl rfl ((p_move rfl).q) (lt_dec rfl) ?_
 refine WQ_cons rfl rfl rfl ((q_call en_spec_l01Same rfl (w_spec_l01Same hn) (View.none _))) (lt_dec rfl) ?_
 refine WQ_cons rfl rfl rfl ((p_move rfl).q) (lt_dec rfl) ?_
 refine WQ_cons rfl rfl rfl ((q_call en_spec_l01Same rfl (w_spec_l01Same hn) (View.none _))) (lt_dec rfl) ?_
 refine WQ_cons rfl rfl rfl ((q_call en_spec_l01Moved rfl (w_spec_l01Moved h1s hc0 hid hid) (View.none _))) (lt_dec rfl) ?_
 refine WQ_nil ?_
 refine RA_one 8 rfl rfl (by kernel_rfl) (x_store rfl rfl rfl rfl rfl HpRep.head rfl (by first | trivial | (first | (first | omega | (dsimp only; omega)) | exact Fin.isLt _)) ?_)
 refine RA_done (by kernel_rfl) ?_
 refine W_ret ?_
 refine Exists.intro _ (And.intro (.cons (.cell rfl rfl m0 rfl trivial) .nil) (Exists.intro (isoW (isoW t (idT n.toNat) (rowOf t 0) (idT n.toNat) n.toNat (n.toNat * n.toNat + 0)) (colOf (isoW t (idT n.toNat) (rowOf t 0) (idT n.toNat) n.toNat (n.toNat * n.toNat + 0)) 0) (idT n.toNat) (idT n.toNat) n.toNat (n.toNat * n.toNat + 0)) (And.intro ?_ (And.intro ?_ (And.intro .nil rfl)))))
 ·exact h2s
 ·rfl
end Go.Proofs.Ytjihhcjpbcmjaaa
end
section
namespace Go.Proofs.Ytjihhcjpbcmjaaa
open Go Gx
set_option linter.unusedVariables false
theorem en_spec_l01Rows : Enters Try.prog 85 := enters_of Try.func85 (by kernel_rfl) (by kernel_rfl)
set_option maxRecDepth 100000 in
theorem w_spec_l01Rows {t : Nat → Fin 256} {n : Int}  : CR Try.prog 85 (vals [.arr8 100 t, .int .i64 n]) [] (.bool (rowsOk t n)) := by
 refine CR_intro (rs := [.tmp 4]) tt tok Try.func85 rfl rfl rfl (by first | rfl | assumption) fun w => ?_
 refine W_seq ?_
 refine W_region ?_
 refine Ops_x rfl (x_box rfl rfl (lt_dec rfl) fun b2_1 => ?_)
 refine o_as rfl rfl ?_
 refine Ops_nil ?_
 refine W_seq ?_
 refine W_seq ?_
 refine W_region ?_
 refine o_as rfl rfl ?_
 refine Ops_nil ?_
 refine W_block ?_
 refine W_loop (α := Nat) (fun i => ⟨[(0, .arr8 100 t), (1, .int .i64 n), (2, .ptr b2_1 0 none), (5, .int .i64 (i : Int))], [.var b2_1 (.arr8 100 t)]⟩) (fun i => i ≤ 10 ∧ ∀ x, x < i → RowP t n x) (fun i => 10 - i) 0 ?_ ?_ ?_
 ·exact ⟨by omega, fun x h => by omega⟩
 ·exact Wk.intro (.c rfl (.c rfl (.c rfl (.cons rfl (by first | rfl | exact veq_int (by first | omega | (dsimp only; omega))) .nil)))) (.keep rfl rfl (fun _ h => h) .nil)
 ·rintro i ⟨hi, hR⟩
  refine W_seq ?_
  refine W_seq ?_
  refine W_region ?_
  refine o_mv rfl rfl ?_
  refine Ops_p (p_lss rfl rfl) (lt_dec rfl) ?_
  refine Ops_nil ?_
  refine W_cond rfl (fun h1 => ?_) (fun h1 => ?_)
  ·try simp only [bs] at h1
   refine W_skip ?_
   refine W_seq ?_
   refine W_block ?_
   refine W_seq ?_
   refine W_region ?_
   refine o_mv rfl rfl ?_
   refine o_mv rfl rfl ?_
   refine Ops_p (p_lss rfl rfl) (lt_dec rfl) ?_
   refine o_mv rfl rfl ?_
   refine Ops_guard rfl rfl (lt_dec rfl) (fun hg1 => ?_) (fun hg1 => ?_)
   ·try simp only [bs] at hg1
    refine o_mv rfl rfl ?_
    refine Ops_guard_t rfl rfl (lt_dec rfl) ?_
    refine Ops_p (p_ixN 10 _ rfl rfl rfl rfl rfl rfl (by first | omega | exact Fin.isLt _ | (dsimp only; omega))) (lt_dec rfl) ?_
    refine Ops_guard_t rfl rfl (lt_dec rfl) ?_
    refine Ops_q (q_load rfl rfl m0 rfl (by first | exact True.intro | omega | exact Fin.isLt _ | trivial | (dsimp only; omega))) (lt_dec rfl) ?_
    refine Ops_guard_t rfl rfl (lt_dec rfl) ?_
    refine o_mv rfl rfl ?_
    refine Ops_guard_t rfl rfl (lt_dec rfl) ?_
    refine Ops_q (q_call en_spec_l01Perm rfl (w_spec_l01Perm) (View.none _)) (lt_dec rfl) ?_
    refine Ops_guard_t rfl rfl (lt_dec rfl) ?_
    refine Ops_p (p_not rfl) (lt_dec rfl) ?_
    refine Ops_p (p_pick_t rfl rfl) (lt_dec rfl) ?_
    refine o_mv rfl rfl ?_
    refine Ops_guard rfl rfl (lt_dec rfl) (fun hg2 => ?_) (fun hg2 => ?_)
    ·try simp only [bs] at hg2
     refine o_mv rfl rfl ?_
     refine Ops_guard_t rfl rfl (lt_dec rfl) ?_
     refine o_mv rfl rfl ?_
     refine Ops_guard_t rfl rfl (lt_dec rfl) ?_
     refine Ops_p (p_geq rfl rfl) (lt_dec rfl) ?_
     refine Ops_guard_t rfl rfl (lt_dec rfl) ?_
     refine o_mv rfl rfl ?_
     refine Ops_guard rfl rfl (lt_dec rfl) (fun hg3 => ?_) (fun hg3 => ?_)
     ·try simp only [bs] at hg3
      refine o_mv rfl rfl ?_
      refine Ops_guard_t rfl rfl (lt_dec rfl) ?_
      refine Ops_p (p_ixN 10 _ rfl rfl rfl rfl rfl rfl (by first | omega | exact Fin.isLt _ | (dsimp only; omega))) (lt_dec rfl) ?_
      refine Ops_guard_t rfl rfl (lt_dec rfl) ?_
      refine Ops_q (q_load rfl rfl m0 rfl (by first | exact True.intro | omega | exact Fin.isLt _ | trivial | (dsimp only; omega))) (lt_dec rfl) ?_
      refine Ops_guard_t rfl rfl (lt_dec rfl) ?_
      refine Ops_p (p_build_arr rfl rfl rfl rfl (by first | exact True.intro | omega | exact Fin.isLt _ | trivial | (dsimp only; omega))) (lt_dec rfl) ?_
      refine Ops_guard_t rfl rfl (lt_dec rfl) ?_
      refine Ops_p (p_neq8 rfl rfl rfl rfl (by kernel_rfl) (by kernel_rfl) (by kernel_rfl)) (lt_dec rfl) ?_
      refine Ops_guard_t rfl rfl (lt_dec rfl) ?_
      refine Ops_p (p_pick_t rfl rfl) (lt_dec rfl) ?_
      refine Ops_p (p_pick_f rfl rfl) (lt_dec rfl) ?_
      refine Ops_nil ?_
      refine W_cond rfl (fun h2 => ?_) (fun h2 => ?_)
      ·try simp only [bs] at h2
       refine W_seq ?_
       refine W_region ?_
       refine o_as rfl rfl ?_
       refine Ops_nil ?_
       refine W_ret ?_
       refine Exists.intro _ (And.intro (.cons (.tmp rfl) .nil) ?_)
       first | rfl | (refine veq_bool ?_; simp_all; done) | (refine veq_bool ?_; simp; omega) | (refine veq_bool ?_; rw [eq_comm, decide_eq_false_iff_not]; omega) | (refine veq_bool ?_; rw [eq_comm, decide_eq_true_iff]; omega) | (exact veq_bool (rowsOk_f (not_rows_perm (x := i) (by omega) (by omega) (by assumption)))) | (exact veq_bool (rowsOk_f (not_rows_zero (x := i) (by omega) (by omega) (by assumption)))) | (obtain rfl : i = 10 := (by omega); exact veq_bool (rowsOk_t hR)) | (exfalso; omega)
      ·try simp only [bs] at h2
       refine W_skip ?_
       refine W_region ?_
       refine o_mv rfl rfl ?_
       refine Ops_p (p_add rfl rfl (by refine ⟨?_, ?_⟩ <;> first | omega | (dsimp only; omega))) (lt_dec rfl) ?_
       refine o_as rfl rfl ?_
       refine Ops_nil ?_
       refine Exists.intro (i + 1) (And.intro ?_ (And.intro ?_ ?_))
       ·first | (refine ⟨by omega, fun x h => if e : x = i then ?_ else hR x (by omega)⟩; subst e; exact ⟨fun _ => of_isPerm (by assumption), fun h => by omega⟩) | (refine ⟨by omega, fun x h => if e : x = i then ?_ else hR x (by omega)⟩; subst e; exact ⟨fun h => by omega, fun _ => by assumption⟩) | (exfalso; omega)
       ·show _ < _; omega
       ·exact Wk.intro (.c rfl (.c rfl (.c rfl (.cons rfl (by first | rfl | exact veq_int (by first | omega | (dsimp only; omega))) .nil)))) (.keep rfl rfl (fun _ h => h) .nil)
     ·try simp only [bs] at hg3
      refine Ops_guard_f rfl rfl rfl (lt_dec rfl) ?_
      refine Ops_guard_f rfl rfl rfl (lt_dec rfl) ?_
      refine Ops_guard_f rfl rfl rfl (lt_dec rfl) ?_
      refine Ops_guard_f rfl rfl rfl (lt_dec rfl) ?_
      refine Ops_guard_t rfl rfl (lt_dec rfl) ?_
      refine Ops_p (p_pick_f rfl rfl) (lt_dec rfl) ?_
      refine Ops_p (p_pick_f rfl rfl) (lt_dec rfl) ?_
      refine Ops_nil ?_
      refine W_false rfl ?_
      refine W_skip ?_
      refine W_region ?_
      refine o_mv rfl rfl ?_
      refine Ops_p (p_add rfl rfl (by refine ⟨?_, ?_⟩ <;> first | omega | (dsimp only; omega))) (lt_dec rfl) ?_
      refine o_as rfl rfl ?_
      refine Ops_nil ?_
      refine Exists.intro (i + 1) (And.intro ?_ (And.intro ?_ ?_))
      ·first | (refine ⟨by omega, fun x h => if e : x = i then ?_ else hR x (by omega)⟩; subst e; exact ⟨fun _ => of_isPerm (by assumption), fun h => by omega⟩) | (refine ⟨by omega, fun x h => if e : x = i then ?_ else hR x (by omega)⟩; subst e; exact ⟨fun h => by omega, fun _ => by assumption⟩) | (exfalso; omega)
      ·show _ < _; omega
      ·exact Wk.intro (.c rfl (.c rfl (.c rfl (.cons rfl (by first | rfl | exact veq_int (by first | omega | (dsimp only; omega))) .nil)))) (.keep rfl rfl (fun _ h => h) .nil)
    ·try simp only [bs] at hg2
     refine Ops_guard_f rfl rfl rfl (lt_dec rfl) ?_
     refine Ops_guard_f rfl rfl rfl (lt_dec rfl) ?_
     refine Ops_guard_f rfl rfl rfl (lt_dec rfl) ?_
     refine Ops_guard_u rfl rfl (lt_dec rfl) ?_
     refine Ops_guard_u rfl rfl (lt_dec rfl) ?_
     refine Ops_guard_u rfl rfl (lt_dec rfl) ?_
     refine Ops_guard_u rfl rfl (lt_dec rfl) ?_
     refine Ops_guard_u rfl rfl (lt_dec rfl) ?_
     refine Ops_guard_f rfl rfl rfl (lt_dec rfl) ?_
     refine Ops_p (p_pick_t rfl rfl) (lt_dec rfl) ?_
     refine Ops_nil ?_
     refine W_true rfl ?_
     refine W_seq ?_
     refine W_region ?_
     refine o_as rfl rfl ?_
     refine Ops_nil ?_
     refine W_ret ?_
     refine Exists.intro _ (And.intro (.cons (.tmp rfl) .nil) ?_)
     first | rfl | (refine veq_bool ?_; simp_all; done) | (refine veq_bool ?_; simp; omega) | (refine veq_bool ?_; rw [eq_comm, decide_eq_false_iff_not]; omega) | (refine veq_bool ?_; rw [eq_comm, decide_eq_true_iff]; omega) | (exact veq_bool (rowsOk_f (not_rows_perm (x := i) (by omega) (by omega) (by assumption)))) | (exact veq_bool (rowsOk_f (not_rows_zero (x := i) (by omega) (by omega) (by assumption)))) | (obtain rfl : i = 10 := (by omega); exact veq_bool (rowsOk_t hR)) | (exfalso; omega)
   ·try simp only [bs] at hg1
    refine Ops_guard_f rfl rfl rfl (lt_dec rfl) ?_
    refine Ops_guard_f rfl rfl rfl (lt_dec rfl) ?_
    refine Ops_guard_f rfl rfl rfl (lt_dec rfl) ?_
    refine Ops_guard_f rfl rfl rfl (lt_dec rfl) ?_
    refine Ops_guard_f rfl rfl rfl (lt_dec rfl) ?_
    refine Ops_p (p_pick_f rfl rfl) (lt_dec rfl) ?_
    refine o_mv rfl rfl ?_
    refine Ops_guard_t rfl rfl (lt_dec rfl) ?_
    refine o_mv rfl rfl ?_
    refine Ops_guard_t rfl rfl (lt_dec rfl) ?_
    refine o_mv rfl rfl ?_
    refine Ops_guard_t rfl rfl (lt_dec rfl) ?_
    refine Ops_p (p_geq rfl rfl) (lt_dec rfl) ?_
    refine Ops_guard_t rfl rfl (lt_dec rfl) ?_
    refine o_mv rfl rfl ?_
    refine Ops_guard rfl rfl (lt_dec rfl) (fun hg4 => ?_) (fun hg4 => ?_)
    ·try simp only [bs] at hg4
     refine o_mv rfl rfl ?_
     refine Ops_guard_t rfl rfl (lt_dec rfl) ?_
     refine Ops_p (p_ixN 10 _ rfl rfl rfl rfl rfl rfl (by first | omega | exact Fin.isLt _ | (dsimp only; omega))) (lt_dec rfl) ?_
     refine Ops_guard_t rfl rfl (lt_dec rfl) ?_
     refine Ops_q (q_load rfl rfl m0 rfl (by first | exact True.intro | omega | exact Fin.isLt _ | trivial | (dsimp only; omega))) (lt_dec rfl) ?_
     refine Ops_guard_t rfl rfl (lt_dec rfl) ?_
     refine Ops_p (p_build_arr rfl rfl rfl rfl (by first | exact True.intro | omega | exact Fin.isLt _ | trivial | (dsimp only; omega))) (lt_dec rfl) ?_
     refine Ops_guard_t rfl rfl (lt_dec rfl) ?_
     refine Ops_p (p_neq8 rfl rfl rfl rfl (by kernel_rfl) (by kernel_rfl) (by kernel_rfl)) (lt_dec rfl) ?_
     refine Ops_guard_t rfl rfl (lt_dec rfl) ?_
     refine Ops_p (p_pick_t rfl rfl) (lt_dec rfl) ?_
     refine Ops_p (p_pick_f rfl rfl) (lt_dec rfl) ?_
     refine Ops_nil ?_
     refine W_cond rfl (fun h3 => ?_) (fun h3 => ?_)
     ·try simp only [bs] at h3
      refine W_seq ?_
      refine W_region ?_
      refine o_as rfl rfl ?_
      refine Ops_nil ?_
      refine W_ret ?_
      refine Exists.intro _ (And.intro (.cons (.tmp rfl) .nil) ?_)
      first | rfl | (refine veq_bool ?_; simp_all; done) | (refine veq_bool ?_; simp; omega) | (refine veq_bool ?_; rw [eq_comm, decide_eq_false_iff_not]; omega) | (refine veq_bool ?_; rw [eq_comm, decide_eq_true_iff]; omega) | (exact veq_bool (rowsOk_f (not_rows_perm (x := i) (by omega) (by omega) (by assumption)))) | (exact veq_bool (rowsOk_f (not_rows_zero (x := i) (by omega) (by omega) (by assumption)))) | (obtain rfl : i = 10 := (by omega); exact veq_bool (rowsOk_t hR)) | (exfalso; omega)
     ·try simp only [bs] at h3
      refine W_skip ?_
      refine W_region ?_
      refine o_mv rfl rfl ?_
      refine Ops_p (p_add rfl rfl (by refine ⟨?_, ?_⟩ <;> first | omega | (dsimp only; omega))) (lt_dec rfl) ?_
      refine o_as rfl rfl ?_
      refine Ops_nil ?_
      refine Exists.intro (i + 1) (And.intro ?_ (And.intro ?_ ?_))
      ·first | (refine ⟨by omega, fun x h => if e : x = i then ?_ else hR x (by omega)⟩; subst e; exact ⟨fun _ => of_isPerm (by assumption), fun h => by omega⟩) | (refine ⟨by omega, fun x h => if e : x = i then ?_ else hR x (by omega)⟩; subst e; exact ⟨fun h => by omega, fun _ => by assumption⟩) | (exfalso; omega)
      ·show _ < _; omega
      ·exact Wk.intro (.c rfl (.c rfl (.c rfl (.cons rfl (by first | rfl | exact veq_int (by first | omega | (dsimp only; omega))) .nil)))) (.keep rfl rfl (fun _ h => h) .nil)
    ·try simp only [bs] at hg4
     refine Ops_guard_f rfl rfl rfl (lt_dec rfl) ?_
     refine Ops_guard_f rfl rfl rfl (lt_dec rfl) ?_
     refine Ops_guard_f rfl rfl rfl (lt_dec rfl) ?_
     refine Ops_guard_f rfl rfl rfl (lt_dec rfl) ?_
     refine Ops_guard_t rfl rfl (lt_dec rfl) ?_
     refine Ops_p (p_pick_f rfl rfl) (lt_dec rfl) ?_
     refine Ops_p (p_pick_f rfl rfl) (lt_dec rfl) ?_
     refine Ops_nil ?_
     refine W_false rfl ?_
     refine W_skip ?_
     refine W_region ?_
     refine o_mv rfl rfl ?_
     refine Ops_p (p_add rfl rfl (by refine ⟨?_, ?_⟩ <;> first | omega | (dsimp only; omega))) (lt_dec rfl) ?_
     refine o_as rfl rfl ?_
     refine Ops_nil ?_
     refine Exists.intro (i + 1) (And.intro ?_ (And.intro ?_ ?_))
     ·first | (refine ⟨by omega, fun x h => if e : x = i then ?_ else hR x (by omega)⟩; subst e; exact ⟨fun _ => of_isPerm (by assumption), fun h => by omega⟩) | (refine ⟨by omega, fun x h => if e : x = i then ?_ else hR x (by omega)⟩; subst e; exact ⟨fun h => by omega, fun _ => by assumption⟩) | (exfalso; omega)
     ·show _ < _; omega
     ·exact Wk.intro (.c rfl (.c rfl (.c rfl (.cons rfl (by first | rfl | exact veq_int (by first | omega | (dsimp only; omega))) .nil)))) (.keep rfl rfl (fun _ h => h) .nil)
  ·try simp only [bs] at h1
   refine W_exit ?_
   refine W_seq ?_
   refine W_region ?_
   refine o_as rfl rfl ?_
   refine Ops_nil ?_
   refine W_ret ?_
   refine Exists.intro _ (And.intro (.cons (.tmp rfl) .nil) ?_)
   first | rfl | (refine veq_bool ?_; simp_all; done) | (refine veq_bool ?_; simp; omega) | (refine veq_bool ?_; rw [eq_comm, decide_eq_false_iff_not]; omega) | (refine veq_bool ?_; rw [eq_comm, decide_eq_true_iff]; omega) | (exact veq_bool (rowsOk_f (not_rows_perm (x := i) (by omega) (by omega) (by assumption)))) | (exact veq_bool (rowsOk_f (not_rows_zero (x := i) (by omega) (by omega) (by assumption)))) | (obtain rfl : i = 10 := (by omega); exact veq_bool (rowsOk_t hR)) | (exfalso; omega)
end Go.Proofs.Ytjihhcjpbcmjaaa
end
section
namespace Go.Proofs.Ytjihhcjpbcmjaaa
open Go Gx
set_option linter.unusedVariables false
theorem en_spec_l01Turned : Enters Try.prog 81 := enters_of Try.func81 (by kernel_rfl) (by kernel_rfl)
set_option maxRecDepth 100000 in
theorem w_spec_l01Turned {t : Nat → Fin 256}  : CR Try.prog 81 (vals [.arr8 100 t]) [] (.arr8 100 (turned t)) := by
 refine CR_intro (rs := [.cell 2 74]) tt tok Try.func81 rfl rfl rfl (by first | rfl | assumption) fun w => ?_
 refine W_seq ?_
 refine W_region ?_
 refine Ops_x rfl (x_box rfl rfl (lt_dec rfl) fun b1_1 => ?_)
 refine Ops_x rfl (x_alloc rfl (lt_dec rfl) fun b2_1 => ?_)
 refine Ops_nil ?_
 refine W_seq ?_
 refine W_region ?_
 refine Ops_p (p_build_arr rfl rfl rfl rfl (by first | exact True.intro | omega | exact Fin.isLt _ | trivial | (dsimp only; omega))) (lt_dec rfl) ?_
 refine Ops_x rfl (x_alloc rfl (lt_dec rfl) fun b3_1 => ?_)
 refine Ops_x rfl (x_store rfl rfl rfl rfl rfl HpRep.head rfl (by first | trivial | (first | (first | omega | (dsimp only; omega)) | exact Fin.isLt _)) ?_)
 refine Ops_nil ?_
 refine W_seq ?_
 refine W_seq ?_
 refine W_region ?_
 refine o_as rfl rfl ?_
 refine Ops_nil ?_
 refine W_block ?_
 refine W_loop (α := Nat) (fun x => ⟨[(0, .arr8 100 t), (1, .ptr b1_1 0 none), (2, .ptr b2_1 0 none), (3, .ptr b3_1 0 none), (4, .int .i64 (x : Int))], [.var b3_1 (.arr8 100 (partT t x 0)), .var b2_1 (.arr8 100 fun _ => 0), .var b1_1 (.arr8 100 t)]⟩) (fun x => x ≤ 10) (fun x => 10 - x) 0 ?_ ?_ ?_
 ·show _ ≤ _; omega
 ·exact Wk.intro (.c rfl (.c rfl (.c rfl (.c rfl (.cons rfl (by first | rfl | exact veq_int (by first | omega | (dsimp only; omega))) .nil))))) (.keep rfl rfl (imp_var (by exact ceq_arr8 fun k _ => (partT_zero k).symm) rfl) (.keep rfl rfl (fun _ h => h) (.keep rfl rfl (fun _ h => h) .nil)))
 ·rintro x hR
  refine W_seq ?_
  refine W_seq ?_
  refine W_region ?_
  refine o_mv rfl rfl ?_
  refine Ops_p (p_lss rfl rfl) (lt_dec rfl) ?_
  refine Ops_nil ?_
  refine W_cond rfl (fun h1 => ?_) (fun h1 => ?_)
  ·try simp only [bs] at h1
   refine W_skip ?_
   refine W_seq ?_
   refine W_block ?_
   refine W_seq ?_
   refine W_region ?_
   refine o_as rfl rfl ?_
   refine Ops_nil ?_
   refine W_block ?_
   refine W_loop (α := Nat) (fun y => ⟨[(0, .arr8 100 t), (1, .ptr b1_1 0 none), (2, .ptr b2_1 0 none), (3, .ptr b3_1 0 none), (4, .int .i64 (x : Int)), (5, .int .i64 (y : Int))], [.var b3_1 (.arr8 100 (partT t x y)), .var b2_1 (.arr8 100 fun _ => 0), .var b1_1 (.arr8 100 t)]⟩) (fun y => y ≤ 10) (fun y => 10 - y) 0 ?_ ?_ ?_
   ·show _ ≤ _; omega
   ·exact Wk.intro (.c rfl (.c rfl (.c rfl (.c rfl (.c rfl (.cons rfl (by first | rfl | exact veq_int (by first | omega | (dsimp only; omega))) .nil)))))) (.keep rfl rfl (imp_var (by rfl) rfl) (.keep rfl rfl (fun _ h => h) (.keep rfl rfl (fun _ h => h) .nil)))
   ·rintro y hR
    refine W_seq ?_
    refine W_seq ?_
    refine W_region ?_
    refine o_mv rfl rfl ?_
    refine Ops_p (p_lss rfl rfl) (lt_dec rfl) ?_
    refine Ops_nil ?_
    refine W_cond rfl (fun h2 => ?_) (fun h2 => ?_)
    ·try simp only [bs] at h2
     refine W_skip ?_
     refine W_seq ?_
     refine W_block ?_
     refine W_draw (by kernel_rfl) ?_
     show RA _ _ 10 _ _ _
     refine RA_quiet (g := 1) [0, 1, 2, 3, 4, 5, 6, 7, 8] (by kernel_rfl) (by kernel_rfl) (by kernel_rfl) (by kernel_rfl) ?_
     refine WQ_cons rfl rfl rfl ((p_move rfl).q) (lt_dec rfl) ?_
     refine WQ_cons rfl rfl rfl ((p_move rfl).q) (lt_dec rfl) ?_
     refine WQ_cons rfl rfl rfl ((p_move rfl).q) (lt_dec rfl) ?_
     refine WQ_cons rfl rfl rfl ((p_move rfl).q) (lt_dec rfl) ?_
     refine WQ_cons rfl rfl rfl ((p_ixN 10 _ rfl rfl rfl rfl rfl rfl (by first | omega | exact Fin.isLt _ | (dsimp only; omega))).q) (lt_dec rfl) ?_
     first | refine WQ_cons rfl rfl rfl ((p_ix1 _ rfl rfl rfl rfl rfl rfl (by first | omega | exact Fin.isLt _ | (dsimp only; omega))).q) (lt_dec rfl) ?_ | refine WQ_cons rfl rfl rfl ((p_ix1s _ rfl rfl rfl rfl rfl rfl (by first | omega | exact Fin.isLt _ | (dsimp only; omega))).q) (lt_dec rfl) ?_
     refine WQ_cons rfl rfl rfl ((q_load rfl rfl m2 rfl (by first | exact True.intro | omega | exact Fin.isLt _ | trivial | (dsimp only; omega)))) (lt_dec rfl) ?_
     refine WQ_cons rfl rfl rfl ((p_ixN 10 _ rfl rfl rfl rfl rfl rfl (by first | omega | exact Fin.isLt _ | (dsimp only; omega))).q) (lt_dec rfl) ?_
     first | refine WQ_cons rfl rfl rfl ((p_ix1 _ rfl rfl rfl rfl rfl rfl (by first | omega | exact Fin.isLt _ | (dsimp only; omega))).q) (lt_dec rfl) ?_ | refine WQ_cons rfl rfl rfl ((p_ix1s _ rfl rfl rfl rfl rfl rfl (by first | omega | exact Fin.isLt _ | (dsimp only; omega))).q) (lt_dec rfl) ?_
     refine WQ_nil ?_
     refine RA_one 9 rfl rfl (by kernel_rfl) (x_store rfl rfl rfl rfl rfl HpRep.head rfl (by first | trivial | (first | (first | omega | (dsimp only; omega)) | exact Fin.isLt _)) ?_)
     refine RA_done (by kernel_rfl) ?_
     refine W_region ?_
     refine o_mv rfl rfl ?_
     refine Ops_p (p_add rfl rfl (by refine ⟨?_, ?_⟩ <;> first | omega | (dsimp only; omega))) (lt_dec rfl) ?_
     refine o_as rfl rfl ?_
     refine Ops_nil ?_
     refine Exists.intro (y + 1) (And.intro ?_ (And.intro ?_ ?_))
     ·show _ ≤ _; omega
     ·show _ < _; omega
     ·exact Wk.intro (.c rfl (.c rfl (.c rfl (.c rfl (.c rfl (.cons rfl (by first | rfl | exact veq_int (by first | omega | (dsimp only; omega))) .nil)))))) (.keep rfl rfl (imp_var (by exact ceq_arr8 fun k _ => partT_step (by omega) k) rfl) (.keep rfl rfl (fun _ h => h) (.keep rfl rfl (fun _ h => h) .nil)))
    ·try simp only [bs] at h2
     obtain rfl : y = 10 := (by omega)
     refine W_exit ?_
     refine W_region ?_
     refine o_mv rfl rfl ?_
     refine Ops_p (p_add rfl rfl (by refine ⟨?_, ?_⟩ <;> first | omega | (dsimp only; omega))) (lt_dec rfl) ?_
     refine o_as rfl rfl ?_
     refine Ops_nil ?_
     refine Exists.intro (x + 1) (And.intro ?_ (And.intro ?_ ?_))
     ·show _ ≤ _; omega
     ·show _ < _; omega
     ·exact Wk.intro (.c rfl (.c rfl (.c rfl (.c rfl (.cons rfl (by first | rfl | exact veq_int (by first | omega | (dsimp only; omega))) .nil))))) (.keep rfl rfl (imp_var (by exact ceq_arr8 fun k hk => partT_row k hk) rfl) (.keep rfl rfl (fun _ h => h) (.keep rfl rfl (fun _ h => h) .nil)))
  ·try simp only [bs] at h1
   obtain rfl : x = 10 := (by omega)
   refine W_exit ?_
   refine W_seq ?_
   refine W_region ?_
   refine Ops_q (q_load rfl rfl m0 rfl (by first | exact True.intro | omega | exact Fin.isLt _ | trivial | (dsimp only; omega))) (lt_dec rfl) ?_
   refine Ops_x rfl (x_store rfl rfl rfl rfl rfl ((HpRep.head).tail) rfl (by first | trivial | (first | (first | omega | (dsimp only; omega)) | exact Fin.isLt _)) ?_)
   refine Ops_nil ?_
   refine W_ret ?_
   refine Exists.intro _ (And.intro (.cons (.cell rfl rfl m1 rfl trivial) .nil) ?_)
   exact veq_arr8 fun k _ => partT_all k
end Go.Proofs.Ytjihhcjpbcmjaaa
end
section
namespace Go.Proofs.Ytjihhcjpbcmjaaa
open Go Gx
set_option linter.unusedVariables false
theorem en_spec_l01Is : Enters Try.prog 84 := enters_of Try.func84 (by kernel_rfl) (by kernel_rfl)
set_option maxRecDepth 100000 in
theorem w_spec_l01Is {t : Nat → Fin 256} {n : Int}  : CR Try.prog 84 (vals [.agg [.int .i64 n, .arr8 100 t]]) [] (.bool (isSq n t)) := by
 refine CR_intro (rs := [.tmp 2]) tt tok Try.func84 rfl rfl rfl (by first | rfl | assumption) fun w => ?_
 refine W_seq ?_
 refine W_region ?_
 refine Ops_x rfl (x_box rfl rfl (lt_dec rfl) fun b1_1 => ?_)
 refine o_as rfl rfl ?_
 refine Ops_nil ?_
 refine W_seq ?_
 refine W_draw (by kernel_rfl) ?_
 show RA _ _ 19 _ _ _
 refine RA_quietF [0, 1, 2, 3, 4, 5, 6, 7, 8, 9, 10, 11, 12, 13, 14, 15, 16, 17, 18] rfl rfl rfl (by kernel_rfl) (by kernel_rfl) ?_
 refine WQ_cons rfl rfl rfl ((p_fieldAddr rfl rfl rfl rfl rfl rfl).q) (lt_dec rfl) ?_
 refine WQ_cons rfl rfl rfl ((q_load rfl rfl m0 rfl (by first | exact True.intro | omega | exact Fin.isLt _ | trivial | (dsimp only; omega)))) (lt_dec rfl) ?_
 refine WQ_cons rfl rfl rfl ((q_call en_spec_l01In rfl (w_spec_l01In) (View.none _))) (lt_dec rfl) ?_
 refine WQ_cons rfl rfl rfl ((p_move rfl).q) (lt_dec rfl) ?_
 first | refine WQ_guard rfl rfl rfl (lt_dec rfl) (fun hg1 => ⟨_, (p_fieldAddr rfl rfl rfl rfl rfl rfl).q, ?_⟩) (fun hg1 => ?_)
 ·try simp only [bs] at hg1
  first | refine WQ_guard rfl rfl rfl (lt_dec rfl) (fun _ => ⟨_, (q_load rfl rfl m0 rfl (by first | exact True.intro | omega | exact Fin.isLt _ | trivial | (dsimp only; omega))), ?_⟩) (fun h => by cases h)
  first | refine WQ_guard rfl rfl rfl (lt_dec rfl) (fun _ => ⟨_, (p_fieldAddr rfl rfl rfl rfl rfl rfl).q, ?_⟩) (fun h => by cases h)
  first | refine WQ_guard rfl rfl rfl (lt_dec rfl) (fun _ => ⟨_, (q_load rfl rfl m0 rfl (by first | exact True.intro | omega | exact Fin.isLt _ | trivial | (dsimp only; omega))), ?_⟩) (fun h => by cases h)
  first | refine WQ_guard rfl rfl rfl (lt_dec rfl) (fun _ => ⟨_, (q_call en_spec_l01Rows rfl (w_spec_l01Rows) (View.none _)), ?_⟩) (fun h => by cases h)
  refine WQ_cons rfl rfl rfl ((p_pick_t rfl rfl).q) (lt_dec rfl) ?_
  refine WQ_cons rfl rfl rfl ((p_move rfl).q) (lt_dec rfl) ?_
  first | refine WQ_guard rfl rfl rfl (lt_dec rfl) (fun hg6 => ⟨_, (p_fieldAddr rfl rfl rfl rfl rfl rfl).q, ?_⟩) (fun hg6 => ?_)
  ·try simp only [bs] at hg6
   first | refine WQ_guard rfl rfl rfl (lt_dec rfl) (fun _ => ⟨_, (q_load rfl rfl m0 rfl (by first | exact True.intro | omega | exact Fin.isLt _ | trivial | (dsimp only; omega))), ?_⟩) (fun h => by cases h)
   first | refine WQ_guard rfl rfl rfl (lt_dec rfl) (fun _ => ⟨_, (q_call en_spec_l01Turned rfl (w_spec_l01Turned) (View.none _)), ?_⟩) (fun h => by cases h)
   first | refine WQ_guard rfl rfl rfl (lt_dec rfl) (fun _ => ⟨_, (p_fieldAddr rfl rfl rfl rfl rfl rfl).q, ?_⟩) (fun h => by cases h)
   first | refine WQ_guard rfl rfl rfl (lt_dec rfl) (fun _ => ⟨_, (q_load rfl rfl m0 rfl (by first | exact True.intro | omega | exact Fin.isLt _ | trivial | (dsimp only; omega))), ?_⟩) (fun h => by cases h)
   first | refine WQ_guard rfl rfl rfl (lt_dec rfl) (fun _ => ⟨_, (q_call en_spec_l01Rows rfl (w_spec_l01Rows) (View.none _)), ?_⟩) (fun h => by cases h)
   refine WQ_cons rfl rfl rfl ((p_pick_t rfl rfl).q) (lt_dec rfl) ?_
   refine WQ_cons rfl rfl rfl ((p_assign rfl).q) (lt_dec rfl) ?_
   refine WQ_nil ?_
   refine W_ret ?_
   refine Exists.intro _ (And.intro (.cons (.tmp rfl) .nil) ?_)
   refine veq_bool ?_; rw [isSq_eq]; (first | rw [decide_eq_true (show 1 ≤ n ∧ n ≤ 10 from (by assumption))] | rw [decide_eq_false (show ¬ (1 ≤ n ∧ n ≤ 10) from (by assumption))]); first | rfl | (rw [hg6]; rfl)
  ·try simp only [bs] at hg6
   refine WQ_guard rfl rfl rfl (lt_dec rfl) (fun h => by cases h) (fun _ => ?_)
   refine WQ_guard rfl rfl rfl (lt_dec rfl) (fun h => by cases h) (fun _ => ?_)
   refine WQ_guard rfl rfl rfl (lt_dec rfl) (fun h => by cases h) (fun _ => ?_)
   refine WQ_guard rfl rfl rfl (lt_dec rfl) (fun h => by cases h) (fun _ => ?_)
   refine WQ_guard rfl rfl rfl (lt_dec rfl) (fun h => by cases h) (fun _ => ?_)
   refine WQ_cons rfl rfl rfl ((p_pick_f rfl rfl).q) (lt_dec rfl) ?_
   refine WQ_cons rfl rfl rfl ((p_assign rfl).q) (lt_dec rfl) ?_
   refine WQ_nil ?_
   refine W_ret ?_
   refine Exists.intro _ (And.intro (.cons (.tmp rfl) .nil) ?_)
   refine veq_bool ?_; rw [isSq_eq]; (first | rw [decide_eq_true (show 1 ≤ n ∧ n ≤ 10 from (by assumption))] | rw [decide_eq_false (show ¬ (1 ≤ n ∧ n ≤ 10) from (by assumption))]); first | rfl | (rw [hg6]; rfl)
 ·try simp only [bs] at hg1
  refine WQ_guard rfl rfl rfl (lt_dec rfl) (fun h => by cases h) (fun _ => ?_)
  refine WQ_guard rfl rfl rfl (lt_dec rfl) (fun h => by cases h) (fun _ => ?_)
  refine WQ_guard rfl rfl rfl (lt_dec rfl) (fun h => by cases h) (fun _ => ?_)
  refine WQ_guard rfl rfl rfl (lt_dec rfl) (fun h => by cases h) (fun _ => ?_)
  refine WQ_cons rfl rfl rfl ((p_pick_f rfl rfl).q) (lt_dec rfl) ?_
  refine WQ_cons rfl rfl rfl ((p_move rfl).q) (lt_dec rfl) ?_
  refine WQ_guard rfl rfl rfl (lt_dec rfl) (fun h => by cases h) (fun _ => ?_)
  refine WQ_guard rfl rfl rfl (lt_dec rfl) (fun h => by cases h) (fun _ => ?_)
  refine WQ_guard rfl rfl rfl (lt_dec rfl) (fun h => by cases h) (fun _ => ?_)
  refine WQ_guard rfl rfl rfl (lt_dec rfl) (fun h => by cases h) (fun _ => ?_)
  refine WQ_guard rfl rfl rfl (lt_dec rfl) (fun h => by cases h) (fun _ => ?_)
  refine WQ_guard rfl rfl rfl (lt_dec rfl) (fun h => by cases h) (fun _ => ?_)
  refine WQ_cons rfl rfl rfl ((p_pick_f rfl rfl).q) (lt_dec rfl) ?_
  refine WQ_cons rfl rfl rfl ((p_assign rfl).q) (lt_dec rfl) ?_
  refine WQ_nil ?_
  refine W_ret ?_
  refine Exists.intro _ (And.intro (.cons (.tmp rfl) .nil) ?_)
  refine veq_bool ?_; rw [isSq_eq]; (first | rw [decide_eq_true (show 1 ≤ n ∧ n ≤ 10 from (by assumption))] | rw [decide_eq_false (show ¬ (1 ≤ n ∧ n ≤ 10) from (by assumption))]); first | rfl | (rw [hg6]; rfl)
end Go.Proofs.Ytjihhcjpbcmjaaa
end
section
namespace Go.Proofs.Ytjihhcjpbcmjaaa
open Go Gx
set_option linter.unusedVariables false
theorem en_spec_l01Split : Enters Try.prog 83 := enters_of Try.func83 (by kernel_rfl) (by kernel_rfl)
set_option maxRecDepth 100000 in
set_option maxHeartbeats 1000000 in
theorem w_spec_l01Split {s : List (Fin 256)} (hs : s.length ≤ 1048576) : FR Try.prog 83 (vals [.raw (.string (strB s)) rfl, .int .u8 47]) [] 9 (strsR (spS s)) := by
 refine CF_intro (rs := [.tmp 4]) tt tok Try.func83 rfl rfl rfl (by first | rfl | assumption) fun w => ?_
 refine W_seq ?_
 refine W_region ?_
 refine o_as rfl rfl ?_
 refine Ops_nil ?_
 refine W_seq ?_
 refine W_region ?_
 refine Ops_x rfl (x_buildSlice rfl rfl rfl rfl rfl rfl rfl rfl (Nat.le_of_ble_eq_true rfl) (lt_dec rfl) fun b8_1 => ?_)
 refine o_as rfl rfl ?_
 refine Ops_nil ?_
 refine W_seq ?_
 refine W_region ?_
 refine o_as rfl rfl ?_
 refine Ops_nil ?_
 refine W_seq ?_
 refine W_seq ?_
 refine W_region ?_
 refine o_as rfl rfl ?_
 refine Ops_nil ?_
 refine W_block ?_
 refine W_loop (α := Nat × Nat × Nat) (fun zz0 => ⟨[(0, .raw (.string (strB s)) rfl), (1, .int .u8 47), (5, .sl (zz0.2.1) 0 (List.length (Prod.fst (spG s (zz0.1)))) (zz0.2.2)), (6, .int .i64 (((Prod.snd (spG s (zz0.1))) : Nat) : Int)), (7, .int .i64 ((zz0.1) : Int))], [.row (zz0.2.1) (zz0.2.2) 9 (strsR (Prod.fst (spG s (zz0.1))))]⟩) (fun zz0 => (zz0.1) ≤ s.length) (fun zz0 => s.length - (zz0.1)) (0, b8_1, 0) ?_ ?_ ?_
 ·show _ ≤ _; omega
 ·exact Wk.intro (.c rfl (.c rfl (.cons rfl (by first | rfl | exact veq_int (by first | omega | (dsimp only; omega))) (.cons rfl (by first | rfl | exact veq_int (by first | omega | (dsimp only; omega))) (.cons rfl (by first | rfl | exact veq_int (by first | omega | (dsimp only; omega))) .nil))))) (.keep rfl rfl (fun _ h => h) .nil)
 ·rintro ⟨i, bb, cbb⟩ hR
  try dsimp only at *
  have hg := (spG_inv (s := s) i hR).1
  have hgl := spG_len (s := s) i
  refine W_seq ?_
  refine W_seq ?_
  refine W_region ?_
  refine o_mv rfl rfl ?_
  refine o_mv rfl rfl ?_
  refine Ops_p (p_len_B rfl rfl rfl) (lt_dec rfl) ?_
  refine Ops_p (p_lss rfl rfl) (lt_dec rfl) ?_
  refine Ops_nil ?_
  refine W_cond rfl (fun h1 => ?_) (fun h1 => ?_)
  ·try simp only [bs] at h1
   refine W_skip ?_
   refine W_seq ?_
   refine W_block ?_
   refine W_seq ?_
   refine W_region ?_
   refine o_mv rfl rfl ?_
   refine o_mv rfl rfl ?_
   refine Ops_p ((p_index_s i rfl rfl rfl rfl (by omega))) (lt_dec rfl) ?_
   refine o_mv rfl rfl ?_
   first | refine Ops_p (p_eql_8 rfl rfl) (lt_dec rfl) ?_ | refine Ops_p (p_eql rfl rfl) (lt_dec rfl) ?_
   refine Ops_nil ?_
   refine W_cond rfl (fun h2 => ?_) (fun h2 => ?_)
   ·try simp only [bs] at h2
    have eS := spG_t (char47.1 h2)
    refine W_seq ?_
    refine W_region ?_
    refine o_mv rfl rfl ?_
    refine o_mv rfl rfl ?_
    refine o_mv rfl rfl ?_
    refine o_mv rfl rfl ?_
    refine Ops_p (p_cut_s (l := (spG s i).2) (h := i) rfl rfl rfl rfl rfl rfl (by omega) (by omega)) (lt_dec rfl) ?_
    refine Ops_x rfl (x_buildSlice rfl rfl rfl rfl rfl rfl rfl rfl (Nat.le_of_ble_eq_true rfl) (lt_dec rfl) fun b25_1 => ?_)
    refine Ops_x rfl (x_append_t (r := strsR (Prod.fst (spG s i))) (r2 := strsR [(List.take (i - (Prod.snd (spG s i))) (List.drop (Prod.snd (spG s i)) s))]) (q := strsR ((Prod.fst (spG s i)) ++ [(List.take (i - (Prod.snd (spG s i))) (List.drop (Prod.snd (spG s i)) s))])) (n := (List.length (Prod.fst (spG s i)))) (m := 1) rfl rfl rfl rfl rfl rfl (fun _ _ => (HpRep.head).tail) (Rds.row m0 rfl) (by rw [strsR_len]; omega) (by rw [strsR_take]; rw [List.take_length]; exact strsR_app _ _) rfl (by decide) rfl (by first | omega | (dsimp only; omega)) (by first | omega | (dsimp only; omega)) (lt_dec rfl) fun b26_1 cb26_1 => ?_)
    refine o_as rfl rfl ?_
    refine Ops_nil ?_
    refine W_region ?_
    refine o_mv rfl rfl ?_
    refine Ops_p (p_add rfl rfl (by refine ⟨?_, ?_⟩ <;> first | omega | (dsimp only; omega))) (lt_dec rfl) ?_
    refine o_as rfl rfl ?_
    refine Ops_nil ?_
    refine W_region ?_
    refine o_mv rfl rfl ?_
    refine Ops_p (p_add rfl rfl (by refine ⟨?_, ?_⟩ <;> first | omega | (dsimp only; omega))) (lt_dec rfl) ?_
    refine o_as rfl rfl ?_
    refine Ops_nil ?_
    refine Exists.intro (i + 1, b26_1, cb26_1) (And.intro ?_ (And.intro ?_ ?_))
    ·show _ ≤ _; omega
    ·show _ < _; omega
    ·exact Wk.intro (.c rfl (.c rfl (.cons rfl (by dsimp only; first | (rw [eS]; done) | (rw [eS]; exact veq_sl (by simp))) (.cons rfl (by dsimp only; first | (rw [eS]; done) | (rw [eS]; first | rfl | exact veq_int (by omega))) (.cons rfl (by first | rfl | exact veq_int (by first | omega | (dsimp only; omega))) .nil))))) (.drop (.keep rfl rfl (fun _ h => by dsimp only; rw [eS]; exact h) .nil))
   ·try simp only [bs] at h2
    have eS := spG_f (s := s) (i := i) (fun e => h2 (char47.2 e))
    refine W_skip ?_
    refine W_region ?_
    refine o_mv rfl rfl ?_
    refine Ops_p (p_add rfl rfl (by refine ⟨?_, ?_⟩ <;> first | omega | (dsimp only; omega))) (lt_dec rfl) ?_
    refine o_as rfl rfl ?_
    refine Ops_nil ?_
    refine Exists.intro (i + 1, bb, cbb) (And.intro ?_ (And.intro ?_ ?_))
    ·show _ ≤ _; omega
    ·show _ < _; omega
    ·exact Wk.intro (.c rfl (.c rfl (.cons rfl (by dsimp only; first | (rw [eS]; done) | (rw [eS]; exact veq_sl (by simp))) (.cons rfl (by dsimp only; first | (rw [eS]; done) | (rw [eS]; first | rfl | exact veq_int (by omega))) (.cons rfl (by first | rfl | exact veq_int (by first | omega | (dsimp only; omega))) .nil))))) (.keep rfl rfl (fun _ h => by dsimp only; rw [eS]; exact h) .nil)
  ·try simp only [bs] at h1
   obtain rfl : i = s.length := (by omega)
   refine W_exit ?_
   refine W_seq ?_
   refine W_region ?_
   refine o_mv rfl rfl ?_
   refine o_mv rfl rfl ?_
   refine o_mv rfl rfl ?_
   refine Ops_p (p_cutE_s (l := (spG s s.length).2) rfl rfl rfl rfl (by omega)) (lt_dec rfl) ?_
   refine Ops_x rfl (x_buildSlice rfl rfl rfl rfl rfl rfl rfl rfl (Nat.le_of_ble_eq_true rfl) (lt_dec rfl) fun b33_1 => ?_)
   refine Ops_x rfl (x_append_t (r := strsR (Prod.fst (spG s s.length))) (r2 := strsR [(List.drop (Prod.snd (spG s (List.length s))) s)]) (q := strsR (spS s)) (n := (List.length (Prod.fst (spG s s.length)))) (m := 1) rfl rfl rfl rfl rfl rfl (fun _ _ => (HpRep.head).tail) (Rds.row m0 rfl) (by rw [strsR_len]; omega) (by rw [strsR_take]; rw [List.take_length]; exact strsR_app _ _) rfl (by decide) rfl (by first | omega | (dsimp only; omega)) (by first | omega | (dsimp only; omega)) (lt_dec rfl) fun b34_1 cb34_1 => ?_)
   refine o_as rfl rfl ?_
   refine Ops_nil ?_
   refine W_ret ?_
   refine FR_post' (.cons (.tmp rfl) .nil) m1 ?_ ?_
   ·rw [strsR_len]; simp [spS]
   ·rfl
end Go.Proofs.Ytjihhcjpbcmjaaa
end
section
namespace Go.Proofs.Ytjihhcjpbcmjaaa
open Go Gx
set_option linter.unusedVariables false
theorem en_spec_l01Read : Enters Try.prog 77 := enters_of Try.func77 (by kernel_rfl) (by kernel_rfl)
set_option maxRecDepth 100000 in
set_option maxHeartbeats 1000000 in
theorem w_spec_l01Read {s : List (Fin 256)} (hs : s.length ≤ 1048576) : CT (X := Int × (Nat → Fin 256)) Try.prog 77 (vals [.raw (.string (strB s)) rfl]) [] [] (fun x => txB s = true → TxOk s x) (fun x => .tup [.agg [.int .i64 x.1, .arr8 100 x.2], .bool (txB s)]) (fun x => []) := by
 refine CT_intro (rs := [.cell 2 76, .tmp 3]) tt tok Try.func77 rfl rfl rfl (by first | rfl | assumption) fun w => ?_
 show W _ _ _ ⟨tmOf 0 [.raw (.string (strB s)) rfl], []⟩
 have hsl := spS_len (s := s)
 refine W_seq ?_
 refine W_region ?_
 refine Ops_x rfl (x_alloc rfl (lt_dec rfl) fun b2_1 => ?_)
 refine o_as rfl rfl ?_
 refine Ops_nil ?_
 refine W_seq ?_
 refine W_region ?_
 refine o_mv rfl rfl ?_
 refine Ops_x rfl (x_callRow en_spec_l01Split rfl (w_spec_l01Split (by first | assumption | (first | omega | (dsimp only; omega)) | (simp; done) | decide)) (View.none _) (strsR_len _) (lt_dec rfl) fun b10_1 cb10_1 => ?_)
 refine o_as rfl rfl ?_
 refine Ops_nil ?_
 refine W_seq ?_
 refine W_region ?_
 refine o_mv rfl rfl ?_
 refine Ops_p (p_len rfl rfl rfl) (lt_dec rfl) ?_
 refine o_as rfl rfl ?_
 refine Ops_nil ?_
 refine W_seq ?_
 refine W_seq ?_
 refine W_region ?_
 refine o_mv rfl rfl ?_
 refine Ops_p (p_gtr rfl rfl) (lt_dec rfl) ?_
 refine Ops_nil ?_
 refine W_cond rfl (fun h1 => ?_) (fun h1 => ?_)
 ·try simp only [bs] at h1
  have hpb := (spS_spl s).many (by omega)
  refine W_seq ?_
  refine W_region ?_
  refine Ops_p (p_build rfl rfl rfl rfl (by first | exact True.intro | omega | exact Fin.isLt _ | trivial | (dsimp only; omega))) (lt_dec rfl) ?_
  refine Ops_x rfl (x_store rfl rfl rfl rfl rfl ((HpRep.head).tail) rfl (by first | trivial | (first | (first | omega | (dsimp only; omega)) | exact Fin.isLt _)) ?_)
  refine o_as rfl rfl ?_
  refine Ops_nil ?_
  refine W_ret ?_
  refine Exists.intro _ (And.intro (.cons (.cell rfl rfl m1 rfl trivial) (.cons (.tmp rfl) .nil)) (Exists.intro ((0 : Int), fun _ => (0 : Fin 256)) (And.intro ?_ (And.intro ?_ (And.intro .nil rfl)))))
  ·first | exact fun h => absurd (h.symm.trans hpb) (by decide) | exact fun h => absurd (h.symm.trans ((spS_spl s).digit (x := i) (y := j) (by omega) (by omega) (by omega))) (by decide)
  ·first | (rw [hpb]; rfl) | (rw [(spS_spl s).digit (x := i) (y := j) (by omega) (by omega) (by omega)]; rfl)
 ·try simp only [bs] at h1
  refine W_skip ?_
  refine W_seq ?_
  refine W_region ?_
  refine o_mv rfl rfl ?_
  refine Ops_p (p_build rfl rfl rfl rfl (by first | exact True.intro | omega | exact Fin.isLt _ | trivial | (dsimp only; omega))) (lt_dec rfl) ?_
  refine Ops_x rfl (x_alloc rfl (lt_dec rfl) fun b6_1 => ?_)
  refine Ops_x rfl (x_store rfl rfl rfl rfl rfl HpRep.head rfl (by first | trivial | (first | (first | omega | (dsimp only; omega)) | exact Fin.isLt _)) ?_)
  refine Ops_nil ?_
  refine W_seq ?_
  refine W_seq ?_
  refine W_region ?_
  refine o_as rfl rfl ?_
  refine Ops_nil ?_
  refine W_block ?_
  refine W_loop (α := Nat) (fun i => ⟨[(0, .raw (.string (strB s)) rfl), (2, .ptr b2_1 0 none), (4, .sl b10_1 0 (List.length (spS s)) cb10_1), (5, .int .i64 ((List.length (spS s)) : Int)), (6, .ptr b6_1 0 none), (7, .int .i64 (i : Int))], [.var b6_1 (.agg [.int .i64 (((List.length (spS s)) : Nat) : Int), .arr8 100 (spT (spS s) i 0)]), .row b10_1 cb10_1 9 (strsR (spS s)), .var b2_1 (.agg [.int .i64 0, .arr8 100 fun _ => 0])]⟩) (fun i => i ≤ (List.length (spS s)) ∧ ∀ x, x < i → (List.getD (spS s) x []).length = (List.length (spS s)) ∧ ∀ y, y < (List.length (spS s)) → 48 ≤ ((List.getD (spS s) x []).getD y 0).val ∧ ((List.getD (spS s) x []).getD y 0).val ≤ 57) (fun i => (List.length (spS s)) - i) 0 ?_ ?_ ?_
  ·exact ⟨by omega, fun x h => by omega⟩
  ·exact Wk.intro (.c rfl (.c rfl (.c rfl (.c rfl (.c rfl (.cons rfl (by first | rfl | exact veq_int (by first | omega | (dsimp only; omega))) .nil)))))) (.keep rfl rfl (imp_var (by exact ceq_cons rfl (ceq_cons (ceq_arr8 fun k _ => (part_zero k).symm) rfl)) rfl) (.keep rfl rfl (fun _ h => h) (.keep rfl rfl (fun _ h => h) .nil)))
  ·rintro i ⟨hi, hR⟩
   refine W_seq ?_
   refine W_seq ?_
   refine W_region ?_
   refine o_mv rfl rfl ?_
   refine o_mv rfl rfl ?_
   refine Ops_p (p_lss rfl rfl) (lt_dec rfl) ?_
   refine Ops_nil ?_
   refine W_cond rfl (fun h2 => ?_) (fun h2 => ?_)
   ·try simp only [bs] at h2
    refine W_skip ?_
    refine W_seq ?_
    refine W_block ?_
    refine W_seq ?_
    refine W_seq ?_
    refine W_region ?_
    refine o_mv rfl rfl ?_
    refine o_mv rfl rfl ?_
    refine Ops_p (p_ixl1 _ rfl rfl rfl rfl rfl rfl (by first | omega | exact Fin.isLt _ | (dsimp only; omega))) (lt_dec rfl) ?_
    refine Ops_q (q_load_str (S := (spS s)) (j := i) rfl rfl m1 rfl (by first | omega | (dsimp only; omega)) rfl rfl) (lt_dec rfl) ?_
    refine Ops_p (p_len_B rfl rfl rfl) (lt_dec rfl) ?_
    refine o_mv rfl rfl ?_
    refine Ops_p (p_neq rfl rfl) (lt_dec rfl) ?_
    refine Ops_nil ?_
    refine W_cond rfl (fun h3 => ?_) (fun h3 => ?_)
    ·try simp only [bs] at h3
     have hpb := (spS_spl s).long (x := i) (by omega) (by omega)
     refine W_seq ?_
     refine W_region ?_
     refine Ops_p (p_build rfl rfl rfl rfl (by first | exact True.intro | omega | exact Fin.isLt _ | trivial | (dsimp only; omega))) (lt_dec rfl) ?_
     refine Ops_x rfl (x_store rfl rfl rfl rfl rfl (((HpRep.head).tail).tail) rfl (by first | trivial | (first | (first | omega | (dsimp only; omega)) | exact Fin.isLt _)) ?_)
     refine o_as rfl rfl ?_
     refine Ops_nil ?_
     refine W_ret ?_
     refine Exists.intro _ (And.intro (.cons (.cell rfl rfl m2 rfl trivial) (.cons (.tmp rfl) .nil)) (Exists.intro ((0 : Int), fun _ => (0 : Fin 256)) (And.intro ?_ (And.intro ?_ (And.intro .nil rfl)))))
     ·first | exact fun h => absurd (h.symm.trans hpb) (by decide) | exact fun h => absurd (h.symm.trans ((spS_spl s).digit (x := i) (y := j) (by omega) (by omega) (by omega))) (by decide)
     ·first | (rw [hpb]; rfl) | (rw [(spS_spl s).digit (x := i) (y := j) (by omega) (by omega) (by omega)]; rfl)
    ·try simp only [bs] at h3
     have hli : (List.getD (spS s) i []).length = (List.length (spS s)) := (by omega)
     refine W_skip ?_
     refine W_seq ?_
     refine W_region ?_
     refine o_as rfl rfl ?_
     refine Ops_nil ?_
     refine W_block ?_
     refine W_loop (α := Nat) (fun j => ⟨[(0, .raw (.string (strB s)) rfl), (2, .ptr b2_1 0 none), (4, .sl b10_1 0 (List.length (spS s)) cb10_1), (5, .int .i64 ((List.length (spS s)) : Int)), (6, .ptr b6_1 0 none), (7, .int .i64 (i : Int)), (8, .int .i64 (j : Int))], [.var b6_1 (.agg [.int .i64 (((List.length (spS s)) : Nat) : Int), .arr8 100 (spT (spS s) i j)]), .row b10_1 cb10_1 9 (strsR (spS s)), .var b2_1 (.agg [.int .i64 0, .arr8 100 fun _ => 0])]⟩) (fun j => j ≤ (List.length (spS s)) ∧ ∀ y, y < j → 48 ≤ ((List.getD (spS s) i []).getD y 0).val ∧ ((List.getD (spS s) i []).getD y 0).val ≤ 57) (fun j => (List.length (spS s)) - j) 0 ?_ ?_ ?_
     ·exact ⟨by omega, fun x h => by omega⟩
     ·exact Wk.intro (.c rfl (.c rfl (.c rfl (.c rfl (.c rfl (.c rfl (.cons rfl (by first | rfl | exact veq_int (by first | omega | (dsimp only; omega))) .nil))))))) (.keep rfl rfl (imp_var (by rfl) rfl) (.keep rfl rfl (fun _ h => h) (.keep rfl rfl (fun _ h => h) .nil)))
     ·rintro j ⟨hj, hR2⟩
      refine W_seq ?_
      refine W_seq ?_
      refine W_region ?_
      refine o_mv rfl rfl ?_
      refine o_mv rfl rfl ?_
      refine Ops_p (p_lss rfl rfl) (lt_dec rfl) ?_
      refine Ops_nil ?_
      refine W_cond rfl (fun h4 => ?_) (fun h4 => ?_)
      ·try simp only [bs] at h4
       refine W_skip ?_
       refine W_seq ?_
       refine W_block ?_
       refine W_seq ?_
       refine W_seq ?_
       refine W_region ?_
       refine o_mv rfl rfl ?_
       refine o_mv rfl rfl ?_
       refine Ops_p (p_ixl1 _ rfl rfl rfl rfl rfl rfl (by first | omega | exact Fin.isLt _ | (dsimp only; omega))) (lt_dec rfl) ?_
       refine Ops_q (q_load_str (S := (spS s)) (j := i) rfl rfl m1 rfl (by first | omega | (dsimp only; omega)) rfl rfl) (lt_dec rfl) ?_
       refine o_mv rfl rfl ?_
       refine Ops_p ((p_index_s j rfl rfl rfl rfl (by omega))) (lt_dec rfl) ?_
       refine Ops_p (p_lss rfl rfl) (lt_dec rfl) ?_
       refine o_mv rfl rfl ?_
       refine Ops_guard rfl rfl (lt_dec rfl) (fun hg1 => ?_) (fun hg1 => ?_)
       ·try simp only [bs] at hg1
        refine o_mv rfl rfl ?_
        refine Ops_guard_t rfl rfl (lt_dec rfl) ?_
        refine o_mv rfl rfl ?_
        refine Ops_guard_t rfl rfl (lt_dec rfl) ?_
        refine Ops_p (p_ixl1 _ rfl rfl rfl rfl rfl rfl (by first | omega | exact Fin.isLt _ | (dsimp only; omega))) (lt_dec rfl) ?_
        refine Ops_guard_t rfl rfl (lt_dec rfl) ?_
        refine Ops_q (q_load_str (S := (spS s)) (j := i) rfl rfl m1 rfl (by first | omega | (dsimp only; omega)) rfl rfl) (lt_dec rfl) ?_
        refine Ops_guard_t rfl rfl (lt_dec rfl) ?_
        refine o_mv rfl rfl ?_
        refine Ops_guard_t rfl rfl (lt_dec rfl) ?_
        refine Ops_p ((p_index_s j rfl rfl rfl rfl (by omega))) (lt_dec rfl) ?_
        refine Ops_guard_t rfl rfl (lt_dec rfl) ?_
        refine Ops_p (p_gtr rfl rfl) (lt_dec rfl) ?_
        refine Ops_p (p_pick_f rfl rfl) (lt_dec rfl) ?_
        refine Ops_nil ?_
        refine W_cond rfl (fun h5 => ?_) (fun h5 => ?_)
        ·try simp only [bs] at h5
         have hpb := (spS_spl s).digit (x := i) (y := j) (by omega) (by omega) (by omega)
         refine W_seq ?_
         refine W_region ?_
         refine Ops_p (p_build rfl rfl rfl rfl (by first | exact True.intro | omega | exact Fin.isLt _ | trivial | (dsimp only; omega))) (lt_dec rfl) ?_
         refine Ops_x rfl (x_store rfl rfl rfl rfl rfl (((HpRep.head).tail).tail) rfl (by first | trivial | (first | (first | omega | (dsimp only; omega)) | exact Fin.isLt _)) ?_)
         refine o_as rfl rfl ?_
         refine Ops_nil ?_
         refine W_ret ?_
         refine Exists.intro _ (And.intro (.cons (.cell rfl rfl m2 rfl trivial) (.cons (.tmp rfl) .nil)) (Exists.intro ((0 : Int), fun _ => (0 : Fin 256)) (And.intro ?_ (And.intro ?_ (And.intro .nil rfl)))))
         ·first | exact fun h => absurd (h.symm.trans hpb) (by decide) | exact fun h => absurd (h.symm.trans ((spS_spl s).digit (x := i) (y := j) (by omega) (by omega) (by omega))) (by decide)
         ·first | (rw [hpb]; rfl) | (rw [(spS_spl s).digit (x := i) (y := j) (by omega) (by omega) (by omega)]; rfl)
        ·try simp only [bs] at h5
         have hdg : 48 ≤ ((List.getD (spS s) i []).getD j 0).val ∧ ((List.getD (spS s) i []).getD j 0).val ≤ 57 := (by omega)
         refine W_skip ?_
         refine W_draw (by kernel_rfl) ?_
         show RA _ _ 13 _ _ _
         refine RA_quiet (g := 1) [0, 1, 2, 3, 4, 5, 6, 7, 8, 9, 10, 11] (by kernel_rfl) (by kernel_rfl) (by kernel_rfl) (by kernel_rfl) ?_
         refine WQ_cons rfl rfl rfl ((p_move rfl).q) (lt_dec rfl) ?_
         refine WQ_cons rfl rfl rfl ((p_move rfl).q) (lt_dec rfl) ?_
         refine WQ_cons rfl rfl rfl ((p_move rfl).q) (lt_dec rfl) ?_
         refine WQ_cons rfl rfl rfl ((p_move rfl).q) (lt_dec rfl) ?_
         refine WQ_cons rfl rfl rfl ((p_ixl1 _ rfl rfl rfl rfl rfl rfl (by first | omega | exact Fin.isLt _ | (dsimp only; omega))).q) (lt_dec rfl) ?_
         refine WQ_cons rfl rfl rfl ((q_load_str (S := (spS s)) (j := i) rfl rfl m1 rfl (by first | omega | (dsimp only; omega)) rfl rfl)) (lt_dec rfl) ?_
         refine WQ_cons rfl rfl rfl ((p_move rfl).q) (lt_dec rfl) ?_
         refine WQ_cons rfl rfl rfl (((p_index_s j rfl rfl rfl rfl (by omega))).q) (lt_dec rfl) ?_
         refine WQ_cons rfl rfl rfl (((p_sub_w rfl rfl).eq (d' := .u8 (sub48 ((List.getD (spS s) i []).getD j 0))) veq_sub48).q) (lt_dec rfl) ?_
         refine WQ_cons rfl rfl rfl ((p_fieldAddr rfl rfl rfl rfl rfl rfl).q) (lt_dec rfl) ?_
         refine WQ_cons rfl rfl rfl ((p_ixN 10 _ rfl rfl rfl rfl rfl rfl (by first | omega | exact Fin.isLt _ | (dsimp only; omega))).q) (lt_dec rfl) ?_
         first | refine WQ_cons rfl rfl rfl ((p_ix1 _ rfl rfl rfl rfl rfl rfl (by first | omega | exact Fin.isLt _ | (dsimp only; omega))).q) (lt_dec rfl) ?_ | refine WQ_cons rfl rfl rfl ((p_ix1s _ rfl rfl rfl rfl rfl rfl (by first | omega | exact Fin.isLt _ | (dsimp only; omega))).q) (lt_dec rfl) ?_
         refine WQ_nil ?_
         refine RA_one 12 rfl rfl (by kernel_rfl) (x_store rfl rfl rfl rfl rfl HpRep.head rfl (by first | trivial | (first | (first | omega | (dsimp only; omega)) | exact Fin.isLt _)) ?_)
         refine RA_done (by kernel_rfl) ?_
         refine W_region ?_
         refine o_mv rfl rfl ?_
         refine Ops_p (p_add rfl rfl (by refine ⟨?_, ?_⟩ <;> first | omega | (dsimp only; omega))) (lt_dec rfl) ?_
         refine o_as rfl rfl ?_
         refine Ops_nil ?_
         refine Exists.intro (j + 1) (And.intro ?_ (And.intro ?_ ?_))
         ·exact ⟨by omega, fun y h => if e : y = j then e ▸ hdg else hR2 y (by omega)⟩
         ·show _ < _; omega
         ·exact Wk.intro (.c rfl (.c rfl (.c rfl (.c rfl (.c rfl (.c rfl (.cons rfl (by first | rfl | exact veq_int (by first | omega | (dsimp only; omega))) .nil))))))) (.keep rfl rfl (imp_var (by exact ceq_cons rfl (ceq_cons (ceq_arr8 fun k _ => part_step (by omega) k) rfl)) rfl) (.keep rfl rfl (fun _ h => h) (.keep rfl rfl (fun _ h => h) .nil)))
       ·try simp only [bs] at hg1
        refine Ops_guard_f rfl rfl rfl (lt_dec rfl) ?_
        refine Ops_guard_f rfl rfl rfl (lt_dec rfl) ?_
        refine Ops_guard_f rfl rfl rfl (lt_dec rfl) ?_
        refine Ops_guard_f rfl rfl rfl (lt_dec rfl) ?_
        refine Ops_guard_f rfl rfl rfl (lt_dec rfl) ?_
        refine Ops_guard_f rfl rfl rfl (lt_dec rfl) ?_
        refine Ops_p (p_pick_t rfl rfl) (lt_dec rfl) ?_
        refine Ops_nil ?_
        refine W_true rfl ?_
        refine W_seq ?_
        refine W_region ?_
        refine Ops_p (p_build rfl rfl rfl rfl (by first | exact True.intro | omega | exact Fin.isLt _ | trivial | (dsimp only; omega))) (lt_dec rfl) ?_
        refine Ops_x rfl (x_store rfl rfl rfl rfl rfl (((HpRep.head).tail).tail) rfl (by first | trivial | (first | (first | omega | (dsimp only; omega)) | exact Fin.isLt _)) ?_)
        refine o_as rfl rfl ?_
        refine Ops_nil ?_
        refine W_ret ?_
        refine Exists.intro _ (And.intro (.cons (.cell rfl rfl m2 rfl trivial) (.cons (.tmp rfl) .nil)) (Exists.intro ((0 : Int), fun _ => (0 : Fin 256)) (And.intro ?_ (And.intro ?_ (And.intro .nil rfl)))))
        ·first | exact fun h => absurd (h.symm.trans hpb) (by decide) | exact fun h => absurd (h.symm.trans ((spS_spl s).digit (x := i) (y := j) (by omega) (by omega) (by omega))) (by decide)
        ·first | (rw [hpb]; rfl) | (rw [(spS_spl s).digit (x := i) (y := j) (by omega) (by omega) (by omega)]; rfl)
      ·try simp only [bs] at h4
       obtain rfl : j = (List.length (spS s)) := (by omega)
       refine W_exit ?_
       refine W_region ?_
       refine o_mv rfl rfl ?_
       refine Ops_p (p_add rfl rfl (by refine ⟨?_, ?_⟩ <;> first | omega | (dsimp only; omega))) (lt_dec rfl) ?_
       refine o_as rfl rfl ?_
       refine Ops_nil ?_
       refine Exists.intro (i + 1) (And.intro ?_ (And.intro ?_ ?_))
       ·exact ⟨by omega, fun x h => if e : x = i then e ▸ ⟨hli, hR2⟩ else hR x (by omega)⟩
       ·show _ < _; omega
       ·exact Wk.intro (.c rfl (.c rfl (.c rfl (.c rfl (.c rfl (.cons rfl (by first | rfl | exact veq_int (by first | omega | (dsimp only; omega))) .nil)))))) (.keep rfl rfl (imp_var (by exact ceq_cons rfl (ceq_cons (ceq_arr8 fun k _ => part_row k) rfl)) rfl) (.keep rfl rfl (fun _ h => h) (.keep rfl rfl (fun _ h => h) .nil)))
   ·try simp only [bs] at h2
    obtain rfl : i = (List.length (spS s)) := (by omega)
    have hsq := (spS_spl s).isSq (fun x h => (hR x h).1) (fun x y h h2 => (hR x h).2 y h2)
    refine W_exit ?_
    refine W_seq ?_
    refine W_draw (by kernel_rfl) ?_
    show RA _ _ 5 _ _ _
    refine RA_quiet (g := 2) [0, 1, 2] (by kernel_rfl) (by kernel_rfl) (by kernel_rfl) (by kernel_rfl) ?_
    refine WQ_cons rfl rfl rfl ((q_load rfl rfl m0 rfl (by first | exact True.intro | omega | exact Fin.isLt _ | trivial | (dsimp only; omega)))) (lt_dec rfl) ?_
    refine WQ_cons rfl rfl rfl ((q_load rfl rfl m0 rfl (by first | exact True.intro | omega | exact Fin.isLt _ | trivial | (dsimp only; omega)))) (lt_dec rfl) ?_
    refine WQ_cons rfl rfl rfl ((q_call en_spec_l01Is rfl (w_spec_l01Is) (View.none _))) (lt_dec rfl) ?_
    refine WQ_nil ?_
    refine RA_one 3 rfl rfl (by kernel_rfl) (x_store rfl rfl rfl rfl rfl (((HpRep.head).tail).tail) rfl (by first | trivial | (first | (first | omega | (dsimp only; omega)) | exact Fin.isLt _)) ?_)
    refine RA_quiet (g := 0) [4] (by kernel_rfl) (by kernel_rfl) (by kernel_rfl) (by kernel_rfl) ?_
    refine WQ_cons rfl rfl rfl ((p_assign rfl).q) (lt_dec rfl) ?_
    refine WQ_nil ?_
    refine RA_done (by kernel_rfl) ?_
    refine W_ret ?_
    refine Exists.intro _ (And.intro (.cons (.cell rfl rfl m2 rfl trivial) (.cons (.tmp rfl) .nil)) (Exists.intro (((List.length (spS s)) : Int), spT (spS s) (List.length (spS s)) 0) (And.intro ?_ (And.intro ?_ (And.intro .nil rfl)))))
    ·exact fun h => (spS_spl s).ok h
    ·rw [← hsq]; rfl
end Go.Proofs.Ytjihhcjpbcmjaaa
end
section
namespace Go.Proofs.Ytjihhcjpbcmjaaa
open Go Gx
set_option linter.unusedVariables false
theorem en_spec_l01Known : Enters Try.prog 72 := enters_of Try.func72 (by kernel_rfl) (by kernel_rfl)
set_option maxRecDepth 100000 in
set_option maxHeartbeats 4000000 in
theorem w_spec_l01Known {cv : Value} {hcv : cv.oneCell' = true} {code : List (Fin 256)} {sb a h : Nat} (hc : code.length ≤ 4096) (ha : a ≤ code.length) (hh : h < 18446744073709551616) : CT (X := (Nat × Nat) × (Int × (Nat → Fin 256))) Try.prog 72 (vals [.ptr sb 0 none]) [.var sb (.agg [.raw cv hcv, .int .i64 ((a : Nat) : Int), .int .u64 ((h : Nat) : Int)])] [rd cv (.u8s code)] (fun x => (Prod.fst (Prod.fst x) ≤ code.length ∧ Prod.snd (Prod.fst x) < 18446744073709551616) ∧ SqP (Prod.fst (Prod.snd x)) (Prod.snd (Prod.snd x))) (fun x => .agg [.int .i64 (Prod.fst (Prod.snd x)), .arr8 100 (Prod.snd (Prod.snd x))]) (fun x => [.var sb (.agg [.raw cv hcv, .int .i64 (((Prod.fst (Prod.fst x)) : Nat) : Int), .int .u64 (((Prod.snd (Prod.fst x)) : Nat) : Int)])]) := by
 refine CT_intro (rs := [.cell 2 76]) tt tok Try.func72 rfl rfl rfl (by first | rfl | assumption) fun w => ?_
 show W _ _ _ ⟨tmOf 0 [.ptr sb 0 none], [.var sb (.agg [.raw cv hcv, .int .i64 ((a : Nat) : Int), .int .u64 ((h : Nat) : Int)]), rd cv (.u8s code)]⟩
 refine W_seq ?_
 refine W_region ?_
 refine Ops_x rfl (x_alloc rfl (lt_dec rfl) fun b2_1 => ?_)
 refine Ops_nil ?_
 refine W_seq ?_
 refine W_region ?_
 refine Ops_x rfl (x_buildSlice rfl rfl rfl rfl rfl rfl rfl rfl (Nat.le_of_ble_eq_true rfl) (lt_dec rfl) fun b6_1 => ?_)
 refine o_as rfl rfl ?_
 refine Ops_nil ?_
 refine W_seq ?_
 refine W_seq ?_
 refine W_region ?_
 refine o_mv rfl rfl ?_
 refine Ops_x rfl (x_callT en_spec_l01Next rfl (w_spec_l01Next hc ha hh) (HpDels.cons ((HpDel.head).tail).tail HpDels.nil) (Vw.rd m2) (fun _ => (HpDels.cons ((HpDel.head).tail).tail HpDels.nil)) (lt_dec rfl) fun x8_1 hx8 => ?_)
 refine Ops_nil ?_
 refine W_block ?_
 refine W_seq ?_
 refine W_region ?_
 refine Ops_p (p_eql rfl rfl) (lt_dec rfl) ?_
 refine o_as rfl rfl ?_
 refine Ops_nil ?_
 refine W_cond rfl (fun h1 => ?_) (fun h1 => ?_)
 ·try simp only [bs] at h1
  refine W_seq ?_
  refine W_region ?_
  refine o_mv rfl rfl ?_
  refine o_mv rfl rfl ?_
  refine o_mv rfl rfl ?_
  refine Ops_p (p_len rfl rfl rfl) (lt_dec rfl) ?_
  refine Ops_x rfl (x_callT en_spec_l01Next rfl (w_spec_l01Next hc (And.left (And.left hx8)) (And.right (And.left hx8))) (HpDels.cons ((HpDel.head).tail).tail HpDels.nil) (Vw.rd m2) (fun _ => (HpDels.cons ((HpDel.head).tail).tail HpDels.nil)) (lt_dec rfl) fun x16_1 hx16 => ?_)
  refine Ops_p (p_ixl1 (Prod.snd x16_1) rfl rfl rfl rfl rfl rfl (by have := hx16.2.2 (by decide); first | omega | (show _ < 4; omega))) (lt_dec rfl) ?_
  refine Ops_q (q_load_str (S := [[48, 49, 50, 51, 52, 47, 49, 48, 51, 52, 50, 47, 50, 52, 48, 49, 51, 47, 51, 50, 52, 48, 49, 47, 52, 51, 49, 50, 48], [48, 49, 50, 51, 52, 53, 47, 49, 50, 48, 52, 53, 51, 47, 50, 48, 49, 53, 51, 52, 47, 51, 53, 52, 48, 50, 49, 47, 52, 51, 53, 49, 48, 50, 47, 53, 52, 51, 50, 49, 48], [48, 49, 50, 51, 52, 53, 54, 55, 47, 49, 50, 51, 48, 53, 54, 55, 52, 47, 50, 51, 48, 49, 54, 55, 52, 53, 47, 51, 48, 49, 50, 55, 52, 53, 54, 47, 52, 55, 54, 53, 48, 51, 50, 49, 47, 53, 52, 55, 54, 49, 48, 51, 50, 47, 54, 53, 52, 55, 50, 49, 48, 51, 47, 55, 54, 53, 52, 51, 50, 49, 48], [48, 49, 50, 51, 52, 53, 47, 49, 48, 51, 50, 53, 52, 47, 50, 52, 53, 48, 49, 51, 47, 51, 53, 52, 49, 48, 50, 47, 52, 50, 48, 53, 51, 49, 47, 53, 51, 49, 52, 50, 48]]) (j := (Prod.snd x16_1)) rfl rfl m0 rfl (by have := hx16.2.2 (by decide); show _ < 4; omega) rfl rfl) (lt_dec rfl) ?_
  refine Ops_x rfl (x_callT en_spec_l01Read rfl (w_spec_l01Read (getD_len rfl)) HpDels.nil (Vw.none _) (fun _ => HpDels.nil) (lt_dec rfl) fun x19_1 hx19 => ?_)
  refine o_mv rfl rfl ?_
  refine Ops_p (p_extract rfl rfl) (lt_dec rfl) ?_
  refine Ops_p (p_extract rfl rfl) (lt_dec rfl) ?_
  refine Ops_x rfl (x_alloc rfl (lt_dec rfl) fun b4_1 => ?_)
  refine Ops_x rfl (x_store rfl rfl rfl rfl rfl HpRep.head rfl (by first | trivial | (first | (first | omega | (dsimp only; omega)) | exact Fin.isLt _)) ?_)
  refine o_as rfl rfl ?_
  refine Ops_nil ?_
  refine W_seq ?_
  refine W_region ?_
  refine o_mv rfl rfl ?_
  refine Ops_nil ?_
  refine W_cond rfl (fun h2 => ?_) (fun h2 => ?_)
  ·try simp only [bs] at h2
   have htx := h2
   refine W_seq ?_
   refine W_region ?_
   refine Ops_q (q_load rfl rfl m0 rfl (by first | exact True.intro | omega | exact Fin.isLt _ | trivial | (dsimp only; omega))) (lt_dec rfl) ?_
   refine Ops_x rfl (x_callT en_spec_l01Ordered rfl (w_spec_l01Ordered (hx19 htx).1) HpDels.nil (Vw.none _) (fun _ => HpDels.nil) (lt_dec rfl) fun x24_1 hx24 => ?_)
   refine Ops_x rfl (x_store rfl rfl rfl rfl rfl (((HpRep.head).tail).tail) rfl (by first | trivial | (first | (first | omega | (dsimp only; omega)) | exact Fin.isLt _)) ?_)
   refine Ops_nil ?_
   refine W_ret ?_
   refine Exists.intro _ (And.intro (.cons (.cell rfl rfl m2 rfl trivial) .nil) (Exists.intro (((Prod.fst (Prod.fst x16_1)), (Prod.snd (Prod.fst x16_1))), (x19_1.1, x24_1)) (And.intro ?_ (And.intro ?_ (And.intro (.cons (((HpDel.head).tail).tail).tail rfl (fun _ h => h) .nil) rfl)))))
   ·exact ⟨And.left hx16, hx24⟩
   ·rfl
  ·try simp only [bs] at h2
   refine W_skip ?_
   refine W_seq ?_
   refine W_region ?_
   refine o_mv rfl rfl ?_
   refine o_mv rfl rfl ?_
   refine Ops_x rfl (x_callT en_spec_l01Next rfl (w_spec_l01Next hc (by first | exact (And.left (And.left hx16)) | exact (And.left (And.left hx8))) (by first | exact (And.right (And.left hx16)) | exact (And.right (And.left hx8)))) (HpDels.cons (((HpDel.head).tail).tail).tail HpDels.nil) (Vw.rd m3) (fun _ => (HpDels.cons (((HpDel.head).tail).tail).tail HpDels.nil)) (lt_dec rfl) fun x43_1 hx43 => ?_)
   refine o_mv rfl rfl ?_
   refine Ops_x rfl (x_callT en_spec_l01Next rfl (w_spec_l01Next hc (And.left (And.left hx43)) (And.right (And.left hx43))) (HpDels.cons (((HpDel.head).tail).tail).tail HpDels.nil) (Vw.rd m3) (fun _ => (HpDels.cons (((HpDel.head).tail).tail).tail HpDels.nil)) (lt_dec rfl) fun x45_1 hx45 => ?_)
   refine o_mv rfl rfl ?_
   refine Ops_x rfl (x_callT en_spec_l01Next rfl (w_spec_l01Next hc (And.left (And.left hx45)) (And.right (And.left hx45))) (HpDels.cons (((HpDel.head).tail).tail).tail HpDels.nil) (Vw.rd m3) (fun _ => (HpDels.cons (((HpDel.head).tail).tail).tail HpDels.nil)) (lt_dec rfl) fun x47_1 hx47 => ?_)
   refine Ops_x rfl (x_buildSlice rfl rfl rfl rfl rfl rfl rfl rfl (Nat.le_of_ble_eq_true rfl) (lt_dec rfl) fun b48_1 => ?_)
   refine Ops_x rfl (x_callT en_spec_l01Pick rfl (w_spec_l01Pick (hls := rfl) (L := [((Prod.snd x43_1 : Nat) : Int), ((Prod.snd x45_1 : Nat) : Int), ((Prod.snd x47_1 : Nat) : Int)]) hc (And.left (And.left hx47)) (And.right (And.left hx47)) (by show 0 < 3; omega) (by show 3 ≤ 100; omega)) (HpDels.cons ((((HpDel.head).tail).tail).tail).tail HpDels.nil) (Vw.cons (Vw.rd m4) (Vw.rdW m0 rfl)) (fun _ => (HpDels.cons ((((HpDel.head).tail).tail).tail).tail HpDels.nil)) (lt_dec rfl) fun x49_1 hx49 => ?_)
   refine Ops_p (p_add rfl rfl (by refine ⟨?_, ?_⟩ <;> (have hpk := (pk3 hx49.2 ⟨by omega, (by have := hx43.2.2 (by decide); omega)⟩ ⟨by omega, (by have := hx45.2.2 (by decide); omega)⟩ ⟨by omega, (by have := hx47.2.2 (by decide); omega)⟩); omega))) (lt_dec rfl) ?_
   refine Ops_q (q_call en_spec_l01Cyclic rfl (w_spec_l01Cyclic (pk3 hx49.2 ⟨by omega, (by have := hx43.2.2 (by decide); omega)⟩ ⟨by omega, (by have := hx45.2.2 (by decide); omega)⟩ ⟨by omega, (by have := hx47.2.2 (by decide); omega)⟩)) (View.none _)) (lt_dec rfl) ?_
   refine Ops_x rfl (x_store rfl rfl rfl rfl rfl ((((HpRep.head).tail).tail).tail) rfl (by first | trivial | (first | (first | omega | (dsimp only; omega)) | exact Fin.isLt _)) ?_)
   refine Ops_nil ?_
   refine W_ret ?_
   refine Exists.intro _ (And.intro (.cons (.cell rfl rfl m3 rfl trivial) .nil) (Exists.intro (((Prod.fst (Prod.fst x49_1)), (Prod.snd (Prod.fst x49_1))), ((1 + Prod.snd x49_1), (part (Int.toNat (1 + Prod.snd x49_1)) (cyc (1 + Prod.snd x49_1)) (Int.toNat (1 + Prod.snd x49_1)) 0))) (And.intro ?_ (And.intro ?_ (And.intro (.cons ((((HpDel.head).tail).tail).tail).tail rfl (fun _ h => h) .nil) rfl)))))
   ·exact ⟨And.left hx49, cyc_sqI (pk3 hx49.2 ⟨by omega, (by have := hx43.2.2 (by decide); omega)⟩ ⟨by omega, (by have := hx45.2.2 (by decide); omega)⟩ ⟨by omega, (by have := hx47.2.2 (by decide); omega)⟩)⟩
   ·rfl
 ·try simp only [bs] at h1
  refine W_seq ?_
  refine W_region ?_
  refine Ops_p (p_eql rfl rfl) (lt_dec rfl) ?_
  refine o_as rfl rfl ?_
  refine Ops_nil ?_
  refine W_cond rfl (fun h3 => ?_) (fun h3 => ?_)
  ·try simp only [bs] at h3
   refine W_seq ?_
   refine W_region ?_
   refine o_mv rfl rfl ?_
   refine Ops_x rfl (x_callT en_spec_l01Next rfl (w_spec_l01Next hc (And.left (And.left hx8)) (And.right (And.left hx8))) (HpDels.cons ((HpDel.head).tail).tail HpDels.nil) (Vw.rd m2) (fun _ => (HpDels.cons ((HpDel.head).tail).tail HpDels.nil)) (lt_dec rfl) fun x28_1 hx28 => ?_)
   refine Ops_q (q_call en_spec_l01Elementary rfl (w_spec_l01Elementary ⟨by omega, (by have := hx28.2.2 (by decide); omega)⟩) (View.none _)) (lt_dec rfl) ?_
   refine Ops_x rfl (x_store rfl rfl rfl rfl rfl ((HpRep.head).tail) rfl (by first | trivial | (first | (first | omega | (dsimp only; omega)) | exact Fin.isLt _)) ?_)
   refine Ops_nil ?_
   refine W_ret ?_
   refine Exists.intro _ (And.intro (.cons (.cell rfl rfl m1 rfl trivial) .nil) (Exists.intro (((Prod.fst (Prod.fst x28_1)), (Prod.snd (Prod.fst x28_1))), ((1 * 2 ^ (Int.toNat ((Prod.snd x28_1 : Nat) : Int)) : Int), (part (Int.toNat (1 * 2 ^ (Int.toNat ((Prod.snd x28_1 : Nat) : Int)) : Int)) elm (Int.toNat (1 * 2 ^ (Int.toNat ((Prod.snd x28_1 : Nat) : Int)) : Int)) 0))) (And.intro ?_ (And.intro ?_ (And.intro (.cons ((HpDel.head).tail).tail rfl (fun _ h => h) .nil) rfl)))))
   ·exact ⟨And.left hx28, (by have hr28 := hx28.2.2 (by decide); exact elm_sqI ⟨by omega, by omega⟩)⟩
   ·rfl
  ·try simp only [bs] at h3
   refine W_seq ?_
   refine W_region ?_
   refine Ops_p (p_eql rfl rfl) (lt_dec rfl) ?_
   refine o_as rfl rfl ?_
   refine Ops_nil ?_
   refine W_cond rfl (fun h4 => ?_) (fun h4 => ?_)
   ·try simp only [bs] at h4
    refine W_seq ?_
    refine W_region ?_
    refine o_mv rfl rfl ?_
    refine Ops_x rfl (x_callT en_spec_l01Next rfl (w_spec_l01Next hc (And.left (And.left hx8)) (And.right (And.left hx8))) (HpDels.cons ((HpDel.head).tail).tail HpDels.nil) (Vw.rd m2) (fun _ => (HpDels.cons ((HpDel.head).tail).tail HpDels.nil)) (lt_dec rfl) fun x33_1 hx33 => ?_)
    refine Ops_p (p_add rfl rfl (by refine ⟨?_, ?_⟩ <;> first | omega | (dsimp only; omega))) (lt_dec rfl) ?_
    refine Ops_q (q_call en_spec_l01Cyclic rfl (w_spec_l01Cyclic ⟨by omega, (by have := hx33.2.2 (by decide); omega)⟩) (View.none _)) (lt_dec rfl) ?_
    refine o_mv rfl rfl ?_
    refine Ops_x rfl (x_callT en_spec_l01Next rfl (w_spec_l01Next hc (And.left (And.left hx33)) (And.right (And.left hx33))) (HpDels.cons ((HpDel.head).tail).tail HpDels.nil) (Vw.rd m2) (fun _ => (HpDels.cons ((HpDel.head).tail).tail HpDels.nil)) (lt_dec rfl) fun x37_1 hx37 => ?_)
    refine Ops_p (p_add rfl rfl (by refine ⟨?_, ?_⟩ <;> first | omega | (dsimp only; omega))) (lt_dec rfl) ?_
    refine Ops_q (q_call en_spec_l01Cyclic rfl (w_spec_l01Cyclic ⟨by omega, (by have := hx37.2.2 (by decide); omega)⟩) (View.none _)) (lt_dec rfl) ?_
    refine Ops_q (q_call en_spec_l01Direct rfl ((by have hr33 := hx33.2.2 (by decide); have hr37 := hx37.2.2 (by decide); exact w_spec_l01Direct (n := (1 + ((Prod.snd x33_1 : Nat) : Int))) (m := (1 + ((Prod.snd x37_1 : Nat) : Int))) (cyc_sqI ⟨by omega, by omega⟩) (cyc_sqI ⟨by omega, by omega⟩) (mul33 (by omega) (by omega) (by omega) (by omega)))) (View.none _)) (lt_dec rfl) ?_
    refine Ops_x rfl (x_store rfl rfl rfl rfl rfl ((HpRep.head).tail) rfl (by first | trivial | (first | (first | omega | (dsimp only; omega)) | exact Fin.isLt _)) ?_)
    refine Ops_nil ?_
    refine W_ret ?_
    refine Exists.intro _ (And.intro (.cons (.cell rfl rfl m1 rfl trivial) .nil) (Exists.intro (((Prod.fst (Prod.fst x37_1)), (Prod.snd (Prod.fst x37_1))), (((1 + ((Prod.snd x33_1 : Nat) : Int)) * (1 + ((Prod.snd x37_1 : Nat) : Int))), (part (Int.toNat ((1 + ((Prod.snd x33_1 : Nat) : Int)) * (1 + ((Prod.snd x37_1 : Nat) : Int)))) (dir (1 + ((Prod.snd x37_1 : Nat) : Int)) (part (Int.toNat (1 + ((Prod.snd x33_1 : Nat) : Int))) (cyc (1 + ((Prod.snd x33_1 : Nat) : Int))) (Int.toNat (1 + ((Prod.snd x33_1 : Nat) : Int))) 0) (part (Int.toNat (1 + ((Prod.snd x37_1 : Nat) : Int))) (cyc (1 + ((Prod.snd x37_1 : Nat) : Int))) (Int.toNat (1 + ((Prod.snd x37_1 : Nat) : Int))) 0)) (Int.toNat ((1 + ((Prod.snd x33_1 : Nat) : Int)) * (1 + ((Prod.snd x37_1 : Nat) : Int)))) 0))) (And.intro ?_ (And.intro ?_ (And.intro (.cons ((HpDel.head).tail).tail rfl (fun _ h => h) .nil) rfl)))))
    ·exact ⟨And.left hx37, (by have hr33 := hx33.2.2 (by decide); have hr37 := hx37.2.2 (by decide); exact dir_sqI (cyc_sqI ⟨by omega, by omega⟩) (cyc_sqI ⟨by omega, by omega⟩) (mul33 (by omega) (by omega) (by omega) (by omega)))⟩
    ·rfl
   ·try simp only [bs] at h4
    refine W_skip ?_
    refine W_seq ?_
    refine W_region ?_
    refine o_mv rfl rfl ?_
    refine o_mv rfl rfl ?_
    refine Ops_x rfl (x_callT en_spec_l01Next rfl (w_spec_l01Next hc (by first | exact (And.left (And.left hx16)) | exact (And.left (And.left hx8))) (by first | exact (And.right (And.left hx16)) | exact (And.right (And.left hx8)))) (HpDels.cons ((HpDel.head).tail).tail HpDels.nil) (Vw.rd m2) (fun _ => (HpDels.cons ((HpDel.head).tail).tail HpDels.nil)) (lt_dec rfl) fun x43_1 hx43 => ?_)
    refine o_mv rfl rfl ?_
    refine Ops_x rfl (x_callT en_spec_l01Next rfl (w_spec_l01Next hc (And.left (And.left hx43)) (And.right (And.left hx43))) (HpDels.cons ((HpDel.head).tail).tail HpDels.nil) (Vw.rd m2) (fun _ => (HpDels.cons ((HpDel.head).tail).tail HpDels.nil)) (lt_dec rfl) fun x45_1 hx45 => ?_)
    refine o_mv rfl rfl ?_
    refine Ops_x rfl (x_callT en_spec_l01Next rfl (w_spec_l01Next hc (And.left (And.left hx45)) (And.right (And.left hx45))) (HpDels.cons ((HpDel.head).tail).tail HpDels.nil) (Vw.rd m2) (fun _ => (HpDels.cons ((HpDel.head).tail).tail HpDels.nil)) (lt_dec rfl) fun x47_1 hx47 => ?_)
    refine Ops_x rfl (x_buildSlice rfl rfl rfl rfl rfl rfl rfl rfl (Nat.le_of_ble_eq_true rfl) (lt_dec rfl) fun b48_2 => ?_)
    refine Ops_x rfl (x_callT en_spec_l01Pick rfl (w_spec_l01Pick (hls := rfl) (L := [((Prod.snd x43_1 : Nat) : Int), ((Prod.snd x45_1 : Nat) : Int), ((Prod.snd x47_1 : Nat) : Int)]) hc (And.left (And.left hx47)) (And.right (And.left hx47)) (by show 0 < 3; omega) (by show 3 ≤ 100; omega)) (HpDels.cons (((HpDel.head).tail).tail).tail HpDels.nil) (Vw.cons (Vw.rd m3) (Vw.rdW m0 rfl)) (fun _ => (HpDels.cons (((HpDel.head).tail).tail).tail HpDels.nil)) (lt_dec rfl) fun x49_1 hx49 => ?_)
    refine Ops_p (p_add rfl rfl (by refine ⟨?_, ?_⟩ <;> (have hpk := (pk3 hx49.2 ⟨by omega, (by have := hx43.2.2 (by decide); omega)⟩ ⟨by omega, (by have := hx45.2.2 (by decide); omega)⟩ ⟨by omega, (by have := hx47.2.2 (by decide); omega)⟩); omega))) (lt_dec rfl) ?_
    refine Ops_q (q_call en_spec_l01Cyclic rfl (w_spec_l01Cyclic (pk3 hx49.2 ⟨by omega, (by have := hx43.2.2 (by decide); omega)⟩ ⟨by omega, (by have := hx45.2.2 (by decide); omega)⟩ ⟨by omega, (by have := hx47.2.2 (by decide); omega)⟩)) (View.none _)) (lt_dec rfl) ?_
    refine Ops_x rfl (x_store rfl rfl rfl rfl rfl (((HpRep.head).tail).tail) rfl (by first | trivial | (first | (first | omega | (dsimp only; omega)) | exact Fin.isLt _)) ?_)
    refine Ops_nil ?_
    refine W_ret ?_
    refine Exists.intro _ (And.intro (.cons (.cell rfl rfl m2 rfl trivial) .nil) (Exists.intro (((Prod.fst (Prod.fst x49_1)), (Prod.snd (Prod.fst x49_1))), ((1 + Prod.snd x49_1), (part (Int.toNat (1 + Prod.snd x49_1)) (cyc (1 + Prod.snd x49_1)) (Int.toNat (1 + Prod.snd x49_1)) 0))) (And.intro ?_ (And.intro ?_ (And.intro (.cons (((HpDel.head).tail).tail).tail rfl (fun _ h => h) .nil) rfl)))))
    ·exact ⟨And.left hx49, cyc_sqI (pk3 hx49.2 ⟨by omega, (by have := hx43.2.2 (by decide); omega)⟩ ⟨by omega, (by have := hx45.2.2 (by decide); omega)⟩ ⟨by omega, (by have := hx47.2.2 (by decide); omega)⟩)⟩
    ·rfl
end Go.Proofs.Ytjihhcjpbcmjaaa
end
section
namespace Go.Proofs.Ytjihhcjpbcmjaaa
open Go Gx
set_option linter.unusedVariables false
theorem en_spec_l01Opposite : Enters Try.prog 73 := enters_of Try.func73 (by kernel_rfl) (by kernel_rfl)
set_option maxRecDepth 100000 in
theorem w_spec_l01Opposite {t : Nat → Fin 256} {n : Int}  : CR Try.prog 73 (vals [.agg [.int .i64 n, .arr8 100 t]]) [] (.agg [.int .i64 n, .arr8 100 (turned t)]) := by
 refine CR_intro (rs := [.cell 2 76]) tt tok Try.func73 rfl rfl rfl (by first | rfl | assumption) fun w => ?_
 refine W_seq ?_
 refine W_region ?_
 refine Ops_x rfl (x_box rfl rfl (lt_dec rfl) fun b1_1 => ?_)
 refine Ops_x rfl (x_alloc rfl (lt_dec rfl) fun b2_1 => ?_)
 refine Ops_nil ?_
 refine W_seq ?_
 refine W_draw (by kernel_rfl) ?_
 show RA _ _ 7 _ _ _
 refine RA_quiet (g := 1) [0, 1, 2, 3, 4, 5] (by kernel_rfl) (by kernel_rfl) (by kernel_rfl) (by kernel_rfl) ?_
 refine WQ_cons rfl rfl rfl ((p_fieldAddr rfl rfl rfl rfl rfl rfl).q) (lt_dec rfl) ?_
 refine WQ_cons rfl rfl rfl ((q_load rfl rfl m1 rfl (by first | exact True.intro | omega | exact Fin.isLt _ | trivial | (dsimp only; omega)))) (lt_dec rfl) ?_
 refine WQ_cons rfl rfl rfl ((p_fieldAddr rfl rfl rfl rfl rfl rfl).q) (lt_dec rfl) ?_
 refine WQ_cons rfl rfl rfl ((q_load rfl rfl m1 rfl (by first | exact True.intro | omega | exact Fin.isLt _ | trivial | (dsimp only; omega)))) (lt_dec rfl) ?_
 refine WQ_cons rfl rfl rfl ((q_call en_spec_l01Turned rfl (w_spec_l01Turned) (View.none _))) (lt_dec rfl) ?_
 refine WQ_cons rfl rfl rfl ((p_build rfl rfl rfl rfl (by first | exact True.intro | omega | exact Fin.isLt _ | trivial | (dsimp only; omega))).q) (lt_dec rfl) ?_
 refine WQ_nil ?_
 refine RA_one 6 rfl rfl (by kernel_rfl) (x_store rfl rfl rfl rfl rfl HpRep.head rfl (by first | trivial | (first | (first | omega | (dsimp only; omega)) | exact Fin.isLt _)) ?_)
 refine RA_done (by kernel_rfl) ?_
 refine W_ret ?_
 refine Exists.intro _ (And.intro (.cons (.cell rfl rfl m0 rfl trivial) .nil) ?_)
 first | rfl | (refine veq_bool ?_; simp_all; done) | (refine veq_bool ?_; simp; omega) | (refine veq_bool ?_; rw [eq_comm, decide_eq_false_iff_not]; omega) | (refine veq_bool ?_; rw [eq_comm, decide_eq_true_iff]; omega) | (refine veq_int ?_; omega) | (refine veq_arr8 fun j hj => ?_; (try dsimp only); first | (simp; done) | (simp; omega) | ((repeat' split) <;> first | rfl | (exfalso; omega) | (congr 1; omega) | (simp_all; done)))
end Go.Proofs.Ytjihhcjpbcmjaaa
end
section
namespace Go.Proofs.Ytjihhcjpbcmjaaa
open Go Gx
set_option linter.unusedVariables false
theorem en_spec_l01Switch : Enters Try.prog 74 := enters_of Try.func74 (by kernel_rfl) (by kernel_rfl)
set_option maxRecDepth 100000 in
set_option maxHeartbeats 4000000 in
theorem w_spec_l01Switch {t : Nat → Fin 256} {n : Int} {a b c : Fin 256} (hs : SqP n t) (ha : ((Fin.val a : Nat) : Int) < n) (hb : ((Fin.val b : Nat) : Int) < n) (hc : ((Fin.val c : Nat) : Int) < n) : CT (X := Nat → Fin 256) Try.prog 74 (vals [.agg [.int .i64 n, .arr8 100 t], .u8 a, .u8 b, .u8 c]) [] [] (fun x => SqP n x) (fun x => .agg [.int .i64 n, .arr8 100 x]) (fun x => []) := by
 refine CT_intro (rs := [.cell 8 76]) tt tok Try.func74 rfl rfl rfl (by first | rfl | assumption) fun w => ?_
 show W _ _ _ ⟨tmOf 0 [.agg [.int .i64 n, .arr8 100 t], .u8 a, .u8 b, .u8 c], []⟩
 have hn := hs.1
 refine W_seq ?_
 refine W_region ?_
 refine Ops_x rfl (x_box rfl rfl (lt_dec rfl) fun b4_1 => ?_)
 refine Ops_x rfl (x_alloc rfl (lt_dec rfl) fun b8_1 => ?_)
 refine Ops_nil ?_
 refine W_seq ?_
 refine W_seq ?_
 refine W_region ?_
 refine o_mv rfl rfl ?_
 refine o_mv rfl rfl ?_
 refine Ops_p ((p_eql rfl rfl).eq (d' := .bool (decide ((Fin.val a : Nat) = Fin.val b))) (veq_bool (by rw [Bool.eq_iff_iff]; simp only [decide_eq_true_eq]; omega))) (lt_dec rfl) ?_
 refine Ops_nil ?_
 refine W_cond rfl (fun h1 => ?_) (fun h1 => ?_)
 ·try simp only [bs] at h1
  refine W_seq ?_
  refine W_region ?_
  refine Ops_q (q_load rfl rfl m1 rfl (by first | exact True.intro | omega | exact Fin.isLt _ | trivial | (dsimp only; omega))) (lt_dec rfl) ?_
  refine Ops_x rfl (x_store rfl rfl rfl rfl rfl HpRep.head rfl (by first | trivial | (first | (first | omega | (dsimp only; omega)) | exact Fin.isLt _)) ?_)
  refine Ops_nil ?_
  refine W_ret ?_
  refine Exists.intro _ (And.intro (.cons (.cell rfl rfl m0 rfl trivial) .nil) (Exists.intro t (And.intro ?_ (And.intro ?_ (And.intro .nil rfl)))))
  ·exact hs
  ·rfl
 ·try simp only [bs] at h1
  have hab : (Fin.val a : Nat) ≠ Fin.val b := h1
  refine W_skip ?_
  refine W_seq ?_
  refine W_region ?_
  refine o_mv rfl rfl ?_
  refine o_as rfl rfl ?_
  refine Ops_nil ?_
  refine W_block ?_
  refine W_loop (α := (Nat → Bool) × Nat) (fun zz0 => ⟨[(0, .agg [.int .i64 n, .arr8 100 t]), (1, .u8 a), (2, .u8 b), (3, .u8 c), (4, .ptr b4_1 0 none), (8, .ptr b8_1 0 none), (9, .int .u8 ((zz0.2) : Int)), (14, .bool (decide ((Fin.val a : Nat) = Fin.val b)))], [.var b8_1 (.agg [.int .i64 0, .arr8 100 fun _ => 0]), .var b4_1 (.agg [.int .i64 n, .arr8 100 (swT t (Fin.val a) (Fin.val b) (zz0.1))])]⟩) (fun zz0 => (SwH t (Fin.val a) (Fin.val b) (Int.toNat n) (zz0.1) (zz0.2))) (fun zz0 => Int.toNat n - ctB (zz0.1) (Int.toNat n)) ((fun _ => false), Fin.val c) ?_ ?_ ?_
  ·exact swH_start hs ha hc
  ·exact Wk.intro (.c rfl (.c rfl (.c rfl (.c rfl (.c rfl (.c rfl (.cons rfl rfl (.c rfl .nil)))))))) (.keep rfl rfl (fun _ h => h) (.keep rfl rfl (imp_var (ceq_cons rfl (ceq_cons (ceq_arr8 fun k _ => (swT_none k).symm) rfl)) rfl) .nil))
  ·rintro ⟨V, y⟩ hS
   try dsimp only at *
   have hyl := hS.lt
   refine W_block ?_
   refine W_seq ?_
   refine W_region ?_
   refine o_mv rfl rfl ?_
   refine o_mv rfl rfl ?_
   refine Ops_p (p_fieldAddr rfl rfl rfl rfl rfl rfl) (lt_dec rfl) ?_
   refine Ops_p (p_ixN 10 (Fin.val a) rfl rfl rfl rfl rfl rfl (by first | omega | exact Fin.isLt _ | (dsimp only; omega))) (lt_dec rfl) ?_
   first | refine Ops_p (p_ix1 y rfl rfl rfl rfl rfl rfl (by first | omega | exact Fin.isLt _ | (dsimp only; omega))) (lt_dec rfl) ?_ | refine Ops_p (p_ix1s y rfl rfl rfl rfl rfl rfl (by first | omega | exact Fin.isLt _ | (dsimp only; omega))) (lt_dec rfl) ?_
   refine Ops_q (q_load rfl rfl m1 rfl (by first | exact True.intro | omega | exact Fin.isLt _ | trivial | (dsimp only; omega))) (lt_dec rfl) ?_
   refine o_as rfl rfl ?_
   refine Ops_nil ?_
   refine W_seq ?_
   refine W_draw (by kernel_rfl) ?_
   show RA _ _ 12 _ _ _
   refine RA_quiet (g := 1) [0, 1, 2, 3, 4, 5, 6, 7, 8, 9, 10] (by kernel_rfl) (by kernel_rfl) (by kernel_rfl) (by kernel_rfl) ?_
   refine WQ_cons rfl rfl rfl ((p_move rfl).q) (lt_dec rfl) ?_
   refine WQ_cons rfl rfl rfl ((p_move rfl).q) (lt_dec rfl) ?_
   refine WQ_cons rfl rfl rfl ((p_move rfl).q) (lt_dec rfl) ?_
   refine WQ_cons rfl rfl rfl ((p_move rfl).q) (lt_dec rfl) ?_
   refine WQ_cons rfl rfl rfl ((p_fieldAddr rfl rfl rfl rfl rfl rfl).q) (lt_dec rfl) ?_
   refine WQ_cons rfl rfl rfl ((p_ixN 10 (Fin.val b) rfl rfl rfl rfl rfl rfl (by first | omega | exact Fin.isLt _ | (dsimp only; omega))).q) (lt_dec rfl) ?_
   first | refine WQ_cons rfl rfl rfl ((p_ix1 y rfl rfl rfl rfl rfl rfl (by first | omega | exact Fin.isLt _ | (dsimp only; omega))).q) (lt_dec rfl) ?_ | refine WQ_cons rfl rfl rfl ((p_ix1s y rfl rfl rfl rfl rfl rfl (by first | omega | exact Fin.isLt _ | (dsimp only; omega))).q) (lt_dec rfl) ?_
   refine WQ_cons rfl rfl rfl ((q_load rfl rfl m1 rfl (by first | exact True.intro | omega | exact Fin.isLt _ | trivial | (dsimp only; omega)))) (lt_dec rfl) ?_
   refine WQ_cons rfl rfl rfl ((p_fieldAddr rfl rfl rfl rfl rfl rfl).q) (lt_dec rfl) ?_
   refine WQ_cons rfl rfl rfl ((p_ixN 10 (Fin.val a) rfl rfl rfl rfl rfl rfl (by first | omega | exact Fin.isLt _ | (dsimp only; omega))).q) (lt_dec rfl) ?_
   first | refine WQ_cons rfl rfl rfl ((p_ix1 y rfl rfl rfl rfl rfl rfl (by first | omega | exact Fin.isLt _ | (dsimp only; omega))).q) (lt_dec rfl) ?_ | refine WQ_cons rfl rfl rfl ((p_ix1s y rfl rfl rfl rfl rfl rfl (by first | omega | exact Fin.isLt _ | (dsimp only; omega))).q) (lt_dec rfl) ?_
   refine WQ_nil ?_
   refine RA_one 11 rfl rfl (by kernel_rfl) (x_store rfl rfl rfl rfl rfl ((HpRep.head).tail) rfl (by first | trivial | (first | (first | omega | (dsimp only; omega)) | exact Fin.isLt _)) ?_)
   refine RA_done (by kernel_rfl) ?_
   refine W_seq ?_
   refine W_region ?_
   refine o_mv rfl rfl ?_
   refine o_mv rfl rfl ?_
   refine o_mv rfl rfl ?_
   refine Ops_p (p_fieldAddr rfl rfl rfl rfl rfl rfl) (lt_dec rfl) ?_
   refine Ops_p (p_ixN 10 (Fin.val b) rfl rfl rfl rfl rfl rfl (by first | omega | exact Fin.isLt _ | (dsimp only; omega))) (lt_dec rfl) ?_
   first | refine Ops_p (p_ix1 y rfl rfl rfl rfl rfl rfl (by first | omega | exact Fin.isLt _ | (dsimp only; omega))) (lt_dec rfl) ?_ | refine Ops_p (p_ix1s y rfl rfl rfl rfl rfl rfl (by first | omega | exact Fin.isLt _ | (dsimp only; omega))) (lt_dec rfl) ?_
   refine Ops_x rfl (x_store rfl rfl rfl rfl rfl ((HpRep.head).tail) rfl (by first | trivial | (first | (first | omega | (dsimp only; omega)) | exact Fin.isLt _)) ?_)
   refine Ops_nil ?_
   refine W_seq ?_
   refine W_region ?_
   refine o_as rfl rfl ?_
   refine Ops_nil ?_
   refine W_seq ?_
   refine W_block ?_
   refine W_loop (α := Nat) (fun z => ⟨[(0, .agg [.int .i64 n, .arr8 100 t]), (1, .u8 a), (2, .u8 b), (3, .u8 c), (4, .ptr b4_1 0 none), (8, .ptr b8_1 0 none), (9, .int .u8 (y : Int)), (11, .int .u8 (z : Int)), (14, .bool (decide ((Fin.val a : Nat) = Fin.val b)))], [.var b8_1 (.agg [.int .i64 0, .arr8 100 fun _ => 0]), .var b4_1 (.agg [.int .i64 n, .arr8 100 (swT t (Fin.val a) (Fin.val b) (addV V y))])]⟩) (fun z => (z : Int) < n ∧ ∀ w, w < z → w = y ∨ (swT t (Fin.val a) (Fin.val b) (addV V y)) (10 * (Fin.val a) + w) ≠ (swT t (Fin.val a) (Fin.val b) (addV V y)) (10 * (Fin.val a) + y)) (fun z => Int.toNat n - z) 0 ?_ ?_ ?_
   ·exact ⟨by show ((0 : Nat) : Int) < n; omega, fun w hw => absurd hw (Nat.not_lt_zero _)⟩
   ·exact Wk.intro (.c rfl (.c rfl (.c rfl (.c rfl (.c rfl (.c rfl (.c rfl (.cons rfl (by first | rfl | exact veq_int (by first | omega | (dsimp only; omega))) (.c rfl .nil))))))))) (.keep rfl rfl (fun _ h => h) (.keep rfl rfl (imp_var (ceq_cons rfl (ceq_cons (ceq_arr8 fun k _ => swT_step hab (by omega) hS.new k) rfl)) rfl) .nil))
   ·rintro z ⟨hz, hR⟩
    refine W_seq ?_
    refine W_seq ?_
    refine W_draw (by kernel_rfl) ?_
    refine RA_take 0 rfl rfl rfl (by kernel_rfl) (by kernel_rfl) (by kernel_rfl) (p_move rfl) (lt_dec rfl) ?_
    refine RA_take 1 rfl rfl rfl (by kernel_rfl) (by kernel_rfl) (by kernel_rfl) (p_move rfl) (lt_dec rfl) ?_
    first | refine RA_take 2 rfl rfl rfl (by kernel_rfl) (by kernel_rfl) (by kernel_rfl) (p_eql_8 rfl rfl) (lt_dec rfl) ?_ | refine RA_take 2 rfl rfl rfl (by kernel_rfl) (by kernel_rfl) (by kernel_rfl) (p_eql rfl rfl) (lt_dec rfl) ?_
    refine RA_take 3 rfl rfl rfl (by kernel_rfl) (by kernel_rfl) (by kernel_rfl) (p_move rfl) (lt_dec rfl) ?_
    generalize hgs1 : (decide (((z : Nat) : Int) = ((y : Nat) : Int))) = bb
    cases bb
    ·try simp only [bs] at hgs1
     refine RA_takeG 4 rfl rfl rfl rfl rfl (by kernel_rfl) (by kernel_rfl) (by kernel_rfl) (p_move rfl) (lt_dec rfl) ?_
     refine RA_takeG 5 rfl rfl rfl rfl rfl (by kernel_rfl) (by kernel_rfl) (by kernel_rfl) (p_move rfl) (lt_dec rfl) ?_
     refine RA_takeG 6 rfl rfl rfl rfl rfl (by kernel_rfl) (by kernel_rfl) (by kernel_rfl) (p_fieldAddr rfl rfl rfl rfl rfl rfl) (lt_dec rfl) ?_
     refine RA_takeG 7 rfl rfl rfl rfl rfl (by kernel_rfl) (by kernel_rfl) (by kernel_rfl) (p_ixN 10 (Fin.val a) rfl rfl rfl rfl rfl rfl (by first | omega | exact Fin.isLt _ | (dsimp only; omega))) (lt_dec rfl) ?_
     first | refine RA_takeG 8 rfl rfl rfl rfl rfl (by kernel_rfl) (by kernel_rfl) (by kernel_rfl) (p_ix1 z rfl rfl rfl rfl rfl rfl (by first | omega | exact Fin.isLt _ | (dsimp only; omega))) (lt_dec rfl) ?_ | refine RA_takeG 8 rfl rfl rfl rfl rfl (by kernel_rfl) (by kernel_rfl) (by kernel_rfl) (p_ix1s z rfl rfl rfl rfl rfl rfl (by first | omega | exact Fin.isLt _ | (dsimp only; omega))) (lt_dec rfl) ?_
     refine RA_takeG 10 rfl rfl rfl rfl rfl (by kernel_rfl) (by kernel_rfl) (by kernel_rfl) (p_move rfl) (lt_dec rfl) ?_
     refine RA_takeG 11 rfl rfl rfl rfl rfl (by kernel_rfl) (by kernel_rfl) (by kernel_rfl) (p_move rfl) (lt_dec rfl) ?_
     refine RA_takeG 12 rfl rfl rfl rfl rfl (by kernel_rfl) (by kernel_rfl) (by kernel_rfl) (p_fieldAddr rfl rfl rfl rfl rfl rfl) (lt_dec rfl) ?_
     refine RA_takeG 13 rfl rfl rfl rfl rfl (by kernel_rfl) (by kernel_rfl) (by kernel_rfl) (p_ixN 10 (Fin.val a) rfl rfl rfl rfl rfl rfl (by first | omega | exact Fin.isLt _ | (dsimp only; omega))) (lt_dec rfl) ?_
     first | refine RA_takeG 14 rfl rfl rfl rfl rfl (by kernel_rfl) (by kernel_rfl) (by kernel_rfl) (p_ix1 y rfl rfl rfl rfl rfl rfl (by first | omega | exact Fin.isLt _ | (dsimp only; omega))) (lt_dec rfl) ?_ | refine RA_takeG 14 rfl rfl rfl rfl rfl (by kernel_rfl) (by kernel_rfl) (by kernel_rfl) (p_ix1s y rfl rfl rfl rfl rfl rfl (by first | omega | exact Fin.isLt _ | (dsimp only; omega))) (lt_dec rfl) ?_
     refine RA_twoD 9 15 rfl rfl (by kernel_rfl) ?_ ?_
     ·refine .want rfl rfl rfl ?_
      refine Xt_of_Qt rfl (lt_dec rfl) ((q_load rfl rfl m1 rfl (by first | exact True.intro | omega | exact Fin.isLt _ | trivial | (dsimp only; omega)))) ?_
      refine RA_oneG 15 rfl rfl rfl rfl (by kernel_rfl) (Xt_of_Qt rfl (lt_dec rfl) ((q_load rfl rfl m1 rfl (by first | exact True.intro | omega | exact Fin.isLt _ | trivial | (dsimp only; omega)))) ?_)
      first | refine RA_takeG 16 rfl rfl rfl rfl rfl (by kernel_rfl) (by kernel_rfl) (by kernel_rfl) (p_neq_8 rfl rfl) (lt_dec rfl) ?_ | refine RA_takeG 16 rfl rfl rfl rfl rfl (by kernel_rfl) (by kernel_rfl) (by kernel_rfl) (p_neq rfl rfl) (lt_dec rfl) ?_
      refine RA_take 17 rfl rfl rfl (by kernel_rfl) (by kernel_rfl) (by kernel_rfl) (p_pick_f rfl rfl) (lt_dec rfl) ?_
      refine RA_done (by kernel_rfl) ?_
      refine W_cond rfl (fun h2 => ?_) (fun h2 => ?_)
      ·try simp only [bs] at h2
       have hne : ¬ (swT t (Fin.val a) (Fin.val b) (addV V y)) (10 * (Fin.val a) + z) = (swT t (Fin.val a) (Fin.val b) (addV V y)) (10 * (Fin.val a) + y) := (by first | exact h2 | simpa using h2)
       refine W_skip ?_
       refine W_block ?_
       refine W_seq ?_
       refine W_region ?_
       refine o_mv rfl rfl ?_
       refine Ops_p (p_add rfl rfl (by refine ⟨?_, ?_⟩ <;> first | omega | (dsimp only; omega))) (lt_dec rfl) ?_
       refine o_as rfl rfl ?_
       refine Ops_nil ?_
       refine W_seq ?_
       refine W_region ?_
       refine o_mv rfl rfl ?_
       first | refine Ops_p (p_conv8 rfl rfl rfl (by decide)) (lt_dec rfl) ?_ | refine Ops_p (p_conv rfl rfl rfl (by exact ⟨(by first | omega | (dsimp only; omega)), (by first | omega | (dsimp only; omega))⟩)) (lt_dec rfl) ?_
       refine Ops_p (p_fieldAddr rfl rfl rfl rfl rfl rfl) (lt_dec rfl) ?_
       refine Ops_q (q_load rfl rfl m1 rfl (by first | exact True.intro | omega | exact Fin.isLt _ | trivial | (dsimp only; omega))) (lt_dec rfl) ?_
       refine Ops_p (p_eql rfl rfl) (lt_dec rfl) ?_
       refine Ops_nil ?_
       refine W_cond rfl (fun h3 => ?_) (fun h3 => ?_)
       ·try simp only [bs] at h3
        have hzn : ((z : Nat) : Int) + 1 = n := h3
        refine W_seq ?_
        refine W_region ?_
        refine Ops_q (q_load rfl rfl m1 rfl (by first | exact True.intro | omega | exact Fin.isLt _ | trivial | (dsimp only; omega))) (lt_dec rfl) ?_
        refine Ops_x rfl (x_store rfl rfl rfl rfl rfl HpRep.head rfl (by first | trivial | (first | (first | omega | (dsimp only; omega)) | exact Fin.isLt _)) ?_)
        refine Ops_nil ?_
        refine W_ret ?_
        refine Exists.intro _ (And.intro (.cons (.cell rfl rfl m0 rfl trivial) .nil) (Exists.intro (swT t (Fin.val a) (Fin.val b) (addV V y)) (And.intro ?_ (And.intro ?_ (And.intro .nil rfl)))))
        ·exact swH_sq hs ha hb hab hS fun w hw => if e : w = z then e ▸ (by first | exact .inr hne | exact .inl (by omega)) else hR w (by omega)
        ·rfl
       ·try simp only [bs] at h3
        have hzn : ¬ ((z : Nat) : Int) + 1 = n := h3
        refine W_skip ?_
        refine Exists.intro (z + 1) (And.intro ?_ (And.intro ?_ ?_))
        ·exact ⟨by show ((_ + 1 : Nat) : Int) < n; omega, fun w hw => if e : w = z then e ▸ (by first | exact .inr hne | exact .inl (by omega)) else hR w (by omega)⟩
        ·show _ < _; omega
        ·exact Wk.intro (.c rfl (.c rfl (.c rfl (.c rfl (.c rfl (.c rfl (.c rfl (.cons rfl (by first | rfl | exact veq_int (by first | omega | (dsimp only; omega))) (.c rfl .nil))))))))) (.keep rfl rfl (fun _ h => h) (.keep rfl rfl (fun _ h => h) .nil))
      ·try simp only [bs] at h2
       have hee : (swT t (Fin.val a) (Fin.val b) (addV V y)) (10 * (Fin.val a) + z) = (swT t (Fin.val a) (Fin.val b) (addV V y)) (10 * (Fin.val a) + y) := (by first | exact Classical.byContradiction h2 | simpa using h2)
       refine W_exit ?_
       refine W_region ?_
       refine o_mv rfl rfl ?_
       refine o_as rfl rfl ?_
       refine Ops_nil ?_
       refine Exists.intro (addV V y, z) (And.intro ?_ (And.intro ?_ ?_))
       ·exact swH_next hs ha hb hS hz (by omega) hee
       ·show Int.toNat n - ctB (addV V y) (Int.toNat n) < _; have := swV_ct hS.lt hS.new; have := ctB_bd (addV V y) (Int.toNat n); omega
       ·exact Wk.intro (.c rfl (.c rfl (.c rfl (.c rfl (.c rfl (.c rfl (.cons rfl (by first | rfl | exact veq_int (by first | omega | (dsimp only; omega))) (.c rfl .nil)))))))) (.keep rfl rfl (fun _ h => h) (.keep rfl rfl (fun _ h => h) .nil))
     ·refine .want rfl rfl rfl ?_
      refine Xt_of_Qt rfl (lt_dec rfl) ((q_load rfl rfl m1 rfl (by first | exact True.intro | omega | exact Fin.isLt _ | trivial | (dsimp only; omega)))) ?_
      refine RA_oneG 9 rfl rfl rfl rfl (by kernel_rfl) (Xt_of_Qt rfl (lt_dec rfl) ((q_load rfl rfl m1 rfl (by first | exact True.intro | omega | exact Fin.isLt _ | trivial | (dsimp only; omega)))) ?_)
      first | refine RA_takeG 16 rfl rfl rfl rfl rfl (by kernel_rfl) (by kernel_rfl) (by kernel_rfl) (p_neq_8 rfl rfl) (lt_dec rfl) ?_ | refine RA_takeG 16 rfl rfl rfl rfl rfl (by kernel_rfl) (by kernel_rfl) (by kernel_rfl) (p_neq rfl rfl) (lt_dec rfl) ?_
      refine RA_take 17 rfl rfl rfl (by kernel_rfl) (by kernel_rfl) (by kernel_rfl) (p_pick_f rfl rfl) (lt_dec rfl) ?_
      refine RA_done (by kernel_rfl) ?_
      refine W_cond rfl (fun h4 => ?_) (fun h4 => ?_)
      ·try simp only [bs] at h4
       have hne : ¬ (swT t (Fin.val a) (Fin.val b) (addV V y)) (10 * (Fin.val a) + z) = (swT t (Fin.val a) (Fin.val b) (addV V y)) (10 * (Fin.val a) + y) := (by first | exact h4 | simpa using h4)
       refine W_skip ?_
       refine W_block ?_
       refine W_seq ?_
       refine W_region ?_
       refine o_mv rfl rfl ?_
       refine Ops_p (p_add rfl rfl (by refine ⟨?_, ?_⟩ <;> first | omega | (dsimp only; omega))) (lt_dec rfl) ?_
       refine o_as rfl rfl ?_
       refine Ops_nil ?_
       refine W_seq ?_
       refine W_region ?_
       refine o_mv rfl rfl ?_
       first | refine Ops_p (p_conv8 rfl rfl rfl (by decide)) (lt_dec rfl) ?_ | refine Ops_p (p_conv rfl rfl rfl (by exact ⟨(by first | omega | (dsimp only; omega)), (by first | omega | (dsimp only; omega))⟩)) (lt_dec rfl) ?_
       refine Ops_p (p_fieldAddr rfl rfl rfl rfl rfl rfl) (lt_dec rfl) ?_
       refine Ops_q (q_load rfl rfl m1 rfl (by first | exact True.intro | omega | exact Fin.isLt _ | trivial | (dsimp only; omega))) (lt_dec rfl) ?_
       refine Ops_p (p_eql rfl rfl) (lt_dec rfl) ?_
       refine Ops_nil ?_
       refine W_cond rfl (fun h5 => ?_) (fun h5 => ?_)
       ·try simp only [bs] at h5
        have hzn : ((z : Nat) : Int) + 1 = n := h5
        refine W_seq ?_
        refine W_region ?_
        refine Ops_q (q_load rfl rfl m1 rfl (by first | exact True.intro | omega | exact Fin.isLt _ | trivial | (dsimp only; omega))) (lt_dec rfl) ?_
        refine Ops_x rfl (x_store rfl rfl rfl rfl rfl HpRep.head rfl (by first | trivial | (first | (first | omega | (dsimp only; omega)) | exact Fin.isLt _)) ?_)
        refine Ops_nil ?_
        refine W_ret ?_
        refine Exists.intro _ (And.intro (.cons (.cell rfl rfl m0 rfl trivial) .nil) (Exists.intro (swT t (Fin.val a) (Fin.val b) (addV V y)) (And.intro ?_ (And.intro ?_ (And.intro .nil rfl)))))
        ·exact swH_sq hs ha hb hab hS fun w hw => if e : w = z then e ▸ (by first | exact .inr hne | exact .inl (by omega)) else hR w (by omega)
        ·rfl
       ·try simp only [bs] at h5
        have hzn : ¬ ((z : Nat) : Int) + 1 = n := h5
        refine W_skip ?_
        refine Exists.intro (z + 1) (And.intro ?_ (And.intro ?_ ?_))
        ·exact ⟨by show ((_ + 1 : Nat) : Int) < n; omega, fun w hw => if e : w = z then e ▸ (by first | exact .inr hne | exact .inl (by omega)) else hR w (by omega)⟩
        ·show _ < _; omega
        ·exact Wk.intro (.c rfl (.c rfl (.c rfl (.c rfl (.c rfl (.c rfl (.c rfl (.cons rfl (by first | rfl | exact veq_int (by first | omega | (dsimp only; omega))) (.c rfl .nil))))))))) (.keep rfl rfl (fun _ h => h) (.keep rfl rfl (fun _ h => h) .nil))
      ·try simp only [bs] at h4
       have hee : (swT t (Fin.val a) (Fin.val b) (addV V y)) (10 * (Fin.val a) + z) = (swT t (Fin.val a) (Fin.val b) (addV V y)) (10 * (Fin.val a) + y) := (by first | exact Classical.byContradiction h4 | simpa using h4)
       refine W_exit ?_
       refine W_region ?_
       refine o_mv rfl rfl ?_
       refine o_as rfl rfl ?_
       refine Ops_nil ?_
       refine Exists.intro (addV V y, z) (And.intro ?_ (And.intro ?_ ?_))
       ·exact swH_next hs ha hb hS hz (by omega) hee
       ·show Int.toNat n - ctB (addV V y) (Int.toNat n) < _; have := swV_ct hS.lt hS.new; have := ctB_bd (addV V y) (Int.toNat n); omega
       ·exact Wk.intro (.c rfl (.c rfl (.c rfl (.c rfl (.c rfl (.c rfl (.cons rfl (by first | rfl | exact veq_int (by first | omega | (dsimp only; omega))) (.c rfl .nil)))))))) (.keep rfl rfl (fun _ h => h) (.keep rfl rfl (fun _ h => h) .nil))
    ·try simp only [bs] at hgs1
     refine RA_takeU 4 rfl rfl rfl rfl rfl rfl (by kernel_rfl) (by kernel_rfl) (by kernel_rfl) (lt_dec rfl) ?_
     refine RA_takeU 5 rfl rfl rfl rfl rfl rfl (by kernel_rfl) (by kernel_rfl) (by kernel_rfl) (lt_dec rfl) ?_
     refine RA_takeU 6 rfl rfl rfl rfl rfl rfl (by kernel_rfl) (by kernel_rfl) (by kernel_rfl) (lt_dec rfl) ?_
     refine RA_takeU 7 rfl rfl rfl rfl rfl rfl (by kernel_rfl) (by kernel_rfl) (by kernel_rfl) (lt_dec rfl) ?_
     refine RA_takeU 8 rfl rfl rfl rfl rfl rfl (by kernel_rfl) (by kernel_rfl) (by kernel_rfl) (lt_dec rfl) ?_
     refine RA_takeU 9 rfl rfl rfl rfl rfl rfl (by kernel_rfl) (by kernel_rfl) (by kernel_rfl) (lt_dec rfl) ?_
     refine RA_takeU 10 rfl rfl rfl rfl rfl rfl (by kernel_rfl) (by kernel_rfl) (by kernel_rfl) (lt_dec rfl) ?_
     refine RA_takeU 11 rfl rfl rfl rfl rfl rfl (by kernel_rfl) (by kernel_rfl) (by kernel_rfl) (lt_dec rfl) ?_
     refine RA_takeU 12 rfl rfl rfl rfl rfl rfl (by kernel_rfl) (by kernel_rfl) (by kernel_rfl) (lt_dec rfl) ?_
     refine RA_takeU 13 rfl rfl rfl rfl rfl rfl (by kernel_rfl) (by kernel_rfl) (by kernel_rfl) (lt_dec rfl) ?_
     refine RA_takeU 14 rfl rfl rfl rfl rfl rfl (by kernel_rfl) (by kernel_rfl) (by kernel_rfl) (lt_dec rfl) ?_
     refine RA_takeU 15 rfl rfl rfl rfl rfl rfl (by kernel_rfl) (by kernel_rfl) (by kernel_rfl) (lt_dec rfl) ?_
     refine RA_takeU 16 rfl rfl rfl rfl rfl rfl (by kernel_rfl) (by kernel_rfl) (by kernel_rfl) (lt_dec rfl) ?_
     refine RA_take 17 rfl rfl rfl (by kernel_rfl) (by kernel_rfl) (by kernel_rfl) (p_pick_t rfl rfl) (lt_dec rfl) ?_
     refine RA_done (by kernel_rfl) ?_
     refine W_true rfl ?_
     refine W_skip ?_
     refine W_block ?_
     refine W_seq ?_
     refine W_region ?_
     refine o_mv rfl rfl ?_
     refine Ops_p (p_add rfl rfl (by refine ⟨?_, ?_⟩ <;> first | omega | (dsimp only; omega))) (lt_dec rfl) ?_
     refine o_as rfl rfl ?_
     refine Ops_nil ?_
     refine W_seq ?_
     refine W_region ?_
     refine o_mv rfl rfl ?_
     first | refine Ops_p (p_conv8 rfl rfl rfl (by decide)) (lt_dec rfl) ?_ | refine Ops_p (p_conv rfl rfl rfl (by exact ⟨(by first | omega | (dsimp only; omega)), (by first | omega | (dsimp only; omega))⟩)) (lt_dec rfl) ?_
     refine Ops_p (p_fieldAddr rfl rfl rfl rfl rfl rfl) (lt_dec rfl) ?_
     refine Ops_q (q_load rfl rfl m1 rfl (by first | exact True.intro | omega | exact Fin.isLt _ | trivial | (dsimp only; omega))) (lt_dec rfl) ?_
     refine Ops_p (p_eql rfl rfl) (lt_dec rfl) ?_
     refine Ops_nil ?_
     refine W_cond rfl (fun h6 => ?_) (fun h6 => ?_)
     ·try simp only [bs] at h6
      have hzn : ((z : Nat) : Int) + 1 = n := h6
      refine W_seq ?_
      refine W_region ?_
      refine Ops_q (q_load rfl rfl m1 rfl (by first | exact True.intro | omega | exact Fin.isLt _ | trivial | (dsimp only; omega))) (lt_dec rfl) ?_
      refine Ops_x rfl (x_store rfl rfl rfl rfl rfl HpRep.head rfl (by first | trivial | (first | (first | omega | (dsimp only; omega)) | exact Fin.isLt _)) ?_)
      refine Ops_nil ?_
      refine W_ret ?_
      refine Exists.intro _ (And.intro (.cons (.cell rfl rfl m0 rfl trivial) .nil) (Exists.intro (swT t (Fin.val a) (Fin.val b) (addV V y)) (And.intro ?_ (And.intro ?_ (And.intro .nil rfl)))))
      ·exact swH_sq hs ha hb hab hS fun w hw => if e : w = z then e ▸ (by first | exact .inr hne | exact .inl (by omega)) else hR w (by omega)
      ·rfl
     ·try simp only [bs] at h6
      have hzn : ¬ ((z : Nat) : Int) + 1 = n := h6
      refine W_skip ?_
      refine Exists.intro (z + 1) (And.intro ?_ (And.intro ?_ ?_))
      ·exact ⟨by show ((_ + 1 : Nat) : Int) < n; omega, fun w hw => if e : w = z then e ▸ (by first | exact .inr hne | exact .inl (by omega)) else hR w (by omega)⟩
      ·show _ < _; omega
      ·exact Wk.intro (.c rfl (.c rfl (.c rfl (.c rfl (.c rfl (.c rfl (.c rfl (.cons rfl (by first | rfl | exact veq_int (by first | omega | (dsimp only; omega))) (.c rfl .nil))))))))) (.keep rfl rfl (fun _ h => h) (.keep rfl rfl (fun _ h => h) .nil))
end Go.Proofs.Ytjihhcjpbcmjaaa
end
