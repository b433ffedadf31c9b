/- Texts of this claim put together, part 1: the frame, the plain law and what the functions do; the conditions stand in the statements. -/
import Derived.Test.YtjihhcjpbcmjaaaFGTy
import Derived.Test.YtjihhcjpbcmjaaaFGGx20
import Derived.Test.YtjihhcjpbcmjaaaFGM44
import Derived.Test.YtjihhcjpbcmjaaaFGM7
import Derived.Test.YtjihhcjpbcmjaaaFGGx12
import Derived.Test.YtjihhcjpbcmjaaaFGM26
import Derived.Test.YtjihhcjpbcmjaaaFGGx27
import Derived.Test.YtjihhcjpbcmjaaaFGGx28
import Derived.Test.YtjihhcjpbcmjaaaFGGx36
import Derived.Test.YtjihhcjpbcmjaaaFGGx38
import Derived.Test.YtjihhcjpbcmjaaaFGM46
import Derived.Test.YtjihhcjpbcmjaaaFGM47
import Derived.Test.YtjihhcjpbcmjaaaFGM30
import Derived.Test.YtjihhcjpbcmjaaaFGGx26
import Derived.Test.YtjihhcjpbcmjaaaFGM29
import Derived.Test.YtjihhcjpbcmjaaaFGGx25
import Derived.Test.YtjihhcjpbcmjaaaFGM31
import Derived.Test.YtjihhcjpbcmjaaaFGM32
import Derived.Test.YtjihhcjpbcmjaaaFGM49
section
namespace Go.Proofs.Ytjihhcjpbcmjaaa
open Go Gx
set_option linter.unusedVariables false
theorem en_pimpl_group_order : Enters Try.prog 31 := enters_of Try.func31 (by kernel_rfl) (by kernel_rfl)
set_option maxRecDepth 100000 in
theorem w_pimpl_group_order {n bg : Nat} {gv : Nat → Value} {hgv : ∀ i, (gv i).oneCell' = true} {ld : Nat → Fin 256} {hs : Nat → Bool} (hn : 1 ≤ n ∧ n ≤ 10) : CR Try.prog 31 (vals [.ptr bg 0 none]) [.rvar bg (.agg [.int .i64 (n : Int), .varr 10 gv hgv, .arr8 1000 ld, .barr 100 hs])] (.int .i64 ((ordP hs n : Nat) : Int)) := by
 refine CR_intro (rs := [.tmp 2]) tt tok Try.func31 rfl rfl rfl (by first | rfl | assumption) fun w => ?_
 refine W_seq ?_
 refine W_region ?_
 refine o_as rfl rfl ?_
 refine Ops_nil ?_
 refine W_seq ?_
 refine W_region ?_
 refine o_as rfl rfl ?_
 refine Ops_nil ?_
 refine W_seq ?_
 refine W_seq ?_
 refine W_region ?_
 refine o_mv rfl rfl ?_
 refine Ops_p (p_nilCheck rfl) (lt_dec rfl) ?_
 refine Ops_p (p_fieldAddr rfl rfl rfl rfl rfl rfl) (lt_dec rfl) ?_
 refine Ops_q (q_load_r rfl rfl m0 rfl (by first | exact True.intro | omega | exact Fin.isLt _ | trivial | (dsimp only; omega))) (lt_dec rfl) ?_
 refine o_mv rfl rfl ?_
 refine Ops_nil ?_
 refine W_block ?_
 refine W_loop (α := Nat) (fun q => ⟨[(0, .ptr bg 0 none), (2, .int .i64 0), (3, .int .i64 ((ordP hs q : Nat) : Int)), (11, .int .i64 (n : Int)), (12, .int .i64 (q : Int))], [.rvar bg (.agg [.int .i64 (n : Int), .varr 10 gv hgv, .arr8 1000 ld, .barr 100 hs])]⟩) (fun q => q ≤ n) (fun q => n - q) 0 ?_ ?_ ?_
 ·show _ ≤ _; omega
 ·exact Wk.intro (.c rfl (.c rfl (.cons rfl (by first | rfl | exact veq_int (by first | omega | (dsimp only; omega))) (.c rfl (.cons rfl (by first | rfl | exact veq_int (by first | omega | (dsimp only; omega))) .nil))))) (.keep rfl rfl (fun _ h => h) .nil)
 ·rintro q hR
  refine W_seq ?_
  refine W_region ?_
  refine Ops_p (p_lss rfl rfl) (lt_dec rfl) ?_
  refine Ops_nil ?_
  refine W_seq ?_
  refine W_cond rfl (fun h1 => ?_) (fun h1 => ?_)
  ·try simp only [bs] at h1
   refine W_skip ?_
   refine W_seq ?_
   refine W_block ?_
   refine W_seq ?_
   refine W_region ?_
   refine o_mv rfl rfl ?_
   refine o_as rfl rfl ?_
   refine Ops_nil ?_
   refine W_seq ?_
   refine W_region ?_
   refine o_as rfl rfl ?_
   refine Ops_nil ?_
   refine W_seq ?_
   refine W_seq ?_
   have hom := ordP_mul (hs := hs) (k := q) (by omega)
   refine W_region ?_
   refine o_mv rfl rfl ?_
   refine o_mv rfl rfl ?_
   refine Ops_p (p_nilCheck rfl) (lt_dec rfl) ?_
   refine Ops_p (p_fieldAddr rfl rfl rfl rfl rfl rfl) (lt_dec rfl) ?_
   refine Ops_p (p_ixN 10 q rfl rfl rfl rfl rfl rfl (by first | omega | exact Fin.isLt _ | (dsimp only; omega))) (lt_dec rfl) ?_
   refine Ops_q (q_load_r rfl rfl m0 rfl (by first | exact True.intro | omega | exact Fin.isLt _ | trivial | (dsimp only; omega))) (lt_dec rfl) ?_
   refine o_mv rfl rfl ?_
   refine Ops_nil ?_
   refine W_block ?_
   refine W_loop (α := Nat) (fun x => ⟨[(0, .ptr bg 0 none), (2, .int .i64 0), (3, .int .i64 ((ordP hs q : Nat) : Int)), (4, .int .i64 (q : Int)), (5, .int .i64 ((cnR hs q x : Nat) : Int)), (11, .int .i64 (n : Int)), (12, .int .i64 (q : Int)), (20, .barr 10 (fun x => hs (10 * q + x))), (21, .int .i64 (x : Int))], [.rvar bg (.agg [.int .i64 (n : Int), .varr 10 gv hgv, .arr8 1000 ld, .barr 100 hs])]⟩) (fun x => x ≤ 10) (fun x => 10 - x) 0 ?_ ?_ ?_
   ·show _ ≤ _; omega
   ·exact Wk.intro (.c rfl (.c rfl (.c rfl (.c rfl (.cons rfl (by first | rfl | exact veq_int (by first | omega | (dsimp only; omega))) (.c rfl (.c rfl (.c rfl (.cons rfl (by first | rfl | exact veq_int (by first | omega | (dsimp only; omega))) .nil))))))))) (.keep rfl rfl (fun _ h => h) .nil)
   ·rintro x hR
    have hcx := cnR_le hs q x
    refine W_seq ?_
    refine W_region ?_
    refine Ops_p (p_lss rfl rfl) (lt_dec rfl) ?_
    refine Ops_nil ?_
    refine W_seq ?_
    refine W_cond rfl (fun h2 => ?_) (fun h2 => ?_)
    ·try simp only [bs] at h2
     refine W_skip ?_
     refine W_seq ?_
     refine W_block ?_
     refine W_seq ?_
     refine W_region ?_
     refine Ops_p (p_index_b x rfl rfl rfl rfl rfl rfl (by first | omega | exact Fin.isLt _ | (dsimp only; omega)) (Nat.le_refl _)) (lt_dec rfl) ?_
     refine o_as rfl rfl ?_
     refine Ops_nil ?_
     refine W_seq ?_
     refine W_region ?_
     refine o_mv rfl rfl ?_
     refine Ops_nil ?_
     refine W_cond rfl (fun h3 => ?_) (fun h3 => ?_)
     ·try simp only [bs] at h3
      have hh : hs (10 * q + x) = true := h3
      refine W_region ?_
      refine o_mv rfl rfl ?_
      refine Ops_p (p_add rfl rfl (by refine ⟨?_, ?_⟩ <;> first | omega | (dsimp only; omega))) (lt_dec rfl) ?_
      refine o_as rfl rfl ?_
      refine Ops_nil ?_
      refine W_region ?_
      refine Ops_p (p_add rfl rfl (by refine ⟨?_, ?_⟩ <;> first | omega | (dsimp only; omega))) (lt_dec rfl) ?_
      refine o_mv rfl rfl ?_
      refine Ops_nil ?_
      refine Exists.intro (x + 1) (And.intro ?_ (And.intro ?_ ?_))
      ·show _ ≤ _; omega
      ·show _ < _; omega
      ·exact Wk.intro (.c rfl (.c rfl (.c rfl (.c rfl (.cons rfl (veq_int (by first | (rw [cnR_t hh]; omega) | (rw [cnR_f hh]))) (.c rfl (.c rfl (.c rfl (.cons rfl (by first | rfl | exact veq_int (by first | omega | (dsimp only; omega))) .nil))))))))) (.keep rfl rfl (fun _ h => h) .nil)
     ·try simp only [bs] at h3
      have hh : hs (10 * q + x) = false := h3
      refine W_skip ?_
      refine W_region ?_
      refine Ops_p (p_add rfl rfl (by refine ⟨?_, ?_⟩ <;> first | omega | (dsimp only; omega))) (lt_dec rfl) ?_
      refine o_mv rfl rfl ?_
      refine Ops_nil ?_
      refine Exists.intro (x + 1) (And.intro ?_ (And.intro ?_ ?_))
      ·show _ ≤ _; omega
      ·show _ < _; omega
      ·exact Wk.intro (.c rfl (.c rfl (.c rfl (.c rfl (.cons rfl (veq_int (by first | (rw [cnR_t hh]; omega) | (rw [cnR_f hh]))) (.c rfl (.c rfl (.c rfl (.cons rfl (by first | rfl | exact veq_int (by first | omega | (dsimp only; omega))) .nil))))))))) (.keep rfl rfl (fun _ h => h) .nil)
    ·try simp only [bs] at h2
     obtain rfl : x = 10 := (by omega)
     refine W_exit ?_
     refine W_region ?_
     refine o_mv rfl rfl ?_
     refine o_mv rfl rfl ?_
     refine Ops_p ((p_mul rfl rfl (by exact ⟨by omega, by omega⟩)).eq (d' := .int .i64 ((ordP hs (q + 1) : Nat) : Int)) (veq_int hom.2.2)) (lt_dec rfl) ?_
     refine o_as rfl rfl ?_
     refine Ops_nil ?_
     refine W_region ?_
     refine Ops_p (p_add rfl rfl (by refine ⟨?_, ?_⟩ <;> first | omega | (dsimp only; omega))) (lt_dec rfl) ?_
     refine o_mv rfl rfl ?_
     refine Ops_nil ?_
     refine Exists.intro (q + 1) (And.intro ?_ (And.intro ?_ ?_))
     ·show _ ≤ _; omega
     ·show _ < _; omega
     ·exact Wk.intro (.c rfl (.c rfl (.cons rfl (by first | rfl | exact veq_int (by first | omega | (dsimp only; omega))) (.c rfl (.cons rfl (by first | rfl | exact veq_int (by first | omega | (dsimp only; omega))) .nil))))) (.keep rfl rfl (fun _ h => h) .nil)
  ·try simp only [bs] at h1
   obtain rfl : q = n := (by omega)
   refine W_exit ?_
   refine W_seq ?_
   refine W_region ?_
   refine o_mv rfl rfl ?_
   refine o_as rfl rfl ?_
   refine Ops_nil ?_
   refine W_ret ?_
   refine Exists.intro _ (And.intro (.cons (.tmp rfl) .nil) ?_)
   rfl
end Go.Proofs.Ytjihhcjpbcmjaaa
end
section
namespace Go.Proofs.Ytjihhcjpbcmjaaa
open Go Gx
set_option linter.unusedVariables false
theorem en_impl_within : Enters Try.prog 38 := enters_of Try.func38 (by kernel_rfl) (by kernel_rfl)
set_option maxRecDepth 100000 in
theorem w_impl_within {n lo hi : Int}  : CR Try.prog 38 (vals [.int .i64 n, .int .i64 lo, .int .i64 hi]) [] (.bool (decide (lo ≤ n ∧ n ≤ hi))) := by
 refine CR_intro (rs := [.tmp 6]) tt tok Try.func38 rfl rfl rfl (by first | rfl | assumption) fun w => ?_
 refine W_seq ?_
 refine W_region ?_
 refine o_as rfl rfl ?_
 refine Ops_nil ?_
 refine W_seq ?_
 refine W_region ?_
 refine o_mv rfl rfl ?_
 refine o_mv rfl rfl ?_
 refine Ops_p (p_geq rfl rfl) (lt_dec rfl) ?_
 refine o_mv rfl rfl ?_
 refine Ops_guard rfl rfl (lt_dec rfl) (fun hg1 => ?_) (fun hg1 => ?_)
 ·try simp only [bs] at hg1
  refine o_mv rfl rfl ?_
  refine Ops_guard_t rfl rfl (lt_dec rfl) ?_
  refine o_mv rfl rfl ?_
  refine Ops_guard_t rfl rfl (lt_dec rfl) ?_
  refine Ops_p (p_leq rfl rfl) (lt_dec rfl) ?_
  refine Ops_p (p_pick_t rfl rfl) (lt_dec rfl) ?_
  refine o_as rfl rfl ?_
  refine Ops_nil ?_
  refine W_ret ?_
  refine Exists.intro _ (And.intro (.cons (.tmp rfl) .nil) ?_)
  first | rfl | (refine veq_bool ?_; simp_all; done) | (refine veq_bool ?_; simp; omega) | (refine veq_bool ?_; rw [eq_comm, decide_eq_false_iff_not]; omega) | (refine veq_bool ?_; rw [eq_comm, decide_eq_true_iff]; omega)
 ·try simp only [bs] at hg1
  refine Ops_guard_f rfl rfl rfl (lt_dec rfl) ?_
  refine Ops_guard_f rfl rfl rfl (lt_dec rfl) ?_
  refine Ops_p (p_pick_f rfl rfl) (lt_dec rfl) ?_
  refine o_as rfl rfl ?_
  refine Ops_nil ?_
  refine W_ret ?_
  refine Exists.intro _ (And.intro (.cons (.tmp rfl) .nil) ?_)
  first | rfl | (refine veq_bool ?_; simp_all; done) | (refine veq_bool ?_; simp; omega) | (refine veq_bool ?_; rw [eq_comm, decide_eq_false_iff_not]; omega) | (refine veq_bool ?_; rw [eq_comm, decide_eq_true_iff]; omega)
end Go.Proofs.Ytjihhcjpbcmjaaa
end
section
namespace Go.Proofs.Ytjihhcjpbcmjaaa
open Go Gx
set_option linter.unusedVariables false
theorem en_impl_IsPermutation : Enters Try.prog 39 := enters_of Try.func39 (by kernel_rfl) (by kernel_rfl)
set_option maxRecDepth 100000 in
theorem w_impl_IsPermutation {p : Nat → Fin 256} {n : Int}  : CR Try.prog 39 (vals [.arr8 10 p, .int .i64 n]) [] (.bool (isPerm p n)) := by
 refine CR_intro (rs := [.tmp 4]) tt tok Try.func39 rfl rfl rfl (by first | rfl | assumption) fun w => ?_
 refine W_seq ?_
 refine W_region ?_
 refine Ops_x rfl (x_box rfl rfl (lt_dec rfl) fun b2_1 => ?_)
 refine o_as rfl rfl ?_
 refine Ops_nil ?_
 refine W_seq ?_
 refine W_seq ?_
 refine W_region ?_
 refine o_mv rfl rfl ?_
 refine Ops_q (q_call en_impl_within rfl (w_impl_within) (View.none _)) (lt_dec rfl) ?_
 refine Ops_p (p_not rfl) (lt_dec rfl) ?_
 refine Ops_nil ?_
 refine W_cond rfl (fun h1 => ?_) (fun h1 => ?_)
 ·try simp only [bs] at h1
  refine W_seq ?_
  refine W_region ?_
  refine o_as rfl rfl ?_
  refine Ops_nil ?_
  refine W_ret ?_
  refine Exists.intro _ (And.intro (.cons (.tmp rfl) .nil) ?_)
  first | rfl | (refine veq_bool ?_; simp_all; done) | (refine veq_bool ?_; simp; omega) | (refine veq_bool ?_; rw [eq_comm, decide_eq_false_iff_not]; omega) | (refine veq_bool ?_; rw [eq_comm, decide_eq_true_iff]; omega) | (exact veq_bool (isPerm_f (not_perm_n (by first | omega | (simp_all; omega))))) | (exact veq_bool (isPerm_f (not_perm_zero (k := i) (by omega) (by omega) (by assumption)))) | (exact veq_bool (isPerm_f (not_perm_big (k := i) (by omega) (by omega) (by omega)))) | (obtain rfl : i = 10 := (by omega); exact veq_bool (perm_of_bits h1.1 h1.2 hA))
 ·try simp only [bs] at h1
  refine W_skip ?_
  refine W_seq ?_
  refine W_region ?_
  refine o_as rfl rfl ?_
  refine Ops_nil ?_
  refine W_seq ?_
  refine W_seq ?_
  refine W_region ?_
  refine Ops_q (q_load rfl rfl m0 rfl (by first | exact True.intro | omega | exact Fin.isLt _ | trivial | (dsimp only; omega))) (lt_dec rfl) ?_
  refine o_mv rfl rfl ?_
  refine Ops_nil ?_
  refine W_block ?_
  refine W_loop (α := Nat) (fun i => ⟨[(0, .arr8 10 p), (1, .int .i64 n), (2, .ptr b2_1 0 none), (5, .int .i64 ((bits p n i : Nat) : Int)), (11, .arr8 10 p), (12, .int .i64 (i : Int))], [.var b2_1 (.arr8 10 p)]⟩) (fun i => i ≤ 10 ∧ PermA p n i) (fun i => 10 - i) 0 ?_ ?_ ?_
  ·exact ⟨by omega, PermA.zero⟩
  ·exact Wk.intro (.c rfl (.c rfl (.c rfl (.cons rfl (by first | rfl | exact veq_int (by first | omega | (dsimp only; omega))) (.c rfl (.cons rfl (by first | rfl | exact veq_int (by first | omega | (dsimp only; omega))) .nil)))))) (.keep rfl rfl (fun _ h => h) .nil)
  ·rintro i ⟨hi, hA⟩
   refine W_seq ?_
   refine W_region ?_
   refine Ops_p (p_lss rfl rfl) (lt_dec rfl) ?_
   refine Ops_nil ?_
   refine W_seq ?_
   refine W_cond rfl (fun h2 => ?_) (fun h2 => ?_)
   ·try simp only [bs] at h2
    refine W_skip ?_
    refine W_seq ?_
    refine W_block ?_
    refine W_seq ?_
    refine W_region ?_
    refine o_mv rfl rfl ?_
    refine Ops_p (p_index8 _ rfl rfl rfl rfl rfl rfl (by first | omega | exact Fin.isLt _ | (dsimp only; omega)) (Nat.le_refl _)) (lt_dec rfl) ?_
    refine o_as rfl rfl ?_
    refine o_as rfl rfl ?_
    refine Ops_nil ?_
    refine W_seq ?_
    refine W_seq ?_
    refine W_region ?_
    refine o_mv rfl rfl ?_
    refine o_mv rfl rfl ?_
    refine Ops_p (p_geq rfl rfl) (lt_dec rfl) ?_
    refine Ops_nil ?_
    refine W_cond rfl (fun h3 => ?_) (fun h3 => ?_)
    ·try simp only [bs] at h3
     refine W_seq ?_
     refine W_seq ?_
     refine W_region ?_
     refine o_mv rfl rfl ?_
     first | refine Ops_p (p_neq_8 rfl rfl) (lt_dec rfl) ?_ | refine Ops_p (p_neq rfl rfl) (lt_dec rfl) ?_
     refine Ops_nil ?_
     refine W_cond rfl (fun h4 => ?_) (fun h4 => ?_)
     ·try simp only [bs] at h4
      refine W_seq ?_
      refine W_region ?_
      refine o_as rfl rfl ?_
      refine Ops_nil ?_
      refine W_ret ?_
      refine Exists.intro _ (And.intro (.cons (.tmp rfl) .nil) ?_)
      first | rfl | (refine veq_bool ?_; simp_all; done) | (refine veq_bool ?_; simp; omega) | (refine veq_bool ?_; rw [eq_comm, decide_eq_false_iff_not]; omega) | (refine veq_bool ?_; rw [eq_comm, decide_eq_true_iff]; omega) | (exact veq_bool (isPerm_f (not_perm_n (by first | omega | (simp_all; omega))))) | (exact veq_bool (isPerm_f (not_perm_zero (k := i) (by omega) (by omega) (by assumption)))) | (exact veq_bool (isPerm_f (not_perm_big (k := i) (by omega) (by omega) (by omega)))) | (obtain rfl : i = 10 := (by omega); exact veq_bool (perm_of_bits h1.1 h1.2 hA))
     ·try simp only [bs] at h4
      refine W_skip ?_
      refine W_exit ?_
      refine W_region ?_
      refine Ops_p (p_add rfl rfl (by refine ⟨?_, ?_⟩ <;> first | omega | (dsimp only; omega))) (lt_dec rfl) ?_
      refine o_mv rfl rfl ?_
      refine Ops_nil ?_
      refine Exists.intro (i + 1) (And.intro ?_ (And.intro ?_ ?_))
      ·first | (exact ⟨by omega, hA.hi (by omega) (by simp_all)⟩) | (exact ⟨by omega, hA.lo (by omega) (by omega)⟩)
      ·show _ < _; omega
      ·exact Wk.intro (.c rfl (.c rfl (.c rfl (.cons rfl (by first | rfl | exact veq_int (bits_hi (by omega))) (.c rfl (.cons rfl (by first | rfl | exact veq_int (by first | omega | (dsimp only; omega))) .nil)))))) (.keep rfl rfl (fun _ h => h) .nil)
    ·try simp only [bs] at h3
     refine W_skip ?_
     refine W_seq ?_
     refine W_seq ?_
     refine W_region ?_
     refine o_mv rfl rfl ?_
     first | refine Ops_p (p_conv8 rfl rfl rfl (by decide)) (lt_dec rfl) ?_ | refine Ops_p (p_conv rfl rfl rfl (by exact ⟨(by first | omega | (dsimp only; omega)), (by first | omega | (dsimp only; omega))⟩)) (lt_dec rfl) ?_
     refine o_mv rfl rfl ?_
     refine Ops_p (p_geq rfl rfl) (lt_dec rfl) ?_
     refine Ops_nil ?_
     refine W_cond rfl (fun h5 => ?_) (fun h5 => ?_)
     ·try simp only [bs] at h5
      refine W_seq ?_
      refine W_region ?_
      refine o_as rfl rfl ?_
      refine Ops_nil ?_
      refine W_ret ?_
      refine Exists.intro _ (And.intro (.cons (.tmp rfl) .nil) ?_)
      first | rfl | (refine veq_bool ?_; simp_all; done) | (refine veq_bool ?_; simp; omega) | (refine veq_bool ?_; rw [eq_comm, decide_eq_false_iff_not]; omega) | (refine veq_bool ?_; rw [eq_comm, decide_eq_true_iff]; omega) | (exact veq_bool (isPerm_f (not_perm_n (by first | omega | (simp_all; omega))))) | (exact veq_bool (isPerm_f (not_perm_zero (k := i) (by omega) (by omega) (by assumption)))) | (exact veq_bool (isPerm_f (not_perm_big (k := i) (by omega) (by omega) (by omega)))) | (obtain rfl : i = 10 := (by omega); exact veq_bool (perm_of_bits h1.1 h1.2 hA))
     ·try simp only [bs] at h5
      refine W_skip ?_
      refine W_region ?_
      refine o_mv rfl rfl ?_
      refine o_mv rfl rfl ?_
      refine Ops_p (p_shl rfl rfl (by omega) (by simp only [IntKind.bits]; omega) (shl_in (by omega) (by omega))) (lt_dec rfl) ?_
      refine Ops_p (p_or_bits rfl rfl hA (by omega) (by omega) (by omega)) (lt_dec rfl) ?_
      refine o_as rfl rfl ?_
      refine Ops_nil ?_
      refine W_region ?_
      refine Ops_p (p_add rfl rfl (by refine ⟨?_, ?_⟩ <;> first | omega | (dsimp only; omega))) (lt_dec rfl) ?_
      refine o_mv rfl rfl ?_
      refine Ops_nil ?_
      refine Exists.intro (i + 1) (And.intro ?_ (And.intro ?_ ?_))
      ·first | (exact ⟨by omega, hA.hi (by omega) (by simp_all)⟩) | (exact ⟨by omega, hA.lo (by omega) (by omega)⟩)
      ·show _ < _; omega
      ·exact Wk.intro (.c rfl (.c rfl (.c rfl (.cons rfl (by first | rfl | exact veq_int (bits_hi (by omega))) (.c rfl (.cons rfl (by first | rfl | exact veq_int (by first | omega | (dsimp only; omega))) .nil)))))) (.keep rfl rfl (fun _ h => h) .nil)
   ·try simp only [bs] at h2
    refine W_exit ?_
    refine W_seq ?_
    refine W_region ?_
    refine o_mv rfl rfl ?_
    refine o_mv rfl rfl ?_
    refine Ops_p (p_shl rfl rfl (by omega) (by simp only [IntKind.bits]; omega) (shl_in (by omega) (by omega))) (lt_dec rfl) ?_
    refine Ops_p (p_sub rfl rfl (shl_in1 (by omega) (by omega))) (lt_dec rfl) ?_
    refine Ops_p (p_eql rfl rfl) (lt_dec rfl) ?_
    refine o_as rfl rfl ?_
    refine Ops_nil ?_
    refine W_ret ?_
    refine Exists.intro _ (And.intro (.cons (.tmp rfl) .nil) ?_)
    first | rfl | (refine veq_bool ?_; simp_all; done) | (refine veq_bool ?_; simp; omega) | (refine veq_bool ?_; rw [eq_comm, decide_eq_false_iff_not]; omega) | (refine veq_bool ?_; rw [eq_comm, decide_eq_true_iff]; omega) | (exact veq_bool (isPerm_f (not_perm_n (by first | omega | (simp_all; omega))))) | (exact veq_bool (isPerm_f (not_perm_zero (k := i) (by omega) (by omega) (by assumption)))) | (exact veq_bool (isPerm_f (not_perm_big (k := i) (by omega) (by omega) (by omega)))) | (obtain rfl : i = 10 := (by omega); exact veq_bool (perm_of_bits h1.1 h1.2 hA))
end Go.Proofs.Ytjihhcjpbcmjaaa
end
section
namespace Go.Proofs.Ytjihhcjpbcmjaaa
open Go Gx
set_option linter.unusedVariables false
theorem en_impl_arePermutationsVR : Enters Try.prog 53 := enters_of Try.func53 (by kernel_rfl) (by kernel_rfl)
set_option maxRecDepth 100000 in
theorem w_impl_arePermutationsVR {a : Value} {ha : a.oneCell' = true} {l : List (Nat → Fin 256)} {n : Int} (hl : l.length ≤ 1048576) (hn : 1 ≤ n ∧ n ≤ 10) : CR Try.prog 53 (vals [.int .i64 n, .raw a ha]) [rd a (.arrs 10 l)] (.bool (psB l n)) := by
 refine CR_intro (rs := [.tmp 4]) tt tok Try.func53 rfl rfl rfl (by first | rfl | assumption) fun w => ?_
 refine W_seq ?_
 refine W_region ?_
 refine o_as rfl rfl ?_
 refine Ops_nil ?_
 refine W_seq ?_
 refine W_seq ?_
 refine W_region ?_
 refine o_mv rfl rfl ?_
 refine Ops_q ((q_lenR rfl rfl rfl (Rds.rd m0)).eq (d' := .int .i64 ((l.length : Nat) : Int)) rfl) (lt_dec rfl) ?_
 refine o_mv rfl rfl ?_
 refine Ops_nil ?_
 refine W_block ?_
 refine W_loop (α := Nat) (fun i => ⟨[(0, .int .i64 n), (1, .raw a ha), (7, .raw a ha), (8, .int .i64 (l.length : Int)), (9, .int .i64 (i : Int))], [rd a (.arrs 10 l)]⟩) (fun i => i ≤ l.length ∧ ∀ j, j < i → isPerm (l.getD j fun _ => 0) n = true) (fun i => l.length - i) 0 ?_ ?_ ?_
 ·exact ⟨by omega, fun j h => by omega⟩
 ·exact Wk.intro (.c rfl (.c rfl (.c rfl (.c rfl (.cons rfl (by first | rfl | exact veq_int (by first | omega | (dsimp only; omega))) .nil))))) (.keep rfl rfl (fun _ h => h) .nil)
 ·rintro i ⟨hi, hR⟩
  refine W_seq ?_
  refine W_region ?_
  refine Ops_p (p_lss rfl rfl) (lt_dec rfl) ?_
  refine Ops_nil ?_
  refine W_seq ?_
  refine W_cond rfl (fun h1 => ?_) (fun h1 => ?_)
  ·try simp only [bs] at h1
   refine W_skip ?_
   refine W_seq ?_
   refine W_block ?_
   refine W_seq ?_
   refine W_region ?_
   refine Ops_q (q_ixR _ rfl rfl rfl (Rds.rd m0) rfl rfl (by first | (show _ < List.length _; omega) | (show _ < List.length _; first | omega | (dsimp only; omega))) rfl) (lt_dec rfl) ?_
   refine Ops_q (q_loadR rfl rfl (Rds.rd m0) rfl rfl (by first | (show _ < List.length _; omega) | (show _ < List.length _; first | omega | (dsimp only; omega))) rfl rfl rfl) (lt_dec rfl) ?_
   refine Ops_x rfl (x_alloc rfl (lt_dec rfl) fun b6_1 => ?_)
   refine Ops_x rfl (x_store rfl rfl rfl rfl rfl HpRep.head rfl (by first | trivial | (first | (first | omega | (dsimp only; omega)) | exact Fin.isLt _)) ?_)
   refine Ops_nil ?_
   refine W_seq ?_
   refine W_region ?_
   refine Ops_q (q_load rfl rfl m0 rfl (by first | exact True.intro | omega | exact Fin.isLt _ | trivial | (dsimp only; omega))) (lt_dec rfl) ?_
   refine o_mv rfl rfl ?_
   refine Ops_q (q_call en_impl_IsPermutation rfl (w_impl_IsPermutation) (View.none _)) (lt_dec rfl) ?_
   refine Ops_p (p_not rfl) (lt_dec rfl) ?_
   refine Ops_nil ?_
   refine W_cond rfl (fun h2 => ?_) (fun h2 => ?_)
   ·try simp only [bs] at h2
    refine W_seq ?_
    refine W_region ?_
    refine o_as rfl rfl ?_
    refine Ops_nil ?_
    refine W_ret ?_
    refine Exists.intro _ (And.intro (.cons (.tmp rfl) .nil) ?_)
    first | rfl | (refine veq_bool ?_; simp_all; done) | (refine veq_bool ?_; simp; omega) | (refine veq_bool ?_; rw [eq_comm, decide_eq_false_iff_not]; omega) | (refine veq_bool ?_; rw [eq_comm, decide_eq_true_iff]; omega) | (exact veq_bool (psB_f (i := i) (by omega) h2)) | (exact veq_bool (by rw [← psB_t hR]; exact decide_eq_true hn))
   ·try simp only [bs] at h2
    refine W_skip ?_
    refine W_region ?_
    refine Ops_p (p_add rfl rfl (by refine ⟨?_, ?_⟩ <;> first | omega | (dsimp only; omega))) (lt_dec rfl) ?_
    refine o_mv rfl rfl ?_
    refine Ops_nil ?_
    refine Exists.intro (i + 1) (And.intro ?_ (And.intro ?_ ?_))
    ·exact ⟨by omega, fun j h => if e : j = i then e ▸ h2 else hR j (by omega)⟩
    ·show _ < _; omega
    ·exact Wk.intro (.c rfl (.c rfl (.c rfl (.c rfl (.cons rfl (by first | rfl | exact veq_int (by first | omega | (dsimp only; omega))) .nil))))) (.drop (.keep rfl rfl (fun _ h => h) .nil))
  ·try simp only [bs] at h1
   obtain rfl : i = l.length := (by omega)
   refine W_exit ?_
   refine W_seq ?_
   refine W_region ?_
   refine o_mv rfl rfl ?_
   refine Ops_q (q_call en_impl_within rfl (w_impl_within) (View.none _)) (lt_dec rfl) ?_
   refine o_as rfl rfl ?_
   refine Ops_nil ?_
   refine W_ret ?_
   refine Exists.intro _ (And.intro (.cons (.tmp rfl) .nil) ?_)
   first | rfl | (refine veq_bool ?_; simp_all; done) | (refine veq_bool ?_; simp; omega) | (refine veq_bool ?_; rw [eq_comm, decide_eq_false_iff_not]; omega) | (refine veq_bool ?_; rw [eq_comm, decide_eq_true_iff]; omega) | (exact veq_bool (psB_f (i := i) (by omega) h2)) | (exact veq_bool (by rw [← psB_t hR]; exact decide_eq_true hn))
end Go.Proofs.Ytjihhcjpbcmjaaa
end
section
namespace Go.Proofs.Ytjihhcjpbcmjaaa
open Go Gx
set_option linter.unusedVariables false
theorem en_impl_groupCodeVN : Enters Try.prog 29 := enters_of Try.func29 (by kernel_rfl) (by kernel_rfl)
set_option maxRecDepth 100000 in
theorem w_impl_groupCodeVN {a : Value} {ha : a.oneCell' = true} {l : List (Nat → Fin 256)} {n : Int} (hl : l.length ≤ 1048576) : CR Try.prog 29 (vals [.raw a ha, .int .i64 n, .raw (.slice none 0 0) rfl]) [rd a (.arrs 10 l)] (.int .i64 (psC l n)) := by
 refine CR_intro (rs := [.tmp 6]) tt tok Try.func29 rfl rfl rfl (by first | rfl | assumption) fun w => ?_
 refine W_seq ?_
 refine W_region ?_
 refine o_as rfl rfl ?_
 refine Ops_nil ?_
 refine W_seq ?_
 refine W_block ?_
 refine W_seq ?_
 refine W_region ?_
 refine o_mv rfl rfl ?_
 refine Ops_q (q_call en_impl_within rfl (w_impl_within) (View.none _)) (lt_dec rfl) ?_
 refine Ops_p (p_not rfl) (lt_dec rfl) ?_
 refine o_as rfl rfl ?_
 refine Ops_nil ?_
 refine W_cond rfl (fun h1 => ?_) (fun h1 => ?_)
 ·try simp only [bs] at h1
  refine W_seq ?_
  refine W_region ?_
  refine o_as rfl rfl ?_
  refine Ops_nil ?_
  refine W_ret ?_
  refine Exists.intro _ (And.intro (.cons (.tmp rfl) .nil) ?_)
  first | rfl | (refine veq_int ?_; omega) | (exact veq_int (psC_n (by assumption)).symm) | (exact veq_int (psC_1 (by assumption) (by assumption)).symm) | (exact veq_int (psC_2 (by assumption) (by assumption) (by omega)).symm) | (exact veq_int (psC_0 (by assumption) (by assumption) (by omega)).symm)
 ·try simp only [bs] at h1
  refine W_seq ?_
  refine W_region ?_
  refine o_mv rfl rfl ?_
  refine o_mv rfl rfl ?_
  refine Ops_q (q_call en_impl_arePermutationsVR rfl (w_impl_arePermutationsVR (by first | assumption | (first | omega | (dsimp only; omega)) | (simp; done) | decide) (by first | assumption | (first | omega | (dsimp only; omega)) | (simp; done) | decide)) (Vw.rd m0).v) (lt_dec rfl) ?_
  refine Ops_p (p_not rfl) (lt_dec rfl) ?_
  refine o_as rfl rfl ?_
  refine Ops_nil ?_
  refine W_cond rfl (fun h2 => ?_) (fun h2 => ?_)
  ·try simp only [bs] at h2
   refine W_seq ?_
   refine W_region ?_
   refine o_as rfl rfl ?_
   refine Ops_nil ?_
   refine W_ret ?_
   refine Exists.intro _ (And.intro (.cons (.tmp rfl) .nil) ?_)
   first | rfl | (refine veq_int ?_; omega) | (exact veq_int (psC_n (by assumption)).symm) | (exact veq_int (psC_1 (by assumption) (by assumption)).symm) | (exact veq_int (psC_2 (by assumption) (by assumption) (by omega)).symm) | (exact veq_int (psC_0 (by assumption) (by assumption) (by omega)).symm)
  ·try simp only [bs] at h2
   refine W_seq ?_
   refine W_region ?_
   refine o_mv rfl rfl ?_
   refine Ops_q ((q_lenR rfl rfl rfl (Rds.rd m0)).eq (d' := .int .i64 ((l.length : Nat) : Int)) rfl) (lt_dec rfl) ?_
   refine Ops_p (p_gtr rfl rfl) (lt_dec rfl) ?_
   refine o_as rfl rfl ?_
   refine Ops_nil ?_
   refine W_cond rfl (fun h3 => ?_) (fun h3 => ?_)
   ·try simp only [bs] at h3
    refine W_seq ?_
    refine W_region ?_
    refine o_as rfl rfl ?_
    refine Ops_nil ?_
    refine W_ret ?_
    refine Exists.intro _ (And.intro (.cons (.tmp rfl) .nil) ?_)
    first | rfl | (refine veq_int ?_; omega) | (exact veq_int (psC_n (by assumption)).symm) | (exact veq_int (psC_1 (by assumption) (by assumption)).symm) | (exact veq_int (psC_2 (by assumption) (by assumption) (by omega)).symm) | (exact veq_int (psC_0 (by assumption) (by assumption) (by omega)).symm)
   ·try simp only [bs] at h3
    refine W_skip ?_
    refine W_seq ?_
    refine W_seq ?_
    refine W_region ?_
    refine o_mv rfl rfl ?_
    refine Ops_p (p_len_nil rfl rfl rfl) (lt_dec rfl) ?_
    refine o_mv rfl rfl ?_
    refine Ops_nil ?_
    refine W_block ?_
    refine W_loop (α := Nat) (fun i => ⟨[(0, .raw a ha), (1, .int .i64 n), (2, .raw (.slice none 0 0) rfl), (22, .raw (.slice none 0 0) rfl), (23, .int .i64 0), (24, .int .i64 (i : Int))], [rd a (.arrs 10 l)]⟩) (fun i => i ≤ 0) (fun i => 0 - i) 0 ?_ ?_ ?_
    ·show _ ≤ _; omega
    ·exact Wk.intro (.c rfl (.c rfl (.c rfl (.c rfl (.c rfl (.cons rfl (by first | rfl | exact veq_int (by first | omega | (dsimp only; omega))) .nil)))))) (.keep rfl rfl (fun _ h => h) .nil)
    ·rintro i hR
     refine W_seq ?_
     refine W_region ?_
     refine Ops_p (p_lss rfl rfl) (lt_dec rfl) ?_
     refine Ops_nil ?_
     refine W_seq ?_
     refine W_cond rfl (fun h4 => ?_) (fun h4 => ?_)
     ·try simp only [bs] at h4
      exfalso; omega
     ·try simp only [bs] at h4
      refine W_exit ?_
      refine W_seq ?_
      refine W_region ?_
      refine o_as rfl rfl ?_
      refine Ops_nil ?_
      refine W_ret ?_
      refine Exists.intro _ (And.intro (.cons (.tmp rfl) .nil) ?_)
      first | rfl | (refine veq_int ?_; omega) | (exact veq_int (psC_n (by assumption)).symm) | (exact veq_int (psC_1 (by assumption) (by assumption)).symm) | (exact veq_int (psC_2 (by assumption) (by assumption) (by omega)).symm) | (exact veq_int (psC_0 (by assumption) (by assumption) (by omega)).symm)
end Go.Proofs.Ytjihhcjpbcmjaaa
end
section
namespace Go.Proofs.Ytjihhcjpbcmjaaa
open Go Gx
set_option linter.unusedVariables false
theorem en_impl_then : Enters Try.prog 59 := enters_of Try.func59 (by kernel_rfl) (by kernel_rfl)
set_option maxRecDepth 100000 in
theorem w_impl_then {p q : Nat → Fin 256} {n : Int} (hP : IsPerm p n) : CR Try.prog 59 (vals [.arr8 10 p, .arr8 10 q, .int .i64 n]) [] (.arr8 10 (thenT p q n.toNat)) := by
 refine CR_intro (rs := [.cell 6 33]) tt tok Try.func59 rfl rfl rfl (by first | rfl | assumption) fun w => ?_
 refine W_seq ?_
 refine W_region ?_
 refine Ops_x rfl (x_box rfl rfl (lt_dec rfl) fun b3_1 => ?_)
 refine Ops_x rfl (x_box rfl rfl (lt_dec rfl) fun b4_1 => ?_)
 refine Ops_x rfl (x_alloc rfl (lt_dec rfl) fun b6_1 => ?_)
 refine Ops_nil ?_
 refine W_seq ?_
 refine W_region ?_
 refine Ops_p (p_build_arr rfl rfl rfl rfl (by first | exact True.intro | omega | exact Fin.isLt _ | trivial | (dsimp only; omega))) (lt_dec rfl) ?_
 refine Ops_x rfl (x_alloc rfl (lt_dec rfl) fun b7_1 => ?_)
 refine Ops_x rfl (x_store rfl rfl rfl rfl rfl HpRep.head rfl (by first | trivial | (first | (first | omega | (dsimp only; omega)) | exact Fin.isLt _)) ?_)
 refine Ops_nil ?_
 refine W_seq ?_
 refine W_seq ?_
 refine W_region ?_
 refine o_mv rfl rfl ?_
 refine o_mv rfl rfl ?_
 refine Ops_nil ?_
 refine W_block ?_
 refine W_loop (α := Nat) (fun i => ⟨[(0, .arr8 10 p), (1, .arr8 10 q), (2, .int .i64 n), (3, .ptr b3_1 0 none), (4, .ptr b4_1 0 none), (6, .ptr b6_1 0 none), (7, .ptr b7_1 0 none), (10, .int .i64 n), (11, .int .i64 (i : Int))], [.var b7_1 (.arr8 10 (fun j => if j < i then q (p j).val else 0)), .var b6_1 (.arr8 10 fun _ => 0), .var b4_1 (.arr8 10 q), .var b3_1 (.arr8 10 p)]⟩) (fun i => i ≤ n.toNat) (fun i => n.toNat - i) 0 ?_ ?_ ?_
 ·show _ ≤ _; omega
 ·exact Wk.intro (.c rfl (.c rfl (.c rfl (.c rfl (.c rfl (.c rfl (.c rfl (.c rfl (.cons rfl (by first | rfl | exact veq_int (by first | omega | (dsimp only; omega))) .nil))))))))) (.keep rfl rfl (imp_var (by first | rfl | (refine ceq_arr8 fun j hj => ?_; (try dsimp only); first | (simp; done) | ((repeat' split) <;> first | rfl | (exfalso; omega) | (congr 1; omega) | (simp_all; done) | omega))) rfl) (.keep rfl rfl (fun _ h => h) (.keep rfl rfl (fun _ h => h) (.keep rfl rfl (fun _ h => h) .nil))))
 ·rintro i hR
  refine W_seq ?_
  refine W_region ?_
  refine Ops_p (p_lss rfl rfl) (lt_dec rfl) ?_
  refine Ops_nil ?_
  refine W_seq ?_
  refine W_cond rfl (fun h1 => ?_) (fun h1 => ?_)
  ·try simp only [bs] at h1
   have hpi := perm_lt hP h1
   refine W_skip ?_
   refine W_seq ?_
   refine W_block ?_
   refine W_seq ?_
   refine W_region ?_
   refine o_mv rfl rfl ?_
   refine o_as rfl rfl ?_
   refine Ops_nil ?_
   refine W_region ?_
   refine o_mv rfl rfl ?_
   refine o_mv rfl rfl ?_
   first | refine Ops_p (p_ix1 _ rfl rfl rfl rfl rfl rfl (by first | omega | exact Fin.isLt _ | (dsimp only; omega))) (lt_dec rfl) ?_ | refine Ops_p (p_ix1s _ rfl rfl rfl rfl rfl rfl (by first | omega | exact Fin.isLt _ | (dsimp only; omega))) (lt_dec rfl) ?_
   refine Ops_q (q_load rfl rfl m3 rfl (by first | exact True.intro | omega | exact Fin.isLt _ | trivial | (dsimp only; omega))) (lt_dec rfl) ?_
   first | refine Ops_p (p_ix1 _ rfl rfl rfl rfl rfl rfl (by first | omega | exact Fin.isLt _ | (dsimp only; omega))) (lt_dec rfl) ?_ | refine Ops_p (p_ix1s _ rfl rfl rfl rfl rfl rfl (by first | omega | exact Fin.isLt _ | (dsimp only; omega))) (lt_dec rfl) ?_
   refine Ops_q (q_load rfl rfl m2 rfl (by first | exact True.intro | omega | exact Fin.isLt _ | trivial | (dsimp only; omega))) (lt_dec rfl) ?_
   first | refine Ops_p (p_ix1 _ rfl rfl rfl rfl rfl rfl (by first | omega | exact Fin.isLt _ | (dsimp only; omega))) (lt_dec rfl) ?_ | refine Ops_p (p_ix1s _ rfl rfl rfl rfl rfl rfl (by first | omega | exact Fin.isLt _ | (dsimp only; omega))) (lt_dec rfl) ?_
   refine Ops_x rfl (x_store rfl rfl rfl rfl rfl HpRep.head rfl (by first | trivial | (first | (first | omega | (dsimp only; omega)) | exact Fin.isLt _)) ?_)
   refine Ops_nil ?_
   refine W_region ?_
   refine Ops_p (p_add rfl rfl (by refine ⟨?_, ?_⟩ <;> first | omega | (dsimp only; omega))) (lt_dec rfl) ?_
   refine o_mv rfl rfl ?_
   refine Ops_nil ?_
   refine Exists.intro (i + 1) (And.intro ?_ (And.intro ?_ ?_))
   ·show _ ≤ _; omega
   ·show _ < _; omega
   ·exact Wk.intro (.c rfl (.c rfl (.c rfl (.c rfl (.c rfl (.c rfl (.c rfl (.c rfl (.cons rfl (by first | rfl | exact veq_int (by first | omega | (dsimp only; omega))) .nil))))))))) (.keep rfl rfl (imp_var (by first | rfl | (refine ceq_arr8 fun j hj => ?_; (try dsimp only); first | (simp; done) | ((repeat' split) <;> first | rfl | (exfalso; omega) | (congr 1; omega) | (simp_all; done) | omega))) rfl) (.keep rfl rfl (fun _ h => h) (.keep rfl rfl (fun _ h => h) (.keep rfl rfl (fun _ h => h) .nil))))
  ·try simp only [bs] at h1
   refine W_exit ?_
   refine W_seq ?_
   refine W_region ?_
   refine Ops_q (q_load rfl rfl m0 rfl (by first | exact True.intro | omega | exact Fin.isLt _ | trivial | (dsimp only; omega))) (lt_dec rfl) ?_
   refine Ops_x rfl (x_store rfl rfl rfl rfl rfl ((HpRep.head).tail) rfl (by first | trivial | (first | (first | omega | (dsimp only; omega)) | exact Fin.isLt _)) ?_)
   refine Ops_nil ?_
   refine W_ret ?_
   refine Exists.intro _ (And.intro (.cons (.cell rfl rfl m1 rfl trivial) .nil) ?_)
   first | rfl | (refine veq_bool ?_; simp_all; done) | (refine veq_bool ?_; simp; omega) | (refine veq_bool ?_; rw [eq_comm, decide_eq_false_iff_not]; omega) | (refine veq_bool ?_; rw [eq_comm, decide_eq_true_iff]; omega) | (refine veq_int ?_; omega) | (refine veq_arr8 fun j hj => ?_; (try dsimp only); first | (simp; done) | (simp; omega) | ((repeat' split) <;> first | rfl | (exfalso; omega) | (congr 1; omega) | (simp_all; done))) | (obtain rfl : i = n.toNat := (by omega); rfl)
end Go.Proofs.Ytjihhcjpbcmjaaa
end
section
namespace Go.Proofs.Ytjihhcjpbcmjaaa
open Go Gx
set_option linter.unusedVariables false
theorem en_pimpl_group_add : Enters Try.prog 55 := enters_of Try.func55 (by kernel_rfl) (by kernel_rfl)
set_option maxRecDepth 100000 in
set_option maxHeartbeats 2000000 in
theorem w_pimpl_group_add {n bg k : Nat} {p : Nat → Fin 256} {g g1 : Gr} {y : Nat → V1} {lk : Nat → (Nat → Fin 256) → Gr → Option Gr} (hk : k < n) (hp : IsPerm p (n : Int)) (hG : GOk n g) (hE : addS lk n k p g = some g1) (hkp : Keeps n lk) (hen : Enters Try.prog 70) (hlk : ∀ (k : Nat) (p : Nat → Fin 256) (g g1 : Gr) (y : Nat → V1), k < n → IsPerm p (n : Int) → GOk n g → lk k p g = some g1 → CT (X := Nat → V1) Try.prog 70 (vals [.ptr bg 0 none, .int .i64 (k : Int), .arr8 10 p]) [.var bg (.agg [.int .i64 (n : Int), .varr 10 (gvF y) (gvH y), .arr8 1000 (Gr.ld g), .barr 100 (Gr.hs g)]), poolG 33 y (Gr.md g)] [] (fun _ => True) (fun _ => .tup []) (fun x => [.var bg (.agg [.int .i64 (n : Int), .varr 10 (gvF x) (gvH x), .arr8 1000 (Gr.ld g1), .barr 100 (Gr.hs g1)]), poolG 33 x (Gr.md g1)])) : CT (X := Nat → V1) Try.prog 55 (vals [.ptr bg 0 none, .int .i64 (k : Int), .arr8 10 p]) [.var bg (.agg [.int .i64 (n : Int), .varr 10 (gvF y) (gvH y), .arr8 1000 (Gr.ld g), .barr 100 (Gr.hs g)]), poolG 33 y (Gr.md g)] [] (fun x => True) (fun x => .tup []) (fun x => [.var bg (.agg [.int .i64 (n : Int), .varr 10 (gvF x) (gvH x), .arr8 1000 (Gr.ld g1), .barr 100 (Gr.hs g1)]), poolG 33 x (Gr.md g1)]) := by
 refine CT_intro (rs := []) tt tok Try.func55 rfl rfl rfl (by first | rfl | assumption) fun w => ?_
 show W _ _ _ ⟨tmOf 0 [.ptr bg 0 none, .int .i64 (k : Int), .arr8 10 p], [.var bg (.agg [.int .i64 (n : Int), .varr 10 (gvF y) (gvH y), .arr8 1000 (Gr.ld g), .barr 100 (Gr.hs g)]), poolG 33 y (Gr.md g)]⟩
 have hn := hp.2.1
 obtain ⟨hln, hE1⟩ := addS_e hE
 refine W_seq ?_
 refine W_region ?_
 refine Ops_x rfl (x_box rfl rfl (lt_dec rfl) fun b5_1 => ?_)
 refine Ops_nil ?_
 refine W_seq ?_
 refine W_poolOut (k := k) (by omega) (HpDels.cons ((HpDel.head).tail).tail HpDels.nil) ?_
 refine W_draw (by kernel_rfl) ?_
 show RA _ _ 15 _ _ _
 refine RA_take 0 rfl rfl rfl (by kernel_rfl) (by kernel_rfl) (by kernel_rfl) (p_move rfl) (lt_dec rfl) ?_
 refine RA_take 1 rfl rfl rfl (by kernel_rfl) (by kernel_rfl) (by kernel_rfl) (p_move rfl) (lt_dec rfl) ?_
 refine RA_take 2 rfl rfl rfl (by kernel_rfl) (by kernel_rfl) (by kernel_rfl) (p_move rfl) (lt_dec rfl) ?_
 refine RA_take 3 rfl rfl rfl (by kernel_rfl) (by kernel_rfl) (by kernel_rfl) (p_move rfl) (lt_dec rfl) ?_
 refine RA_take 4 rfl rfl rfl (by kernel_rfl) (by kernel_rfl) (by kernel_rfl) (p_nilCheck rfl) (lt_dec rfl) ?_
 refine RA_take 11 rfl rfl rfl (by kernel_rfl) (by kernel_rfl) (by kernel_rfl) (p_nilCheck rfl) (lt_dec rfl) ?_
 refine RA_take 5 rfl rfl rfl (by kernel_rfl) (by kernel_rfl) (by kernel_rfl) (p_fieldAddr rfl rfl rfl rfl rfl rfl) (lt_dec rfl) ?_
 refine RA_take 12 rfl rfl rfl (by kernel_rfl) (by kernel_rfl) (by kernel_rfl) (p_fieldAddr rfl rfl rfl rfl rfl rfl) (lt_dec rfl) ?_
 first | refine RA_take 6 rfl rfl rfl (by kernel_rfl) (by kernel_rfl) (by kernel_rfl) (p_ix1 k rfl rfl rfl rfl rfl rfl (by first | omega | exact Fin.isLt _ | (dsimp only; omega))) (lt_dec rfl) ?_ | refine RA_take 6 rfl rfl rfl (by kernel_rfl) (by kernel_rfl) (by kernel_rfl) (p_ix1s k rfl rfl rfl rfl rfl rfl (by first | omega | exact Fin.isLt _ | (dsimp only; omega))) (lt_dec rfl) ?_
 refine RA_two 7 8 rfl rfl rfl rfl (by kernel_rfl) ?_ ?_
 ·refine Xt_of_Qt rfl (lt_dec rfl) ((q_load rfl rfl m3 rfl (by first | exact True.intro | omega | exact Fin.isLt _ | trivial | (dsimp only; omega)))) ?_
  refine RA_quiet (g := 4) [8] (by kernel_rfl) (by kernel_rfl) (by kernel_rfl) (by kernel_rfl) ?_
  refine WQ_cons rfl rfl rfl ((q_load rfl rfl m2 rfl (by first | exact True.intro | omega | exact Fin.isLt _ | trivial | (dsimp only; omega)))) (lt_dec rfl) ?_
  refine WQ_nil ?_
  refine RA_one 9 rfl rfl (by kernel_rfl) (x_buildSlice rfl rfl rfl rfl rfl rfl rfl rfl (Nat.le_of_ble_eq_true rfl) (lt_dec rfl) fun b16_1 => ?_)
  refine RA_one 10 rfl rfl (by kernel_rfl) (x_appendO (r := .arrs 10 (Gr.md g k)) (r2 := .arrs 10 [p]) (q := .arrs 10 ((Gr.md g k) ++ [p])) rfl rfl rfl rfl rfl rfl (Rds.row m0 rfl) rfl (by show 0 < 1; omega) rfl (HpDels.cons (HpDel.head).tail HpDels.nil) (fun _ => (HpDels.cons (HpDel.head).tail HpDels.nil)) (by show (List.length _ + List.length _) * 10 ≤ _; simp only [List.length_cons, List.length_nil]; omega) (by show List.length _ + List.length _ ≤ _; simp only [List.length_cons, List.length_nil]; omega) (lt_dec rfl) fun v17 => ?_)
  refine RA_quiet (g := 1) [13] (by kernel_rfl) (by kernel_rfl) (by kernel_rfl) (by kernel_rfl) ?_
  first | refine WQ_cons rfl rfl rfl ((p_ix1 k rfl rfl rfl rfl rfl rfl (by first | omega | exact Fin.isLt _ | (dsimp only; omega))).q) (lt_dec rfl) ?_ | refine WQ_cons rfl rfl rfl ((p_ix1s k rfl rfl rfl rfl rfl rfl (by first | omega | exact Fin.isLt _ | (dsimp only; omega))).q) (lt_dec rfl) ?_
  refine WQ_nil ?_
  refine RA_one 14 rfl rfl (by kernel_rfl) (x_store rfl rfl rfl rfl rfl (((((HpRep.head).tail).tail).tail).tail) rfl (by first | trivial | (first | (first | omega | (dsimp only; omega)) | exact Fin.isLt _)) ?_)
  refine RA_done (by kernel_rfl) ?_
  refine W_seq ?_
  refine W_poolIn (k := k) v17 (Gr.md g k ++ [p]) (by omega) (HpDels.cons (HpDel.head).tail (HpDels.cons (HpDel.head).tail HpDels.nil)) ?_
  refine W_region ?_
  refine o_mv rfl rfl ?_
  refine Ops_p (p_nilCheck rfl) (lt_dec rfl) ?_
  refine Ops_p (p_fieldAddr rfl rfl rfl rfl rfl rfl) (lt_dec rfl) ?_
  refine Ops_q (q_load rfl rfl m3 rfl (by first | exact True.intro | omega | exact Fin.isLt _ | trivial | (dsimp only; omega))) (lt_dec rfl) ?_
  refine o_mv rfl rfl ?_
  refine Ops_nil ?_
  refine W_block ?_
  refine W_loop (α := Nat × Gr × (Nat → V1)) (fun zz0 => ⟨[(0, .ptr bg 0 none), (1, .int .i64 (k : Int)), (2, .arr8 10 p), (5, .ptr b5_1 0 none), (24, .int .i64 (n : Int)), (25, .int .i64 ((zz0.1) : Int))], [poolG 33 (zz0.2.2) (Gr.md (zz0.2.1)), .row b16_1 1 33 (.arrs 10 [p]), .var b5_1 (.arr8 10 p), .var bg (.agg [.int .i64 (n : Int), .varr 10 (gvF (zz0.2.2)) (gvH (zz0.2.2)), .arr8 1000 (Gr.ld (zz0.2.1)), .barr 100 (Gr.hs (zz0.2.1))])]⟩) (fun zz0 => (zz0.1) ≤ n ∧ GOk n (zz0.2.1) ∧ addL lk n k p (n - (zz0.1)) (zz0.2.1) = some g1) (fun zz0 => n - (zz0.1)) (0, Gr.push g k p, (fun j => if j = k then v17 else y j)) ?_ ?_ ?_
  ·exact ⟨Nat.zero_le _, hG.push hp hln, hE1⟩
  ·exact Wk.intro (.c rfl (.c rfl (.c rfl (.c rfl (.c rfl (.cons rfl (by first | rfl | exact veq_int (by first | omega | (dsimp only; omega))) .nil)))))) (.keep rfl rfl (fun _ h => h) (.keep rfl rfl (fun _ h => h) (.keep rfl rfl (fun _ h => h) (.keep rfl rfl (imp_var (ceq_gs fun _ _ => rfl) rfl) .nil))))
  ·rintro ⟨j, g2, y2⟩ ⟨hj, hG2, hE2⟩
   try dsimp only at *
   refine W_seq ?_
   refine W_region ?_
   refine Ops_p (p_lss rfl rfl) (lt_dec rfl) ?_
   refine Ops_nil ?_
   refine W_seq ?_
   refine W_cond rfl (fun h1 => ?_) (fun h1 => ?_)
   ·try simp only [bs] at h1
    refine W_skip ?_
    refine W_seq ?_
    refine W_block ?_
    refine W_seq ?_
    refine W_region ?_
    refine o_mv rfl rfl ?_
    refine o_as rfl rfl ?_
    refine Ops_nil ?_
    refine W_seq ?_
    refine W_region ?_
    refine o_mv rfl rfl ?_
    refine o_mv rfl rfl ?_
    refine o_mv rfl rfl ?_
    refine Ops_p (p_nilCheck rfl) (lt_dec rfl) ?_
    refine Ops_p (p_fieldAddr rfl rfl rfl rfl rfl rfl) (lt_dec rfl) ?_
    refine Ops_p (p_ixN 10 k rfl rfl rfl rfl rfl rfl (by first | omega | exact Fin.isLt _ | (dsimp only; omega))) (lt_dec rfl) ?_
    first | refine Ops_p (p_ix1 j rfl rfl rfl rfl rfl rfl (by first | omega | exact Fin.isLt _ | (dsimp only; omega))) (lt_dec rfl) ?_ | refine Ops_p (p_ix1s j rfl rfl rfl rfl rfl rfl (by first | omega | exact Fin.isLt _ | (dsimp only; omega))) (lt_dec rfl) ?_
    refine Ops_q (q_load rfl rfl m3 rfl (by first | exact True.intro | omega | exact Fin.isLt _ | trivial | (dsimp only; omega))) (lt_dec rfl) ?_
    refine Ops_nil ?_
    refine W_cond rfl (fun h2 => ?_) (fun h2 => ?_)
    ·try simp only [bs] at h2
     have hh : g2.hs (10 * k + j) = true := h2; obtain ⟨g3, hg3, hrest⟩ := addL_t hE2 (by omega) hh
     refine W_draw (by kernel_rfl) ?_
     show RA _ _ 17 _ _ _
     refine RA_quiet (g := 1) [0, 1, 2, 3, 4, 5, 6, 7, 8, 9, 10, 11, 12, 13, 14, 15] (by kernel_rfl) (by kernel_rfl) (by kernel_rfl) (by kernel_rfl) ?_
     refine WQ_cons rfl rfl rfl ((p_move rfl).q) (lt_dec rfl) ?_
     refine WQ_cons rfl rfl rfl ((p_move rfl).q) (lt_dec rfl) ?_
     refine WQ_cons rfl rfl rfl ((p_move rfl).q) (lt_dec rfl) ?_
     refine WQ_cons rfl rfl rfl ((p_move rfl).q) (lt_dec rfl) ?_
     refine WQ_cons rfl rfl rfl ((p_move rfl).q) (lt_dec rfl) ?_
     refine WQ_cons rfl rfl rfl ((p_nilCheck rfl).q) (lt_dec rfl) ?_
     refine WQ_cons rfl rfl rfl ((p_fieldAddr rfl rfl rfl rfl rfl rfl).q) (lt_dec rfl) ?_
     refine WQ_cons rfl rfl rfl ((p_ixN 100 k rfl rfl rfl rfl rfl rfl (by first | omega | exact Fin.isLt _ | (dsimp only; omega))).q) (lt_dec rfl) ?_
     refine WQ_cons rfl rfl rfl ((p_ixNs 10 j rfl rfl rfl rfl rfl rfl (by first | omega | exact Fin.isLt _ | (dsimp only; omega))).q) (lt_dec rfl) ?_
     refine WQ_cons rfl rfl rfl ((q_load rfl rfl m3 rfl (by first | exact True.intro | omega | exact Fin.isLt _ | trivial | (dsimp only; omega)))) (lt_dec rfl) ?_
     refine WQ_cons rfl rfl rfl ((q_load rfl rfl m2 rfl (by first | exact True.intro | omega | exact Fin.isLt _ | trivial | (dsimp only; omega)))) (lt_dec rfl) ?_
     refine WQ_cons rfl rfl rfl ((p_move rfl).q) (lt_dec rfl) ?_
     refine WQ_cons rfl rfl rfl ((p_nilCheck rfl).q) (lt_dec rfl) ?_
     refine WQ_cons rfl rfl rfl ((p_fieldAddr rfl rfl rfl rfl rfl rfl).q) (lt_dec rfl) ?_
     refine WQ_cons rfl rfl rfl ((q_load rfl rfl m3 rfl (by first | exact True.intro | omega | exact Fin.isLt _ | trivial | (dsimp only; omega)))) (lt_dec rfl) ?_
     refine WQ_cons rfl rfl rfl ((q_call en_impl_then rfl (w_impl_then (hG2.ld k j (by omega) (by omega) hh)) (View.none _))) (lt_dec rfl) ?_
     refine WQ_nil ?_
     refine RA_one 16 rfl rfl (by kernel_rfl) (x_callT hen rfl ((hlk k (thenT (lrP (Gr.ld g2) k j) p n) g2 g3 y2 hk (thenT_perm (hG2.ld k j (by omega) (by omega) hh) hp) hG2 hg3)) (HpDels.cons (((HpDel.head).tail).tail).tail (HpDels.cons HpDel.head HpDels.nil)) (Vw.none _) (fun _ => (HpDels.cons (((HpDel.head).tail).tail).tail (HpDels.cons HpDel.head HpDels.nil))) (lt_dec rfl) fun x52_1 _ => ?_)
     refine RA_done (by kernel_rfl) ?_
     refine W_region ?_
     refine Ops_p (p_add rfl rfl (by refine ⟨?_, ?_⟩ <;> first | omega | (dsimp only; omega))) (lt_dec rfl) ?_
     refine o_mv rfl rfl ?_
     refine Ops_nil ?_
     refine Exists.intro (j + 1, g3, x52_1) (And.intro ?_ (And.intro ?_ ?_))
     ·first | exact ⟨by show _ ≤ _; omega, (hkp k _ g2 g3 hk (thenT_perm (hG2.ld k j (by omega) (by omega) hh) hp) hG2 hg3).1, hrest⟩ | exact ⟨by show _ ≤ _; omega, hG2, hrest⟩
     ·show _ < _; omega
     ·exact Wk.intro (.c rfl (.c rfl (.c rfl (.c rfl (.c rfl (.cons rfl (by first | rfl | exact veq_int (by first | omega | (dsimp only; omega))) .nil)))))) (.keep rfl rfl (fun _ h => h) (.keep rfl rfl (fun _ h => h) (.keep rfl rfl (fun _ h => h) (.keep rfl rfl (fun _ h => h) .nil))))
    ·try simp only [bs] at h2
     have hrest := addL_f hE2 (by omega) h2
     refine W_skip ?_
     refine W_region ?_
     refine Ops_p (p_add rfl rfl (by refine ⟨?_, ?_⟩ <;> first | omega | (dsimp only; omega))) (lt_dec rfl) ?_
     refine o_mv rfl rfl ?_
     refine Ops_nil ?_
     refine Exists.intro (j + 1, g2, y2) (And.intro ?_ (And.intro ?_ ?_))
     ·first | exact ⟨by show _ ≤ _; omega, (hkp k _ g2 g3 hk (thenT_perm (hG2.ld k j (by omega) (by omega) hh) hp) hG2 hg3).1, hrest⟩ | exact ⟨by show _ ≤ _; omega, hG2, hrest⟩
     ·show _ < _; omega
     ·exact Wk.intro (.c rfl (.c rfl (.c rfl (.c rfl (.c rfl (.cons rfl (by first | rfl | exact veq_int (by first | omega | (dsimp only; omega))) .nil)))))) (.keep rfl rfl (fun _ h => h) (.keep rfl rfl (fun _ h => h) (.keep rfl rfl (fun _ h => h) (.keep rfl rfl (fun _ h => h) .nil))))
   ·try simp only [bs] at h1
    obtain rfl : j = n := (by omega)
    have hfin := addL_e hE2
    refine W_exit ?_
    refine Exists.intro _ (And.intro (.nil) (Exists.intro y2 (And.intro ?_ (And.intro ?_ (And.intro (.cons (((HpDel.head).tail).tail).tail rfl (by rw [← hfin]; exact fun _ h => h) (.cons HpDel.head (by rw [← hfin]) (by rw [← hfin]; exact fun _ h => h) .nil)) rfl)))))
    ·trivial
    ·rfl
 ·refine Xt_of_Qt rfl (lt_dec rfl) ((q_load rfl rfl m2 rfl (by first | exact True.intro | omega | exact Fin.isLt _ | trivial | (dsimp only; omega)))) ?_
  refine RA_two 7 9 rfl rfl rfl rfl (by kernel_rfl) ?_ ?_
  ·refine Xt_of_Qt rfl (lt_dec rfl) ((q_load rfl rfl m3 rfl (by first | exact True.intro | omega | exact Fin.isLt _ | trivial | (dsimp only; omega)))) ?_
   refine RA_one 9 rfl rfl (by kernel_rfl) (x_buildSlice rfl rfl rfl rfl rfl rfl rfl rfl (Nat.le_of_ble_eq_true rfl) (lt_dec rfl) fun b16_2 => ?_)
   refine RA_one 10 rfl rfl (by kernel_rfl) (x_appendO (r := .arrs 10 (Gr.md g k)) (r2 := .arrs 10 [p]) (q := .arrs 10 ((Gr.md g k) ++ [p])) rfl rfl rfl rfl rfl rfl (Rds.row m0 rfl) rfl (by show 0 < 1; omega) rfl (HpDels.cons (HpDel.head).tail HpDels.nil) (fun _ => (HpDels.cons (HpDel.head).tail HpDels.nil)) (by show (List.length _ + List.length _) * 10 ≤ _; simp only [List.length_cons, List.length_nil]; omega) (by show List.length _ + List.length _ ≤ _; simp only [List.length_cons, List.length_nil]; omega) (lt_dec rfl) fun v17 => ?_)
   refine RA_quiet (g := 1) [13] (by kernel_rfl) (by kernel_rfl) (by kernel_rfl) (by kernel_rfl) ?_
   first | refine WQ_cons rfl rfl rfl ((p_ix1 k rfl rfl rfl rfl rfl rfl (by first | omega | exact Fin.isLt _ | (dsimp only; omega))).q) (lt_dec rfl) ?_ | refine WQ_cons rfl rfl rfl ((p_ix1s k rfl rfl rfl rfl rfl rfl (by first | omega | exact Fin.isLt _ | (dsimp only; omega))).q) (lt_dec rfl) ?_
   refine WQ_nil ?_
   refine RA_one 14 rfl rfl (by kernel_rfl) (x_store rfl rfl rfl rfl rfl (((((HpRep.head).tail).tail).tail).tail) rfl (by first | trivial | (first | (first | omega | (dsimp only; omega)) | exact Fin.isLt _)) ?_)
   refine RA_done (by kernel_rfl) ?_
   refine W_seq ?_
   refine W_poolIn (k := k) v17 (Gr.md g k ++ [p]) (by omega) (HpDels.cons (HpDel.head).tail (HpDels.cons (HpDel.head).tail HpDels.nil)) ?_
   refine W_region ?_
   refine o_mv rfl rfl ?_
   refine Ops_p (p_nilCheck rfl) (lt_dec rfl) ?_
   refine Ops_p (p_fieldAddr rfl rfl rfl rfl rfl rfl) (lt_dec rfl) ?_
   refine Ops_q (q_load rfl rfl m3 rfl (by first | exact True.intro | omega | exact Fin.isLt _ | trivial | (dsimp only; omega))) (lt_dec rfl) ?_
   refine o_mv rfl rfl ?_
   refine Ops_nil ?_
   refine W_block ?_
   refine W_loop (α := Nat × Gr × (Nat → V1)) (fun zz1 => ⟨[(0, .ptr bg 0 none), (1, .int .i64 (k : Int)), (2, .arr8 10 p), (5, .ptr b5_1 0 none), (24, .int .i64 (n : Int)), (25, .int .i64 ((zz1.1) : Int))], [poolG 33 (zz1.2.2) (Gr.md (zz1.2.1)), .row b16_2 1 33 (.arrs 10 [p]), .var b5_1 (.arr8 10 p), .var bg (.agg [.int .i64 (n : Int), .varr 10 (gvF (zz1.2.2)) (gvH (zz1.2.2)), .arr8 1000 (Gr.ld (zz1.2.1)), .barr 100 (Gr.hs (zz1.2.1))])]⟩) (fun zz1 => (zz1.1) ≤ n ∧ GOk n (zz1.2.1) ∧ addL lk n k p (n - (zz1.1)) (zz1.2.1) = some g1) (fun zz1 => n - (zz1.1)) (0, Gr.push g k p, (fun j => if j = k then v17 else y j)) ?_ ?_ ?_
   ·exact ⟨Nat.zero_le _, hG.push hp hln, hE1⟩
   ·exact Wk.intro (.c rfl (.c rfl (.c rfl (.c rfl (.c rfl (.cons rfl (by first | rfl | exact veq_int (by first | omega | (dsimp only; omega))) .nil)))))) (.keep rfl rfl (fun _ h => h) (.keep rfl rfl (fun _ h => h) (.keep rfl rfl (fun _ h => h) (.keep rfl rfl (imp_var (ceq_gs fun _ _ => rfl) rfl) .nil))))
   ·rintro ⟨j, g2, y2⟩ ⟨hj, hG2, hE2⟩
    try dsimp only at *
    refine W_seq ?_
    refine W_region ?_
    refine Ops_p (p_lss rfl rfl) (lt_dec rfl) ?_
    refine Ops_nil ?_
    refine W_seq ?_
    refine W_cond rfl (fun h3 => ?_) (fun h3 => ?_)
    ·try simp only [bs] at h3
     refine W_skip ?_
     refine W_seq ?_
     refine W_block ?_
     refine W_seq ?_
     refine W_region ?_
     refine o_mv rfl rfl ?_
     refine o_as rfl rfl ?_
     refine Ops_nil ?_
     refine W_seq ?_
     refine W_region ?_
     refine o_mv rfl rfl ?_
     refine o_mv rfl rfl ?_
     refine o_mv rfl rfl ?_
     refine Ops_p (p_nilCheck rfl) (lt_dec rfl) ?_
     refine Ops_p (p_fieldAddr rfl rfl rfl rfl rfl rfl) (lt_dec rfl) ?_
     refine Ops_p (p_ixN 10 k rfl rfl rfl rfl rfl rfl (by first | omega | exact Fin.isLt _ | (dsimp only; omega))) (lt_dec rfl) ?_
     first | refine Ops_p (p_ix1 j rfl rfl rfl rfl rfl rfl (by first | omega | exact Fin.isLt _ | (dsimp only; omega))) (lt_dec rfl) ?_ | refine Ops_p (p_ix1s j rfl rfl rfl rfl rfl rfl (by first | omega | exact Fin.isLt _ | (dsimp only; omega))) (lt_dec rfl) ?_
     refine Ops_q (q_load rfl rfl m3 rfl (by first | exact True.intro | omega | exact Fin.isLt _ | trivial | (dsimp only; omega))) (lt_dec rfl) ?_
     refine Ops_nil ?_
     refine W_cond rfl (fun h4 => ?_) (fun h4 => ?_)
     ·try simp only [bs] at h4
      have hh : g2.hs (10 * k + j) = true := h4; obtain ⟨g3, hg3, hrest⟩ := addL_t hE2 (by omega) hh
      refine W_draw (by kernel_rfl) ?_
      show RA _ _ 17 _ _ _
      refine RA_quiet (g := 1) [0, 1, 2, 3, 4, 5, 6, 7, 8, 9, 10, 11, 12, 13, 14, 15] (by kernel_rfl) (by kernel_rfl) (by kernel_rfl) (by kernel_rfl) ?_
      refine WQ_cons rfl rfl rfl ((p_move rfl).q) (lt_dec rfl) ?_
      refine WQ_cons rfl rfl rfl ((p_move rfl).q) (lt_dec rfl) ?_
      refine WQ_cons rfl rfl rfl ((p_move rfl).q) (lt_dec rfl) ?_
      refine WQ_cons rfl rfl rfl ((p_move rfl).q) (lt_dec rfl) ?_
      refine WQ_cons rfl rfl rfl ((p_move rfl).q) (lt_dec rfl) ?_
      refine WQ_cons rfl rfl rfl ((p_nilCheck rfl).q) (lt_dec rfl) ?_
      refine WQ_cons rfl rfl rfl ((p_fieldAddr rfl rfl rfl rfl rfl rfl).q) (lt_dec rfl) ?_
      refine WQ_cons rfl rfl rfl ((p_ixN 100 k rfl rfl rfl rfl rfl rfl (by first | omega | exact Fin.isLt _ | (dsimp only; omega))).q) (lt_dec rfl) ?_
      refine WQ_cons rfl rfl rfl ((p_ixNs 10 j rfl rfl rfl rfl rfl rfl (by first | omega | exact Fin.isLt _ | (dsimp only; omega))).q) (lt_dec rfl) ?_
      refine WQ_cons rfl rfl rfl ((q_load rfl rfl m3 rfl (by first | exact True.intro | omega | exact Fin.isLt _ | trivial | (dsimp only; omega)))) (lt_dec rfl) ?_
      refine WQ_cons rfl rfl rfl ((q_load rfl rfl m2 rfl (by first | exact True.intro | omega | exact Fin.isLt _ | trivial | (dsimp only; omega)))) (lt_dec rfl) ?_
      refine WQ_cons rfl rfl rfl ((p_move rfl).q) (lt_dec rfl) ?_
      refine WQ_cons rfl rfl rfl ((p_nilCheck rfl).q) (lt_dec rfl) ?_
      refine WQ_cons rfl rfl rfl ((p_fieldAddr rfl rfl rfl rfl rfl rfl).q) (lt_dec rfl) ?_
      refine WQ_cons rfl rfl rfl ((q_load rfl rfl m3 rfl (by first | exact True.intro | omega | exact Fin.isLt _ | trivial | (dsimp only; omega)))) (lt_dec rfl) ?_
      refine WQ_cons rfl rfl rfl ((q_call en_impl_then rfl (w_impl_then (hG2.ld k j (by omega) (by omega) hh)) (View.none _))) (lt_dec rfl) ?_
      refine WQ_nil ?_
      refine RA_one 16 rfl rfl (by kernel_rfl) (x_callT hen rfl ((hlk k (thenT (lrP (Gr.ld g2) k j) p n) g2 g3 y2 hk (thenT_perm (hG2.ld k j (by omega) (by omega) hh) hp) hG2 hg3)) (HpDels.cons (((HpDel.head).tail).tail).tail (HpDels.cons HpDel.head HpDels.nil)) (Vw.none _) (fun _ => (HpDels.cons (((HpDel.head).tail).tail).tail (HpDels.cons HpDel.head HpDels.nil))) (lt_dec rfl) fun x52_2 _ => ?_)
      refine RA_done (by kernel_rfl) ?_
      refine W_region ?_
      refine Ops_p (p_add rfl rfl (by refine ⟨?_, ?_⟩ <;> first | omega | (dsimp only; omega))) (lt_dec rfl) ?_
      refine o_mv rfl rfl ?_
      refine Ops_nil ?_
      refine Exists.intro (j + 1, g3, x52_2) (And.intro ?_ (And.intro ?_ ?_))
      ·first | exact ⟨by show _ ≤ _; omega, (hkp k _ g2 g3 hk (thenT_perm (hG2.ld k j (by omega) (by omega) hh) hp) hG2 hg3).1, hrest⟩ | exact ⟨by show _ ≤ _; omega, hG2, hrest⟩
      ·show _ < _; omega
      ·exact Wk.intro (.c rfl (.c rfl (.c rfl (.c rfl (.c rfl (.cons rfl (by first | rfl | exact veq_int (by first | omega | (dsimp only; omega))) .nil)))))) (.keep rfl rfl (fun _ h => h) (.keep rfl rfl (fun _ h => h) (.keep rfl rfl (fun _ h => h) (.keep rfl rfl (fun _ h => h) .nil))))
     ·try simp only [bs] at h4
      have hrest := addL_f hE2 (by omega) h4
      refine W_skip ?_
      refine W_region ?_
      refine Ops_p (p_add rfl rfl (by refine ⟨?_, ?_⟩ <;> first | omega | (dsimp only; omega))) (lt_dec rfl) ?_
      refine o_mv rfl rfl ?_
      refine Ops_nil ?_
      refine Exists.intro (j + 1, g2, y2) (And.intro ?_ (And.intro ?_ ?_))
      ·first | exact ⟨by show _ ≤ _; omega, (hkp k _ g2 g3 hk (thenT_perm (hG2.ld k j (by omega) (by omega) hh) hp) hG2 hg3).1, hrest⟩ | exact ⟨by show _ ≤ _; omega, hG2, hrest⟩
      ·show _ < _; omega
      ·exact Wk.intro (.c rfl (.c rfl (.c rfl (.c rfl (.c rfl (.cons rfl (by first | rfl | exact veq_int (by first | omega | (dsimp only; omega))) .nil)))))) (.keep rfl rfl (fun _ h => h) (.keep rfl rfl (fun _ h => h) (.keep rfl rfl (fun _ h => h) (.keep rfl rfl (fun _ h => h) .nil))))
    ·try simp only [bs] at h3
     obtain rfl : j = n := (by omega)
     have hfin := addL_e hE2
     refine W_exit ?_
     refine Exists.intro _ (And.intro (.nil) (Exists.intro y2 (And.intro ?_ (And.intro ?_ (And.intro (.cons (((HpDel.head).tail).tail).tail rfl (by rw [← hfin]; exact fun _ h => h) (.cons HpDel.head (by rw [← hfin]) (by rw [← hfin]; exact fun _ h => h) .nil)) rfl)))))
     ·trivial
     ·rfl
  ·refine x_buildSlice rfl rfl rfl rfl rfl rfl rfl rfl (Nat.le_of_ble_eq_true rfl) (lt_dec rfl) fun b16_3 => ?_
   refine RA_quiet (g := 3) [7] (by kernel_rfl) (by kernel_rfl) (by kernel_rfl) (by kernel_rfl) ?_
   refine WQ_cons rfl rfl rfl ((q_load rfl rfl m4 rfl (by first | exact True.intro | omega | exact Fin.isLt _ | trivial | (dsimp only; omega)))) (lt_dec rfl) ?_
   refine WQ_nil ?_
   refine RA_one 10 rfl rfl (by kernel_rfl) (x_appendO (r := .arrs 10 (Gr.md g k)) (r2 := .arrs 10 [p]) (q := .arrs 10 ((Gr.md g k) ++ [p])) rfl rfl rfl rfl rfl rfl (Rds.row m0 rfl) rfl (by show 0 < 1; omega) rfl (HpDels.cons (HpDel.head).tail HpDels.nil) (fun _ => (HpDels.cons (HpDel.head).tail HpDels.nil)) (by show (List.length _ + List.length _) * 10 ≤ _; simp only [List.length_cons, List.length_nil]; omega) (by show List.length _ + List.length _ ≤ _; simp only [List.length_cons, List.length_nil]; omega) (lt_dec rfl) fun v17 => ?_)
   refine RA_quiet (g := 1) [13] (by kernel_rfl) (by kernel_rfl) (by kernel_rfl) (by kernel_rfl) ?_
   first | refine WQ_cons rfl rfl rfl ((p_ix1 k rfl rfl rfl rfl rfl rfl (by first | omega | exact Fin.isLt _ | (dsimp only; omega))).q) (lt_dec rfl) ?_ | refine WQ_cons rfl rfl rfl ((p_ix1s k rfl rfl rfl rfl rfl rfl (by first | omega | exact Fin.isLt _ | (dsimp only; omega))).q) (lt_dec rfl) ?_
   refine WQ_nil ?_
   refine RA_one 14 rfl rfl (by kernel_rfl) (x_store rfl rfl rfl rfl rfl (((((HpRep.head).tail).tail).tail).tail) rfl (by first | trivial | (first | (first | omega | (dsimp only; omega)) | exact Fin.isLt _)) ?_)
   refine RA_done (by kernel_rfl) ?_
   refine W_seq ?_
   refine W_poolIn (k := k) v17 (Gr.md g k ++ [p]) (by omega) (HpDels.cons (HpDel.head).tail (HpDels.cons (HpDel.head).tail HpDels.nil)) ?_
   refine W_region ?_
   refine o_mv rfl rfl ?_
   refine Ops_p (p_nilCheck rfl) (lt_dec rfl) ?_
   refine Ops_p (p_fieldAddr rfl rfl rfl rfl rfl rfl) (lt_dec rfl) ?_
   refine Ops_q (q_load rfl rfl m3 rfl (by first | exact True.intro | omega | exact Fin.isLt _ | trivial | (dsimp only; omega))) (lt_dec rfl) ?_
   refine o_mv rfl rfl ?_
   refine Ops_nil ?_
   refine W_block ?_
   refine W_loop (α := Nat × Gr × (Nat → V1)) (fun zz2 => ⟨[(0, .ptr bg 0 none), (1, .int .i64 (k : Int)), (2, .arr8 10 p), (5, .ptr b5_1 0 none), (24, .int .i64 (n : Int)), (25, .int .i64 ((zz2.1) : Int))], [poolG 33 (zz2.2.2) (Gr.md (zz2.2.1)), .row b16_3 1 33 (.arrs 10 [p]), .var b5_1 (.arr8 10 p), .var bg (.agg [.int .i64 (n : Int), .varr 10 (gvF (zz2.2.2)) (gvH (zz2.2.2)), .arr8 1000 (Gr.ld (zz2.2.1)), .barr 100 (Gr.hs (zz2.2.1))])]⟩) (fun zz2 => (zz2.1) ≤ n ∧ GOk n (zz2.2.1) ∧ addL lk n k p (n - (zz2.1)) (zz2.2.1) = some g1) (fun zz2 => n - (zz2.1)) (0, Gr.push g k p, (fun j => if j = k then v17 else y j)) ?_ ?_ ?_
   ·exact ⟨Nat.zero_le _, hG.push hp hln, hE1⟩
   ·exact Wk.intro (.c rfl (.c rfl (.c rfl (.c rfl (.c rfl (.cons rfl (by first | rfl | exact veq_int (by first | omega | (dsimp only; omega))) .nil)))))) (.keep rfl rfl (fun _ h => h) (.keep rfl rfl (fun _ h => h) (.keep rfl rfl (fun _ h => h) (.keep rfl rfl (imp_var (ceq_gs fun _ _ => rfl) rfl) .nil))))
   ·rintro ⟨j, g2, y2⟩ ⟨hj, hG2, hE2⟩
    try dsimp only at *
    refine W_seq ?_
    refine W_region ?_
    refine Ops_p (p_lss rfl rfl) (lt_dec rfl) ?_
    refine Ops_nil ?_
    refine W_seq ?_
    refine W_cond rfl (fun h5 => ?_) (fun h5 => ?_)
    ·try simp only [bs] at h5
     refine W_skip ?_
     refine W_seq ?_
     refine W_block ?_
     refine W_seq ?_
     refine W_region ?_
     refine o_mv rfl rfl ?_
     refine o_as rfl rfl ?_
     refine Ops_nil ?_
     refine W_seq ?_
     refine W_region ?_
     refine o_mv rfl rfl ?_
     refine o_mv rfl rfl ?_
     refine o_mv rfl rfl ?_
     refine Ops_p (p_nilCheck rfl) (lt_dec rfl) ?_
     refine Ops_p (p_fieldAddr rfl rfl rfl rfl rfl rfl) (lt_dec rfl) ?_
     refine Ops_p (p_ixN 10 k rfl rfl rfl rfl rfl rfl (by first | omega | exact Fin.isLt _ | (dsimp only; omega))) (lt_dec rfl) ?_
     first | refine Ops_p (p_ix1 j rfl rfl rfl rfl rfl rfl (by first | omega | exact Fin.isLt _ | (dsimp only; omega))) (lt_dec rfl) ?_ | refine Ops_p (p_ix1s j rfl rfl rfl rfl rfl rfl (by first | omega | exact Fin.isLt _ | (dsimp only; omega))) (lt_dec rfl) ?_
     refine Ops_q (q_load rfl rfl m3 rfl (by first | exact True.intro | omega | exact Fin.isLt _ | trivial | (dsimp only; omega))) (lt_dec rfl) ?_
     refine Ops_nil ?_
     refine W_cond rfl (fun h6 => ?_) (fun h6 => ?_)
     ·try simp only [bs] at h6
      have hh : g2.hs (10 * k + j) = true := h6; obtain ⟨g3, hg3, hrest⟩ := addL_t hE2 (by omega) hh
      refine W_draw (by kernel_rfl) ?_
      show RA _ _ 17 _ _ _
      refine RA_quiet (g := 1) [0, 1, 2, 3, 4, 5, 6, 7, 8, 9, 10, 11, 12, 13, 14, 15] (by kernel_rfl) (by kernel_rfl) (by kernel_rfl) (by kernel_rfl) ?_
      refine WQ_cons rfl rfl rfl ((p_move rfl).q) (lt_dec rfl) ?_
      refine WQ_cons rfl rfl rfl ((p_move rfl).q) (lt_dec rfl) ?_
      refine WQ_cons rfl rfl rfl ((p_move rfl).q) (lt_dec rfl) ?_
      refine WQ_cons rfl rfl rfl ((p_move rfl).q) (lt_dec rfl) ?_
      refine WQ_cons rfl rfl rfl ((p_move rfl).q) (lt_dec rfl) ?_
      refine WQ_cons rfl rfl rfl ((p_nilCheck rfl).q) (lt_dec rfl) ?_
      refine WQ_cons rfl rfl rfl ((p_fieldAddr rfl rfl rfl rfl rfl rfl).q) (lt_dec rfl) ?_
      refine WQ_cons rfl rfl rfl ((p_ixN 100 k rfl rfl rfl rfl rfl rfl (by first | omega | exact Fin.isLt _ | (dsimp only; omega))).q) (lt_dec rfl) ?_
      refine WQ_cons rfl rfl rfl ((p_ixNs 10 j rfl rfl rfl rfl rfl rfl (by first | omega | exact Fin.isLt _ | (dsimp only; omega))).q) (lt_dec rfl) ?_
      refine WQ_cons rfl rfl rfl ((q_load rfl rfl m3 rfl (by first | exact True.intro | omega | exact Fin.isLt _ | trivial | (dsimp only; omega)))) (lt_dec rfl) ?_
      refine WQ_cons rfl rfl rfl ((q_load rfl rfl m2 rfl (by first | exact True.intro | omega | exact Fin.isLt _ | trivial | (dsimp only; omega)))) (lt_dec rfl) ?_
      refine WQ_cons rfl rfl rfl ((p_move rfl).q) (lt_dec rfl) ?_
      refine WQ_cons rfl rfl rfl ((p_nilCheck rfl).q) (lt_dec rfl) ?_
      refine WQ_cons rfl rfl rfl ((p_fieldAddr rfl rfl rfl rfl rfl rfl).q) (lt_dec rfl) ?_
      refine WQ_cons rfl rfl rfl ((q_load rfl rfl m3 rfl (by first | exact True.intro | omega | exact Fin.isLt _ | trivial | (dsimp only; omega)))) (lt_dec rfl) ?_
      refine WQ_cons rfl rfl rfl ((q_call en_impl_then rfl (w_impl_then (hG2.ld k j (by omega) (by omega) hh)) (View.none _))) (lt_dec rfl) ?_
      refine WQ_nil ?_
      refine RA_one 16 rfl rfl (by kernel_rfl) (x_callT hen rfl ((hlk k (thenT (lrP (Gr.ld g2) k j) p n) g2 g3 y2 hk (thenT_perm (hG2.ld k j (by omega) (by omega) hh) hp) hG2 hg3)) (HpDels.cons (((HpDel.head).tail).tail).tail (HpDels.cons HpDel.head HpDels.nil)) (Vw.none _) (fun _ => (HpDels.cons (((HpDel.head).tail).tail).tail (HpDels.cons HpDel.head HpDels.nil))) (lt_dec rfl) fun x52_3 _ => ?_)
      refine RA_done (by kernel_rfl) ?_
      refine W_region ?_
      refine Ops_p (p_add rfl rfl (by refine ⟨?_, ?_⟩ <;> first | omega | (dsimp only; omega))) (lt_dec rfl) ?_
      refine o_mv rfl rfl ?_
      refine Ops_nil ?_
      refine Exists.intro (j + 1, g3, x52_3) (And.intro ?_ (And.intro ?_ ?_))
      ·first | exact ⟨by show _ ≤ _; omega, (hkp k _ g2 g3 hk (thenT_perm (hG2.ld k j (by omega) (by omega) hh) hp) hG2 hg3).1, hrest⟩ | exact ⟨by show _ ≤ _; omega, hG2, hrest⟩
      ·show _ < _; omega
      ·exact Wk.intro (.c rfl (.c rfl (.c rfl (.c rfl (.c rfl (.cons rfl (by first | rfl | exact veq_int (by first | omega | (dsimp only; omega))) .nil)))))) (.keep rfl rfl (fun _ h => h) (.keep rfl rfl (fun _ h => h) (.keep rfl rfl (fun _ h => h) (.keep rfl rfl (fun _ h => h) .nil))))
     ·try simp only [bs] at h6
      have hrest := addL_f hE2 (by omega) h6
      refine W_skip ?_
      refine W_region ?_
      refine Ops_p (p_add rfl rfl (by refine ⟨?_, ?_⟩ <;> first | omega | (dsimp only; omega))) (lt_dec rfl) ?_
      refine o_mv rfl rfl ?_
      refine Ops_nil ?_
      refine Exists.intro (j + 1, g2, y2) (And.intro ?_ (And.intro ?_ ?_))
      ·first | exact ⟨by show _ ≤ _; omega, (hkp k _ g2 g3 hk (thenT_perm (hG2.ld k j (by omega) (by omega) hh) hp) hG2 hg3).1, hrest⟩ | exact ⟨by show _ ≤ _; omega, hG2, hrest⟩
      ·show _ < _; omega
      ·exact Wk.intro (.c rfl (.c rfl (.c rfl (.c rfl (.c rfl (.cons rfl (by first | rfl | exact veq_int (by first | omega | (dsimp only; omega))) .nil)))))) (.keep rfl rfl (fun _ h => h) (.keep rfl rfl (fun _ h => h) (.keep rfl rfl (fun _ h => h) (.keep rfl rfl (fun _ h => h) .nil))))
    ·try simp only [bs] at h5
     obtain rfl : j = n := (by omega)
     have hfin := addL_e hE2
     refine W_exit ?_
     refine Exists.intro _ (And.intro (.nil) (Exists.intro y2 (And.intro ?_ (And.intro ?_ (And.intro (.cons (((HpDel.head).tail).tail).tail rfl (by rw [← hfin]; exact fun _ h => h) (.cons HpDel.head (by rw [← hfin]) (by rw [← hfin]; exact fun _ h => h) .nil)) rfl)))))
     ·trivial
     ·rfl
end Go.Proofs.Ytjihhcjpbcmjaaa
end
section
namespace Go.Proofs.Ytjihhcjpbcmjaaa
open Go Gx
set_option linter.unusedVariables false
theorem en_impl_back : Enters Try.prog 60 := enters_of Try.func60 (by kernel_rfl) (by kernel_rfl)
set_option maxRecDepth 100000 in
theorem w_impl_back {p : Nat → Fin 256} {n : Int} (hP : IsPerm p n) : CR Try.prog 60 (vals [.arr8 10 p, .int .i64 n]) [] (.arr8 10 (backT p n.toNat)) := by
 refine CR_intro (rs := [.cell 4 33]) tt tok Try.func60 rfl rfl rfl (by first | rfl | assumption) fun w => ?_
 refine W_seq ?_
 refine W_region ?_
 refine Ops_x rfl (x_box rfl rfl (lt_dec rfl) fun b2_1 => ?_)
 refine Ops_x rfl (x_alloc rfl (lt_dec rfl) fun b4_1 => ?_)
 refine Ops_nil ?_
 refine W_seq ?_
 refine W_region ?_
 refine Ops_p (p_build_arr rfl rfl rfl rfl (by first | exact True.intro | omega | exact Fin.isLt _ | trivial | (dsimp only; omega))) (lt_dec rfl) ?_
 refine Ops_x rfl (x_alloc rfl (lt_dec rfl) fun b5_1 => ?_)
 refine Ops_x rfl (x_store rfl rfl rfl rfl rfl HpRep.head rfl (by first | trivial | (first | (first | omega | (dsimp only; omega)) | exact Fin.isLt _)) ?_)
 refine Ops_nil ?_
 refine W_seq ?_
 refine W_seq ?_
 refine W_region ?_
 refine o_mv rfl rfl ?_
 refine o_mv rfl rfl ?_
 refine Ops_nil ?_
 refine W_block ?_
 refine W_loop (α := Nat) (fun i => ⟨[(0, .arr8 10 p), (1, .int .i64 n), (2, .ptr b2_1 0 none), (4, .ptr b4_1 0 none), (5, .ptr b5_1 0 none), (8, .int .i64 n), (9, .int .i64 (i : Int))], [.var b5_1 (.arr8 10 (backT p i)), .var b4_1 (.arr8 10 fun _ => 0), .var b2_1 (.arr8 10 p)]⟩) (fun i => i ≤ n.toNat) (fun i => n.toNat - i) 0 ?_ ?_ ?_
 ·show _ ≤ _; omega
 ·exact Wk.intro (.c rfl (.c rfl (.c rfl (.c rfl (.c rfl (.c rfl (.cons rfl (by first | rfl | exact veq_int (by first | omega | (dsimp only; omega))) .nil))))))) (.keep rfl rfl (imp_var (by rfl) rfl) (.keep rfl rfl (fun _ h => h) (.keep rfl rfl (fun _ h => h) .nil)))
 ·rintro i hR
  refine W_seq ?_
  refine W_region ?_
  refine Ops_p (p_lss rfl rfl) (lt_dec rfl) ?_
  refine Ops_nil ?_
  refine W_seq ?_
  refine W_cond rfl (fun h1 => ?_) (fun h1 => ?_)
  ·try simp only [bs] at h1
   have hpi := perm_lt hP h1
   refine W_skip ?_
   refine W_seq ?_
   refine W_block ?_
   refine W_seq ?_
   refine W_region ?_
   refine o_mv rfl rfl ?_
   refine o_as rfl rfl ?_
   refine Ops_nil ?_
   refine W_region ?_
   refine o_mv rfl rfl ?_
   first | refine Ops_p (p_ix1 _ rfl rfl rfl rfl rfl rfl (by first | omega | exact Fin.isLt _ | (dsimp only; omega))) (lt_dec rfl) ?_ | refine Ops_p (p_ix1s _ rfl rfl rfl rfl rfl rfl (by first | omega | exact Fin.isLt _ | (dsimp only; omega))) (lt_dec rfl) ?_
   refine Ops_q (q_load rfl rfl m2 rfl (by first | exact True.intro | omega | exact Fin.isLt _ | trivial | (dsimp only; omega))) (lt_dec rfl) ?_
   refine o_mv rfl rfl ?_
   refine Ops_p (p_conv rfl rfl rfl (by exact ⟨(by first | omega | (dsimp only; omega)), (by first | omega | (dsimp only; omega))⟩)) (lt_dec rfl) ?_
   first | refine Ops_p (p_ix1 _ rfl rfl rfl rfl rfl rfl (by first | omega | exact Fin.isLt _ | (dsimp only; omega))) (lt_dec rfl) ?_ | refine Ops_p (p_ix1s _ rfl rfl rfl rfl rfl rfl (by first | omega | exact Fin.isLt _ | (dsimp only; omega))) (lt_dec rfl) ?_
   refine Ops_x rfl (x_store rfl rfl rfl rfl rfl HpRep.head rfl (by first | trivial | (first | (first | omega | (dsimp only; omega)) | exact Fin.isLt _)) ?_)
   refine Ops_nil ?_
   refine W_region ?_
   refine Ops_p (p_add rfl rfl (by refine ⟨?_, ?_⟩ <;> first | omega | (dsimp only; omega))) (lt_dec rfl) ?_
   refine o_mv rfl rfl ?_
   refine Ops_nil ?_
   refine Exists.intro (i + 1) (And.intro ?_ (And.intro ?_ ?_))
   ·show _ ≤ _; omega
   ·show _ < _; omega
   ·exact Wk.intro (.c rfl (.c rfl (.c rfl (.c rfl (.c rfl (.c rfl (.cons rfl (by first | rfl | exact veq_int (by first | omega | (dsimp only; omega))) .nil))))))) (.keep rfl rfl (imp_var (by exact ceq_arr8 fun j hj => rfl) rfl) (.keep rfl rfl (fun _ h => h) (.keep rfl rfl (fun _ h => h) .nil)))
  ·try simp only [bs] at h1
   refine W_exit ?_
   refine W_seq ?_
   refine W_region ?_
   refine Ops_q (q_load rfl rfl m0 rfl (by first | exact True.intro | omega | exact Fin.isLt _ | trivial | (dsimp only; omega))) (lt_dec rfl) ?_
   refine Ops_x rfl (x_store rfl rfl rfl rfl rfl ((HpRep.head).tail) rfl (by first | trivial | (first | (first | omega | (dsimp only; omega)) | exact Fin.isLt _)) ?_)
   refine Ops_nil ?_
   refine W_ret ?_
   refine Exists.intro _ (And.intro (.cons (.cell rfl rfl m1 rfl trivial) .nil) ?_)
   first | rfl | (refine veq_bool ?_; simp_all; done) | (refine veq_bool ?_; simp; omega) | (refine veq_bool ?_; rw [eq_comm, decide_eq_false_iff_not]; omega) | (refine veq_bool ?_; rw [eq_comm, decide_eq_true_iff]; omega) | (refine veq_int ?_; omega) | (refine veq_arr8 fun j hj => ?_; (try dsimp only); first | (simp; done) | (simp; omega) | ((repeat' split) <;> first | rfl | (exfalso; omega) | (congr 1; omega) | (simp_all; done))) | (obtain rfl : i = n.toNat := (by omega); rfl)
end Go.Proofs.Ytjihhcjpbcmjaaa
end
section
namespace Go.Proofs.Ytjihhcjpbcmjaaa
open Go Gx
set_option linter.unusedVariables false
theorem en_pimpl_group_has : Enters Try.prog 40 := enters_of Try.func40 (by kernel_rfl) (by kernel_rfl)
set_option maxRecDepth 100000 in
theorem w_pimpl_group_has {n bg : Nat} {gv : Nat → Value} {hgv : ∀ i, (gv i).oneCell' = true} {ld : Nat → Fin 256} {hs : Nat → Bool} {p : Nat → Fin 256} {k : Nat} (hp : IsPerm p (n : Int)) (hk : k ≤ n) (hL : LdOk hs ld n) : CR Try.prog 40 (vals [.ptr bg 0 none, .arr8 10 p, .int .i64 (k : Int)]) [.rvar bg (.agg [.int .i64 (n : Int), .varr 10 gv hgv, .arr8 1000 ld, .barr 100 hs])] (.bool (siB hs ld n (n - k) k p)) := by
 refine CR_intro (rs := [.tmp 6]) tt tok Try.func40 rfl rfl rfl (by first | rfl | assumption) fun w => ?_
 have hn := hp.2.1
 refine W_seq ?_
 refine W_region ?_
 refine Ops_x rfl (x_box rfl rfl (lt_dec rfl) fun b4_1 => ?_)
 refine o_as rfl rfl ?_
 refine Ops_nil ?_
 refine W_seq ?_
 refine W_block ?_
 refine W_loop (α := Nat × (Nat → Fin 256)) (fun zz0 => ⟨[(0, .ptr bg 0 none), (1, .arr8 10 p), (2, .int .i64 ((zz0.1) : Int)), (4, .ptr b4_1 0 none)], [.var b4_1 (.arr8 10 (zz0.2)), .rvar bg (.agg [.int .i64 (n : Int), .varr 10 gv hgv, .arr8 1000 ld, .barr 100 hs])]⟩) (fun zz0 => (zz0.1) ≤ n ∧ IsPerm (zz0.2) (n : Int) ∧ siB hs ld n (n - k) k p = siB hs ld n (n - (zz0.1)) (zz0.1) (zz0.2)) (fun zz0 => n - (zz0.1)) (k, p) ?_ ?_ ?_
 ·exact ⟨hk, hp, rfl⟩
 ·exact Wk.intro (.c rfl (.c rfl (.cons rfl (by first | rfl | exact veq_int (by first | omega | (dsimp only; omega))) (.c rfl .nil)))) (.keep rfl rfl (fun _ h => h) (.keep rfl rfl (fun _ h => h) .nil))
 ·rintro ⟨q, w⟩ ⟨hq, hW, hS⟩
  try dsimp only at *
  refine W_seq ?_
  refine W_seq ?_
  refine W_region ?_
  refine o_mv rfl rfl ?_
  refine o_mv rfl rfl ?_
  refine Ops_p (p_nilCheck rfl) (lt_dec rfl) ?_
  refine Ops_p (p_fieldAddr rfl rfl rfl rfl rfl rfl) (lt_dec rfl) ?_
  refine Ops_q (q_load_r rfl rfl m1 rfl (by first | exact True.intro | omega | exact Fin.isLt _ | trivial | (dsimp only; omega))) (lt_dec rfl) ?_
  refine Ops_p (p_lss rfl rfl) (lt_dec rfl) ?_
  refine Ops_nil ?_
  refine W_cond rfl (fun h1 => ?_) (fun h1 => ?_)
  ·try simp only [bs] at h1
   refine W_skip ?_
   refine W_seq ?_
   refine W_block ?_
   refine W_seq ?_
   refine W_region ?_
   refine o_mv rfl rfl ?_
   first | refine Ops_p (p_ix1 q rfl rfl rfl rfl rfl rfl (by first | omega | exact Fin.isLt _ | (dsimp only; omega))) (lt_dec rfl) ?_ | refine Ops_p (p_ix1s q rfl rfl rfl rfl rfl rfl (by first | omega | exact Fin.isLt _ | (dsimp only; omega))) (lt_dec rfl) ?_
   refine Ops_q (q_load rfl rfl m0 rfl (by first | exact True.intro | omega | exact Fin.isLt _ | trivial | (dsimp only; omega))) (lt_dec rfl) ?_
   refine o_as rfl rfl ?_
   refine Ops_nil ?_
   refine W_seq ?_
   refine W_seq ?_
   have hwl := (perm_lt hW (i := q) (by omega)).1
   refine W_region ?_
   refine o_mv rfl rfl ?_
   refine o_mv rfl rfl ?_
   refine o_mv rfl rfl ?_
   refine Ops_p (p_nilCheck rfl) (lt_dec rfl) ?_
   refine Ops_p (p_fieldAddr rfl rfl rfl rfl rfl rfl) (lt_dec rfl) ?_
   refine Ops_p (p_ixN 10 q rfl rfl rfl rfl rfl rfl (by first | omega | exact Fin.isLt _ | (dsimp only; omega))) (lt_dec rfl) ?_
   first | refine Ops_p (p_ix1 (w q).val rfl rfl rfl rfl rfl rfl (by first | omega | exact Fin.isLt _ | (dsimp only; omega))) (lt_dec rfl) ?_ | refine Ops_p (p_ix1s (w q).val rfl rfl rfl rfl rfl rfl (by first | omega | exact Fin.isLt _ | (dsimp only; omega))) (lt_dec rfl) ?_
   refine Ops_q (q_load_r rfl rfl m1 rfl (by first | exact True.intro | omega | exact Fin.isLt _ | trivial | (dsimp only; omega))) (lt_dec rfl) ?_
   refine Ops_p (p_not rfl) (lt_dec rfl) ?_
   refine Ops_nil ?_
   refine W_cond rfl (fun h2 => ?_) (fun h2 => ?_)
   ·try simp only [bs] at h2
    have hh : hs (10 * q + (w q).val) = false := h2
    refine W_seq ?_
    refine W_region ?_
    refine o_as rfl rfl ?_
    refine Ops_nil ?_
    refine W_ret ?_
    refine Exists.intro _ (And.intro (.cons (.tmp rfl) .nil) ?_)
    first | rfl | (refine veq_bool ?_; simp_all; done) | (refine veq_bool ?_; simp; omega) | (refine veq_bool ?_; rw [eq_comm, decide_eq_false_iff_not]; omega) | (refine veq_bool ?_; rw [eq_comm, decide_eq_true_iff]; omega) | (exact veq_bool (by rw [hS]; exact (siB_f (by omega) hh).symm)) | (exact veq_bool (by rw [hS, show n - q = 0 by omega]; rfl))
   ·try simp only [bs] at h2
    have hh : hs (10 * q + (w q).val) = true := h2
    refine W_skip ?_
    refine W_draw (by kernel_rfl) ?_
    show RA _ _ 20 _ _ _
    refine RA_quiet (g := 1) [0, 1, 2, 3, 4, 5, 6, 7, 8, 9, 10, 11, 12, 13, 14, 15, 16, 17, 18] (by kernel_rfl) (by kernel_rfl) (by kernel_rfl) (by kernel_rfl) ?_
    refine WQ_cons rfl rfl rfl ((q_load rfl rfl m0 rfl (by first | exact True.intro | omega | exact Fin.isLt _ | trivial | (dsimp only; omega)))) (lt_dec rfl) ?_
    refine WQ_cons rfl rfl rfl ((p_move rfl).q) (lt_dec rfl) ?_
    refine WQ_cons rfl rfl rfl ((p_move rfl).q) (lt_dec rfl) ?_
    refine WQ_cons rfl rfl rfl ((p_move rfl).q) (lt_dec rfl) ?_
    refine WQ_cons rfl rfl rfl ((p_nilCheck rfl).q) (lt_dec rfl) ?_
    refine WQ_cons rfl rfl rfl ((p_fieldAddr rfl rfl rfl rfl rfl rfl).q) (lt_dec rfl) ?_
    refine WQ_cons rfl rfl rfl ((p_ixN 100 q rfl rfl rfl rfl rfl rfl (by first | omega | exact Fin.isLt _ | (dsimp only; omega))).q) (lt_dec rfl) ?_
    refine WQ_cons rfl rfl rfl ((p_ixNs 10 (w q).val rfl rfl rfl rfl rfl rfl (by first | omega | exact Fin.isLt _ | (dsimp only; omega))).q) (lt_dec rfl) ?_
    refine WQ_cons rfl rfl rfl ((q_load_r rfl rfl m1 rfl (by first | exact True.intro | omega | exact Fin.isLt _ | trivial | (dsimp only; omega)))) (lt_dec rfl) ?_
    refine WQ_cons rfl rfl rfl ((p_move rfl).q) (lt_dec rfl) ?_
    refine WQ_cons rfl rfl rfl ((p_nilCheck rfl).q) (lt_dec rfl) ?_
    refine WQ_cons rfl rfl rfl ((p_fieldAddr rfl rfl rfl rfl rfl rfl).q) (lt_dec rfl) ?_
    refine WQ_cons rfl rfl rfl ((q_load_r rfl rfl m1 rfl (by first | exact True.intro | omega | exact Fin.isLt _ | trivial | (dsimp only; omega)))) (lt_dec rfl) ?_
    refine WQ_cons rfl rfl rfl ((q_call en_impl_back rfl (w_impl_back (hL q (w q).val (by omega) (by omega) hh)) (View.none _))) (lt_dec rfl) ?_
    refine WQ_cons rfl rfl rfl ((p_move rfl).q) (lt_dec rfl) ?_
    refine WQ_cons rfl rfl rfl ((p_nilCheck rfl).q) (lt_dec rfl) ?_
    refine WQ_cons rfl rfl rfl ((p_fieldAddr rfl rfl rfl rfl rfl rfl).q) (lt_dec rfl) ?_
    refine WQ_cons rfl rfl rfl ((q_load_r rfl rfl m1 rfl (by first | exact True.intro | omega | exact Fin.isLt _ | trivial | (dsimp only; omega)))) (lt_dec rfl) ?_
    refine WQ_cons rfl rfl rfl ((q_call en_impl_then rfl (w_impl_then hW) (View.none _))) (lt_dec rfl) ?_
    refine WQ_nil ?_
    refine RA_one 19 rfl rfl (by kernel_rfl) (x_store rfl rfl rfl rfl rfl HpRep.head rfl (by first | trivial | (first | (first | omega | (dsimp only; omega)) | exact Fin.isLt _)) ?_)
    refine RA_done (by kernel_rfl) ?_
    refine W_region ?_
    refine o_mv rfl rfl ?_
    refine Ops_p (p_add rfl rfl (by refine ⟨?_, ?_⟩ <;> first | omega | (dsimp only; omega))) (lt_dec rfl) ?_
    refine o_as rfl rfl ?_
    refine Ops_nil ?_
    refine Exists.intro (q + 1, thenT w (backT (lrP ld q (w q).val) n) n) (And.intro ?_ (And.intro ?_ ?_))
    ·exact ⟨by show _ ≤ _; omega, thenT_perm hW (backT_perm (hL q (w q).val (by omega) (by omega) hh)), hS.trans (siB_t (by omega) hh)⟩
    ·show _ < _; omega
    ·exact Wk.intro (.c rfl (.c rfl (.cons rfl (by first | rfl | exact veq_int (by first | omega | (dsimp only; omega))) (.c rfl .nil)))) (.keep rfl rfl (imp_var rfl rfl) (.keep rfl rfl (fun _ h => h) .nil))
  ·try simp only [bs] at h1
   have hqn : q = n := (by omega)
   refine W_exit ?_
   refine W_seq ?_
   refine W_region ?_
   refine o_as rfl rfl ?_
   refine Ops_nil ?_
   refine W_ret ?_
   refine Exists.intro _ (And.intro (.cons (.tmp rfl) .nil) ?_)
   first | rfl | (refine veq_bool ?_; simp_all; done) | (refine veq_bool ?_; simp; omega) | (refine veq_bool ?_; rw [eq_comm, decide_eq_false_iff_not]; omega) | (refine veq_bool ?_; rw [eq_comm, decide_eq_true_iff]; omega) | (exact veq_bool (by rw [hS]; exact (siB_f (by omega) hh).symm)) | (exact veq_bool (by rw [hS, show n - q = 0 by omega]; rfl))
end Go.Proofs.Ytjihhcjpbcmjaaa
end
section
namespace Go.Proofs.Ytjihhcjpbcmjaaa
open Go Gx
set_option linter.unusedVariables false
theorem en_pimpl_group_look : Enters Try.prog 70 := enters_of Try.func70 (by kernel_rfl) (by kernel_rfl)
set_option maxRecDepth 100000 in
set_option maxHeartbeats 4000000 in
theorem w_pimpl_group_look_all {n bg : Nat} : ∀ (mm : Nat) (f k : Nat) (p : Nat → Fin 256) (g g1 : Gr) (y : Nat → V1), (k < n) → (IsPerm p (n : Int)) → (GOk n g) → (lookF n f k p g = some g1) → f < mm → CT (X := Nat → V1) Try.prog 70 (vals [.ptr bg 0 none, .int .i64 (k : Int), .arr8 10 p]) [.var bg (.agg [.int .i64 (n : Int), .varr 10 (gvF y) (gvH y), .arr8 1000 (Gr.ld g), .barr 100 (Gr.hs g)]), poolG 33 y (Gr.md g)] [] (fun x => True) (fun x => .tup []) (fun x => [.var bg (.agg [.int .i64 (n : Int), .varr 10 (gvF x) (gvH x), .arr8 1000 (Gr.ld g1), .barr 100 (Gr.hs g1)]), poolG 33 x (Gr.md g1)]) := by
 intro mm
 induction mm with
 | zero => intro f k p g g1 y hk hp hG hE hmm; exact absurd hmm (Nat.not_lt_zero _)
 | succ mm ih =>
 intro f k p g g1 y hk hp hG hE hmm
 refine CT_intro (rs := []) tt tok Try.func70 rfl rfl rfl (by first | rfl | assumption) fun w => ?_
 show W _ _ _ ⟨tmOf 0 [.ptr bg 0 none, .int .i64 (k : Int), .arr8 10 p], [.var bg (.agg [.int .i64 (n : Int), .varr 10 (gvF y) (gvH y), .arr8 1000 (Gr.ld g), .barr 100 (Gr.hs g)]), poolG 33 y (Gr.md g)]⟩
 have hn := hp.2.1
 obtain ⟨f', rfl⟩ := look_f hE
 have hpk := plt hp hk
 have hlk := hG.len k
 refine W_seq ?_
 refine W_region ?_
 refine Ops_x rfl (x_box rfl rfl (lt_dec rfl) fun b5_1 => ?_)
 refine Ops_nil ?_
 refine W_seq ?_
 refine W_region ?_
 refine o_mv rfl rfl ?_
 first | refine Ops_p (p_ix1 k rfl rfl rfl rfl rfl rfl (by first | omega | exact Fin.isLt _ | (dsimp only; omega))) (lt_dec rfl) ?_ | refine Ops_p (p_ix1s k rfl rfl rfl rfl rfl rfl (by first | omega | exact Fin.isLt _ | (dsimp only; omega))) (lt_dec rfl) ?_
 refine Ops_q (q_load rfl rfl m0 rfl (by first | exact True.intro | omega | exact Fin.isLt _ | trivial | (dsimp only; omega))) (lt_dec rfl) ?_
 refine o_as rfl rfl ?_
 refine Ops_nil ?_
 refine W_seq ?_
 refine W_seq ?_
 refine W_region ?_
 refine o_mv rfl rfl ?_
 refine o_mv rfl rfl ?_
 refine o_mv rfl rfl ?_
 refine Ops_p (p_nilCheck rfl) (lt_dec rfl) ?_
 refine Ops_p (p_fieldAddr rfl rfl rfl rfl rfl rfl) (lt_dec rfl) ?_
 refine Ops_p (p_ixN 10 k rfl rfl rfl rfl rfl rfl (by first | omega | exact Fin.isLt _ | (dsimp only; omega))) (lt_dec rfl) ?_
 first | refine Ops_p (p_ix1 (p k).val rfl rfl rfl rfl rfl rfl (by first | omega | exact Fin.isLt _ | (dsimp only; omega))) (lt_dec rfl) ?_ | refine Ops_p (p_ix1s (p k).val rfl rfl rfl rfl rfl rfl (by first | omega | exact Fin.isLt _ | (dsimp only; omega))) (lt_dec rfl) ?_
 refine Ops_q (q_load rfl rfl m1 rfl (by first | exact True.intro | omega | exact Fin.isLt _ | trivial | (dsimp only; omega))) (lt_dec rfl) ?_
 refine Ops_nil ?_
 refine W_cond rfl (fun h1 => ?_) (fun h1 => ?_)
 ·try simp only [bs] at h1
  have hh : g.hs (10 * k + (p k).val) = true := h1
  refine W_seq ?_
  refine W_seq ?_
  refine W_draw (by kernel_rfl) ?_
  show RA _ _ 21 _ _ _
  refine RA_quietA (g := 1) (hs := [0, 1, 2, 3, 4, 5, 6, 7, 8, 9, 10, 11, 12, 13, 14, 15, 16, 17, 18]) (ia := 19) rfl rfl (lt_dec rfl) (by kernel_rfl) ?_
  refine SQ_cons rfl rfl rfl ((q_load rfl rfl m0 rfl (by first | exact True.intro | omega | exact Fin.isLt _ | trivial | (dsimp only; omega)))) (lt_dec rfl) ?_
  refine SQ_cons rfl rfl rfl ((p_move rfl).q) (lt_dec rfl) ?_
  refine SQ_cons rfl rfl rfl ((p_move rfl).q) (lt_dec rfl) ?_
  refine SQ_cons rfl rfl rfl ((p_move rfl).q) (lt_dec rfl) ?_
  refine SQ_cons rfl rfl rfl ((p_nilCheck rfl).q) (lt_dec rfl) ?_
  refine SQ_cons rfl rfl rfl ((p_fieldAddr rfl rfl rfl rfl rfl rfl).q) (lt_dec rfl) ?_
  refine SQ_cons rfl rfl rfl ((p_ixN 100 k rfl rfl rfl rfl rfl rfl (by first | omega | exact Fin.isLt _ | (dsimp only; omega))).q) (lt_dec rfl) ?_
  refine SQ_cons rfl rfl rfl ((p_ixNs 10 (p k).val rfl rfl rfl rfl rfl rfl (by first | omega | exact Fin.isLt _ | (dsimp only; omega))).q) (lt_dec rfl) ?_
  refine SQ_cons rfl rfl rfl ((q_load rfl rfl m1 rfl (by first | exact True.intro | omega | exact Fin.isLt _ | trivial | (dsimp only; omega)))) (lt_dec rfl) ?_
  refine SQ_cons rfl rfl rfl ((p_move rfl).q) (lt_dec rfl) ?_
  refine SQ_cons rfl rfl rfl ((p_nilCheck rfl).q) (lt_dec rfl) ?_
  refine SQ_cons rfl rfl rfl ((p_fieldAddr rfl rfl rfl rfl rfl rfl).q) (lt_dec rfl) ?_
  refine SQ_cons rfl rfl rfl ((q_load rfl rfl m1 rfl (by first | exact True.intro | omega | exact Fin.isLt _ | trivial | (dsimp only; omega)))) (lt_dec rfl) ?_
  refine SQ_cons rfl rfl rfl ((q_call en_impl_back rfl (w_impl_back (hG.ld k _ hk hpk hh)) (View.none _))) (lt_dec rfl) ?_
  refine SQ_cons rfl rfl rfl ((p_move rfl).q) (lt_dec rfl) ?_
  refine SQ_cons rfl rfl rfl ((p_nilCheck rfl).q) (lt_dec rfl) ?_
  refine SQ_cons rfl rfl rfl ((p_fieldAddr rfl rfl rfl rfl rfl rfl).q) (lt_dec rfl) ?_
  refine SQ_cons rfl rfl rfl ((q_load rfl rfl m1 rfl (by first | exact True.intro | omega | exact Fin.isLt _ | trivial | (dsimp only; omega)))) (lt_dec rfl) ?_
  refine SQ_cons rfl rfl rfl ((q_call en_impl_then rfl (w_impl_then hp) (View.none _))) (lt_dec rfl) ?_
  refine SQ_nil ?_
  refine ⟨fun b7_1 => ?_, ?_⟩
  ·refine RA_one 20 rfl rfl (by kernel_rfl) (x_store rfl rfl rfl rfl rfl HpRep.head rfl (by first | trivial | (first | (first | omega | (dsimp only; omega)) | exact Fin.isLt _)) ?_)
   refine RA_done (by kernel_rfl) ?_
   refine W_seq ?_
   refine W_region ?_
   refine o_mv rfl rfl ?_
   refine Ops_q (q_load rfl rfl m0 rfl (by first | exact True.intro | omega | exact Fin.isLt _ | trivial | (dsimp only; omega))) (lt_dec rfl) ?_
   refine o_mv rfl rfl ?_
   refine Ops_p ((p_add rfl rfl (by exact ⟨by omega, by omega⟩)).eq (d' := .int .i64 ((k + 1 : Nat) : Int)) (veq_int (by omega))) (lt_dec rfl) ?_
   refine Ops_q (q_call en_pimpl_group_has rfl (w_pimpl_group_has (n := n) (gv := gvF y) (hgv := gvH y) (p := (restP g n k p)) (k := k + 1) (rest_perm hG hp hk hh) (by omega) hG.ld) (View.var m2)) (lt_dec rfl) ?_
   refine Ops_p (p_not rfl) (lt_dec rfl) ?_
   refine Ops_nil ?_
   refine W_cond rfl (fun h2 => ?_) (fun h2 => ?_)
   ·try simp only [bs] at h2
    have hs : ¬ (siB (Gr.hs g) (Gr.ld g) n (n - (k + 1)) (k + 1) (restP g n k p)) = true := (by rw [show (siB (Gr.hs g) (Gr.ld g) n (n - (k + 1)) (k + 1) (restP g n k p)) = false from h2]; decide)
    refine W_region ?_
    refine o_mv rfl rfl ?_
    refine o_mv rfl rfl ?_
    refine Ops_p ((p_add rfl rfl (by exact ⟨by omega, by omega⟩)).eq (d' := .int .i64 ((k + 1 : Nat) : Int)) (veq_int (by omega))) (lt_dec rfl) ?_
    refine Ops_q (q_load rfl rfl m0 rfl (by first | exact True.intro | omega | exact Fin.isLt _ | trivial | (dsimp only; omega))) (lt_dec rfl) ?_
    refine Ops_x rfl (x_callT en_pimpl_group_add rfl (w_pimpl_group_add (lk := lookF n f') (n := n) (bg := bg) (k := k + 1) (p := (restP g n k p)) (g := g) (g1 := g1) (y := y) (sib_lt hs) (rest_perm hG hp hk hh) hG (look_ad hE hh hs) (lookF_keeps f') en_pimpl_group_look (fun k p g g1 y a b c d => ih f' k p g g1 y a b c d (by omega))) (HpDels.cons ((HpDel.head).tail).tail (HpDels.cons ((HpDel.head).tail).tail HpDels.nil)) (Vw.none _) (fun _ => (HpDels.cons ((HpDel.head).tail).tail (HpDels.cons ((HpDel.head).tail).tail HpDels.nil))) (lt_dec rfl) fun x49_1 _ => ?_)
    refine Ops_nil ?_
    refine W_ret ?_
    refine Exists.intro _ (And.intro (.nil) (Exists.intro x49_1 (And.intro ?_ (And.intro ?_ (And.intro (.cons ((HpDel.head).tail).tail rfl (fun _ h => h) (.cons ((HpDel.head).tail).tail rfl (fun _ h => h) .nil)) rfl)))))
    ·trivial
    ·rfl
   ·try simp only [bs] at h2
    have hs : (siB (Gr.hs g) (Gr.ld g) n (n - (k + 1)) (k + 1) (restP g n k p)) = true := (by simpa using h2); have hfin := look_si hE hh hs
    refine W_skip ?_
    refine W_ret ?_
    refine Exists.intro _ (And.intro (.nil) (Exists.intro y (And.intro ?_ (And.intro ?_ (And.intro (.cons ((HpDel.head).tail).tail rfl (by rw [← hfin]; exact fun _ h => h) (.cons ((HpDel.head).tail).tail (by rw [← hfin]) (by rw [← hfin]; exact fun _ h => h) .nil)) rfl)))))
    ·trivial
    ·rfl
  ·refine RA_one 19 rfl rfl (by kernel_rfl) (x_alloc rfl (lt_dec rfl) fun b7_2 => ?_)
   refine RA_one 20 rfl rfl (by kernel_rfl) (x_store rfl rfl rfl rfl rfl HpRep.head rfl (by first | trivial | (first | (first | omega | (dsimp only; omega)) | exact Fin.isLt _)) ?_)
   refine RA_done (by kernel_rfl) ?_
   refine W_seq ?_
   refine W_region ?_
   refine o_mv rfl rfl ?_
   refine Ops_q (q_load rfl rfl m0 rfl (by first | exact True.intro | omega | exact Fin.isLt _ | trivial | (dsimp only; omega))) (lt_dec rfl) ?_
   refine o_mv rfl rfl ?_
   refine Ops_p ((p_add rfl rfl (by exact ⟨by omega, by omega⟩)).eq (d' := .int .i64 ((k + 1 : Nat) : Int)) (veq_int (by omega))) (lt_dec rfl) ?_
   refine Ops_q (q_call en_pimpl_group_has rfl (w_pimpl_group_has (n := n) (gv := gvF y) (hgv := gvH y) (p := (restP g n k p)) (k := k + 1) (rest_perm hG hp hk hh) (by omega) hG.ld) (View.var m2)) (lt_dec rfl) ?_
   refine Ops_p (p_not rfl) (lt_dec rfl) ?_
   refine Ops_nil ?_
   refine W_cond rfl (fun h3 => ?_) (fun h3 => ?_)
   ·try simp only [bs] at h3
    have hs : ¬ (siB (Gr.hs g) (Gr.ld g) n (n - (k + 1)) (k + 1) (restP g n k p)) = true := (by rw [show (siB (Gr.hs g) (Gr.ld g) n (n - (k + 1)) (k + 1) (restP g n k p)) = false from h3]; decide)
    refine W_region ?_
    refine o_mv rfl rfl ?_
    refine o_mv rfl rfl ?_
    refine Ops_p ((p_add rfl rfl (by exact ⟨by omega, by omega⟩)).eq (d' := .int .i64 ((k + 1 : Nat) : Int)) (veq_int (by omega))) (lt_dec rfl) ?_
    refine Ops_q (q_load rfl rfl m0 rfl (by first | exact True.intro | omega | exact Fin.isLt _ | trivial | (dsimp only; omega))) (lt_dec rfl) ?_
    refine Ops_x rfl (x_callT en_pimpl_group_add rfl (w_pimpl_group_add (lk := lookF n f') (n := n) (bg := bg) (k := k + 1) (p := (restP g n k p)) (g := g) (g1 := g1) (y := y) (sib_lt hs) (rest_perm hG hp hk hh) hG (look_ad hE hh hs) (lookF_keeps f') en_pimpl_group_look (fun k p g g1 y a b c d => ih f' k p g g1 y a b c d (by omega))) (HpDels.cons ((HpDel.head).tail).tail (HpDels.cons ((HpDel.head).tail).tail HpDels.nil)) (Vw.none _) (fun _ => (HpDels.cons ((HpDel.head).tail).tail (HpDels.cons ((HpDel.head).tail).tail HpDels.nil))) (lt_dec rfl) fun x49_2 _ => ?_)
    refine Ops_nil ?_
    refine W_ret ?_
    refine Exists.intro _ (And.intro (.nil) (Exists.intro x49_2 (And.intro ?_ (And.intro ?_ (And.intro (.cons ((HpDel.head).tail).tail rfl (fun _ h => h) (.cons ((HpDel.head).tail).tail rfl (fun _ h => h) .nil)) rfl)))))
    ·trivial
    ·rfl
   ·try simp only [bs] at h3
    have hs : (siB (Gr.hs g) (Gr.ld g) n (n - (k + 1)) (k + 1) (restP g n k p)) = true := (by simpa using h3); have hfin := look_si hE hh hs
    refine W_skip ?_
    refine W_ret ?_
    refine Exists.intro _ (And.intro (.nil) (Exists.intro y (And.intro ?_ (And.intro ?_ (And.intro (.cons ((HpDel.head).tail).tail rfl (by rw [← hfin]; exact fun _ h => h) (.cons ((HpDel.head).tail).tail (by rw [← hfin]) (by rw [← hfin]; exact fun _ h => h) .nil)) rfl)))))
    ·trivial
    ·rfl
 ·try simp only [bs] at h1
  have hh : g.hs (10 * k + (p k).val) = false := h1
  refine W_skip ?_
  refine W_seq ?_
  refine W_draw (by kernel_rfl) ?_
  show RA _ _ 17 _ _ _
  refine RA_take 3 rfl rfl rfl (by kernel_rfl) (by kernel_rfl) (by kernel_rfl) (p_move rfl) (lt_dec rfl) ?_
  refine RA_take 4 rfl rfl rfl (by kernel_rfl) (by kernel_rfl) (by kernel_rfl) (p_move rfl) (lt_dec rfl) ?_
  refine RA_take 5 rfl rfl rfl (by kernel_rfl) (by kernel_rfl) (by kernel_rfl) (p_move rfl) (lt_dec rfl) ?_
  refine RA_take 12 rfl rfl rfl (by kernel_rfl) (by kernel_rfl) (by kernel_rfl) (p_nilCheck rfl) (lt_dec rfl) ?_
  refine RA_take 13 rfl rfl rfl (by kernel_rfl) (by kernel_rfl) (by kernel_rfl) (p_fieldAddr rfl rfl rfl rfl rfl rfl) (lt_dec rfl) ?_
  refine RA_take 14 rfl rfl rfl (by kernel_rfl) (by kernel_rfl) (by kernel_rfl) (p_ixN 10 k rfl rfl rfl rfl rfl rfl (by first | omega | exact Fin.isLt _ | (dsimp only; omega))) (lt_dec rfl) ?_
  refine RA_quiet (g := 3) [0, 1, 2, 6, 7, 8, 9, 10] (by kernel_rfl) (by kernel_rfl) (by kernel_rfl) (by kernel_rfl) ?_
  refine WQ_cons rfl rfl rfl ((p_move rfl).q) (lt_dec rfl) ?_
  refine WQ_cons rfl rfl rfl ((p_move rfl).q) (lt_dec rfl) ?_
  refine WQ_cons rfl rfl rfl ((p_move rfl).q) (lt_dec rfl) ?_
  refine WQ_cons rfl rfl rfl ((q_load rfl rfl m0 rfl (by first | exact True.intro | omega | exact Fin.isLt _ | trivial | (dsimp only; omega)))) (lt_dec rfl) ?_
  refine WQ_cons rfl rfl rfl ((p_nilCheck rfl).q) (lt_dec rfl) ?_
  refine WQ_cons rfl rfl rfl ((p_fieldAddr rfl rfl rfl rfl rfl rfl).q) (lt_dec rfl) ?_
  refine WQ_cons rfl rfl rfl ((p_ixN 100 k rfl rfl rfl rfl rfl rfl (by first | omega | exact Fin.isLt _ | (dsimp only; omega))).q) (lt_dec rfl) ?_
  refine WQ_cons rfl rfl rfl ((p_ixNs 10 (p k).val rfl rfl rfl rfl rfl rfl (by first | omega | exact Fin.isLt _ | (dsimp only; omega))).q) (lt_dec rfl) ?_
  refine WQ_nil ?_
  refine RA_one 11 rfl rfl (by kernel_rfl) (x_store rfl rfl rfl rfl rfl ((HpRep.head).tail) rfl (by first | trivial | (first | (first | omega | (dsimp only; omega)) | exact Fin.isLt _)) ?_)
  refine RA_quiet (g := 1) [15] (by kernel_rfl) (by kernel_rfl) (by kernel_rfl) (by kernel_rfl) ?_
  first | refine WQ_cons rfl rfl rfl ((p_ix1 (p k).val rfl rfl rfl rfl rfl rfl (by first | omega | exact Fin.isLt _ | (dsimp only; omega))).q) (lt_dec rfl) ?_ | refine WQ_cons rfl rfl rfl ((p_ix1s (p k).val rfl rfl rfl rfl rfl rfl (by first | omega | exact Fin.isLt _ | (dsimp only; omega))).q) (lt_dec rfl) ?_
  refine WQ_nil ?_
  refine RA_one 16 rfl rfl (by kernel_rfl) (x_store rfl rfl rfl rfl rfl ((HpRep.head).tail) rfl (by first | trivial | (first | (first | omega | (dsimp only; omega)) | exact Fin.isLt _)) ?_)
  refine RA_done (by kernel_rfl) ?_
  refine W_seq ?_
  refine W_region ?_
  refine o_as rfl rfl ?_
  refine Ops_nil ?_
  refine W_block ?_
  refine W_loop (α := Nat × Gr × (Nat → V1)) (fun zz0 => ⟨[(0, .ptr bg 0 none), (1, .int .i64 (k : Int)), (2, .arr8 10 p), (5, .ptr b5_1 0 none), (6, .u8 (p k)), (8, .int .i64 ((zz0.1) : Int)), (19, .bool (Gr.hs g (10 * k + (p k).val)))], [.var b5_1 (.arr8 10 p), .var bg (.agg [.int .i64 (n : Int), .varr 10 (gvF (zz0.2.2)) (gvH (zz0.2.2)), .arr8 1000 (Gr.ld (zz0.2.1)), .barr 100 (Gr.hs (zz0.2.1))]), poolG 33 (zz0.2.2) (Gr.md (zz0.2.1))]⟩) (fun zz0 => (zz0.1) ≤ (Gr.md g k).length ∧ GOk n (zz0.2.1) ∧ Gr.md (zz0.2.1) k = Gr.md g k ∧ lksL (lookF n f') n k p (List.drop (zz0.1) (Gr.md g k)) (zz0.2.1) = some g1) (fun zz0 => (Gr.md g k).length - (zz0.1)) (0, Gr.lead g k p, y) ?_ ?_ ?_
  ·exact ⟨Nat.zero_le _, hG.lead hp hk, rfl, look_nw hE hh⟩
  ·exact Wk.intro (.c rfl (.c rfl (.c rfl (.c rfl (.c rfl (.cons rfl (by first | rfl | exact veq_int (by first | omega | (dsimp only; omega))) (.c rfl .nil))))))) (.keep rfl rfl (fun _ h => h) (.keep rfl rfl (imp_var rfl rfl) (.keep rfl rfl (fun _ h => h) .nil)))
  ·rintro ⟨i, g2, y2⟩ ⟨hi, hG2, hM2, hI⟩
   try dsimp only at *
   refine W_seq ?_
   refine W_seq ?_
   refine W_region ?_
   refine o_mv rfl rfl ?_
   refine o_mv rfl rfl ?_
   refine o_mv rfl rfl ?_
   refine Ops_p (p_nilCheck rfl) (lt_dec rfl) ?_
   refine Ops_p (p_fieldAddr rfl rfl rfl rfl rfl rfl) (lt_dec rfl) ?_
   first | refine Ops_p (p_ix1 k rfl rfl rfl rfl rfl rfl (by first | omega | exact Fin.isLt _ | (dsimp only; omega))) (lt_dec rfl) ?_ | refine Ops_p (p_ix1s k rfl rfl rfl rfl rfl rfl (by first | omega | exact Fin.isLt _ | (dsimp only; omega))) (lt_dec rfl) ?_
   refine Ops_q (q_load rfl rfl m1 rfl (by first | exact True.intro | omega | exact Fin.isLt _ | trivial | (dsimp only; omega))) (lt_dec rfl) ?_
   refine Ops_q ((q_lenR rfl rfl rfl (Rds.poolG m2 (by omega))).eq (d' := .int .i64 ((List.length (Gr.md g k) : Nat) : Int)) (veq_int (by rw [← hM2]; rfl))) (lt_dec rfl) ?_
   refine Ops_p (p_lss rfl rfl) (lt_dec rfl) ?_
   refine Ops_nil ?_
   refine W_cond rfl (fun h4 => ?_) (fun h4 => ?_)
   ·try simp only [bs] at h4
    refine W_skip ?_
    refine W_seq ?_
    refine W_block ?_
    have hgp : IsPerm (List.getD (Gr.md g k) i (fun _ => 0)) (n : Int) := hG.md k _ (gdm (by omega))
    obtain ⟨g3, hg3, hrest⟩ := lksL_s hI (i := i) (by omega)
    refine W_draw (by kernel_rfl) ?_
    show RA _ _ 18 _ _ _
    refine RA_quiet (g := 1) [0, 1, 2, 3, 4, 5, 6, 7, 8, 9, 10, 11, 12, 13, 14, 15, 16] (by kernel_rfl) (by kernel_rfl) (by kernel_rfl) (by kernel_rfl) ?_
    refine WQ_cons rfl rfl rfl ((p_move rfl).q) (lt_dec rfl) ?_
    refine WQ_cons rfl rfl rfl ((p_move rfl).q) (lt_dec rfl) ?_
    refine WQ_cons rfl rfl rfl ((q_load rfl rfl m0 rfl (by first | exact True.intro | omega | exact Fin.isLt _ | trivial | (dsimp only; omega)))) (lt_dec rfl) ?_
    refine WQ_cons rfl rfl rfl ((p_move rfl).q) (lt_dec rfl) ?_
    refine WQ_cons rfl rfl rfl ((p_move rfl).q) (lt_dec rfl) ?_
    refine WQ_cons rfl rfl rfl ((p_nilCheck rfl).q) (lt_dec rfl) ?_
    refine WQ_cons rfl rfl rfl ((p_fieldAddr rfl rfl rfl rfl rfl rfl).q) (lt_dec rfl) ?_
    first | refine WQ_cons rfl rfl rfl ((p_ix1 k rfl rfl rfl rfl rfl rfl (by first | omega | exact Fin.isLt _ | (dsimp only; omega))).q) (lt_dec rfl) ?_ | refine WQ_cons rfl rfl rfl ((p_ix1s k rfl rfl rfl rfl rfl rfl (by first | omega | exact Fin.isLt _ | (dsimp only; omega))).q) (lt_dec rfl) ?_
    refine WQ_cons rfl rfl rfl ((q_load rfl rfl m1 rfl (by first | exact True.intro | omega | exact Fin.isLt _ | trivial | (dsimp only; omega)))) (lt_dec rfl) ?_
    refine WQ_cons rfl rfl rfl ((p_move rfl).q) (lt_dec rfl) ?_
    refine WQ_cons rfl rfl rfl ((q_ixR i rfl rfl rfl (Rds.poolG m2 (by omega)) rfl rfl (by show _ < List.length _; rw [hM2]; omega) rfl)) (lt_dec rfl) ?_
    refine WQ_cons rfl rfl rfl (((q_loadR (j := i) rfl rfl (Rds.poolG m2 (by omega)) rfl rfl (by show _ < List.length _; rw [hM2]; omega) rfl rfl rfl).eq (d' := .arr8 10 (List.getD (Gr.md g k) i (fun _ => 0))) (by rw [hM2]))) (lt_dec rfl) ?_
    refine WQ_cons rfl rfl rfl ((p_move rfl).q) (lt_dec rfl) ?_
    refine WQ_cons rfl rfl rfl ((p_nilCheck rfl).q) (lt_dec rfl) ?_
    refine WQ_cons rfl rfl rfl ((p_fieldAddr rfl rfl rfl rfl rfl rfl).q) (lt_dec rfl) ?_
    refine WQ_cons rfl rfl rfl ((q_load rfl rfl m1 rfl (by first | exact True.intro | omega | exact Fin.isLt _ | trivial | (dsimp only; omega)))) (lt_dec rfl) ?_
    refine WQ_cons rfl rfl rfl ((q_call en_impl_then rfl (w_impl_then hp) (View.none _))) (lt_dec rfl) ?_
    refine WQ_nil ?_
    refine RA_one 17 rfl rfl (by kernel_rfl) (x_callT en_pimpl_group_look rfl ((ih f' k (thenT p (List.getD (Gr.md g k) i (fun _ => 0)) n) g2 g3 y2 hk (thenT_perm hp hgp) hG2 hg3 (by omega))) (HpDels.cons (HpDel.head).tail (HpDels.cons (HpDel.head).tail HpDels.nil)) (Vw.none _) (fun _ => (HpDels.cons (HpDel.head).tail (HpDels.cons (HpDel.head).tail HpDels.nil))) (lt_dec rfl) fun x93_1 _ => ?_)
    refine RA_done (by kernel_rfl) ?_
    refine W_region ?_
    refine o_mv rfl rfl ?_
    refine Ops_p (p_add rfl rfl (by refine ⟨?_, ?_⟩ <;> first | omega | (dsimp only; omega))) (lt_dec rfl) ?_
    refine o_as rfl rfl ?_
    refine Ops_nil ?_
    refine Exists.intro (i + 1, g3, x93_1) (And.intro ?_ (And.intro ?_ ?_))
    ·exact ⟨by show _ ≤ _; omega, (lookF_keeps f' k _ g2 g3 hk (thenT_perm hp hgp) hG2 hg3).1, ((lookF_keeps f' k _ g2 g3 hk (thenT_perm hp hgp) hG2 hg3).2 k (Nat.le_refl _)).trans hM2, hrest⟩
    ·show _ < _; omega
    ·exact Wk.intro (.c rfl (.c rfl (.c rfl (.c rfl (.c rfl (.cons rfl (by first | rfl | exact veq_int (by first | omega | (dsimp only; omega))) (.c rfl .nil))))))) (.keep rfl rfl (fun _ h => h) (.keep rfl rfl (fun _ h => h) (.keep rfl rfl (fun _ h => h) .nil)))
   ·try simp only [bs] at h4
    have hfin := lksL_e hI (i := i) (by omega)
    refine W_exit ?_
    refine Exists.intro _ (And.intro (.nil) (Exists.intro y2 (And.intro ?_ (And.intro ?_ (And.intro (.cons (HpDel.head).tail rfl (by rw [← hfin]; exact fun _ h => h) (.cons (HpDel.head).tail (by rw [← hfin]) (by rw [← hfin]; exact fun _ h => h) .nil)) rfl)))))
    ·trivial
    ·rfl
theorem w_pimpl_group_look {n bg : Nat} {f k : Nat} {p : Nat → Fin 256} {g g1 : Gr} {y : Nat → V1} (hk : k < n) (hp : IsPerm p (n : Int)) (hG : GOk n g) (hE : lookF n f k p g = some g1) : CT (X := Nat → V1) Try.prog 70 (vals [.ptr bg 0 none, .int .i64 (k : Int), .arr8 10 p]) [.var bg (.agg [.int .i64 (n : Int), .varr 10 (gvF y) (gvH y), .arr8 1000 (Gr.ld g), .barr 100 (Gr.hs g)]), poolG 33 y (Gr.md g)] [] (fun x => True) (fun x => .tup []) (fun x => [.var bg (.agg [.int .i64 (n : Int), .varr 10 (gvF x) (gvH x), .arr8 1000 (Gr.ld g1), .barr 100 (Gr.hs g1)]), poolG 33 x (Gr.md g1)]) := w_pimpl_group_look_all (n := n) (bg := bg) _ f k p g g1 y hk hp hG hE (Nat.lt_succ_self _)
end Go.Proofs.Ytjihhcjpbcmjaaa
end
section
namespace Go.Proofs.Ytjihhcjpbcmjaaa
open Go Gx
set_option linter.unusedVariables false
theorem en_impl_identity : Enters Try.prog 54 := enters_of Try.func54 (by kernel_rfl) (by kernel_rfl)
set_option maxRecDepth 100000 in
theorem w_impl_identity {n : Nat} (hn : n ≤ 10) : CR Try.prog 54 (vals [.int .i64 (n : Int)]) [] (.arr8 10 (idT n)) := by
 refine CR_intro (rs := [.cell 2 33]) tt tok Try.func54 rfl rfl rfl (by first | rfl | assumption) fun w => ?_
 refine W_seq ?_
 refine W_region ?_
 refine Ops_x rfl (x_alloc rfl (lt_dec rfl) fun b2_1 => ?_)
 refine Ops_nil ?_
 refine W_seq ?_
 refine W_region ?_
 refine Ops_p (p_build_arr rfl rfl rfl rfl (by first | exact True.intro | omega | exact Fin.isLt _ | trivial | (dsimp only; omega))) (lt_dec rfl) ?_
 refine Ops_x rfl (x_alloc rfl (lt_dec rfl) fun b3_1 => ?_)
 refine Ops_x rfl (x_store rfl rfl rfl rfl rfl HpRep.head rfl (by first | trivial | (first | (first | omega | (dsimp only; omega)) | exact Fin.isLt _)) ?_)
 refine Ops_nil ?_
 refine W_seq ?_
 refine W_seq ?_
 refine W_region ?_
 refine o_mv rfl rfl ?_
 refine o_mv rfl rfl ?_
 refine Ops_nil ?_
 refine W_block ?_
 refine W_loop (α := Nat) (fun i => ⟨[(0, .int .i64 (n : Int)), (2, .ptr b2_1 0 none), (3, .ptr b3_1 0 none), (6, .int .i64 (n : Int)), (7, .int .i64 (i : Int))], [.var b3_1 (.arr8 10 (idT i)), .var b2_1 (.arr8 10 fun _ => 0)]⟩) (fun i => i ≤ n) (fun i => n - i) 0 ?_ ?_ ?_
 ·show _ ≤ _; omega
 ·exact Wk.intro (.c rfl (.c rfl (.c rfl (.c rfl (.cons rfl (by first | rfl | exact veq_int (by first | omega | (dsimp only; omega))) .nil))))) (.keep rfl rfl (imp_var (by exact ceq_arr8 fun j hj => rfl) rfl) (.keep rfl rfl (fun _ h => h) .nil))
 ·rintro i hR
  refine W_seq ?_
  refine W_region ?_
  refine Ops_p (p_lss rfl rfl) (lt_dec rfl) ?_
  refine Ops_nil ?_
  refine W_seq ?_
  refine W_cond rfl (fun h1 => ?_) (fun h1 => ?_)
  ·try simp only [bs] at h1
   refine W_skip ?_
   refine W_seq ?_
   refine W_block ?_
   refine W_seq ?_
   refine W_region ?_
   refine o_mv rfl rfl ?_
   refine o_as rfl rfl ?_
   refine Ops_nil ?_
   refine W_region ?_
   refine o_mv rfl rfl ?_
   refine o_mv rfl rfl ?_
   refine Ops_p ((p_conv rfl rfl rfl (by exact ⟨by omega, by omega⟩)).eq (veq_byte (by omega))) (lt_dec rfl) ?_
   first | refine Ops_p (p_ix1 _ rfl rfl rfl rfl rfl rfl (by first | omega | exact Fin.isLt _ | (dsimp only; omega))) (lt_dec rfl) ?_ | refine Ops_p (p_ix1s _ rfl rfl rfl rfl rfl rfl (by first | omega | exact Fin.isLt _ | (dsimp only; omega))) (lt_dec rfl) ?_
   refine Ops_x rfl (x_store rfl rfl rfl rfl rfl HpRep.head rfl (by first | trivial | (first | (first | omega | (dsimp only; omega)) | exact Fin.isLt _)) ?_)
   refine Ops_nil ?_
   refine W_region ?_
   refine Ops_p (p_add rfl rfl (by refine ⟨?_, ?_⟩ <;> first | omega | (dsimp only; omega))) (lt_dec rfl) ?_
   refine o_mv rfl rfl ?_
   refine Ops_nil ?_
   refine Exists.intro (i + 1) (And.intro ?_ (And.intro ?_ ?_))
   ·show _ ≤ _; omega
   ·show _ < _; omega
   ·exact Wk.intro (.c rfl (.c rfl (.c rfl (.c rfl (.cons rfl (by first | rfl | exact veq_int (by first | omega | (dsimp only; omega))) .nil))))) (.keep rfl rfl (imp_var (by exact ceq_arr8 fun j hj => idT_step j) rfl) (.keep rfl rfl (fun _ h => h) .nil))
  ·try simp only [bs] at h1
   obtain rfl : i = n := (by omega)
   refine W_exit ?_
   refine W_seq ?_
   refine W_region ?_
   refine Ops_q (q_load rfl rfl m0 rfl (by first | exact True.intro | omega | exact Fin.isLt _ | trivial | (dsimp only; omega))) (lt_dec rfl) ?_
   refine Ops_x rfl (x_store rfl rfl rfl rfl rfl ((HpRep.head).tail) rfl (by first | trivial | (first | (first | omega | (dsimp only; omega)) | exact Fin.isLt _)) ?_)
   refine Ops_nil ?_
   refine W_ret ?_
   refine Exists.intro _ (And.intro (.cons (.cell rfl rfl m1 rfl trivial) .nil) ?_)
   rfl
end Go.Proofs.Ytjihhcjpbcmjaaa
end
section
namespace Go.Proofs.Ytjihhcjpbcmjaaa
open Go Gx
set_option linter.unusedVariables false
theorem en_impl_groupOf : Enters Try.prog 30 := enters_of Try.func30 (by kernel_rfl) (by kernel_rfl)
set_option maxRecDepth 100000 in
set_option maxHeartbeats 2000000 in
theorem w_impl_groupOf {a : Value} {ha : a.oneCell' = true} {l : List (Nat → Fin 256)} {n : Nat} (hp : PsOk l (n : Int)) (hl : l.length ≤ 1000) : CT (X := Gr × ((Nat → V1) × Nat)) Try.prog 30 (vals [.raw a ha, .int .i64 (n : Int)]) [] [rd a (.arrs 10 l)] (fun x => Done n (Prod.fst x) ∧ ∀ a, Gen (Gr.M n (Prod.fst x) 0) a ↔ Gen (Sp l n) a) (fun x => .ptr (Prod.snd (Prod.snd x)) 0 none) (fun x => [.var (Prod.snd (Prod.snd x)) (.agg [.int .i64 (n : Int), .varr 10 (gvF (Prod.fst (Prod.snd x))) (gvH (Prod.fst (Prod.snd x))), .arr8 1000 (Gr.ld (Prod.fst x)), .barr 100 (Gr.hs (Prod.fst x))])]) := by
 refine CT_intro (rs := [.tmp 4]) tt tok Try.func30 rfl rfl rfl (by first | rfl | assumption) fun w => ?_
 show W _ _ _ ⟨tmOf 0 [.raw a ha, .int .i64 (n : Int)], [rd a (.arrs 10 l)]⟩
 have hn := hp.1
 obtain ⟨fu, gE, hgE, hD, hGn⟩ := grp_law (n := n) (by omega) (by omega) hp.2
 refine W_seq ?_
 refine W_region ?_
 refine o_as rfl rfl ?_
 refine Ops_nil ?_
 refine W_seq ?_
 refine W_region ?_
 refine o_mv rfl rfl ?_
 refine Ops_p (p_build rfl rfl rfl rfl (by first | exact True.intro | omega | exact Fin.isLt _ | trivial | (dsimp only; omega))) (lt_dec rfl) ?_
 refine Ops_x rfl (x_box rfl rfl (lt_dec rfl) fun b11_1 => ?_)
 refine o_as rfl rfl ?_
 refine Ops_nil ?_
 refine W_seq ?_
 refine W_seq ?_
 refine W_free (poolG 33 (fun _ => (⟨.slice none 0 0, rfl⟩ : V1)) (fun _ => [])) rfl rfl (fun w k hk => (own_nil rfl rfl w)) ?_
 refine W_region ?_
 refine o_mv rfl rfl ?_
 refine o_mv rfl rfl ?_
 refine Ops_nil ?_
 refine W_block ?_
 refine W_loop (α := Nat) (fun k => ⟨[(0, .raw a ha), (1, .int .i64 (n : Int)), (5, .ptr b11_1 0 none), (12, .int .i64 (n : Int)), (13, .int .i64 (k : Int))], [poolG 33 (fun _ => (⟨.slice none 0 0, rfl⟩ : V1)) (fun _ => []), .var b11_1 (.agg [.int .i64 (n : Int), .varr 10 (gvF (fun _ => (⟨.slice none 0 0, rfl⟩ : V1))) (gvH (fun _ => (⟨.slice none 0 0, rfl⟩ : V1))), .arr8 1000 (Gr.ld (iniG n k)), .barr 100 (Gr.hs (iniG n k))]), rd a (.arrs 10 l)]⟩) (fun k => k ≤ n) (fun k => n - k) 0 ?_ ?_ ?_
 ·exact Nat.zero_le _
 ·exact Wk.intro (.c rfl (.c rfl (.c rfl (.c rfl (.cons rfl (by first | rfl | exact veq_int (by first | omega | (dsimp only; omega))) .nil))))) (.keep rfl rfl (fun _ h => h) (.keep rfl rfl (imp_var rfl rfl) (.keep rfl rfl (fun _ h => h) .nil)))
 ·rintro k hR
  refine W_seq ?_
  refine W_region ?_
  refine Ops_p (p_lss rfl rfl) (lt_dec rfl) ?_
  refine Ops_nil ?_
  refine W_seq ?_
  refine W_cond rfl (fun h1 => ?_) (fun h1 => ?_)
  ·try simp only [bs] at h1
   refine W_skip ?_
   refine W_seq ?_
   refine W_block ?_
   refine W_seq ?_
   refine W_region ?_
   refine o_mv rfl rfl ?_
   refine o_as rfl rfl ?_
   refine Ops_nil ?_
   refine W_draw (by kernel_rfl) ?_
   show RA _ _ 18 _ _ _
   refine RA_take 3 rfl rfl rfl (by kernel_rfl) (by kernel_rfl) (by kernel_rfl) (p_move rfl) (lt_dec rfl) ?_
   refine RA_take 4 rfl rfl rfl (by kernel_rfl) (by kernel_rfl) (by kernel_rfl) (p_move rfl) (lt_dec rfl) ?_
   refine RA_take 5 rfl rfl rfl (by kernel_rfl) (by kernel_rfl) (by kernel_rfl) (p_move rfl) (lt_dec rfl) ?_
   refine RA_take 13 rfl rfl rfl (by kernel_rfl) (by kernel_rfl) (by kernel_rfl) (p_nilCheck rfl) (lt_dec rfl) ?_
   refine RA_take 14 rfl rfl rfl (by kernel_rfl) (by kernel_rfl) (by kernel_rfl) (p_fieldAddr rfl rfl rfl rfl rfl rfl) (lt_dec rfl) ?_
   refine RA_take 15 rfl rfl rfl (by kernel_rfl) (by kernel_rfl) (by kernel_rfl) (p_ixN 10 k rfl rfl rfl rfl rfl rfl (by first | omega | exact Fin.isLt _ | (dsimp only; omega))) (lt_dec rfl) ?_
   refine RA_quiet (g := 3) [0, 1, 2, 6, 7, 8, 9, 10, 11] (by kernel_rfl) (by kernel_rfl) (by kernel_rfl) (by kernel_rfl) ?_
   refine WQ_cons rfl rfl rfl ((p_move rfl).q) (lt_dec rfl) ?_
   refine WQ_cons rfl rfl rfl ((p_move rfl).q) (lt_dec rfl) ?_
   refine WQ_cons rfl rfl rfl ((p_move rfl).q) (lt_dec rfl) ?_
   refine WQ_cons rfl rfl rfl ((p_move rfl).q) (lt_dec rfl) ?_
   refine WQ_cons rfl rfl rfl ((q_call en_impl_identity rfl (w_impl_identity (by omega)) (View.none _))) (lt_dec rfl) ?_
   refine WQ_cons rfl rfl rfl ((p_nilCheck rfl).q) (lt_dec rfl) ?_
   refine WQ_cons rfl rfl rfl ((p_fieldAddr rfl rfl rfl rfl rfl rfl).q) (lt_dec rfl) ?_
   refine WQ_cons rfl rfl rfl ((p_ixN 100 k rfl rfl rfl rfl rfl rfl (by first | omega | exact Fin.isLt _ | (dsimp only; omega))).q) (lt_dec rfl) ?_
   refine WQ_cons rfl rfl rfl ((p_ixNs 10 k rfl rfl rfl rfl rfl rfl (by first | omega | exact Fin.isLt _ | (dsimp only; omega))).q) (lt_dec rfl) ?_
   refine WQ_nil ?_
   refine RA_one 12 rfl rfl (by kernel_rfl) (x_store rfl rfl rfl rfl rfl ((HpRep.head).tail) rfl (by first | trivial | (first | (first | omega | (dsimp only; omega)) | exact Fin.isLt _)) ?_)
   refine RA_quiet (g := 1) [16] (by kernel_rfl) (by kernel_rfl) (by kernel_rfl) (by kernel_rfl) ?_
   first | refine WQ_cons rfl rfl rfl ((p_ix1 k rfl rfl rfl rfl rfl rfl (by first | omega | exact Fin.isLt _ | (dsimp only; omega))).q) (lt_dec rfl) ?_ | refine WQ_cons rfl rfl rfl ((p_ix1s k rfl rfl rfl rfl rfl rfl (by first | omega | exact Fin.isLt _ | (dsimp only; omega))).q) (lt_dec rfl) ?_
   refine WQ_nil ?_
   refine RA_one 17 rfl rfl (by kernel_rfl) (x_store rfl rfl rfl rfl rfl ((HpRep.head).tail) rfl (by first | trivial | (first | (first | omega | (dsimp only; omega)) | exact Fin.isLt _)) ?_)
   refine RA_done (by kernel_rfl) ?_
   refine W_region ?_
   refine Ops_p (p_add rfl rfl (by refine ⟨?_, ?_⟩ <;> first | omega | (dsimp only; omega))) (lt_dec rfl) ?_
   refine o_mv rfl rfl ?_
   refine Ops_nil ?_
   refine Exists.intro (k + 1) (And.intro ?_ (And.intro ?_ ?_))
   ·show _ ≤ _; omega
   ·show _ < _; omega
   ·exact Wk.intro (.c rfl (.c rfl (.c rfl (.c rfl (.cons rfl (by first | rfl | exact veq_int (by first | omega | (dsimp only; omega))) .nil))))) (.keep rfl rfl (fun _ h => h) (.keep rfl rfl (imp_var (by rw [ini_ld (by omega) (by omega), ini_hs (by omega) (by omega)]) rfl) (.keep rfl rfl (fun _ h => h) .nil)))
  ·try simp only [bs] at h1
   have ekn : n = k := (by omega)
   subst ekn
   refine W_exit ?_
   refine W_seq ?_
   refine W_seq ?_
   refine W_region ?_
   refine o_mv rfl rfl ?_
   refine Ops_q ((q_lenR rfl rfl rfl (Rds.rd m2)).eq (d' := .int .i64 ((l.length : Nat) : Int)) rfl) (lt_dec rfl) ?_
   refine o_mv rfl rfl ?_
   refine Ops_nil ?_
   refine W_block ?_
   refine W_loop (α := Nat × Gr × (Nat → V1)) (fun zz1 => ⟨[(0, .raw a ha), (1, .int .i64 (n : Int)), (5, .ptr b11_1 0 none), (12, .int .i64 (n : Int)), (33, .raw a ha), (34, .int .i64 (l.length : Int)), (35, .int .i64 ((zz1.1) : Int))], [poolG 33 (zz1.2.2) (Gr.md (zz1.2.1)), .var b11_1 (.agg [.int .i64 (n : Int), .varr 10 (gvF (zz1.2.2)) (gvH (zz1.2.2)), .arr8 1000 (Gr.ld (zz1.2.1)), .barr 100 (Gr.hs (zz1.2.1))]), rd a (.arrs 10 l)]⟩) (fun zz1 => (zz1.1) ≤ l.length ∧ GOk n (zz1.2.1) ∧ grpL n fu (List.drop (zz1.1) l) (zz1.2.1) = some gE) (fun zz1 => l.length - (zz1.1)) (0, iniG n n, (fun _ => (⟨.slice none 0 0, rfl⟩ : V1))) ?_ ?_ ?_
   ·exact ⟨Nat.zero_le _, ini_ok (by omega) (by omega) n (Nat.le_refl _), hgE⟩
   ·exact Wk.intro (.c rfl (.c rfl (.c rfl (.c rfl (.c rfl (.c rfl (.cons rfl (by first | rfl | exact veq_int (by first | omega | (dsimp only; omega))) .nil))))))) (.keep rfl rfl (by rw [show Gr.md (iniG n n) = fun _ => [] from funext (ini_md n n)]; exact fun _ h => h) (.keep rfl rfl (fun _ h => h) (.keep rfl rfl (fun _ h => h) .nil)))
   ·rintro ⟨i, g2, y2⟩ ⟨hi, hG2, hI⟩
    try dsimp only at *
    refine W_seq ?_
    refine W_region ?_
    refine Ops_p (p_lss rfl rfl) (lt_dec rfl) ?_
    refine Ops_nil ?_
    refine W_seq ?_
    refine W_cond rfl (fun h2 => ?_) (fun h2 => ?_)
    ·try simp only [bs] at h2
     refine W_skip ?_
     refine W_seq ?_
     refine W_block ?_
     refine W_seq ?_
     have hgp := hp.at (k := i) (by omega)
     refine W_region ?_
     refine Ops_q (q_ixR i rfl rfl rfl (Rds.rd m2) rfl rfl (by first | (show _ < List.length _; omega) | (show _ < List.length _; first | omega | (dsimp only; omega))) rfl) (lt_dec rfl) ?_
     refine Ops_q (q_loadR rfl rfl (Rds.rd m2) rfl rfl (by first | (show _ < List.length _; omega) | (show _ < List.length _; first | omega | (dsimp only; omega))) rfl rfl rfl) (lt_dec rfl) ?_
     refine Ops_x rfl (x_alloc rfl (lt_dec rfl) fun b8_1 => ?_)
     refine Ops_x rfl (x_store rfl rfl rfl rfl rfl HpRep.head rfl (by first | trivial | (first | (first | omega | (dsimp only; omega)) | exact Fin.isLt _)) ?_)
     refine Ops_nil ?_
     refine W_seq ?_
     refine W_region ?_
     refine o_mv rfl rfl ?_
     refine Ops_q (q_load rfl rfl m0 rfl (by first | exact True.intro | omega | exact Fin.isLt _ | trivial | (dsimp only; omega))) (lt_dec rfl) ?_
     refine Ops_q (q_call en_pimpl_group_has rfl (w_pimpl_group_has (n := n) (gv := gvF y2) (hgv := gvH y2) (p := (l.getD i fun _ => 0)) (k := 0) hgp (Nat.zero_le _) hG2.ld) (View.var m2)) (lt_dec rfl) ?_
     refine Ops_p (p_not rfl) (lt_dec rfl) ?_
     refine Ops_nil ?_
     refine W_cond rfl (fun h3 => ?_) (fun h3 => ?_)
     ·try simp only [bs] at h3
      have hs : (siB (Gr.hs g2) (Gr.ld g2) n n 0 (l.getD i fun _ => 0)) = false := h3; obtain ⟨g3, hg3, hrest⟩ := grpL_a hI (by omega) hs
      refine W_region ?_
      refine o_mv rfl rfl ?_
      refine Ops_q (q_load rfl rfl m0 rfl (by first | exact True.intro | omega | exact Fin.isLt _ | trivial | (dsimp only; omega))) (lt_dec rfl) ?_
      refine Ops_x rfl (x_callT en_pimpl_group_add rfl (w_pimpl_group_add (lk := lookF n fu) (n := n) (bg := b11_1) (k := 0) (p := (l.getD i fun _ => 0)) (g := g2) (g1 := g3) (y := y2) (by omega) hgp hG2 hg3 (lookF_keeps fu) en_pimpl_group_look (fun k p g g1 y a b c d => w_pimpl_group_look a b c d)) (HpDels.cons ((HpDel.head).tail).tail (HpDels.cons (HpDel.head).tail HpDels.nil)) (Vw.none _) (fun _ => (HpDels.cons ((HpDel.head).tail).tail (HpDels.cons (HpDel.head).tail HpDels.nil))) (lt_dec rfl) fun x45_1 _ => ?_)
      refine Ops_nil ?_
      refine W_region ?_
      refine Ops_p (p_add rfl rfl (by refine ⟨?_, ?_⟩ <;> first | omega | (dsimp only; omega))) (lt_dec rfl) ?_
      refine o_mv rfl rfl ?_
      refine Ops_nil ?_
      refine Exists.intro (i + 1, g3, x45_1) (And.intro ?_ (And.intro ?_ ?_))
      ·first | exact ⟨by show _ ≤ _; omega, (addS_keeps (lookF_keeps fu) (by omega) hgp hG2 hg3).1, hrest⟩ | exact ⟨by show _ ≤ _; omega, hG2, hrest⟩
      ·show _ < _; omega
      ·exact Wk.intro (.c rfl (.c rfl (.c rfl (.c rfl (.c rfl (.c rfl (.cons rfl (by first | rfl | exact veq_int (by first | omega | (dsimp only; omega))) .nil))))))) (.drop (.keep rfl rfl (fun _ h => h) (.keep rfl rfl (fun _ h => h) (.keep rfl rfl (fun _ h => h) .nil))))
     ·try simp only [bs] at h3
      have hrest := grpL_h hI (by omega) h3
      refine W_skip ?_
      refine W_region ?_
      refine Ops_p (p_add rfl rfl (by refine ⟨?_, ?_⟩ <;> first | omega | (dsimp only; omega))) (lt_dec rfl) ?_
      refine o_mv rfl rfl ?_
      refine Ops_nil ?_
      refine Exists.intro (i + 1, g2, y2) (And.intro ?_ (And.intro ?_ ?_))
      ·first | exact ⟨by show _ ≤ _; omega, (addS_keeps (lookF_keeps fu) (by omega) hgp hG2 hg3).1, hrest⟩ | exact ⟨by show _ ≤ _; omega, hG2, hrest⟩
      ·show _ < _; omega
      ·exact Wk.intro (.c rfl (.c rfl (.c rfl (.c rfl (.c rfl (.c rfl (.cons rfl (by first | rfl | exact veq_int (by first | omega | (dsimp only; omega))) .nil))))))) (.drop (.keep rfl rfl (fun _ h => h) (.keep rfl rfl (fun _ h => h) (.keep rfl rfl (fun _ h => h) .nil))))
    ·try simp only [bs] at h2
     have hfin := grpL_e hI (by omega)
     refine W_exit ?_
     refine W_seq ?_
     refine W_region ?_
     refine o_mv rfl rfl ?_
     refine o_as rfl rfl ?_
     refine Ops_nil ?_
     refine W_ret ?_
     refine Exists.intro _ (And.intro (.cons (.tmp rfl) .nil) (Exists.intro (gE, (y2, b11_1)) (And.intro ?_ (And.intro ?_ (And.intro (.cons (HpDel.head).tail rfl (by rw [← hfin]; exact fun _ h => h) .nil) rfl)))))
     ·exact ⟨hD, hGn⟩
     ·rfl
end Go.Proofs.Ytjihhcjpbcmjaaa
end
section
namespace Go.Proofs.Ytjihhcjpbcmjaaa
open Go Gx
set_option linter.unusedVariables false
theorem en_impl_GroupOrder : Enters Try.prog 9 := enters_of Try.func9 (by kernel_rfl) (by kernel_rfl)
set_option maxRecDepth 100000 in
theorem w_impl_GroupOrder {a : Value} {ha : a.oneCell' = true} {l : List (Nat → Fin 256)} {n : Int} (hl : l.length ≤ 1048576) : CR Try.prog 9 (vals [.raw a ha, .int .i64 n]) [rd a (.arrs 10 l)] (.tup [.int .i64 (goV l n), .int .i64 (psC l n)]) := by
 refine CR_intro (rs := [.tmp 4, .tmp 5]) tt tok Try.func9 rfl rfl rfl (by first | rfl | assumption) fun w => ?_
 refine W_seq ?_
 refine W_region ?_
 refine o_as rfl rfl ?_
 refine o_as rfl rfl ?_
 refine Ops_nil ?_
 refine W_seq ?_
 refine W_seq ?_
 refine W_region ?_
 refine o_mv rfl rfl ?_
 refine o_mv rfl rfl ?_
 refine Ops_q (q_call en_impl_groupCodeVN rfl (w_impl_groupCodeVN (by first | assumption | (first | omega | (dsimp only; omega)) | (simp; done) | decide)) (Vw.rd m0).v) (lt_dec rfl) ?_
 refine o_as rfl rfl ?_
 refine Ops_nil ?_
 refine W_seq ?_
 refine W_region ?_
 refine o_mv rfl rfl ?_
 refine Ops_p (p_neq rfl rfl) (lt_dec rfl) ?_
 refine Ops_nil ?_
 refine W_cond rfl (fun h1 => ?_) (fun h1 => ?_)
 ·try simp only [bs] at h1
  have h0 : psC l n ≠ 0 := (fun e => h1 e)
  refine W_seq ?_
  refine W_region ?_
  refine o_mv rfl rfl ?_
  refine o_as rfl rfl ?_
  refine o_as rfl rfl ?_
  refine Ops_nil ?_
  refine W_ret ?_
  refine Exists.intro _ (And.intro (.cons (.tmp rfl) (.cons (.tmp rfl) .nil)) ?_)
  first | rfl | (exact veq_tup2 (veq_int (goV_n h0).symm) rfl) | (exact veq_tup2 (veq_int ((congrArg _ (ordD (psC_ok h0).1 hx1.1 hx1.2)).trans (goV_0 h0).symm)) (veq_int h0.symm))
 ·try simp only [bs] at h1
  have h0 : psC l n = 0 := (by omega); obtain ⟨m, rfl⟩ := psn h0
  refine W_skip ?_
  refine W_seq ?_
  refine W_region ?_
  refine o_mv rfl rfl ?_
  refine o_mv rfl rfl ?_
  refine Ops_x rfl (x_callT en_impl_groupOf rfl (w_impl_groupOf (n := m) (psC_ok h0).1 (by have := (psC_ok h0).2; omega)) HpDels.nil (Vw.rd m0) (fun _ => (HpDels.cons HpDel.head HpDels.nil)) (lt_dec rfl) fun x15_1 hx1 => ?_)
  refine Ops_q (q_call en_pimpl_group_order rfl (w_pimpl_group_order (by have := (psC_ok h0).1.1; omega)) (View.var m0)) (lt_dec rfl) ?_
  refine o_as rfl rfl ?_
  refine o_as rfl rfl ?_
  refine Ops_nil ?_
  refine W_ret ?_
  refine Exists.intro _ (And.intro (.cons (.tmp rfl) (.cons (.tmp rfl) .nil)) ?_)
  first | rfl | (exact veq_tup2 (veq_int (goV_n h0).symm) rfl) | (exact veq_tup2 (veq_int ((congrArg _ (ordD (psC_ok h0).1 hx1.1 hx1.2)).trans (goV_0 h0).symm)) (veq_int h0.symm))
end Go.Proofs.Ytjihhcjpbcmjaaa
end
section
namespace Go.Proofs.Ytjihhcjpbcmjaaa
open Go Gx
set_option linter.unusedVariables false
theorem en_impl_InGroup : Enters Try.prog 13 := enters_of Try.func13 (by kernel_rfl) (by kernel_rfl)
set_option maxRecDepth 100000 in
set_option maxHeartbeats 1000000 in
theorem w_impl_InGroup {a : Value} {ha : a.oneCell' = true} {l : List (Nat → Fin 256)} {n : Int} {p : Nat → Fin 256} (hl : l.length ≤ 1048576) : CR Try.prog 13 (vals [.raw a ha, .int .i64 n, .arr8 10 p]) [rd a (.arrs 10 l)] (.tup [.bool (inV l n p), .int .i64 (inK l n p)]) := by
 refine CR_intro (rs := [.tmp 6, .tmp 7]) tt tok Try.func13 rfl rfl rfl (by first | rfl | assumption) fun w => ?_
 refine W_seq ?_
 refine W_region ?_
 refine Ops_x rfl (x_box rfl rfl (lt_dec rfl) fun b5_1 => ?_)
 refine o_as rfl rfl ?_
 refine o_as rfl rfl ?_
 refine Ops_nil ?_
 refine W_seq ?_
 refine W_region ?_
 refine o_mv rfl rfl ?_
 refine o_mv rfl rfl ?_
 refine Ops_q (q_call en_impl_groupCodeVN rfl (w_impl_groupCodeVN (by first | assumption | (first | omega | (dsimp only; omega)) | (simp; done) | decide)) (Vw.rd m1).v) (lt_dec rfl) ?_
 refine o_as rfl rfl ?_
 refine Ops_nil ?_
 refine W_seq ?_
 refine W_block ?_
 refine W_seq ?_
 refine W_region ?_
 refine o_mv rfl rfl ?_
 refine Ops_q (q_call en_impl_within rfl (w_impl_within) (View.none _)) (lt_dec rfl) ?_
 refine o_mv rfl rfl ?_
 refine Ops_guard rfl rfl (lt_dec rfl) (fun hg1 => ?_) (fun hg1 => ?_)
 ·try simp only [bs] at hg1
  refine Ops_q (q_load rfl rfl m0 rfl (by first | exact True.intro | omega | exact Fin.isLt _ | trivial | (dsimp only; omega))) (lt_dec rfl) ?_
  refine Ops_guard_t rfl rfl (lt_dec rfl) ?_
  refine o_mv rfl rfl ?_
  refine Ops_guard_t rfl rfl (lt_dec rfl) ?_
  refine Ops_q (q_call en_impl_IsPermutation rfl (w_impl_IsPermutation) (View.none _)) (lt_dec rfl) ?_
  refine Ops_guard_t rfl rfl (lt_dec rfl) ?_
  refine Ops_p (p_not rfl) (lt_dec rfl) ?_
  refine Ops_p (p_pick_t rfl rfl) (lt_dec rfl) ?_
  refine o_as rfl rfl ?_
  refine Ops_nil ?_
  refine W_cond rfl (fun h1 => ?_) (fun h1 => ?_)
  ·try simp only [bs] at h1
   have hk1 : inK l n p = 1 := (by first | exact inK_1 (by omega) (by assumption) | exact inK_1 (by omega) (by simp_all))
   refine W_seq ?_
   refine W_region ?_
   refine o_as rfl rfl ?_
   refine o_as rfl rfl ?_
   refine Ops_nil ?_
   refine W_ret ?_
   refine Exists.intro _ (And.intro (.cons (.tmp rfl) (.cons (.tmp rfl) .nil)) ?_)
   first | rfl | (exact veq_tup2 (veq_bool (inV_n (by rw [hk1]; decide)).symm) (veq_int hk1.symm)) | (exact veq_tup2 (veq_bool (inV_n hkn).symm) (veq_int hk1.symm)) | (exact veq_tup2 (veq_bool ((inD (And.left hx27) (And.right hx27) hpp).trans (inV_0 hk0).symm)) (veq_int hk0.symm))
  ·try simp only [bs] at h1
   have hk1 : inK l n p = psC l n := (by first | exact inK_n (by omega) | exact inK_p (by assumption) | exact inK_p (by simp_all))
   refine W_seq ?_
   refine W_region ?_
   refine o_mv rfl rfl ?_
   refine Ops_p (p_neq rfl rfl) (lt_dec rfl) ?_
   refine o_as rfl rfl ?_
   refine Ops_nil ?_
   refine W_cond rfl (fun h2 => ?_) (fun h2 => ?_)
   ·try simp only [bs] at h2
    have hk1 : inK l n p = psC l n := (by first | assumption | exact inK_n (by assumption)); have hkn : inK l n p ≠ 0 := (fun e => by rw [hk1] at e; omega)
    refine W_seq ?_
    refine W_region ?_
    refine o_mv rfl rfl ?_
    refine o_as rfl rfl ?_
    refine o_as rfl rfl ?_
    refine Ops_nil ?_
    refine W_ret ?_
    refine Exists.intro _ (And.intro (.cons (.tmp rfl) (.cons (.tmp rfl) .nil)) ?_)
    first | rfl | (exact veq_tup2 (veq_bool (inV_n (by rw [hk1]; decide)).symm) (veq_int hk1.symm)) | (exact veq_tup2 (veq_bool (inV_n hkn).symm) (veq_int hk1.symm)) | (exact veq_tup2 (veq_bool ((inD (And.left hx27) (And.right hx27) hpp).trans (inV_0 hk0).symm)) (veq_int hk0.symm))
   ·try simp only [bs] at h2
    have hk1 : inK l n p = psC l n := (by first | assumption | exact inK_n (by assumption)); have hk0 : inK l n p = 0 := (by rw [hk1]; omega); obtain ⟨h0, hpp⟩ := inK_ok hk0; obtain ⟨m, rfl⟩ := psn h0
    refine W_skip ?_
    refine W_seq ?_
    refine W_draw (by kernel_rfl) ?_
    show RA _ _ 7 _ _ _
    refine RA_take 0 rfl rfl rfl (by kernel_rfl) (by kernel_rfl) (by kernel_rfl) (p_move rfl) (lt_dec rfl) ?_
    refine RA_take 1 rfl rfl rfl (by kernel_rfl) (by kernel_rfl) (by kernel_rfl) (p_move rfl) (lt_dec rfl) ?_
    refine RA_two 2 3 rfl rfl rfl rfl (by kernel_rfl) ?_ ?_
    ·refine x_callT en_impl_groupOf rfl (w_impl_groupOf (n := m) (psC_ok h0).1 (by have := (psC_ok h0).2; omega)) HpDels.nil (Vw.rd m1) (fun _ => (HpDels.cons HpDel.head HpDels.nil)) (lt_dec rfl) fun x27_1 hx27 => ?_
     refine RA_quiet (g := 0) [3, 4, 5, 6] (by kernel_rfl) (by kernel_rfl) (by kernel_rfl) (by kernel_rfl) ?_
     refine WQ_cons rfl rfl rfl ((q_load rfl rfl m1 rfl (by first | exact True.intro | omega | exact Fin.isLt _ | trivial | (dsimp only; omega)))) (lt_dec rfl) ?_
     refine WQ_cons rfl rfl rfl ((q_call en_pimpl_group_has rfl (w_pimpl_group_has (n := m) (k := 0) (gv := gvF (Prod.fst (Prod.snd x27_1))) (hgv := gvH (Prod.fst (Prod.snd x27_1))) hpp (Nat.zero_le _) (GOk.ld (Done.ok (And.left hx27)))) (View.var m0))) (lt_dec rfl) ?_
     refine WQ_cons rfl rfl rfl ((p_assign rfl).q) (lt_dec rfl) ?_
     refine WQ_cons rfl rfl rfl ((p_assign rfl).q) (lt_dec rfl) ?_
     refine WQ_nil ?_
     refine RA_done (by kernel_rfl) ?_
     refine W_ret ?_
     refine Exists.intro _ (And.intro (.cons (.tmp rfl) (.cons (.tmp rfl) .nil)) ?_)
     first | rfl | (exact veq_tup2 (veq_bool (inV_n (by rw [hk1]; decide)).symm) (veq_int hk1.symm)) | (exact veq_tup2 (veq_bool (inV_n hkn).symm) (veq_int hk1.symm)) | (exact veq_tup2 (veq_bool ((inD (And.left hx27) (And.right hx27) hpp).trans (inV_0 hk0).symm)) (veq_int hk0.symm))
    ·refine Xt_of_Qt rfl (lt_dec rfl) ((q_load rfl rfl m0 rfl (by first | exact True.intro | omega | exact Fin.isLt _ | trivial | (dsimp only; omega)))) ?_
     refine RA_one 2 rfl rfl (by kernel_rfl) (x_callT en_impl_groupOf rfl (w_impl_groupOf (n := m) (psC_ok h0).1 (by have := (psC_ok h0).2; omega)) HpDels.nil (Vw.rd m1) (fun _ => (HpDels.cons HpDel.head HpDels.nil)) (lt_dec rfl) fun x27_1 hx27 => ?_)
     refine RA_quiet (g := 0) [4, 5, 6] (by kernel_rfl) (by kernel_rfl) (by kernel_rfl) (by kernel_rfl) ?_
     refine WQ_cons rfl rfl rfl ((q_call en_pimpl_group_has rfl (w_pimpl_group_has (n := m) (k := 0) (gv := gvF (Prod.fst (Prod.snd x27_1))) (hgv := gvH (Prod.fst (Prod.snd x27_1))) hpp (Nat.zero_le _) (GOk.ld (Done.ok (And.left hx27)))) (View.var m0))) (lt_dec rfl) ?_
     refine WQ_cons rfl rfl rfl ((p_assign rfl).q) (lt_dec rfl) ?_
     refine WQ_cons rfl rfl rfl ((p_assign rfl).q) (lt_dec rfl) ?_
     refine WQ_nil ?_
     refine RA_done (by kernel_rfl) ?_
     refine W_ret ?_
     refine Exists.intro _ (And.intro (.cons (.tmp rfl) (.cons (.tmp rfl) .nil)) ?_)
     first | rfl | (exact veq_tup2 (veq_bool (inV_n (by rw [hk1]; decide)).symm) (veq_int hk1.symm)) | (exact veq_tup2 (veq_bool (inV_n hkn).symm) (veq_int hk1.symm)) | (exact veq_tup2 (veq_bool ((inD (And.left hx27) (And.right hx27) hpp).trans (inV_0 hk0).symm)) (veq_int hk0.symm))
 ·try simp only [bs] at hg1
  refine Ops_guard_f rfl rfl rfl (lt_dec rfl) ?_
  refine Ops_guard_f rfl rfl rfl (lt_dec rfl) ?_
  refine Ops_guard_f rfl rfl rfl (lt_dec rfl) ?_
  refine Ops_p (p_pick_f rfl rfl) (lt_dec rfl) ?_
  refine o_as rfl rfl ?_
  refine Ops_nil ?_
  refine W_false rfl ?_
  refine W_seq ?_
  refine W_region ?_
  refine o_mv rfl rfl ?_
  refine Ops_p (p_neq rfl rfl) (lt_dec rfl) ?_
  refine o_as rfl rfl ?_
  refine Ops_nil ?_
  refine W_cond rfl (fun h3 => ?_) (fun h3 => ?_)
  ·try simp only [bs] at h3
   have hk1 : inK l n p = psC l n := (by first | assumption | exact inK_n (by assumption)); have hkn : inK l n p ≠ 0 := (fun e => by rw [hk1] at e; omega)
   refine W_seq ?_
   refine W_region ?_
   refine o_mv rfl rfl ?_
   refine o_as rfl rfl ?_
   refine o_as rfl rfl ?_
   refine Ops_nil ?_
   refine W_ret ?_
   refine Exists.intro _ (And.intro (.cons (.tmp rfl) (.cons (.tmp rfl) .nil)) ?_)
   first | rfl | (exact veq_tup2 (veq_bool (inV_n (by rw [hk1]; decide)).symm) (veq_int hk1.symm)) | (exact veq_tup2 (veq_bool (inV_n hkn).symm) (veq_int hk1.symm)) | (exact veq_tup2 (veq_bool ((inD (And.left hx27) (And.right hx27) hpp).trans (inV_0 hk0).symm)) (veq_int hk0.symm))
  ·try simp only [bs] at h3
   have hk1 : inK l n p = psC l n := (by first | assumption | exact inK_n (by assumption)); have hk0 : inK l n p = 0 := (by rw [hk1]; omega); obtain ⟨h0, hpp⟩ := inK_ok hk0; obtain ⟨m, rfl⟩ := psn h0
   refine W_skip ?_
   refine W_seq ?_
   refine W_draw (by kernel_rfl) ?_
   show RA _ _ 7 _ _ _
   refine RA_take 0 rfl rfl rfl (by kernel_rfl) (by kernel_rfl) (by kernel_rfl) (p_move rfl) (lt_dec rfl) ?_
   refine RA_take 1 rfl rfl rfl (by kernel_rfl) (by kernel_rfl) (by kernel_rfl) (p_move rfl) (lt_dec rfl) ?_
   refine RA_two 2 3 rfl rfl rfl rfl (by kernel_rfl) ?_ ?_
   ·refine x_callT en_impl_groupOf rfl (w_impl_groupOf (n := m) (psC_ok h0).1 (by have := (psC_ok h0).2; omega)) HpDels.nil (Vw.rd m1) (fun _ => (HpDels.cons HpDel.head HpDels.nil)) (lt_dec rfl) fun x27_1 hx27 => ?_
    refine RA_quiet (g := 0) [3, 4, 5, 6] (by kernel_rfl) (by kernel_rfl) (by kernel_rfl) (by kernel_rfl) ?_
    refine WQ_cons rfl rfl rfl ((q_load rfl rfl m1 rfl (by first | exact True.intro | omega | exact Fin.isLt _ | trivial | (dsimp only; omega)))) (lt_dec rfl) ?_
    refine WQ_cons rfl rfl rfl ((q_call en_pimpl_group_has rfl (w_pimpl_group_has (n := m) (k := 0) (gv := gvF (Prod.fst (Prod.snd x27_1))) (hgv := gvH (Prod.fst (Prod.snd x27_1))) hpp (Nat.zero_le _) (GOk.ld (Done.ok (And.left hx27)))) (View.var m0))) (lt_dec rfl) ?_
    refine WQ_cons rfl rfl rfl ((p_assign rfl).q) (lt_dec rfl) ?_
    refine WQ_cons rfl rfl rfl ((p_assign rfl).q) (lt_dec rfl) ?_
    refine WQ_nil ?_
    refine RA_done (by kernel_rfl) ?_
    refine W_ret ?_
    refine Exists.intro _ (And.intro (.cons (.tmp rfl) (.cons (.tmp rfl) .nil)) ?_)
    first | rfl | (exact veq_tup2 (veq_bool (inV_n (by rw [hk1]; decide)).symm) (veq_int hk1.symm)) | (exact veq_tup2 (veq_bool (inV_n hkn).symm) (veq_int hk1.symm)) | (exact veq_tup2 (veq_bool ((inD (And.left hx27) (And.right hx27) hpp).trans (inV_0 hk0).symm)) (veq_int hk0.symm))
   ·refine Xt_of_Qt rfl (lt_dec rfl) ((q_load rfl rfl m0 rfl (by first | exact True.intro | omega | exact Fin.isLt _ | trivial | (dsimp only; omega)))) ?_
    refine RA_one 2 rfl rfl (by kernel_rfl) (x_callT en_impl_groupOf rfl (w_impl_groupOf (n := m) (psC_ok h0).1 (by have := (psC_ok h0).2; omega)) HpDels.nil (Vw.rd m1) (fun _ => (HpDels.cons HpDel.head HpDels.nil)) (lt_dec rfl) fun x27_1 hx27 => ?_)
    refine RA_quiet (g := 0) [4, 5, 6] (by kernel_rfl) (by kernel_rfl) (by kernel_rfl) (by kernel_rfl) ?_
    refine WQ_cons rfl rfl rfl ((q_call en_pimpl_group_has rfl (w_pimpl_group_has (n := m) (k := 0) (gv := gvF (Prod.fst (Prod.snd x27_1))) (hgv := gvH (Prod.fst (Prod.snd x27_1))) hpp (Nat.zero_le _) (GOk.ld (Done.ok (And.left hx27)))) (View.var m0))) (lt_dec rfl) ?_
    refine WQ_cons rfl rfl rfl ((p_assign rfl).q) (lt_dec rfl) ?_
    refine WQ_cons rfl rfl rfl ((p_assign rfl).q) (lt_dec rfl) ?_
    refine WQ_nil ?_
    refine RA_done (by kernel_rfl) ?_
    refine W_ret ?_
    refine Exists.intro _ (And.intro (.cons (.tmp rfl) (.cons (.tmp rfl) .nil)) ?_)
    first | rfl | (exact veq_tup2 (veq_bool (inV_n (by rw [hk1]; decide)).symm) (veq_int hk1.symm)) | (exact veq_tup2 (veq_bool (inV_n hkn).symm) (veq_int hk1.symm)) | (exact veq_tup2 (veq_bool ((inD (And.left hx27) (And.right hx27) hpp).trans (inV_0 hk0).symm)) (veq_int hk0.symm))
end Go.Proofs.Ytjihhcjpbcmjaaa
end
section
namespace Go.Proofs.Ytjihhcjpbcmjaaa
open Go Gx
set_option linter.unusedVariables false
theorem en_impl_classes_join : Enters Try.prog 63 := enters_of Try.func63 (by kernel_rfl) (by kernel_rfl)
set_option maxRecDepth 100000 in
theorem w_impl_classes_join {a : Value} {ha : a.oneCell' = true} {c : List Int} {x0 y0 : Nat} (hx : x0 < c.length) (hy : y0 < c.length) (hl : c.length ≤ 10) : CT (X := Unit) Try.prog 63 (vals [.raw a ha, .int .i64 (x0 : Int), .int .i64 (y0 : Int)]) [own a 2 (.ints .i64 c)] [] (fun x => True) (fun x => .bool (decide (c.getD x0 0 ≠ c.getD y0 0))) (fun x => [own a 2 (.ints .i64 (joinL c x0 y0))]) := by
 refine CT_intro (rs := [.tmp 6]) tt tok Try.func63 rfl rfl rfl (by first | rfl | assumption) fun w => ?_
 show W _ _ _ ⟨tmOf 0 [.raw a ha, .int .i64 (x0 : Int), .int .i64 (y0 : Int)], [own a 2 (.ints .i64 c)]⟩
 refine W_seq ?_
 refine W_region ?_
 refine o_as rfl rfl ?_
 refine Ops_nil ?_
 refine W_seq ?_
 refine W_draw (by kernel_rfl) ?_
 show RA _ _ 10 _ _ _
 refine RA_quietF [0, 1, 2, 3, 4, 5, 6, 7, 8, 9] rfl rfl rfl (by kernel_rfl) (by kernel_rfl) ?_
 refine WQ_cons rfl rfl rfl ((p_move rfl).q) (lt_dec rfl) ?_
 refine WQ_cons rfl rfl rfl ((p_move rfl).q) (lt_dec rfl) ?_
 refine WQ_cons rfl rfl rfl ((q_ixR _ rfl rfl rfl (Rds.own m0) rfl rfl (by first | (show _ < List.length _; omega) | (show _ < List.length _; first | omega | (dsimp only; omega))) rfl)) (lt_dec rfl) ?_
 refine WQ_cons rfl rfl rfl ((q_loadR rfl rfl (Rds.own m0) rfl rfl (by first | (show _ < List.length _; omega) | (show _ < List.length _; first | omega | (dsimp only; omega))) rfl rfl rfl)) (lt_dec rfl) ?_
 refine WQ_cons rfl rfl rfl ((p_move rfl).q) (lt_dec rfl) ?_
 refine WQ_cons rfl rfl rfl ((p_move rfl).q) (lt_dec rfl) ?_
 refine WQ_cons rfl rfl rfl ((q_ixR _ rfl rfl rfl (Rds.own m0) rfl rfl (by first | (show _ < List.length _; omega) | (show _ < List.length _; first | omega | (dsimp only; omega))) rfl)) (lt_dec rfl) ?_
 refine WQ_cons rfl rfl rfl ((q_loadR rfl rfl (Rds.own m0) rfl rfl (by first | (show _ < List.length _; omega) | (show _ < List.length _; first | omega | (dsimp only; omega))) rfl rfl rfl)) (lt_dec rfl) ?_
 refine WQ_cons rfl rfl rfl ((p_assign rfl).q) (lt_dec rfl) ?_
 refine WQ_cons rfl rfl rfl ((p_assign rfl).q) (lt_dec rfl) ?_
 refine WQ_nil ?_
 refine W_seq ?_
 refine W_seq ?_
 refine W_region ?_
 refine o_mv rfl rfl ?_
 refine Ops_q ((q_lenR rfl rfl rfl (Rds.own m0)).eq (d' := .int .i64 ((c.length : Nat) : Int)) rfl) (lt_dec rfl) ?_
 refine o_mv rfl rfl ?_
 refine Ops_nil ?_
 refine W_block ?_
 refine W_loop (α := Nat) (fun z => ⟨[(0, .raw a ha), (1, .int .i64 (x0 : Int)), (2, .int .i64 (y0 : Int)), (6, .bool false), (7, .int .i64 (c.getD x0 0)), (8, .int .i64 (c.getD y0 0)), (19, .int .i64 (c.length : Int)), (20, .int .i64 (z : Int))], [own a 2 (.ints .i64 (jP c x0 y0 z))]⟩) (fun z => z ≤ c.length) (fun z => c.length - z) 0 ?_ ?_ ?_
 ·show _ ≤ _; omega
 ·exact Wk.intro (.c rfl (.c rfl (.c rfl (.c rfl (.c rfl (.c rfl (.c rfl (.cons rfl (by first | rfl | exact veq_int (by first | omega | (dsimp only; omega))) .nil)))))))) (.keep rfl rfl (own_eq (by rw [jP_zero])) .nil)
 ·rintro z hR
  refine W_seq ?_
  refine W_region ?_
  refine Ops_p (p_lss rfl rfl) (lt_dec rfl) ?_
  refine Ops_nil ?_
  refine W_seq ?_
  refine W_cond rfl (fun h1 => ?_) (fun h1 => ?_)
  ·try simp only [bs] at h1
   refine W_skip ?_
   refine W_seq ?_
   refine W_block ?_
   refine W_seq ?_
   have hjl := jP_len (c := c) (x := x0) (y := y0) (z := z) (by omega)
   have hja := jP_at (c := c) (x := x0) (y := y0) (z := z) (by omega)
   refine W_region ?_
   refine o_mv rfl rfl ?_
   refine o_as rfl rfl ?_
   refine Ops_nil ?_
   refine W_seq ?_
   refine W_region ?_
   refine o_mv rfl rfl ?_
   refine o_mv rfl rfl ?_
   refine Ops_q (q_ixR _ rfl rfl rfl (Rds.own m0) rfl rfl (by show _ < List.length _; omega) rfl) (lt_dec rfl) ?_
   refine Ops_q (q_loadR rfl rfl (Rds.own m0) rfl rfl (by first | (show _ < List.length _; omega) | (show _ < List.length _; first | omega | (dsimp only; omega))) rfl rfl rfl) (lt_dec rfl) ?_
   refine o_mv rfl rfl ?_
   refine o_mv rfl rfl ?_
   refine Ops_p (p_max rfl rfl) (lt_dec rfl) ?_
   refine Ops_p (p_eql rfl rfl) (lt_dec rfl) ?_
   refine Ops_nil ?_
   refine W_cond rfl (fun h2 => ?_) (fun h2 => ?_)
   ·try simp only [bs] at h2
    rw [hja] at h2
    refine W_region ?_
    refine o_mv rfl rfl ?_
    refine o_mv rfl rfl ?_
    refine o_mv rfl rfl ?_
    refine o_mv rfl rfl ?_
    refine Ops_p (p_min rfl rfl) (lt_dec rfl) ?_
    refine Ops_q (q_ixR _ rfl rfl rfl (Rds.own m0) rfl rfl (by show _ < List.length _; omega) rfl) (lt_dec rfl) ?_
    refine Ops_x rfl (x_setOi (i := z) rfl rfl rfl rfl rfl (by omega) HpRep.head ?_)
    refine Ops_nil ?_
    refine W_region ?_
    refine Ops_p (p_add rfl rfl (by refine ⟨?_, ?_⟩ <;> first | omega | (dsimp only; omega))) (lt_dec rfl) ?_
    refine o_mv rfl rfl ?_
    refine Ops_nil ?_
    refine Exists.intro (z + 1) (And.intro ?_ (And.intro ?_ ?_))
    ·show _ ≤ _; omega
    ·show _ < _; omega
    ·exact Wk.intro (.c rfl (.c rfl (.c rfl (.c rfl (.c rfl (.c rfl (.c rfl (.cons rfl (by first | rfl | exact veq_int (by first | omega | (dsimp only; omega))) .nil)))))))) (.keep rfl rfl (own_eq (by first | rw [jP_set (by omega) (by assumption)] | rw [← jP_same (by omega) (by assumption)])) .nil)
   ·try simp only [bs] at h2
    rw [hja] at h2
    refine W_skip ?_
    refine W_region ?_
    refine Ops_p (p_add rfl rfl (by refine ⟨?_, ?_⟩ <;> first | omega | (dsimp only; omega))) (lt_dec rfl) ?_
    refine o_mv rfl rfl ?_
    refine Ops_nil ?_
    refine Exists.intro (z + 1) (And.intro ?_ (And.intro ?_ ?_))
    ·show _ ≤ _; omega
    ·show _ < _; omega
    ·exact Wk.intro (.c rfl (.c rfl (.c rfl (.c rfl (.c rfl (.c rfl (.c rfl (.cons rfl (by first | rfl | exact veq_int (by first | omega | (dsimp only; omega))) .nil)))))))) (.keep rfl rfl (own_eq (by first | rw [jP_set (by omega) (by assumption)] | rw [← jP_same (by omega) (by assumption)])) .nil)
  ·try simp only [bs] at h1
   obtain rfl : z = c.length := (by omega)
   refine W_exit ?_
   refine W_seq ?_
   refine W_region ?_
   refine o_mv rfl rfl ?_
   refine o_mv rfl rfl ?_
   refine Ops_p (p_neq rfl rfl) (lt_dec rfl) ?_
   refine o_as rfl rfl ?_
   refine Ops_nil ?_
   refine W_ret ?_
   refine Exists.intro _ (And.intro (.cons (.tmp rfl) .nil) (Exists.intro () (And.intro ?_ (And.intro ?_ (And.intro (.cons HpDel.head rfl (own_eq (by rw [jP_end])) .nil) rfl)))))
   ·trivial
   ·first | rfl | exact veq_bool (by simp)
end Go.Proofs.Ytjihhcjpbcmjaaa
end
section
namespace Go.Proofs.Ytjihhcjpbcmjaaa
open Go Gx
set_option linter.unusedVariables false
theorem en_impl_classes_lists : Enters Try.prog 64 := enters_of Try.func64 (by kernel_rfl) (by kernel_rfl)
set_option maxRecDepth 100000 in
set_option maxHeartbeats 1000000 in
theorem w_impl_classes_lists {a : Value} {ha : a.oneCell' = true} {c : List Int} (hl : c.length ≤ 10) : CT (X := V1 × SL) Try.prog 64 (vals [.raw a ha]) [] [rd a (.ints .i64 c)] (fun x => x.2.map (·.2) = clF c (List.length c) (List.length c)) (fun x => .raw x.1.1 x.1.2) (fun x => [oss x.1.1 48 2 x.2]) := by
 refine CT_intro (rs := [.tmp 2]) tt tok Try.func64 rfl rfl rfl (by first | rfl | assumption) fun w => ?_
 show W _ _ _ ⟨tmOf 0 [.raw a ha], [rd a (.ints .i64 c)]⟩
 refine W_seq ?_
 refine W_region ?_
 refine o_as rfl rfl ?_
 refine Ops_nil ?_
 refine W_seq ?_
 refine W_region ?_
 refine Ops_x rfl (x_buildSlice rfl rfl rfl rfl rfl rfl rfl rfl (Nat.le_of_ble_eq_true rfl) (lt_dec rfl) fun b7_1 => ?_)
 refine o_as rfl rfl ?_
 refine Ops_nil ?_
 refine W_seq ?_
 refine W_seq ?_
 refine W_region ?_
 refine o_mv rfl rfl ?_
 refine Ops_q ((q_lenR rfl rfl rfl (Rds.rd m1)).eq (d' := .int .i64 ((c.length : Nat) : Int)) rfl) (lt_dec rfl) ?_
 refine o_mv rfl rfl ?_
 refine Ops_nil ?_
 refine W_block ?_
 refine W_loop (α := Nat × V1 × SL) (fun zz0 => ⟨[(0, .raw a ha), (3, .raw (zz0.2.1).1 (zz0.2.1).2), (9, .int .i64 (c.length : Int)), (10, .int .i64 ((zz0.1) : Int))], [oss (zz0.2.1).1 48 2 (zz0.2.2), rd a (.ints .i64 c)]⟩) (fun zz0 => (zz0.1) ≤ c.length ∧ (zz0.2.2).map (·.2) = clF c c.length (zz0.1)) (fun zz0 => c.length - (zz0.1)) (0, slv b7_1 0 0, []) ?_ ?_ ?_
 ·exact ⟨Nat.zero_le _, rfl⟩
 ·exact Wk.intro (.c rfl (.cons rfl (by first | rfl | exact veq_int (by first | omega | (dsimp only; omega))) (.c rfl (.cons rfl (by first | rfl | exact veq_int (by first | omega | (dsimp only; omega))) .nil)))) (.keep rfl rfl (oss_of_row) (.keep rfl rfl (fun _ h => h) .nil))
 ·rintro ⟨k, vv, D⟩ ⟨hk, hD⟩
  try dsimp only at *
  refine W_seq ?_
  refine W_region ?_
  refine Ops_p (p_lss rfl rfl) (lt_dec rfl) ?_
  refine Ops_nil ?_
  refine W_seq ?_
  refine W_cond rfl (fun h1 => ?_) (fun h1 => ?_)
  ·try simp only [bs] at h1
   refine W_skip ?_
   refine W_seq ?_
   refine W_block ?_
   refine W_seq ?_
   refine W_region ?_
   refine o_mv rfl rfl ?_
   refine o_as rfl rfl ?_
   refine Ops_nil ?_
   refine W_seq ?_
   refine W_region ?_
   refine Ops_x rfl (x_buildSlice rfl rfl rfl rfl rfl rfl rfl rfl (Nat.le_of_ble_eq_true rfl) (lt_dec rfl) fun b13_1 => ?_)
   refine o_as rfl rfl ?_
   refine Ops_nil ?_
   refine W_seq ?_
   refine W_seq ?_
   refine W_region ?_
   refine o_mv rfl rfl ?_
   refine Ops_q ((q_lenR rfl rfl rfl (Rds.rd m2)).eq (d' := .int .i64 ((c.length : Nat) : Int)) rfl) (lt_dec rfl) ?_
   refine o_mv rfl rfl ?_
   refine Ops_nil ?_
   refine W_block ?_
   refine W_loop (α := Nat × Nat × Nat) (fun zz1 => ⟨[(0, .raw a ha), (3, .raw vv.1 vv.2), (4, .int .i64 (k : Int)), (5, .sl (zz1.2.1) 0 (List.length (filt (clP c k) (zz1.1))) (zz1.2.2)), (9, .int .i64 (c.length : Int)), (10, .int .i64 (k : Int)), (15, .int .i64 (c.length : Int)), (16, .int .i64 ((zz1.1) : Int))], [.row (zz1.2.1) (zz1.2.2) 2 (.ints .i64 (filt (clP c k) (zz1.1))), oss vv.1 48 2 D, rd a (.ints .i64 c)]⟩) (fun zz1 => (zz1.1) ≤ c.length) (fun zz1 => c.length - (zz1.1)) (0, b13_1, 0) ?_ ?_ ?_
   ·show _ ≤ _; omega
   ·exact Wk.intro (.c rfl (.c rfl (.c rfl (.cons rfl (by first | rfl | exact veq_int (by first | omega | (dsimp only; omega))) (.c rfl (.c rfl (.c rfl (.cons rfl (by first | rfl | exact veq_int (by first | omega | (dsimp only; omega))) .nil)))))))) (.keep rfl rfl (fun _ h => h) (.keep rfl rfl (fun _ h => h) (.keep rfl rfl (fun _ h => h) .nil)))
   ·rintro ⟨y, bb, cbb⟩ hR
    try dsimp only at *
    have hfl := filt_len (P := clP c k) y
    refine W_seq ?_
    refine W_region ?_
    refine Ops_p (p_lss rfl rfl) (lt_dec rfl) ?_
    refine Ops_nil ?_
    refine W_seq ?_
    refine W_cond rfl (fun h2 => ?_) (fun h2 => ?_)
    ·try simp only [bs] at h2
     refine W_skip ?_
     refine W_seq ?_
     refine W_block ?_
     refine W_seq ?_
     refine W_region ?_
     refine o_mv rfl rfl ?_
     refine o_as rfl rfl ?_
     refine Ops_nil ?_
     refine W_seq ?_
     refine W_region ?_
     refine o_mv rfl rfl ?_
     refine o_mv rfl rfl ?_
     refine Ops_q (q_ixR _ rfl rfl rfl (Rds.rd m2) rfl rfl (by first | (show _ < List.length _; omega) | (show _ < List.length _; first | omega | (dsimp only; omega))) rfl) (lt_dec rfl) ?_
     refine Ops_q (q_loadR rfl rfl (Rds.rd m2) rfl rfl (by first | (show _ < List.length _; omega) | (show _ < List.length _; first | omega | (dsimp only; omega))) rfl rfl rfl) (lt_dec rfl) ?_
     refine o_mv rfl rfl ?_
     refine Ops_p (p_eql rfl rfl) (lt_dec rfl) ?_
     refine Ops_nil ?_
     refine W_cond rfl (fun h3 => ?_) (fun h3 => ?_)
     ·try simp only [bs] at h3
      have h8 : clP c k y = true := decide_eq_true h3; clear h3
      refine W_region ?_
      refine o_mv rfl rfl ?_
      refine o_mv rfl rfl ?_
      refine Ops_x rfl (x_buildSlice rfl rfl rfl rfl rfl rfl rfl rfl (Nat.le_of_ble_eq_true rfl) (lt_dec rfl) fun b27_1 => ?_)
      refine Ops_x rfl (x_append rfl rfl rfl rfl rfl rfl (fun _ _ => (HpRep.head).tail) (.inl ⟨m0, rfl⟩) rfl (by first | rfl | exact elems_len.symm | simp [Rw.len]) rfl (by first | omega | (dsimp only; omega)) rfl (by first | omega | (dsimp only; omega)) (by first | omega | (dsimp only; omega)) (lt_dec rfl) fun b28_1 cb28_1 => ?_)
      refine o_as rfl rfl ?_
      refine Ops_nil ?_
      refine W_region ?_
      refine Ops_p (p_add rfl rfl (by refine ⟨?_, ?_⟩ <;> first | omega | (dsimp only; omega))) (lt_dec rfl) ?_
      refine o_mv rfl rfl ?_
      refine Ops_nil ?_
      refine Exists.intro (y + 1, b28_1, cb28_1) (And.intro ?_ (And.intro ?_ ?_))
      ·show _ ≤ _; omega
      ·show _ < _; omega
      ·exact Wk.intro (.c rfl (.c rfl (.c rfl (.cons rfl (by first | exact veq_sl (by rw [← filt_t (by assumption)]; simp) | exact veq_sl (by rw [← filt_f (by assumption)])) (.c rfl (.c rfl (.c rfl (.cons rfl (by first | rfl | exact veq_int (by first | omega | (dsimp only; omega))) .nil)))))))) (.drop (.keep rfl rfl (fun _ h => by first | (rw [← filt_t (by assumption)]; exact h) | (rw [← filt_f (by assumption)]; exact h)) (.keep rfl rfl (fun _ h => h) (.keep rfl rfl (fun _ h => h) .nil))))
     ·try simp only [bs] at h3
      have h8 : clP c k y = false := decide_eq_false h3; clear h3
      refine W_skip ?_
      refine W_region ?_
      refine Ops_p (p_add rfl rfl (by refine ⟨?_, ?_⟩ <;> first | omega | (dsimp only; omega))) (lt_dec rfl) ?_
      refine o_mv rfl rfl ?_
      refine Ops_nil ?_
      refine Exists.intro (y + 1, bb, cbb) (And.intro ?_ (And.intro ?_ ?_))
      ·show _ ≤ _; omega
      ·show _ < _; omega
      ·exact Wk.intro (.c rfl (.c rfl (.c rfl (.cons rfl (by first | exact veq_sl (by rw [← filt_t (by assumption)]; simp) | exact veq_sl (by rw [← filt_f (by assumption)])) (.c rfl (.c rfl (.c rfl (.cons rfl (by first | rfl | exact veq_int (by first | omega | (dsimp only; omega))) .nil)))))))) (.keep rfl rfl (fun _ h => by first | (rw [← filt_t (by assumption)]; exact h) | (rw [← filt_f (by assumption)]; exact h)) (.keep rfl rfl (fun _ h => h) (.keep rfl rfl (fun _ h => h) .nil)))
    ·try simp only [bs] at h2
     obtain rfl : y = c.length := (by omega)
     refine W_exit ?_
     refine W_seq ?_
     refine W_region ?_
     refine o_mv rfl rfl ?_
     refine Ops_p (p_len rfl rfl rfl) (lt_dec rfl) ?_
     refine Ops_p (p_gtr rfl rfl) (lt_dec rfl) ?_
     refine Ops_nil ?_
     refine W_cond rfl (fun h4 => ?_) (fun h4 => ?_)
     ·try simp only [bs] at h4
      refine W_region ?_
      refine o_mv rfl rfl ?_
      refine o_mv rfl rfl ?_
      refine Ops_x rfl (x_buildSlice rfl rfl rfl rfl rfl rfl rfl rfl (Nat.le_of_ble_eq_true rfl) (lt_dec rfl) fun b35_1 => ?_)
      refine Ops_x rfl (x_appendSS (u := (slv bb (List.length (filt (clP c k) c.length)) cbb)) (li := (filt (clP c k) c.length)) rfl rfl rfl rfl rfl rfl m0 (HpDels.cons ((HpDel.head).tail).tail (HpDels.cons (HpDel.head).tail HpDels.nil)) rfl rfl (own_of_row rfl rfl) (fun _ => (HpDels.cons (HpDel.head).tail HpDels.nil)) (by dsimp only; have := clF_len (c := c) (n := c.length) k; have := congrArg List.length hD; simp at this; omega) (by have := clF_len (c := c) (n := c.length) k; have := congrArg List.length hD; simp at this; omega) (lt_dec rfl) fun v36 => ?_)
      refine o_as rfl rfl ?_
      refine Ops_nil ?_
      refine W_region ?_
      refine Ops_p (p_add rfl rfl (by refine ⟨?_, ?_⟩ <;> first | omega | (dsimp only; omega))) (lt_dec rfl) ?_
      refine o_mv rfl rfl ?_
      refine Ops_nil ?_
      refine Exists.intro (k + 1, v36, (D ++ [((slv bb (List.length (filt (clP c k) c.length)) cbb), (filt (clP c k) c.length))])) (And.intro ?_ (And.intro ?_ ?_))
      ·first | exact ⟨by show _ ≤ _; omega, by rw [List.map_append, hD]; exact clF_yes (by omega)⟩ | exact ⟨by show _ ≤ _; omega, by show List.map _ D = _; rw [hD]; exact clF_no (by omega)⟩
      ·show _ < _; omega
      ·exact Wk.intro (.c rfl (.cons rfl (by first | rfl | exact veq_int (by first | omega | (dsimp only; omega))) (.c rfl (.cons rfl (by first | rfl | exact veq_int (by first | omega | (dsimp only; omega))) .nil)))) (.drop (.keep rfl rfl (oss_eq rfl) (.keep rfl rfl (fun _ h => h) .nil)))
     ·try simp only [bs] at h4
      refine W_skip ?_
      refine W_region ?_
      refine Ops_p (p_add rfl rfl (by refine ⟨?_, ?_⟩ <;> first | omega | (dsimp only; omega))) (lt_dec rfl) ?_
      refine o_mv rfl rfl ?_
      refine Ops_nil ?_
      refine Exists.intro (k + 1, vv, D) (And.intro ?_ (And.intro ?_ ?_))
      ·first | exact ⟨by show _ ≤ _; omega, by rw [List.map_append, hD]; exact clF_yes (by omega)⟩ | exact ⟨by show _ ≤ _; omega, by show List.map _ D = _; rw [hD]; exact clF_no (by omega)⟩
      ·show _ < _; omega
      ·exact Wk.intro (.c rfl (.c rfl (.c rfl (.cons rfl (by first | rfl | exact veq_int (by first | omega | (dsimp only; omega))) .nil)))) (.drop (.keep rfl rfl (oss_eq rfl) (.keep rfl rfl (fun _ h => h) .nil)))
  ·try simp only [bs] at h1
   obtain rfl : k = c.length := (by omega)
   refine W_exit ?_
   refine W_seq ?_
   refine W_region ?_
   refine o_mv rfl rfl ?_
   refine o_as rfl rfl ?_
   refine Ops_nil ?_
   refine W_ret ?_
   refine Exists.intro _ (And.intro (.cons (.tmp rfl) .nil) (Exists.intro (vv, D) (And.intro ?_ (And.intro ?_ (And.intro (.cons HpDel.head rfl (oss_eq rfl) .nil) rfl)))))
   ·exact hD
   ·rfl
end Go.Proofs.Ytjihhcjpbcmjaaa
end
section
namespace Go.Proofs.Ytjihhcjpbcmjaaa
open Go Gx
set_option linter.unusedVariables false
theorem en_impl_newClasses : Enters Try.prog 62 := enters_of Try.func62 (by kernel_rfl) (by kernel_rfl)
set_option maxRecDepth 100000 in
theorem w_impl_newClasses {n : Int} (hn : 1 ≤ n ∧ n ≤ 10) : CT (X := V1) Try.prog 62 (vals [.int .i64 n]) [] [] (fun x => True) (fun x => .raw x.1 x.2) (fun x => [own x.1 2 (.ints .i64 (rgL n.toNat))]) := by
 refine CT_intro (rs := [.tmp 2]) tt tok Try.func62 rfl rfl rfl (by first | rfl | assumption) fun w => ?_
 show W _ _ _ ⟨tmOf 0 [.int .i64 n], []⟩
 refine W_seq ?_
 refine W_region ?_
 refine o_as rfl rfl ?_
 refine Ops_nil ?_
 refine W_seq ?_
 refine W_region ?_
 refine Ops_x rfl (x_buildSlice rfl rfl rfl rfl rfl rfl rfl rfl (Nat.le_of_ble_eq_true rfl) (lt_dec rfl) fun b5_1 => ?_)
 refine o_as rfl rfl ?_
 refine Ops_nil ?_
 refine W_seq ?_
 refine W_seq ?_
 refine W_region ?_
 refine o_mv rfl rfl ?_
 refine o_mv rfl rfl ?_
 refine Ops_nil ?_
 refine W_block ?_
 refine W_loop (α := Nat × Nat × Nat) (fun zz0 => ⟨[(0, .int .i64 n), (3, .sl (zz0.2.1) 0 (zz0.1) (zz0.2.2)), (6, .int .i64 n), (7, .int .i64 ((zz0.1) : Int))], [.row (zz0.2.1) (zz0.2.2) 2 (.ints .i64 (rgL (zz0.1)))]⟩) (fun zz0 => (zz0.1) ≤ n.toNat) (fun zz0 => n.toNat - (zz0.1)) (0, b5_1, 0) ?_ ?_ ?_
 ·show _ ≤ _; omega
 ·exact Wk.intro (.c rfl (.cons rfl (by first | rfl | exact veq_int (by first | omega | (dsimp only; omega))) (.c rfl (.cons rfl (by first | rfl | exact veq_int (by first | omega | (dsimp only; omega))) .nil)))) (.keep rfl rfl (fun _ h => h) .nil)
 ·rintro ⟨i, bb, cbb⟩ hR
  try dsimp only at *
  have hrl := rgL_len i
  refine W_seq ?_
  refine W_region ?_
  refine Ops_p (p_lss rfl rfl) (lt_dec rfl) ?_
  refine Ops_nil ?_
  refine W_seq ?_
  refine W_cond rfl (fun h1 => ?_) (fun h1 => ?_)
  ·try simp only [bs] at h1
   refine W_skip ?_
   refine W_seq ?_
   refine W_block ?_
   refine W_seq ?_
   refine W_region ?_
   refine o_mv rfl rfl ?_
   refine o_as rfl rfl ?_
   refine Ops_nil ?_
   refine W_region ?_
   refine o_mv rfl rfl ?_
   refine o_mv rfl rfl ?_
   refine Ops_x rfl (x_buildSlice rfl rfl rfl rfl rfl rfl rfl rfl (Nat.le_of_ble_eq_true rfl) (lt_dec rfl) fun b12_1 => ?_)
   refine Ops_x rfl (x_append rfl rfl rfl rfl rfl rfl (fun _ _ => (HpRep.head).tail) (.inl ⟨m0, rfl⟩) rfl (by show _ = List.length _; rw [rgL_len]) rfl (by first | omega | (dsimp only; omega)) rfl (by first | omega | (dsimp only; omega)) (by first | omega | (dsimp only; omega)) (lt_dec rfl) fun b13_1 cb13_1 => ?_)
   refine o_as rfl rfl ?_
   refine Ops_nil ?_
   refine W_region ?_
   refine Ops_p (p_add rfl rfl (by refine ⟨?_, ?_⟩ <;> first | omega | (dsimp only; omega))) (lt_dec rfl) ?_
   refine o_mv rfl rfl ?_
   refine Ops_nil ?_
   refine Exists.intro (i + 1, b13_1, cb13_1) (And.intro ?_ (And.intro ?_ ?_))
   ·show _ ≤ _; omega
   ·show _ < _; omega
   ·exact Wk.intro (.c rfl (.cons rfl (veq_sl rfl) (.c rfl (.cons rfl (by first | rfl | exact veq_int (by first | omega | (dsimp only; omega))) .nil)))) (.drop (.keep rfl rfl (fun _ h => h) .nil))
  ·try simp only [bs] at h1
   obtain rfl : i = n.toNat := (by omega)
   refine W_exit ?_
   refine W_seq ?_
   refine W_region ?_
   refine o_mv rfl rfl ?_
   refine o_as rfl rfl ?_
   refine Ops_nil ?_
   refine W_ret ?_
   refine Exists.intro _ (And.intro (.cons (.tmp rfl) .nil) (Exists.intro ⟨.slice (some ⟨bb, 0, none⟩) n.toNat cbb, rfl⟩ (And.intro ?_ (And.intro ?_ (And.intro (.cons HpDel.head rfl (own_of_row (by show _ = List.length _; rw [rgL_len]) rfl) .nil) rfl)))))
   ·trivial
   ·rfl
end Go.Proofs.Ytjihhcjpbcmjaaa
end
section
namespace Go.Proofs.Ytjihhcjpbcmjaaa
open Go Gx
set_option linter.unusedVariables false
theorem en_slices_IndexGSint64int64 : Enters Try.prog 76 := enters_of Try.func76 (by kernel_rfl) (by kernel_rfl)
set_option maxRecDepth 100000 in
theorem w_slices_IndexGSint64int64 {a : Value} {ha : a.oneCell' = true} {l : List Int} {v : Int} (hl : l.length ≤ 1000000) : CR Try.prog 76 (vals [.raw a ha, .int .i64 v]) [rd a (.ints .i64 l)] (.int .i64 (ixI l v)) := by
 refine CR_intro (rs := [.tmp 4]) tt tok Try.func76 rfl rfl rfl (by first | rfl | assumption) fun w => ?_
 refine W_seq ?_
 refine W_region ?_
 refine o_as rfl rfl ?_
 refine Ops_nil ?_
 refine W_seq ?_
 refine W_seq ?_
 refine W_region ?_
 refine o_mv rfl rfl ?_
 refine Ops_q ((q_lenR rfl rfl rfl (Rds.rd m0)).eq (d' := .int .i64 ((l.length : Nat) : Int)) rfl) (lt_dec rfl) ?_
 refine o_mv rfl rfl ?_
 refine Ops_nil ?_
 refine W_block ?_
 refine W_loop (α := Nat) (fun i => ⟨[(0, .raw a ha), (1, .int .i64 v), (7, .int .i64 (l.length : Int)), (8, .int .i64 (i : Int))], [rd a (.ints .i64 l)]⟩) (fun i => i ≤ l.length ∧ ∀ j, j < i → ¬ v = l.getD j 0) (fun i => l.length - i) 0 ?_ ?_ ?_
 ·exact ⟨by omega, fun j h => by omega⟩
 ·exact Wk.intro (.c rfl (.c rfl (.c rfl (.cons rfl (by first | rfl | exact veq_int (by first | omega | (dsimp only; omega))) .nil)))) (.keep rfl rfl (fun _ h => h) .nil)
 ·rintro i ⟨hi, hR⟩
  refine W_seq ?_
  refine W_region ?_
  refine Ops_p (p_lss rfl rfl) (lt_dec rfl) ?_
  refine Ops_nil ?_
  refine W_seq ?_
  refine W_cond rfl (fun h1 => ?_) (fun h1 => ?_)
  ·try simp only [bs] at h1
   refine W_skip ?_
   refine W_seq ?_
   refine W_block ?_
   refine W_seq ?_
   refine W_region ?_
   refine o_mv rfl rfl ?_
   refine o_as rfl rfl ?_
   refine Ops_nil ?_
   refine W_seq ?_
   refine W_region ?_
   refine o_mv rfl rfl ?_
   refine o_mv rfl rfl ?_
   refine o_mv rfl rfl ?_
   refine Ops_q (q_ixR _ rfl rfl rfl (Rds.rd m0) rfl rfl (by first | (show _ < List.length _; omega) | (show _ < List.length _; first | omega | (dsimp only; omega))) rfl) (lt_dec rfl) ?_
   refine Ops_q (q_loadR rfl rfl (Rds.rd m0) rfl rfl (by first | (show _ < List.length _; omega) | (show _ < List.length _; first | omega | (dsimp only; omega))) rfl rfl rfl) (lt_dec rfl) ?_
   refine Ops_p (p_eql rfl rfl) (lt_dec rfl) ?_
   refine Ops_nil ?_
   refine W_cond rfl (fun h2 => ?_) (fun h2 => ?_)
   ·try simp only [bs] at h2
    refine W_seq ?_
    refine W_region ?_
    refine o_mv rfl rfl ?_
    refine o_as rfl rfl ?_
    refine Ops_nil ?_
    refine W_ret ?_
    refine Exists.intro _ (And.intro (.cons (.tmp rfl) .nil) ?_)
    first | rfl | (refine veq_int ?_; omega) | (exact veq_int (ixI_t (by omega) (by assumption) hR)) | (exact veq_int (ixI_f hR))
   ·try simp only [bs] at h2
    refine W_skip ?_
    refine W_region ?_
    refine Ops_p (p_add rfl rfl (by refine ⟨?_, ?_⟩ <;> first | omega | (dsimp only; omega))) (lt_dec rfl) ?_
    refine o_mv rfl rfl ?_
    refine Ops_nil ?_
    refine Exists.intro (i + 1) (And.intro ?_ (And.intro ?_ ?_))
    ·exact ⟨by omega, fun j h => if e : j = i then by subst e; assumption else hR j (by omega)⟩
    ·show _ < _; omega
    ·exact Wk.intro (.c rfl (.c rfl (.c rfl (.cons rfl (by first | rfl | exact veq_int (by first | omega | (dsimp only; omega))) .nil)))) (.keep rfl rfl (fun _ h => h) .nil)
  ·try simp only [bs] at h1
   obtain rfl : i = l.length := (by omega)
   refine W_exit ?_
   refine W_seq ?_
   refine W_region ?_
   refine o_as rfl rfl ?_
   refine Ops_nil ?_
   refine W_ret ?_
   refine Exists.intro _ (And.intro (.cons (.tmp rfl) .nil) ?_)
   first | rfl | (refine veq_int ?_; omega) | (exact veq_int (ixI_t (by omega) (by assumption) hR)) | (exact veq_int (ixI_f hR))
end Go.Proofs.Ytjihhcjpbcmjaaa
end
section
namespace Go.Proofs.Ytjihhcjpbcmjaaa
open Go Gx
set_option linter.unusedVariables false
theorem en_slices_ContainsGSint64int64 : Enters Try.prog 69 := enters_of Try.func69 (by kernel_rfl) (by kernel_rfl)
set_option maxRecDepth 100000 in
theorem w_slices_ContainsGSint64int64 {a : Value} {ha : a.oneCell' = true} {l : List Int} {v : Int} (hl : l.length ≤ 1000000) : CR Try.prog 69 (vals [.raw a ha, .int .i64 v]) [rd a (.ints .i64 l)] (.bool (decide (v ∈ l))) := by
 refine CR_intro (rs := [.tmp 4]) tt tok Try.func69 rfl rfl rfl (by first | rfl | assumption) fun w => ?_
 refine W_seq ?_
 refine W_region ?_
 refine o_as rfl rfl ?_
 refine Ops_nil ?_
 refine W_seq ?_
 refine W_region ?_
 refine o_mv rfl rfl ?_
 refine o_mv rfl rfl ?_
 refine Ops_q (q_call en_slices_IndexGSint64int64 rfl (w_slices_IndexGSint64int64 (by first | assumption | (first | omega | (dsimp only; omega)) | (simp; done) | decide)) (Vw.rd m0).v) (lt_dec rfl) ?_
 refine Ops_p (p_geq rfl rfl) (lt_dec rfl) ?_
 refine o_as rfl rfl ?_
 refine Ops_nil ?_
 refine W_ret ?_
 refine Exists.intro _ (And.intro (.cons (.tmp rfl) .nil) ?_)
 exact veq_bool ixI_mem
end Go.Proofs.Ytjihhcjpbcmjaaa
end
section
namespace Go.Proofs.Ytjihhcjpbcmjaaa
open Go Gx
set_option linter.unusedVariables false
theorem en_impl_leastBlock : Enters Try.prog 50 := enters_of Try.func50 (by kernel_rfl) (by kernel_rfl)
set_option maxRecDepth 100000 in
set_option maxHeartbeats 4000000 in
theorem w_impl_leastBlock {a : Value} {ha : a.oneCell' = true} {l : List (Nat → Fin 256)} {n : Int} {x0 y0 : Nat} (hp : PsOk l n) (hl : l.length ≤ 40) (hx : x0 < n.toNat) (hy : y0 < n.toNat) : CT (X := V1) Try.prog 50 (vals [.raw a ha, .int .i64 n, .int .i64 (x0 : Int), .int .i64 (y0 : Int)]) [] [rd a (.arrs 10 l)] (fun x => True) (fun x => .raw x.1 x.2) (fun x => [own x.1 2 (.ints .i64 (bkL l n.toNat x0 y0))]) := by
 refine CT_intro (rs := [.tmp 8]) tt tok Try.func50 rfl rfl rfl (by first | rfl | assumption) fun w => ?_
 show W _ _ _ ⟨tmOf 0 [.raw a ha, .int .i64 n, .int .i64 (x0 : Int), .int .i64 (y0 : Int)], [rd a (.arrs 10 l)]⟩
 have hn := hp.1
 refine W_seq ?_
 refine W_region ?_
 refine o_as rfl rfl ?_
 refine Ops_nil ?_
 refine W_seq ?_
 refine W_region ?_
 refine o_mv rfl rfl ?_
 refine Ops_x rfl (x_callT en_impl_newClasses rfl (w_impl_newClasses (by first | assumption | (first | omega | (dsimp only; omega)) | (simp; done) | decide)) HpDels.nil (Vw.none _) (fun _ => (HpDels.cons HpDel.head HpDels.nil)) (lt_dec rfl) fun x17_1 _ => ?_)
 refine o_as rfl rfl ?_
 refine Ops_nil ?_
 refine W_seq ?_
 refine W_region ?_
 refine o_mv rfl rfl ?_
 refine o_mv rfl rfl ?_
 refine o_mv rfl rfl ?_
 refine Ops_x rfl (x_callT en_impl_classes_join rfl (w_impl_classes_join (by rw [rgL_len]; omega) (by rw [rgL_len]; omega) (by rw [rgL_len]; omega)) (HpDels.cons HpDel.head HpDels.nil) (Vw.none _) (fun _ => (HpDels.cons HpDel.head HpDels.nil)) (lt_dec rfl) fun _ _ => ?_)
 refine Ops_nil ?_
 refine W_seq ?_
 refine W_seq ?_
 refine W_region ?_
 refine o_as rfl rfl ?_
 refine Ops_nil ?_
 refine W_block ?_
 refine W_loop (α := List Int × Bool) (fun zz0 => ⟨[(0, .raw a ha), (1, .int .i64 n), (2, .int .i64 (x0 : Int)), (3, .int .i64 (y0 : Int)), (9, .raw x17_1.1 x17_1.2), (10, .bool (zz0.2))], [own x17_1.1 2 (.ints .i64 (zz0.1)), rd a (.arrs 10 l)]⟩) (fun zz0 => BJ l n.toNat x0 y0 (zz0.1) ∧ ((zz0.2) = false → Cl l n.toNat (zz0.1) l.length 0)) (fun zz0 => 2 * clN (zz0.1) n.toNat + (if (zz0.2) = true then 1 else 0)) (joinL (rgL n.toNat) x0 y0, true) ?_ ?_ ?_
 ·exact ⟨BJ.start hx hy, fun h => by cases h⟩
 ·exact Wk.intro (.c rfl (.c rfl (.c rfl (.c rfl (.c rfl (.cons rfl (by first | rfl | exact veq_int (by first | omega | (dsimp only; omega))) .nil)))))) (.keep rfl rfl (own_eq rfl) (.keep rfl rfl (fun _ h => h) .nil))
 ·rintro ⟨c, ch⟩ hJ
  try dsimp only at *
  refine W_seq ?_
  refine W_seq ?_
  refine W_region ?_
  refine o_mv rfl rfl ?_
  refine Ops_nil ?_
  refine W_cond rfl (fun h1 => ?_) (fun h1 => ?_)
  ·try simp only [bs] at h1
   have hch : ch = true := h1
   refine W_skip ?_
   refine W_block ?_
   refine W_seq ?_
   refine W_region ?_
   refine o_as rfl rfl ?_
   refine Ops_nil ?_
   refine W_seq ?_
   refine W_region ?_
   refine o_mv rfl rfl ?_
   refine Ops_q ((q_lenR rfl rfl rfl (Rds.rd m1)).eq (d' := .int .i64 ((l.length : Nat) : Int)) rfl) (lt_dec rfl) ?_
   refine o_mv rfl rfl ?_
   refine Ops_nil ?_
   refine W_block ?_
   refine W_loop (α := Nat × List Int × Bool) (fun zz1 => ⟨[(0, .raw a ha), (1, .int .i64 n), (2, .int .i64 (x0 : Int)), (3, .int .i64 (y0 : Int)), (9, .raw x17_1.1 x17_1.2), (10, .bool (zz1.2.2)), (22, .bool ch), (23, .raw a ha), (24, .int .i64 (l.length : Int)), (25, .int .i64 ((zz1.1) : Int))], [own x17_1.1 2 (.ints .i64 (zz1.2.1)), rd a (.arrs 10 l)]⟩) (fun zz1 => (zz1.1) ≤ l.length ∧ BJ l n.toNat x0 y0 (zz1.2.1) ∧ clN (zz1.2.1) n.toNat ≤ clN c n.toNat ∧ ((zz1.2.2) = false → (zz1.2.1) = c ∧ Cl l n.toNat (zz1.2.1) (zz1.1) 0) ∧ ((zz1.2.2) = true → clN (zz1.2.1) n.toNat < clN c n.toNat)) (fun zz1 => l.length - (zz1.1)) (0, c, false) ?_ ?_ ?_
   ·exact ⟨Nat.zero_le _, hJ.1, Nat.le_refl _, fun _ => ⟨rfl, Cl.zero⟩, fun h => by cases h⟩
   ·exact Wk.intro (.c rfl (.c rfl (.c rfl (.c rfl (.c rfl (.cons rfl (by first | rfl | exact veq_int (by first | omega | (dsimp only; omega))) (.c rfl (.c rfl (.c rfl (.cons rfl (by first | rfl | exact veq_int (by first | omega | (dsimp only; omega))) .nil)))))))))) (.keep rfl rfl (own_eq rfl) (.keep rfl rfl (fun _ h => h) .nil))
   ·rintro ⟨k, c1, ch1⟩ hP
    try dsimp only at *
    have hkl := hP.1
    refine W_seq ?_
    refine W_region ?_
    refine Ops_p (p_lss rfl rfl) (lt_dec rfl) ?_
    refine Ops_nil ?_
    refine W_seq ?_
    refine W_cond rfl (fun h2 => ?_) (fun h2 => ?_)
    ·try simp only [bs] at h2
     refine W_skip ?_
     refine W_seq ?_
     refine W_block ?_
     refine W_seq ?_
     refine W_region ?_
     refine Ops_q (q_ixR _ rfl rfl rfl (Rds.rd m1) rfl rfl (by first | (show _ < List.length _; omega) | (show _ < List.length _; first | omega | (dsimp only; omega))) rfl) (lt_dec rfl) ?_
     refine Ops_q (q_loadR rfl rfl (Rds.rd m1) rfl rfl (by first | (show _ < List.length _; omega) | (show _ < List.length _; first | omega | (dsimp only; omega))) rfl rfl rfl) (lt_dec rfl) ?_
     refine Ops_x rfl (x_alloc rfl (lt_dec rfl) fun b12_1 => ?_)
     refine Ops_x rfl (x_store rfl rfl rfl rfl rfl HpRep.head rfl (by first | trivial | (first | (first | omega | (dsimp only; omega)) | exact Fin.isLt _)) ?_)
     refine Ops_nil ?_
     refine W_seq ?_
     refine W_region ?_
     refine o_mv rfl rfl ?_
     refine o_mv rfl rfl ?_
     refine Ops_nil ?_
     refine W_block ?_
     refine W_loop (α := Nat × List Int × Bool) (fun zz2 => ⟨[(0, .raw a ha), (1, .int .i64 n), (2, .int .i64 (x0 : Int)), (3, .int .i64 (y0 : Int)), (9, .raw x17_1.1 x17_1.2), (10, .bool (zz2.2.2)), (12, .ptr b12_1 0 none), (22, .bool ch), (23, .raw a ha), (24, .int .i64 (l.length : Int)), (25, .int .i64 (k : Int)), (29, .int .i64 n), (30, .int .i64 ((zz2.1) : Int))], [.var b12_1 (.arr8 10 (l.getD k fun _ => 0)), own x17_1.1 2 (.ints .i64 (zz2.2.1)), rd a (.arrs 10 l)]⟩) (fun zz2 => (zz2.1) ≤ n.toNat ∧ BJ l n.toNat x0 y0 (zz2.2.1) ∧ clN (zz2.2.1) n.toNat ≤ clN c n.toNat ∧ ((zz2.2.2) = false → (zz2.2.1) = c ∧ Cl l n.toNat (zz2.2.1) k (zz2.1)) ∧ ((zz2.2.2) = true → clN (zz2.2.1) n.toNat < clN c n.toNat)) (fun zz2 => n.toNat - (zz2.1)) (0, c1, ch1) ?_ ?_ ?_
     ·exact ⟨Nat.zero_le _, hP.2⟩
     ·exact Wk.intro (.c rfl (.c rfl (.c rfl (.c rfl (.c rfl (.cons rfl (by first | rfl | exact veq_int (by first | omega | (dsimp only; omega))) (.c rfl (.c rfl (.c rfl (.c rfl (.c rfl (.c rfl (.cons rfl (by first | rfl | exact veq_int (by first | omega | (dsimp only; omega))) .nil))))))))))))) (.keep rfl rfl (fun _ h => h) (.keep rfl rfl (own_eq rfl) (.keep rfl rfl (fun _ h => h) .nil)))
     ·rintro ⟨j, c2, ch2⟩ ⟨hjn, hQ⟩
      try dsimp only at *
      refine W_seq ?_
      refine W_region ?_
      refine Ops_p (p_lss rfl rfl) (lt_dec rfl) ?_
      refine Ops_nil ?_
      refine W_seq ?_
      refine W_cond rfl (fun h3 => ?_) (fun h3 => ?_)
      ·try simp only [bs] at h3
       refine W_skip ?_
       refine W_seq ?_
       refine W_block ?_
       refine W_seq ?_
       refine W_region ?_
       refine o_mv rfl rfl ?_
       refine o_as rfl rfl ?_
       refine Ops_nil ?_
       refine W_seq ?_
       obtain ⟨m, hm, hmn, hBm⟩ := hQ.1.at (j := j) (by omega)
       have hlen := hQ.1.len
       have hpk := hp.at (k := k) (by omega)
       have hkm : (l.getD k fun _ => 0) ∈ l := (by rw [List.getD, List.getElem?_eq_getElem (by omega)]; exact List.getElem_mem _)
       have hpj := perm_lt (i := j) hpk (by omega)
       have hpm := perm_lt (i := m) hpk (by omega)
       refine W_draw (by kernel_rfl) ?_
       show RA _ _ 21 _ _ _
       refine RA_quiet (g := 2) [0, 1, 2, 3, 4, 5, 6, 7, 8, 9, 10, 11, 12, 13, 14, 15, 16, 17, 18] (by kernel_rfl) (by kernel_rfl) (by kernel_rfl) (by kernel_rfl) ?_
       refine WQ_cons rfl rfl rfl ((p_move rfl).q) (lt_dec rfl) ?_
       refine WQ_cons rfl rfl rfl ((p_move rfl).q) (lt_dec rfl) ?_
       refine WQ_cons rfl rfl rfl ((q_ixR _ rfl rfl rfl (Rds.own m1) rfl rfl (by first | (show _ < List.length _; omega) | (show _ < List.length _; first | omega | (dsimp only; omega))) rfl)) (lt_dec rfl) ?_
       refine WQ_cons rfl rfl rfl ((q_loadR rfl rfl (Rds.own m1) rfl rfl (by first | (show _ < List.length _; omega) | (show _ < List.length _; first | omega | (dsimp only; omega))) rfl rfl rfl)) (lt_dec rfl) ?_
       refine WQ_cons rfl rfl rfl ((p_move rfl).q) (lt_dec rfl) ?_
       refine WQ_cons rfl rfl rfl ((p_neq rfl rfl).q) (lt_dec rfl) ?_
       refine WQ_cons rfl rfl rfl ((p_move rfl).q) (lt_dec rfl) ?_
       first | refine WQ_guard rfl rfl rfl (lt_dec rfl) (fun hg1 => ⟨_, (p_move rfl).q, ?_⟩) (fun hg1 => ?_)
       ·try simp only [bs] at hg1
        first | refine WQ_guard rfl rfl rfl (lt_dec rfl) (fun _ => ⟨_, (p_move rfl).q, ?_⟩) (fun h => by cases h)
        first | refine WQ_guard rfl rfl rfl (lt_dec rfl) (fun _ => ⟨_, (p_ix1 j rfl rfl rfl rfl rfl rfl (by first | omega | exact Fin.isLt _ | (dsimp only; omega))).q, ?_⟩) (fun h => by cases h) | refine WQ_guard rfl rfl rfl (lt_dec rfl) (fun _ => ⟨_, (p_ix1s j rfl rfl rfl rfl rfl rfl (by first | omega | exact Fin.isLt _ | (dsimp only; omega))).q, ?_⟩) (fun h => by cases h)
        first | refine WQ_guard rfl rfl rfl (lt_dec rfl) (fun _ => ⟨_, (q_load rfl rfl m0 rfl (by first | exact True.intro | omega | exact Fin.isLt _ | trivial | (dsimp only; omega))), ?_⟩) (fun h => by cases h)
        first | refine WQ_guard rfl rfl rfl (lt_dec rfl) (fun _ => ⟨_, (p_conv8 rfl rfl rfl (by decide)).q, ?_⟩) (fun h => by cases h) | refine WQ_guard rfl rfl rfl (lt_dec rfl) (fun _ => ⟨_, (p_conv rfl rfl rfl (by exact ⟨(by first | omega | (dsimp only; omega)), (by first | omega | (dsimp only; omega))⟩)).q, ?_⟩) (fun h => by cases h)
        first | refine WQ_guard rfl rfl rfl (lt_dec rfl) (fun _ => ⟨_, (p_move rfl).q, ?_⟩) (fun h => by cases h)
        first | refine WQ_guard rfl rfl rfl (lt_dec rfl) (fun _ => ⟨_, (p_move rfl).q, ?_⟩) (fun h => by cases h)
        first | refine WQ_guard rfl rfl rfl (lt_dec rfl) (fun _ => ⟨_, (q_ixR _ rfl rfl rfl (Rds.own m1) rfl rfl (by first | (show _ < List.length _; omega) | (show _ < List.length _; first | omega | (dsimp only; omega))) rfl), ?_⟩) (fun h => by cases h)
        first | refine WQ_guard rfl rfl rfl (lt_dec rfl) (fun _ => ⟨_, (q_loadR rfl rfl (Rds.own m1) rfl rfl (by first | (show _ < List.length _; omega) | (show _ < List.length _; first | omega | (dsimp only; omega))) rfl rfl rfl), ?_⟩) (fun h => by cases h)
        first | refine WQ_guard rfl rfl rfl (lt_dec rfl) (fun _ => ⟨_, (p_ix1 m rfl rfl rfl rfl rfl hm (by first | omega | exact Fin.isLt _ | (dsimp only; omega))).q, ?_⟩) (fun h => by cases h) | refine WQ_guard rfl rfl rfl (lt_dec rfl) (fun _ => ⟨_, (p_ix1s m rfl rfl rfl rfl rfl hm (by first | omega | exact Fin.isLt _ | (dsimp only; omega))).q, ?_⟩) (fun h => by cases h)
        first | refine WQ_guard rfl rfl rfl (lt_dec rfl) (fun _ => ⟨_, (q_load rfl rfl m0 rfl (by first | exact True.intro | omega | exact Fin.isLt _ | trivial | (dsimp only; omega))), ?_⟩) (fun h => by cases h)
        first | refine WQ_guard rfl rfl rfl (lt_dec rfl) (fun _ => ⟨_, (p_conv8 rfl rfl rfl (by decide)).q, ?_⟩) (fun h => by cases h) | refine WQ_guard rfl rfl rfl (lt_dec rfl) (fun _ => ⟨_, (p_conv rfl rfl rfl (by exact ⟨(by first | omega | (dsimp only; omega)), (by first | omega | (dsimp only; omega))⟩)).q, ?_⟩) (fun h => by cases h)
        refine WQ_nil ?_
        refine RA_oneG 19 rfl rfl rfl rfl (by kernel_rfl) (x_callT en_impl_classes_join rfl (w_impl_classes_join (by omega) (by omega) (by omega)) (HpDels.cons (HpDel.head).tail HpDels.nil) (Vw.none _) (fun _ => (HpDels.cons (HpDel.head).tail HpDels.nil)) (lt_dec rfl) fun _ _ => ?_)
        refine RA_quiet (g := 0) [20] (by kernel_rfl) (by kernel_rfl) (by kernel_rfl) (by kernel_rfl) ?_
        refine WQ_cons rfl rfl rfl ((p_pick_t rfl rfl).q) (lt_dec rfl) ?_
        refine WQ_nil ?_
        refine RA_done (by kernel_rfl) ?_
        refine W_cond rfl (fun h4 => ?_) (fun h4 => ?_)
        ·try simp only [bs] at h4
         have hne : c2.getD (((l.getD k fun _ => 0)) j).val 0 ≠ c2.getD (((l.getD k fun _ => 0)) m).val 0 := (by simpa using h4)
         refine W_region ?_
         refine o_as rfl rfl ?_
         refine Ops_nil ?_
         refine W_region ?_
         refine Ops_p (p_add rfl rfl (by refine ⟨?_, ?_⟩ <;> first | omega | (dsimp only; omega))) (lt_dec rfl) ?_
         refine o_mv rfl rfl ?_
         refine Ops_nil ?_
         refine Exists.intro (j + 1, (joinL c2 (((l.getD k fun _ => 0)) j).val (((l.getD k fun _ => 0)) m).val), true) (And.intro ?_ (And.intro ?_ ?_))
         ·first | exact ⟨by show j + 1 ≤ _; omega, hQ.1.join hp hkm (by omega) (by omega) hBm, Nat.le_trans (Nat.le_of_lt (hQ.1.less (by omega) (by omega) hne)) hQ.2.1, fun h => (by cases h), fun _ => Nat.lt_of_lt_of_le (hQ.1.less (by omega) (by omega) hne) hQ.2.1⟩ | exact ⟨by show j + 1 ≤ _; omega, hQ.1, hQ.2.1, fun h => ⟨(hQ.2.2.1 h).1, (hQ.2.2.1 h).2.step (show clA c2 _ j by unfold clA; rw [hm, Int.toNat_natCast]; exact heq)⟩, hQ.2.2.2⟩ | exact ⟨by show j + 1 ≤ _; omega, hQ.1, hQ.2.1, fun h => ⟨(hQ.2.2.1 h).1, (hQ.2.2.1 h).2.step (clA_id (by omega))⟩, hQ.2.2.2⟩
         ·show _ < _; omega
         ·exact Wk.intro (.c rfl (.c rfl (.c rfl (.c rfl (.c rfl (.cons rfl (by first | rfl | exact veq_int (by first | omega | (dsimp only; omega))) (.c rfl (.c rfl (.c rfl (.c rfl (.c rfl (.c rfl (.cons rfl (by first | rfl | exact veq_int (by first | omega | (dsimp only; omega))) .nil))))))))))))) (.keep rfl rfl (fun _ h => h) (.keep rfl rfl (own_eq (by first | rfl | rw [joinL_same heq])) (.keep rfl rfl (fun _ h => h) .nil)))
        ·try simp only [bs] at h4
         have heq : c2.getD (((l.getD k fun _ => 0)) j).val 0 = c2.getD (((l.getD k fun _ => 0)) m).val 0 := (by simpa using h4)
         refine W_skip ?_
         refine W_region ?_
         refine Ops_p (p_add rfl rfl (by refine ⟨?_, ?_⟩ <;> first | omega | (dsimp only; omega))) (lt_dec rfl) ?_
         refine o_mv rfl rfl ?_
         refine Ops_nil ?_
         refine Exists.intro (j + 1, c2, ch2) (And.intro ?_ (And.intro ?_ ?_))
         ·first | exact ⟨by show j + 1 ≤ _; omega, hQ.1.join hp hkm (by omega) (by omega) hBm, Nat.le_trans (Nat.le_of_lt (hQ.1.less (by omega) (by omega) hne)) hQ.2.1, fun h => (by cases h), fun _ => Nat.lt_of_lt_of_le (hQ.1.less (by omega) (by omega) hne) hQ.2.1⟩ | exact ⟨by show j + 1 ≤ _; omega, hQ.1, hQ.2.1, fun h => ⟨(hQ.2.2.1 h).1, (hQ.2.2.1 h).2.step (show clA c2 _ j by unfold clA; rw [hm, Int.toNat_natCast]; exact heq)⟩, hQ.2.2.2⟩ | exact ⟨by show j + 1 ≤ _; omega, hQ.1, hQ.2.1, fun h => ⟨(hQ.2.2.1 h).1, (hQ.2.2.1 h).2.step (clA_id (by omega))⟩, hQ.2.2.2⟩
         ·show _ < _; omega
         ·exact Wk.intro (.c rfl (.c rfl (.c rfl (.c rfl (.c rfl (.c rfl (.c rfl (.c rfl (.c rfl (.c rfl (.c rfl (.c rfl (.cons rfl (by first | rfl | exact veq_int (by first | omega | (dsimp only; omega))) .nil))))))))))))) (.keep rfl rfl (fun _ h => h) (.keep rfl rfl (own_eq (by first | rfl | rw [joinL_same heq])) (.keep rfl rfl (fun _ h => h) .nil)))
       ·try simp only [bs] at hg1
        refine WQ_guard rfl rfl rfl (lt_dec rfl) (fun h => by cases h) (fun _ => ?_)
        refine WQ_guard rfl rfl rfl (lt_dec rfl) (fun h => by cases h) (fun _ => ?_)
        refine WQ_guard rfl rfl rfl (lt_dec rfl) (fun h => by cases h) (fun _ => ?_)
        refine WQ_guard rfl rfl rfl (lt_dec rfl) (fun h => by cases h) (fun _ => ?_)
        refine WQ_guard rfl rfl rfl (lt_dec rfl) (fun h => by cases h) (fun _ => ?_)
        refine WQ_guard rfl rfl rfl (lt_dec rfl) (fun h => by cases h) (fun _ => ?_)
        refine WQ_guard rfl rfl rfl (lt_dec rfl) (fun h => by cases h) (fun _ => ?_)
        refine WQ_guard rfl rfl rfl (lt_dec rfl) (fun h => by cases h) (fun _ => ?_)
        refine WQ_guard rfl rfl rfl (lt_dec rfl) (fun h => by cases h) (fun _ => ?_)
        refine WQ_guard rfl rfl rfl (lt_dec rfl) (fun h => by cases h) (fun _ => ?_)
        refine WQ_guard rfl rfl rfl (lt_dec rfl) (fun h => by cases h) (fun _ => ?_)
        refine WQ_nil ?_
        refine RA_skipG 19 rfl rfl rfl rfl rfl rfl (lt_dec rfl) (by kernel_rfl) ?_
        refine RA_quiet (g := 0) [20] (by kernel_rfl) (by kernel_rfl) (by kernel_rfl) (by kernel_rfl) ?_
        refine WQ_cons rfl rfl rfl ((p_pick_f rfl rfl).q) (lt_dec rfl) ?_
        refine WQ_nil ?_
        refine RA_done (by kernel_rfl) ?_
        refine W_false rfl ?_
        refine W_skip ?_
        refine W_region ?_
        refine Ops_p (p_add rfl rfl (by refine ⟨?_, ?_⟩ <;> first | omega | (dsimp only; omega))) (lt_dec rfl) ?_
        refine o_mv rfl rfl ?_
        refine Ops_nil ?_
        refine Exists.intro (j + 1, c2, ch2) (And.intro ?_ (And.intro ?_ ?_))
        ·first | exact ⟨by show j + 1 ≤ _; omega, hQ.1.join hp hkm (by omega) (by omega) hBm, Nat.le_trans (Nat.le_of_lt (hQ.1.less (by omega) (by omega) hne)) hQ.2.1, fun h => (by cases h), fun _ => Nat.lt_of_lt_of_le (hQ.1.less (by omega) (by omega) hne) hQ.2.1⟩ | exact ⟨by show j + 1 ≤ _; omega, hQ.1, hQ.2.1, fun h => ⟨(hQ.2.2.1 h).1, (hQ.2.2.1 h).2.step (show clA c2 _ j by unfold clA; rw [hm, Int.toNat_natCast]; exact heq)⟩, hQ.2.2.2⟩ | exact ⟨by show j + 1 ≤ _; omega, hQ.1, hQ.2.1, fun h => ⟨(hQ.2.2.1 h).1, (hQ.2.2.1 h).2.step (clA_id (by omega))⟩, hQ.2.2.2⟩
        ·show _ < _; omega
        ·exact Wk.intro (.c rfl (.c rfl (.c rfl (.c rfl (.c rfl (.c rfl (.c rfl (.c rfl (.c rfl (.c rfl (.c rfl (.c rfl (.cons rfl (by first | rfl | exact veq_int (by first | omega | (dsimp only; omega))) .nil))))))))))))) (.keep rfl rfl (fun _ h => h) (.keep rfl rfl (own_eq (by first | rfl | rw [joinL_same heq])) (.keep rfl rfl (fun _ h => h) .nil)))
      ·try simp only [bs] at h3
       obtain rfl : j = n.toNat := (by omega)
       refine W_exit ?_
       refine W_region ?_
       refine Ops_p (p_add rfl rfl (by refine ⟨?_, ?_⟩ <;> first | omega | (dsimp only; omega))) (lt_dec rfl) ?_
       refine o_mv rfl rfl ?_
       refine Ops_nil ?_
       refine Exists.intro (k + 1, c2, ch2) (And.intro ?_ (And.intro ?_ ?_))
       ·exact ⟨by show k + 1 ≤ _; omega, hQ.1, hQ.2.1, fun h => ⟨(hQ.2.2.1 h).1, (hQ.2.2.1 h).2.row⟩, hQ.2.2.2⟩
       ·show _ < _; omega
       ·exact Wk.intro (.c rfl (.c rfl (.c rfl (.c rfl (.c rfl (.cons rfl (by first | rfl | exact veq_int (by first | omega | (dsimp only; omega))) (.c rfl (.c rfl (.c rfl (.cons rfl (by first | rfl | exact veq_int (by first | omega | (dsimp only; omega))) .nil)))))))))) (.drop (.keep rfl rfl (own_eq rfl) (.keep rfl rfl (fun _ h => h) .nil)))
    ·try simp only [bs] at h2
     obtain rfl : k = l.length := (by omega)
     refine W_exit ?_
     refine Exists.intro (c1, ch1) (And.intro ?_ (And.intro ?_ ?_))
     ·exact ⟨hP.2.1, fun h => (hP.2.2.2.1 h).2⟩
     ·show 2 * clN c1 n.toNat + (if ch1 = true then 1 else 0) < 2 * clN c n.toNat + (if ch = true then 1 else 0); have q1 := hP.2.2.1; have q2 := hP.2.2.2.2; rw [if_pos hch]; cases ch1 with | false => (rw [if_neg (by decide)]; omega) | true => (have q3 := q2 rfl; rw [if_pos rfl]; omega)
     ·exact Wk.intro (.c rfl (.c rfl (.c rfl (.c rfl (.c rfl (.cons rfl (by first | rfl | exact veq_int (by first | omega | (dsimp only; omega))) .nil)))))) (.keep rfl rfl (own_eq rfl) (.keep rfl rfl (fun _ h => h) .nil))
  ·try simp only [bs] at h1
   have hch : ch = false := (by simpa using h1)
   refine W_exit ?_
   refine W_seq ?_
   refine W_seq ?_
   refine W_region ?_
   refine o_mv rfl rfl ?_
   refine Ops_x rfl (x_callT en_impl_classes_lists rfl (w_impl_classes_lists (by have := hJ.1.len; omega)) HpDels.nil (Vw.rdO m0) (fun _ => (HpDels.cons HpDel.head HpDels.nil)) (lt_dec rfl) fun x57_1 hx1 => ?_)
   refine Ops_q (q_lenO rfl rfl rfl (Rds.ossO m0)) (lt_dec rfl) ?_
   refine o_mv rfl rfl ?_
   refine Ops_nil ?_
   refine W_block ?_
   refine W_loop (α := Nat) (fun q => ⟨[(0, .raw a ha), (1, .int .i64 n), (2, .int .i64 (x0 : Int)), (3, .int .i64 (y0 : Int)), (9, .raw x17_1.1 x17_1.2), (10, .bool ch), (22, .bool ch), (57, .raw x57_1.1.1 x57_1.1.2), (58, .int .i64 ((x57_1.2.length : Nat) : Int)), (59, .int .i64 (q : Int))], [oss x57_1.1.1 48 2 x57_1.2, own x17_1.1 2 (.ints .i64 c), rd a (.arrs 10 l)]⟩) (fun q => q ≤ x57_1.2.length ∧ ∀ r, r < q → ¬ ((x0 : Nat) : Int) ∈ (x57_1.2.getD r sd).2) (fun q => x57_1.2.length - q) 0 ?_ ?_ ?_
   ·exact ⟨by omega, fun r h => by omega⟩
   ·exact Wk.intro (.c rfl (.c rfl (.c rfl (.c rfl (.c rfl (.c rfl (.c rfl (.c rfl (.c rfl (.cons rfl (by first | rfl | exact veq_int (by first | omega | (dsimp only; omega))) .nil)))))))))) (.keep rfl rfl (fun _ h => h) (.keep rfl rfl (fun _ h => h) (.keep rfl rfl (fun _ h => h) .nil)))
   ·rintro q ⟨hqq, hR⟩
    have hlq : x57_1.2.length ≤ 10 := (by have h0 := hJ.1.len; have h1 := snd_cnt hx1; have h2 := clF_len (c := c) (n := c.length) c.length; omega)
    refine W_seq ?_
    refine W_region ?_
    refine Ops_p (p_lss rfl rfl) (lt_dec rfl) ?_
    refine Ops_nil ?_
    refine W_seq ?_
    refine W_cond rfl (fun h5 => ?_) (fun h5 => ?_)
    ·try simp only [bs] at h5
     refine W_skip ?_
     refine W_seq ?_
     refine W_block ?_
     refine W_seq ?_
     refine W_region ?_
     refine Ops_q (q_ixR (q) rfl rfl rfl (Rds.ossO m0) rfl rfl (by rw [valsR_len]; first | omega | (dsimp only; omega)) rfl) (lt_dec rfl) ?_
     refine Ops_q (q_loadI (j := q) rfl rfl (Rds.ossO m0) rfl (by first | omega | assumption) rfl rfl) (lt_dec rfl) ?_
     refine o_as rfl rfl ?_
     refine Ops_nil ?_
     refine W_seq ?_
     have hll := hx1
     refine W_region ?_
     refine o_mv rfl rfl ?_
     refine o_mv rfl rfl ?_
     refine Ops_q (q_call en_slices_ContainsGSint64int64 rfl (w_slices_ContainsGSint64int64 (by have h0 := hJ.1.len; have h8 := len_getD (B := 10) hx1 (fun q hq => clF_in (by omega) q hq) q; omega)) (Vw.rdIO m0 (by omega) rfl).v) (lt_dec rfl) ?_
     refine Ops_nil ?_
     refine W_cond rfl (fun h6 => ?_) (fun h6 => ?_)
     ·try simp only [bs] at h6
      have hct := h6
      refine W_seq ?_
      refine W_region ?_
      refine o_mv rfl rfl ?_
      refine o_as rfl rfl ?_
      refine Ops_nil ?_
      refine W_ret ?_
      refine Exists.intro _ (And.intro (.cons (.tmp rfl) .nil) (Exists.intro ⟨(x57_1.2.getD q sd).1.1, (x57_1.2.getD q sd).1.2⟩ (And.intro ?_ (And.intro ?_ (And.intro (.part HpDel.head (oss_part (by omega)) (oss_inner (by omega) (by exact blk_pick hp hx hy hJ.1 (hJ.2 hch) hx1 (by omega) (by simpa using hct))) .nil) rfl)))))
      ·trivial
      ·rfl
     ·try simp only [bs] at h6
      have hct := h6
      refine W_skip ?_
      refine W_region ?_
      refine Ops_p (p_add rfl rfl (by refine ⟨?_, ?_⟩ <;> first | omega | (dsimp only; omega))) (lt_dec rfl) ?_
      refine o_mv rfl rfl ?_
      refine Ops_nil ?_
      refine Exists.intro (q + 1) (And.intro ?_ (And.intro ?_ ?_))
      ·exact ⟨by omega, fun r h => if e : r = q then by subst e; simpa using hct else hR r (by omega)⟩
      ·show _ < _; omega
      ·exact Wk.intro (.c rfl (.c rfl (.c rfl (.c rfl (.c rfl (.c rfl (.c rfl (.c rfl (.c rfl (.cons rfl (by first | rfl | exact veq_int (by first | omega | (dsimp only; omega))) .nil)))))))))) (.keep rfl rfl (fun _ h => h) (.keep rfl rfl (fun _ h => h) (.keep rfl rfl (fun _ h => h) .nil)))
    ·try simp only [bs] at h5
     obtain rfl : q = x57_1.2.length := (by omega)
     refine W_exit ?_
     refine W_seq ?_
     refine W_region ?_
     refine o_as rfl rfl ?_
     refine Ops_nil ?_
     refine W_ret ?_
     refine Exists.intro _ (And.intro (.cons (.tmp rfl) .nil) (Exists.intro ⟨.slice none 0 0, rfl⟩ (And.intro ?_ (And.intro ?_ (And.intro (.free rfl (False.elim (blk_none hp hx hy hJ.1 (hJ.2 hch) hx1 hR)) .nil) rfl)))))
     ·trivial
     ·rfl
end Go.Proofs.Ytjihhcjpbcmjaaa
end
section
namespace Go.Proofs.Ytjihhcjpbcmjaaa
open Go Gx
set_option linter.unusedVariables false
theorem en_impl_orbits : Enters Try.prog 46 := enters_of Try.func46 (by kernel_rfl) (by kernel_rfl)
set_option maxRecDepth 100000 in
set_option maxHeartbeats 1000000 in
theorem w_impl_orbits {a : Value} {ha : a.oneCell' = true} {l : List (Nat → Fin 256)} {n : Int} (hp : PsOk l n) (hl : l.length ≤ 40) : CT (X := V1 × SL) Try.prog 46 (vals [.raw a ha, .int .i64 n]) [] [rd a (.arrs 10 l)] (fun x => x.2.map (·.2) = oL (orbB l n.toNat) n.toNat n.toNat) (fun x => .raw x.1.1 x.1.2) (fun x => [oss x.1.1 48 2 x.2]) := by
 refine CT_intro (rs := [.tmp 4]) tt tok Try.func46 rfl rfl rfl (by first | rfl | assumption) fun w => ?_
 show W _ _ _ ⟨tmOf 0 [.raw a ha, .int .i64 n], [rd a (.arrs 10 l)]⟩
 have hn := hp.1
 refine W_seq ?_
 refine W_region ?_
 refine o_as rfl rfl ?_
 refine Ops_nil ?_
 refine W_seq ?_
 refine W_region ?_
 refine o_mv rfl rfl ?_
 refine Ops_x rfl (x_callT en_impl_newClasses rfl (w_impl_newClasses (by first | assumption | (first | omega | (dsimp only; omega)) | (simp; done) | decide)) HpDels.nil (Vw.none _) (fun _ => (HpDels.cons HpDel.head HpDels.nil)) (lt_dec rfl) fun x10_1 _ => ?_)
 refine o_as rfl rfl ?_
 refine Ops_nil ?_
 refine W_seq ?_
 refine W_seq ?_
 refine W_region ?_
 refine o_mv rfl rfl ?_
 refine Ops_q ((q_lenR rfl rfl rfl (Rds.rd m1)).eq (d' := .int .i64 ((l.length : Nat) : Int)) rfl) (lt_dec rfl) ?_
 refine o_mv rfl rfl ?_
 refine Ops_nil ?_
 refine W_block ?_
 refine W_loop (α := Nat × List Int) (fun zz0 => ⟨[(0, .raw a ha), (1, .int .i64 n), (5, .raw x10_1.1 x10_1.2), (11, .raw a ha), (12, .int .i64 (l.length : Int)), (13, .int .i64 ((zz0.1) : Int))], [own x10_1.1 2 (.ints .i64 (zz0.2)), rd a (.arrs 10 l)]⟩) (fun zz0 => (zz0.1) ≤ l.length ∧ OI l n.toNat (zz0.1) 0 (zz0.2)) (fun zz0 => l.length - (zz0.1)) (0, rgL n.toNat) ?_ ?_ ?_
 ·exact ⟨Nat.zero_le _, by rw [rgL_eq]; exact OI.zero⟩
 ·exact Wk.intro (.c rfl (.c rfl (.c rfl (.c rfl (.c rfl (.cons rfl (by first | rfl | exact veq_int (by first | omega | (dsimp only; omega))) .nil)))))) (.keep rfl rfl (own_eq rfl) (.keep rfl rfl (fun _ h => h) .nil))
 ·rintro ⟨k, c⟩ ⟨hk, hO⟩
  try dsimp only at *
  have hlc := hO.len
  refine W_seq ?_
  refine W_region ?_
  refine Ops_p (p_lss rfl rfl) (lt_dec rfl) ?_
  refine Ops_nil ?_
  refine W_seq ?_
  refine W_cond rfl (fun h1 => ?_) (fun h1 => ?_)
  ·try simp only [bs] at h1
   refine W_skip ?_
   refine W_seq ?_
   refine W_block ?_
   refine W_seq ?_
   refine W_region ?_
   refine Ops_q (q_ixR _ rfl rfl rfl (Rds.rd m1) rfl rfl (by first | (show _ < List.length _; omega) | (show _ < List.length _; first | omega | (dsimp only; omega))) rfl) (lt_dec rfl) ?_
   refine Ops_q (q_loadR rfl rfl (Rds.rd m1) rfl rfl (by first | (show _ < List.length _; omega) | (show _ < List.length _; first | omega | (dsimp only; omega))) rfl rfl rfl) (lt_dec rfl) ?_
   refine Ops_x rfl (x_alloc rfl (lt_dec rfl) fun b7_1 => ?_)
   refine Ops_x rfl (x_store rfl rfl rfl rfl rfl HpRep.head rfl (by first | trivial | (first | (first | omega | (dsimp only; omega)) | exact Fin.isLt _)) ?_)
   refine Ops_nil ?_
   refine W_seq ?_
   refine W_region ?_
   refine o_mv rfl rfl ?_
   refine o_mv rfl rfl ?_
   refine Ops_nil ?_
   refine W_block ?_
   refine W_loop (α := Nat × List Int) (fun zz1 => ⟨[(0, .raw a ha), (1, .int .i64 n), (5, .raw x10_1.1 x10_1.2), (7, .ptr b7_1 0 none), (11, .raw a ha), (12, .int .i64 (l.length : Int)), (13, .int .i64 (k : Int)), (17, .int .i64 n), (18, .int .i64 ((zz1.1) : Int))], [.var b7_1 (.arr8 10 (l.getD k fun _ => 0)), own x10_1.1 2 (.ints .i64 (zz1.2)), rd a (.arrs 10 l)]⟩) (fun zz1 => (zz1.1) ≤ n.toNat ∧ OI l n.toNat k (zz1.1) (zz1.2)) (fun zz1 => n.toNat - (zz1.1)) (0, c) ?_ ?_ ?_
   ·exact ⟨Nat.zero_le _, hO⟩
   ·exact Wk.intro (.c rfl (.c rfl (.c rfl (.c rfl (.c rfl (.c rfl (.c rfl (.c rfl (.cons rfl (by first | rfl | exact veq_int (by first | omega | (dsimp only; omega))) .nil))))))))) (.keep rfl rfl (fun _ h => h) (.keep rfl rfl (own_eq rfl) (.keep rfl rfl (fun _ h => h) .nil)))
   ·rintro ⟨j, c2⟩ ⟨hj, hO2⟩
    try dsimp only at *
    have hlc2 := hO2.len
    refine W_seq ?_
    refine W_region ?_
    refine Ops_p (p_lss rfl rfl) (lt_dec rfl) ?_
    refine Ops_nil ?_
    refine W_seq ?_
    refine W_cond rfl (fun h2 => ?_) (fun h2 => ?_)
    ·try simp only [bs] at h2
     refine W_skip ?_
     refine W_seq ?_
     refine W_block ?_
     refine W_seq ?_
     refine W_region ?_
     refine o_mv rfl rfl ?_
     refine o_as rfl rfl ?_
     refine Ops_nil ?_
     have hpk := perm_lt (i := j) (hp.at (k := k) (by omega)) (by omega)
     refine W_region ?_
     refine o_mv rfl rfl ?_
     refine o_mv rfl rfl ?_
     refine o_mv rfl rfl ?_
     first | refine Ops_p (p_ix1 _ rfl rfl rfl rfl rfl rfl (by first | omega | exact Fin.isLt _ | (dsimp only; omega))) (lt_dec rfl) ?_ | refine Ops_p (p_ix1s _ rfl rfl rfl rfl rfl rfl (by first | omega | exact Fin.isLt _ | (dsimp only; omega))) (lt_dec rfl) ?_
     refine Ops_q (q_load rfl rfl m0 rfl (by first | exact True.intro | omega | exact Fin.isLt _ | trivial | (dsimp only; omega))) (lt_dec rfl) ?_
     first | refine Ops_p (p_conv8 rfl rfl rfl (by decide)) (lt_dec rfl) ?_ | refine Ops_p (p_conv rfl rfl rfl (by exact ⟨(by first | omega | (dsimp only; omega)), (by first | omega | (dsimp only; omega))⟩)) (lt_dec rfl) ?_
     refine Ops_x rfl (x_callT en_impl_classes_join rfl (w_impl_classes_join (by omega) (by omega) (by omega)) (HpDels.cons (HpDel.head).tail HpDels.nil) (Vw.none _) (fun _ => (HpDels.cons (HpDel.head).tail HpDels.nil)) (lt_dec rfl) fun _ _ => ?_)
     refine Ops_nil ?_
     refine W_region ?_
     refine Ops_p (p_add rfl rfl (by refine ⟨?_, ?_⟩ <;> first | omega | (dsimp only; omega))) (lt_dec rfl) ?_
     refine o_mv rfl rfl ?_
     refine Ops_nil ?_
     refine Exists.intro (j + 1, joinL c2 j ((l.getD k fun _ => 0) j).val) (And.intro ?_ (And.intro ?_ ?_))
     ·exact ⟨by show _ ≤ _; omega, hO2.step hp (by omega) (by omega)⟩
     ·show _ < _; omega
     ·exact Wk.intro (.c rfl (.c rfl (.c rfl (.c rfl (.c rfl (.c rfl (.c rfl (.c rfl (.cons rfl (by first | rfl | exact veq_int (by first | omega | (dsimp only; omega))) .nil))))))))) (.keep rfl rfl (fun _ h => h) (.keep rfl rfl (own_eq rfl) (.keep rfl rfl (fun _ h => h) .nil)))
    ·try simp only [bs] at h2
     obtain rfl : j = n.toNat := (by omega)
     refine W_exit ?_
     refine W_region ?_
     refine Ops_p (p_add rfl rfl (by refine ⟨?_, ?_⟩ <;> first | omega | (dsimp only; omega))) (lt_dec rfl) ?_
     refine o_mv rfl rfl ?_
     refine Ops_nil ?_
     refine Exists.intro (k + 1, c2) (And.intro ?_ (And.intro ?_ ?_))
     ·exact ⟨by show _ ≤ _; omega, hO2.row⟩
     ·show _ < _; omega
     ·exact Wk.intro (.c rfl (.c rfl (.c rfl (.c rfl (.c rfl (.cons rfl (by first | rfl | exact veq_int (by first | omega | (dsimp only; omega))) .nil)))))) (.drop (.keep rfl rfl (own_eq rfl) (.keep rfl rfl (fun _ h => h) .nil)))
  ·try simp only [bs] at h1
   obtain rfl : k = l.length := (by omega)
   refine W_exit ?_
   refine W_seq ?_
   refine W_region ?_
   refine o_mv rfl rfl ?_
   refine Ops_x rfl (x_callT en_impl_classes_lists rfl (w_impl_classes_lists (by omega)) HpDels.nil (Vw.rdO m0) (fun _ => (HpDels.cons HpDel.head HpDels.nil)) (lt_dec rfl) fun x31_1 hx1 => ?_)
   refine o_as rfl rfl ?_
   refine Ops_nil ?_
   refine W_ret ?_
   refine Exists.intro _ (And.intro (.cons (.tmp rfl) .nil) (Exists.intro x31_1 (And.intro ?_ (And.intro ?_ (And.intro (.cons HpDel.head rfl (oss_eq rfl) .nil) rfl)))))
   ·rw [hx1, hlc]; exact clF_oL hp hO _ (Nat.le_refl _)
   ·rfl
end Go.Proofs.Ytjihhcjpbcmjaaa
end
section
namespace Go.Proofs.Ytjihhcjpbcmjaaa
open Go Gx
set_option linter.unusedVariables false
theorem en_impl_IsPrimitive : Enters Try.prog 25 := enters_of Try.func25 (by kernel_rfl) (by kernel_rfl)
set_option maxRecDepth 100000 in
theorem w_impl_IsPrimitive {a : Value} {ha : a.oneCell' = true} {l : List (Nat → Fin 256)} {n : Int} (hl : l.length ≤ 1048576) : CR Try.prog 25 (vals [.raw a ha, .int .i64 n]) [rd a (.arrs 10 l)] (.tup [.bool (prB l n), .int .i64 (psC l n)]) := by
 refine CR_intro (rs := [.tmp 4, .tmp 5]) tt tok Try.func25 rfl rfl rfl (by first | rfl | assumption) fun w => ?_
 refine W_seq ?_
 refine W_region ?_
 refine o_as rfl rfl ?_
 refine o_as rfl rfl ?_
 refine Ops_nil ?_
 refine W_seq ?_
 refine W_seq ?_
 refine W_region ?_
 refine o_mv rfl rfl ?_
 refine o_mv rfl rfl ?_
 refine Ops_q (q_call en_impl_groupCodeVN rfl (w_impl_groupCodeVN (by first | assumption | (first | omega | (dsimp only; omega)) | (simp; done) | decide)) (Vw.rd m0).v) (lt_dec rfl) ?_
 refine o_as rfl rfl ?_
 refine Ops_nil ?_
 refine W_seq ?_
 refine W_region ?_
 refine o_mv rfl rfl ?_
 refine Ops_p (p_neq rfl rfl) (lt_dec rfl) ?_
 refine Ops_nil ?_
 refine W_cond rfl (fun h1 => ?_) (fun h1 => ?_)
 ·try simp only [bs] at h1
  refine W_seq ?_
  refine W_region ?_
  refine o_mv rfl rfl ?_
  refine o_as rfl rfl ?_
  refine o_as rfl rfl ?_
  refine Ops_nil ?_
  refine W_ret ?_
  refine Exists.intro _ (And.intro (.cons (.tmp rfl) (.cons (.tmp rfl) .nil)) ?_)
  first | rfl | (exact veq_tup2 (veq_bool (prB_c (by assumption))) rfl) | (exact veq_tup2 (veq_bool (prB_o h0 hx1 (by omega))) (veq_int h0.symm)) | (exact veq_tup2 (veq_bool (prB_b (y := y) (by omega) (by omega) (by assumption))) (veq_int h0.symm)) | (exact veq_tup2 (veq_bool (prB_all h0 hx1 (by omega) hY)) (veq_int h0.symm))
 ·try simp only [bs] at h1
  have h0 : psC l n = 0 := (by omega); have hp := (psC_ok h0).1; have hl40 := (psC_ok h0).2; have hn := hp.1
  refine W_skip ?_
  refine W_seq ?_
  refine W_seq ?_
  refine W_region ?_
  refine o_mv rfl rfl ?_
  refine o_mv rfl rfl ?_
  refine Ops_x rfl (x_callT en_impl_orbits rfl (w_impl_orbits hp hl40) HpDels.nil (Vw.rd m0) (fun _ => (HpDels.cons HpDel.head HpDels.nil)) (lt_dec rfl) fun x16_1 hx1 => ?_)
  refine Ops_q (q_lenO rfl rfl rfl (Rds.ossO m0)) (lt_dec rfl) ?_
  refine Ops_p (p_gtr rfl rfl) (lt_dec rfl) ?_
  refine Ops_nil ?_
  refine W_cond rfl (fun h2 => ?_) (fun h2 => ?_)
  ·try simp only [bs] at h2
   refine W_seq ?_
   refine W_region ?_
   refine o_as rfl rfl ?_
   refine o_as rfl rfl ?_
   refine Ops_nil ?_
   refine W_ret ?_
   refine Exists.intro _ (And.intro (.cons (.tmp rfl) (.cons (.tmp rfl) .nil)) ?_)
   first | rfl | (exact veq_tup2 (veq_bool (prB_c (by assumption))) rfl) | (exact veq_tup2 (veq_bool (prB_o h0 hx1 (by omega))) (veq_int h0.symm)) | (exact veq_tup2 (veq_bool (prB_b (y := y) (by omega) (by omega) (by assumption))) (veq_int h0.symm)) | (exact veq_tup2 (veq_bool (prB_all h0 hx1 (by omega) hY)) (veq_int h0.symm))
  ·try simp only [bs] at h2
   refine W_skip ?_
   refine W_seq ?_
   refine W_seq ?_
   refine W_region ?_
   refine o_as rfl rfl ?_
   refine Ops_nil ?_
   refine W_block ?_
   refine W_loop (α := Nat) (fun y => ⟨[(0, .raw a ha), (1, .int .i64 n), (7, .int .i64 (y : Int))], [oss x16_1.1.1 48 2 x16_1.2, rd a (.arrs 10 l)]⟩) (fun y => y ≤ n.toNat ∧ 1 ≤ y ∧ ∀ z : Nat, 1 ≤ z → z < y → ¬ (((bkL l n.toNat 0 z).length : Nat) : Int) < n) (fun y => n.toNat - y) 1 ?_ ?_ ?_
   ·exact ⟨by omega, Nat.le_refl _, fun z h1 h2 => by omega⟩
   ·exact Wk.intro (.c rfl (.c rfl (.cons rfl (by first | rfl | exact veq_int (by first | omega | (dsimp only; omega))) .nil))) (.keep rfl rfl (fun _ h => h) (.keep rfl rfl (fun _ h => h) .nil))
   ·rintro y ⟨hyn, hy1, hY⟩
    refine W_seq ?_
    refine W_seq ?_
    refine W_region ?_
    refine o_mv rfl rfl ?_
    refine o_mv rfl rfl ?_
    refine Ops_p (p_lss rfl rfl) (lt_dec rfl) ?_
    refine Ops_nil ?_
    refine W_cond rfl (fun h3 => ?_) (fun h3 => ?_)
    ·try simp only [bs] at h3
     refine W_skip ?_
     refine W_seq ?_
     refine W_block ?_
     refine W_seq ?_
     refine W_region ?_
     refine o_mv rfl rfl ?_
     refine o_mv rfl rfl ?_
     refine o_mv rfl rfl ?_
     refine Ops_x rfl (x_callT en_impl_leastBlock rfl (w_impl_leastBlock (x0 := 0) (y0 := y) hp hl40 (by omega) (by omega)) HpDels.nil (Vw.rd m1) (fun _ => (HpDels.cons HpDel.head HpDels.nil)) (lt_dec rfl) fun x27_1 _ => ?_)
     refine Ops_q ((q_lenR rfl rfl rfl (Rds.own m0)).eq (d' := .int .i64 (((bkL l n.toNat 0 y).length : Nat) : Int)) rfl) (lt_dec rfl) ?_
     refine o_mv rfl rfl ?_
     refine Ops_p (p_lss rfl rfl) (lt_dec rfl) ?_
     refine Ops_nil ?_
     refine W_cond rfl (fun h4 => ?_) (fun h4 => ?_)
     ·try simp only [bs] at h4
      refine W_seq ?_
      refine W_region ?_
      refine o_as rfl rfl ?_
      refine o_as rfl rfl ?_
      refine Ops_nil ?_
      refine W_ret ?_
      refine Exists.intro _ (And.intro (.cons (.tmp rfl) (.cons (.tmp rfl) .nil)) ?_)
      first | rfl | (exact veq_tup2 (veq_bool (prB_c (by assumption))) rfl) | (exact veq_tup2 (veq_bool (prB_o h0 hx1 (by omega))) (veq_int h0.symm)) | (exact veq_tup2 (veq_bool (prB_b (y := y) (by omega) (by omega) (by assumption))) (veq_int h0.symm)) | (exact veq_tup2 (veq_bool (prB_all h0 hx1 (by omega) hY)) (veq_int h0.symm))
     ·try simp only [bs] at h4
      refine W_skip ?_
      refine W_region ?_
      refine o_mv rfl rfl ?_
      refine Ops_p (p_add rfl rfl (by refine ⟨?_, ?_⟩ <;> first | omega | (dsimp only; omega))) (lt_dec rfl) ?_
      refine o_as rfl rfl ?_
      refine Ops_nil ?_
      refine Exists.intro (y + 1) (And.intro ?_ (And.intro ?_ ?_))
      ·exact ⟨by omega, by omega, fun z h1 h2 => if e : z = y then by subst e; omega else hY z h1 (by omega)⟩
      ·show _ < _; omega
      ·exact Wk.intro (.c rfl (.c rfl (.cons rfl (by first | rfl | exact veq_int (by first | omega | (dsimp only; omega))) .nil))) (.drop (.keep rfl rfl (fun _ h => h) (.keep rfl rfl (fun _ h => h) .nil)))
    ·try simp only [bs] at h3
     obtain rfl : y = n.toNat := (by omega)
     refine W_exit ?_
     refine W_seq ?_
     refine W_region ?_
     refine o_as rfl rfl ?_
     refine o_as rfl rfl ?_
     refine Ops_nil ?_
     refine W_ret ?_
     refine Exists.intro _ (And.intro (.cons (.tmp rfl) (.cons (.tmp rfl) .nil)) ?_)
     first | rfl | (exact veq_tup2 (veq_bool (prB_c (by assumption))) rfl) | (exact veq_tup2 (veq_bool (prB_o h0 hx1 (by omega))) (veq_int h0.symm)) | (exact veq_tup2 (veq_bool (prB_b (y := y) (by omega) (by omega) (by assumption))) (veq_int h0.symm)) | (exact veq_tup2 (veq_bool (prB_all h0 hx1 (by omega) hY)) (veq_int h0.symm))
end Go.Proofs.Ytjihhcjpbcmjaaa
end
section
namespace Go.Proofs.Ytjihhcjpbcmjaaa
open Go Gx
set_option linter.unusedVariables false
theorem en_impl_groupCodeV2 : Enters Try.prog 29 := enters_of Try.func29 (by kernel_rfl) (by kernel_rfl)
set_option maxRecDepth 100000 in
theorem w_impl_groupCodeV2 {a : Value} {ha : a.oneCell' = true} {l : List (Nat → Fin 256)} {n x y : Int} {b c : Nat} (hl : l.length ≤ 1048576) : CR Try.prog 29 (vals [.raw a ha, .int .i64 n, .sl b 0 2 c]) [rd a (.arrs 10 l), .ro b 0 (.ints .i64 [x, y])] (.int .i64 (psD l n x y)) := by
 refine CR_intro (rs := [.tmp 6]) tt tok Try.func29 rfl rfl rfl (by first | rfl | assumption) fun w => ?_
 refine W_seq ?_
 refine W_region ?_
 refine o_as rfl rfl ?_
 refine Ops_nil ?_
 refine W_seq ?_
 refine W_block ?_
 refine W_seq ?_
 refine W_region ?_
 refine o_mv rfl rfl ?_
 refine Ops_q (q_call en_impl_within rfl (w_impl_within) (View.none _)) (lt_dec rfl) ?_
 refine Ops_p (p_not rfl) (lt_dec rfl) ?_
 refine o_as rfl rfl ?_
 refine Ops_nil ?_
 refine W_cond rfl (fun h1 => ?_) (fun h1 => ?_)
 ·try simp only [bs] at h1
  refine W_seq ?_
  refine W_region ?_
  refine o_as rfl rfl ?_
  refine Ops_nil ?_
  refine W_ret ?_
  refine Exists.intro _ (And.intro (.cons (.tmp rfl) .nil) ?_)
  first | rfl | (refine veq_int ?_; omega) | (exact veq_int ((psD_c (by rw [psC_n (by assumption)]; decide)).trans (psC_n (by assumption))).symm) | (exact veq_int ((psD_c (by rw [psC_1 (by assumption) (by assumption)]; decide)).trans (psC_1 (by assumption) (by assumption))).symm) | (exact veq_int ((psD_c (by rw [psC_2 (by assumption) (by assumption) (by omega)]; decide)).trans (psC_2 (by assumption) (by assumption) (by omega))).symm) | (exact veq_int (psD_2 (i := 0) (psC_0 (by assumption) (by assumption) (by omega)) (inN_f (i := i) (by omega) (by assumption))).symm) | (exact veq_int (psD_0 (psC_0 (by assumption) (by assumption) (by omega)) (inN_t hR)).symm) | (exact veq_int (psD_2 (psC_0 (by assumption) (by assumption) (by omega)) (inN_f (i := i) (by omega) (by assumption))).symm)
 ·try simp only [bs] at h1
  refine W_seq ?_
  refine W_region ?_
  refine o_mv rfl rfl ?_
  refine o_mv rfl rfl ?_
  refine Ops_q (q_call en_impl_arePermutationsVR rfl (w_impl_arePermutationsVR (by first | assumption | (first | omega | (dsimp only; omega)) | (simp; done) | decide) (by first | assumption | (first | omega | (dsimp only; omega)) | (simp; done) | decide)) (Vw.rd m0).v) (lt_dec rfl) ?_
  refine Ops_p (p_not rfl) (lt_dec rfl) ?_
  refine o_as rfl rfl ?_
  refine Ops_nil ?_
  refine W_cond rfl (fun h2 => ?_) (fun h2 => ?_)
  ·try simp only [bs] at h2
   refine W_seq ?_
   refine W_region ?_
   refine o_as rfl rfl ?_
   refine Ops_nil ?_
   refine W_ret ?_
   refine Exists.intro _ (And.intro (.cons (.tmp rfl) .nil) ?_)
   first | rfl | (refine veq_int ?_; omega) | (exact veq_int ((psD_c (by rw [psC_n (by assumption)]; decide)).trans (psC_n (by assumption))).symm) | (exact veq_int ((psD_c (by rw [psC_1 (by assumption) (by assumption)]; decide)).trans (psC_1 (by assumption) (by assumption))).symm) | (exact veq_int ((psD_c (by rw [psC_2 (by assumption) (by assumption) (by omega)]; decide)).trans (psC_2 (by assumption) (by assumption) (by omega))).symm) | (exact veq_int (psD_2 (i := 0) (psC_0 (by assumption) (by assumption) (by omega)) (inN_f (i := i) (by omega) (by assumption))).symm) | (exact veq_int (psD_0 (psC_0 (by assumption) (by assumption) (by omega)) (inN_t hR)).symm) | (exact veq_int (psD_2 (psC_0 (by assumption) (by assumption) (by omega)) (inN_f (i := i) (by omega) (by assumption))).symm)
  ·try simp only [bs] at h2
   refine W_seq ?_
   refine W_region ?_
   refine o_mv rfl rfl ?_
   refine Ops_q ((q_lenR rfl rfl rfl (Rds.rd m0)).eq (d' := .int .i64 ((l.length : Nat) : Int)) rfl) (lt_dec rfl) ?_
   refine Ops_p (p_gtr rfl rfl) (lt_dec rfl) ?_
   refine o_as rfl rfl ?_
   refine Ops_nil ?_
   refine W_cond rfl (fun h3 => ?_) (fun h3 => ?_)
   ·try simp only [bs] at h3
    refine W_seq ?_
    refine W_region ?_
    refine o_as rfl rfl ?_
    refine Ops_nil ?_
    refine W_ret ?_
    refine Exists.intro _ (And.intro (.cons (.tmp rfl) .nil) ?_)
    first | rfl | (refine veq_int ?_; omega) | (exact veq_int ((psD_c (by rw [psC_n (by assumption)]; decide)).trans (psC_n (by assumption))).symm) | (exact veq_int ((psD_c (by rw [psC_1 (by assumption) (by assumption)]; decide)).trans (psC_1 (by assumption) (by assumption))).symm) | (exact veq_int ((psD_c (by rw [psC_2 (by assumption) (by assumption) (by omega)]; decide)).trans (psC_2 (by assumption) (by assumption) (by omega))).symm) | (exact veq_int (psD_2 (i := 0) (psC_0 (by assumption) (by assumption) (by omega)) (inN_f (i := i) (by omega) (by assumption))).symm) | (exact veq_int (psD_0 (psC_0 (by assumption) (by assumption) (by omega)) (inN_t hR)).symm) | (exact veq_int (psD_2 (psC_0 (by assumption) (by assumption) (by omega)) (inN_f (i := i) (by omega) (by assumption))).symm)
   ·try simp only [bs] at h3
    refine W_skip ?_
    refine W_seq ?_
    refine W_seq ?_
    refine W_region ?_
    refine o_mv rfl rfl ?_
    refine Ops_p (p_len rfl rfl rfl) (lt_dec rfl) ?_
    refine o_mv rfl rfl ?_
    refine Ops_nil ?_
    refine W_block ?_
    refine W_loop (α := Nat) (fun i => ⟨[(0, .raw a ha), (1, .int .i64 n), (2, .sl b 0 2 c), (22, .sl b 0 2 c), (23, .int .i64 2), (24, .int .i64 (i : Int))], [rd a (.arrs 10 l), .ro b 0 (.ints .i64 [x, y])]⟩) (fun i => i ≤ 2 ∧ ∀ j : Nat, j < i → 0 ≤ [x, y].getD j 0 ∧ [x, y].getD j 0 ≤ n - 1) (fun i => 2 - i) 0 ?_ ?_ ?_
    ·exact ⟨by omega, fun j h => by omega⟩
    ·exact Wk.intro (.c rfl (.c rfl (.c rfl (.c rfl (.c rfl (.cons rfl (by first | rfl | exact veq_int (by first | omega | (dsimp only; omega))) .nil)))))) (.keep rfl rfl (fun _ h => h) (.keep rfl rfl (fun _ h => h) .nil))
    ·rintro i ⟨hi, hR⟩
     refine W_seq ?_
     refine W_region ?_
     refine Ops_p (p_lss rfl rfl) (lt_dec rfl) ?_
     refine Ops_nil ?_
     refine W_seq ?_
     refine W_cond rfl (fun h4 => ?_) (fun h4 => ?_)
     ·try simp only [bs] at h4
      refine W_skip ?_
      refine W_seq ?_
      refine W_block ?_
      refine W_seq ?_
      refine W_region ?_
      refine Ops_p (p_ixl1 _ rfl rfl rfl rfl rfl rfl (by first | omega | exact Fin.isLt _ | (dsimp only; omega))) (lt_dec rfl) ?_
      refine Ops_q (q_load_ro rfl rfl m1 rfl rfl (by first | omega | (show _ < 2; omega)) rfl rfl) (lt_dec rfl) ?_
      refine o_as rfl rfl ?_
      refine Ops_nil ?_
      refine W_seq ?_
      refine W_region ?_
      refine o_mv rfl rfl ?_
      refine o_mv rfl rfl ?_
      refine Ops_p (p_sub rfl rfl (by refine ⟨?_, ?_⟩ <;> first | omega | (dsimp only; omega))) (lt_dec rfl) ?_
      refine Ops_q (q_call en_impl_within rfl (w_impl_within) (View.none _)) (lt_dec rfl) ?_
      refine Ops_p (p_not rfl) (lt_dec rfl) ?_
      refine Ops_nil ?_
      refine W_cond rfl (fun h5 => ?_) (fun h5 => ?_)
      ·try simp only [bs] at h5
       refine W_seq ?_
       refine W_region ?_
       refine o_as rfl rfl ?_
       refine Ops_nil ?_
       refine W_ret ?_
       refine Exists.intro _ (And.intro (.cons (.tmp rfl) .nil) ?_)
       first | rfl | (refine veq_int ?_; omega) | (exact veq_int ((psD_c (by rw [psC_n (by assumption)]; decide)).trans (psC_n (by assumption))).symm) | (exact veq_int ((psD_c (by rw [psC_1 (by assumption) (by assumption)]; decide)).trans (psC_1 (by assumption) (by assumption))).symm) | (exact veq_int ((psD_c (by rw [psC_2 (by assumption) (by assumption) (by omega)]; decide)).trans (psC_2 (by assumption) (by assumption) (by omega))).symm) | (exact veq_int (psD_2 (i := 0) (psC_0 (by assumption) (by assumption) (by omega)) (inN_f (i := i) (by omega) (by assumption))).symm) | (exact veq_int (psD_0 (psC_0 (by assumption) (by assumption) (by omega)) (inN_t hR)).symm) | (exact veq_int (psD_2 (psC_0 (by assumption) (by assumption) (by omega)) (inN_f (i := i) (by omega) (by assumption))).symm)
      ·try simp only [bs] at h5
       refine W_skip ?_
       refine W_region ?_
       refine Ops_p (p_add rfl rfl (by refine ⟨?_, ?_⟩ <;> first | omega | (dsimp only; omega))) (lt_dec rfl) ?_
       refine o_mv rfl rfl ?_
       refine Ops_nil ?_
       refine Exists.intro (i + 1) (And.intro ?_ (And.intro ?_ ?_))
       ·exact ⟨by omega, fun j h => if e : j = i then by subst e; assumption else hR j (by omega)⟩
       ·show _ < _; omega
       ·exact Wk.intro (.c rfl (.c rfl (.c rfl (.c rfl (.c rfl (.cons rfl (by first | rfl | exact veq_int (by first | omega | (dsimp only; omega))) .nil)))))) (.keep rfl rfl (fun _ h => h) (.keep rfl rfl (fun _ h => h) .nil))
     ·try simp only [bs] at h4
      obtain rfl : i = 2 := (by omega)
      refine W_exit ?_
      refine W_seq ?_
      refine W_region ?_
      refine o_as rfl rfl ?_
      refine Ops_nil ?_
      refine W_ret ?_
      refine Exists.intro _ (And.intro (.cons (.tmp rfl) .nil) ?_)
      first | rfl | (refine veq_int ?_; omega) | (exact veq_int ((psD_c (by rw [psC_n (by assumption)]; decide)).trans (psC_n (by assumption))).symm) | (exact veq_int ((psD_c (by rw [psC_1 (by assumption) (by assumption)]; decide)).trans (psC_1 (by assumption) (by assumption))).symm) | (exact veq_int ((psD_c (by rw [psC_2 (by assumption) (by assumption) (by omega)]; decide)).trans (psC_2 (by assumption) (by assumption) (by omega))).symm) | (exact veq_int (psD_2 (i := 0) (psC_0 (by assumption) (by assumption) (by omega)) (inN_f (i := i) (by omega) (by assumption))).symm) | (exact veq_int (psD_0 (psC_0 (by assumption) (by assumption) (by omega)) (inN_t hR)).symm) | (exact veq_int (psD_2 (psC_0 (by assumption) (by assumption) (by omega)) (inN_f (i := i) (by omega) (by assumption))).symm)
end Go.Proofs.Ytjihhcjpbcmjaaa
end
section
namespace Go.Proofs.Ytjihhcjpbcmjaaa
open Go Gx
set_option linter.unusedVariables false
theorem en_impl_LeastBlock : Enters Try.prog 21 := enters_of Try.func21 (by kernel_rfl) (by kernel_rfl)
set_option maxRecDepth 100000 in
theorem w_impl_LeastBlock {a : Value} {ha : a.oneCell' = true} {l : List (Nat → Fin 256)} {n x y : Int} (hl : l.length ≤ 1048576) : CT (X := V1) Try.prog 21 (vals [.raw a ha, .int .i64 n, .int .i64 x, .int .i64 y]) [] [rd a (.arrs 10 l)] (fun x1 => True) (fun x1 => .tup [.raw x1.1 x1.2, .int .i64 (lbC l n x y)]) (fun x1 => [own x1.1 2 (.ints .i64 (lbL l n x y))]) := by
 refine CT_intro (rs := [.tmp 8, .tmp 9]) tt tok Try.func21 rfl rfl rfl (by first | rfl | assumption) fun w => ?_
 show W _ _ _ ⟨tmOf 0 [.raw a ha, .int .i64 n, .int .i64 x, .int .i64 y], [rd a (.arrs 10 l)]⟩
 refine W_seq ?_
 refine W_region ?_
 refine o_as rfl rfl ?_
 refine o_as rfl rfl ?_
 refine Ops_nil ?_
 refine W_seq ?_
 refine W_seq ?_
 refine W_region ?_
 refine o_mv rfl rfl ?_
 refine o_mv rfl rfl ?_
 refine o_mv rfl rfl ?_
 refine o_mv rfl rfl ?_
 refine Ops_x rfl (x_buildSlice rfl rfl rfl rfl rfl rfl rfl rfl (Nat.le_of_ble_eq_true rfl) (lt_dec rfl) fun b15_1 => ?_)
 refine Ops_q (q_call en_impl_groupCodeV2 rfl (w_impl_groupCodeV2 (by first | assumption | (first | omega | (dsimp only; omega)) | (simp; done) | decide)) (View.cons (Vw.rd m1).v (View.row m0) rfl rfl)) (lt_dec rfl) ?_
 refine o_as rfl rfl ?_
 refine Ops_nil ?_
 refine W_seq ?_
 refine W_region ?_
 refine o_mv rfl rfl ?_
 refine Ops_p (p_neq rfl rfl) (lt_dec rfl) ?_
 refine Ops_nil ?_
 refine W_cond rfl (fun h1 => ?_) (fun h1 => ?_)
 ·try simp only [bs] at h1
  refine W_seq ?_
  refine W_region ?_
  refine o_mv rfl rfl ?_
  refine o_as rfl rfl ?_
  refine o_as rfl rfl ?_
  refine Ops_nil ?_
  refine W_ret ?_
  refine Exists.intro _ (And.intro (.cons (.tmp rfl) (.cons (.tmp rfl) .nil)) (Exists.intro ⟨.slice none 0 0, rfl⟩ (And.intro ?_ (And.intro ?_ (And.intro (.free rfl (own_nil (by rw [lbL_n (psD_n (by omega)) (by omega)]; rfl) (by rw [lbL_n (psD_n (by omega)) (by omega)]; rfl)) .nil) rfl)))))
  ·trivial
  ·rw [(psD_n (by omega))]; rfl
 ·try simp only [bs] at h1
  refine W_skip ?_
  refine W_seq ?_
  refine W_seq ?_
  have hD0 : psD l n x y = 0 := (by omega)
  have hpo := (psC_ok (psD_ok hD0).1).1
  have hl40 := (psC_ok (psD_ok hD0).1).2
  have hin := (psD_ok hD0).2
  have hin2 : (0 ≤ x ∧ x ≤ n - 1) ∧ (0 ≤ y ∧ y ≤ n - 1) := hin
  have hnb := hpo.1
  have hxC : ((x.toNat : Nat) : Int) = x := (by omega)
  have hyC : ((y.toNat : Nat) : Int) = y := (by omega)
  refine W_region ?_
  refine o_mv rfl rfl ?_
  refine o_mv rfl rfl ?_
  refine Ops_x rfl (x_callT en_impl_orbits rfl (w_impl_orbits hpo hl40) HpDels.nil (Vw.rd m1) (fun _ => (HpDels.cons HpDel.head HpDels.nil)) (lt_dec rfl) fun x22_1 hx1 => ?_)
  refine Ops_q (q_lenO rfl rfl rfl (Rds.ossO m0)) (lt_dec rfl) ?_
  refine Ops_p (p_gtr rfl rfl) (lt_dec rfl) ?_
  refine Ops_nil ?_
  refine W_cond rfl (fun h2 => ?_) (fun h2 => ?_)
  ·try simp only [bs] at h2
   refine W_seq ?_
   refine W_region ?_
   refine o_as rfl rfl ?_
   refine o_as rfl rfl ?_
   refine Ops_nil ?_
   refine W_ret ?_
   refine Exists.intro _ (And.intro (.cons (.tmp rfl) (.cons (.tmp rfl) .nil)) (Exists.intro ⟨.slice none 0 0, rfl⟩ (And.intro ?_ (And.intro ?_ (And.intro (.free rfl (own_nil (by rw [lbL_n (lb_5 (psD_ok hD0).1 hin (by rw [orbS_0 (psD_ok hD0).1, ← hx1]; simp only [List.length_map]; omega)) (by omega)]; rfl) (by rw [lbL_n (lb_5 (psD_ok hD0).1 hin (by rw [orbS_0 (psD_ok hD0).1, ← hx1]; simp only [List.length_map]; omega)) (by omega)]; rfl)) .nil) rfl)))))
   ·trivial
   ·rw [(lb_5 (psD_ok hD0).1 hin (by rw [orbS_0 (psD_ok hD0).1, ← hx1]; simp only [List.length_map]; omega))]; rfl
  ·try simp only [bs] at h2
   refine W_skip ?_
   refine W_seq ?_
   have h1c : lbC l n x y = 0 := lb_0 (psD_ok hD0).1 hin (by rw [orbS_0 (psD_ok hD0).1, ← hx1]; simp only [List.length_map]; omega)
   refine W_region ?_
   refine o_mv rfl rfl ?_
   refine o_mv rfl rfl ?_
   refine o_mv rfl rfl ?_
   refine o_mv rfl rfl ?_
   refine Ops_x rfl (x_callT en_impl_leastBlock rfl ((by have h := w_impl_leastBlock (a := a) (ha := ha) (x0 := x.toNat) (y0 := y.toNat) hpo hl40 (by omega) (by omega); rw [hxC, hyC] at h; exact h)) HpDels.nil (Vw.rd m2) (fun _ => (HpDels.cons HpDel.head HpDels.nil)) (lt_dec rfl) fun x29_1 _ => ?_)
   refine o_as rfl rfl ?_
   refine o_as rfl rfl ?_
   refine Ops_nil ?_
   refine W_ret ?_
   refine Exists.intro _ (And.intro (.cons (.tmp rfl) (.cons (.tmp rfl) .nil)) (Exists.intro ⟨x29_1.1, x29_1.2⟩ (And.intro ?_ (And.intro ?_ (And.intro (.cons HpDel.head rfl (own_eq (by rw [lbL_0 h1c])) .nil) rfl)))))
   ·trivial
   ·rw [h1c]; rfl
end Go.Proofs.Ytjihhcjpbcmjaaa
end
section
namespace Go.Proofs.Ytjihhcjpbcmjaaa
open Go Gx
set_option linter.unusedVariables false
theorem en_impl_OrbitsOf : Enters Try.prog 17 := enters_of Try.func17 (by kernel_rfl) (by kernel_rfl)
set_option maxRecDepth 100000 in
theorem w_impl_OrbitsOf {a : Value} {ha : a.oneCell' = true} {l : List (Nat → Fin 256)} {n : Int} (hl : l.length ≤ 1048576) : CT (X := V1 × SL) Try.prog 17 (vals [.raw a ha, .int .i64 n]) [] [rd a (.arrs 10 l)] (fun x => x.2.map (·.2) = orbS l n) (fun x => .tup [.raw x.1.1 x.1.2, .int .i64 (psC l n)]) (fun x => [oss x.1.1 48 2 x.2]) := by
 refine CT_intro (rs := [.tmp 4, .tmp 5]) tt tok Try.func17 rfl rfl rfl (by first | rfl | assumption) fun w => ?_
 show W _ _ _ ⟨tmOf 0 [.raw a ha, .int .i64 n], [rd a (.arrs 10 l)]⟩
 refine W_seq ?_
 refine W_region ?_
 refine o_as rfl rfl ?_
 refine o_as rfl rfl ?_
 refine Ops_nil ?_
 refine W_seq ?_
 refine W_seq ?_
 refine W_region ?_
 refine o_mv rfl rfl ?_
 refine o_mv rfl rfl ?_
 refine Ops_q (q_call en_impl_groupCodeVN rfl (w_impl_groupCodeVN (by first | assumption | (first | omega | (dsimp only; omega)) | (simp; done) | decide)) (Vw.rd m0).v) (lt_dec rfl) ?_
 refine o_as rfl rfl ?_
 refine Ops_nil ?_
 refine W_seq ?_
 refine W_region ?_
 refine o_mv rfl rfl ?_
 refine Ops_p (p_neq rfl rfl) (lt_dec rfl) ?_
 refine Ops_nil ?_
 refine W_cond rfl (fun h1 => ?_) (fun h1 => ?_)
 ·try simp only [bs] at h1
  refine W_seq ?_
  refine W_region ?_
  refine o_mv rfl rfl ?_
  refine o_as rfl rfl ?_
  refine o_as rfl rfl ?_
  refine Ops_nil ?_
  refine W_ret ?_
  refine Exists.intro _ (And.intro (.cons (.tmp rfl) (.cons (.tmp rfl) .nil)) (Exists.intro (⟨.slice none 0 0, rfl⟩, []) (And.intro ?_ (And.intro ?_ (And.intro (.free rfl oss_nil .nil) rfl)))))
  ·rw [orbS_n (by assumption)]; rfl
  ·rfl
 ·try simp only [bs] at h1
  have h0 : psC l n = 0 := (by omega)
  refine W_skip ?_
  refine W_seq ?_
  refine W_region ?_
  refine o_mv rfl rfl ?_
  refine o_mv rfl rfl ?_
  refine Ops_x rfl (x_callT en_impl_orbits rfl (w_impl_orbits (psC_ok h0).1 (psC_ok h0).2) HpDels.nil (Vw.rd m0) (fun _ => (HpDels.cons HpDel.head HpDels.nil)) (lt_dec rfl) fun x15_1 hx1 => ?_)
  refine o_as rfl rfl ?_
  refine o_as rfl rfl ?_
  refine Ops_nil ?_
  refine W_ret ?_
  refine Exists.intro _ (And.intro (.cons (.tmp rfl) (.cons (.tmp rfl) .nil)) (Exists.intro x15_1 (And.intro ?_ (And.intro ?_ (And.intro (.cons HpDel.head rfl (oss_eq rfl) .nil) rfl)))))
  ·rw [hx1, orbS_0 h0]
  ·rw [h0]; rfl
end Go.Proofs.Ytjihhcjpbcmjaaa
end
section
namespace Go.Proofs.Ytjihhcjpbcmjaaa
open Go Gx
set_option linter.unusedVariables false
theorem en_laws_big : Enters Try.prog 14 := enters_of Try.func14 (by kernel_rfl) (by kernel_rfl)
set_option maxRecDepth 100000 in
theorem w_laws_big {cv : Value} {hcv : cv.oneCell' = true} {code : List (Fin 256)}  : CR Try.prog 14 (vals [.raw cv hcv]) [rd cv (.u8s code)] (.bool (decide ((4096 : Int) < ((List.length code : Nat) : Int)))) := by
 refine CR_intro (rs := [.tmp 2]) tt tok Try.func14 rfl rfl rfl (by first | rfl | assumption) fun w => ?_
 refine W_seq ?_
 refine W_region ?_
 refine o_as rfl rfl ?_
 refine Ops_nil ?_
 refine W_seq ?_
 refine W_region ?_
 refine o_mv rfl rfl ?_
 refine Ops_q ((q_lenR rfl rfl rfl (Rds.rd m0)).eq (d' := .int .i64 ((code.length : Nat) : Int)) rfl) (lt_dec rfl) ?_
 refine Ops_p (p_gtr rfl rfl) (lt_dec rfl) ?_
 refine o_as rfl rfl ?_
 refine Ops_nil ?_
 refine W_ret ?_
 refine Exists.intro _ (And.intro (.cons (.tmp rfl) .nil) ?_)
 first | rfl | (refine veq_bool ?_; simp_all; done) | (refine veq_bool ?_; simp; omega) | (refine veq_bool ?_; rw [eq_comm, decide_eq_false_iff_not]; omega) | (refine veq_bool ?_; rw [eq_comm, decide_eq_true_iff]; omega)
end Go.Proofs.Ytjihhcjpbcmjaaa
end
section
namespace Go.Proofs.Ytjihhcjpbcmjaaa
open Go Gx
set_option linter.unusedVariables false
theorem en_laws_likeInts : Enters Try.prog 23 := enters_of Try.func23 (by kernel_rfl) (by kernel_rfl)
set_option maxRecDepth 100000 in
theorem w_laws_likeInts {a b : Value} {ha : a.oneCell' = true} {hb : b.oneCell' = true} {l : List Int} (hl : l.length ≤ 10000000) : CR Try.prog 23 (vals [.raw a ha, .raw b hb]) [rd a (.ints .i64 l), rd b (.ints .i64 l)] (.bool true) := by
 refine CR_intro (rs := [.tmp 4]) tt tok Try.func23 rfl rfl rfl (by first | rfl | assumption) fun w => ?_
 refine W_seq ?_
 refine W_region ?_
 refine o_as rfl rfl ?_
 refine Ops_nil ?_
 refine W_seq ?_
 refine W_seq ?_
 refine W_region ?_
 refine o_mv rfl rfl ?_
 refine Ops_q ((q_lenR rfl rfl rfl (Rds.rd m0)).eq (d' := .int .i64 ((l.length : Nat) : Int)) rfl) (lt_dec rfl) ?_
 refine o_mv rfl rfl ?_
 refine Ops_q ((q_lenR rfl rfl rfl (Rds.rd m1)).eq (d' := .int .i64 ((l.length : Nat) : Int)) rfl) (lt_dec rfl) ?_
 refine Ops_p (p_neq rfl rfl) (lt_dec rfl) ?_
 refine Ops_nil ?_
 refine W_cond rfl (fun h1 => ?_) (fun h1 => ?_)
 ·try simp only [bs] at h1
  exfalso; exact h1 (by first | rfl | trivial)
 ·try simp only [bs] at h1
  refine W_skip ?_
  refine W_seq ?_
  refine W_seq ?_
  refine W_region ?_
  refine o_as rfl rfl ?_
  refine Ops_nil ?_
  refine W_block ?_
  refine W_loop (α := Nat) (fun i => ⟨[(0, .raw a ha), (1, .raw b hb), (5, .int .i64 (i : Int))], [rd a (.ints .i64 l), rd b (.ints .i64 l)]⟩) (fun i => i ≤ l.length) (fun i => l.length - i) 0 ?_ ?_ ?_
  ·show _ ≤ _; omega
  ·exact Wk.intro (.c rfl (.c rfl (.cons rfl (by first | rfl | exact veq_int (by first | omega | (dsimp only; omega))) .nil))) (.keep rfl rfl (fun _ h => h) (.keep rfl rfl (fun _ h => h) .nil))
  ·rintro i hR
   refine W_seq ?_
   refine W_seq ?_
   refine W_region ?_
   refine o_mv rfl rfl ?_
   refine o_mv rfl rfl ?_
   refine Ops_q ((q_lenR rfl rfl rfl (Rds.rd m0)).eq (d' := .int .i64 ((l.length : Nat) : Int)) rfl) (lt_dec rfl) ?_
   refine Ops_p (p_lss rfl rfl) (lt_dec rfl) ?_
   refine Ops_nil ?_
   refine W_cond rfl (fun h2 => ?_) (fun h2 => ?_)
   ·try simp only [bs] at h2
    refine W_skip ?_
    refine W_seq ?_
    refine W_block ?_
    refine W_seq ?_
    refine W_draw (by kernel_rfl) ?_
    show RA _ _ 9 _ _ _
    refine RA_quietF [0, 1, 2, 3, 4, 5, 6, 7, 8] rfl rfl rfl (by kernel_rfl) (by kernel_rfl) ?_
    refine WQ_cons rfl rfl rfl ((p_move rfl).q) (lt_dec rfl) ?_
    refine WQ_cons rfl rfl rfl ((p_move rfl).q) (lt_dec rfl) ?_
    refine WQ_cons rfl rfl rfl ((q_ixR _ rfl rfl rfl (Rds.rd m0) rfl rfl (by first | (show _ < List.length _; omega) | (show _ < List.length _; first | omega | (dsimp only; omega))) rfl)) (lt_dec rfl) ?_
    refine WQ_cons rfl rfl rfl ((q_loadR rfl rfl (Rds.rd m0) rfl rfl (by first | (show _ < List.length _; omega) | (show _ < List.length _; first | omega | (dsimp only; omega))) rfl rfl rfl)) (lt_dec rfl) ?_
    refine WQ_cons rfl rfl rfl ((p_move rfl).q) (lt_dec rfl) ?_
    refine WQ_cons rfl rfl rfl ((p_move rfl).q) (lt_dec rfl) ?_
    refine WQ_cons rfl rfl rfl ((q_ixR _ rfl rfl rfl (Rds.rd m1) rfl rfl (by first | (show _ < List.length _; omega) | (show _ < List.length _; first | omega | (dsimp only; omega))) rfl)) (lt_dec rfl) ?_
    refine WQ_cons rfl rfl rfl ((q_loadR rfl rfl (Rds.rd m1) rfl rfl (by first | (show _ < List.length _; omega) | (show _ < List.length _; first | omega | (dsimp only; omega))) rfl rfl rfl)) (lt_dec rfl) ?_
    refine WQ_cons rfl rfl rfl ((p_neq rfl rfl).q) (lt_dec rfl) ?_
    refine WQ_nil ?_
    refine W_cond rfl (fun h3 => ?_) (fun h3 => ?_)
    ·try simp only [bs] at h3
     exfalso; exact h3 (by first | rfl | trivial)
    ·try simp only [bs] at h3
     refine W_skip ?_
     refine W_region ?_
     refine o_mv rfl rfl ?_
     refine Ops_p (p_add rfl rfl (by refine ⟨?_, ?_⟩ <;> first | omega | (dsimp only; omega))) (lt_dec rfl) ?_
     refine o_as rfl rfl ?_
     refine Ops_nil ?_
     refine Exists.intro (i + 1) (And.intro ?_ (And.intro ?_ ?_))
     ·show _ ≤ _; omega
     ·show _ < _; omega
     ·exact Wk.intro (.c rfl (.c rfl (.cons rfl (by first | rfl | exact veq_int (by first | omega | (dsimp only; omega))) .nil))) (.keep rfl rfl (fun _ h => h) (.keep rfl rfl (fun _ h => h) .nil))
   ·try simp only [bs] at h2
    refine W_exit ?_
    refine W_seq ?_
    refine W_region ?_
    refine o_as rfl rfl ?_
    refine Ops_nil ?_
    refine W_ret ?_
    refine Exists.intro _ (And.intro (.cons (.tmp rfl) .nil) ?_)
    rfl
end Go.Proofs.Ytjihhcjpbcmjaaa
end
section
namespace Go.Proofs.Ytjihhcjpbcmjaaa
open Go Gx
set_option linter.unusedVariables false
theorem en_laws_lists9 : Enters Try.prog 19 := enters_of Try.func19 (by kernel_rfl) (by kernel_rfl)
set_option maxRecDepth 100000 in
theorem w_laws_lists9 {a b : Value} {ha : a.oneCell' = true} {hb : b.oneCell' = true} {L M : SL} (hLM : L.map (·.2) = M.map (·.2)) (hn : L.length ≤ 1100000) (hB : ∀ i, (L.getD i sd).2.length ≤ 1100000) : CR Try.prog 19 (vals [.raw a ha, .raw b hb]) [rss a L, rss b M] (.bool true) := by
 refine CR_intro (rs := [.tmp 4]) tt tok Try.func19 rfl rfl rfl (by first | rfl | assumption) fun w => ?_
 have hlen := snd_len hLM
 refine W_seq ?_
 refine W_region ?_
 refine o_as rfl rfl ?_
 refine Ops_nil ?_
 refine W_seq ?_
 refine W_seq ?_
 refine W_region ?_
 refine o_mv rfl rfl ?_
 refine Ops_q (q_lenO rfl rfl rfl (Rds.rssO m0)) (lt_dec rfl) ?_
 refine o_mv rfl rfl ?_
 refine Ops_q ((q_lenO rfl rfl rfl (Rds.rssO m1)).eq (d' := .int .i64 ((L.length : Nat) : Int)) (veq_int (by rw [hlen]))) (lt_dec rfl) ?_
 refine Ops_p (p_neq rfl rfl) (lt_dec rfl) ?_
 refine Ops_nil ?_
 refine W_cond rfl (fun h1 => ?_) (fun h1 => ?_)
 ·try simp only [bs] at h1
  exfalso; exact h1 (by first | rfl | trivial)
 ·try simp only [bs] at h1
  refine W_skip ?_
  refine W_seq ?_
  refine W_seq ?_
  refine W_region ?_
  refine o_as rfl rfl ?_
  refine Ops_nil ?_
  refine W_block ?_
  refine W_loop (α := Nat) (fun i => ⟨[(0, .raw a ha), (1, .raw b hb), (5, .int .i64 (i : Int))], [rss a L, rss b M]⟩) (fun i => i ≤ L.length) (fun i => L.length - i) 0 ?_ ?_ ?_
  ·show _ ≤ _; omega
  ·exact Wk.intro (.c rfl (.c rfl (.cons rfl (by first | rfl | exact veq_int (by first | omega | (dsimp only; omega))) .nil))) (.keep rfl rfl (fun _ h => h) (.keep rfl rfl (fun _ h => h) .nil))
  ·rintro i hR
   refine W_seq ?_
   refine W_seq ?_
   refine W_region ?_
   refine o_mv rfl rfl ?_
   refine o_mv rfl rfl ?_
   refine Ops_q (q_lenO rfl rfl rfl (Rds.rssO m0)) (lt_dec rfl) ?_
   refine Ops_p (p_lss rfl rfl) (lt_dec rfl) ?_
   refine Ops_nil ?_
   refine W_cond rfl (fun h2 => ?_) (fun h2 => ?_)
   ·try simp only [bs] at h2
    refine W_skip ?_
    refine W_seq ?_
    refine W_block ?_
    refine W_seq ?_
    refine W_draw (by kernel_rfl) ?_
    show RA _ _ 10 _ _ _
    refine RA_quietF [0, 1, 2, 3, 4, 5, 6, 7, 8, 9] rfl rfl rfl (by kernel_rfl) (by kernel_rfl) ?_
    refine WQ_cons rfl rfl rfl ((p_move rfl).q) (lt_dec rfl) ?_
    refine WQ_cons rfl rfl rfl ((p_move rfl).q) (lt_dec rfl) ?_
    refine WQ_cons rfl rfl rfl ((q_ixR (i) rfl rfl rfl (Rds.rssO m0) rfl rfl (by rw [valsR_len]; first | omega | (dsimp only; omega)) rfl)) (lt_dec rfl) ?_
    refine WQ_cons rfl rfl rfl ((q_loadI (j := i) rfl rfl (Rds.rssO m0) rfl (by first | omega | assumption) rfl rfl)) (lt_dec rfl) ?_
    refine WQ_cons rfl rfl rfl ((p_move rfl).q) (lt_dec rfl) ?_
    refine WQ_cons rfl rfl rfl ((p_move rfl).q) (lt_dec rfl) ?_
    refine WQ_cons rfl rfl rfl ((q_ixR (i) rfl rfl rfl (Rds.rssO m1) rfl rfl (by rw [valsR_len]; first | omega | (dsimp only; omega)) rfl)) (lt_dec rfl) ?_
    refine WQ_cons rfl rfl rfl ((q_loadI (j := i) rfl rfl (Rds.rssO m1) rfl (by first | omega | assumption) rfl rfl)) (lt_dec rfl) ?_
    refine WQ_cons rfl rfl rfl ((q_call en_laws_likeInts rfl (w_laws_likeInts (l := (L.getD i sd).2) (by have := hB i; omega)) (Vw.cons (Vw.rdI (j := i) m0 (by omega) rfl) (Vw.rdI (j := i) m1 (by omega) (by rw [snd_getD hLM i]))).v)) (lt_dec rfl) ?_
    refine WQ_cons rfl rfl rfl ((p_not rfl).q) (lt_dec rfl) ?_
    refine WQ_nil ?_
    refine W_false rfl ?_
    refine W_skip ?_
    refine W_region ?_
    refine o_mv rfl rfl ?_
    refine Ops_p (p_add rfl rfl (by refine ⟨?_, ?_⟩ <;> first | omega | (dsimp only; omega))) (lt_dec rfl) ?_
    refine o_as rfl rfl ?_
    refine Ops_nil ?_
    refine Exists.intro (i + 1) (And.intro ?_ (And.intro ?_ ?_))
    ·show _ ≤ _; omega
    ·show _ < _; omega
    ·exact Wk.intro (.c rfl (.c rfl (.cons rfl (by first | rfl | exact veq_int (by first | omega | (dsimp only; omega))) .nil))) (.keep rfl rfl (fun _ h => h) (.keep rfl rfl (fun _ h => h) .nil))
   ·try simp only [bs] at h2
    refine W_exit ?_
    refine W_seq ?_
    refine W_region ?_
    refine o_as rfl rfl ?_
    refine Ops_nil ?_
    refine W_ret ?_
    refine Exists.intro _ (And.intro (.cons (.tmp rfl) .nil) ?_)
    rfl
end Go.Proofs.Ytjihhcjpbcmjaaa
end
section
namespace Go.Proofs.Ytjihhcjpbcmjaaa
open Go Gx
set_option linter.unusedVariables false
theorem en_spec_l01From : Enters Try.prog 42 := enters_of Try.func42 (by kernel_rfl) (by kernel_rfl)
set_option maxRecDepth 100000 in
theorem w_spec_l01From {cv : Value} {hcv : cv.oneCell' = true} {code : List (Fin 256)} (hc : code.length ≤ 4096) : CT (X := Nat × Nat) Try.prog 42 (vals [.raw cv hcv]) [] [rd cv (.u8s code)] (fun x => Prod.snd x < 18446744073709551616) (fun x => .ptr (Prod.fst x) 0 none) (fun x => [.var (Prod.fst x) (.agg [.raw cv hcv, .int .i64 ((0 : Nat) : Int), .int .u64 (((Prod.snd x) : Nat) : Int)])]) := by
 refine CT_intro (rs := [.tmp 2]) tt tok Try.func42 rfl rfl rfl (by first | rfl | assumption) fun w => ?_
 show W _ _ _ ⟨tmOf 0 [.raw cv hcv], [rd cv (.u8s code)]⟩
 refine W_seq ?_
 refine W_region ?_
 refine o_as rfl rfl ?_
 refine Ops_nil ?_
 refine W_seq ?_
 refine W_region ?_
 refine o_mv rfl rfl ?_
 refine o_mv rfl rfl ?_
 refine Ops_q ((q_lenR rfl rfl rfl (Rds.rd m0)).eq (d' := .int .i64 ((code.length : Nat) : Int)) rfl) (lt_dec rfl) ?_
 refine Ops_p (p_conv rfl rfl rfl (by exact ⟨(by first | omega | (dsimp only; omega)), (by first | omega | (dsimp only; omega))⟩)) (lt_dec rfl) ?_
 refine Ops_p (p_add rfl rfl (by refine ⟨?_, ?_⟩ <;> first | omega | (dsimp only; omega))) (lt_dec rfl) ?_
 refine Ops_p (p_build rfl rfl rfl rfl (by first | exact True.intro | omega | exact Fin.isLt _ | trivial | (dsimp only; omega))) (lt_dec rfl) ?_
 refine Ops_x rfl (x_box rfl rfl (lt_dec rfl) fun b11_1 => ?_)
 refine o_as rfl rfl ?_
 refine Ops_nil ?_
 refine W_seq ?_
 refine W_seq ?_
 refine W_region ?_
 refine o_as rfl rfl ?_
 refine Ops_nil ?_
 refine W_block ?_
 refine W_loop (α := Nat × Nat) (fun zz0 => ⟨[(0, .raw cv hcv), (3, .ptr b11_1 0 none), (4, .int .i64 ((zz0.1) : Int))], [.var b11_1 (.agg [.raw cv hcv, .int .i64 ((0 : Nat) : Int), .int .u64 (((zz0.2) : Nat) : Int)]), rd cv (.u8s code)]⟩) (fun zz0 => (zz0.1) ≤ code.length ∧ (zz0.2) < 18446744073709551616) (fun zz0 => code.length - (zz0.1)) (0, 7351 + code.length) ?_ ?_ ?_
 ·exact ⟨Nat.zero_le _, by show 7351 + code.length < _; omega⟩
 ·exact Wk.intro (.c rfl (.c rfl (.cons rfl (by first | rfl | exact veq_int (by first | omega | (dsimp only; omega))) .nil))) (.keep rfl rfl (imp_var (by first | rfl | (exact ceq_cons (by first | rfl | (rfl)) (ceq_cons (by first | rfl | (refine ceq_int ?_; first | rfl | omega)) (ceq_cons (by first | rfl | (refine ceq_int ?_; first | rfl | omega)) (rfl))))) rfl) (.keep rfl rfl (fun _ h => h) .nil))
 ·rintro ⟨i, h⟩ ⟨hi, hh⟩
  try dsimp only at *
  refine W_seq ?_
  refine W_seq ?_
  refine W_region ?_
  refine o_mv rfl rfl ?_
  refine o_mv rfl rfl ?_
  refine Ops_q ((q_lenR rfl rfl rfl (Rds.rd m1)).eq (d' := .int .i64 ((code.length : Nat) : Int)) rfl) (lt_dec rfl) ?_
  refine Ops_p (p_lss rfl rfl) (lt_dec rfl) ?_
  refine o_mv rfl rfl ?_
  refine Ops_guard rfl rfl (lt_dec rfl) (fun hg1 => ?_) (fun hg1 => ?_)
  ·try simp only [bs] at hg1
   refine o_mv rfl rfl ?_
   refine Ops_guard_t rfl rfl (lt_dec rfl) ?_
   refine Ops_p (p_lss rfl rfl) (lt_dec rfl) ?_
   refine Ops_p (p_pick_t rfl rfl) (lt_dec rfl) ?_
   refine Ops_nil ?_
   refine W_cond rfl (fun h1 => ?_) (fun h1 => ?_)
   ·try simp only [bs] at h1
    refine W_skip ?_
    refine W_seq ?_
    refine W_block ?_
    obtain ⟨nh, hnh, hnl⟩ := wrap64 (IntKind.u64.wrap (IntKind.u64.wrap ((h : Int) * 1099511628211) + ((code.getD i 0).val : Int)) + 19)
    refine W_draw (by kernel_rfl) ?_
    show RA _ _ 16 _ _ _
    refine RA_quiet (g := 1) [0, 1, 2, 3, 4, 5, 6, 7, 8, 9, 10, 11, 12, 13, 14] (by kernel_rfl) (by kernel_rfl) (by kernel_rfl) (by kernel_rfl) ?_
    refine WQ_cons rfl rfl rfl ((p_move rfl).q) (lt_dec rfl) ?_
    refine WQ_cons rfl rfl rfl ((p_move rfl).q) (lt_dec rfl) ?_
    refine WQ_cons rfl rfl rfl ((p_nilCheck rfl).q) (lt_dec rfl) ?_
    refine WQ_cons rfl rfl rfl ((p_fieldAddr rfl rfl rfl rfl rfl rfl).q) (lt_dec rfl) ?_
    refine WQ_cons rfl rfl rfl ((q_load rfl rfl m0 rfl (by first | exact True.intro | omega | exact Fin.isLt _ | trivial | (dsimp only; omega)))) (lt_dec rfl) ?_
    refine WQ_cons rfl rfl rfl ((p_mul_w rfl rfl).q) (lt_dec rfl) ?_
    refine WQ_cons rfl rfl rfl ((p_move rfl).q) (lt_dec rfl) ?_
    refine WQ_cons rfl rfl rfl ((p_move rfl).q) (lt_dec rfl) ?_
    refine WQ_cons rfl rfl rfl ((q_ixR i rfl rfl rfl (Rds.rd m1) rfl rfl (by first | (show _ < List.length _; omega) | (show _ < List.length _; first | omega | (dsimp only; omega))) rfl)) (lt_dec rfl) ?_
    refine WQ_cons rfl rfl rfl ((q_loadR rfl rfl (Rds.rd m1) rfl rfl (by first | (show _ < List.length _; omega) | (show _ < List.length _; first | omega | (dsimp only; omega))) rfl rfl rfl)) (lt_dec rfl) ?_
    first | refine WQ_cons rfl rfl rfl ((p_conv8 rfl rfl rfl (by decide)).q) (lt_dec rfl) ?_ | refine WQ_cons rfl rfl rfl ((p_conv rfl rfl rfl (by exact ⟨(by first | omega | (dsimp only; omega)), (by first | omega | (dsimp only; omega))⟩)).q) (lt_dec rfl) ?_
    refine WQ_cons rfl rfl rfl ((p_add_w rfl rfl).q) (lt_dec rfl) ?_
    refine WQ_cons rfl rfl rfl (((p_add_w rfl rfl).eq (d' := .int .u64 (nh : Int)) (veq_int hnh)).q) (lt_dec rfl) ?_
    refine WQ_cons rfl rfl rfl ((p_nilCheck rfl).q) (lt_dec rfl) ?_
    refine WQ_cons rfl rfl rfl ((p_fieldAddr rfl rfl rfl rfl rfl rfl).q) (lt_dec rfl) ?_
    refine WQ_nil ?_
    refine RA_one 15 rfl rfl (by kernel_rfl) (x_store rfl rfl rfl rfl rfl HpRep.head rfl (by first | trivial | (first | (first | omega | (dsimp only; omega)) | exact Fin.isLt _)) ?_)
    refine RA_done (by kernel_rfl) ?_
    refine W_region ?_
    refine o_mv rfl rfl ?_
    refine Ops_p (p_add rfl rfl (by refine ⟨?_, ?_⟩ <;> first | omega | (dsimp only; omega))) (lt_dec rfl) ?_
    refine o_as rfl rfl ?_
    refine Ops_nil ?_
    refine Exists.intro (i + 1, nh) (And.intro ?_ (And.intro ?_ ?_))
    ·exact ⟨by show _ ≤ _; omega, hnl⟩
    ·show _ < _; omega
    ·exact Wk.intro (.c rfl (.c rfl (.cons rfl (by first | rfl | exact veq_int (by first | omega | (dsimp only; omega))) .nil))) (.keep rfl rfl (imp_var rfl rfl) (.keep rfl rfl (fun _ h => h) .nil))
   ·try simp only [bs] at h1
    refine W_exit ?_
    refine W_seq ?_
    refine W_region ?_
    refine o_mv rfl rfl ?_
    refine o_as rfl rfl ?_
    refine Ops_nil ?_
    refine W_ret ?_
    refine Exists.intro _ (And.intro (.cons (.tmp rfl) .nil) (Exists.intro (b11_1, h) (And.intro ?_ (And.intro ?_ (And.intro (.cons HpDel.head rfl (fun _ h => h) .nil) rfl)))))
    ·exact hh
    ·rfl
  ·try simp only [bs] at hg1
   refine Ops_guard_f rfl rfl rfl (lt_dec rfl) ?_
   refine Ops_p (p_pick_f rfl rfl) (lt_dec rfl) ?_
   refine Ops_nil ?_
   refine W_false rfl ?_
   refine W_exit ?_
   refine W_seq ?_
   refine W_region ?_
   refine o_mv rfl rfl ?_
   refine o_as rfl rfl ?_
   refine Ops_nil ?_
   refine W_ret ?_
   refine Exists.intro _ (And.intro (.cons (.tmp rfl) .nil) (Exists.intro (b11_1, h) (And.intro ?_ (And.intro ?_ (And.intro (.cons HpDel.head rfl (fun _ h => h) .nil) rfl)))))
   ·exact hh
   ·rfl
end Go.Proofs.Ytjihhcjpbcmjaaa
end
section
namespace Go.Proofs.Ytjihhcjpbcmjaaa
open Go Gx
set_option linter.unusedVariables false
theorem en_spec_l01Next : Enters Try.prog 44 := enters_of Try.func44 (by kernel_rfl) (by kernel_rfl)
set_option maxRecDepth 100000 in
set_option maxHeartbeats 1000000 in
theorem w_spec_l01Next {cv : Value} {hcv : cv.oneCell' = true} {code : List (Fin 256)} {sb a h : Nat} {n : Int} (hc : code.length ≤ 4096) (ha : a ≤ code.length) (hh : h < 18446744073709551616) : CT (X := (Nat × Nat) × Nat) Try.prog 44 (vals [.ptr sb 0 none, .int .i64 n]) [.var sb (.agg [.raw cv hcv, .int .i64 ((a : Nat) : Int), .int .u64 ((h : Nat) : Int)])] [rd cv (.u8s code)] (fun x => (Prod.fst (Prod.fst x) ≤ code.length ∧ Prod.snd (Prod.fst x) < 18446744073709551616) ∧ ((n < 1 → Prod.snd x = 0) ∧ (1 ≤ n → ((Prod.snd x : Nat) : Int) < n))) (fun x => .int .i64 ((Prod.snd x : Nat) : Int)) (fun x => [.var sb (.agg [.raw cv hcv, .int .i64 (((Prod.fst (Prod.fst x)) : Nat) : Int), .int .u64 (((Prod.snd (Prod.fst x)) : Nat) : Int)])]) := by
 refine CT_intro (rs := [.tmp 4]) tt tok Try.func44 rfl rfl rfl (by first | rfl | assumption) fun w => ?_
 show W _ _ _ ⟨tmOf 0 [.ptr sb 0 none, .int .i64 n], [.var sb (.agg [.raw cv hcv, .int .i64 ((a : Nat) : Int), .int .u64 ((h : Nat) : Int)]), rd cv (.u8s code)]⟩
 refine W_seq ?_
 refine W_region ?_
 refine o_as rfl rfl ?_
 refine Ops_nil ?_
 refine W_seq ?_
 refine W_seq ?_
 refine W_region ?_
 refine o_mv rfl rfl ?_
 refine Ops_p (p_lss rfl rfl) (lt_dec rfl) ?_
 refine Ops_nil ?_
 refine W_cond rfl (fun h1 => ?_) (fun h1 => ?_)
 ·try simp only [bs] at h1
  refine W_seq ?_
  refine W_region ?_
  refine o_as rfl rfl ?_
  refine Ops_nil ?_
  refine W_ret ?_
  refine Exists.intro _ (And.intro (.cons (.tmp rfl) .nil) (Exists.intro ((a, h), 0) (And.intro ?_ (And.intro ?_ (And.intro (.cons HpDel.head rfl (fun _ h => h) .nil) rfl)))))
  ·exact ⟨⟨ha, hh⟩, fun _ => rfl, fun h1 => absurd h1 (by omega)⟩
  ·rfl
 ·try simp only [bs] at h1
  refine W_skip ?_
  refine W_seq ?_
  obtain ⟨nh, hnh, hnl⟩ := wrap64 (IntKind.u64.wrap ((h : Int) * 6364136223846793005) + 1442695040888963407)
  refine W_region ?_
  refine o_mv rfl rfl ?_
  refine o_mv rfl rfl ?_
  refine Ops_p (p_nilCheck rfl) (lt_dec rfl) ?_
  refine Ops_p (p_fieldAddr rfl rfl rfl rfl rfl rfl) (lt_dec rfl) ?_
  refine Ops_q (q_load rfl rfl m0 rfl (by first | exact True.intro | omega | exact Fin.isLt _ | trivial | (dsimp only; omega))) (lt_dec rfl) ?_
  refine Ops_p (p_mul_w rfl rfl) (lt_dec rfl) ?_
  refine Ops_p ((p_add_w rfl rfl).eq (d' := .int .u64 (nh : Int)) (veq_int hnh)) (lt_dec rfl) ?_
  refine Ops_p (p_nilCheck rfl) (lt_dec rfl) ?_
  refine Ops_p (p_fieldAddr rfl rfl rfl rfl rfl rfl) (lt_dec rfl) ?_
  refine Ops_x rfl (x_store rfl rfl rfl rfl rfl HpRep.head rfl (by first | trivial | (first | (first | omega | (dsimp only; omega)) | exact Fin.isLt _)) ?_)
  refine Ops_nil ?_
  refine W_seq ?_
  obtain ⟨x0, hx0, hxl⟩ : ∃ x0 : Nat, (nh / 8589934592) &&& 16777215 = x0 ∧ x0 ≤ 16777215 := ⟨_, rfl, Nat.and_le_right⟩
  refine W_region ?_
  refine o_mv rfl rfl ?_
  refine Ops_p (p_nilCheck rfl) (lt_dec rfl) ?_
  refine Ops_p (p_fieldAddr rfl rfl rfl rfl rfl rfl) (lt_dec rfl) ?_
  refine Ops_q (q_load rfl rfl m0 rfl (by first | exact True.intro | omega | exact Fin.isLt _ | trivial | (dsimp only; omega))) (lt_dec rfl) ?_
  refine Ops_p ((p_shr rfl rfl (by omega) (by simp only [IntKind.bits]; omega)).eq (d' := .int .u64 ((nh / 8589934592 : Nat) : Int)) (veq_int (by first | rfl | (simp; done) | omega))) (lt_dec rfl) ?_
  refine Ops_p ((p_and rfl rfl (by omega) (by omega) (by exact ⟨by omega, by omega⟩) (by exact ⟨by omega, by omega⟩) (by exact ⟨by omega, by (have := Nat.and_le_right (n := nh / 8589934592) (m := 16777215); simp only [Int.toNat_natCast] at *; show ((_ &&& 16777215 : Nat) : Int) ≤ _; omega)⟩)).eq (d' := .int .u64 (x0 : Int)) (veq_int (by rw [← hx0]; rfl))) (lt_dec rfl) ?_
  refine Ops_p (p_conv rfl rfl rfl (by exact ⟨(by first | omega | (dsimp only; omega)), (by first | omega | (dsimp only; omega))⟩)) (lt_dec rfl) ?_
  refine o_as rfl rfl ?_
  refine Ops_nil ?_
  refine W_seq ?_
  refine W_seq ?_
  refine W_draw (by kernel_rfl) ?_
  show RA _ _ 10 _ _ _
  refine RA_quietF [0, 1, 2, 3, 4, 5, 6, 7, 8, 9] rfl rfl rfl (by kernel_rfl) (by kernel_rfl) ?_
  refine WQ_cons rfl rfl rfl ((p_move rfl).q) (lt_dec rfl) ?_
  refine WQ_cons rfl rfl rfl ((p_nilCheck rfl).q) (lt_dec rfl) ?_
  refine WQ_cons rfl rfl rfl ((p_fieldAddr rfl rfl rfl rfl rfl rfl).q) (lt_dec rfl) ?_
  refine WQ_cons rfl rfl rfl ((q_load rfl rfl m0 rfl (by first | exact True.intro | omega | exact Fin.isLt _ | trivial | (dsimp only; omega)))) (lt_dec rfl) ?_
  refine WQ_cons rfl rfl rfl ((p_move rfl).q) (lt_dec rfl) ?_
  refine WQ_cons rfl rfl rfl ((p_nilCheck rfl).q) (lt_dec rfl) ?_
  refine WQ_cons rfl rfl rfl ((p_fieldAddr rfl rfl rfl rfl rfl rfl).q) (lt_dec rfl) ?_
  refine WQ_cons rfl rfl rfl ((q_load rfl rfl m0 rfl (by first | exact True.intro | omega | exact Fin.isLt _ | trivial | (dsimp only; omega)))) (lt_dec rfl) ?_
  refine WQ_cons rfl rfl rfl (((q_lenR rfl rfl rfl (Rds.rd m1)).eq (d' := .int .i64 ((code.length : Nat) : Int)) rfl)) (lt_dec rfl) ?_
  refine WQ_cons rfl rfl rfl ((p_lss rfl rfl).q) (lt_dec rfl) ?_
  refine WQ_nil ?_
  refine W_cond rfl (fun h2 => ?_) (fun h2 => ?_)
  ·try simp only [bs] at h2
   refine W_seq ?_
   have hcb := (code.getD a 0).isLt
   refine W_draw (by kernel_rfl) ?_
   show RA _ _ 14 _ _ _
   refine RA_quietF [0, 1, 2, 3, 4, 5, 6, 7, 8, 9, 10, 11, 12, 13] rfl rfl rfl (by kernel_rfl) (by kernel_rfl) ?_
   refine WQ_cons rfl rfl rfl ((p_move rfl).q) (lt_dec rfl) ?_
   refine WQ_cons rfl rfl rfl ((p_move rfl).q) (lt_dec rfl) ?_
   refine WQ_cons rfl rfl rfl ((p_nilCheck rfl).q) (lt_dec rfl) ?_
   refine WQ_cons rfl rfl rfl ((p_fieldAddr rfl rfl rfl rfl rfl rfl).q) (lt_dec rfl) ?_
   refine WQ_cons rfl rfl rfl ((q_load rfl rfl m0 rfl (by first | exact True.intro | omega | exact Fin.isLt _ | trivial | (dsimp only; omega)))) (lt_dec rfl) ?_
   refine WQ_cons rfl rfl rfl ((p_move rfl).q) (lt_dec rfl) ?_
   refine WQ_cons rfl rfl rfl ((p_nilCheck rfl).q) (lt_dec rfl) ?_
   refine WQ_cons rfl rfl rfl ((p_fieldAddr rfl rfl rfl rfl rfl rfl).q) (lt_dec rfl) ?_
   refine WQ_cons rfl rfl rfl ((q_load rfl rfl m0 rfl (by first | exact True.intro | omega | exact Fin.isLt _ | trivial | (dsimp only; omega)))) (lt_dec rfl) ?_
   refine WQ_cons rfl rfl rfl ((q_ixR a rfl rfl rfl (Rds.rd m1) rfl rfl (by first | (show _ < List.length _; omega) | (show _ < List.length _; first | omega | (dsimp only; omega))) rfl)) (lt_dec rfl) ?_
   refine WQ_cons rfl rfl rfl ((q_loadR rfl rfl (Rds.rd m1) rfl rfl (by first | (show _ < List.length _; omega) | (show _ < List.length _; first | omega | (dsimp only; omega))) rfl rfl rfl)) (lt_dec rfl) ?_
   first | refine WQ_cons rfl rfl rfl ((p_conv8 rfl rfl rfl (by decide)).q) (lt_dec rfl) ?_ | refine WQ_cons rfl rfl rfl ((p_conv rfl rfl rfl (by exact ⟨(by first | omega | (dsimp only; omega)), (by first | omega | (dsimp only; omega))⟩)).q) (lt_dec rfl) ?_
   refine WQ_cons rfl rfl rfl ((p_add rfl rfl (by refine ⟨?_, ?_⟩ <;> first | omega | (dsimp only; omega))).q) (lt_dec rfl) ?_
   refine WQ_cons rfl rfl rfl ((p_assign rfl).q) (lt_dec rfl) ?_
   refine WQ_nil ?_
   refine W_region ?_
   refine o_mv rfl rfl ?_
   refine o_mv rfl rfl ?_
   refine Ops_p (p_nilCheck rfl) (lt_dec rfl) ?_
   refine Ops_p (p_fieldAddr rfl rfl rfl rfl rfl rfl) (lt_dec rfl) ?_
   refine Ops_q (q_load rfl rfl m0 rfl (by first | exact True.intro | omega | exact Fin.isLt _ | trivial | (dsimp only; omega))) (lt_dec rfl) ?_
   refine Ops_p (p_add rfl rfl (by refine ⟨?_, ?_⟩ <;> first | omega | (dsimp only; omega))) (lt_dec rfl) ?_
   refine Ops_p (p_nilCheck rfl) (lt_dec rfl) ?_
   refine Ops_p (p_fieldAddr rfl rfl rfl rfl rfl rfl) (lt_dec rfl) ?_
   refine Ops_x rfl (x_store rfl rfl rfl rfl rfl HpRep.head rfl (by first | trivial | (first | (first | omega | (dsimp only; omega)) | exact Fin.isLt _)) ?_)
   refine Ops_nil ?_
   refine W_seq ?_
   refine W_region ?_
   refine o_mv rfl rfl ?_
   refine o_mv rfl rfl ?_
   refine Ops_p (p_rem rfl rfl (by first | omega | (dsimp only; omega)) (by first | omega | (dsimp only; omega))) (lt_dec rfl) ?_
   refine o_as rfl rfl ?_
   refine Ops_nil ?_
   refine W_ret ?_
   refine Exists.intro _ (And.intro (.cons (.tmp rfl) .nil) (Exists.intro ((a + 1, nh), Int.toNat (((x0 : Int) + ((Fin.val (List.getD code a 0) : Nat) : Int)) % n)) (And.intro ?_ (And.intro ?_ (And.intro (.cons HpDel.head rfl (imp_var rfl rfl) .nil) rfl)))))
   ·exact ⟨⟨by show a + 1 ≤ code.length; omega, hnl⟩, fun h1 => absurd h1 (by omega), fun h1 => (by have := Int.emod_lt_of_pos ((x0 : Int) + ((Fin.val (List.getD code a 0) : Nat) : Int)) (show 0 < n by omega); have := Int.emod_nonneg ((x0 : Int) + ((Fin.val (List.getD code a 0) : Nat) : Int)) (show n ≠ 0 by omega); show ((Int.toNat (((x0 : Int) + ((Fin.val (List.getD code a 0) : Nat) : Int)) % n) : Nat) : Int) < n; omega)⟩
   ·exact veq_int (by have := Int.emod_nonneg ((x0 : Int) + ((Fin.val (List.getD code a 0) : Nat) : Int)) (show n ≠ 0 by omega); omega)
  ·try simp only [bs] at h2
   refine W_skip ?_
   refine W_seq ?_
   refine W_region ?_
   refine o_mv rfl rfl ?_
   refine o_mv rfl rfl ?_
   refine Ops_p (p_rem rfl rfl (by first | omega | (dsimp only; omega)) (by first | omega | (dsimp only; omega))) (lt_dec rfl) ?_
   refine o_as rfl rfl ?_
   refine Ops_nil ?_
   refine W_ret ?_
   refine Exists.intro _ (And.intro (.cons (.tmp rfl) .nil) (Exists.intro ((a, nh), Int.toNat ((x0 : Int) % n)) (And.intro ?_ (And.intro ?_ (And.intro (.cons HpDel.head rfl (imp_var rfl rfl) .nil) rfl)))))
   ·exact ⟨⟨by show a ≤ code.length; omega, hnl⟩, fun h1 => absurd h1 (by omega), fun h1 => (by have := Int.emod_lt_of_pos (x0 : Int) (show 0 < n by omega); have := Int.emod_nonneg (x0 : Int) (show n ≠ 0 by omega); show ((Int.toNat ((x0 : Int) % n) : Nat) : Int) < n; omega)⟩
   ·exact veq_int (by have := Int.emod_nonneg (x0 : Int) (show n ≠ 0 by omega); omega)
end Go.Proofs.Ytjihhcjpbcmjaaa
end
