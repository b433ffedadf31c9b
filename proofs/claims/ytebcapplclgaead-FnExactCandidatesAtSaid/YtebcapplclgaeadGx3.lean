/- The frame of this seat's proofs, part 3: the operations that yield a value and turn nothing that is known; no conditions. -/
import Derived.Test.YtebcapplclgaeadGx2
namespace Go.Proofs.Ytebcapplclgaead
open Go
namespace Gx
open Go.RowKit (Below)

section
variable {E : Env} {s : St} {dst : Option Tmp} {ty : TypeId} {ps : String} {af : Array Edge} {gd : Option (Nat × Bool)}

theorem qt_of {o : Oper} {d : D} (h : ∀ a w, ok E s a w → (execOp a.eval o).run E.P w = .ok (.value d.val) w) : Qt E o s d := fun a w ho => .inl (h a w ho)

theorem p_move {x : Operand} {d : D} (h : ev s x = some d) : Pt E ⟨dst, .move x, ty, ps, af, gd⟩ s d := fun a ho w => by
  simp [execOp, ho.ev h]
theorem p_assign {x : Operand} {d : D} (h : ev s x = some d) : Pt E ⟨dst, .assign x, ty, ps, af, gd⟩ s d := fun a ho w => by
  simp [execOp, ho.ev h]

theorem p_pick_t {c x y : Operand} {d : D} (hc : ev s c = some (.bool true)) (h : ev s x = some d) : Pt E ⟨dst, .pick c x y, ty, ps, af, gd⟩ s d := fun a ho w => by
  simp [execOp, ho.ev hc, ho.ev h, D.val, asBool]
theorem p_pick_f {c x y : Operand} {d : D} (hc : ev s c = some (.bool false)) (h : ev s y = some d) : Pt E ⟨dst, .pick c x y, ty, ps, af, gd⟩ s d := fun a ho w => by
  simp [execOp, ho.ev hc, ho.ev h, D.val, asBool]

/-! ### Numbers -/
def inR : IntKind → Int → Prop
  | .i8, n => -128 ≤ n ∧ n ≤ 127
  | .i16, n => -32768 ≤ n ∧ n ≤ 32767
  | .i32, n => -2147483648 ≤ n ∧ n ≤ 2147483647
  | .i64, n => -9223372036854775808 ≤ n ∧ n ≤ 9223372036854775807
  | .u8, n => 0 ≤ n ∧ n ≤ 255
  | .u16, n => 0 ≤ n ∧ n ≤ 65535
  | .u32, n => 0 ≤ n ∧ n ≤ 4294967295
  | .u64, n => 0 ≤ n ∧ n ≤ 18446744073709551615
theorem wrap_in {k : IntKind} {n : Int} (h : inR k n) : k.wrap n = n := by
  cases k with
  | i8 => exact IntWalk.i8_in n h
  | i16 => exact IntWalk.i16_in n h
  | i32 => exact IntWalk.i32_in n h
  | i64 => exact IntWalk.i64_in n h
  | u8 => exact IntWalk.u8_in n h
  | u16 => exact IntWalk.u16_in n h
  | u32 => exact IntWalk.u32_in n h
  | u64 => exact IntWalk.u64_in n h

/-- A whole number, in whichever form. -/
def asI : D → Option (IntKind × Int)
  | .int k n => some (k, n)
  | .u8 x => some (.u8, (x.val : Int))
  | _ => none
def evI (s : St) (x : Operand) : Option (IntKind × Int) := match ev s x with
  | some d => asI d
  | none => none
theorem okT.evI {a : Act} (ho : okT E s a) {x : Operand} {k : IntKind} {n : Int} (h : evI s x = some (k, n)) : a.eval x = .int k n := by
  unfold Gx.evI at h
  split at h
  · rename_i d hd
    rw [ho.ev hd]
    cases d <;> simp only [asI, Option.some.injEq, Prod.mk.injEq] at h
    case int => obtain ⟨rfl, rfl⟩ := h; rfl
    case u8 => obtain ⟨rfl, rfl⟩ := h; rfl
    all_goals cases h
  · cases h

theorem run_eqGuard_int (op : BinOp) (t : TypeId) (x y : Operand) (k k' : IntKind) (a b : Int) (P : Program) (w : World) : (eqGuard op t x y (.int k a) (.int k' b)).run P w = .ok () w := by
  cases op <;> simp [eqGuard]
theorem run_eqGuard_bool (op : BinOp) (t : TypeId) (x y : Operand) (a b : Bool) (P : Program) (w : World) : (eqGuard op t x y (.bool a) (.bool b)).run P w = .ok () w := by
  cases op <;> simp [eqGuard]
theorem run_eqGuard_string (op : BinOp) (t : TypeId) (x y : Operand) (a b : ByteArray) (P : Program) (w : World) : (eqGuard op t x y (.string a) (.string b)).run P w = .ok () w := by
  cases op <;> simp [eqGuard]

theorem p_add {x y : Operand} {k : IntKind} {a b : Int} {T T' : TypeId} (hx : evI s x = some (k, a)) (hy : evI s y = some (k, b)) (hr : inR k (a + b)) :
    Pt E ⟨dst, .binOp .add T x y T', ty, ps, af, gd⟩ s (.int k (a + b)) := fun c ho w => by
  simp [execOp, ho.evI hx, ho.evI hy, D.val, run_eqGuard_int, binOp, Op.intArith, wrap_in hr]
theorem p_sub {x y : Operand} {k : IntKind} {a b : Int} {T T' : TypeId} (hx : evI s x = some (k, a)) (hy : evI s y = some (k, b)) (hr : inR k (a - b)) :
    Pt E ⟨dst, .binOp .sub T x y T', ty, ps, af, gd⟩ s (.int k (a - b)) := fun c ho w => by
  simp [execOp, ho.evI hx, ho.evI hy, D.val, run_eqGuard_int, binOp, Op.intArith, wrap_in hr]
theorem p_mul {x y : Operand} {k : IntKind} {a b : Int} {T T' : TypeId} (hx : evI s x = some (k, a)) (hy : evI s y = some (k, b)) (hr : inR k (a * b)) :
    Pt E ⟨dst, .binOp .mul T x y T', ty, ps, af, gd⟩ s (.int k (a * b)) := fun c ho w => by
  simp [execOp, ho.evI hx, ho.evI hy, D.val, run_eqGuard_int, binOp, Op.intArith, wrap_in hr]
theorem p_add_w {x y : Operand} {k : IntKind} {a b : Int} {T T' : TypeId} (hx : evI s x = some (k, a)) (hy : evI s y = some (k, b)) :
    Pt E ⟨dst, .binOp .add T x y T', ty, ps, af, gd⟩ s (.int k (k.wrap (a + b))) := fun c ho w => by
  simp [execOp, ho.evI hx, ho.evI hy, D.val, run_eqGuard_int, binOp, Op.intArith]
theorem p_sub_w {x y : Operand} {k : IntKind} {a b : Int} {T T' : TypeId} (hx : evI s x = some (k, a)) (hy : evI s y = some (k, b)) :
    Pt E ⟨dst, .binOp .sub T x y T', ty, ps, af, gd⟩ s (.int k (k.wrap (a - b))) := fun c ho w => by
  simp [execOp, ho.evI hx, ho.evI hy, D.val, run_eqGuard_int, binOp, Op.intArith]
theorem p_mul_w {x y : Operand} {k : IntKind} {a b : Int} {T T' : TypeId} (hx : evI s x = some (k, a)) (hy : evI s y = some (k, b)) :
    Pt E ⟨dst, .binOp .mul T x y T', ty, ps, af, gd⟩ s (.int k (k.wrap (a * b))) := fun c ho w => by
  simp [execOp, ho.evI hx, ho.evI hy, D.val, run_eqGuard_int, binOp, Op.intArith]

theorem p_quo {x y : Operand} {k : IntKind} {a b : Int} {T T' : TypeId} (hx : evI s x = some (k, a)) (hy : evI s y = some (k, b)) (ha : 0 ≤ a) (hb : 0 < b) (hr : inR k (a / b)) :
    Pt E ⟨dst, .binOp .quo T x y T', ty, ps, af, gd⟩ s (.int k (a / b)) := fun c ho w => by
  have e : a.tdiv b = a / b := Int.tdiv_eq_ediv_of_nonneg ha
  have h0 : ¬ b = 0 := by omega
  simp [execOp, ho.evI hx, ho.evI hy, D.val, run_eqGuard_int, binOp, Op.intDiv, h0, e, wrap_in hr]
theorem p_rem {x y : Operand} {k : IntKind} {a b : Int} {T T' : TypeId} (hx : evI s x = some (k, a)) (hy : evI s y = some (k, b)) (ha : 0 ≤ a) (hb : 0 < b) :
    Pt E ⟨dst, .binOp .rem T x y T', ty, ps, af, gd⟩ s (.int k (a % b)) := fun c ho w => by
  have e : a.tmod b = a % b := Int.tmod_eq_emod_of_nonneg ha
  have h0 : ¬ b = 0 := by omega
  simp [execOp, ho.evI hx, ho.evI hy, D.val, run_eqGuard_int, binOp, Op.intDiv, h0, e]
theorem p_rem_t {x y : Operand} {k : IntKind} {a b : Int} {T T' : TypeId} (hx : evI s x = some (k, a)) (hy : evI s y = some (k, b)) (hb : b ≠ 0) :
    Pt E ⟨dst, .binOp .rem T x y T', ty, ps, af, gd⟩ s (.int k (a.tmod b)) := fun c ho w => by
  simp [execOp, ho.evI hx, ho.evI hy, D.val, run_eqGuard_int, binOp, Op.intDiv, hb]

theorem p_lss {x y : Operand} {k : IntKind} {a b : Int} {T T' : TypeId} (hx : evI s x = some (k, a)) (hy : evI s y = some (k, b)) :
    Pt E ⟨dst, .binOp .lss T x y T', ty, ps, af, gd⟩ s (.bool (decide (a < b))) := fun c ho w => by
  simp [execOp, ho.evI hx, ho.evI hy, D.val, run_eqGuard_int, binOp, Op.intCmp]
theorem p_leq {x y : Operand} {k : IntKind} {a b : Int} {T T' : TypeId} (hx : evI s x = some (k, a)) (hy : evI s y = some (k, b)) :
    Pt E ⟨dst, .binOp .leq T x y T', ty, ps, af, gd⟩ s (.bool (decide (a ≤ b))) := fun c ho w => by
  simp [execOp, ho.evI hx, ho.evI hy, D.val, run_eqGuard_int, binOp, Op.intCmp]
theorem p_gtr {x y : Operand} {k : IntKind} {a b : Int} {T T' : TypeId} (hx : evI s x = some (k, a)) (hy : evI s y = some (k, b)) :
    Pt E ⟨dst, .binOp .gtr T x y T', ty, ps, af, gd⟩ s (.bool (decide (b < a))) := fun c ho w => by
  simp [execOp, ho.evI hx, ho.evI hy, D.val, run_eqGuard_int, binOp, Op.intCmp]
theorem p_geq {x y : Operand} {k : IntKind} {a b : Int} {T T' : TypeId} (hx : evI s x = some (k, a)) (hy : evI s y = some (k, b)) :
    Pt E ⟨dst, .binOp .geq T x y T', ty, ps, af, gd⟩ s (.bool (decide (b ≤ a))) := fun c ho w => by
  simp [execOp, ho.evI hx, ho.evI hy, D.val, run_eqGuard_int, binOp, Op.intCmp]
theorem p_eql {x y : Operand} {k : IntKind} {a b : Int} {T T' : TypeId} (hx : evI s x = some (k, a)) (hy : evI s y = some (k, b)) :
    Pt E ⟨dst, .binOp .eql T x y T', ty, ps, af, gd⟩ s (.bool (decide (a = b))) := fun c ho w => by
  have e : (a == b) = decide (a = b) := by rw [Bool.eq_iff_iff]; simp
  simp [execOp, ho.evI hx, ho.evI hy, D.val, run_eqGuard_int, binOp, Op.intCmp, e]
theorem p_neq {x y : Operand} {k : IntKind} {a b : Int} {T T' : TypeId} (hx : evI s x = some (k, a)) (hy : evI s y = some (k, b)) :
    Pt E ⟨dst, .binOp .neq T x y T', ty, ps, af, gd⟩ s (.bool (decide (¬ a = b))) := fun c ho w => by
  have e : (a != b) = decide (¬ a = b) := by rw [Bool.eq_iff_iff]; simp
  simp [execOp, ho.evI hx, ho.evI hy, D.val, run_eqGuard_int, binOp, Op.intCmp, e]

theorem tt_underlying {t : TypeId} {i : TI} (h : E.tt t = some i) : ∃ d, E.P.underlying t = some d ∧ i.td.met d := (E.tok t i h).1
theorem tt_info {t : TypeId} {i : TI} (h : E.tt t = some i) : ∃ x, E.P.info? t = some x ∧ x.size = i.size ∧ x.bytes = i.bytes ∧ x.zero = some i.zero.val := by
  have := (E.tok t i h).2.1
  cases hx : E.P.info? t with
  | none => simp [hx] at this
  | some x => simp [hx] at this; exact ⟨x, rfl, this⟩

theorem run_equal_bool {T : TypeId} {sz by_ : Nat} {z : D} (ht : E.tt T = some ⟨.bool, sz, by_, z⟩) (a b : Bool) (w : World) : (Op.equal T (.bool a) (.bool b)).run E.P w = .ok (decide (a = b)) w := by
  obtain ⟨d, hd, hm⟩ := tt_underlying ht
  simp only [TD.met] at hm
  subst hm
  have e : (a == b) = decide (a = b) := by cases a <;> cases b <;> rfl
  show (Op.equalIn (9999 + 1) T (.bool a) (.bool b)).run E.P w = _
  unfold Op.equalIn
  simp only [Sem.run_bind, run_underlying hd, Result.andThen_ok, Sem.run_pure, e]
theorem p_eql_b {x y : Operand} {a b : Bool} {T T' : TypeId} {sz by_ : Nat} {z : D} (ht : E.tt T = some ⟨.bool, sz, by_, z⟩) (hx : ev s x = some (.bool a)) (hy : ev s y = some (.bool b)) :
    Pt E ⟨dst, .binOp .eql T x y T', ty, ps, af, gd⟩ s (.bool (decide (a = b))) := fun c ho w => by
  have h1 : binOp .eql T (.bool a) (.bool b) = (do pure (.bool (← Op.equal T (.bool a) (.bool b)))) := rfl
  simp only [execOp, ho.ev hx, ho.ev hy, D.val, Sem.run_bind, run_eqGuard_bool, Result.andThen_ok, h1, run_equal_bool ht, Sem.run_pure]
theorem p_neq_b {x y : Operand} {a b : Bool} {T T' : TypeId} {sz by_ : Nat} {z : D} (ht : E.tt T = some ⟨.bool, sz, by_, z⟩) (hx : ev s x = some (.bool a)) (hy : ev s y = some (.bool b)) :
    Pt E ⟨dst, .binOp .neq T x y T', ty, ps, af, gd⟩ s (.bool (decide (¬ a = b))) := fun c ho w => by
  have h1 : binOp .neq T (.bool a) (.bool b) = (do pure (.bool (!(← Op.equal T (.bool a) (.bool b))))) := rfl
  simp only [execOp, ho.ev hx, ho.ev hy, D.val, Sem.run_bind, run_eqGuard_bool, Result.andThen_ok, h1, run_equal_bool ht, Sem.run_pure, decide_not]

theorem p_not {x : Operand} {b : Bool} {T : TypeId} (hx : ev s x = some (.bool b)) : Pt E ⟨dst, .unOp .not T x, ty, ps, af, gd⟩ s (.bool (!b)) := fun c ho w => by
  simp [execOp, ho.ev hx, D.val, Op.unary]
theorem p_neg {x : Operand} {k : IntKind} {n : Int} {T : TypeId} (hx : evI s x = some (k, n)) (hr : inR k (-n)) : Pt E ⟨dst, .unOp .neg T x, ty, ps, af, gd⟩ s (.int k (-n)) := fun c ho w => by
  have e : k.wrap (-n) = -n := wrap_in hr
  simp [execOp, ho.evI hx, D.val, Op.unary, Op.intArith, e]

theorem p_shl {x y : Operand} {k yk : IntKind} {a b : Int} {T T' : TypeId} (hx : evI s x = some (k, a)) (hy : evI s y = some (yk, b)) (h0 : 0 ≤ b) (hb : b ≤ k.bits) (hr : inR k (a * 2 ^ b.toNat)) :
    Pt E ⟨dst, .binOp .shl T x y T', ty, ps, af, gd⟩ s (.int k (a * 2 ^ b.toNat)) := fun c ho w => by
  have h1 : ¬ b < 0 := by omega
  have h2 : min b.toNat k.bits = b.toNat := by omega
  simp [execOp, ho.evI hx, ho.evI hy, D.val, run_eqGuard_int, binOp, Op.shift, h1, h2, wrap_in hr]
theorem p_shr {x y : Operand} {k yk : IntKind} {a b : Int} {T T' : TypeId} (hx : evI s x = some (k, a)) (hy : evI s y = some (yk, b)) (h0 : 0 ≤ b) (hb : b ≤ k.bits) :
    Pt E ⟨dst, .binOp .shr T x y T', ty, ps, af, gd⟩ s (.int k (a / 2 ^ b.toNat)) := fun c ho w => by
  have h1 : ¬ b < 0 := by omega
  have h2 : min b.toNat k.bits = b.toNat := by omega
  have e : a.fdiv (2 ^ b.toNat) = a / 2 ^ b.toNat := Int.fdiv_eq_ediv_of_nonneg _ (Int.le_of_lt (Int.pow_pos (by decide)))
  simp [execOp, ho.evI hx, ho.evI hy, D.val, run_eqGuard_int, binOp, Op.shift, h1, h2, e]

theorem inR_lt {k : IntKind} {n : Int} (h0 : 0 ≤ n) (h : inR k n) : n.toNat < 2 ^ k.bits := by
  cases k <;> simp only [inR] at h <;> simp only [IntKind.bits] <;> omega

theorem toNat_ofInt_in {k : IntKind} {n : Int} (h0 : 0 ≤ n) (h : inR k n) : (BitVec.ofInt k.bits n).toNat = n.toNat := by
  obtain ⟨m, rfl⟩ := Int.eq_ofNat_of_zero_le h0
  have := inR_lt h0 h
  simp only [Int.toNat_natCast] at this
  rw [BitVec.ofInt_natCast, BitVec.toNat_ofNat, Nat.mod_eq_of_lt this]
  rfl

theorem p_or {x y : Operand} {k : IntKind} {a b : Int} {T T' : TypeId} (hx : evI s x = some (k, a)) (hy : evI s y = some (k, b)) (ha : 0 ≤ a) (hb : 0 ≤ b) (ra : inR k a) (rb : inR k b)
    (hr : inR k ((a.toNat ||| b.toNat : Nat) : Int)) : Pt E ⟨dst, .binOp .or T x y T', ty, ps, af, gd⟩ s (.int k ((a.toNat ||| b.toNat : Nat) : Int)) := fun c ho w => by
  simp [execOp, ho.evI hx, ho.evI hy, D.val, run_eqGuard_int, binOp, Op.intBits, BitVec.toNat_or, toNat_ofInt_in ha ra, toNat_ofInt_in hb rb, wrap_in hr]
theorem p_and {x y : Operand} {k : IntKind} {a b : Int} {T T' : TypeId} (hx : evI s x = some (k, a)) (hy : evI s y = some (k, b)) (ha : 0 ≤ a) (hb : 0 ≤ b) (ra : inR k a) (rb : inR k b)
    (hr : inR k ((a.toNat &&& b.toNat : Nat) : Int)) : Pt E ⟨dst, .binOp .and T x y T', ty, ps, af, gd⟩ s (.int k ((a.toNat &&& b.toNat : Nat) : Int)) := fun c ho w => by
  simp [execOp, ho.evI hx, ho.evI hy, D.val, run_eqGuard_int, binOp, Op.intBits, BitVec.toNat_and, toNat_ofInt_in ha ra, toNat_ofInt_in hb rb, wrap_in hr]
theorem p_xor {x y : Operand} {k : IntKind} {a b : Int} {T T' : TypeId} (hx : evI s x = some (k, a)) (hy : evI s y = some (k, b)) (ha : 0 ≤ a) (hb : 0 ≤ b) (ra : inR k a) (rb : inR k b)
    (hr : inR k ((a.toNat ^^^ b.toNat : Nat) : Int)) : Pt E ⟨dst, .binOp .xor T x y T', ty, ps, af, gd⟩ s (.int k ((a.toNat ^^^ b.toNat : Nat) : Int)) := fun c ho w => by
  simp [execOp, ho.evI hx, ho.evI hy, D.val, run_eqGuard_int, binOp, Op.intBits, BitVec.toNat_xor, toNat_ofInt_in ha ra, toNat_ofInt_in hb rb, wrap_in hr]

theorem p_conv {x : Operand} {k k' : IntKind} {n : Int} {S T : TypeId} {i : TI} {sz by_ : Nat} {z : D} (hs : E.tt S = some i) (ht : E.tt T = some ⟨.int k', sz, by_, z⟩) (hx : evI s x = some (k, n)) (hr : inR k' n) :
    Pt E ⟨dst, .convert S T x, ty, ps, af, gd⟩ s (.int k' n) := fun c ho w => by
  obtain ⟨d, hd, _⟩ := tt_underlying hs
  obtain ⟨d', hd', hm⟩ := tt_underlying ht
  simp only [TD.met] at hm
  subst hm
  simp [execOp, ho.evI hx, D.val, convert, run_underlying hd, run_underlying hd', Conv.intToInt, wrap_in hr]
theorem p_conv_w {x : Operand} {k k' : IntKind} {n : Int} {S T : TypeId} {i : TI} {sz by_ : Nat} {z : D} (hs : E.tt S = some i) (ht : E.tt T = some ⟨.int k', sz, by_, z⟩) (hx : evI s x = some (k, n)) :
    Pt E ⟨dst, .convert S T x, ty, ps, af, gd⟩ s (.int k' (k'.wrap n)) := fun c ho w => by
  obtain ⟨d, hd, _⟩ := tt_underlying hs
  obtain ⟨d', hd', hm⟩ := tt_underlying ht
  simp only [TD.met] at hm
  subst hm
  simp [execOp, ho.evI hx, D.val, convert, run_underlying hd, run_underlying hd', Conv.intToInt]

/-! ### Bytes -/
theorem fin_eq_val (a b : Fin 256) : ((a.val : Int) == (b.val : Int)) = decide (a = b) := by
  rw [Bool.eq_iff_iff]; simp; omega
theorem p_eql_8 {x y : Operand} {a b : Fin 256} {T T' : TypeId} (hx : ev s x = some (.u8 a)) (hy : ev s y = some (.u8 b)) :
    Pt E ⟨dst, .binOp .eql T x y T', ty, ps, af, gd⟩ s (.bool (decide (a = b))) := fun c ho w => by
  have e := fin_eq_val a b
  simp only [execOp, ho.ev hx, ho.ev hy, D.val, Sem.run_bind, run_eqGuard_int, Result.andThen_ok, binOp, Op.intCmp, ne_eq, not_true_eq_false, if_false, Sem.run_pure, e]
theorem p_neq_8 {x y : Operand} {a b : Fin 256} {T T' : TypeId} (hx : ev s x = some (.u8 a)) (hy : ev s y = some (.u8 b)) :
    Pt E ⟨dst, .binOp .neq T x y T', ty, ps, af, gd⟩ s (.bool (decide (¬ a = b))) := fun c ho w => by
  have e : ((a.val : Int) != (b.val : Int)) = decide (¬ a = b) := by rw [bne, fin_eq_val, decide_not]
  simp only [execOp, ho.ev hx, ho.ev hy, D.val, Sem.run_bind, run_eqGuard_int, Result.andThen_ok, binOp, Op.intCmp, ne_eq, not_true_eq_false, if_false, Sem.run_pure, e]

/-! ### Addresses -/
theorem p_nilCheck {x : Operand} {b o : Nat} {e : Option Nat} (hx : ev s x = some (.ptr b o e)) : Pt E ⟨dst, .nilCheck x, ty, ps, af, gd⟩ s (.ptr b o e) := fun c ho w => by
  simp [execOp, ho.ev hx, D.val]

theorem p_fieldAddr {x : Operand} {b o f T off ft : Nat} {e : Option Nat} {os ts : List Nat} {sz by_ : Nat} {z : D} {i : TI} (ht : E.tt T = some ⟨.struct os ts, sz, by_, z⟩) (h1 : os[f]? = some off) (h2 : ts[f]? = some ft)
    (h3 : E.tt ft = some i) (h4 : Nat.beq i.size 0 = false) (hx : ev s x = some (.ptr b o e)) : Pt E ⟨dst, .fieldAddr T x f, ty, ps, af, gd⟩ s (.ptr b (o + off) e) := fun c ho w => by
  obtain ⟨d, hd, fs, rfl, e1, e2⟩ := tt_underlying ht
  obtain ⟨x', hx', hsz, _⟩ := tt_info h3
  obtain ⟨fl, hf⟩ : ∃ fl, fs[f]? = some fl ∧ fl.offset = off ∧ fl.type = ft := by
    rw [← e1] at h1
    rw [← e2] at h2
    simp only [List.getElem?_map, Option.map_eq_some_iff] at h1 h2
    obtain ⟨fl, hf, ho1⟩ := h1
    obtain ⟨fl', hf', ho2⟩ := h2
    rw [hf] at hf'
    cases hf'
    exact ⟨fl, by simpa using hf, ho1, ho2⟩
  have hne : ¬ x'.size = 0 := by
    rw [hsz]
    intro e
    rw [e] at h4
    cases h4
  obtain ⟨hf, rfl, rfl⟩ := hf
  have hadd : (⟨b, o + e.getD 0, none⟩ : Addr).add fl.offset = ⟨b, o + fl.offset + e.getD 0, none⟩ := by
    unfold Addr.add
    split
    · rename_i h; rw [h]; simp
    · simp only [Addr.mk.injEq, and_true, true_and]; omega
  simp [execOp, ho.ev hx, D.val, Instr.fieldAt, run_underlying hd, hf, Instr.sureAddr, fieldPlace, sizeOf, typeInfo, hx', hne, hadd]

theorem Addr.add_at (b o n : Nat) : (⟨b, o, none⟩ : Addr).add n = ⟨b, o + n, none⟩ := by unfold Addr.add; split <;> simp_all

/-- n elements of a size. -/
def mulS (n sz : Nat) : Nat := match sz with
  | 1 => n
  | sz => n * sz
theorem mulS_eq (n sz : Nat) : mulS n sz = n * sz := by
  unfold mulS; split <;> simp
def offS (e : Option Nat) (m : Nat) : Nat := match e with
  | none => m
  | some e => e + m
theorem offS_eq (e : Option Nat) (m : Nat) : offS e m = e.getD 0 + m := by cases e <;> simp [offS]

theorem p_indexAddr {x y : Operand} {b o T len el : Nat} {e : Option Nat} {k : IntKind} {i : Int} {sz by_ : Nat} {z : D} {ei : TI} (j : Nat) (ht : E.tt T = some ⟨.arr len el, sz, by_, z⟩) (h3 : E.tt el = some ei)
    (hx : ev s x = some (.ptr b o e)) (hy : evI s y = some (k, i)) (hj : i = (j : Int)) (hi : j < len) : Pt E ⟨dst, .indexAddr T x y, ty, ps, af, gd⟩ s (.ptr b o (some (offS e (mulS j ei.size)))) := fun c ho w => by
  subst hj
  obtain ⟨d, hd, hm⟩ := tt_underlying ht
  simp only [TD.met] at hm
  subst hm
  obtain ⟨x', hx', hsz, _⟩ := tt_info h3
  have h1 : (0 : Int) ≤ (j : Int) := Int.natCast_nonneg j
  have h2 : (j : Int) < (len : Int) := by omega
  simp [execOp, ho.ev hx, ho.evI hy, D.val, Instr.indexAt, asIntOf, run_underlying hd, Instr.sureAddr, hi, sizeOf, typeInfo, hx', hsz, Addr.add_at, Nat.add_assoc, mulS_eq, offS_eq]

theorem p_indexAddr_sl {x y : Operand} {b off len cap T el : Nat} {k : IntKind} {i : Int} {sz by_ : Nat} {z : D} {ei : TI} (j : Nat) (ht : E.tt T = some ⟨.slice el, sz, by_, z⟩) (h3 : E.tt el = some ei)
    (hx : ev s x = some (.sl b off len cap)) (hy : evI s y = some (k, i)) (hj : i = (j : Int)) (hi : j < len) : Pt E ⟨dst, .indexAddr T x y, ty, ps, af, gd⟩ s (.ptr b off (some (mulS j ei.size))) := fun c ho w => by
  subst hj
  obtain ⟨d, hd, hm⟩ := tt_underlying ht
  simp only [TD.met] at hm
  subst hm
  obtain ⟨x', hx', hsz, _⟩ := tt_info h3
  have h1 : (0 : Int) ≤ (j : Int) := Int.natCast_nonneg j
  have h2 : (j : Int) < (len : Int) := by omega
  simp [execOp, ho.ev hx, ho.evI hy, D.val, Instr.indexAt, asIntOf, run_underlying hd, hi, sizeOf, typeInfo, hx', hsz, Addr.add_at, mulS_eq]

/-! ### Loads -/
theorem run_loadAt_lies (P : Program) (w : World) (T : TypeId) (b at_ : Nat) (cs : List Value) (ty : TypeId) (d : D) {i : TI} (hT : i.met P T) (hw : w.heap[b]? = some (.cells cs.toArray ty (0, 0))) (hl : Lies cs at_ d i.size i.td.ag) :
    (Instr.loadAt T (.pointer (some ⟨b, at_, none⟩))).run P w = .ok d.val w := by
  obtain ⟨h1, h2, h3, h4⟩ := hl
  obtain ⟨⟨td, hd, hm⟩, hi, _⟩ := hT
  have hc : w.rangeAt b at_ d.cells := fun j v hv => by
    have hj : j < i.size := by rw [← h2, ← D.length_cells]; exact (List.getElem?_eq_some_iff.1 hv).1
    rw [cell_of_row w b (at_ + j) _ ty (0, 0) hw]
    simp only [List.getElem?_toArray]
    rw [h1 j hj, hv]
  cases hag : i.td.ag with
  | true =>
    rw [hag] at h3
    rw [D.val_agg d h3]
    refine run_loadAt_mid w b at_ T d.cells td hc hd ?_ ?_
    · rw [TD.met_row hm, hag]
    · rw [D.length_cells, h2]
      cases hx : P.info? T with
      | none => simp [hx] at hi
      | some x => simp [hx] at hi; simp [hi.1]
  | false =>
    rw [hag] at h3
    obtain ⟨e1, e2⟩ := D.val_one d h3 h4
    have hag' : (isAgg T).run P w = .ok false w := by
      unfold isAgg
      rw [Sem.run_bind, run_underlying hd w]
      have hrow := TD.met_row hm
      rw [hag] at hrow
      cases td <;> first | rfl | (simp [TypeDesc.isRow] at hrow; done)
    have hcell : w.cell? ⟨b, at_, none⟩ = some d.val := by
      have := hc 0 d.val (by rw [e1]; rfl)
      simpa using this
    simp [Instr.loadAt, Instr.sureAddr, loadVar, hag', hcell]

theorem q_load {x : Operand} {b o T : Nat} {e : Option Nat} {i : TI} {d0 d : D} {C : Prop} (ht : E.tt T = some i) (hx : ev s x = some (.ptr b o e)) (hm : Ent.var b d0 ∈ s.hp) (hs : d0.sub o e i.size i.td.ag = some (C, d)) (hC : C) :
    Qt E ⟨dst, .load T x, ty, ps, af, gd⟩ s d := qt_of fun c w ho => by
  obtain ⟨hf, ty', hw⟩ := ho.hp.all _ hm
  have := run_loadAt_lies E.P w T b (o + e.getD 0) d0.cells ty' d (E.tok T i ht) hw (D.sub_lies _ _ _ _ _ _ _ hs hC)
  simp [execOp, ho.ev hx, D.val, this]
theorem q_load_r {x : Operand} {b o T : Nat} {e : Option Nat} {i : TI} {d0 d : D} {C : Prop} (ht : E.tt T = some i) (hx : ev s x = some (.ptr b o e)) (hm : Ent.rvar b d0 ∈ s.hp) (hs : d0.sub o e i.size i.td.ag = some (C, d)) (hC : C) :
    Qt E ⟨dst, .load T x, ty, ps, af, gd⟩ s d := qt_of fun c w ho => by
  obtain ⟨hf, ty', hw⟩ := ho.hp.all _ hm
  have := run_loadAt_lies E.P w T b (o + e.getD 0) d0.cells ty' d (E.tok T i ht) hw (D.sub_lies _ _ _ _ _ _ _ hs hC)
  simp [execOp, ho.ev hx, D.val, this]

/-- A slice's element, by its number. -/
def Rw.at : Rw → Nat → Option (Prop × D)
  | .ints k l, j => some (j < l.length, .int k (l.getD j 0))
  | .u8s l, j => some (j < l.length, .u8 (l.getD j 0))
  | .arrs m l, j => some (j < l.length, .arr8 m (l.getD j fun _ => 0))
  | .vals l h, j => some (j < l.length, .raw (l.getD j .nilFunc) (by
      rcases Nat.lt_or_ge j l.length with hj | hj
      · simp only [List.getD, List.getElem?_eq_getElem hj, Option.getD_some]; exact h _ (List.getElem_mem hj)
      · simp only [List.getD, List.getElem?_eq_none hj, Option.getD_none]; rfl))
def Rw.agB : Rw → Bool
  | .arrs _ _ => true
  | _ => false

theorem flatMap_getElem? {α : Type} (m : Nat) (f : α → List Value) (hf : ∀ a, (f a).length = m) : ∀ (l : List α) (j i : Nat), i < m → ∀ a, l[j]? = some a → (l.flatMap f)[j * m + i]? = (f a)[i]?
  | [], j, i, _, a, h => by simp at h
  | x :: r, 0, i, hi, a, h => by
    simp only [List.getElem?_cons_zero, Option.some.injEq] at h
    subst h
    simp only [Nat.zero_mul, Nat.zero_add, List.flatMap_cons]
    rw [List.getElem?_append_left (by rw [hf]; exact hi)]
  | x :: r, j + 1, i, hi, a, h => by
    simp only [List.getElem?_cons_succ] at h
    simp only [List.flatMap_cons]
    rw [List.getElem?_append_right (by rw [hf, Nat.add_mul]; omega), hf, show (j + 1) * m + i - m = j * m + i by rw [Nat.add_mul]; omega]
    exact flatMap_getElem? m f hf r j i hi a h

theorem Rw.at_lies {r : Rw} {j : Nat} {C : Prop} {d : D} (h : r.at j = some (C, d)) (hC : C) : Lies r.cells (j * r.size) d r.size r.agB ∧ j < r.len := by
  cases r with
  | ints k l =>
    simp only [Option.some.injEq, Prod.mk.injEq, Rw.at] at h
    obtain ⟨rfl, rfl⟩ := h
    refine ⟨⟨fun i hi => ?_, rfl, rfl, rfl⟩, hC⟩
    simp only [Rw.size] at hi
    obtain rfl : i = 0 := by omega
    simp only [List.getElem?_map, Rw.cells, Rw.size, D.cells, Nat.mul_one, Nat.add_zero, List.getElem?_cons_zero]
    rw [List.getElem?_eq_getElem hC]
    simp [List.getD, List.getElem?_eq_getElem hC]
  | u8s l =>
    simp only [Option.some.injEq, Prod.mk.injEq, Rw.at] at h
    obtain ⟨rfl, rfl⟩ := h
    refine ⟨⟨fun i hi => ?_, rfl, rfl, rfl⟩, hC⟩
    simp only [Rw.size] at hi
    obtain rfl : i = 0 := by omega
    simp only [List.getElem?_map, Rw.cells, Rw.size, D.cells, Nat.mul_one, Nat.add_zero, List.getElem?_cons_zero]
    rw [List.getElem?_eq_getElem hC]
    simp [List.getD, List.getElem?_eq_getElem hC]
  | arrs m l =>
    simp only [Rw.at, Option.some.injEq, Prod.mk.injEq] at h
    obtain ⟨rfl, rfl⟩ := h
    refine ⟨⟨fun i hi => ?_, rfl, rfl, rfl⟩, hC⟩
    simp only [Rw.size] at hi
    simp only [Rw.cells, Rw.size, D.cells]
    rw [flatMap_getElem? m (fun f : Nat → Fin 256 => (List.range m).map fun i => Value.int .u8 ((f i).val : Int)) (fun _ => by simp) l j i hi (l.getD j fun _ => 0) (by simp [List.getD, List.getElem?_eq_getElem hC])]
  | vals l hl =>
    simp only [Option.some.injEq, Prod.mk.injEq, Rw.at] at h
    obtain ⟨rfl, rfl⟩ := h
    refine ⟨⟨fun i hi => ?_, rfl, rfl, rfl⟩, hC⟩
    simp only [Rw.size] at hi
    obtain rfl : i = 0 := by omega
    simp only [Rw.cells, Rw.size, D.cells, Nat.mul_one, Nat.add_zero, List.getElem?_cons_zero]
    rw [List.getElem?_eq_getElem hC]
    simp [List.getD, List.getElem?_eq_getElem hC]

theorem run_loadAt_cells (P : Program) (w : World) (T : TypeId) (b at_ : Nat) (d : D) {i : TI} (hT : i.met P T) (hc : ∀ j, j < i.size → w.cell? ⟨b, at_ + j, none⟩ = d.cells[j]?) (h2 : d.size = i.size) (h3 : d.isAgg = i.td.ag) (h4 : d.flat = true) :
    (Instr.loadAt T (.pointer (some ⟨b, at_, none⟩))).run P w = .ok d.val w := by
  obtain ⟨⟨td, hd, hm⟩, hi, _⟩ := hT
  have hc : w.rangeAt b at_ d.cells := fun j v hv => by
    have hj : j < i.size := by rw [← h2, ← D.length_cells]; exact (List.getElem?_eq_some_iff.1 hv).1
    rw [hc j hj, hv]
  cases hag : i.td.ag with
  | true =>
    rw [hag] at h3
    rw [D.val_agg d h3]
    refine run_loadAt_mid w b at_ T d.cells td hc hd ?_ ?_
    · rw [TD.met_row hm, hag]
    · rw [D.length_cells, h2]
      cases hx : P.info? T with
      | none => simp [hx] at hi
      | some x => simp [hx] at hi; simp [hi.1]
  | false =>
    rw [hag] at h3
    obtain ⟨e1, e2⟩ := D.val_one d h3 h4
    have hag' : (isAgg T).run P w = .ok false w := by
      unfold isAgg
      rw [Sem.run_bind, run_underlying hd w]
      have hrow := TD.met_row hm
      rw [hag] at hrow
      cases td <;> first | rfl | (simp [TypeDesc.isRow] at hrow; done)
    have hcell : w.cell? ⟨b, at_, none⟩ = some d.val := by
      have := hc 0 d.val (by rw [e1]; rfl)
      simpa using this
    simp [Instr.loadAt, Instr.sureAddr, loadVar, hag', hcell]

theorem q_load_row {x : Operand} {b e cap EE T j : Nat} {i : TI} {r : Rw} {d : D} {C : Prop} (ht : E.tt T = some i) (hx : ev s x = some (.ptr b 0 (some e))) (hm : Ent.row b cap EE r ∈ s.hp) (he : e = mulS j i.size) (hs : r.at j = some (C, d)) (hC : C)
    (h2 : r.size = i.size) (h3 : r.agB = i.td.ag) : Qt E ⟨dst, .load T x, ty, ps, af, gd⟩ s d := qt_of fun c w ho => by
  rw [mulS_eq] at he
  have hrow : w.ownsRow 0 EE r.size (.slice (some ⟨b, 0, none⟩) r.len cap) r.len r.cells := ho.hp.all _ hm
  obtain ⟨⟨l1, l2, l3, l4⟩, hj⟩ := Rw.at_lies hs hC
  have := run_loadAt_cells E.P w T b (0 + e) d (E.tok T i ht) (fun q hq => by
    rw [← h2] at hq
    rw [World.ownsRow.cellAt hrow (0 + e + q) (by
      rw [he, ← h2]
      have : j * r.size + r.size ≤ r.len * r.size := by rw [← Nat.succ_mul]; exact Nat.mul_le_mul_right _ hj
      omega), he, ← h2, Nat.zero_add]
    exact l1 q hq) (by rw [l2, h2]) (by rw [l3, h3]) l4
  simp only [Nat.zero_add] at this
  simp [execOp, ho.ev hx, D.val, this]

theorem q_load_ro {x : Operand} {b e off T j : Nat} {i : TI} {r : Rw} {d : D} {C : Prop} (ht : E.tt T = some i) (hx : ev s x = some (.ptr b off (some e))) (hm : Ent.ro b off r ∈ s.hp) (he : e = mulS j i.size) (hs : r.at j = some (C, d)) (hC : C)
    (h2 : r.size = i.size) (h3 : r.agB = i.td.ag) : Qt E ⟨dst, .load T x, ty, ps, af, gd⟩ s d := qt_of fun c w ho => by
  rw [mulS_eq] at he
  have hrow : ∀ q v, r.cells[q]? = some v → w.cell? ⟨b, off + q, none⟩ = some v := (ho.hp.all _ hm).2
  obtain ⟨⟨l1, l2, l3, l4⟩, hj⟩ := Rw.at_lies hs hC
  have := run_loadAt_cells E.P w T b (off + e) d (E.tok T i ht) (fun q hq => by
    rw [← h2] at hq
    have h5 := l1 q hq
    have hlt : q < d.cells.length := by rw [D.length_cells, l2]; exact hq
    rw [List.getElem?_eq_getElem hlt] at h5 ⊢
    have h6 := hrow _ _ h5
    rw [show (off + e + q) = off + (j * r.size + q) by rw [he, h2]; omega]
    exact h6) (by rw [l2, h2]) (by rw [l3, h3]) l4
  simp [execOp, ho.ev hx, D.val, this]

/-! ### Parts of values -/
theorem p_index {x y : Operand} {T len el n : Nat} {k ke : IntKind} {f : Nat → Int} {k' : IntKind} {i : Int} {sz by_ sz' by_' : Nat} {z z' : D} (j : Nat) (ht : E.tt T = some ⟨.arr len el, sz, by_, z⟩) (h3 : E.tt el = some ⟨.int ke, sz', by_', z'⟩) (hs : Nat.beq sz' 1 = true)
    (hx : ev s x = some (.arr k n f)) (hy : evI s y = some (k', i)) (hj : i = (j : Int)) (hi : j < len) (hn : len ≤ n) : Pt E ⟨dst, .index T x y, ty, ps, af, gd⟩ s (.int k (f j)) := fun c ho w => by
  subst hj
  obtain ⟨d, hd, hm⟩ := tt_underlying ht
  obtain ⟨d', hd', hm'⟩ := tt_underlying h3
  simp only [TD.met] at hm hm'
  subst hm; subst hm'
  obtain ⟨x', hx', hsz, _⟩ := tt_info h3
  have hs1 : sz' = 1 := Nat.eq_of_beq_eq_true hs
  subst hs1
  have hag : (isAgg el).run E.P w = .ok false w := by unfold isAgg; rw [Sem.run_bind, run_underlying hd' w]; rfl
  have hlt : j < n := by omega
  simp [execOp, ho.ev hx, ho.evI hy, D.val, Instr.index, asIntOf, run_underlying hd, hi, part, hag, sizeOf, typeInfo, hx', hsz, hlt]
theorem p_index8 {x y : Operand} {T len el n : Nat} {ke : IntKind} {f : Nat → Fin 256} {k' : IntKind} {i : Int} {sz by_ sz' by_' : Nat} {z z' : D} (j : Nat) (ht : E.tt T = some ⟨.arr len el, sz, by_, z⟩) (h3 : E.tt el = some ⟨.int ke, sz', by_', z'⟩) (hs : Nat.beq sz' 1 = true)
    (hx : ev s x = some (.arr8 n f)) (hy : evI s y = some (k', i)) (hj : i = (j : Int)) (hi : j < len) (hn : len ≤ n) : Pt E ⟨dst, .index T x y, ty, ps, af, gd⟩ s (.u8 (f j)) := fun c ho w => by
  subst hj
  obtain ⟨d, hd, hm⟩ := tt_underlying ht
  obtain ⟨d', hd', hm'⟩ := tt_underlying h3
  simp only [TD.met] at hm hm'
  subst hm; subst hm'
  obtain ⟨x', hx', hsz, _⟩ := tt_info h3
  have hs1 : sz' = 1 := Nat.eq_of_beq_eq_true hs
  subst hs1
  have hag : (isAgg el).run E.P w = .ok false w := by unfold isAgg; rw [Sem.run_bind, run_underlying hd' w]; rfl
  have hlt : j < n := by omega
  simp [execOp, ho.ev hx, ho.evI hy, D.val, Instr.index, asIntOf, run_underlying hd, hi, part, hag, sizeOf, typeInfo, hx', hsz, hlt]
theorem p_index_b {x y : Operand} {T len el n : Nat} {f : Nat → Bool} {k' : IntKind} {i : Int} {sz by_ sz' by_' : Nat} {z z' : D} (j : Nat) (ht : E.tt T = some ⟨.arr len el, sz, by_, z⟩) (h3 : E.tt el = some ⟨.bool, sz', by_', z'⟩) (hs : Nat.beq sz' 1 = true)
    (hx : ev s x = some (.barr n f)) (hy : evI s y = some (k', i)) (hj : i = (j : Int)) (hi : j < len) (hn : len ≤ n) : Pt E ⟨dst, .index T x y, ty, ps, af, gd⟩ s (.bool (f j)) := fun c ho w => by
  subst hj
  obtain ⟨d, hd, hm⟩ := tt_underlying ht
  obtain ⟨d', hd', hm'⟩ := tt_underlying h3
  simp only [TD.met] at hm hm'
  subst hm; subst hm'
  obtain ⟨x', hx', hsz, _⟩ := tt_info h3
  have hs1 : sz' = 1 := Nat.eq_of_beq_eq_true hs
  subst hs1
  have hag : (isAgg el).run E.P w = .ok false w := by unfold isAgg; rw [Sem.run_bind, run_underlying hd' w]; rfl
  have hlt : j < n := by omega
  simp [execOp, ho.ev hx, ho.evI hy, D.val, Instr.index, asIntOf, run_underlying hd, hi, part, hag, sizeOf, typeInfo, hx', hsz, hlt]

theorem valL_getElem? : ∀ (l : List D) (j : Nat), (D.valL l)[j]? = (l[j]?).map D.val
  | [], j => by simp [D.valL]
  | d :: r, 0 => by simp [D.valL]
  | d :: r, j + 1 => by simp [D.valL, valL_getElem? r j]

theorem p_extract {x : Operand} {vs : List D} {j : Nat} {d : D} (hx : ev s x = some (.tup vs)) (hj : vs[j]? = some d) : Pt E ⟨dst, .extract x j, ty, ps, af, gd⟩ s d := fun c ho w => by
  simp [execOp, ho.ev hx, D.val, Instr.extract, valL_getElem?, hj]

theorem p_len {x : Operand} {b off len cap T el : Nat} {sz by_ : Nat} {z : D} {aty : Array TypeId} (haty : aty = #[T]) (ht : E.tt T = some ⟨.slice el, sz, by_, z⟩) (hx : ev s x = some (.sl b off len cap)) :
    Pt E ⟨dst, .call { callee := .builtin .len, args := #[x], argTypes := aty }, ty, ps, af, gd⟩ s (.int .i64 (len : Int)) := fun c ho w => by
  subst haty
  obtain ⟨d, hd, hm⟩ := tt_underlying ht
  simp only [TD.met] at hm
  subst hm
  simp [execOp, resolve, invoke, builtin, ho.ev hx, D.val, Builtin.len_, run_underlying hd, goInt]
theorem p_len_nil {x : Operand} {T el : Nat} {sz by_ : Nat} {z : D} {aty : Array TypeId} (haty : aty = #[T]) (ht : E.tt T = some ⟨.slice el, sz, by_, z⟩) (hx : ev s x = some (.raw (.slice none 0 0) rfl)) :
    Pt E ⟨dst, .call { callee := .builtin .len, args := #[x], argTypes := aty }, ty, ps, af, gd⟩ s (.int .i64 0) := fun c ho w => by
  subst haty
  obtain ⟨d, hd, hm⟩ := tt_underlying ht
  simp only [TD.met] at hm
  subst hm
  simp [execOp, resolve, invoke, builtin, ho.ev hx, D.val, Builtin.len_, run_underlying hd, goInt]
theorem p_len_s {x : Operand} {t : ByteArray} {T : Nat} {sz by_ : Nat} {z : D} {h : (Value.string t).oneCell' = true} {aty : Array TypeId} (haty : aty = #[T]) (ht : E.tt T = some ⟨.str, sz, by_, z⟩) (hx : ev s x = some (.raw (.string t) h)) :
    Pt E ⟨dst, .call { callee := .builtin .len, args := #[x], argTypes := aty }, ty, ps, af, gd⟩ s (.int .i64 (t.size : Int)) := fun c ho w => by
  subst haty
  obtain ⟨d, hd, hm⟩ := tt_underlying ht
  simp only [TD.met] at hm
  subst hm
  simp [execOp, resolve, invoke, builtin, ho.ev hx, D.val, Builtin.len_, run_underlying hd, goInt]

def evs (s : St) : List Operand → Option (List D)
  | [] => some []
  | x :: r => match ev s x, evs s r with
    | some d, some ds => some (d :: ds)
    | _, _ => none
theorem okT.evs {a : Act} (ho : okT E s a) : ∀ {xs : List Operand} {ds : List D}, evs s xs = some ds → xs.map a.eval = D.valL ds
  | [], ds, h => by simp [Gx.evs] at h; subst h; rfl
  | x :: r, ds, h => by
    simp only [Gx.evs] at h
    split at h
    · rename_i d ds' h1 h2
      simp only [Option.some.injEq] at h
      subst h
      simp only [List.map_cons, D.valL, ho.ev h1, ho.evs h2]
    · cases h

theorem ok.evs {a : Act} {w : World} (ho : ok E s a w) {xs : List Operand} {ds : List D} (h : evs s xs = some ds) : xs.map a.eval = D.valL ds := ho.t.evs h

def vals (ds : List D) : Array Value := (D.valL ds).toArray

theorem p_makeFunc {fn : Fn} {f c : List Operand} {ds es : List D} (h1 : evs s f = some ds) (h2 : evs s c = some es) :
    Pt E ⟨dst, .makeFunc fn f.toArray c.toArray, ty, ps, af, gd⟩ s (.raw (.func fn (vals ds) (vals es)) rfl) := fun a ho w => by
  simp [execOp, Instr.makeFunc, D.val, vals, ho.evs h1, ho.evs h2]

/-! ### Calls -/
def Enters (P : Program) (f : FuncId) : Prop := ∀ args w, (callFunc f args).run P w = .ok (.enter f args) w
theorem enters_of {P : Program} {f : FuncId} {fn : Func} (hf : P.funcs[f]? = some fn) (hb : fn.body.isNone = false) (hn : (fn.name == "runtime.NumGoroutine") = false) : Enters P f := fun args w => by
  have hp : (program : Sem Program).run P w = .ok P w := rfl
  simp only [callFunc, Sem.run_bind, hp, Result.andThen_ok, hf, hn, hb, Bool.false_eq_true, if_false, Sem.run_pure]

/-- A call that only reads: 'need' is what it must know of memory. -/
def CR (P : Program) (f : FuncId) (args : Array Value) (need : List Ent) (d : D) : Prop := ∀ w, HpOk need w → Calls P f args w (fun e w' => e = .returned d.val ∧ Below w.heap.size w w')

/-- What one may know of memory out of what one knows. -/
def View (hp need : List Ent) : Prop := ∀ w, HpOk hp w → HpOk need w
theorem View.none (hp : List Ent) : View hp [] := fun _ _ => ⟨by simp, by simp [wkeys], by simp [rkeys]⟩
theorem View.refl (hp : List Ent) : View hp hp := fun _ h => h

theorem q_call {f : FuncId} {xs : List Operand} {tys : Array TypeId} {ds : List D} {need : List Ent} {d : D} (hen : Enters E.P f) (hx : evs s xs = some ds) (hc : CR E.P f (vals ds) need d) (hv : View s.hp need) :
    Qt E ⟨dst, .call { callee := .value (.func f), args := xs.toArray, argTypes := tys }, ty, ps, af, gd⟩ s d := fun a w ho => by
  refine .inr ⟨f, vals ds, ?_, hc w (hv w ho.hp)⟩
  have e : a.eval (.func f) = .func (.func f) #[] #[] := rfl
  simp [execOp, resolve, e, Deferred.ofValue, invoke, ho.evs hx, vals]
  exact hen _ w

theorem q_callv {f : FuncId} {x : Operand} {first cap : Array Value} {h : (Value.func (.func f) first cap).oneCell' = true} {xs : List Operand} {tys : Array TypeId} {ds : List D} {need : List Ent} {d : D} (hen : Enters E.P f)
    (hf : ev s x = some (.raw (.func (.func f) first cap) h)) (hx : evs s xs = some ds) (hc : CR E.P f (first ++ vals ds ++ cap) need d) (hv : View s.hp need) :
    Qt E ⟨dst, .call { callee := .value x, args := xs.toArray, argTypes := tys }, ty, ps, af, gd⟩ s d := fun a w ho => by
  refine .inr ⟨f, first ++ vals ds ++ cap, ?_, hc w (hv w ho.hp)⟩
  simp [execOp, resolve, ho.ev hf, D.val, Deferred.ofValue, invoke, ho.evs hx, vals]
  exact hen _ w

end
end Gx
end Go.Proofs.Ytebcapplclgaead
