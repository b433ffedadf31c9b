/- The frame of this seat's proofs, part 5: slices, calls that make or write memory, a function's beginning and end; no conditions. -/
import Derived.Test.YtebcapplclgaeadGx4
namespace Go.Proofs.Ytebcapplclgaead
open Go
namespace Gx
open Go.RowKit (Below)

/-! ### Rows -/
def intsOf (k : IntKind) : List D → Option (List Int)
  | [] => some []
  | .int k' n :: r => if k' = k then (intsOf k r).map (n :: ·) else none
  | _ => none
def u8sOf : List D → Option (List (Fin 256))
  | [] => some []
  | .u8 n :: r => (u8sOf r).map (n :: ·)
  | _ => none
def arrsOf (m : Nat) : List D → Option (List (Nat → Fin 256))
  | [] => some []
  | .arr8 m' f :: r => if m' = m then (arrsOf m r).map (f :: ·) else none
  | _ => none
def oneB : D → Bool
  | .int _ _ => true
  | .u8 _ => true
  | .bool _ => true
  | .ptr _ _ _ => true
  | .sl _ _ _ _ => true
  | .raw _ _ => true
  | _ => false
theorem oneB_val : ∀ {d : D}, oneB d = true → d.val.oneCell' = true ∧ d.cells = [d.val]
  | .int _ _, _ => ⟨rfl, rfl⟩
  | .u8 _, _ => ⟨rfl, rfl⟩
  | .bool _, _ => ⟨rfl, rfl⟩
  | .ptr _ _ _, _ => ⟨rfl, rfl⟩
  | .sl _ _ _ _, _ => ⟨rfl, rfl⟩
  | .raw _ h, _ => ⟨h, rfl⟩
def valsOf : List D → Option { l : List Value // ∀ v ∈ l, v.oneCell' = true }
  | [] => some ⟨[], by simp⟩
  | d :: r => if h : oneB d = true then (valsOf r).map fun p => ⟨d.val :: p.1, by
      intro v hv
      rcases List.mem_cons.1 hv with rfl | hv
      · exact (oneB_val h).1
      · exact p.2 v hv⟩ else none
/-- The row of some elements; what kind of row the zero value tells. -/
def mkRw : D → List D → Option Rw
  | .int k _, ds => (intsOf k ds).map (.ints k)
  | .u8 _, ds => (u8sOf ds).map .u8s
  | .arr8 m _, ds => (arrsOf m ds).map (.arrs m)
  | .raw _ _, ds => (valsOf ds).map fun p => .vals p.1 p.2
  | _, _ => none

theorem intsOf_cells {k : IntKind} : ∀ {ds : List D} {l : List Int}, intsOf k ds = some l → ds.flatMap D.cells = l.map (Value.int k) ∧ ds.length = l.length
  | [], l, h => by simp [intsOf] at h; subst h; simp
  | .int k' n :: r, l, h => by
    simp only [intsOf] at h
    split at h
    · rename_i e; subst e
      cases hr : intsOf k' r with
      | none => simp [hr] at h
      | some l' =>
        simp only [hr, Option.map_some, Option.some.injEq] at h
        subst h
        have := intsOf_cells hr
        simp [List.flatMap_cons, D.cells, this.1, this.2]
    · cases h
  | .u8 _ :: _, l, h => by simp [intsOf] at h
  | .bool _ :: _, l, h => by simp [intsOf] at h
  | .arr _ _ _ :: _, l, h => by simp [intsOf] at h
  | .arr8 _ _ :: _, l, h => by simp [intsOf] at h
  | .barr _ _ :: _, l, h => by simp [intsOf] at h
  | .varr _ _ _ :: _, l, h => by simp [intsOf] at h
  | .ptr _ _ _ :: _, l, h => by simp [intsOf] at h
  | .sl _ _ _ _ :: _, l, h => by simp [intsOf] at h
  | .raw _ _ :: _, l, h => by simp [intsOf] at h
  | .agg _ :: _, l, h => by simp [intsOf] at h
  | .tup _ :: _, l, h => by simp [intsOf] at h
theorem u8sOf_cells : ∀ {ds : List D} {l : List (Fin 256)}, u8sOf ds = some l → ds.flatMap D.cells = (l.map fun x => Value.int .u8 (x.val : Int)) ∧ ds.length = l.length
  | [], l, h => by simp [u8sOf] at h; subst h; simp
  | .u8 n :: r, l, h => by
    simp only [u8sOf] at h
    cases hr : u8sOf r with
    | none => simp [hr] at h
    | some l' =>
      simp only [hr, Option.map_some, Option.some.injEq] at h
      subst h
      have := u8sOf_cells hr
      simp [List.flatMap_cons, D.cells, this.1, this.2]
  | .int _ _ :: _, l, h => by simp [u8sOf] at h
  | .bool _ :: _, l, h => by simp [u8sOf] at h
  | .arr _ _ _ :: _, l, h => by simp [u8sOf] at h
  | .arr8 _ _ :: _, l, h => by simp [u8sOf] at h
  | .barr _ _ :: _, l, h => by simp [u8sOf] at h
  | .varr _ _ _ :: _, l, h => by simp [u8sOf] at h
  | .ptr _ _ _ :: _, l, h => by simp [u8sOf] at h
  | .sl _ _ _ _ :: _, l, h => by simp [u8sOf] at h
  | .raw _ _ :: _, l, h => by simp [u8sOf] at h
  | .agg _ :: _, l, h => by simp [u8sOf] at h
  | .tup _ :: _, l, h => by simp [u8sOf] at h
theorem arrsOf_cells {m : Nat} : ∀ {ds : List D} {l : List (Nat → Fin 256)}, arrsOf m ds = some l → ds.flatMap D.cells = (l.flatMap fun f => (List.range m).map fun i => Value.int .u8 ((f i).val : Int)) ∧ ds.length = l.length
  | [], l, h => by simp [arrsOf] at h; subst h; simp
  | .arr8 m' f :: r, l, h => by
    simp only [arrsOf] at h
    split at h
    · rename_i e; subst e
      cases hr : arrsOf m' r with
      | none => simp [hr] at h
      | some l' =>
        simp only [hr, Option.map_some, Option.some.injEq] at h
        subst h
        have := arrsOf_cells hr
        simp [List.flatMap_cons, D.cells, this.1, this.2]
    · cases h
  | .int _ _ :: _, l, h => by simp [arrsOf] at h
  | .u8 _ :: _, l, h => by simp [arrsOf] at h
  | .bool _ :: _, l, h => by simp [arrsOf] at h
  | .arr _ _ _ :: _, l, h => by simp [arrsOf] at h
  | .barr _ _ :: _, l, h => by simp [arrsOf] at h
  | .varr _ _ _ :: _, l, h => by simp [arrsOf] at h
  | .ptr _ _ _ :: _, l, h => by simp [arrsOf] at h
  | .sl _ _ _ _ :: _, l, h => by simp [arrsOf] at h
  | .raw _ _ :: _, l, h => by simp [arrsOf] at h
  | .agg _ :: _, l, h => by simp [arrsOf] at h
  | .tup _ :: _, l, h => by simp [arrsOf] at h
theorem valsOf_cells : ∀ {ds : List D} {p : { l : List Value // ∀ v ∈ l, v.oneCell' = true }}, valsOf ds = some p → ds.flatMap D.cells = p.1 ∧ ds.length = p.1.length
  | [], p, h => by simp [valsOf] at h; subst h; simp
  | d :: r, p, h => by
    simp only [valsOf] at h
    split at h
    · rename_i hd
      cases hr : valsOf r with
      | none => simp [hr] at h
      | some q =>
        simp only [hr, Option.map_some, Option.some.injEq] at h
        subst h
        have := valsOf_cells hr
        simp [List.flatMap_cons, (oneB_val hd).2, this.1, this.2]
    · cases h
theorem mkRw_cells {z : D} {ds : List D} {r : Rw} (h : mkRw z ds = some r) : ds.flatMap D.cells = r.cells ∧ ds.length = r.len := by
  cases z <;> simp only [mkRw, Option.map_eq_some_iff] at h
  case int k n => obtain ⟨l, hl, rfl⟩ := h; exact intsOf_cells hl
  case u8 n => obtain ⟨l, hl, rfl⟩ := h; exact u8sOf_cells hl
  case arr8 m f => obtain ⟨l, hl, rfl⟩ := h; exact arrsOf_cells hl
  case raw v hv => obtain ⟨l, hl, rfl⟩ := h; exact valsOf_cells hl
  all_goals cases h

/-- Rows one behind the other. -/
def Rw.app : Rw → Rw → Option Rw
  | .ints k l, .ints k' l' => if k = k' then some (.ints k (l ++ l')) else none
  | .u8s l, .u8s l' => some (.u8s (l ++ l'))
  | .arrs m l, .arrs m' l' => if m = m' then some (.arrs m (l ++ l')) else none
  | .vals l h, .vals l' h' => some (.vals (l ++ l') (by intro v hv; rcases List.mem_append.1 hv with hv | hv; exact h v hv; exact h' v hv))
  | _, _ => none
theorem Rw.app_ok {r r' q : Rw} (h : r.app r' = some q) : q.cells = r.cells ++ r'.cells ∧ q.len = r.len + r'.len ∧ q.size = r.size ∧ r'.size = r.size := by
  cases r <;> cases r' <;> simp only [Rw.app] at h
  case ints.ints k l k' l' =>
    split at h
    · rename_i e; subst e
      simp only [Option.some.injEq] at h; subst h
      simp [Rw.cells, Rw.len, Rw.size]
    · cases h
  case u8s.u8s l l' =>
    simp only [Option.some.injEq] at h; subst h
    simp [Rw.cells, Rw.len, Rw.size]
  case arrs.arrs m l m' l' =>
    split at h
    · rename_i e; subst e
      simp only [Option.some.injEq] at h; subst h
      simp [Rw.cells, Rw.len, Rw.size]
    · cases h
  case vals.vals l hl l' hl' =>
    simp only [Option.some.injEq] at h; subst h
    simp [Rw.cells, Rw.len, Rw.size]
  all_goals cases h

theorem spl_end (cs new tl : List Value) : spl (cs ++ tl) cs.length new = cs ++ new ++ tl.drop new.length := by
  unfold spl
  rw [List.take_left', List.drop_append, List.drop_eq_nil_of_le (by omega)]
  · simp
  · rfl

theorem fill_all (m : Nat) : ∀ (ds : List D) (i0 : Nat) (cs : List Value), (∀ d ∈ ds, d.flat = true ∧ d.size = m) → cs.length = (i0 + ds.length) * m →
    ∀ pds : List (Nat × D), pds.map (·.1) = List.range' i0 ds.length → pds.map (·.2) = ds →
    Instr.fill (fun i => some (i * m, m)) cs.toArray (pds.map fun p => (p.1, p.2.val)) = some (cs.take (i0 * m) ++ ds.flatMap D.cells).toArray
  | [], i0, cs, _, hl, pds, h1, h2 => by
    have : pds = [] := by simpa using h2
    subst this
    have e : cs.take (i0 * m) = cs := List.take_of_length_le (by simpa using Nat.le_of_eq hl)
    simp [Instr.fill, e]
  | d :: r, i0, cs, hd, hl, pds, h1, h2 => by
    cases pds with
    | nil => simp at h2
    | cons p pds =>
      obtain ⟨i, d'⟩ := p
      simp only [List.map_cons, List.length_cons, List.range'_succ, List.cons.injEq] at h1 h2
      obtain ⟨rfl, h1⟩ := h1
      obtain ⟨rfl, h2⟩ := h2
      obtain ⟨hf, hs⟩ := hd d' (by simp)
      simp only [List.length_cons] at hl
      have hmul : (i + (r.length + 1)) * m = i * m + m + r.length * m := by rw [Nat.add_mul, Nat.add_mul]; omega
      have hc : d'.cells.length = m := by rw [D.length_cells, hs]
      have hset := foldl_set d'.cells 0 (i * m) cs.toArray (by simp only [List.size_toArray, Nat.add_zero, hc]; omega)
      simp only [Nat.add_zero] at hset
      simp only [List.map_cons, Instr.fill, D.val_cells d' hf, List.size_toArray, hc]
      rw [if_neg (by simp; omega)]
      have e1 : (d'.cells.toArray.zipIdx.foldl (fun cs (c, j) => cs.setIfInBounds (i * m + j) c) cs.toArray) = (spl cs (i * m) d'.cells).toArray := by
        rw [← Array.foldl_toList]
        simpa using hset
      rw [e1]
      have hlen : (spl cs (i * m) d'.cells).length = cs.length := by
        simp only [spl, List.length_append, List.length_take, List.length_drop, hc]; omega
      rw [fill_all m r (i + 1) _ (fun d hd' => hd d (by simp [hd'])) (by rw [hlen, hl]; congr 1; omega) pds h1 h2]
      have e2 : (spl cs (i * m) d'.cells).take ((i + 1) * m) = cs.take (i * m) ++ d'.cells := by
        unfold spl
        rw [List.take_append_of_le_length (by simp only [List.length_append, List.length_take, hc, Nat.add_mul]; omega)]
        rw [List.take_of_length_le (by simp only [List.length_append, List.length_take, hc, Nat.add_mul]; omega)]
      rw [e2]
      simp [List.flatMap_cons, List.append_assoc]

section
variable {E : Env} {s : St} {ty : TypeId} {ps : String} {af : Array Edge} {gd : Option (Nat × Bool)} {K : St → Prop} {k : Nat}

theorem x_buildSlice {T el len : Nat} {ei : TI} {sz by_ : Nat} {z : D} {parts : List (Nat × Operand)} {pds : List (Nat × D)} {r : Rw} (ht : E.tt T = some ⟨.slice el, sz, by_, z⟩) (h3 : E.tt el = some ei)
    (hp : evp s parts = some pds) (h1 : pds.map (·.1) = List.range' 0 len) (h2 : pds.all (fun p => p.2.flat && Nat.beq p.2.size ei.size) = true) (hmk : mkRw ei.zero (pds.map (·.2)) = some r) (hrs : r.size = ei.size) (hz : Nat.beq ei.size 0 = false)
    (hle : len * ei.size ≤ 16777216) (hk : k < E.n)
    (h : ∀ b, K ⟨(k, .sl b 0 len len) :: s.tm, .row b len el r :: s.hp⟩) : Xt E ⟨some k, .buildSlice T len parts.toArray, ty, ps, af, gd⟩ s K := xt_value fun a w ho => by
  obtain ⟨d, hd, hm⟩ := tt_underlying ht
  simp only [TD.met] at hm
  subst hm
  obtain ⟨x, hx, hxs, hxb, hxz⟩ := tt_info h3
  obtain ⟨_, _, hzf, hzs, _⟩ := E.tok el _ h3
  obtain ⟨hc, hl⟩ := mkRw_cells hmk
  have hlen : (pds.map (·.2)).length = len := by
    have := congrArg List.length h1
    simpa using this
  have hel : ∀ d ∈ pds.map (·.2), d.flat = true ∧ d.size = ei.size := by
    intro d hd
    obtain ⟨p, hp1, rfl⟩ := List.mem_map.1 hd
    have := List.all_eq_true.1 h2 p hp1
    simp only [Bool.and_eq_true, Nat.beq_eq] at this
    exact this
  have hne : ¬ ei.size = 0 := fun e => by rw [e] at hz; cases hz
  let zc : List Value := ((Array.range (len * ei.size)).map (fun i => ei.zero.cells.toArray[i % ei.zero.cells.toArray.size]!)).toList
  have hzl : zc.length = (0 + (pds.map (·.2)).length) * ei.size := by simp [zc, hlen]
  have hfill := fill_all ei.size (pds.map (·.2)) 0 zc hel hzl pds (by rw [h1, hlen]) rfl
  have hprog : (program : Sem Program).run E.P w = .ok E.P w := rfl
  have hrow : (w.alloc (.cells r.cells.toArray el)).ownsRow 0 el r.size (.slice (some ⟨w.heap.size, 0, none⟩) r.len len) r.len r.cells := by
    have h0 := World.ownsRow_lit (base := 0) (e := el) (size := r.size) w r.cells.toArray len (Nat.zero_le _) (by unfold maxLen; have : len ≤ len * ei.size := Nat.le_mul_of_pos_right _ (by omega); omega) (by
      simp only [List.size_toArray, Rw.length_cells, ← hl, hlen])
    rw [hlen] at hl
    subst hl
    exact h0
  refine ⟨_, _, ?_, _, h w.heap.size, ((ho.more (new := [.row w.heap.size len el r]) ((Below.refl _ _).alloc (Nat.le_refl _) (.cells r.cells.toArray el))
    ⟨fun e he => by simp only [List.mem_singleton] at he; subst he; exact hrow, by simp [wkeys, Ent.wkey], by simp [rkeys, Ent.rkey]⟩ rfl (by simp [wkeys, Ent.wkey])).put (d := .sl w.heap.size 0 len len) hk)⟩
  have hev := ho.evp hp
  have hle' : ¬ 2 ^ 24 < len * ei.size := by omega
  simp only [execOp, Instr.buildSlice, Sem.run_bind, run_underlying hd, Result.andThen_ok, sizeOf, typeInfo, hprog, hx, Sem.run_pure, hxs, gt_iff_lt, hle', if_false]
  have hzv : (zeroValue el).run E.P w = .ok ei.zero.val w := by simp [zeroValue, typeInfo, hprog, hx, hxz]
  have hzB : Array.map (fun i => ei.zero.cells.toArray[i % ei.zero.cells.toArray.size]!) (Array.range (len * ei.size)) = zc.toArray := by simp only [zc, Array.toArray_toList]
  have hzA : len * ei.size = 0 → Array.map (fun i => (#[] : Array Value)[i % (#[] : Array Value).size]!) (Array.range (len * ei.size)) = zc.toArray := fun h0 => by
    rw [← hzB, h0]; simp
  simp only [List.map_toArray, hev]
  by_cases h0 : len * ei.size = 0
  · rw [if_pos h0]
    simp only [Sem.run_bind, Sem.run_pure, Result.andThen_ok]
    rw [hzA h0, hfill]
    simp [hc, newRow, D.val]
  · rw [if_neg h0]
    simp only [Sem.run_bind, Sem.run_pure, Result.andThen_ok, hzv, D.val_cells _ hzf]
    rw [hzB, hfill]
    simp [hc, newRow, D.val]

/-- Something at the end of a row: the source is a row of this call's. -/
theorem run_append_rows (P : Program) (w : World) (T el : Nat) (ty' : TypeId) {ei : TI} (hd : P.underlying T = some (.slice el)) (h3 : ei.met P el) (hz : Nat.beq ei.size 0 = false)
    (v : Value) (n : Nat) (xs : List Value) (hown : w.ownsRow 0 el ei.size v n xs) (ad : Addr) (m c : Nat) (news : List Value) (hl : news.length = m * ei.size) (hnews : ∀ j u, news[j]? = some u → w.cell? (ad.add j) = some u)
    (h1 : ∀ u ∈ news, u.oneCell' = true) (hm : 0 < m) (hb : (n + m) * ei.bytes ≤ 140737488355328) (hb2 : n + m ≤ 140737488355328) :
    ∃ g cap w', (Builtin.append_ #[T, T] ty' #[v, .slice (some ad) m c]).run P w = .ok (.slice (some ⟨g, 0, none⟩) (n + m) cap) w' ∧
      w'.ownsRow 0 el ei.size (.slice (some ⟨g, 0, none⟩) (n + m) cap) (n + m) (xs ++ news) ∧ w.grownBy w' v.ownBlock ∧ (v.ownBlock = some g ∨ g = w.heap.size) := by
  obtain ⟨_, hi, hzf, hzs, _⟩ := h3
  cases hx : P.info? el with
  | none => simp [hx] at hi
  | some x =>
    simp [hx] at hi
    obtain ⟨g, cap, w', r1, r2, r3, r4, _⟩ := run_append_lies (P := P) w T ty' 0 el x ei.zero.val ei.size ei.bytes hd hx hi.2.2 hi.1 hi.2.1 (by rw [D.val_cells _ hzf]; simp [D.length_cells, hzs])
      (Nat.pos_of_ne_zero fun e => by rw [e] at hz; cases hz) v n xs hown ad m c news hl hnews h1 hm (by unfold maxLen; omega) hb (Nat.zero_le _) w.heap.size rfl
    exact ⟨g, cap, w', r1, r2, r3, r4⟩

theorem x_append {T el b b2 off2 cap c2 EE n m : Nat} {x y : Operand} {ei : TI} {sz by_ : Nat} {z : D} {r r2 q : Rw} {tys : Array TypeId} {hp' : Nat → Nat → List Ent} (htys : tys = #[T, T]) (ht : E.tt T = some ⟨.slice el, sz, by_, z⟩) (h3 : E.tt el = some ei) (hz : Nat.beq ei.size 0 = false)
    (hx : ev s x = some (.sl b 0 n cap)) (hy : ev s y = some (.sl b2 off2 m c2)) (hr : ∀ b' cap', HpRep (.row b cap el r) (.row b' cap' el q) s.hp (hp' b' cap')) (hr2 : (Ent.row b2 c2 EE r2 ∈ s.hp ∧ off2 = 0) ∨ Ent.ro b2 off2 r2 ∈ s.hp) (hq : r.app r2 = some q)
    (hn : n = r.len) (hm : m = r2.len) (hm0 : 0 < m)
    (hrs : r.size = ei.size) (hb : (n + m) * ei.bytes ≤ 140737488355328) (hb2 : n + m ≤ 140737488355328) (hk : k < E.n)
    (h : ∀ b' cap', K ⟨(k, .sl b' 0 (n + m) cap') :: s.tm, hp' b' cap'⟩) :
    Xt E ⟨some k, .call { callee := .builtin .append, args := #[x, y], argTypes := tys }, ty, ps, af, gd⟩ s K := xt_value fun a w ho => by
  subst htys; subst hm; subst hn
  obtain ⟨d, hd, hm⟩ := tt_underlying ht
  simp only [TD.met] at hm
  subst hm
  obtain ⟨q1, q2, q3, q4⟩ := Rw.app_ok hq
  have hown : w.ownsRow 0 el r.size (.slice (some ⟨b, 0, none⟩) r.len cap) r.len r.cells := ho.hp.all _ (hr 0 0).mem
  rw [hrs] at hown q3 q4
  have hsrc : ∀ j u, r2.cells[j]? = some u → w.cell? ((⟨b2, off2, none⟩ : Addr).add j) = some u := fun j u hu => by
    rw [Addr.add_at]
    rcases hr2 with ⟨hr2, rfl⟩ | hr2
    · have h2 : w.ownsRow 0 EE r2.size (.slice (some ⟨b2, 0, none⟩) r2.len c2) r2.len r2.cells := ho.hp.all _ hr2
      have := h2.cells (g := b2) rfl j u hu
      rwa [Addr.add_at] at this
    · exact (ho.hp.all _ hr2).2 j u hu
  obtain ⟨g, cap', w', r1, r2', r3, r4⟩ := run_append_rows E.P w T el ty hd (E.tok el ei h3) hz _ _ _ hown ⟨b2, off2, none⟩ r2.len c2 r2.cells (by rw [Rw.length_cells, q4]) hsrc (Rw.oneCell r2) hm0 hb hb2
  have hown' : w'.ownsRow 0 el q.size (.slice (some ⟨g, 0, none⟩) q.len cap') q.len q.cells := by
    rw [q1, q2, q3]; exact r2'
  refine ⟨_, w', ?_, _, h g cap', ((ho.rep (b := b) (b' := g) (hr g cap') rfl rfl rfl rfl hown' (fun j hj hne => r3.block j hj (by simpa [Value.ownBlock] using hne)) ?_ r3.os r3.tape r3.output r3.size).put (d := .sl g 0 (r.len + r2.len) cap') hk)⟩
  · simp only [execOp, resolve, invoke, builtin, Sem.run_bind, Sem.run_pure, Result.andThen_ok, List.map_toArray, List.map_cons, List.map_nil, ho.ev hx, ho.ev hy, D.val, r1]
  · rcases r4 with r4 | r4
    · left; simpa [Value.ownBlock] using r4.symm
    · right; omega

theorem x_append_nil {T el b2 off2 c2 EE m : Nat} {x y : Operand} {ei : TI} {sz by_ : Nat} {z : D} {r2 : Rw} {tys : Array TypeId} (htys : tys = #[T, T]) (ht : E.tt T = some ⟨.slice el, sz, by_, z⟩) (h3 : E.tt el = some ei) (hz : Nat.beq ei.size 0 = false)
    (hx : ev s x = some (.raw (.slice none 0 0) rfl)) (hy : ev s y = some (.sl b2 off2 m c2)) (hr2 : (Ent.row b2 c2 EE r2 ∈ s.hp ∧ off2 = 0) ∨ Ent.ro b2 off2 r2 ∈ s.hp) (hm : m = r2.len) (hm0 : 0 < m)
    (hrs : r2.size = ei.size) (hb : m * ei.bytes ≤ 140737488355328) (hb2 : m ≤ 140737488355328) (hk : k < E.n)
    (h : ∀ b' cap', K ⟨(k, .sl b' 0 r2.len cap') :: s.tm, .row b' cap' el r2 :: s.hp⟩) :
    Xt E ⟨some k, .call { callee := .builtin .append, args := #[x, y], argTypes := tys }, ty, ps, af, gd⟩ s K := xt_value fun a w ho => by
  subst htys; subst hm
  obtain ⟨d, hd, hm⟩ := tt_underlying ht
  simp only [TD.met] at hm
  subst hm
  have hsrc : ∀ j u, r2.cells[j]? = some u → w.cell? ((⟨b2, off2, none⟩ : Addr).add j) = some u := fun j u hu => by
    rw [Addr.add_at]
    rcases hr2 with ⟨hr2, rfl⟩ | hr2
    · have h2 : w.ownsRow 0 EE r2.size (.slice (some ⟨b2, 0, none⟩) r2.len c2) r2.len r2.cells := ho.hp.all _ hr2
      have := h2.cells (g := b2) rfl j u hu
      rwa [Addr.add_at] at this
    · exact (ho.hp.all _ hr2).2 j u hu
  obtain ⟨g, cap', w', r1, r2', r3, r4⟩ := run_append_rows E.P w T el ty hd (E.tok el ei h3) hz _ _ _ (World.ownsRow_nil w 0 el ei.size) ⟨b2, off2, none⟩ r2.len c2 r2.cells (by rw [Rw.length_cells, hrs]) hsrc (Rw.oneCell r2) hm0 (by simpa using hb) (by simpa using hb2)
  simp only [Nat.zero_add, List.nil_append] at r1 r2'
  have hg : w.heap.size ≤ g := by
    rcases r4 with r4 | r4
    · simp [Value.ownBlock] at r4
    · omega
  have hbel : Below w.heap.size w w' := ⟨r3.os, r3.tape, r3.output, r3.size, fun j hj => r3.block j hj (by simp [Value.ownBlock])⟩
  refine ⟨_, w', ?_, _, h g cap', ((ho.more (new := [.row g cap' el r2]) hbel
    ⟨fun e he => by simp only [List.mem_singleton] at he; subst he; rw [← hrs] at r2'; exact r2', by simp [wkeys, Ent.wkey], by simp [rkeys, Ent.rkey]⟩ rfl (by simpa [wkeys, Ent.wkey] using hg)).put (d := .sl g 0 r2.len cap') hk)⟩
  simp only [execOp, resolve, invoke, builtin, Sem.run_bind, Sem.run_pure, Result.andThen_ok, List.map_toArray, List.map_cons, List.map_nil, ho.ev hx, ho.ev hy, D.val, r1]

/-! ### A store into a row -/
def Rw.set : Rw → Nat → D → Option Rw
  | .ints k l, j, .int k' n => if k' = k then some (.ints k (l.set j n)) else none
  | .u8s l, j, .u8 n => some (.u8s (l.set j n))
  | .arrs m l, j, .arr8 m' f => if m' = m then some (.arrs m (l.set j f)) else none
  | _, _, _ => none

/-! ### Calls that make memory -/
/-- A call that makes memory and turns none: its value and the new entries. -/
def CF (P : Program) (f : FuncId) (args : Array Value) (need : List Ent) (post : D → List Ent → Prop) : Prop := ∀ w, HpOk need w → Calls P f args w (fun e w' => ∃ d new, post d new ∧ e = .returned d.val ∧ HpOk new w' ∧ rkeys new = [] ∧ Below w.heap.size w w' ∧ ∀ b ∈ wkeys new, w.heap.size ≤ b)

theorem x_callF {f : FuncId} {xs : List Operand} {tys : Array TypeId} {ds : List D} {need : List Ent} {post : D → List Ent → Prop} (hen : Enters E.P f) (hx : evs s xs = some ds) (hc : CF E.P f (vals ds) need post) (hv : View s.hp need) (hk : k < E.n)
    (h : ∀ d new, post d new → K ⟨(k, d) :: s.tm, new ++ s.hp⟩) : Xt E ⟨some k, .call { callee := .value (.func f), args := xs.toArray, argTypes := tys }, ty, ps, af, gd⟩ s K := fun a w ho Kw Q hKw => by
  have e : a.eval (.func f) = .func (.func f) #[] #[] := rfl
  have hrun : (execOp a.eval ⟨some k, .call { callee := .value (.func f), args := xs.toArray, argTypes := tys }, ty, ps, af, gd⟩).run E.P w = .ok (.enter f (vals ds)) w := by
    simp [execOp, resolve, e, Deferred.ofValue, invoke, ho.evs hx, vals]
    exact hen _ w
  unfold Oper.wp
  rw [hrun]
  simp only [Oper.upon_enter]
  refine (hc w (hv w ho.hp)).mono fun e w' ⟨d, new, hp, he, hn, hr, hb, hf⟩ => ?_
  subst he
  exact hKw _ _ _ (h d new hp) ((ho.more hb hn hr hf).put (d := d) hk)

/-- A call that hands back a new slice. -/
def FR (P : Program) (f : FuncId) (args : Array Value) (need : List Ent) (EE : Nat) (r : Rw) : Prop := CF P f args need fun d new => ∃ b cap, d = .sl b 0 r.len cap ∧ new = [.row b cap EE r]
theorem x_callRow {f : FuncId} {xs : List Operand} {tys : Array TypeId} {ds : List D} {need : List Ent} {EE len : Nat} {r : Rw} (hen : Enters E.P f) (hx : evs s xs = some ds) (hc : FR E.P f (vals ds) need EE r) (hv : View s.hp need) (hl : r.len = len) (hk : k < E.n)
    (h : ∀ b cap, K ⟨(k, .sl b 0 len cap) :: s.tm, .row b cap EE r :: s.hp⟩) : Xt E ⟨some k, .call { callee := .value (.func f), args := xs.toArray, argTypes := tys }, ty, ps, af, gd⟩ s K :=
  x_callF hen hx hc hv hk fun d new ⟨b, cap, h1, h2⟩ => by subst h1; subst h2; subst hl; exact h b cap

/-- A call that turns one entry. -/
def CW (P : Program) (f : FuncId) (args : Array Value) (e : Ent) (need : List Ent) (post : D → Ent → List Ent → Prop) : Prop := ∀ w, HpOk (e :: need) w → Calls P f args w (fun en w' => ∃ d e' new b b', post d e' new ∧ en = .returned d.val ∧
  e.wkey = [b] ∧ e'.wkey = [b'] ∧ e'.rkey = [] ∧ e.rkey = [] ∧ HpOk (e' :: new) w' ∧ rkeys new = [] ∧ w'.os = w.os ∧ w'.tape = w.tape ∧ w'.output = w.output ∧ w.heap.size ≤ w'.heap.size ∧ (∀ q, q < w.heap.size → q ≠ b → w'.heap[q]? = w.heap[q]?) ∧ (b' = b ∨ w.heap.size ≤ b') ∧ ∀ x ∈ wkeys new, w.heap.size ≤ x)

/-! ### A function's beginning and end -/
inductive ResOk (E : Env) (s : St) : ResultVar → D → Prop
  | tmp {t : Tmp} {d : D} (h : get s.tm t = some d) : ResOk E s (.tmp t) d
  | cell {t : Tmp} {T b o : Nat} {e : Option Nat} {i : TI} {d0 d : D} {C : Prop} (ht : E.tt T = some i) (hx : get s.tm t = some (.ptr b o e)) (hm : Ent.var b d0 ∈ s.hp) (hs : d0.sub o e i.size i.td.ag = some (C, d)) (hC : C) : ResOk E s (.cell t T) d

inductive ResL (E : Env) (s : St) : List ResultVar → List D → Prop
  | nil : ResL E s [] []
  | cons {r : ResultVar} {d : D} {rs : List ResultVar} {ds : List D} (h : ResOk E s r d) (hr : ResL E s rs ds) : ResL E s (r :: rs) (d :: ds)

def resD : List D → D
  | [d] => d
  | ds => .tup ds

def resOf (tmps : Array Value) : ResultVar → Sem Value
  | .tmp t => pure (tmps.getD t undef)
  | .cell a t => do loadVar t (← asAddr (tmps.getD a undef))

theorem ResOk.run {a : Act} {w : World} (ho : ok E s a w) {r : ResultVar} {d : D} (h : ResOk E s r d) : (resOf a.tmps r).run E.P w = .ok d.val w := by
  cases h with
  | tmp h =>
    have := (ho.tm _ _ h).2
    simp [resOf, this]
  | @cell t T b o e i d0 d C ht hx hm hs hC =>
    have h1 := (ho.tm _ _ hx).2
    obtain ⟨hf, ty', hw⟩ := ho.hp.all _ hm
    have := run_loadAt_lies E.P w T b (o + e.getD 0) d0.cells ty' d (E.tok T i ht) hw (D.sub_lies _ _ _ _ _ _ _ hs hC)
    simp only [Instr.loadAt, Instr.sureAddr, Sem.run_bind, Sem.run_pure, Result.andThen_ok] at this
    simp [resOf, h1, D.val, asAddr, this]

theorem ResL.run {a : Act} {w : World} (ho : ok E s a w) : ∀ {rs : List ResultVar} {ds : List D}, ResL E s rs ds → (rs.mapM (resOf a.tmps)).run E.P w = .ok (D.valL ds) w
  | [], _, .nil => by simp [D.valL]
  | r :: rs, _, .cons h hr => by
    have h1 := h.run ho
    have h2 := ResL.run ho hr
    simp only [List.mapM_cons, Sem.run_bind, h1, Result.andThen_ok, h2, Sem.run_pure, D.valL]

theorem length_valL : ∀ l : List D, (D.valL l).length = l.length
  | [] => rfl
  | d :: r => by simp [D.valL, length_valL r]

theorem results_run {a : Act} {w : World} (ho : ok E s a w) {fn : Func} {rs : List ResultVar} {ds : List D} (hf : fn.results = rs.toArray) (h : ResL E s rs ds) : (results fn a.tmps).run E.P w = .ok (resD ds).val w := by
  have h2 := ResL.run ho h
  have e : results fn a.tmps = (do
      let vs ← fn.results.mapM (resOf a.tmps)
      pure (if h : vs.size = 1 then vs[0] else .tuple vs)) := by
    unfold results
    rfl
  rw [e, hf, Array.mapM_eq_mapM_toList]
  simp only [Sem.run_bind, Sem.run_map, h2, Result.andThen_ok, Sem.run_pure]
  cases ds with
  | nil => simp [D.valL, resD, D.val]
  | cons d r =>
    cases r with
    | nil => simp [D.valL, resD]
    | cons d2 r2 => simp [D.valL, resD, D.val]

/-- The frame at a call. -/
def tmOf : Nat → List D → List (Nat × D)
  | _, [] => []
  | i, d :: r => (i, d) :: tmOf (i + 1) r
theorem get_tmOf : ∀ (ds : List D) (i j : Nat), get (tmOf i ds) j = if i ≤ j then ds[j - i]? else none
  | [], i, j => by simp [tmOf, get]
  | d :: r, i, j => by
    simp only [tmOf, get_cons]
    by_cases h : i = j
    · subst h; simp
    · rw [if_neg h, get_tmOf r (i + 1) j]
      by_cases h2 : i ≤ j
      · rw [if_pos (by omega), if_pos h2, show j - i = (j - (i + 1)) + 1 by omega, List.getElem?_cons_succ]
      · rw [if_neg (by omega), if_neg h2]

def retQ (K : St → Prop) : Exit → St → Prop
  | .normal, s => K s
  | .ret, s => K s
  | _, _ => False

theorem FR_post {E : Env} {s : St} {rs : List ResultVar} {b n cap EE : Nat} {r : Rw} (h : ResL E s rs [.sl b 0 n cap]) (hm : Ent.row b cap EE r ∈ s.hp) (hn : n = r.len) :
    ∃ ds' new, ResL E s rs ds' ∧ (∃ b cap, resD ds' = .sl b 0 r.len cap ∧ new = [.row b cap EE r]) ∧ HpSub new s.hp ∧ rkeys new = [] := by
  subst hn
  refine ⟨_, [.row b cap EE r], h, ⟨b, cap, rfl, rfl⟩, ?_, rfl⟩
  obtain ⟨l, q, hsp⟩ := List.append_of_mem hm
  rw [hsp]
  clear hsp hm h
  induction l with
  | nil => exact .keep rfl rfl (fun _ h => h) .nil
  | cons x l ih => exact .drop ih

theorem ok_enter {P : Program} {tt : Nat → Option TI} {tok : ∀ t i, tt t = some i → i.met P t} {n : Nat} {w : World} {ds : List D} {need : List Ent} (hn : ds.length ≤ n) (hh : HpOk need w) (B0 : List Nat) (hB : ∀ b ∈ wkeys need, b ∈ B0) :
    ok ⟨P, tt, tok, n, w, B0⟩ ⟨tmOf 0 ds, need⟩ { tmps := vals ds ++ Array.replicate (n - (vals ds).size) undef, defers := [] } w where
  size := by simp [vals, length_valL]; omega
  defers := rfl
  tm := fun j d hj => by
    rw [get_tmOf] at hj
    simp only [Nat.zero_le, if_true, Nat.sub_zero] at hj
    have hlt : j < ds.length := (List.getElem?_eq_some_iff.1 hj).1
    refine ⟨Nat.lt_of_lt_of_le hlt hn, ?_⟩
    rw [Array.getElem?_append_left (by simpa [vals, length_valL] using hlt)]
    simp [vals, valL_getElem?, hj]
  hp := hh
  fr := ⟨rfl, rfl, rfl, Nat.le_refl _, fun _ _ _ => rfl, fun b hb => .inl (hB b hb)⟩

/-- THE PROOF OF A CALL THAT ONLY READS. -/
theorem CR_intro {P : Program} (tt : Nat → Option TI) (tok : ∀ t i, tt t = some i → i.met P t) {f : FuncId} {fn : Func} {c : Code} {rs : List ResultVar} {ds : List D} {need : List Ent} {d : D} (hf : P.funcs[f]? = some fn) (hb : fn.body = some c)
    (hr : fn.results = rs.toArray) (hn : Nat.ble ds.length fn.ntmps = true) (hw : wkeys need = [])
    (h : ∀ w, W ⟨P, tt, tok, fn.ntmps, w, []⟩ c (retQ fun s => ∃ ds', ResL ⟨P, tt, tok, fn.ntmps, w, []⟩ s rs ds' ∧ (resD ds').val = d.val) ⟨tmOf 0 ds, need⟩) : CR P f (vals ds) need d := fun w hh => by
  refine calls_of_wp hf hb (wp_mono ((h w).out _ w (ok_enter (by simpa using hn) hh [] (by simp [hw]))) ?_)
  rintro e a w' ⟨s', q, o⟩
  have fin : (∃ ds', ResL ⟨P, tt, tok, fn.ntmps, w, []⟩ s' rs ds' ∧ (resD ds').val = d.val) → bodyPost P fn (fun e w' => e = .returned d.val ∧ Below w.heap.size w w') .normal a w' := fun ⟨ds', h1, h2⟩ =>
    ⟨o.defers, d.val, by rw [← h2]; exact results_run o hr h1, rfl, o.fr.os, o.fr.tape, o.fr.output, o.fr.size, fun j hj => o.fr.block j hj (by simp)⟩
  cases e with
  | normal => exact fin q
  | ret => exact fin q
  | exit id => exact q.elim
  | goto l => exact q.elim
  | panic ch => exact q.elim
  | outgrown => exact q.elim

/-- THE PROOF OF A CALL THAT MAKES MEMORY. -/
theorem CF_intro {P : Program} (tt : Nat → Option TI) (tok : ∀ t i, tt t = some i → i.met P t) {f : FuncId} {fn : Func} {c : Code} {rs : List ResultVar} {ds : List D} {need : List Ent} {post : D → List Ent → Prop} (hf : P.funcs[f]? = some fn) (hb : fn.body = some c)
    (hr : fn.results = rs.toArray) (hn : Nat.ble ds.length fn.ntmps = true) (hw : wkeys need = [])
    (h : ∀ w, W ⟨P, tt, tok, fn.ntmps, w, []⟩ c (retQ fun s => ∃ ds' new, ResL ⟨P, tt, tok, fn.ntmps, w, []⟩ s rs ds' ∧ post (resD ds') new ∧ HpSub new s.hp ∧ rkeys new = []) ⟨tmOf 0 ds, need⟩) : CF P f (vals ds) need post := fun w hh => by
  refine calls_of_wp hf hb (wp_mono ((h w).out _ w (ok_enter (by simpa using hn) hh [] (by simp [hw]))) ?_)
  rintro e a w' ⟨s', q, o⟩
  have fin : (∃ ds' new, ResL ⟨P, tt, tok, fn.ntmps, w, []⟩ s' rs ds' ∧ post (resD ds') new ∧ HpSub new s'.hp ∧ rkeys new = []) → bodyPost P fn (fun e w' => ∃ d new, post d new ∧ e = .returned d.val ∧ HpOk new w' ∧ rkeys new = [] ∧ Below w.heap.size w w' ∧ ∀ b ∈ wkeys new, w.heap.size ≤ b) .normal a w' :=
    fun ⟨ds', new, h1, h2, h3, h4⟩ =>
    ⟨o.defers, _, results_run o hr h1, _, new, h2, rfl, ⟨h3.ok o.hp.all, o.hp.nodup.sublist h3.keys.1, fun b hb => by rw [h4] at hb; cases hb⟩, h4,
      ⟨o.fr.os, o.fr.tape, o.fr.output, o.fr.size, fun j hj => o.fr.block j hj (by simp)⟩, fun b hb => (o.fr.own b (h3.keys.1.subset hb)).resolve_left (by simp)⟩
  cases e with
  | normal => exact fin q
  | ret => exact fin q
  | exit id => exact q.elim
  | goto l => exact q.elim
  | panic ch => exact q.elim
  | outgrown => exact q.elim

end
theorem m0 {α : Type} {a : α} {l : List α} : a ∈ a :: l := .head _
theorem m1 {α : Type} {a x : α} {l : List α} : a ∈ x :: a :: l := .tail _ m0
theorem m2 {α : Type} {a x y : α} {l : List α} : a ∈ x :: y :: a :: l := .tail _ m1
theorem m3 {α : Type} {a x y z : α} {l : List α} : a ∈ x :: y :: z :: a :: l := .tail _ m2
theorem m4 {α : Type} {a x y z u : α} {l : List α} : a ∈ x :: y :: z :: u :: a :: l := .tail _ m3
theorem m5 {α : Type} {a x y z u v : α} {l : List α} : a ∈ x :: y :: z :: u :: v :: a :: l := .tail _ m4
theorem m6 {α : Type} {a x y z u v w : α} {l : List α} : a ∈ x :: y :: z :: u :: v :: w :: a :: l := .tail _ m5
theorem m7 {α : Type} {a x y z u v w p : α} {l : List α} : a ∈ x :: y :: z :: u :: v :: w :: p :: a :: l := .tail _ m6
theorem veq_int {k : IntKind} {a b : Int} (h : a = b) : (D.int k a).val = (D.int k b).val := by rw [h]
theorem veq_bool {a b : Bool} (h : a = b) : (D.bool a).val = (D.bool b).val := by rw [h]
theorem veq_u8 {a b : Fin 256} (h : a = b) : (D.u8 a).val = (D.u8 b).val := by rw [h]
theorem veq_arr8 {n : Nat} {f g : Nat → Fin 256} (h : ∀ i, i < n → f i = g i) : (D.arr8 n f).val = (D.arr8 n g).val := by
  have e : (List.range n).map (fun i => Value.int .u8 ((f i).val : Int)) = (List.range n).map (fun i => Value.int .u8 ((g i).val : Int)) := List.map_congr_left fun i hi => by rw [h i (List.mem_range.1 hi)]
  simp only [D.val, e]
theorem ceq_arr8 {n : Nat} {f g : Nat → Fin 256} (h : ∀ i, i < n → f i = g i) : (D.arr8 n f).cells = (D.arr8 n g).cells :=
  List.map_congr_left fun i hi => by rw [h i (List.mem_range.1 hi)]
theorem ceq_barr {n : Nat} {f g : Nat → Bool} (h : ∀ i, i < n → f i = g i) : (D.barr n f).cells = (D.barr n g).cells :=
  List.map_congr_left fun i hi => by rw [h i (List.mem_range.1 hi)]
theorem imp_var {b : Nat} {d d' : D} (h : d.cells = d'.cells) (hf : d'.flat = true) : ∀ w, (Ent.var b d).ok w → (Ent.var b d').ok w := fun _ ⟨_, ty, ht⟩ => ⟨hf, ty, by rw [← h]; exact ht⟩
theorem imp_row {b cap EE : Nat} {r r' : Rw} (h : r = r') : ∀ w, (Ent.row b cap EE r).ok w → (Ent.row b cap EE r').ok w := fun _ ho => by rw [← h]; exact ho
end Gx
end Go.Proofs.Ytebcapplclgaead
