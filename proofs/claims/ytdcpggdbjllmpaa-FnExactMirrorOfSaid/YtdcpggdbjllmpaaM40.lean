/- The mirror of a term. No conditions but those in the statements. -/
import Derived.Test.YtdcpggdbjllmpaaM33
import Derived.Test.YtdcpggdbjllmpaaGx32
namespace Go.Proofs.Ytdcpggdbjllmpaa
open Gx
set_option linter.unusedVariables false
def swp (c : Fin 256) : Fin 256 := if c = 47 then 92 else if c = 92 then 47 else c
def mjT (c : Fin 256) (x y : List (Fin 256)) : List (Fin 256) := (y ++ x) ++ [swp c]
abbrev mrS (l : List (Fin 256)) (i : Nat) : List (List (Fin 256)) := fldS lfT mjT [] l i
def mrT (l : List (Fin 256)) : List (Fin 256) := (mrS l l.length).getD 0 []
theorem mrS_wt {l : List (Fin 256)} (h : isTerm l = true) {i : Nat} (hi : i ≤ l.length) : wtL (mrS l i) ≤ 200 := by
  have h1 := fld_wt (leaf := lfT) (join := mjT) (fun c => by simp [lfT]) (fun c x y => by simp [mjT]; omega) h hi
  have := term_len h
  show wtL (fldS lfT mjT [] l i) ≤ 200
  omega
theorem mrS_ne {l : List (Fin 256)} (h : isTerm l = true) {i : Nat} (hi : i ≤ l.length) : ∀ x ∈ mrS l i, 1 ≤ x.length :=
  fld_all (P := fun x : List (Fin 256) => 1 ≤ x.length) (fun c _ => by simp [lfT]) (fun c x y _ hx hy => by simp [mjT]; omega) h hi
theorem mrS_get {l : List (Fin 256)} (h : isTerm l = true) {i d j : Nat} (hi : i ≤ l.length) (hd : dep l i = some d) (hj : j < d) : 1 ≤ ((mrS l i).getD j []).length ∧ ((mrS l i).getD j []).length ≤ 200 := by
  have hm := fld_get (leaf := lfT) (join := mjT) (z := []) h hi hd hj
  exact ⟨mrS_ne h hi _ hm, Nat.le_trans (wtL_mem hm) (mrS_wt h hi)⟩
theorem mrT_len {l : List (Fin 256)} (h : isTerm l = true) : 1 ≤ (mrT l).length ∧ (mrT l).length ≤ 200 := mrS_get h (Nat.le_refl _) (term_end h) (by omega)
theorem bsnd {S : SB} {M : List (List (Fin 256))} (h : S.map (·.2) = M) (j : Nat) : (S.getD j bd).2 = M.getD j [] := by
  subst h
  simp only [List.getD, List.getElem?_map]
  cases S[j]? <;> rfl
theorem bsn_len {S : SB} {M : List (List (Fin 256))} (h : S.map (·.2) = M) : S.length = M.length := by rw [← h, List.length_map]
/-- The stack on the way. -/
structure MrP (l : List (Fin 256)) (i : Nat) (S : SB) : Prop where
  eq : S.map (·.2) = mrS l i
theorem MrP.leaf {l : List (Fin 256)} {i : Nat} {S : SB} (h : MrP l i S) (hl : leafB (l.getD i 0) = true) (u : V1) : MrP l (i + 1) (S ++ [(u, [l.getD i 0])]) := ⟨by rw [List.map_append, h.eq]; exact (fld_leaf hl).symm⟩
theorem MrP.op {l : List (Fin 256)} {i : Nat} {S : SB} {li : List (Fin 256)} (h : MrP l i S) (hl : operB (l.getD i 0) = true) (u : V1) (e : li = ((S.getD (S.length - 1) bd).2 ++ (S.getD (S.length - 2) bd).2) ++ [swp (l.getD i 0)]) : MrP l (i + 1) (S.take (S.length - 2) ++ [(u, li)]) := ⟨by
  have hn := bsn_len h.eq
  rw [List.map_append, List.map_take, h.eq]
  refine Eq.trans ?_ (fld_op hl).symm
  rw [← hn, e, bsnd h.eq, bsnd h.eq]; rfl⟩
theorem MrP.len {l : List (Fin 256)} {i d : Nat} {S : SB} (h : MrP l i S) (hT : isTerm l = true) (hi : i ≤ l.length) (hd : dep l i = some d) : S.length = d := by rw [bsn_len h.eq]; exact fld_len hT hi hd
theorem MrP.get {l : List (Fin 256)} {i d j : Nat} {S : SB} (h : MrP l i S) (hT : isTerm l = true) (hi : i ≤ l.length) (hd : dep l i = some d) (hj : j < d) : 1 ≤ (S.getD j bd).2.length ∧ (S.getD j bd).2.length ≤ 200 := by rw [bsnd h.eq]; exact mrS_get hT hi hd hj
theorem MrP.end {l : List (Fin 256)} {S : SB} (h : MrP l l.length S) : (S.getD 0 bd).2 = mrT l := by rw [bsnd h.eq]; rfl
/-- What is answered for a side t of the identity l = m. -/
def mmT (l m t : List (Fin 256)) : List (Fin 256) := bif isTerm l && isTerm m then mrT t else []
theorem mmT_t {l m : List (Fin 256)} (h : (isTerm l && isTerm m) = true) (t : List (Fin 256)) : mmT l m t = mrT t := by unfold mmT; rw [h]; rfl
theorem mmT_f {l m : List (Fin 256)} (h : (isTerm l && isTerm m) = false) (t : List (Fin 256)) : mmT l m t = [] := by unfold mmT; rw [h]; rfl
theorem mmT_len (l m : List (Fin 256)) : (mmT l m l).length ≤ 200 ∧ (mmT l m m).length ≤ 200 := by
  cases h : (isTerm l && isTerm m) with
  | false => rw [mmT_f h, mmT_f h]; simp
  | true =>
    rw [mmT_t h, mmT_t h]
    rw [Bool.and_eq_true] at h
    exact ⟨(mrT_len h.1).2, (mrT_len h.2).2⟩
end Go.Proofs.Ytdcpggdbjllmpaa
