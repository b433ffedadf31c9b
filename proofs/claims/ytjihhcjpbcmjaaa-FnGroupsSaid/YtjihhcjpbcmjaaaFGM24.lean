/- Squares of which some places are empty, as lists of lists of numbers. No conditions but those in the statements. Candidates for an empty place. No conditions but those in the statements. Forced places, filled one behind the other. No conditions but those in the statements. -/
import Derived.Test.YtjihhcjpbcmjaaaFGM14
import Derived.Test.YtjihhcjpbcmjaaaFGM12
import Derived.Test.YtjihhcjpbcmjaaaFGGx20
namespace Go.Proofs.Ytjihhcjpbcmjaaa
open Gx
set_option linter.unusedVariables false
abbrev at2 (L : SL) (i j : Nat) : Int := (L.getD i sd).2.getD j 0
abbrev ln2 (L : SL) (i : Nat) : Nat := (L.getD i sd).2.length
def nd2 (L : SL) (i j k : Nat) : Prop := ¬ (0 ≤ at2 L i j ∧ at2 L i j = at2 L i k) ∧ ¬ (0 ≤ at2 L j i ∧ at2 L j i = at2 L k i)
def ParL (L : SL) : Prop := (1 ≤ L.length ∧ L.length ≤ 10) ∧ (∀ i, i < L.length → ln2 L i = L.length) ∧ (∀ i j, i < L.length → j < L.length → -1 ≤ at2 L i j ∧ at2 L i j ≤ (L.length : Int) - 1) ∧
  ∀ i j k, i < L.length → j < L.length → k < j → nd2 L i j k
noncomputable def isPar (L : SL) : Bool := @decide (ParL L) (Classical.propDecidable _)
theorem of_isPar {L : SL} (h : isPar L = true) : ParL L := @of_decide_eq_true _ (Classical.propDecidable _) h
theorem isPar_t {L : SL} (h : ParL L) : true = isPar L := (@decide_eq_true _ (Classical.propDecidable _) h).symm
theorem at2_eq {L M : SL} (h : L.map (·.2) = M.map (·.2)) (i j : Nat) : at2 L i j = at2 M i j := by unfold at2; rw [snd_getD h i]
theorem ln2_eq {L M : SL} (h : L.map (·.2) = M.map (·.2)) (i : Nat) : ln2 L i = ln2 M i := by unfold ln2; rw [snd_getD h i]
theorem isPar_eq {L M : SL} (h : L.map (·.2) = M.map (·.2)) : isPar L = isPar M := by
  unfold isPar
  congr 1
  unfold ParL nd2
  simp only [at2_eq h, ln2_eq h, snd_len h]
/-! ### Sizes -/
/-! ### Copies -/
/-! ### The rows and columns as sets -/
def gC (L : SL) (i j : Nat) : Fin 256 := if at2 L i j = -1 then 255 else Fin.ofNat 256 (at2 L i j).toNat
/-! ### What is known of the places ahead of (i, j) -/
structure ParA (L : SL) (i j : Nat) : Prop where
  l : ∀ a, a < i → ln2 L a = L.length
  r : ∀ a b, ((a < i ∧ b < L.length) ∨ (a = i ∧ b < j)) → -1 ≤ at2 L a b ∧ at2 L a b ≤ (L.length : Int) - 1
  x : ∀ a b c, ((a < i ∧ b < L.length) ∨ (a = i ∧ b < j)) → c < b → ¬ (0 ≤ at2 L a b ∧ at2 L a b = at2 L a c)
  y : ∀ a b c, ((a < i ∧ b < L.length) ∨ (a = i ∧ b < j)) → c < a → ¬ (0 ≤ at2 L a b ∧ at2 L a b = at2 L c b)
theorem ParA.zero {L : SL} : ParA L 0 0 := ⟨fun a h => by omega, fun a b h => by omega, fun a b c h => by omega, fun a b c h => by omega⟩
theorem ParA.row {L : SL} {i : Nat} (h : ParA L i L.length) (hl : ln2 L i = L.length) : ParA L (i + 1) 0 :=
  ⟨fun a ha => if e : a = i then e ▸ hl else h.l a (by omega), fun a b hh => h.r a b (by omega), fun a b c hh => h.x a b c (by omega), fun a b c hh => h.y a b c (by omega)⟩
theorem ParA.step {L : SL} {i j : Nat} (h : ParA L i j) (hr : -1 ≤ at2 L i j ∧ at2 L i j ≤ (L.length : Int) - 1) (hx : ∀ c, c < j → ¬ (0 ≤ at2 L i j ∧ at2 L i j = at2 L i c)) (hy : ∀ c, c < i → ¬ (0 ≤ at2 L i j ∧ at2 L i j = at2 L c j)) : ParA L i (j + 1) := by
  refine ⟨h.l, fun a b hh => ?_, fun a b c hh hc => ?_, fun a b c hh hc => ?_⟩
  all_goals
    by_cases e : a = i ∧ b = j
    · obtain ⟨rfl, rfl⟩ := e
      first | exact hr | exact hx c hc | exact hy c hc
    · first | exact h.r a b (by omega) | exact h.x a b c (by omega) hc | exact h.y a b c (by omega) hc
theorem ParA.end {L : SL} (h : ParA L L.length 0) (hn : 1 ≤ L.length ∧ L.length ≤ 10) : ParL L :=
  ⟨hn, h.l, fun i j hi hj => h.r i j (by omega), fun i j k hi hj hk => ⟨h.x i j k (by omega) hk, h.y j i k (by omega) hk⟩⟩
/-- The cells of a square that is in order. -/
noncomputable def cT (L : SL) : Nat → Fin 256 := part L.length (gC L) L.length 0
end Go.Proofs.Ytjihhcjpbcmjaaa
namespace Go.Proofs.Ytjihhcjpbcmjaaa
open Gx
set_option linter.unusedVariables false
def candP (L : SL) (i j : Nat) (v : Nat) : Prop := ∀ k, k < L.length → ¬ (at2 L i k = (v : Int)) ∧ ¬ (at2 L k j = (v : Int))
noncomputable def candB (L : SL) (i j : Nat) (v : Nat) : Bool := @decide (candP L i j v) (Classical.propDecidable _)
theorem cand_eq {L M : SL} (h : L.map (·.2) = M.map (·.2)) (i j : Nat) : candB L i j = candB M i j := by
  funext v
  unfold candB
  congr 1
  unfold candP
  simp only [at2_eq h, snd_len h]
end Go.Proofs.Ytjihhcjpbcmjaaa
namespace Go.Proofs.Ytjihhcjpbcmjaaa
open Gx
set_option linter.unusedVariables false
/-! ### One place laid -/
def setS (M : SL) (i j : Nat) (v : Int) : SL := M.set i ((M.getD i sd).1, (M.getD i sd).2.set j v)
theorem setS_len {M : SL} {i j : Nat} {v : Int} : (setS M i j v).length = M.length := by simp [setS]
theorem setS_get {M : SL} {i j : Nat} {v : Int} (hi : i < M.length) (a : Nat) : ((setS M i j v).getD a sd).2 = if a = i then (M.getD i sd).2.set j v else (M.getD a sd).2 := by
  unfold setS
  simp only [List.getD, List.getElem?_set]
  by_cases h : i = a
  · subst h; simp [hi]
  · rw [if_neg h, if_neg (fun e => h e.symm)]
theorem setS_ln {M : SL} {i j : Nat} {v : Int} (hi : i < M.length) (a : Nat) : ln2 (setS M i j v) a = ln2 M a := by
  unfold ln2
  rw [setS_get hi]
  split
  · rename_i h; subst h; simp
  · rfl
theorem setS_at {M : SL} {i j : Nat} {v : Int} (hi : i < M.length) (hj : j < ln2 M i) (a b : Nat) : at2 (setS M i j v) a b = if a = i ∧ b = j then v else at2 M a b := by
  unfold at2
  rw [setS_get hi]
  by_cases ha : a = i
  · subst ha
    rw [if_pos rfl]
    have hj' : j < (M.getD a sd).2.length := hj
    clear hj
    generalize (M.getD a sd).2 = l at *
    by_cases hb : b = j
    · subst hb; rw [if_pos ⟨rfl, rfl⟩]; simp [List.getD, hj']
    · rw [if_neg (fun e => hb e.2)]
      simp only [List.getD, List.getElem?_set]
      rw [if_neg (fun e => hb e.symm)]
  · rw [if_neg ha, if_neg (fun e => ha e.1)]
theorem setS_map {M N : SL} (h : M.map (·.2) = N.map (·.2)) (i j : Nat) (v : Int) : (setS M i j v).map (·.2) = (setS N i j v).map (·.2) := by
  unfold setS
  rw [List.map_set, List.map_set, h, snd_getD h i]
theorem set_par {M : SL} {i j v : Nat} (h : ParL M) (hi : i < M.length) (hj : j < M.length) (he : at2 M i j < 0) (hv : v < M.length) (hc : candP M i j v) : ParL (setS M i j (v : Int)) := by
  obtain ⟨h1, h2, h3, h4⟩ := h
  have hl : (setS M i j (v : Int)).length = M.length := setS_len
  have hat : ∀ a b, at2 (setS M i j (v : Int)) a b = if a = i ∧ b = j then (v : Int) else at2 M a b := setS_at hi (by rw [h2 i hi]; exact hj)
  refine ⟨by rw [hl]; exact h1, fun a ha => by rw [hl] at *; rw [setS_ln hi]; exact h2 a ha, fun a b ha hb => ?_, fun a b c ha hb hc2 => ?_⟩
  · rw [hl] at *
    rw [hat]
    split
    · omega
    · exact h3 a b ha hb
  · rw [hl] at ha hb
    have h5 := h4 a b c ha hb hc2
    have q1 := hc c (by omega)
    have q2 := hc b hb
    have q3 := hc c (by omega)
    unfold nd2 at *
    rw [hat, hat, hat, hat]
    refine ⟨fun hh => ?_, fun hh => ?_⟩
    · by_cases e1 : a = i ∧ b = j
      · rw [if_pos e1, if_neg (by omega)] at hh
        obtain ⟨rfl, rfl⟩ := e1
        exact q1.1 hh.2.symm
      · rw [if_neg e1] at hh
        by_cases e2 : a = i ∧ c = j
        · rw [if_pos e2] at hh
          obtain ⟨rfl, rfl⟩ := e2
          exact q2.1 hh.2
        · rw [if_neg e2] at hh; exact h5.1 hh
    · by_cases e1 : b = i ∧ a = j
      · rw [if_pos e1, if_neg (by omega)] at hh
        obtain ⟨rfl, rfl⟩ := e1
        exact q1.2 hh.2.symm
      · rw [if_neg e1] at hh
        by_cases e2 : c = i ∧ a = j
        · rw [if_pos e2] at hh
          obtain ⟨rfl, rfl⟩ := e2
          exact q2.2 hh.2
        · rw [if_neg e2] at hh; exact h5.2 hh
/-! ### The cells of it -/
/-! ### The first of a kind -/
def ffrom (P : Nat → Bool) : Nat → Nat → Option Nat
  | 0, _ => none
  | f + 1, k => if P k = true then some k else ffrom P f (k + 1)
theorem ffrom_some {P : Nat → Bool} {q : Nat} (hq : P q = true) : ∀ (f k : Nat), k ≤ q → q < k + f → (∀ p, k ≤ p → p < q → P p = false) → ffrom P f k = some q
  | 0, k, h1, h2, _ => by omega
  | f + 1, k, h1, h2, h3 => by
    unfold ffrom
    by_cases e : k = q
    · subst e; rw [if_pos hq]
    · rw [if_neg (by rw [h3 k (Nat.le_refl _) (by omega)]; decide)]
      exact ffrom_some hq f (k + 1) (by omega) (by omega) fun p hp hp2 => h3 p (by omega) hp2
theorem ffrom_none {P : Nat → Bool} : ∀ (f k : Nat), (∀ p, k ≤ p → p < k + f → P p = false) → ffrom P f k = none
  | 0, _, _ => rfl
  | f + 1, k, h => by
    unfold ffrom
    rw [if_neg (by rw [h k (Nat.le_refl _) (by omega)]; decide)]
    exact ffrom_none f (k + 1) fun p hp hp2 => h p (by omega) (by omega)
theorem ffrom_spec {P : Nat → Bool} {q : Nat} : ∀ (f k : Nat), ffrom P f k = some q → k ≤ q ∧ q < k + f ∧ P q = true ∧ ∀ p, k ≤ p → p < q → P p = false
  | 0, _, h => by cases h
  | f + 1, k, h => by
    unfold ffrom at h
    split at h
    · rename_i hp
      obtain rfl : k = q := by simpa using h
      exact ⟨Nat.le_refl _, by omega, hp, fun p h1 h2 => by omega⟩
    · rename_i hp
      obtain ⟨h1, h2, h3, h4⟩ := ffrom_spec f (k + 1) h
      exact ⟨by omega, by omega, h3, fun p h5 h6 => if e : p = k then by subst e; simpa using hp else h4 p (by omega) h6⟩
theorem ffrom_nspec {P : Nat → Bool} : ∀ (f k : Nat), ffrom P f k = none → ∀ p, k ≤ p → p < k + f → P p = false
  | 0, _, _, p, h1, h2 => by omega
  | f + 1, k, h, p, h1, h2 => by
    unfold ffrom at h
    split at h
    · cases h
    · rename_i hp
      by_cases e : p = k
      · subst e; simpa using hp
      · exact ffrom_nspec f (k + 1) h p (by omega) (by omega)
/-! ### Forced places -/
noncomputable def fcL (M : SL) (q : Nat) : List Int := filt (candB M (q / M.length) (q % M.length)) M.length
noncomputable def fq (M : SL) (q : Nat) : Bool := decide (at2 M (q / M.length) (q % M.length) < 0) && decide ((fcL M q).length = 1)
noncomputable def stepF (M : SL) : Option Nat := ffrom (fq M) (M.length * M.length) 0
noncomputable def nxtF (M : SL) : SL := match stepF M with
  | none => M
  | some q => setS M (q / M.length) (q % M.length) ((fcL M q).getD 0 0)
noncomputable def iterF : Nat → SL → SL
  | 0, M => M
  | k + 1, M => iterF k (nxtF M)
theorem fcL_eq {M N : SL} (h : M.map (·.2) = N.map (·.2)) (q : Nat) : fcL M q = fcL N q := by unfold fcL; rw [snd_len h, cand_eq h]
theorem fq_eq {M N : SL} (h : M.map (·.2) = N.map (·.2)) : fq M = fq N := by
  funext q; unfold fq; rw [fcL_eq h, snd_len h, at2_eq h]
theorem stepF_eq {M N : SL} (h : M.map (·.2) = N.map (·.2)) : stepF M = stepF N := by unfold stepF; rw [fq_eq h, snd_len h]
theorem nxtF_eq {M N : SL} (h : M.map (·.2) = N.map (·.2)) : (nxtF M).map (·.2) = (nxtF N).map (·.2) := by
  unfold nxtF
  rw [stepF_eq h]
  split
  · exact h
  · rw [fcL_eq h, snd_len h]; exact setS_map h _ _ _
theorem iterF_eq : ∀ (k : Nat) {M N : SL}, M.map (·.2) = N.map (·.2) → (iterF k M).map (·.2) = (iterF k N).map (·.2)
  | 0, _, _, h => h
  | k + 1, _, _, h => iterF_eq k (nxtF_eq h)
theorem iterF_add : ∀ (k m : Nat) (M : SL), iterF (k + m) M = iterF m (iterF k M)
  | 0, m, M => by rw [Nat.zero_add]; rfl
  | k + 1, m, M => by rw [Nat.succ_add]; exact iterF_add k m (nxtF M)
theorem iterF_stop {M : SL} (h : stepF M = none) : ∀ k, iterF k M = M
  | 0 => rfl
  | k + 1 => by
    have : nxtF M = M := by unfold nxtF; rw [h]
    show iterF k (nxtF M) = M
    rw [this]; exact iterF_stop h k
theorem filt_get {P : Nat → Bool} : ∀ k, (filt P k).length = 1 → ∃ v : Nat, (filt P k).getD 0 0 = (v : Int) ∧ v < k ∧ P v = true
  | 0, h => by simp [filt] at h
  | k + 1, h => by
    unfold filt at *
    by_cases hp : P k = true
    · rw [if_pos hp] at *
      have h0 : filt P k = [] := List.length_eq_zero_iff.1 (by simpa using h)
      rw [h0]
      exact ⟨k, rfl, by omega, hp⟩
    · rw [if_neg hp, List.append_nil] at *
      obtain ⟨v, h1, h2, h3⟩ := filt_get k h
      exact ⟨v, h1, by omega, h3⟩
theorem div_mod_lt {n q : Nat} (h : q < n * n) : q / n < n ∧ q % n < n := by
  have hn : 0 < n := by
    rcases Nat.eq_zero_or_pos n with e | e
    · subst e; simp at h
    · exact e
  exact ⟨Nat.div_lt_of_lt_mul h, Nat.mod_lt _ hn⟩
theorem step_spec {M : SL} {q : Nat} (h : stepF M = some q) : q / M.length < M.length ∧ q % M.length < M.length ∧ at2 M (q / M.length) (q % M.length) < 0 ∧ (fcL M q).length = 1 ∧ ∃ v : Nat, (fcL M q).getD 0 0 = (v : Int) ∧ v < M.length ∧ candP M (q / M.length) (q % M.length) v := by
  obtain ⟨h1, h2, h3, h4⟩ := ffrom_spec _ _ h
  obtain ⟨d1, d2⟩ := div_mod_lt (n := M.length) (q := q) (by omega)
  unfold fq at h3
  simp only [Bool.and_eq_true, decide_eq_true_eq] at h3
  obtain ⟨v, e1, e2, e3⟩ := filt_get _ h3.2
  exact ⟨d1, d2, h3.1, h3.2, v, e1, e2, @of_decide_eq_true _ (Classical.propDecidable _) e3⟩
theorem nxtF_some {M : SL} {q : Nat} (h : stepF M = some q) : nxtF M = setS M (q / M.length) (q % M.length) ((fcL M q).getD 0 0) := by unfold nxtF; rw [h]
theorem nxtF_par {M : SL} (hM : ParL M) : ParL (nxtF M) := by
  cases h : stepF M with
  | none => unfold nxtF; rw [h]; exact hM
  | some q =>
    rw [nxtF_some h]
    obtain ⟨h1, h2, h3, h4, v, h5, h6, h7⟩ := step_spec h
    rw [h5]
    exact set_par hM h1 h2 h3 h6 h7
/-! ### How many are empty -/
def cntB (P : Nat → Bool) : Nat → Nat
  | 0 => 0
  | k + 1 => cntB P k + (if P k = true then 1 else 0)
theorem cntB_le (P : Nat → Bool) : ∀ k, cntB P k ≤ k
  | 0 => Nat.le_refl _
  | k + 1 => by have := cntB_le P k; unfold cntB; split <;> omega
theorem cntB_mono {P Q : Nat → Bool} : ∀ k, (∀ q, q < k → Q q = true → P q = true) → cntB Q k ≤ cntB P k
  | 0, _ => Nat.le_refl _
  | k + 1, h => by
    have h1 := cntB_mono k fun q hq => h q (by omega)
    have h2 := h k (by omega)
    unfold cntB
    by_cases e : Q k = true
    · rw [if_pos e, if_pos (h2 e)]; omega
    · rw [if_neg e]; split <;> omega
theorem cntB_less {P Q : Nat → Bool} {p : Nat} (hp : P p = true) (hq : Q p = false) : ∀ k, p < k → (∀ q, q < k → Q q = true → P q = true) → cntB Q k < cntB P k
  | 0, h, _ => by omega
  | k + 1, hk, h => by
    unfold cntB
    by_cases e : p = k
    · subst e
      have h1 := cntB_mono p fun q hq => h q (by omega)
      rw [if_pos hp, if_neg (by rw [hq]; decide)]; omega
    · have h1 := cntB_less hp hq k (by omega) fun q hq => h q (by omega)
      have h2 := h k (by omega)
      by_cases e : Q k = true
      · rw [if_pos e, if_pos (h2 e)]; omega
      · rw [if_neg e]; split <;> omega
def emB (M : SL) (q : Nat) : Bool := decide (at2 M (q / M.length) (q % M.length) < 0)
def emp (M : SL) : Nat := cntB (emB M) (M.length * M.length)
theorem emp_100 {M : SL} (h : M.length ≤ 10) : emp M ≤ 100 := by
  have := cntB_le (emB M) (M.length * M.length)
  have h2 : M.length * M.length ≤ 10 * 10 := Nat.mul_le_mul h h
  unfold emp; omega
theorem emp_less {M : SL} {i j v : Nat} (hM : ParL M) (hi : i < M.length) (hj : j < M.length) (he : at2 M i j < 0) : emp (setS M i j (v : Int)) < emp M := by
  have hat : ∀ a b, at2 (setS M i j (v : Int)) a b = if a = i ∧ b = j then (v : Int) else at2 M a b := setS_at hi (by rw [hM.2.1 i hi]; exact hj)
  have hn : 0 < M.length := by omega
  have e1 : (i * M.length + j) / M.length = i := by rw [Nat.mul_comm, Nat.mul_add_div hn, Nat.div_eq_of_lt hj]; rfl
  have e2 : (i * M.length + j) % M.length = j := by rw [Nat.mul_comm, Nat.mul_add_mod, Nat.mod_eq_of_lt hj]
  unfold emp
  rw [setS_len]
  refine cntB_less (p := i * M.length + j) ?_ ?_ _ ?_ fun q hq h => ?_
  · unfold emB; rw [e1, e2]; exact decide_eq_true he
  · unfold emB; rw [setS_len, e1, e2, hat, if_pos ⟨rfl, rfl⟩]; exact decide_eq_false (by omega)
  · have : i * M.length + M.length ≤ M.length * M.length := by rw [← Nat.succ_mul]; exact Nat.mul_le_mul_right _ hi
    omega
  · unfold emB at *
    rw [setS_len, hat] at h
    split at h
    · rw [decide_eq_true_eq] at h; omega
    · exact h
theorem nxtF_less {M : SL} {q : Nat} (hM : ParL M) (h : stepF M = some q) : emp (nxtF M) < emp M := by
  obtain ⟨h1, h2, h3, h4, v, h5, h6, h7⟩ := step_spec h
  rw [nxtF_some h, h5]
  exact emp_less hM h1 h2 h3
/-! ### Scanning row by row -/
noncomputable def forceL (L : SL) : SL := iterF 100 L
/-- What is kept while places are filled. -/
def FI (L M : SL) : Prop := ParL M ∧ ∃ k, k + emp M ≤ 100 ∧ (iterF k L).map (·.2) = M.map (·.2)
theorem FI.start {L M : SL} (h : ParL L) (hM : M.map (·.2) = L.map (·.2)) : FI L M := by
  have hp : ParL M := of_isPar (by rw [isPar_eq hM]; exact (isPar_t h).symm)
  exact ⟨hp, 0, by have := emp_100 hp.1.2; omega, hM.symm⟩
theorem FI.step {L M : SL} {q : Nat} (h : FI L M) (hs : stepF M = some q) : FI L (nxtF M) := by
  obtain ⟨h1, k, h2, h3⟩ := h
  have := nxtF_less h1 hs
  exact ⟨nxtF_par h1, k + 1, by omega, by rw [iterF_add]; exact nxtF_eq h3⟩
theorem FI.end {L M : SL} (h : FI L M) (hs : stepF M = none) : M.map (·.2) = (forceL L).map (·.2) := by
  obtain ⟨h1, k, h2, h3⟩ := h
  have e : 100 = k + (100 - k) := by omega
  unfold forceL
  rw [e, iterF_add, iterF_eq (100 - k) h3, iterF_stop hs]
end Go.Proofs.Ytjihhcjpbcmjaaa
