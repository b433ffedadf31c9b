/- Whether a number stands in a list, by its first place. No conditions but those in the statements. -/
import Derived.Test.YtjihhcjpbcmjaaaFGM24
namespace Go.Proofs.Ytjihhcjpbcmjaaa
open Gx
set_option linter.unusedVariables false
def ixI (l : List Int) (v : Int) : Int := match ffrom (fun i => decide (v = l.getD i 0)) l.length 0 with
  | none => -1
  | some i => (i : Int)
theorem ixI_t {l : List Int} {v : Int} {i : Nat} (hi : i < l.length) (h : v = l.getD i 0) (hR : ∀ j, j < i → ¬ v = l.getD j 0) : (i : Int) = ixI l v := by
  unfold ixI
  rw [ffrom_some (P := fun i => decide (v = l.getD i 0)) (q := i) (decide_eq_true h) l.length 0 (by omega) (by omega) fun p _ hp => decide_eq_false (hR p hp)]
theorem ixI_f {l : List Int} {v : Int} (hR : ∀ j, j < l.length → ¬ v = l.getD j 0) : -1 = ixI l v := by
  unfold ixI
  rw [ffrom_none (P := fun i => decide (v = l.getD i 0)) l.length 0 fun p _ hp => decide_eq_false (hR p (by omega))]
theorem ixI_mem {l : List Int} {v : Int} : decide (ixI l v ≥ 0) = decide (v ∈ l) := by
  rw [Bool.eq_iff_iff, decide_eq_true_eq, decide_eq_true_eq]
  constructor
  · intro h
    unfold ixI at h
    split at h
    · omega
    · rename_i i e
      obtain ⟨h1, h2, h3, _⟩ := ffrom_spec _ _ e
      have h4 := of_decide_eq_true h3
      rw [h4]
      rw [List.getD, List.getElem?_eq_getElem (by omega)]
      exact List.getElem_mem _
  · intro h
    obtain ⟨i, hi, e⟩ := List.mem_iff_getElem.1 h
    cases hf : ffrom (fun i => decide (v = l.getD i 0)) l.length 0 with
    | none =>
      have := ffrom_nspec _ _ hf i (by omega) (by omega)
      have h5 := of_decide_eq_false this
      exact absurd (by rw [List.getD, List.getElem?_eq_getElem hi]; exact e.symm) h5
    | some q => unfold ixI; rw [hf]; exact Int.natCast_nonneg q
end Go.Proofs.Ytjihhcjpbcmjaaa
