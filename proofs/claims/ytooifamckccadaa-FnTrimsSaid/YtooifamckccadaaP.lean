/- The index of the first element for which a test holds. -/
import Derived.Test.YtooifamckccadaaRd
namespace Go.Proofs.Ytooifamckccadaa
open Go.ChangeShapes Go.WideShapes Go.ChangeAt Go.RowKit
set_option linter.unusedVariables false
set_option linter.unusedSimpArgs false
/-- The index of the first element for which p holds, -1 if there is none. -/
def idxB {τ : Type} (p : τ → Bool) (l : List τ) : Int := match l.findIdx? p with | some i => (i : Int) | none => -1
theorem idxB_any {τ : Type} (p : τ → Bool) (l : List τ) : decide (0 ≤ idxB p l) = l.any p := by
  unfold idxB
  cases h : l.findIdx? p with
  | none =>
    rw [List.findIdx?_eq_none_iff] at h
    have : l.any p = false := by rw [List.any_eq_false]; intro x hx; simp [h x hx]
    simp [this]
  | some i =>
    rw [List.findIdx?_eq_some_iff_getElem] at h
    obtain ⟨hi, hp, _⟩ := h
    have : l.any p = true := List.any_eq_true.2 ⟨_, List.getElem_mem hi, hp⟩
    rw [this]
    simp
theorem idxB_here {τ : Type} (p : τ → Bool) (l : List τ) {k : Nat} {t : τ} (hk : l[k]? = some t) (hb : (l.take k).any p = false) (hp : p t = true) : idxB p l = k := by
  have hl : k < l.length := (List.getElem?_eq_some_iff.1 hk).1
  have ht : l[k] = t := by rw [List.getElem?_eq_getElem hl] at hk; exact Option.some.inj hk
  have : l.findIdx? p = some k := by
    rw [List.findIdx?_eq_some_iff_getElem]
    refine ⟨hl, by rw [ht]; exact hp, fun j hj => ?_⟩
    rw [List.any_eq_false] at hb
    have hm : l[j]'(by omega) ∈ l.take k := by
      rw [List.mem_take_iff_getElem]
      exact ⟨j, by omega, rfl⟩
    exact hb _ hm
  simp [idxB, this]
theorem idxB_none {τ : Type} (p : τ → Bool) (l : List τ) (hb : l.any p = false) : idxB p l = -1 := by
  have : l.findIdx? p = none := by
    rw [List.findIdx?_eq_none_iff]
    intro x hx
    rw [List.any_eq_false] at hb
    simpa using hb x hx
  simp [idxB, this]
theorem any_step {τ : Type} (p : τ → Bool) (l : List τ) {k : Nat} {t : τ} (hk : l[k]? = some t) : (l.take (k + 1)).any p = ((l.take k).any p || p t) := by
  have hl : k < l.length := (List.getElem?_eq_some_iff.1 hk).1
  have : l[k] = t := by rw [List.getElem?_eq_getElem hl] at hk; exact Option.some.inj hk
  rw [List.take_succ_eq_append_getElem hl, List.any_append, this]; simp
theorem any_not_all {τ : Type} (p : τ → Bool) (l : List τ) : l.any (fun t => !p t) = !l.all p := by
  induction l with
  | nil => rfl
  | cons a l ih => simp [ih, Bool.not_and]
end Go.Proofs.Ytooifamckccadaa
