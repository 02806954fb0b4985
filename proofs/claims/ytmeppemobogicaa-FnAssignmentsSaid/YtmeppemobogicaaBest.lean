/- All assignments: plain facts. -/
import Derived.Test.YtmeppemobogicaaBase
namespace Go.Proofs.Ytmeppemobogicaa
open Go.ChangeShapes Go.WideShapes Go.ChangeAt Go.RowKit
set_option linter.unusedVariables false
set_option linter.unusedSimpArgs false
/-! ### all assignments, plain -/
/-- digit i of k at base m, n digits, the first the most significant -/
def digA (m n k i : Nat) : Nat := k / m ^ (n - 1 - i) % m
def digL (m n k : Nat) : List Int := (List.range n).map fun i => ((digA m n k i : Nat) : Int)
theorem digL_length (m n k : Nat) : (digL m n k).length = n := by simp [digL]
theorem digL_at {m n k i : Nat} (h : i < n) : (digL m n k)[i]? = some ((digA m n k i : Nat) : Int) := by simp [digL, h]
/-- the assignments that begin with a and have d more numbers, in their order -/
def enumA (m : Nat) : Nat → List Int → List (List Int)
  | 0, a => [a]
  | d + 1, a => (List.range m).flatMap fun c : Nat => enumA m d (a ++ [(c : Int)])
theorem digA_cons {m d c k i : Nat} (hk : k < m ^ d) (hi : i < d) : digA m (d + 1) (c * m ^ d + k) (i + 1) = digA m d k i := by
  unfold digA
  rw [show d + 1 - 1 - (i + 1) = d - 1 - i by omega]
  have hsplit : m ^ d = m ^ (d - 1 - i) * (m ^ i * m) := by
    rw [← Nat.pow_succ, ← Nat.pow_add]; congr 1; omega
  by_cases hm : m = 0
  · subst hm
    simp [Nat.mod_zero]
    have : (0 : Nat) ^ d = 0 := Nat.zero_pow (by omega)
    omega
  · have hp : 0 < m ^ (d - 1 - i) := Nat.pow_pos (by omega)
    rw [hsplit, show c * (m ^ (d - 1 - i) * (m ^ i * m)) + k = k + m ^ (d - 1 - i) * (c * (m ^ i * m)) by
      rw [Nat.add_comm, Nat.mul_left_comm], Nat.add_mul_div_left _ _ hp, show c * (m ^ i * m) = m * (c * m ^ i) by
      rw [← Nat.mul_assoc, Nat.mul_comm], Nat.add_mul_mod_self_left]
theorem digA_head {m d c k : Nat} (hk : k < m ^ d) (hc : c < m) : digA m (d + 1) (c * m ^ d + k) 0 = c := by
  unfold digA
  rw [show d + 1 - 1 - 0 = d by omega, Nat.mul_comm c, Nat.mul_add_div (by omega), Nat.div_eq_of_lt hk, Nat.add_zero, Nat.mod_eq_of_lt hc]
theorem digL_cons {m d c k : Nat} (hk : k < m ^ d) (hc : c < m) : digL m (d + 1) (c * m ^ d + k) = (c : Int) :: digL m d k := by
  rw [digL, List.range_succ_eq_map, List.map_cons, digA_head hk hc, List.map_map]
  congr 1
  rw [digL]
  apply List.map_congr_left
  intro i hi
  simp only [Function.comp_apply, Nat.succ_eq_add_one]
  rw [digA_cons hk (List.mem_range.1 hi)]
theorem range_mul (a b : Nat) : List.range (a * b) = (List.range a).flatMap fun c => (List.range b).map fun k => c * b + k := by
  induction a with
  | zero => simp
  | succ a ih =>
    rw [Nat.succ_mul, List.range_add, ih, List.range_succ, List.flatMap_append]
    simp
theorem enumA_eq (m : Nat) : ∀ (d : Nat) (a : List Int), enumA m d a = (List.range (m ^ d)).map fun k => a ++ digL m d k
  | 0, a => by simp [enumA, digL]
  | d + 1, a => by
    rw [enumA, Nat.pow_succ, Nat.mul_comm, range_mul, List.map_flatMap]
    rw [List.flatMap_def, List.flatMap_def]
    congr 1
    apply List.map_congr_left
    intro c hc
    rw [enumA_eq m d, List.map_map]
    apply List.map_congr_left
    intro k hk
    simp only [Function.comp_apply]
    rw [digL_cons (List.mem_range.1 hk) (List.mem_range.1 hc)]
    simp
/-- the first of the least, and its finish -/
def visitA (fin : List Int → Int) (st : List Int × Int) (a : List Int) : List Int × Int := if st.2 < 0 ∨ fin a < st.2 then (a, fin a) else st
def walkA (fin : List Int → Int) (m d : Nat) (a : List Int) (st : List Int × Int) : List Int × Int := (enumA m d a).foldl (visitA fin) st
def walkUp (fin : List Int → Int) (m d : Nat) (a : List Int) (c : Nat) (st : List Int × Int) : List Int × Int := ((List.range c).flatMap fun c : Nat => enumA m d (a ++ [(c : Int)])).foldl (visitA fin) st
theorem walkUp_zero (fin : List Int → Int) (m d : Nat) (a : List Int) (st : List Int × Int) : walkUp fin m d a 0 st = st := rfl
theorem walkUp_step (fin : List Int → Int) (m d : Nat) (a : List Int) (c : Nat) (st : List Int × Int) : walkUp fin m d a (c + 1) st = walkA fin m d (a ++ [(c : Int)]) (walkUp fin m d a c st) := by
  rw [walkUp, List.range_succ, List.flatMap_append, List.foldl_append]; simp [walkA, walkUp]
theorem walkUp_all (fin : List Int → Int) (m d : Nat) (a : List Int) (st : List Int × Int) : walkUp fin m d a m st = walkA fin m (d + 1) a st := rfl
theorem walkA_zero (fin : List Int → Int) (m : Nat) (a : List Int) (st : List Int × Int) : walkA fin m 0 a st = visitA fin st a := rfl
/-- the reference's way -/
def bestUp (fin : List Int → Int) (m n : Nat) : Nat → List Int
  | 0 => digL m n 0
  | k + 1 => if fin (digL m n k) < fin (bestUp fin m n k) then digL m n k else bestUp fin m n k
theorem bestUp_mem (fin : List Int → Int) (m n : Nat) : ∀ k, 0 < k → ∃ j, j < k ∧ bestUp fin m n k = digL m n j
  | 0, h => absurd h (by omega)
  | 1, _ => ⟨0, by omega, by simp [bestUp]⟩
  | k + 2, _ => by
    obtain ⟨j, hj, e⟩ := bestUp_mem fin m n (k + 1) (by omega)
    rw [bestUp]
    split
    · exact ⟨k + 1, by omega, rfl⟩
    · exact ⟨j, by omega, e⟩
theorem bestUp_le (fin : List Int → Int) (m n : Nat) : ∀ k j, j < k → fin (bestUp fin m n k) ≤ fin (digL m n j)
  | 0, j, h => absurd h (by omega)
  | k + 1, j, h => by
    rw [bestUp]
    by_cases e : j = k
    · subst e
      split
      · exact Int.le_refl _
      · omega
    · have := bestUp_le fin m n k j (by omega)
      split
      · omega
      · exact this
theorem walk_best {fin : List Int → Int} (hf : ∀ a, 0 ≤ fin a) (m n : Nat) : ∀ k, 0 < k → ((List.range k).map fun j => digL m n j).foldl (visitA fin) ([], -1) = (bestUp fin m n k, fin (bestUp fin m n k))
  | 0, h => absurd h (by omega)
  | 1, _ => by simp [bestUp, visitA]
  | k + 2, _ => by
    rw [List.range_succ, List.map_append, List.foldl_append, walk_best hf m n (k + 1) (by omega)]
    simp only [List.map_cons, List.map_nil, List.foldl_cons, List.foldl_nil]
    conv => rhs; rw [bestUp]
    unfold visitA
    have := hf (bestUp fin m n (k + 1))
    by_cases h : fin (digL m n (k + 1)) < fin (bestUp fin m n (k + 1))
    · rw [if_pos (.inr h), if_pos h]
    · rw [if_neg (by simp only; omega), if_neg h]
theorem walkA_best {fin : List Int → Int} (hf : ∀ a, 0 ≤ fin a) {m n : Nat} (hm : 0 < m) : walkA fin m n [] ([], -1) = (bestUp fin m n (m ^ n), fin (bestUp fin m n (m ^ n))) := by
  rw [walkA, enumA_eq]
  simp only [List.nil_append]
  exact walk_best hf m n _ (Nat.pow_pos hm)
theorem digL_bd {m n k : Nat} (hm : 0 < m) {i : Nat} {c : Int} (h : (digL m n k)[i]? = some c) : 0 ≤ c ∧ c < m := by
  have hi : i < n := by have := (List.getElem?_eq_some_iff.1 h).1; rwa [digL_length] at this
  rw [digL_at hi] at h
  injection h with h
  have := Nat.mod_lt (k / m ^ (n - 1 - i)) hm
  unfold digA at h
  omega
theorem digL_onto (m : Nat) : ∀ a : List Int, (∀ x ∈ a, 0 ≤ x ∧ x < m) → ∃ k, k < m ^ a.length ∧ digL m a.length k = a
  | [], _ => ⟨0, by simp, by simp [digL]⟩
  | x :: a, h => by
    obtain ⟨k, hk, e⟩ := digL_onto m a (fun y hy => h y (by simp [hy]))
    have hx := h x (by simp)
    obtain ⟨c, rfl⟩ : ∃ c : Nat, x = c := ⟨x.toNat, by omega⟩
    have hc : c < m := by omega
    refine ⟨c * m ^ a.length + k, ?_, ?_⟩
    · have h1 : (c + 1) * m ^ a.length ≤ m * m ^ a.length := Nat.mul_le_mul_right _ hc
      rw [List.length_cons, Nat.pow_succ, Nat.mul_comm (m ^ a.length) m]
      rw [Nat.succ_mul] at h1
      omega
    · rw [List.length_cons, digL_cons hk hc, e]
end Go.Proofs.Ytmeppemobogicaa
