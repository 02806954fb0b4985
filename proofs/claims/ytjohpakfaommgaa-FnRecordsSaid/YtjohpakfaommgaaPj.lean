/- The plain law on cut journals, in the law's own words. -/
import Derived.Test.YtjohpakfaommgaaPl
import Derived.Test.YtjohpakfaommgaaRi
import Derived.Test.YtjohpakfaommgaaCut
namespace Go.Proofs.Ytjohpakfaommgaa
open Go.ChangeShapes Go.WideShapes Go.ChangeAt Go.RowKit
set_option maxRecDepth 20000
set_option linter.unusedVariables false
set_option linter.unusedSimpArgs false
theorem bytesB_of {l : List Int} (h : l.length ≤ 2000) (hb : ∀ x ∈ l, 0 ≤ x ∧ x ≤ 255) : bytesB l = true := by
  simp only [bytesB, Bool.and_eq_true, decide_eq_true_eq, List.all_eq_true, inB]
  exact ⟨h, hb⟩
theorem encT_bytes {t : Rec3} (h : okR t = true) (k : Nat) : ∀ x ∈ encT t k, 0 ≤ x ∧ x ≤ 255 := by
  obtain ⟨x, y, z⟩ := t
  simp only [okR, recB, inB, Bool.and_eq_true, decide_eq_true_eq] at h
  intro u hu
  simp only [encT, encL, List.mem_append] at hu
  rcases hu with hu | hu
  · obtain ⟨i, hi, rfl⟩ := List.getElem_of_mem hu
    exact preL_bytes (by omega) i _ (List.getElem?_eq_getElem hi)
  · exact bytesL_mem hu
theorem jourUp_bytes {l : List Rec3} (hl : l.all okR = true) : ∀ k, ∀ x ∈ jourUp l k, 0 ≤ x ∧ x ≤ 255
  | 0, x, h => by simp [jourUp] at h
  | k + 1, x, h => by
    simp only [jourUp, List.mem_append] at h
    rcases h with h | h
    · exact jourUp_bytes hl k x h
    · cases ht : l[k]? with
      | none => rw [ht] at h; simp at h
      | some t =>
        rw [ht] at h
        exact encT_bytes (List.all_eq_true.1 hl t (List.mem_of_getElem? ht)) k x h
theorem jour_law {l : List Rec3} (h0 : jourC l = 0) : l.length ≤ 100 ∧ (jourR l).length = 14 * l.length ∧ rcC (jourR l) = 0 ∧ rcR (jourR l) = l ∧
    ∀ (n : Nat), n ≤ (jourR l).length → ∀ T : List Int, T.length ≤ 29 → (∀ x ∈ T, 0 ≤ x ∧ x ≤ 255) →
      cutC (jourR l) n T = 0 ∧ (cutR (jourR l) n T).length ≤ 1429 ∧ rcC (cutR (jourR l) n T) = 0 ∧ n / 14 ≤ (rcR (cutR (jourR l) n T)).length ∧ (rcR (cutR (jourR l) n T)).take (n / 14) = l.take (n / 14) := by
  rcases jour_cases l with ⟨_, e, _⟩ | ⟨_, _, e, _⟩ | ⟨hn, hl, _, hR⟩
  · omega
  · omega
  have hlen := jourUp_length (l := l) l.length (Nat.le_refl _)
  have hby := jourUp_bytes hl l.length
  obtain ⟨b1, b2⟩ := jour_back hl hn
  have hcut := fun (n : Nat) hm T => cut_back hl hn (n := n) hm T
  rw [hR]
  generalize jourUp l l.length = M at *
  have hMb : bytesB M = true := bytesB_of (by omega) hby
  refine ⟨hn, hlen, by simp [rcC, hMb], by simp [rcR, hMb, b1, b2], ?_⟩
  intro n hnm T hT hTb
  obtain ⟨c1, c2⟩ := hcut n hnm T
  have hTB : bytesB T = true := bytesB_of (by omega) hTb
  have hXl : (M.take n ++ T).length ≤ 1429 := by rw [List.length_append, List.length_take]; omega
  have hall : cutAll M (n : Int) T = M.take n ++ T := by simp [cutAll]
  have hC : cutC M (n : Int) T = 0 := by
    rw [cutC, if_pos ⟨hMb, hTB, by omega⟩, hall, if_pos (by omega)]
  have hX : cutR M (n : Int) T = M.take n ++ T := by rw [cutR, if_pos hC, hall]
  have hXb : bytesB (M.take n ++ T) = true := bytesB_of (by omega) (fun x hx => by
    rw [List.mem_append] at hx
    rcases hx with hx | hx
    · exact hby x (List.mem_of_mem_take hx)
    · exact hTb x hx)
  rw [hX]
  generalize M.take n ++ T = X at *
  have hr : rcR X = recUp X (recN X) := by simp [rcR, hXb]
  refine ⟨hC, hXl, by simp [rcC, hXb], by rw [hr, recUp_length]; exact c1, ?_⟩
  rw [hr, ← c2]
  unfold recUp
  rw [← List.map_take, List.take_range, Nat.min_eq_left c1]
end Go.Proofs.Ytjohpakfaommgaa
