/- The days of visits: sorted without repetition, and from one to the next (plain). -/
import Derived.Test.YtmbchcenclfjoaaSq8
import Derived.Test.YtmbchcenclfjoaaCpt
import Derived.Lib.MinMax
import Derived.Test.YtmbchcenclfjoaaNd
namespace Go.Proofs.Ytmbchcenclfjoaa
open Go.ChangeShapes Go.WideShapes Go.ChangeAt Go.RowKit
set_option linter.unusedVariables false
set_option linter.unusedSimpArgs false
theorem sortL_mem (l : List Int) (x : Int) : x ∈ sortL l ↔ x ∈ l := List.mem_mergeSort
theorem sortL_sorted (l : List Int) : (sortL l).Pairwise (· ≤ ·) := by
  have h := List.pairwise_mergeSort (le := fun x y : Int => decide (x ≤ y)) (fun a b c h1 h2 => by simp at *; omega) (fun a b => by simp; omega) l
  exact h.imp (fun h => by simpa using h)
theorem get_bang {l : List Int} {j : Nat} (h : j < l.length) : l.toArray[j]! = l[j] := by
  rw [getElem!_pos l.toArray j (by simpa using h)]
  simp
theorem compL_sorted {l : List Int} (h : l.Pairwise (· ≤ ·)) : (compL l).Pairwise (· < ·) := by
  have hs : ∀ i j, i ≤ j → (hj : j < l.length) → l.toArray[i]! ≤ l.toArray[j]! := by
    intro i j hij hj
    rw [get_bang (show i < l.length by omega), get_bang hj]
    rcases Nat.lt_or_ge i j with hlt | hge
    · exact List.pairwise_iff_getElem.1 h i j (by omega) hj hlt
    · have : i = j := by omega
      subst this
      exact Int.le_refl _
  unfold compL Lib.compact Lib.compactUpTo
  rw [List.pairwise_map, List.pairwise_filter]
  refine List.Pairwise.imp_of_mem ?_ List.pairwise_lt_range
  intro i j _ hj hij _ hk
  rw [List.mem_range] at hj
  simp only [Lib.keeps, decide_eq_true_eq] at hk
  have h1 := hs i (j - 1) (by omega) (by omega)
  have h2 := hs (j - 1) j (by omega) hj
  rcases hk with hk | hk
  · omega
  · omega
theorem compL_mem (l : List Int) (x : Int) : x ∈ compL l ↔ x ∈ l := by
  have key : ∀ j, j < l.length → l.toArray[j]! ∈ compL l := by
    intro j
    induction j with
    | zero =>
      intro hj
      unfold compL Lib.compact Lib.compactUpTo
      rw [List.mem_map]
      exact ⟨0, by rw [List.mem_filter, List.mem_range]; exact ⟨hj, by simp [Lib.keeps]⟩, rfl⟩
    | succ j ih =>
      intro hj
      by_cases he : l.toArray[j + 1]! = l.toArray[j]!
      · rw [he]
        exact ih (by omega)
      · unfold compL Lib.compact Lib.compactUpTo
        rw [List.mem_map]
        exact ⟨j + 1, by rw [List.mem_filter, List.mem_range]; exact ⟨hj, by simp only [Lib.keeps, decide_eq_true_eq]; exact .inr he⟩, rfl⟩
  constructor
  · intro h
    unfold compL Lib.compact Lib.compactUpTo at h
    rw [List.mem_map] at h
    obtain ⟨j, hj, rfl⟩ := h
    rw [List.mem_filter, List.mem_range] at hj
    rw [get_bang hj.1]
    exact List.getElem_mem _
  · intro h
    obtain ⟨j, hj, rfl⟩ := List.getElem_of_mem h
    rw [← get_bang hj]
    exact key j hj
/-- the task becomes due on the day -/
def dueOn (t : Int × Int) (d : Int) : Prop := ∃ k : Nat, d = t.2 + ((k : Int) + 1) * t.1
/-- the first days on which a task becomes due -/
def seqT (t : Int × Int) (n : Nat) : List Int := (List.range n).map fun k : Nat => t.2 + ((k : Int) + 1) * t.1
def cntT (t : Int × Int) (last : Int) : Nat := ((last - t.2) / t.1).toNat
def allD (l : List (Int × Int)) (last : Int) : List Int := l.flatMap fun t => seqT t (cntT t last)
def visL (l : List (Int × Int)) (last : Int) : List Int := compL (sortL (allD l last))
theorem cnt_iff {t : Int × Int} (h1 : 1 ≤ t.1) (k : Nat) (last : Int) : t.2 + ((k : Int) + 1) * t.1 ≤ last ↔ k < cntT t last := by
  have hd : ((k : Int) + 1) * t.1 ≤ last - t.2 ↔ (k : Int) + 1 ≤ (last - t.2) / t.1 := (Int.le_ediv_iff_mul_le (by omega)).symm
  unfold cntT
  constructor
  · intro h
    have := hd.1 (by omega)
    omega
  · intro h
    have := hd.2 (by omega)
    omega
theorem cnt_bd {t : Int × Int} (h1 : 1 ≤ t.1) (h2 : 0 ≤ t.2) (last : Int) (h3 : last ≤ 100000) : cntT t last ≤ 100000 := by
  rcases Nat.eq_zero_or_pos (cntT t last) with h | h
  · omega
  · have := (cnt_iff h1 (cntT t last - 1) last).2 (by omega)
    have hk : (((cntT t last - 1 : Nat) : Int) + 1) * 1 ≤ (((cntT t last - 1 : Nat) : Int) + 1) * t.1 := Int.mul_le_mul_of_nonneg_left h1 (by omega)
    omega
theorem seqT_mem {t : Int × Int} (h1 : 1 ≤ t.1) (last d : Int) : d ∈ seqT t (cntT t last) ↔ dueOn t d ∧ d ≤ last := by
  unfold seqT dueOn
  rw [List.mem_map]
  constructor
  · rintro ⟨k, hk, rfl⟩
    rw [List.mem_range] at hk
    exact ⟨⟨k, rfl⟩, (cnt_iff h1 k last).2 hk⟩
  · rintro ⟨⟨k, rfl⟩, hle⟩
    exact ⟨k, by rw [List.mem_range]; exact (cnt_iff h1 k last).1 hle, rfl⟩
theorem visL_mem {l : List (Int × Int)} (h : ∀ t ∈ l, 1 ≤ t.1) (last d : Int) : d ∈ visL l last ↔ (∃ t ∈ l, dueOn t d) ∧ d ≤ last := by
  unfold visL
  rw [compL_mem, sortL_mem]
  unfold allD
  rw [List.mem_flatMap]
  constructor
  · rintro ⟨t, ht, hd⟩
    obtain ⟨h1, h2⟩ := (seqT_mem (h t ht) last d).1 hd
    exact ⟨⟨t, ht, h1⟩, h2⟩
  · rintro ⟨⟨t, ht, h1⟩, h2⟩
    exact ⟨t, ht, (seqT_mem (h t ht) last d).2 ⟨h1, h2⟩⟩
theorem visL_sorted (l : List (Int × Int)) (last : Int) : (visL l last).Pairwise (· < ·) := compL_sorted (sortL_sorted _)
/-- the next day on which a task becomes due -/
def nextT (day : Int) (t : Int × Int) : Int := t.2 + max 1 ((day - t.2) / t.1 + 1) * t.1
def nextL (l : List (Int × Int)) (day : Int) : Int := l.foldl (fun b t => min b (nextT day t)) 200000
theorem nextT_gt {t : Int × Int} (h1 : 1 ≤ t.1) (day : Int) : day < nextT day t := by
  unfold nextT
  have h := Int.lt_ediv_add_one_mul_self (day - t.2) (show (0 : Int) < t.1 by omega)
  have hm : ((day - t.2) / t.1 + 1) * t.1 ≤ max 1 ((day - t.2) / t.1 + 1) * t.1 := Int.mul_le_mul_of_nonneg_right (by omega) (by omega)
  omega
theorem nextT_due {t : Int × Int} (day : Int) : dueOn t (nextT day t) := by
  unfold nextT dueOn
  refine ⟨(max 1 ((day - t.2) / t.1 + 1) - 1).toNat, ?_⟩
  have : (((max 1 ((day - t.2) / t.1 + 1) - 1).toNat : Nat) : Int) + 1 = max 1 ((day - t.2) / t.1 + 1) := by omega
  rw [this]
theorem nextT_le {t : Int × Int} (h1 : 1 ≤ t.1) {day d : Int} (hd : dueOn t d) (hgt : day < d) : nextT day t ≤ d := by
  obtain ⟨k, rfl⟩ := hd
  unfold nextT
  have hk : (day - t.2) / t.1 < (k : Int) + 1 := by
    apply Int.ediv_lt_of_lt_mul (by omega)
    omega
  have hm : max 1 ((day - t.2) / t.1 + 1) * t.1 ≤ ((k : Int) + 1) * t.1 := Int.mul_le_mul_of_nonneg_right (by omega) (by omega)
  omega
theorem nextF_le (day : Int) : ∀ (l : List (Int × Int)) (b x : Int), l.foldl (fun b t => min b (nextT day t)) b ≤ x ↔ b ≤ x ∨ ∃ t ∈ l, nextT day t ≤ x
  | [], b, x => by simp
  | a :: l, b, x => by
    rw [List.foldl_cons, nextF_le day l]
    constructor
    · rintro (h | ⟨t, ht, h⟩)
      · rcases (show b ≤ x ∨ nextT day a ≤ x by omega) with h | h
        · exact .inl h
        · exact .inr ⟨a, by simp, h⟩
      · exact .inr ⟨t, by simp [ht], h⟩
    · rintro (h | ⟨t, ht, h⟩)
      · left; omega
      · rw [List.mem_cons] at ht
        rcases ht with rfl | ht
        · left; omega
        · exact .inr ⟨t, ht, h⟩
theorem nextF_gt (day : Int) (l : List (Int × Int)) (h : ∀ t ∈ l, 1 ≤ t.1) (b x : Int) (hb : x < b) (hx : x ≤ day) : x < l.foldl (fun b t => min b (nextT day t)) b := by
  rcases (show x < l.foldl (fun b t => min b (nextT day t)) b ∨ l.foldl (fun b t => min b (nextT day t)) b ≤ x by omega) with h1 | h1
  · exact h1
  · rcases (nextF_le day l b x).1 h1 with h2 | ⟨t, ht, h2⟩
    · omega
    · have := nextT_gt (h t ht) day
      omega
theorem nextF_at (day : Int) : ∀ (l : List (Int × Int)) (b : Int), l.foldl (fun b t => min b (nextT day t)) b = b ∨ ∃ t ∈ l, l.foldl (fun b t => min b (nextT day t)) b = nextT day t
  | [], b => .inl rfl
  | a :: l, b => by
    rw [List.foldl_cons]
    rcases nextF_at day l (min b (nextT day a)) with h | ⟨t, ht, h⟩
    · rw [h]
      rcases (show min b (nextT day a) = b ∨ min b (nextT day a) = nextT day a by omega) with h | h
      · exact .inl h
      · exact .inr ⟨a, by simp, h⟩
    · exact .inr ⟨t, by simp [ht], h⟩
theorem sorted_at {V : List Int} (h : V.Pairwise (· < ·)) {i j : Nat} {x y : Int} (hi : V[i]? = some x) (hj : V[j]? = some y) : (i < j ↔ x < y) := by
  obtain ⟨hi1, rfl⟩ := List.getElem?_eq_some_iff.1 hi
  obtain ⟨hj1, rfl⟩ := List.getElem?_eq_some_iff.1 hj
  have hp := List.pairwise_iff_getElem.1 h
  constructor
  · intro hij
    exact hp i j hi1 hj1 hij
  · intro hlt
    rcases Nat.lt_trichotomy i j with h1 | h1 | h1
    · exact h1
    · subst h1; omega
    · have := hp j i hj1 hi1 h1
      omega
/-- the day that stands before place k; -1 at the beginning -/
def prevV (V : List Int) (k : Nat) : Int := if k = 0 then -1 else V.getD (k - 1) 0
/-- from one day of visits to the next -/
theorem next_step {l : List (Int × Int)} (h : ∀ t ∈ l, 1 ≤ t.1 ∧ 0 ≤ t.2) {last : Int} (hl : last ≤ 100000) {k : Nat} (hk : k ≤ (visL l last).length) :
    (nextL l (prevV (visL l last) k) ≤ last ↔ k < (visL l last).length) ∧ (k < (visL l last).length → (visL l last)[k]? = some (nextL l (prevV (visL l last) k))) := by
  have hmem := visL_mem (l := l) (fun t ht => (h t ht).1) last
  have hs := visL_sorted l last
  generalize visL l last = V at *
  have hpos : ∀ d ∈ V, 0 < d := by
    intro d hd
    obtain ⟨⟨t, ht, k, rfl⟩, _⟩ := (hmem d).1 hd
    have h2 := h t ht
    have hm : (1 : Int) * 1 ≤ ((k : Int) + 1) * t.1 := Int.mul_le_mul (by omega) h2.1 (by omega) (by omega)
    omega
  -- what stands from place k on is greater than what stands before it
  have hprev : ∀ j d, V[j]? = some d → (k ≤ j ↔ prevV V k < d) := by
    intro j d hj
    have hjl := (List.getElem?_eq_some_iff.1 hj).1
    by_cases h0 : k = 0
    · subst h0
      have := hpos d (List.mem_of_getElem? hj)
      simp only [prevV, if_true]
      constructor <;> intro _ <;> omega
    · have hk1 := List.getElem?_eq_getElem (show k - 1 < V.length by omega)
      have hp : prevV V k = V[k - 1] := by rw [prevV, if_neg h0, List.getD_eq_getElem?_getD, hk1]; rfl
      have := sorted_at hs hk1 hj
      rw [hp]
      constructor
      · intro hkj; exact this.1 (by omega)
      · intro hlt; have := this.2 hlt; omega
  have hle : ∀ d, d ∈ V → prevV V k < d → nextL l (prevV V k) ≤ d := by
    intro d hd hgt
    obtain ⟨⟨t, ht, hdue⟩, _⟩ := (hmem d).1 hd
    exact (nextF_le _ l 200000 d).2 (.inr ⟨t, ht, nextT_le (h t ht).1 hdue hgt⟩)
  have hback : nextL l (prevV V k) ≤ last → ∃ j, k ≤ j ∧ V[j]? = some (nextL l (prevV V k)) := by
    intro hn
    rcases nextF_at (prevV V k) l 200000 with he | ⟨t, ht, he⟩
    · unfold nextL at hn
      rw [he] at hn
      omega
    · have hin : nextL l (prevV V k) ∈ V := (hmem _).2 ⟨⟨t, ht, by unfold nextL; rw [he]; exact nextT_due _⟩, hn⟩
      obtain ⟨j, hj, hje⟩ := List.getElem_of_mem hin
      have hj' : V[j]? = some (nextL l (prevV V k)) := by rw [List.getElem?_eq_getElem hj, hje]
      refine ⟨j, (hprev j _ hj').2 ?_, hj'⟩
      unfold nextL
      rw [he]
      exact nextT_gt (h t ht).1 _
  have hfirst : k < V.length → nextL l (prevV V k) ≤ V.getD k 0 ∧ V.getD k 0 ≤ last := by
    intro hlt
    have hk1 := List.getElem?_eq_getElem hlt
    have hg : V.getD k 0 = V[k] := by rw [List.getD_eq_getElem?_getD, hk1]; rfl
    rw [hg]
    exact ⟨hle _ (List.getElem_mem hlt) ((hprev k _ hk1).1 (Nat.le_refl _)), ((hmem _).1 (List.getElem_mem hlt)).2⟩
  refine ⟨⟨fun hn => ?_, fun hlt => ?_⟩, fun hlt => ?_⟩
  · obtain ⟨j, hkj, hj⟩ := hback hn
    have := (List.getElem?_eq_some_iff.1 hj).1
    omega
  · have := hfirst hlt
    omega
  · obtain ⟨f1, f2⟩ := hfirst hlt
    obtain ⟨j, hkj, hj⟩ := hback (by omega)
    have hk1 := List.getElem?_eq_getElem hlt
    have hg : V.getD k 0 = V[k] := by rw [List.getD_eq_getElem?_getD, hk1]; rfl
    have hs1 := sorted_at hs hk1 hj
    have hs2 := sorted_at hs hj hk1
    rw [hg] at f1
    have : j = k := by
      rcases Nat.lt_trichotomy j k with h1 | h1 | h1
      · omega
      · exact h1
      · have := hs1.1 h1
        omega
    subst this
    exact hj
end Go.Proofs.Ytmbchcenclfjoaa
