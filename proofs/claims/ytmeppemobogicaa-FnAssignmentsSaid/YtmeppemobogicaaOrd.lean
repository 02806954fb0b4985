/- The order of stops: plain facts. -/
import Derived.Test.YtmeppemobogicaaBase
namespace Go.Proofs.Ytmeppemobogicaa
open Go.ChangeShapes Go.WideShapes Go.ChangeAt Go.RowKit
set_option linter.unusedVariables false
set_option linter.unusedSimpArgs false
/-! ### the order of stops, plain -/
/-- k comes before i: it takes longer, or as long and stands before -/
def befB (t : Nat → Int) (k i : Nat) : Bool := decide (t i < t k) || (decide (t k = t i) && decide (k < i))
theorem bef_irr (t : Nat → Int) (i : Nat) : befB t i i = false := by simp [befB]
theorem bef_asymm {t : Nat → Int} {i k : Nat} (h : befB t i k = true) : befB t k i = false := by
  simp only [befB, Bool.or_eq_true, Bool.and_eq_true, decide_eq_true_eq, Bool.or_eq_false_iff, Bool.and_eq_false_iff, decide_eq_false_iff_not] at *
  omega
theorem bef_trans {t : Nat → Int} {i k j : Nat} (h : befB t i k = true) (h2 : befB t k j = true) : befB t i j = true := by
  simp only [befB, Bool.or_eq_true, Bool.and_eq_true, decide_eq_true_eq] at *
  omega
theorem bef_total {t : Nat → Int} {i k : Nat} (h : i ≠ k) : befB t i k = true ∨ befB t k i = true := by
  simp only [befB, Bool.or_eq_true, Bool.and_eq_true, decide_eq_true_eq] at *
  omega
theorem sorted_ext {t : Nat → Int} : ∀ {l1 l2 : List Nat}, l1.Pairwise (fun a b => befB t a b = true) → l2.Pairwise (fun a b => befB t a b = true) → (∀ x, x ∈ l1 ↔ x ∈ l2) → l1 = l2
  | [], [], _, _, _ => rfl
  | [], b :: l2, _, _, h => absurd ((h b).2 (by simp)) (by simp)
  | a :: l1, [], _, _, h => absurd ((h a).1 (by simp)) (by simp)
  | a :: l1, b :: l2, h1, h2, h => by
    rw [List.pairwise_cons] at h1 h2
    have e : a = b := by
      rcases List.mem_cons.1 ((h a).1 (by simp)) with e | ha
      · exact e
      · rcases List.mem_cons.1 ((h b).2 (by simp)) with e | hb
        · exact e.symm
        · have := bef_asymm (h1.1 b hb)
          rw [h2.1 a ha] at this
          cases this
    subst e
    congr 1
    refine sorted_ext h1.2 h2.2 fun x => ?_
    constructor
    · intro hx
      rcases List.mem_cons.1 ((h x).1 (by simp [hx])) with e | h'
      · subst e
        have := h1.1 x hx
        rw [bef_irr] at this
        cases this
      · exact h'
    · intro hx
      rcases List.mem_cons.1 ((h x).2 (by simp [hx])) with e | h'
      · subst e
        have := h2.1 x hx
        rw [bef_irr] at this
        cases this
      · exact h'
def rankT (t : Nat → Int) (n i : Nat) : Nat := ((List.range n).filter fun k => befB t k i).length
def atPlace (t : Nat → Int) (n p i : Nat) : List Nat := (List.range i).filter fun j => rankT t n j == p
def ordUp (t : Nat → Int) (n p : Nat) : List Nat := (List.range p).flatMap fun q => atPlace t n q n
def ordT (t : Nat → Int) (n : Nat) : List Nat := ordUp t n n
theorem atPlace_step (t : Nat → Int) (n p i : Nat) : atPlace t n p (i + 1) = atPlace t n p i ++ if rankT t n i == p then [i] else [] := by
  rw [atPlace, List.range_succ, List.filter_append]
  congr 1
  by_cases h : rankT t n i == p <;> simp [h]
theorem ordUp_step (t : Nat → Int) (n p : Nat) : ordUp t n (p + 1) = ordUp t n p ++ atPlace t n p n := by
  rw [ordUp, List.range_succ, List.flatMap_append]; simp [ordUp]
theorem filter_len_lt {p q : Nat → Bool} {l : List Nat} {a : Nat} (ha : a ∈ l) (h1 : p a = false) (h2 : q a = true) (h : ∀ x, p x = true → q x = true) : (l.filter p).length < (l.filter q).length := by
  induction l with
  | nil => cases ha
  | cons b l ih =>
    have hle : ∀ l : List Nat, (l.filter p).length ≤ (l.filter q).length := by
      intro l
      induction l with
      | nil => simp
      | cons c l ih =>
        rw [List.filter_cons, List.filter_cons]
        by_cases hp : p c = true
        · rw [if_pos hp, if_pos (h c hp)]; simp; exact ih
        · rw [if_neg hp]
          split
          · simp; omega
          · exact ih
    rw [List.filter_cons, List.filter_cons]
    rcases List.mem_cons.1 ha with e | hm
    · subst e
      rw [if_neg (by simp [h1]), if_pos h2]
      have := hle l
      simp
      omega
    · have := ih hm
      by_cases hp : p b = true
      · rw [if_pos hp, if_pos (h b hp)]; simp; exact this
      · rw [if_neg hp]
        split
        · simp; omega
        · exact this
theorem rank_lt {t : Nat → Int} {n i k : Nat} (hi : i < n) (h : befB t i k = true) : rankT t n i < rankT t n k :=
  filter_len_lt (a := i) (List.mem_range.2 hi) (bef_irr t i) h (fun _ hx => bef_trans hx h)
theorem rank_bound {t : Nat → Int} {n i : Nat} (hi : i < n) : rankT t n i < n := by
  have h := filter_len_lt (p := fun k => befB t k i) (q := fun _ => true) (l := List.range n) (a := i) (List.mem_range.2 hi) (bef_irr t i) rfl (fun _ _ => rfl)
  simpa [rankT, List.filter_eq_self.2] using h
theorem rank_inj {t : Nat → Int} {n i k : Nat} (hi : i < n) (hk : k < n) (h : rankT t n i = rankT t n k) : i = k := by
  by_cases e : i = k
  · exact e
  · rcases bef_total (t := t) e with h1 | h1
    · have := rank_lt hi h1; omega
    · have := rank_lt hk h1; omega
theorem rank_iff {t : Nat → Int} {n i k : Nat} (hk : k < n) (h : rankT t n i < rankT t n k) : befB t i k = true := by
  have e : i ≠ k := fun e => by subst e; omega
  rcases bef_total (t := t) e with h1 | h1
  · exact h1
  · have := rank_lt hk h1; omega
theorem mem_ordT {t : Nat → Int} {n x : Nat} : x ∈ ordT t n ↔ x < n := by
  simp only [ordT, ordUp, atPlace, List.mem_flatMap, List.mem_filter, List.mem_range, beq_iff_eq]
  constructor
  · rintro ⟨_, _, h, _⟩; exact h
  · intro h; exact ⟨_, rank_bound h, h, rfl⟩
theorem ordT_pairwise (t : Nat → Int) (n : Nat) : (ordT t n).Pairwise (fun a b => befB t a b = true) := by
  have key : ∀ p, (ordUp t n p).Pairwise (fun a b => befB t a b = true) ∧ ∀ x ∈ ordUp t n p, x < n ∧ rankT t n x < p := by
    intro p
    induction p with
    | zero => exact ⟨by simp [ordUp], by simp [ordUp]⟩
    | succ p ih =>
      rw [ordUp_step]
      refine ⟨List.pairwise_append.2 ⟨ih.1, ?_, ?_⟩, ?_⟩
      · have hp := List.Pairwise.filter (R := fun a b : Nat => a < b) (fun j => rankT t n j == p) (List.pairwise_lt_range (n := n))
        refine List.Pairwise.imp_of_mem ?_ hp
        intro a b ha hb hab
        simp only [atPlace, List.mem_filter, List.mem_range, beq_iff_eq] at ha hb
        have := rank_inj ha.1 hb.1 (ha.2.trans hb.2.symm)
        omega
      · intro a ha b hb
        simp only [atPlace, List.mem_filter, List.mem_range, beq_iff_eq] at hb
        have := ih.2 a ha
        exact rank_iff hb.1 (by omega)
      · intro x hx
        rcases List.mem_append.1 hx with h | h
        · have := ih.2 x h; omega
        · simp only [atPlace, List.mem_filter, List.mem_range, beq_iff_eq] at h
          omega
  exact (key n).1
theorem pairwise_nodup {t : Nat → Int} {l : List Nat} (h : l.Pairwise (fun a b => befB t a b = true)) : l.Nodup :=
  h.imp fun {a b} hab e => by subst e; rw [bef_irr] at hab; cases hab
theorem ordT_length (t : Nat → Int) (n : Nat) : (ordT t n).length = n := by
  have hp : (ordT t n).Perm (List.range n) := (List.perm_ext_iff_of_nodup (pairwise_nodup (ordT_pairwise t n)) List.nodup_range).2 (fun x => by rw [mem_ordT, List.mem_range])
  simpa using hp.length_eq
/-- what the insertion keeps: the first i in their order -/
def InsOk (t : Nat → Int) (i : Nat) (S : List Nat) : Prop := S.Pairwise (fun a b => befB t a b = true) ∧ ∀ x, x ∈ S ↔ x < i
theorem insOk_zero (t : Nat → Int) : InsOk t 0 [] := ⟨.nil, by simp⟩
theorem insOk_one (t : Nat → Int) : InsOk t 1 [0] := ⟨by simp, by intro x; simp⟩
theorem insOk_step {t : Nat → Int} {i : Nat} {P Q : List Nat} (h : InsOk t i (P ++ Q)) (hQ : ∀ q ∈ Q, t q < t i) (hP : ∀ p, P.getLast? = some p → t i ≤ t p) : InsOk t (i + 1) (P ++ i :: Q) := by
  obtain ⟨h1, h2⟩ := h
  rw [List.pairwise_append] at h1
  refine ⟨List.pairwise_append.2 ⟨h1.1, List.pairwise_cons.2 ⟨fun q hq => by simp [befB, hQ q hq], h1.2.1⟩, ?_⟩, ?_⟩
  · intro a ha b hb
    rcases List.mem_cons.1 hb with e | hb
    · subst e
      have hai : a < b := (h2 a).1 (by simp [ha])
      cases hl : P.getLast? with
      | none => rw [List.getLast?_eq_none_iff] at hl; subst hl; cases ha
      | some p =>
        have hp := hP p hl
        obtain ⟨P', rfl⟩ : ∃ P', P = P' ++ [p] := by
          rw [List.getLast?_eq_some_iff] at hl
          exact hl
        rcases List.mem_append.1 ha with ha' | ha'
        · have h3 := (List.pairwise_append.1 h1.1).2.2 a ha' p (by simp)
          simp only [befB, Bool.or_eq_true, Bool.and_eq_true, decide_eq_true_eq] at h3 ⊢
          omega
        · simp only [List.mem_singleton] at ha'
          subst ha'
          simp only [befB, Bool.or_eq_true, Bool.and_eq_true, decide_eq_true_eq]
          omega
    · exact h1.2.2 a ha b hb
  · intro x
    have := h2 x
    simp only [List.mem_append, List.mem_cons] at this ⊢
    constructor
    · rintro (h | h | h)
      · have := this.1 (.inl h); omega
      · omega
      · have := this.1 (.inr h); omega
    · intro h
      by_cases e : x = i
      · exact .inr (.inl e)
      · rcases this.2 (by omega) with h | h
        · exact .inl h
        · exact .inr (.inr h)
theorem insOk_ord {t : Nat → Int} {n : Nat} {S : List Nat} (h : InsOk t n S) : S = ordT t n :=
  sorted_ext h.1 (ordT_pairwise t n) (fun x => by rw [h.2 x, mem_ordT])
end Go.Proofs.Ytmeppemobogicaa
