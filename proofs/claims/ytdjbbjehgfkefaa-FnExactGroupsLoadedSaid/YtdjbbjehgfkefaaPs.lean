/- Plain laws of seatings and groups, and how they read off the rule's verdicts. -/
import Derived.Test.YtdjbbjehgfkefaaUs
namespace Go.Proofs.Ytdjbbjehgfkefaa
open Go.ChangeShapes Go.WideShapes Go.ChangeAt Go.RowKit
set_option linter.unusedVariables false
set_option linter.unusedSimpArgs false
theorem countP_upto {τ : Type} (f : τ → Int) (q : τ → Bool) (N : Nat) (z : List τ) :
    z.countP (fun p => decide (f p < ((N + 1 : Nat) : Int)) && q p) = z.countP (fun p => decide (f p < (N : Int)) && q p) + z.countP (fun p => decide (f p = (N : Int)) && q p) := by
  induction z with
  | nil => rfl
  | cons a z ih =>
    simp only [List.countP_cons, ih]
    by_cases h1 : f a < (N : Int)
    · have h2 : decide (f a < ((N + 1 : Nat) : Int)) = true := decide_eq_true (by omega)
      have h3 : decide (f a = (N : Int)) = false := decide_eq_false (by omega)
      rw [h2, h3, decide_eq_true h1]
      cases q a <;> simp <;> omega
    · by_cases h3 : f a = (N : Int)
      · have h2 : decide (f a < ((N + 1 : Nat) : Int)) = true := decide_eq_true (by omega)
        rw [h2, decide_eq_true h3, decide_eq_false h1]
        cases q a <;> simp <;> omega
      · have h2 : decide (f a < ((N + 1 : Nat) : Int)) = false := decide_eq_false (by omega)
        rw [h2, decide_eq_false h3, decide_eq_false h1]
        cases q a <;> simp
theorem countP_split {τ : Type} (p q : τ → Bool) (z : List τ) (h : ∀ t, q t = true → p t = false) : z.countP p + z.countP q ≤ z.length := by
  induction z with
  | nil => simp
  | cons a z ih =>
    simp only [List.countP_cons, List.length_cons]
    cases hq : q a
    · cases p a <;> simp <;> omega
    · simp [h a hq]; omega
theorem nodup_two {a b : Int} : ∀ {l : List Int}, l.Nodup → (∀ x ∈ l, x = a ∨ x = b) → l.length ≤ 2
  | [], _, _ => by simp
  | [_], _, _ => by simp
  | [_, _], _, _ => by simp
  | x :: y :: z :: l, hd, hm => by
    exfalso
    simp only [List.nodup_cons, List.mem_cons, not_or] at hd
    have hx := hm x (by simp)
    have hy := hm y (by simp)
    have hz := hm z (by simp)
    rcases hx with rfl | rfl <;> rcases hy with rfl | rfl <;> rcases hz with rfl | rfl <;> simp_all
/-- a row seats two -/
theorem row_two (s : List Int) (hd : s.Nodup) (r : Int) : s.countP (fun x => decide (x / 2 = r)) ≤ 2 := by
  rw [List.countP_eq_length_filter]
  refine nodup_two (a := 2 * r) (b := 2 * r + 1) (hd.filter _) fun x hx => ?_
  have := (List.mem_filter.1 hx).2
  simp at this
  omega
def rowsU (s : List Int) : Nat → Nat
  | 0 => 0
  | n + 1 => rowsU s n + if s.any (fun x => decide (x / 2 = (n : Int))) then 1 else 0
theorem upto_rows (s : List Int) (hd : s.Nodup) : ∀ N : Nat, s.countP (fun x => decide (x / 2 < (N : Int)) && true) ≤ 2 * rowsU s N + s.countP (fun x => decide (x / 2 < 0))
  | 0 => by simp [rowsU]
  | N + 1 => by
    have ih := upto_rows s hd N
    rw [countP_upto, rowsU]
    have h2 := row_two s hd (N : Int)
    by_cases h : s.any (fun x => decide (x / 2 = (N : Int))) = true
    · rw [if_pos h]
      simp only [Bool.and_true] at ih ⊢
      omega
    · rw [if_neg h]
      have : s.countP (fun x => decide (x / 2 = (N : Int)) && true) = 0 := by
        rw [List.countP_eq_zero]
        intro x hx hc
        simp only [List.any_eq_true, not_exists, not_and] at h
        exact h x hx (by simpa using hc)
      omega
theorem countP_all {τ : Type} {p : τ → Bool} {z : List τ} (h : ∀ x ∈ z, p x = true) : z.countP p = z.length := by
  rw [List.countP_eq_length]; exact h
theorem seats_le (s : List Int) (hd : s.Nodup) (N : Nat) (hr : ∀ x ∈ s, 0 ≤ x ∧ x / 2 < (N : Int)) : s.length ≤ 2 * rowsU s N := by
  have h := upto_rows s hd N
  rw [countP_all (fun x hx => by simpa using (hr x hx).2)] at h
  have h0 : s.countP (fun x => decide (x / 2 < 0)) = 0 := by
    rw [List.countP_eq_zero]
    intro x hx hc
    have := (hr x hx).1
    simp at hc
    omega
  omega
/-- the loop's count -/
theorem rowsU_snoc (s : List Int) (x : Int) : ∀ N : Nat, rowsU (s ++ [x]) N = rowsU s N + if 0 ≤ x / 2 ∧ x / 2 < (N : Int) ∧ s.any (fun y => decide (y / 2 = x / 2)) = false then 1 else 0
  | 0 => by
    rw [if_neg (by omega)]; rfl
  | N + 1 => by
    rw [rowsU, rowsU, rowsU_snoc s x N, List.any_append]
    by_cases h : x / 2 = (N : Int)
    · have e0 : (if 0 ≤ x / 2 ∧ x / 2 < (N : Int) ∧ s.any (fun y => decide (y / 2 = x / 2)) = false then 1 else 0) = 0 := if_neg (by omega)
      have e1 : [x].any (fun x => decide (x / 2 = (N : Int))) = true := by simp [h]
      rw [e0, e1, h]
      cases ha : s.any (fun y => decide (y / 2 = (N : Int)))
      · have e2 : (if 0 ≤ (N : Int) ∧ (N : Int) < ((N + 1 : Nat) : Int) ∧ False then 1 else 0) = 0 := if_neg (by simp)
        rw [if_pos (show 0 ≤ (N : Int) ∧ (N : Int) < ((N + 1 : Nat) : Int) ∧ false = false from ⟨by omega, by omega, rfl⟩)]
        simp
      · rw [if_neg (show ¬ (0 ≤ (N : Int) ∧ (N : Int) < ((N + 1 : Nat) : Int) ∧ true = false) from fun hc => by cases hc.2.2)]
        simp
    · have e : [x].any (fun x => decide (x / 2 = (N : Int))) = false := by simp [h]
      rw [e, Bool.or_false]
      by_cases h2 : 0 ≤ x / 2 ∧ x / 2 < (N : Int) ∧ s.any (fun y => decide (y / 2 = x / 2)) = false
      · rw [if_pos h2, if_pos (show 0 ≤ x / 2 ∧ x / 2 < ((N + 1 : Nat) : Int) ∧ s.any (fun y => decide (y / 2 = x / 2)) = false from ⟨h2.1, by omega, h2.2.2⟩)]; omega
      · rw [if_neg h2, if_neg (show ¬ (0 ≤ x / 2 ∧ x / 2 < ((N + 1 : Nat) : Int) ∧ s.any (fun y => decide (y / 2 = x / 2)) = false) from fun hc => h2 ⟨hc.1, by have := hc.2.1; omega, hc.2.2⟩)]; omega
theorem countP_two {τ : Type} (p a b : τ → Bool) (z : List τ) (h : ∀ t, a t = true → b t = false) : z.countP (fun t => p t && a t) + z.countP (fun t => p t && b t) ≤ z.countP p := by
  induction z with
  | nil => simp
  | cons x z ih =>
    simp only [List.countP_cons]
    cases hp : p x
    · simp; omega
    · cases ha : a x
      · cases b x <;> simp <;> omega
      · rw [h x ha]; simp; omega
theorem kids_le (z : List (Int × Int)) (hd : (z.map (·.1)).Nodup) (hv : ∀ p ∈ z, p.2 = 1 ∨ p.2 = 2) (hc : ∀ p ∈ z, p.2 = 1 → ∃ p' ∈ z, p'.2 = 2 ∧ p'.1 / 2 = p.1 / 2) :
    ∀ N : Nat, z.countP (fun p => decide (p.1 / 2 < (N : Int)) && p.2 == 1) ≤ z.countP (fun p => decide (p.1 / 2 < (N : Int)) && p.2 == 2) + z.countP (fun p => decide (p.1 / 2 < 0))
  | 0 => by
    refine Nat.le_trans (List.countP_mono_left fun p _ h => ?_) (Nat.le_add_left _ _)
    simp at h ⊢; exact h.1
  | N + 1 => by
    have ih := kids_le z hd hv hc N
    rw [countP_upto, countP_upto]
    have h2 := row_two _ hd (N : Int)
    rw [List.countP_map] at h2
    have hs := countP_two (fun p : Int × Int => decide (p.1 / 2 = (N : Int))) (fun p => p.2 == 1) (fun p => p.2 == 2) z (fun t h => by simp at h ⊢; omega)
    have h2 : z.countP (fun p : Int × Int => decide (p.1 / 2 = (N : Int))) ≤ 2 := h2
    have hk : z.countP (fun p => decide (p.1 / 2 = (N : Int)) && p.2 == 1) ≤ z.countP (fun p => decide (p.1 / 2 = (N : Int)) && p.2 == 2) := by
      rcases Nat.eq_zero_or_pos (z.countP (fun p => decide (p.1 / 2 = (N : Int)) && p.2 == 1)) with h | h
      · omega
      · obtain ⟨p, hp, hpp⟩ := List.countP_pos_iff.1 h
        simp at hpp
        obtain ⟨p', hp', h1, h2'⟩ := hc p hp hpp.2
        have : 0 < z.countP (fun p => decide (p.1 / 2 = (N : Int)) && p.2 == 2) := List.countP_pos_iff.2 ⟨p', hp', by simp [h1, h2', hpp.1]⟩
        omega
    omega
def qAll (s : List Int) (g j : Nat) : Bool := !(j == g) && ((s.getD j 0).tdiv 2 == (s.getD g 0).tdiv 2)
def q2 (s v : List Int) (g j : Nat) : Bool := qAll s g j && v.getD j 0 == 2
def compF (q : Nat → Bool) (n : Nat) : Int := match (List.range n).find? q with | some j => (j : Int) | none => -1
theorem compF_found {q : Nat → Bool} {n k : Nat} (hk : k < n) (hq : q k = true) (hb : ∀ j, j < k → q j = false) : compF q n = k := by
  have h : (List.range n).find? q = some k := List.find?_range_eq_some.2 ⟨hq, List.mem_range.2 hk, fun j hj => by simp [hb j hj]⟩
  rw [compF, h]
theorem compF_none {q : Nat → Bool} {n : Nat} (hb : ∀ j, j < n → q j = false) : compF q n = -1 := by
  have h : (List.range n).find? q = none := List.find?_range_eq_none.2 (fun j hj => by simp [hb j hj])
  rw [compF, h]
theorem compF_cases (q : Nat → Bool) (n : Nat) : (∃ k, k < n ∧ q k = true ∧ (∀ j, j < k → q j = false) ∧ compF q n = k) ∨ ((∀ j, j < n → q j = false) ∧ compF q n = -1) := by
  cases h : (List.range n).find? q with
  | some k =>
    obtain ⟨h1, h2, h3⟩ := List.find?_range_eq_some.1 h
    exact .inl ⟨k, List.mem_range.1 h2, h1, fun j hj => by simpa using h3 j hj, by rw [compF, h]⟩
  | none => exact .inr ⟨fun j hj => by simpa using List.find?_range_eq_none.1 h j hj, by rw [compF, h]⟩
def okA (s v : List Int) (n : Int) (k : Nat) : Bool := (decide (0 ≤ s.getD k 0) && decide (s.getD k 0 ≤ 2 * n - 1)) && (!((s.take k).any (· == s.getD k 0)) && (v.getD k 0 == 1 || v.getD k 0 == 2))
def okI (s v : List Int) (n : Int) (k : Nat) : Bool := okA s v n k && (v.getD k 0 == 2 || decide (0 ≤ compF (q2 s v k) s.length))
def okB (s v : List Int) (k : Nat) : Bool := !(v.getD k 0 == 1 && (decide (compF (qAll s k) s.length < 0) || !(v.getD (compF (qAll s k) s.length).toNat 0 == 2)))
def isI (s v : List Int) (n : Int) : Bool := (List.range s.length).all (okI s v n)
def isS (s v : List Int) (n : Int) : Bool := (List.range s.length).all (okA s v n) && (List.range s.length).all (okB s v)
theorem okA_parts {s v : List Int} {n : Int} {k : Nat} (h : okA s v n k = true) : 0 ≤ s.getD k 0 ∧ s.getD k 0 ≤ 2 * n - 1 ∧ (s.take k).any (· == s.getD k 0) = false ∧ (v.getD k 0 = 1 ∨ v.getD k 0 = 2) := by
  simp only [okA, Bool.and_eq_true, decide_eq_true_eq, Bool.not_eq_true', Bool.or_eq_true, beq_iff_eq] at h
  exact ⟨h.1.1, h.1.2, h.2.1, h.2.2⟩
theorem take_apart {s : List Int} {j k : Nat} (hj : j < k) (hk : k < s.length) (h : (s.take k).any (· == s.getD k 0) = false) : s.getD j 0 ≠ s.getD k 0 := by
  intro he
  have h1 : (s.take k)[j]? = some (s.getD j 0) := by
    rw [List.getElem?_take_of_lt hj, List.getD_eq_getElem?_getD, List.getElem?_eq_getElem (by omega)]; rfl
  have := List.mem_of_getElem? h1
  rw [List.any_eq_false] at h
  exact h _ this (by simpa using he)
theorem all_apart {s v : List Int} {n : Int} (h : (List.range s.length).all (okA s v n) = true) {j k : Nat} (hj : j < s.length) (hk : k < s.length) (hne : j ≠ k) : s.getD j 0 ≠ s.getD k 0 := by
  rw [List.all_eq_true] at h
  rcases Nat.lt_or_gt_of_ne hne with hlt | hlt
  · exact take_apart hlt hk (okA_parts (h k (List.mem_range.2 hk))).2.2.1
  · exact fun he => take_apart hlt hj (okA_parts (h j (List.mem_range.2 hj))).2.2.1 he.symm
theorem row_one {s v : List Int} {n : Int} (h : (List.range s.length).all (okA s v n) = true) {g i j : Nat} (hg : g < s.length) (hi : i < s.length) (hj : j < s.length) (h1 : qAll s g i = true) (h2 : qAll s g j = true) : i = j := by
  simp only [qAll, Bool.and_eq_true, Bool.not_eq_true', beq_eq_false_iff_ne, ne_eq, beq_iff_eq] at h1 h2
  refine Classical.byContradiction fun hne => ?_
  have a1 := all_apart h hi hg h1.1
  have a2 := all_apart h hj hg h2.1
  have a3 := all_apart h hi hj hne
  rw [List.all_eq_true] at h
  have b1 := (okA_parts (h i (List.mem_range.2 hi))).1
  have b2 := (okA_parts (h j (List.mem_range.2 hj))).1
  have b3 := (okA_parts (h g (List.mem_range.2 hg))).1
  have c1 := h1.2
  have c2 := h2.2
  rw [Int.tdiv_eq_ediv_of_nonneg b1, Int.tdiv_eq_ediv_of_nonneg b3] at c1
  rw [Int.tdiv_eq_ediv_of_nonneg b2, Int.tdiv_eq_ediv_of_nonneg b3] at c2
  omega
theorem okB_eq {s v : List Int} {n : Int} (h : (List.range s.length).all (okA s v n) = true) {k : Nat} (hk : k < s.length) : okB s v k = (v.getD k 0 == 2 || decide (0 ≤ compF (q2 s v k) s.length)) := by
  have hv := (okA_parts (List.all_eq_true.1 h k (List.mem_range.2 hk))).2.2.2
  unfold okB
  rcases hv with hv | hv
  · rw [hv]
    rcases compF_cases (qAll s k) s.length with ⟨i, hi, hq, hb, e⟩ | ⟨hb, e⟩
    · rw [e, Int.toNat_natCast]
      cases h2 : (v.getD i 0 == 2)
      · have : compF (q2 s v k) s.length = -1 := compF_none fun j hj => by
          cases hq2 : q2 s v k j
          · rfl
          · exfalso
            unfold q2 at hq2
            rw [Bool.and_eq_true] at hq2
            have := row_one h hk hj hi hq2.1 hq
            subst this
            rw [h2] at hq2
            exact absurd hq2.2 (by decide)
        rw [this]
        simp
      · have : compF (q2 s v k) s.length = i := compF_found hi (by rw [q2, hq, h2]; rfl) (fun j hj => by rw [q2, hb j hj]; rfl)
        rw [this]
        simp
    · have : compF (q2 s v k) s.length = -1 := compF_none fun j hj => by rw [q2, hb j hj]; rfl
      rw [e, this]
      simp
  · rw [hv]; simp
theorem isI_eq_isS (s v : List Int) (n : Int) : isI s v n = isS s v n := by
  unfold isI isS
  cases h : (List.range s.length).all (okA s v n) with
  | false =>
    rw [Bool.false_and, List.all_eq_false]
    obtain ⟨k, hk, hh⟩ := List.all_eq_false.1 h
    exact ⟨k, hk, fun hc => hh (by rw [okI, Bool.and_eq_true] at hc; exact hc.1)⟩
  | true =>
    rw [Bool.true_and]
    have e : ∀ k ∈ List.range s.length, okI s v n k = okB s v k := fun k hk => by
      rw [okB_eq h (List.mem_range.1 hk), okI, List.all_eq_true.1 h k hk, Bool.true_and]
    cases hb : (List.range s.length).all (okB s v)
    · obtain ⟨k, hk, hh⟩ := List.all_eq_false.1 hb
      exact List.all_eq_false.2 ⟨k, hk, by rw [e k hk]; exact hh⟩
    · exact List.all_eq_true.2 fun k hk => by rw [e k hk]; exact List.all_eq_true.1 hb k hk
theorem getD_some {l : List Int} {k : Nat} (h : k < l.length) : l[k]? = some (l.getD k 0) := by
  rw [List.getD_eq_getElem?_getD, List.getElem?_eq_getElem h]; rfl
theorem nodup_of {s v : List Int} {n : Int} (h : (List.range s.length).all (okA s v n) = true) : s.Nodup := by
  rw [List.Nodup, List.pairwise_iff_getElem]
  intro i j hi hj hlt he
  refine all_apart h hi hj (by omega) ?_
  rw [List.getD_eq_getElem?_getD, List.getD_eq_getElem?_getD, List.getElem?_eq_getElem hi, List.getElem?_eq_getElem hj, he]
theorem count_all : ∀ {v : List Int}, (∀ x ∈ v, x = 1 ∨ x = 2) → v.countP (· == 1) + v.countP (· == 2) = v.length
  | [], _ => rfl
  | a :: v, h => by
    have ih := count_all (v := v) fun x hx => h x (List.mem_cons_of_mem _ hx)
    rw [List.countP_cons, List.countP_cons, List.length_cons]
    rcases h a List.mem_cons_self with rfl | rfl
    · simp; omega
    · simp; omega
/-- a seating: not more children than adults, and not fewer rows than are needed -/
theorem seating_law {s v : List Int} {n : Int} (hl : s.length = v.length) (hn : 0 ≤ n) (h : isI s v n = true) :
    v.countP (· == 1) ≤ v.countP (· == 2) ∧ v.countP (· == 1) + v.countP (· == 2) = v.length ∧ s.length ≤ 2 * rowsU s n.toNat := by
  have hA : (List.range s.length).all (okA s v n) = true := List.all_eq_true.2 fun k hk => by
    have := List.all_eq_true.1 h k hk
    rw [okI, Bool.and_eq_true] at this
    exact this.1
  have hd := nodup_of hA
  have hr : ∀ x ∈ s, 0 ≤ x ∧ x / 2 < ((n.toNat : Nat) : Int) := fun x hx => by
    obtain ⟨k, hk, rfl⟩ := List.mem_iff_getElem.1 hx
    have := okA_parts (List.all_eq_true.1 hA k (List.mem_range.2 hk))
    rw [List.getD_eq_getElem?_getD, List.getElem?_eq_getElem hk] at this
    simp only [Option.getD_some] at this
    omega
  have hv : ∀ k, k < v.length → v.getD k 0 = 1 ∨ v.getD k 0 = 2 := fun k hk => (okA_parts (List.all_eq_true.1 hA k (List.mem_range.2 (by omega)))).2.2.2
  have hz1 : (s.zip v).map (·.1) = s := List.map_fst_zip (by omega)
  have hz2 : (s.zip v).map (·.2) = v := List.map_snd_zip (by omega)
  have hget : ∀ k, k < s.length → (s.zip v)[k]? = some (s.getD k 0, v.getD k 0) := fun k hk => by
    rw [List.getElem?_zip_eq_some]; exact ⟨getD_some hk, getD_some (by omega)⟩
  have hmem : ∀ p ∈ s.zip v, ∃ k, k < s.length ∧ p = (s.getD k 0, v.getD k 0) := fun p hp => by
    obtain ⟨k, hk, rfl⟩ := List.mem_iff_getElem.1 hp
    have hk' : k < s.length := by rw [List.length_zip] at hk; omega
    refine ⟨k, hk', ?_⟩
    have := hget k hk'
    rw [List.getElem?_eq_getElem hk] at this
    exact Option.some.inj this
  refine ⟨?_, ?_, seats_le s hd _ hr⟩
  · have hk := kids_le (s.zip v) (by rw [hz1]; exact hd) (fun p hp => by obtain ⟨k, hk, rfl⟩ := hmem p hp; exact hv k (by omega)) (fun p hp h1 => by
      obtain ⟨k, hk, rfl⟩ := hmem p hp
      have hI := List.all_eq_true.1 h k (List.mem_range.2 hk)
      simp only at h1
      rw [okI, h1, Bool.and_eq_true] at hI
      have h2 : 0 ≤ compF (q2 s v k) s.length := by simpa using hI.2
      rcases compF_cases (q2 s v k) s.length with ⟨i, hi, hq, _, e⟩ | ⟨_, e⟩
      · simp only [q2, qAll, Bool.and_eq_true, Bool.not_eq_true', beq_eq_false_iff_ne, ne_eq, beq_iff_eq] at hq
        refine ⟨_, List.mem_of_getElem? (hget i hi), hq.2, ?_⟩
        have b1 := (okA_parts (List.all_eq_true.1 hA i (List.mem_range.2 hi))).1
        have b3 := (okA_parts (List.all_eq_true.1 hA k (List.mem_range.2 hk))).1
        have c1 := hq.1.2
        rw [Int.tdiv_eq_ediv_of_nonneg b1, Int.tdiv_eq_ediv_of_nonneg b3] at c1
        exact c1
      · omega) n.toNat
    have e1 : (s.zip v).countP (fun p => decide (p.1 / 2 < ((n.toNat : Nat) : Int)) && p.2 == 1) = v.countP (· == 1) := by
      conv => rhs; rw [← hz2, List.countP_map]
      refine List.countP_congr fun p hp => ?_
      have hx := hr p.1 (by rw [← hz1]; exact List.mem_map_of_mem hp)
      simp only [Function.comp, hx.2, decide_true, Bool.true_and]
    have e2 : (s.zip v).countP (fun p => decide (p.1 / 2 < ((n.toNat : Nat) : Int)) && p.2 == 2) = v.countP (· == 2) := by
      conv => rhs; rw [← hz2, List.countP_map]
      refine List.countP_congr fun p hp => ?_
      have hx := hr p.1 (by rw [← hz1]; exact List.mem_map_of_mem hp)
      simp only [Function.comp, hx.2, decide_true, Bool.true_and]
    have e3 : (s.zip v).countP (fun p => decide (p.1 / 2 < 0)) = 0 := by
      rw [List.countP_eq_zero]
      intro p hp hc
      have hx := (hr p.1 (by rw [← hz1]; exact List.mem_map_of_mem hp)).1
      simp at hc
      omega
    omega
  · exact count_all fun x hx => by
      obtain ⟨k, hk, rfl⟩ := List.mem_iff_getElem.1 hx
      have := hv k hk
      rwa [List.getD_eq_getElem?_getD, List.getElem?_eq_getElem hk] at this
def c1 (v : List Int) (k : Nat) : Nat := (v.take k).countP (· == 1)
def c2 (v : List Int) (k : Nat) : Nat := (v.take k).countP (· == 2)
/-- the seat of guest k in the usual seating -/
def seatV (v : List Int) (k : Nat) : Int :=
  if v.getD k 0 == 1 then 2 * (c1 v k : Int) else if (k : Int) - c1 v k < v.countP (· == 1) then 2 * ((k : Int) - c1 v k) + 1 else v.countP (· == 1) + ((k : Int) - c1 v k)
theorem c_step {v : List Int} {k : Nat} (h : k < v.length) : c1 v (k + 1) = c1 v k + (if v.getD k 0 == 1 then 1 else 0) ∧ c2 v (k + 1) = c2 v k + (if v.getD k 0 == 2 then 1 else 0) := by
  have e : v.getD k 0 = v[k] := by rw [List.getD_eq_getElem?_getD, List.getElem?_eq_getElem h]; rfl
  unfold c1 c2
  rw [List.take_succ_eq_append_getElem h, List.countP_append, List.countP_append, e, List.countP_singleton, List.countP_singleton]
  exact ⟨rfl, rfl⟩
theorem c_mono (v : List Int) {j k : Nat} (h : j ≤ k) : c1 v j ≤ c1 v k ∧ c2 v j ≤ c2 v k := by
  have e : (v.take k).take j = v.take j := by rw [List.take_take, Nat.min_eq_left h]
  unfold c1 c2
  rw [← e]
  exact ⟨(List.take_sublist _ _).countP_le, (List.take_sublist _ _).countP_le⟩
theorem c_all {v : List Int} (hv : ∀ x ∈ v, x = 1 ∨ x = 2) {k : Nat} (hk : k ≤ v.length) : c1 v k + c2 v k = k := by
  unfold c1 c2
  rw [count_all fun x hx => hv x (List.mem_of_mem_take hx), List.length_take, Nat.min_eq_left hk]
theorem c_end (v : List Int) : c1 v v.length = v.countP (· == 1) ∧ c2 v v.length = v.countP (· == 2) := by
  unfold c1 c2
  rw [List.take_length]; exact ⟨rfl, rfl⟩
theorem v_at {v : List Int} (hv : ∀ x ∈ v, x = 1 ∨ x = 2) {k : Nat} (hk : k < v.length) : v.getD k 0 = 1 ∨ v.getD k 0 = 2 := by
  rw [List.getD_eq_getElem?_getD, List.getElem?_eq_getElem hk]
  exact hv _ (List.getElem_mem hk)
/-- what a guest's seat is -/
theorem seat_is {v : List Int} (hv : ∀ x ∈ v, x = 1 ∨ x = 2) (hd : v.countP (· == 1) ≤ v.countP (· == 2)) {k : Nat} (hk : k < v.length) :
    (v.getD k 0 = 1 ∧ seatV v k = 2 * (c1 v k : Int) ∧ c1 v k < v.countP (· == 1)) ∨
    (v.getD k 0 = 2 ∧ c2 v k < v.countP (· == 2) ∧ ((c2 v k < v.countP (· == 1) ∧ seatV v k = 2 * (c2 v k : Int) + 1) ∨ (v.countP (· == 1) ≤ c2 v k ∧ seatV v k = v.countP (· == 1) + (c2 v k : Int)))) := by
  have h1 := c_step hk
  have h2 := c_mono v (show k + 1 ≤ v.length by omega)
  rw [(c_end v).1, (c_end v).2] at h2
  have h3 := c_all hv (show k ≤ v.length by omega)
  rcases v_at hv hk with h | h
  · left
    rw [h] at h1
    simp at h1
    refine ⟨h, by rw [seatV, h]; rfl, by omega⟩
  · right
    rw [h] at h1
    simp at h1
    refine ⟨h, by omega, ?_⟩
    have e : (k : Int) - c1 v k = c2 v k := by omega
    rw [seatV, h, e]
    by_cases hc : c2 v k < v.countP (· == 1)
    · left; exact ⟨hc, by rw [if_neg (by decide), if_pos (by omega)]⟩
    · right; exact ⟨by omega, by rw [if_neg (by decide), if_neg (by omega)]⟩
theorem seat_apart {v : List Int} (hv : ∀ x ∈ v, x = 1 ∨ x = 2) (hd : v.countP (· == 1) ≤ v.countP (· == 2)) {j k : Nat} (hj : j < k) (hk : k < v.length) : seatV v j ≠ seatV v k := by
  have a := seat_is hv hd (show j < v.length by omega)
  have b := seat_is hv hd hk
  have m := c_mono v (show j + 1 ≤ k by omega)
  have s := c_step (show j < v.length by omega)
  rcases a with ⟨a0, a1, a2⟩ | ⟨a0, a1, a2⟩
  · rw [a0] at s
    simp at s
    rcases b with ⟨b0, b1, b2⟩ | ⟨b0, b1, b2⟩ <;> omega
  · rw [a0] at s
    simp at s
    rcases b with ⟨b0, b1, b2⟩ | ⟨b0, b1, b2⟩ <;> omega
/-- an adult of each number -/
theorem adult_at {v : List Int} (m : Nat) : ∀ n, n ≤ v.length → m < c2 v n → ∃ j, j < n ∧ v.getD j 0 = 2 ∧ c2 v j = m
  | 0, _, h => by simp [c2] at h
  | n + 1, hn, h => by
    have s := (c_step (show n < v.length by omega)).2
    by_cases hm : m < c2 v n
    · obtain ⟨j, h1, h2⟩ := adult_at m n (by omega) hm
      exact ⟨j, by omega, h2⟩
    · cases hq : (v.getD n 0 == 2)
      · rw [hq] at s; simp at s; omega
      · rw [hq] at s; simp at s hq
        exact ⟨n, by omega, hq, by omega⟩
def needV (v : List Int) : Int := v.countP (· == 1) + (v.countP (· == 2) - v.countP (· == 1) + 1) / 2
def usualV (v : List Int) : List Int := (List.range v.length).map (seatV v)
theorem usual_get {v : List Int} {k : Nat} (hk : k < v.length) : (usualV v).getD k 0 = seatV v k := by
  rw [usualV, List.getD_eq_getElem?_getD, List.getElem?_map, List.getElem?_range hk]; rfl
theorem usual_ok {v : List Int} (hv : ∀ x ∈ v, x = 1 ∨ x = 2) (hd : v.countP (· == 1) ≤ v.countP (· == 2)) {n : Int} (hn : needV v ≤ n) : isI (usualV v) v n = true := by
  have hl : (usualV v).length = v.length := by simp [usualV]
  have hn' : (v.countP (· == 1) : Int) + ((v.countP (· == 2) : Int) - v.countP (· == 1) + 1) / 2 ≤ n := hn
  refine List.all_eq_true.2 fun k hk => ?_
  rw [List.mem_range, hl] at hk
  have hs := seat_is hv hd hk
  have hg := usual_get hk
  have h0 : okA (usualV v) v n k = true := by
    have e1 : ((usualV v).take k).any (· == seatV v k) = false := by
      rw [List.any_eq_false]
      intro x hx hc
      obtain ⟨j, hj, rfl⟩ := List.mem_iff_getElem.1 hx
      have hj' : j < k := by rw [List.length_take] at hj; omega
      have he : ((usualV v).take k)[j] = seatV v j := by
        have := usual_get (v := v) (show j < v.length by omega)
        rw [List.getD_eq_getElem?_getD, List.getElem?_eq_getElem (by omega)] at this
        rw [List.getElem_take]
        exact this
      rw [he] at hc
      exact seat_apart hv hd hj' hk (by simpa using hc)
    have e2 : (v.getD k 0 == 1 || v.getD k 0 == 2) = true := by rcases v_at hv hk with h | h <;> rw [h] <;> rfl
    rw [okA, hg, e1, e2]
    have : 0 ≤ seatV v k ∧ seatV v k ≤ 2 * n - 1 := by rcases hs with ⟨_, h1, h2⟩ | ⟨_, h1, h2⟩ <;> omega
    rw [decide_eq_true this.1, decide_eq_true this.2]
    rfl
  rw [okI, h0, Bool.true_and]
  rcases hs with ⟨h1, h2, h3⟩ | ⟨h1, h2, h3⟩
  · rw [h1]
    obtain ⟨j, hj, j1, j2⟩ := adult_at (v := v) (c1 v k) v.length (Nat.le_refl _) (by rw [(c_end v).2]; omega)
    have sj := seat_is hv hd hj
    have gj := usual_get hj
    have hq : q2 (usualV v) v k j = true := by
      have hne : (j == k) = false := by rw [beq_eq_false_iff_ne]; intro h; subst h; omega
      have hr : seatV v j = 2 * (c1 v k : Int) + 1 := by rcases sj with ⟨s1, _⟩ | ⟨_, _, s2⟩ <;> omega
      rw [q2, qAll, hne, gj, hg, h2, hr, j1, Int.tdiv_eq_ediv_of_nonneg (by omega), Int.tdiv_eq_ediv_of_nonneg (by omega), show (2 * (c1 v k : Int) + 1) / 2 = 2 * (c1 v k : Int) / 2 by omega]
      simp
    rcases compF_cases (q2 (usualV v) v k) (usualV v).length with ⟨i, _, _, _, e⟩ | ⟨hb, e⟩
    · rw [e]; simp
    · have := hb j (by omega)
      rw [hq] at this
      cases this
  · rw [h1]; rfl
def mostV (l : List Int) : Int := l.foldl (fun m x => max m (x.tdiv 2 + 1)) 0
theorem most_le {B : Int} : ∀ (l : List Int) (m : Int), m ≤ B → (∀ x ∈ l, x.tdiv 2 + 1 ≤ B) → l.foldl (fun m x => max m (x.tdiv 2 + 1)) m ≤ B
  | [], m, h, _ => h
  | a :: l, m, h, hl => most_le l (max m (a.tdiv 2 + 1)) (by have := hl a List.mem_cons_self; omega) (fun x hx => hl x (List.mem_cons_of_mem _ hx))
theorem most_ge : ∀ (l : List Int) (m : Int), m ≤ l.foldl (fun m x => max m (x.tdiv 2 + 1)) m ∧ (∀ x ∈ l, x.tdiv 2 + 1 ≤ l.foldl (fun m x => max m (x.tdiv 2 + 1)) m)
  | [], m => ⟨Int.le_refl _, fun x hx => by cases hx⟩
  | a :: l, m => by
    have ih := most_ge l (max m (a.tdiv 2 + 1))
    simp only [List.foldl_cons]
    refine ⟨by omega, fun x hx => ?_⟩
    rcases List.mem_cons.1 hx with rfl | hx
    · omega
    · exact ih.2 x hx
theorem usual_most {v : List Int} (hv : ∀ x ∈ v, x = 1 ∨ x = 2) (hd : v.countP (· == 1) ≤ v.countP (· == 2)) : mostV (usualV v) = needV v := by
  have hN : needV v = (v.countP (· == 1) : Int) + ((v.countP (· == 2) : Int) - v.countP (· == 1) + 1) / 2 := rfl
  have hall := count_all hv
  have hmem : ∀ k, k < v.length → seatV v k ∈ usualV v := fun k hk => List.mem_map_of_mem (List.mem_range.2 hk)
  refine Int.le_antisymm (most_le _ _ (by omega) fun x hx => ?_) ?_
  · obtain ⟨k, hk, rfl⟩ := List.mem_map.1 hx
    have hs := seat_is hv hd (List.mem_range.1 hk)
    rw [Int.tdiv_eq_ediv_of_nonneg (by rcases hs with ⟨_, h1, h2⟩ | ⟨_, h1, h2⟩ <;> omega)]
    rcases hs with ⟨_, h1, h2⟩ | ⟨_, h1, h2⟩ <;> omega
  · by_cases h0 : v.countP (· == 2) = 0
    · have := (most_ge (usualV v) 0).1
      unfold mostV
      omega
    · obtain ⟨j, hj, j1, j2⟩ := adult_at (v := v) (v.countP (· == 2) - 1) v.length (Nat.le_refl _) (by rw [(c_end v).2]; omega)
      have hs := seat_is hv hd hj
      have hg := (most_ge (usualV v) 0).2 _ (hmem j hj)
      rw [Int.tdiv_eq_ediv_of_nonneg (by rcases hs with ⟨_, h1, h2⟩ | ⟨_, h1, h2⟩ <;> omega)] at hg
      unfold mostV
      rcases hs with ⟨s1, _⟩ | ⟨_, _, h2⟩ <;> omega
/-- prefix sums -/
def preS (N : List Int) : Nat → Int
  | 0 => 0
  | k + 1 => preS N k + N.getD k 0
def outG (N : List Int) (rows : Int) : Nat → Nat
  | 0 => 0
  | k + 1 => if preS N (k + 1) ≤ rows then k + 1 else outG N rows k
theorem preS_mono {N : List Int} (h : ∀ x ∈ N, 0 ≤ x) {i k : Nat} (hik : i ≤ k) : preS N i ≤ preS N k := by
  induction k with
  | zero => rw [Nat.le_zero.1 hik]; exact Int.le_refl _
  | succ k ih =>
    rcases Nat.lt_or_ge i (k + 1) with hl | hl
    · have := ih (by omega)
      have h0 : 0 ≤ N.getD k 0 := by
        rw [List.getD_eq_getElem?_getD]
        cases hx : N[k]? with
        | none => simp
        | some x => exact h x (List.mem_of_getElem? hx)
      rw [preS]; omega
    · rw [show i = k + 1 by omega]; exact Int.le_refl _
theorem outG_le (N : List Int) (rows : Int) : ∀ k, outG N rows k ≤ k
  | 0 => Nat.le_refl _
  | k + 1 => by
    have := outG_le N rows k
    rw [outG]; split <;> omega
theorem outG_iff {N : List Int} (h : ∀ x ∈ N, 0 ≤ x) (rows : Int) : ∀ k i, i < k → (preS N (i + 1) ≤ rows ↔ i < outG N rows k)
  | 0, i, hi => absurd hi (Nat.not_lt_zero _)
  | k + 1, i, hi => by
    rw [outG]
    by_cases hp : preS N (k + 1) ≤ rows
    · rw [if_pos hp]
      have := preS_mono h (show i + 1 ≤ k + 1 by omega)
      exact ⟨fun _ => hi, fun _ => by omega⟩
    · rw [if_neg hp]
      by_cases hk : i < k
      · exact outG_iff h rows k i hk
      · have : i = k := by omega
        subst this
        have := outG_le N rows i
        exact ⟨fun hc => absurd hc hp, fun hc => by omega⟩
theorem outG_more (N : List Int) {r r' : Int} (h : r ≤ r') : ∀ k, outG N r k ≤ outG N r' k
  | 0 => Nat.le_refl _
  | k + 1 => by
    have ih := outG_more N h k
    have hl := outG_le N r k
    rw [outG, outG]
    by_cases h1 : preS N (k + 1) ≤ r
    · rw [if_pos h1, if_pos (by omega)]; exact Nat.le_refl _
    · rw [if_neg h1]; split <;> omega
def vl (a b c : Int) (l : List Int) : List Int := l.map (verd a b c)
theorem vl_len (a b c : Int) (l : List Int) : (vl a b c l).length = l.length := by simp [vl]
theorem vl_get (a b c : Int) {l : List Int} {k : Nat} {x : Int} (h : l[k]? = some x) : (vl a b c l).getD k 0 = verd a b c x := by
  rw [List.getD_eq_getElem?_getD, vl, List.getElem?_map, h]; rfl
theorem cnt_vl (a b c v : Int) (l : List Int) (k : Nat) : cntV a b c v (l.take k) = (((vl a b c l).take k).countP (· == v) : Nat) := by
  rw [cntV, vl, ← List.map_take, List.countP_map, List.countP_eq_length_filter]; rfl
theorem cnt_vl' (a b c v : Int) (l : List Int) : cntV a b c v l = ((vl a b c l).countP (· == v) : Nat) := by
  have := cnt_vl a b c v l l.length
  rwa [List.take_length, ← vl_len a b c l, List.take_length] at this
theorem rowC_ok {a b c : Int} {l : List Int} (h : rowC a b c l = 0) : (∀ x ∈ vl a b c l, x = 1 ∨ x = 2) ∧ (vl a b c l).countP (· == 1) ≤ (vl a b c l).countP (· == 2) ∧ rowN a b c l = needV (vl a b c l) := by
  unfold rowC at h
  rw [cnt_vl', cnt_vl', ← vl_len a b c l] at h
  generalize hv : vl a b c l = v at h
  have h3 : ¬ ((v.countP (· == 1) : Nat) : Int) + (v.countP (· == 2) : Nat) < v.length := fun hc => by rw [if_pos hc] at h; omega
  rw [if_neg h3] at h
  have h4 : ¬ ((v.countP (· == 2) : Nat) : Int) < (v.countP (· == 1) : Nat) := fun hc => by rw [if_pos hc] at h; omega
  refine ⟨fun x hx => ?_, by omega, ?_⟩
  · rcases Classical.em (x = 1 ∨ x = 2) with hq | hq
    · exact hq
    · exfalso
      have hs := countP_two (fun _ => true) (fun t : Int => t == 1) (fun t : Int => t == 2) v (fun t ht => by rw [beq_iff_eq] at ht; subst ht; rfl)
      simp only [Bool.true_and] at hs
      have hc : v.countP (fun t => t == 1 || t == 2) < v.length := by
        rw [List.countP_eq_length_filter]
        exact List.length_filter_lt_length_iff_exists.2 ⟨x, hx, by simp; omega⟩
      have hd : v.countP (fun t => t == 1) + v.countP (fun t => t == 2) ≤ v.countP (fun t => t == 1 || t == 2) := by
        have := countP_two (fun t : Int => t == 1 || t == 2) (fun t : Int => t == 1) (fun t : Int => t == 2) v (fun t ht => by rw [beq_iff_eq] at ht; subst ht; rfl)
        have e1 : (fun t : Int => (t == 1 || t == 2) && t == 1) = (fun t : Int => t == 1) := by funext t; cases (t == 1) <;> cases (t == 2) <;> rfl
        have e2 : (fun t : Int => (t == 1 || t == 2) && t == 2) = (fun t : Int => t == 2) := by funext t; cases (t == 1) <;> cases (t == 2) <;> rfl
        rwa [e1, e2] at this
      omega
  · unfold rowN
    rw [cnt_vl', cnt_vl', ← vl_len a b c l, hv, if_neg h3, if_neg h4]; rfl
theorem usUp_vl {a b c : Int} {l : List Int} : ∀ k, k ≤ l.length → usUp a b c l k = (List.range k).map (seatV (vl a b c l))
  | 0, _ => rfl
  | k + 1, h => by
    have hx := List.getElem?_eq_getElem (show k < l.length by omega)
    rw [usUp_step a b c hx, usUp_vl k (by omega), List.range_succ, List.map_append, List.map_singleton]
    congr 2
    rw [seatOf, seatV, c1, vl_get a b c hx, cnt_vl, cnt_vl']
theorem usual_vl (a b c : Int) (l : List Int) : usUp a b c l l.length = usualV (vl a b c l) := by rw [usUp_vl _ (Nat.le_refl _), usualV, vl_len]
end Go.Proofs.Ytdjbbjehgfkefaa
