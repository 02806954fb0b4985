/- Sorting in place, at any length: what exchanges inside a part of a list do. Plain. -/
import Derived.Test.YtmbchcenclfjoaaRows
namespace Go.Proofs.Ytmbchcenclfjoaa
set_option linter.unusedVariables false
set_option linter.unusedSimpArgs false
/-- number p of a list -/
def nth (d : List Int) (p : Nat) : Int := d.getD p 0
theorem nth_some {d : List Int} {p : Nat} (h : p < d.length) : d[p]? = some (nth d p) := by
  rw [List.getElem?_eq_getElem h]
  simp [nth, List.getD_eq_getElem?_getD, List.getElem?_eq_getElem h]
/-- two numbers change their places -/
def swp (d : List Int) (i j : Nat) : List Int := (d.set i (nth d j)).set j (nth d i)
theorem swp_len (d : List Int) (i j : Nat) : (swp d i j).length = d.length := by simp [swp]
theorem swp_perm {d : List Int} {i j : Nat} (hi : i < d.length) (hj : j < d.length) : (swp d i j).Perm d := by
  have e1 : nth d i = d[i] := by simp [nth, List.getD_eq_getElem?_getD, List.getElem?_eq_getElem hi]
  have e2 : nth d j = d[j] := by simp [nth, List.getD_eq_getElem?_getD, List.getElem?_eq_getElem hj]
  unfold swp
  rw [e1, e2]
  exact List.set_set_perm hi hj
theorem swp_nth {d : List Int} {i j p : Nat} (hi : i < d.length) (hj : j < d.length) : nth (swp d i j) p = if p = j then nth d i else if p = i then nth d j else nth d p := by
  unfold nth swp
  rw [List.getD_eq_getElem?_getD, List.getElem?_set]
  by_cases h1 : j = p
  · subst h1
    simp [hj, nth]
  · rw [if_neg h1, if_neg (fun h => h1 h.symm), List.getElem?_set]
    by_cases h2 : i = p
    · subst h2
      simp [hi, nth]
    · rw [if_neg h2, if_neg (fun h => h2 h.symm), List.getD_eq_getElem?_getD]
/-- from d by exchanges inside [a, b) -/
inductive Sw (a b : Nat) (d : List Int) : List Int → Prop
  | refl : Sw a b d d
  | ex {d' : List Int} {i j : Nat} : Sw a b d d' → a ≤ i → i < b → a ≤ j → j < b → Sw a b d (swp d' i j)
theorem Sw.len {a b : Nat} {d d' : List Int} (h : Sw a b d d') : d'.length = d.length := by
  induction h with
  | refl => rfl
  | ex _ _ _ _ _ ih => rw [swp_len, ih]
theorem Sw.trans {a b : Nat} {d d' d'' : List Int} (h : Sw a b d d') (k : Sw a b d' d'') : Sw a b d d'' := by
  induction k with
  | refl => exact h
  | ex _ h1 h2 h3 h4 ih => exact ih.ex h1 h2 h3 h4
theorem Sw.mono {a b a' b' : Nat} {d d' : List Int} (ha : a' ≤ a) (hb : b ≤ b') (h : Sw a b d d') : Sw a' b' d d' := by
  induction h with
  | refl => exact Sw.refl
  | ex _ h1 h2 h3 h4 ih => exact ih.ex (by omega) (by omega) (by omega) (by omega)
theorem Sw.perm {a b : Nat} {d d' : List Int} (hb : b ≤ d.length) (h : Sw a b d d') : d'.Perm d := by
  induction h with
  | refl => exact List.Perm.refl _
  | ex h0 h1 h2 h3 h4 ih =>
    have := h0.len
    exact (swp_perm (by omega) (by omega)).trans ih
theorem Sw.out {a b : Nat} {d d' : List Int} (hb : b ≤ d.length) (h : Sw a b d d') {p : Nat} (hp : p < a ∨ b ≤ p) : nth d' p = nth d p := by
  induction h with
  | refl => rfl
  | ex h0 h1 h2 h3 h4 ih =>
    have := h0.len
    rw [swp_nth (by omega) (by omega), if_neg (by omega), if_neg (by omega), ih]
theorem Sw.all {P : Int → Prop} {a b : Nat} {d d' : List Int} (hb : b ≤ d.length) (h : Sw a b d d') (ha : ∀ p, a ≤ p → p < b → P (nth d p)) : ∀ p, a ≤ p → p < b → P (nth d' p) := by
  induction h with
  | refl => exact ha
  | ex h0 h1 h2 h3 h4 ih =>
    have := h0.len
    intro p hp1 hp2
    rw [swp_nth (by omega) (by omega)]
    split
    · exact ih _ h1 h2
    · split
      · exact ih _ h3 h4
      · exact ih p hp1 hp2
/-- sorted from a, ahead of i -/
def SrtTo (a i : Nat) (d : List Int) : Prop := ∀ p q, a ≤ p → p < q → q < i → nth d p ≤ nth d q
/-- sorted but for place j -/
def Hole (a i j : Nat) (d : List Int) : Prop := ∀ p q, a ≤ p → p < q → q ≤ i → q ≠ j → nth d p ≤ nth d q
theorem Hole.start {a i : Nat} {d : List Int} (h : SrtTo a i d) : Hole a i i d := fun p q h1 h2 h3 h4 => h p q h1 h2 (by omega)
theorem Hole.bottom {a i : Nat} {d : List Int} (h : Hole a i a d) : SrtTo a (i + 1) d := fun p q h1 h2 h3 => h p q h1 h2 (by omega) (by omega)
theorem Hole.ends {a i j : Nat} {d : List Int} (h : Hole a i j d) (hj : a < j) (hji : j ≤ i) (hx : ¬ nth d j < nth d (j - 1)) : SrtTo a (i + 1) d := fun p q h1 h2 h3 => by
  by_cases hq : q = j
  · subst hq
    by_cases hp : p = q - 1
    · subst hp; omega
    · have := h p (q - 1) h1 (by omega) (by omega) (by omega)
      omega
  · exact h p q h1 h2 (by omega) hq
theorem Hole.step {a i j : Nat} {d : List Int} (h : Hole a i j d) (hj : a < j) (hji : j ≤ i) (hi : i < d.length) (hx : nth d j < nth d (j - 1)) : Hole a i (j - 1) (swp d j (j - 1)) := fun p q h1 h2 h3 h4 => by
  rw [swp_nth (by omega) (by omega), swp_nth (by omega) (by omega)]
  by_cases hq : q = j
  · subst hq
    rw [if_neg (show ¬ q = q - 1 by omega), if_pos rfl]
    by_cases hp : p = q - 1
    · rw [if_pos hp]; omega
    · rw [if_neg hp, if_neg (by omega)]
      exact h p (q - 1) h1 (by omega) (by omega) (by omega)
  · rw [if_neg h4, if_neg hq]
    by_cases hp : p = j - 1
    · rw [if_pos hp]
      exact h j q (by omega) (by omega) h3 hq
    · rw [if_neg hp]
      by_cases hpj : p = j
      · rw [if_pos hpj]
        exact h (j - 1) q (by omega) (by omega) h3 hq
      · rw [if_neg hpj]
        exact h p q h1 h2 h3 hq
theorem srt_list {d : List Int} (h : SrtTo 0 d.length d) : d.Pairwise (· ≤ ·) := by
  rw [List.pairwise_iff_getElem]
  intro i j hi hj hij
  have := h i j (by omega) hij hj
  simpa [nth, List.getD_eq_getElem?_getD, List.getElem?_eq_getElem hi, List.getElem?_eq_getElem hj] using this
theorem SrtTo.snoc {a i : Nat} {d : List Int} (h : SrtTo a i d) (hi : a < i) (hx : ¬ nth d i < nth d (i - 1)) : SrtTo a (i + 1) d := fun p q h1 h2 h3 => by
  by_cases hq : q = i
  · subst hq
    by_cases hp : p = q - 1
    · subst hp; omega
    · have := h p (q - 1) h1 (by omega) (by omega)
      omega
  · exact h p q h1 h2 (by omega)
theorem SrtTo.keep {a i b : Nat} {d d' : List Int} (h : SrtTo a i d) (hb : b ≤ d.length) (hs : Sw i b d d') : SrtTo a i d' := fun p q h1 h2 h3 => by
  rw [hs.out hb (by omega), hs.out hb (by omega)]
  exact h p q h1 h2 h3
theorem Hole.swap {a i : Nat} {d : List Int} (h : SrtTo a i d) (hi : i < d.length) (h1 : 1 ≤ i) : Hole a (i - 1) (i - 1) (swp d i (i - 1)) := fun p q h2 h3 h4 h5 => by
  rw [swp_nth hi (by omega), swp_nth hi (by omega), if_neg (by omega), if_neg (by omega), if_neg (by omega), if_neg (by omega)]
  exact h p q h2 h3 (by omega)
/-! ### heaps: the part [f, f + hi) -/
def Hp (f hi : Nat) (d : List Int) (i : Nat) : Prop := ∀ c, (c = 2 * i + 1 ∨ c = 2 * i + 2) → c < hi → nth d (f + c) ≤ nth d (f + i)
/-- a heap from lo on, but for place r -/
def Inv (lo hi f r : Nat) (d : List Int) : Prop := (∀ i, lo ≤ i → i < hi → i ≠ r → Hp f hi d i) ∧ (∀ q, lo ≤ q → (r = 2 * q + 1 ∨ r = 2 * q + 2) → ∀ c, (c = 2 * r + 1 ∨ c = 2 * r + 2) → c < hi → nth d (f + c) ≤ nth d (f + q))
def AllHp (lo hi f : Nat) (d : List Int) : Prop := ∀ i, lo ≤ i → i < hi → Hp f hi d i
theorem Inv.start {lo hi f : Nat} {d : List Int} (h : AllHp (lo + 1) hi f d) : Inv lo hi f lo d :=
  ⟨fun i h1 h2 h3 => h i (by omega) h2, fun q h1 h2 => by omega⟩
theorem Inv.leaf {lo hi f r : Nat} {d : List Int} (h : Inv lo hi f r d) (hr : hi ≤ 2 * r + 1) : AllHp lo hi f d := fun i h1 h2 => by
  by_cases e : i = r
  · subst e
    intro c hc hch
    omega
  · exact h.1 i h1 h2 e
theorem Inv.stop {lo hi f r C : Nat} {d : List Int} (h : Inv lo hi f r d) (hC : ∀ c, (c = 2 * r + 1 ∨ c = 2 * r + 2) → c < hi → nth d (f + c) ≤ nth d (f + C)) (hx : ¬ nth d (f + r) < nth d (f + C)) : AllHp lo hi f d := fun i h1 h2 => by
  by_cases e : i = r
  · subst e
    intro c hc hch
    have := hC c hc hch
    omega
  · exact h.1 i h1 h2 e
theorem Inv.step {lo hi f r C : Nat} {d : List Int} (h : Inv lo hi f r d) (hf : f + hi ≤ d.length) (hlr : lo ≤ r) (hc : C = 2 * r + 1 ∨ C = 2 * r + 2) (hch : C < hi) (hC : ∀ c, (c = 2 * r + 1 ∨ c = 2 * r + 2) → c < hi → nth d (f + c) ≤ nth d (f + C)) (hx : nth d (f + r) < nth d (f + C)) : Inv lo hi f C (swp d (f + r) (f + C)) := by
  have E : ∀ p, nth (swp d (f + r) (f + C)) (f + p) = if p = C then nth d (f + r) else if p = r then nth d (f + C) else nth d (f + p) := fun p => by
    rw [swp_nth (by omega) (by omega)]
    by_cases h1 : p = C
    · rw [if_pos (by omega), if_pos h1]
    · rw [if_neg (by omega), if_neg h1]
      by_cases h2 : p = r
      · rw [if_pos (by omega), if_pos h2]
      · rw [if_neg (by omega), if_neg h2]
  constructor
  · intro i h1 h2 h3 c hci hch2
    rw [E, E, if_neg h3]
    by_cases hir : i = r
    · subst hir
      rw [if_pos rfl]
      by_cases hcC : c = C
      · rw [if_pos hcC]; omega
      · rw [if_neg hcC, if_neg (by omega)]
        exact hC c hci hch2
    · rw [if_neg hir, if_neg (by omega)]
      by_cases hcr : c = r
      · rw [if_pos hcr]
        exact h.2 i h1 (by omega) C hc hch
      · rw [if_neg hcr]
        exact h.1 i h1 h2 hir c hci hch2
  · intro q h1 h2 c hci hch2
    have hqr : q = r := by omega
    subst hqr
    rw [E, E, if_neg (by omega), if_neg (by omega), if_neg (by omega), if_pos rfl]
    exact h.1 C (by omega) hch (by omega) c hci hch2
theorem root_max {hi f : Nat} {d : List Int} (h : AllHp 0 hi f d) : ∀ p, p < hi → nth d (f + p) ≤ nth d f := by
  intro p
  induction p using Nat.strongRecOn with
  | ind p ih =>
    intro hp
    rcases Nat.eq_zero_or_pos p with rfl | hpos
    · exact Int.le_refl _
    · have h1 := ih ((p - 1) / 2) (by omega) (by omega)
      have h2 := h ((p - 1) / 2) (by omega) (by omega) p (by omega) hp
      omega
/-- the second half of the sort by a heap: k numbers lie in the heap, the others are sorted and not less -/
def Pop (f hi k : Nat) (d : List Int) : Prop := AllHp 0 k f d ∧ SrtTo (f + k) (f + hi) d ∧ ∀ p q, p < k → k ≤ q → q < hi → nth d (f + p) ≤ nth d (f + q)
theorem Pop.start {f hi : Nat} {d : List Int} (h : AllHp 0 hi f d) : Pop f hi hi d := ⟨h, fun p q h1 h2 h3 => by omega, fun p q h1 h2 h3 => by omega⟩
theorem Pop.swap {f hi k : Nat} {d : List Int} (hf : f + hi ≤ d.length) (hk : k < hi) (h : Pop f hi (k + 1) d) : AllHp 1 k f (swp d f (f + k)) ∧ SrtTo (f + k) (f + hi) (swp d f (f + k)) ∧ ∀ p q, p < k → k ≤ q → q < hi → nth (swp d f (f + k)) (f + p) ≤ nth (swp d f (f + k)) (f + q) := by
  obtain ⟨h1, h2, h3⟩ := h
  have hm := root_max h1
  have E : ∀ p, nth (swp d f (f + k)) (f + p) = if p = k then nth d f else if p = 0 then nth d (f + k) else nth d (f + p) := fun p => by
    rw [swp_nth (by omega) (by omega)]
    by_cases a1 : p = k
    · rw [if_pos (by omega), if_pos a1]
    · rw [if_neg (by omega), if_neg a1]
      by_cases a2 : p = 0
      · rw [if_pos (by omega), if_pos a2]
      · rw [if_neg (by omega), if_neg a2]
  refine ⟨?_, ?_, ?_⟩
  · intro i hi1 hi2 c hc hck
    rw [E, E, if_neg (by omega), if_neg (by omega), if_neg (by omega), if_neg (by omega)]
    exact h1 i (by omega) (by omega) c hc (by omega)
  · intro p q hp hpq hq
    obtain ⟨p', rfl⟩ : ∃ p', p = f + p' := ⟨p - f, by omega⟩
    obtain ⟨q', rfl⟩ : ∃ q', q = f + q' := ⟨q - f, by omega⟩
    rw [E, E, if_neg (show ¬ q' = k by omega), if_neg (show ¬ q' = 0 by omega)]
    by_cases a1 : p' = k
    · rw [if_pos a1]
      have := h3 0 q' (by omega) (by omega) (by omega)
      simpa using this
    · rw [if_neg a1, if_neg (by omega)]
      exact h2 _ _ (by omega) (by omega) hq
  · intro p q hp hkq hq
    rw [E, E, if_neg (show ¬ p = k by omega)]
    have hd : ∀ x, x < k + 1 → ∀ q, k ≤ q → q < hi → nth d (f + x) ≤ (if q = k then nth d f else if q = 0 then nth d (f + k) else nth d (f + q)) := by
      intro x hx q hkq hq
      by_cases a1 : q = k
      · rw [if_pos a1]
        exact hm x hx
      · rw [if_neg a1, if_neg (by omega)]
        exact h3 x q hx (by omega) hq
    by_cases a2 : p = 0
    · rw [if_pos a2]
      exact hd k (by omega) q hkq hq
    · rw [if_neg a2]
      exact hd p (by omega) q hkq hq
theorem Pop.next {f hi k : Nat} {d d' : List Int} (hf : f + hi ≤ d.length) (hk : k < hi) (h2 : SrtTo (f + k) (f + hi) d) (h3 : ∀ p q, p < k → k ≤ q → q < hi → nth d (f + p) ≤ nth d (f + q)) (hs : Sw f (f + k) d d') (h1 : AllHp 0 k f d') : Pop f hi k d' := by
  refine ⟨h1, ?_, ?_⟩
  · intro p q hp hpq hq
    rw [hs.out (by omega) (by omega), hs.out (by omega) (by omega)]
    exact h2 p q hp hpq hq
  · intro p q hp hkq hq
    rw [hs.out (p := f + q) (by omega) (by omega)]
    exact hs.all (P := fun x => x ≤ nth d (f + q)) (by omega) (fun p hp1 hp2 => by
      obtain ⟨p', rfl⟩ : ∃ p', p = f + p' := ⟨p - f, by omega⟩
      exact h3 p' q (by omega) hkq hq) (f + p) (by omega) (by omega)
theorem Pop.done {f hi : Nat} {d : List Int} (h : Pop f hi 0 d) : SrtTo f (f + hi) d := h.2.1
/-! ### partitions: C: what goes to the left -/
def PQ (C : Int → Prop) (a b : Nat) (d0 : List Int) (y : Int) (i j : Nat) (d : List Int) : Prop := Sw a b d0 d ∧ nth d a = y ∧ (∀ p, a < p → p < i → C (nth d p)) ∧ (∀ p, j < p → p < b → ¬ C (nth d p))
theorem PQ.start {C : Int → Prop} {a b : Nat} {d0 d : List Int} (hs : Sw a b d0 d) : PQ C a b d0 (nth d a) (a + 1) (b - 1) d := ⟨hs, rfl, fun p h1 h2 => by omega, fun p h1 h2 => by omega⟩
theorem PQ.up {C : Int → Prop} {a b i j : Nat} {y : Int} {d0 d : List Int} (h : PQ C a b d0 y i j d) (hx : C (nth d i)) : PQ C a b d0 y (i + 1) j d :=
  ⟨h.1, h.2.1, fun p h1 h2 => by
    by_cases e : p = i
    · subst e; exact hx
    · exact h.2.2.1 p h1 (by omega), h.2.2.2⟩
theorem PQ.down {C : Int → Prop} {a b i j : Nat} {y : Int} {d0 d : List Int} (h : PQ C a b d0 y i j d) (hx : ¬ C (nth d j)) : PQ C a b d0 y i (j - 1) d :=
  ⟨h.1, h.2.1, h.2.2.1, fun p h1 h2 => by
    by_cases e : p = j
    · subst e; exact hx
    · exact h.2.2.2 p (by omega) h2⟩
theorem PQ.swap {C : Int → Prop} {a b i j : Nat} {y : Int} {d0 d : List Int} (h : PQ C a b d0 y i j d) (hb : b ≤ d0.length) (hai : a < i) (hij : i ≤ j) (hjb : j < b) (h1 : ¬ C (nth d i)) (h2 : C (nth d j)) : PQ C a b d0 y (i + 1) (j - 1) (swp d i j) ∧ i < j := by
  have hl := h.1.len
  have hne : i ≠ j := fun e => h1 (e ▸ h2)
  have E : ∀ p, nth (swp d i j) p = if p = j then nth d i else if p = i then nth d j else nth d p := fun p => swp_nth (by omega) (by omega)
  refine ⟨⟨h.1.ex (by omega) (by omega) (by omega) (by omega), ?_, ?_, ?_⟩, by omega⟩
  · rw [E, if_neg (by omega), if_neg (by omega)]; exact h.2.1
  · intro p hp1 hp2
    rw [E, if_neg (by omega)]
    by_cases e : p = i
    · rw [if_pos e]; exact h2
    · rw [if_neg e]; exact h.2.2.1 p hp1 (by omega)
  · intro p hp1 hp2
    rw [E]
    by_cases e : p = j
    · rw [if_pos e]; exact h1
    · rw [if_neg e, if_neg (by omega)]; exact h.2.2.2 p (by omega) hp2
/-- a partition: the pivot's number lies at m -/
def Parted (a b m : Nat) (d0 d : List Int) : Prop := Sw a b d0 d ∧ (∀ p, a ≤ p → p < m → nth d p ≤ nth d m) ∧ (∀ p, m < p → p < b → nth d m ≤ nth d p)
theorem PQ.parted {a b i j : Nat} {y : Int} {d0 d : List Int} (h : PQ (fun x => x < y) a b d0 y i j d) (hb : b ≤ d0.length) (haj : a ≤ j) (hji : j < i) (hjb : j < b) : Parted a b j d0 (swp d j a) := by
  have hl := h.1.len
  have E : ∀ p, nth (swp d j a) p = if p = a then nth d j else if p = j then nth d a else nth d p := fun p => swp_nth (by omega) (by omega)
  have Ej : nth (swp d j a) j = y := by
    rw [E]
    by_cases e : j = a
    · rw [if_pos e, e]; exact h.2.1
    · rw [if_neg e, if_pos rfl]; exact h.2.1
  refine ⟨h.1.ex haj hjb (Nat.le_refl _) (by omega), ?_, ?_⟩
  · intro p hp1 hp2
    rw [Ej, E]
    by_cases e : p = a
    · rw [if_pos e]
      have := h.2.2.1 j (by omega) hji
      simp only at this
      omega
    · rw [if_neg e, if_neg (by omega)]
      have := h.2.2.1 p (by omega) (by omega)
      simp only at this
      omega
  · intro p hp1 hp2
    rw [Ej, E, if_neg (by omega), if_neg (by omega)]
    have := h.2.2.2 p hp1 hp2
    simp only at this
    omega
/-- a partition by equality: up to m nothing is greater than y, from m on all is -/
def PartedEq (a b m : Nat) (y : Int) (d0 d : List Int) : Prop := Sw a b d0 d ∧ (∀ p, a ≤ p → p < m → nth d p ≤ y) ∧ (∀ p, m ≤ p → p < b → y < nth d p)
theorem PQ.partedEq {a b i j : Nat} {y : Int} {d0 d : List Int} (h : PQ (fun x => x ≤ y) a b d0 y i j d) (hji : j < i) : PartedEq a b i y d0 d := by
  refine ⟨h.1, ?_, ?_⟩
  · intro p hp1 hp2
    by_cases e : p = a
    · subst e; rw [h.2.1]; exact Int.le_refl _
    · have := h.2.2.1 p (by omega) hp2
      simp only at this
      omega
  · intro p hp1 hp2
    have := h.2.2.2 p (by omega) hp2
    simp only at this
    omega
/-! ### the recursion: what lies outside [a, b) is in order -/
def St (a0 b0 a b : Nat) (d : List Int) : Prop := ∀ p q, a0 ≤ p → p < q → q < b0 → (p < a ∨ b ≤ q) → nth d p ≤ nth d q
/-- nothing in [a, b) is less than what lies ahead of it -/
def Lo (a b : Nat) (d : List Int) : Prop := a = 0 ∨ ∀ p, a ≤ p → p < b → nth d (a - 1) ≤ nth d p
theorem Lo.bot {a b : Nat} {d : List Int} (h : Lo a b d) (hab : a < b) (h1 : 1 ≤ a) : ¬ nth d a < nth d (a - 1) := by
  rcases h with h | h
  · omega
  · have := h a (Nat.le_refl _) hab
    omega
theorem St.start (a b : Nat) (d : List Int) : St a b a b d := fun p q h1 h2 h3 h4 => by omega
theorem St.done {a0 b0 a b : Nat} {d : List Int} (h : St a0 b0 a b d) (hs : SrtTo a b d) : SrtTo a0 b0 d := fun p q h1 h2 h3 => by
  by_cases h4 : p < a ∨ b ≤ q
  · exact h p q h1 h2 h3 h4
  · exact hs p q (by omega) h2 (by omega)
theorem St.keep {a0 b0 a b : Nat} {d d' : List Int} (h : St a0 b0 a b d) (ha : a0 ≤ a) (hbb : b ≤ b0) (hb : b ≤ d.length) (hs : Sw a b d d') : St a0 b0 a b d' := fun p q h1 h2 h3 h4 => by
  by_cases hp : p < a
  · rw [hs.out (p := p) hb (.inl hp)]
    by_cases hq : q < a ∨ b ≤ q
    · rw [hs.out hb hq]
      exact h p q h1 h2 h3 h4
    · exact hs.all (P := fun x => nth d p ≤ x) hb (fun q' h5 h6 => h p q' h1 (by omega) (by omega) (.inl hp)) q (by omega) (by omega)
  · have hq : b ≤ q := by omega
    rw [hs.out (p := q) hb (.inr hq)]
    by_cases hp2 : b ≤ p
    · rw [hs.out hb (.inr hp2)]
      exact h p q h1 h2 h3 h4
    · exact hs.all (P := fun x => x ≤ nth d q) hb (fun p' h5 h6 => h p' q (by omega) (by omega) h3 (.inr hq)) p (by omega) (by omega)
theorem Lo.keep {a b : Nat} {d d' : List Int} (h : Lo a b d) (hb : b ≤ d.length) (hs : Sw a b d d') : Lo a b d' := by
  rcases Nat.eq_zero_or_pos a with h0 | h0
  · exact .inl h0
  rcases h with h | h
  · exact .inl h
  · refine .inr fun p h1 h2 => ?_
    rw [hs.out (p := a - 1) hb (by omega)]
    exact hs.all (P := fun x => nth d (a - 1) ≤ x) hb h p h1 h2
theorem Lo.left {a b m : Nat} {d : List Int} (h : Lo a b d) (hm : m ≤ b) : Lo a m d := h.imp id (fun h p h1 h2 => h p h1 (by omega))
theorem Parted.right {a b m : Nat} {d0 d : List Int} (h : Parted a b m d0 d) : Lo (m + 1) b d := .inr fun p h1 h2 => by
  rw [Nat.add_sub_cancel]
  exact h.2.2 p (by omega) h2
theorem Parted.keepL {a b m : Nat} {d0 d d' : List Int} (h : Parted a b m d0 d) (hb : b ≤ d0.length) (ham : a ≤ m) (hm : m < b) (hs : Sw a m d d') : Parted a b m d0 d' := by
  have hl := h.1.len
  have e : nth d' m = nth d m := hs.out (by omega) (by omega)
  refine ⟨h.1.trans (hs.mono (Nat.le_refl _) (by omega)), ?_, ?_⟩
  · intro p h1 h2
    rw [e]
    exact hs.all (P := fun x => x ≤ nth d m) (by omega) h.2.1 p h1 h2
  · intro p h1 h2
    rw [e, hs.out (p := p) (by omega) (by omega)]
    exact h.2.2 p h1 h2
theorem Parted.keepR {a b m : Nat} {d0 d d' : List Int} (h : Parted a b m d0 d) (hb : b ≤ d0.length) (ham : a ≤ m) (hm : m < b) (hs : Sw (m + 1) b d d') : Parted a b m d0 d' := by
  have hl := h.1.len
  have e : nth d' m = nth d m := hs.out (by omega) (by omega)
  refine ⟨h.1.trans (hs.mono (by omega) (Nat.le_refl _)), ?_, ?_⟩
  · intro p h1 h2
    rw [e, hs.out (p := p) (by omega) (by omega)]
    exact h.2.1 p h1 h2
  · intro p h1 h2
    rw [e]
    exact hs.all (P := fun x => nth d m ≤ x) (by omega) (fun q h3 h4 => h.2.2 q (by omega) h4) p (by omega) h2
theorem St.goR {a0 b0 a b m : Nat} {d0 d : List Int} (h : St a0 b0 a b d) (hp : Parted a b m d0 d) (hm : m < b) (hs : SrtTo a m d) : St a0 b0 (m + 1) b d := fun p q h1 h2 h3 h4 => by
  by_cases h5 : p < a ∨ b ≤ q
  · exact h p q h1 h2 h3 h5
  · by_cases hq : q < m
    · exact hs p q (by omega) h2 hq
    · by_cases hqm : q = m
      · subst hqm; exact hp.2.1 p (by omega) h2
      · by_cases hpm : p = m
        · subst hpm; exact hp.2.2 q h2 (by omega)
        · have := hp.2.1 p (by omega) (by omega)
          have := hp.2.2 q (by omega) (by omega)
          omega
theorem St.goL {a0 b0 a b m : Nat} {d0 d : List Int} (h : St a0 b0 a b d) (hp : Parted a b m d0 d) (ham : a ≤ m) (hs : SrtTo (m + 1) b d) : St a0 b0 a m d := fun p q h1 h2 h3 h4 => by
  by_cases h5 : p < a ∨ b ≤ q
  · exact h p q h1 h2 h3 h5
  · by_cases hp2 : m < p
    · exact hs p q (by omega) h2 (by omega)
    · by_cases hpm : p = m
      · subst hpm; exact hp.2.2 q h2 (by omega)
      · by_cases hqm : q = m
        · subst hqm; exact hp.2.1 p (by omega) h2
        · have := hp.2.1 p (by omega) (by omega)
          have := hp.2.2 q (by omega) (by omega)
          omega
theorem St.goE {a0 b0 a b m : Nat} {y : Int} {d0 d : List Int} (h : St a0 b0 a b d) (hp : PartedEq a b m y d0 d) (hy : ∀ p, a ≤ p → p < b → y ≤ nth d p) (ham : a < m) (hm : m ≤ b) (hbb : b ≤ b0) : St a0 b0 m b d := fun p q h1 h2 h3 h4 => by
  by_cases h5 : p < a ∨ b ≤ q
  · exact h p q h1 h2 h3 h5
  · have h6 := hp.2.1 p (by omega) (by omega)
    have h7 := hy q (by omega) (by omega)
    omega
theorem PartedEq.lo {a b m : Nat} {y : Int} {d0 d : List Int} (hp : PartedEq a b m y d0 d) (ham : a < m) : Lo m b d := .inr fun p h1 h2 => by
  have h6 := hp.2.1 (m - 1) (by omega) (by omega)
  have h7 := hp.2.2 p h1 h2
  omega
end Go.Proofs.Ytmbchcenclfjoaa
