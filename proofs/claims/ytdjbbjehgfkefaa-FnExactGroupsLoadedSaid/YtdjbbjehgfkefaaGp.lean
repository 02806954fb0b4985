/- Groups that are seated in rows: what is loaded, and its code. -/
import Derived.Test.YtdjbbjehgfkefaaPs
namespace Go.Proofs.Ytdjbbjehgfkefaa
open Go.ChangeShapes Go.WideShapes Go.ChangeAt Go.RowKit
set_option linter.unusedVariables false
set_option linter.unusedSimpArgs false
/-- the code of the first group that has no seating, 0 if there is none -/
def firstC (a b c : Int) : List (List Int) → Int
  | [] => 0
  | l :: G => if rowC a b c l = 0 then firstC a b c G else rowC a b c l
theorem firstC_here {a b c : Int} : ∀ {G : List (List Int)} {k : Nat} {l : List Int}, G[k]? = some l → (∀ j x, j < k → G[j]? = some x → rowC a b c x = 0) → rowC a b c l ≠ 0 → firstC a b c G = rowC a b c l
  | [], _, _, h, _, _ => by simp at h
  | x :: G, 0, l, h, _, hr => by
    simp at h; subst h
    rw [firstC, if_neg hr]
  | x :: G, k + 1, l, h, hall, hr => by
    rw [List.getElem?_cons_succ] at h
    rw [firstC, if_pos (hall 0 x (by omega) rfl)]
    exact firstC_here h (fun j y hj hy => hall (j + 1) y (by omega) (by rw [List.getElem?_cons_succ]; exact hy)) hr
theorem firstC_none {a b c : Int} : ∀ {G : List (List Int)}, (∀ j x, j < G.length → G[j]? = some x → rowC a b c x = 0) → firstC a b c G = 0
  | [], _ => rfl
  | x :: G, h => by
    rw [firstC, if_pos (h 0 x (by simp) rfl)]
    exact firstC_none fun j y hj hy => h (j + 1) y (by simp; omega) (by rw [List.getElem?_cons_succ]; exact hy)
theorem firstC_zero {a b c : Int} : ∀ {G : List (List Int)}, firstC a b c G = 0 → ∀ l ∈ G, rowC a b c l = 0
  | [], _, l, h => by cases h
  | x :: G, h, l, hl => by
    rw [firstC] at h
    by_cases hx : rowC a b c x = 0
    · rw [if_pos hx] at h
      rcases List.mem_cons.1 hl with rfl | hl
      · exact hx
      · exact firstC_zero h l hl
    · rw [if_neg hx] at h
      exact absurd h hx
def needsG (a b c : Int) (G : List (List Int)) : List Int := G.map (rowN a b c)
theorem needsG_len (a b c : Int) (G : List (List Int)) : (needsG a b c G).length = G.length := by simp [needsG]
theorem needsG_at {a b c : Int} {G : List (List Int)} {k : Nat} {l : List Int} (h : G[k]? = some l) : (needsG a b c G).getD k 0 = rowN a b c l := by
  rw [List.getD_eq_getElem?_getD, needsG, List.getElem?_map, h]; rfl
theorem rowN_bd (a b c : Int) (l : List Int) : 0 ≤ rowN a b c l ∧ rowN a b c l ≤ l.length := by
  have h1 := cnt_le' a b c 1 l
  have h2 := cnt_le' a b c 2 l
  have h3 : cntV a b c 1 l + cntV a b c 2 l ≤ l.length := by
    rw [cnt_vl', cnt_vl', ← vl_len a b c l]
    have := countP_split (fun t : Int => t == 1) (fun t : Int => t == 2) (vl a b c l) (fun t ht => by rw [beq_iff_eq] at ht; subst ht; rfl)
    omega
  unfold rowN
  split
  · omega
  · split <;> omega
theorem needsG_pos (a b c : Int) (G : List (List Int)) : ∀ x ∈ needsG a b c G, 0 ≤ x := fun x hx => by
  obtain ⟨l, _, rfl⟩ := List.mem_map.1 hx
  exact (rowN_bd a b c l).1
theorem preS_bd {a b c : Int} {G : List (List Int)} (h : ∀ l ∈ G, l.length ≤ 24) : ∀ k, 0 ≤ preS (needsG a b c G) k ∧ preS (needsG a b c G) k ≤ 24 * (k : Int)
  | 0 => by simp [preS]
  | k + 1 => by
    have ih := preS_bd (a := a) (b := b) (c := c) h k
    rw [preS]
    have : 0 ≤ (needsG a b c G).getD k 0 ∧ (needsG a b c G).getD k 0 ≤ 24 := by
      cases hk : G[k]? with
      | none =>
        rw [List.getD_eq_getElem?_getD, needsG, List.getElem?_map, hk]; simp
      | some l =>
        rw [needsG_at hk]
        have h1 := rowN_bd a b c l
        have h2 := h l (List.mem_of_getElem? hk)
        omega
    omega
/-- the code, and how many groups are loaded -/
def grC (a b c : Int) (G : List (List Int)) (n : Int) : Int :=
  if ruleB a b c = false then 1 else if 24 < G.length ∨ G.any (fun l => decide (24 < l.length)) = true then 3
  else if inB n 1 12 = false ∨ G.any (fun l => !(l.all (inB · 1 3000))) = true then 2 else firstC a b c G
def grN (a b c : Int) (G : List (List Int)) (n : Int) : Int := if grC a b c G n = 0 then (outG (needsG a b c G) n G.length : Int) else 0
theorem gr_cases (a b c : Int) (G : List (List Int)) (n : Int) :
    (ruleB a b c = false ∧ grC a b c G n = 1 ∧ grN a b c G n = 0) ∨
    (ruleB a b c = true ∧ 24 < G.length ∧ grC a b c G n = 3 ∧ grN a b c G n = 0) ∨
    (ruleB a b c = true ∧ G.length ≤ 24 ∧ G.any (fun l => decide (24 < l.length)) = true ∧ grC a b c G n = 3 ∧ grN a b c G n = 0) ∨
    (ruleB a b c = true ∧ G.length ≤ 24 ∧ G.any (fun l => decide (24 < l.length)) = false ∧ (inB n 1 12 = false ∨ G.any (fun l => !(l.all (inB · 1 3000))) = true) ∧ grC a b c G n = 2 ∧ grN a b c G n = 0) ∨
    (ruleB a b c = true ∧ G.length ≤ 24 ∧ G.any (fun l => decide (24 < l.length)) = false ∧ inB n 1 12 = true ∧ G.any (fun l => !(l.all (inB · 1 3000))) = false ∧ grC a b c G n = firstC a b c G ∧ (firstC a b c G ≠ 0 → grN a b c G n = 0) ∧ (firstC a b c G = 0 → grN a b c G n = outG (needsG a b c G) n G.length)) := by
  cases h1 : ruleB a b c with
  | false => left; simp [grC, grN, h1]
  | true =>
    right
    by_cases h2 : 24 < G.length
    · left; simp [grC, grN, h1, h2]
    · right
      cases h3 : G.any (fun l => decide (24 < l.length)) with
      | true =>
        left
        have e : grC a b c G n = 3 := by rw [grC, if_neg (by rw [h1]; decide), if_pos (.inr h3)]
        exact ⟨rfl, by omega, rfl, e, by rw [grN, e]; rfl⟩
      | false =>
        right
        have e0 : grC a b c G n = if inB n 1 12 = false ∨ G.any (fun l => !(l.all (inB · 1 3000))) = true then 2 else firstC a b c G := by
          rw [grC, if_neg (by rw [h1]; decide), if_neg (by rw [h3]; exact fun h => h.elim h2 (fun h => by cases h))]
        by_cases h4 : inB n 1 12 = false ∨ G.any (fun l => !(l.all (inB · 1 3000))) = true
        · left
          rw [if_pos h4] at e0
          exact ⟨rfl, by omega, rfl, h4, e0, by rw [grN, e0]; rfl⟩
        · right
          rw [if_neg h4] at e0
          have h5 : inB n 1 12 = true := by
            cases h : inB n 1 12
            · exact absurd (.inl h) h4
            · rfl
          have h6 : G.any (fun l => !(l.all (inB · 1 3000))) = false := by
            cases h : G.any (fun l => !(l.all (inB · 1 3000)))
            · rfl
            · exact absurd (.inr h) h4
          exact ⟨rfl, by omega, rfl, h5, h6, e0, fun h => by rw [grN, e0, if_neg h], fun h => by rw [grN, e0, if_pos h]⟩
/-- what is needed, and its code -/
def rnC (a b c : Int) (l : List Int) : Int := if hcode a b c l = 0 then rowC a b c l else hcode a b c l
def rnN (a b c : Int) (l : List Int) : Int := if hcode a b c l = 0 then rowN a b c l else 0
/-- the law on groups -/
theorem group_law {a b c n : Int} {G : List (List Int)} (h : grC a b c G n = 0) :
    (∀ l ∈ G, l.length ≤ 24) ∧ (∀ l ∈ G, rnC a b c l = 0 ∧ rnN a b c l = rowN a b c l) ∧ G.length ≤ 24 ∧
    (∀ k, k < G.length → (decide (preS (needsG a b c G) (k + 1) ≤ n) = decide ((k : Int) < grN a b c G n))) ∧
    (grC a b c G (n + 1) = 0 → grN a b c G n ≤ grN a b c G (n + 1)) := by
  rcases gr_cases a b c G n with ⟨_, h1, _⟩ | ⟨_, _, h1, _⟩ | ⟨_, _, _, h1, _⟩ | ⟨_, _, _, _, h1, _⟩ | ⟨h1, h2, h3, h4, h5, h6, _, h7⟩
  · omega
  · omega
  · omega
  · omega
  · have hf : firstC a b c G = 0 := by omega
    have hN := h7 hf
    have hl : ∀ l ∈ G, l.length ≤ 24 := fun l hl => by
      have := List.any_eq_false.1 h3 l hl
      simp at this; exact this
    have hh : ∀ l ∈ G, hcode a b c l = 0 := fun l hm => by
      have h8 := List.any_eq_false.1 h5 l hm
      have h9 : l.all (inB · 1 3000) = true := by
        cases hq : l.all (inB · 1 3000)
        · rw [hq] at h8; exact absurd rfl h8
        · rfl
      rw [hcode, if_pos h1, if_neg (by have := hl l hm; omega), if_pos h9]
    refine ⟨hl, fun l hm => ?_, h2, fun k hk => ?_, fun h' => ?_⟩
    · rw [rnC, rnN, hh l hm]; exact ⟨firstC_zero hf l hm, rfl⟩
    · rw [hN]
      have := outG_iff (needsG_pos a b c G) n G.length k hk
      rcases Classical.em (preS (needsG a b c G) (k + 1) ≤ n) with hc | hc
      · rw [decide_eq_true hc, decide_eq_true (by have := this.1 hc; omega)]
      · rw [decide_eq_false hc, decide_eq_false (fun hq => hc (this.2 (by omega)))]
    · rcases gr_cases a b c G (n + 1) with ⟨_, h1, _⟩ | ⟨_, _, h1, _⟩ | ⟨_, _, _, h1, _⟩ | ⟨_, _, _, _, h1, _⟩ | ⟨_, _, _, _, _, _, _, h8⟩
      · omega
      · omega
      · omega
      · omega
      · rw [hN, h8 hf]
        have := outG_more (needsG a b c G) (show n ≤ n + 1 by omega) G.length
        omega
end Go.Proofs.Ytdjbbjehgfkefaa
