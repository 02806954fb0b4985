/- Choices of brakes: the least sublist that serves, in two orders of search. Plain. -/
import Derived.Test.YtooifamckccadaaBase
namespace Go.Proofs.Ytooifamckccadaa
open Go.ChangeShapes Go.WideShapes Go.ChangeAt Go.RowKit
set_option linter.unusedVariables false
set_option linter.unusedSimpArgs false
/-- the sublists of k elements, lexicographically -/
def cmb : List Int → Nat → List (List Int)
  | _, 0 => [[]]
  | [], _ + 1 => []
  | a :: l, k + 1 => (cmb l k).map (a :: ·) ++ cmb l (k + 1)
theorem cmb_zero (l : List Int) : cmb l 0 = [[]] := by cases l <;> rfl
theorem cmb_nil (k : Nat) : cmb [] (k + 1) = [] := rfl
theorem cmb_cons (a : Int) (l : List Int) (k : Nat) : cmb (a :: l) (k + 1) = (cmb l k).map (a :: ·) ++ cmb l (k + 1) := rfl
/-- the elements whose bits are set -/
def chL : List Int → Nat → List Int
  | [], _ => []
  | a :: l, m => if m % 2 = 1 then a :: chL l (m / 2) else chL l (m / 2)
def lexB : List Int → List Int → Bool
  | a :: l, b :: r => if a = b then lexB l r else decide (a < b)
  | _, _ => false
def befB (a b : List Int) : Bool := if a.length = b.length then lexB a b else decide (a.length < b.length)
theorem lexB_irr (a : List Int) : lexB a a = false := by
  induction a with
  | nil => rfl
  | cons x l ih => simp [lexB, ih]
theorem lexB_trans : ∀ {a b c : List Int}, a.length = b.length → b.length = c.length → lexB a b = true → lexB b c = true → lexB a c = true
  | [], [], [], _, _, h, _ => h
  | x :: a, y :: b, z :: c, h1, h2, h, k => by
    simp only [lexB] at *
    simp only [List.length_cons] at h1 h2
    by_cases e1 : x = y
    · by_cases e2 : y = z
      · rw [if_pos e1] at h
        rw [if_pos e2] at k
        rw [if_pos (e1.trans e2)]
        exact lexB_trans (by omega) (by omega) h k
      · rw [if_neg e2] at k
        rw [if_neg (by omega)]
        rw [e1]; exact k
    · rw [if_neg e1] at h
      have h3 := of_decide_eq_true h
      by_cases e2 : y = z
      · rw [if_neg (by omega)]
        rw [← e2]; exact h
      · rw [if_neg e2] at k
        have h4 := of_decide_eq_true k
        rw [if_neg (by omega)]
        exact decide_eq_true (by omega)
theorem lexB_tri : ∀ {a b : List Int}, a.length = b.length → lexB a b = false → lexB b a = false → a = b
  | [], [], _, _, _ => rfl
  | x :: a, y :: b, h, h1, h2 => by
    simp only [lexB] at h1 h2
    simp only [List.length_cons] at h
    by_cases e : x = y
    · rw [if_pos e] at h1
      rw [if_pos e.symm] at h2
      rw [e, lexB_tri (by omega) h1 h2]
    · rw [if_neg e] at h1
      rw [if_neg (fun q => e q.symm)] at h2
      have := of_decide_eq_false h1
      have := of_decide_eq_false h2
      omega
theorem befB_irr (a : List Int) : befB a a = false := by rw [befB, if_pos rfl, lexB_irr]
theorem befB_trans {a b c : List Int} (h : befB a b = true) (k : befB b c = true) : befB a c = true := by
  unfold befB at *
  by_cases e1 : a.length = b.length
  · rw [if_pos e1] at h
    by_cases e2 : b.length = c.length
    · rw [if_pos e2] at k
      rw [if_pos (e1.trans e2)]
      exact lexB_trans e1 e2 h k
    · rw [if_neg e2] at k
      have := of_decide_eq_true k
      rw [if_neg (by omega)]
      exact decide_eq_true (by omega)
  · rw [if_neg e1] at h
    have h3 := of_decide_eq_true h
    by_cases e2 : b.length = c.length
    · rw [if_neg (by omega)]
      exact decide_eq_true (by omega)
    · rw [if_neg e2] at k
      have := of_decide_eq_true k
      rw [if_neg (by omega)]
      exact decide_eq_true (by omega)
theorem befB_tri {a b : List Int} (h : befB a b = false) (k : befB b a = false) : a = b := by
  unfold befB at *
  by_cases e : a.length = b.length
  · rw [if_pos e] at h
    rw [if_pos e.symm] at k
    exact lexB_tri e h k
  · rw [if_neg e] at h
    rw [if_neg (fun q => e q.symm)] at k
    have := of_decide_eq_false h
    have := of_decide_eq_false k
    omega
theorem chL_len (l : List Int) : ∀ m, (chL l m).length ≤ l.length := by
  induction l with
  | nil => intro m; simp [chL]
  | cons a l ih =>
    intro m
    have := ih (m / 2)
    simp only [chL]
    split <;> simp only [List.length_cons] <;> omega
theorem chL_mem (l : List Int) : ∀ m, chL l m ∈ cmb l (chL l m).length := by
  induction l with
  | nil => intro m; simp [chL, cmb]
  | cons a l ih =>
    intro m
    have h := ih (m / 2)
    simp only [chL]
    split
    · rw [List.length_cons, cmb_cons]
      exact List.mem_append_left _ (List.mem_map_of_mem h)
    · cases hk : (chL l (m / 2)).length with
      | zero =>
        rw [cmb_zero]
        have := List.eq_nil_of_length_eq_zero hk
        rw [this]; simp
      | succ k =>
        rw [cmb_cons]
        rw [hk] at h
        exact List.mem_append_right _ h
theorem cmb_len (l : List Int) : ∀ k x, x ∈ cmb l k → x.length = k := by
  induction l with
  | nil =>
    intro k x h
    cases k with
    | zero => simp [cmb] at h; simp [h]
    | succ k => simp [cmb] at h
  | cons a l ih =>
    intro k x h
    cases k with
    | zero => simp [cmb] at h; simp [h]
    | succ k =>
      rw [cmb_cons, List.mem_append, List.mem_map] at h
      rcases h with ⟨y, hy, rfl⟩ | h
      · rw [List.length_cons, ih k y hy]
      · exact ih _ _ h
theorem cmb_ch (l : List Int) : ∀ k x, x ∈ cmb l k → ∃ m, m < 2 ^ l.length ∧ chL l m = x := by
  induction l with
  | nil =>
    intro k x h
    cases k with
    | zero => simp [cmb] at h; exact ⟨0, by simp, by simp [chL, h]⟩
    | succ k => simp [cmb] at h
  | cons a l ih =>
    intro k x h
    have hp : 2 ^ (a :: l).length = 2 * 2 ^ l.length := by rw [List.length_cons, Nat.pow_succ, Nat.mul_comm]
    cases k with
    | zero =>
      obtain ⟨m, hm, e⟩ := ih 0 [] (by rw [cmb_zero]; simp)
      rw [cmb_zero] at h
      have hx : x = [] := by simpa using h
      refine ⟨2 * m, by omega, ?_⟩
      rw [chL, if_neg (by omega), show 2 * m / 2 = m by omega, e, hx]
    | succ k =>
      rw [cmb_cons, List.mem_append, List.mem_map] at h
      rcases h with ⟨y, hy, rfl⟩ | h
      · obtain ⟨m, hm, e⟩ := ih k y hy
        refine ⟨2 * m + 1, by omega, ?_⟩
        rw [chL, if_pos (by omega), show (2 * m + 1) / 2 = m by omega, e]
      · obtain ⟨m, hm, e⟩ := ih _ _ h
        refine ⟨2 * m, by omega, ?_⟩
        rw [chL, if_neg (by omega), show 2 * m / 2 = m by omega, e]
theorem cmb_head {l : List Int} {a : Int} (h : ∀ x ∈ l, a < x) : ∀ k y, y ∈ cmb l (k + 1) → ∃ b r, y = b :: r ∧ a < b := by
  induction l with
  | nil => intro k y hy; simp [cmb] at hy
  | cons b l ih =>
    intro k y hy
    rw [cmb_cons, List.mem_append, List.mem_map] at hy
    rcases hy with ⟨z, hz, rfl⟩ | hy
    · exact ⟨b, z, rfl, h b (by simp)⟩
    · exact ih (fun x hx => h x (by simp [hx])) k y hy
theorem cmb_sorted {l : List Int} (h : l.Pairwise (· < ·)) : ∀ k, (cmb l k).Pairwise (fun x y => lexB x y = true) := by
  induction l with
  | nil => intro k; cases k <;> simp [cmb]
  | cons a l ih =>
    intro k
    rw [List.pairwise_cons] at h
    cases k with
    | zero => simp [cmb]
    | succ k =>
      rw [cmb_cons, List.pairwise_append]
      refine ⟨?_, ih h.2 (k + 1), ?_⟩
      · rw [List.pairwise_map]
        refine (ih h.2 k).imp ?_
        intro x y hxy
        simp [lexB, hxy]
      · intro x hx y hy
        rw [List.mem_map] at hx
        obtain ⟨z, hz, rfl⟩ := hx
        obtain ⟨b, r, rfl, hb⟩ := cmb_head h.1 k y hy
        rw [lexB, if_neg (by omega)]
        exact decide_eq_true hb
/-- the search by masks -/
def refS (kp : List Int → Bool) (l : List Int) : Nat → List Int × Bool
  | 0 => ([], false)
  | m + 1 => if (!(refS kp l m).2 || befB (chL l m) (refS kp l m).1) && kp (chL l m) then (chL l m, true) else refS kp l m
/-- the search by sizes -/
def impS (kp : List Int → Bool) (l : List Int) : Nat → Option (List Int)
  | 0 => none
  | n + 1 => match impS kp l n with | some x => some x | none => (cmb l n).find? kp
theorem refS_inv (kp : List Int → Bool) (l : List Int) : ∀ m, ((refS kp l m).2 = false ∧ (refS kp l m).1 = [] ∧ ∀ j, j < m → kp (chL l j) = false) ∨ ((refS kp l m).2 = true ∧ (∃ j, j < m ∧ (refS kp l m).1 = chL l j) ∧ kp (refS kp l m).1 = true ∧ ∀ j, j < m → kp (chL l j) = true → befB (chL l j) (refS kp l m).1 = false)
  | 0 => .inl ⟨rfl, rfl, fun j h => by omega⟩
  | m + 1 => by
    have ih := refS_inv kp l m
    simp only [refS]
    cases hk : kp (chL l m) with
    | false =>
      rw [Bool.and_false, if_neg (by simp)]
      rcases ih with ⟨a, b, c⟩ | ⟨a, ⟨j, hj, b⟩, c, d⟩
      · refine .inl ⟨a, b, fun j hj => ?_⟩
        rcases Nat.lt_succ_iff_lt_or_eq.1 hj with h | rfl
        · exact c j h
        · exact hk
      · refine .inr ⟨a, ⟨j, by omega, b⟩, c, fun i hi hki => ?_⟩
        rcases Nat.lt_succ_iff_lt_or_eq.1 hi with h | rfl
        · exact d i h hki
        · rw [hk] at hki; cases hki
    | true =>
      rw [Bool.and_true]
      rcases ih with ⟨a, b, c⟩ | ⟨a, ⟨j, hj, b⟩, c, d⟩
      · rw [a, if_pos (by simp)]
        refine .inr ⟨rfl, ⟨m, by omega, rfl⟩, hk, fun i hi hki => ?_⟩
        rcases Nat.lt_succ_iff_lt_or_eq.1 hi with h | rfl
        · rw [c i h] at hki; cases hki
        · exact befB_irr _
      · rw [a]
        cases hb : befB (chL l m) (refS kp l m).1 with
        | true =>
          rw [if_pos (by simp)]
          refine .inr ⟨rfl, ⟨m, by omega, rfl⟩, hk, fun i hi hki => ?_⟩
          rcases Nat.lt_succ_iff_lt_or_eq.1 hi with h | rfl
          · cases hq : befB (chL l i) (chL l m) with
            | false => rfl
            | true =>
              have := befB_trans hq hb
              rw [d i h hki] at this; cases this
          · exact befB_irr _
        | false =>
          rw [if_neg (by simp)]
          refine .inr ⟨a, ⟨j, by omega, b⟩, c, fun i hi hki => ?_⟩
          rcases Nat.lt_succ_iff_lt_or_eq.1 hi with h | rfl
          · exact d i h hki
          · exact hb
theorem find_least {kp : List Int → Bool} {c : List (List Int)} (hs : c.Pairwise (fun x y => lexB x y = true)) {x : List Int} (h : c.find? kp = some x) : kp x = true ∧ x ∈ c ∧ ∀ y ∈ c, kp y = true → x = y ∨ lexB x y = true := by
  induction c with
  | nil => simp at h
  | cons a c ih =>
    rw [List.pairwise_cons] at hs
    rw [List.find?_cons] at h
    cases hk : kp a with
    | true =>
      rw [hk] at h
      have : a = x := by simpa using h
      subst this
      refine ⟨hk, by simp, fun y hy hky => ?_⟩
      rw [List.mem_cons] at hy
      rcases hy with rfl | hy
      · exact .inl rfl
      · exact .inr (hs.1 y hy)
    | false =>
      rw [hk] at h
      obtain ⟨h1, h2, h3⟩ := ih hs.2 h
      refine ⟨h1, by simp [h2], fun y hy hky => ?_⟩
      rw [List.mem_cons] at hy
      rcases hy with rfl | hy
      · rw [hk] at hky; cases hky
      · exact h3 y hy hky
theorem lexB_asym {a b : List Int} (he : a.length = b.length) (h : lexB a b = true) : lexB b a = false := by
  cases hq : lexB b a with
  | false => rfl
  | true =>
    have := lexB_trans he he.symm h hq
    rw [lexB_irr] at this; cases this
theorem impS_inv {kp : List Int → Bool} {l : List Int} (hs : l.Pairwise (· < ·)) : ∀ n, (impS kp l n = none ∧ ∀ k, k < n → ∀ y ∈ cmb l k, kp y = false) ∨ (∃ x, impS kp l n = some x ∧ kp x = true ∧ x.length < n ∧ x ∈ cmb l x.length ∧ ∀ k y, y ∈ cmb l k → kp y = true → befB y x = false)
  | 0 => .inl ⟨rfl, fun k h => by omega⟩
  | n + 1 => by
    simp only [impS]
    rcases impS_inv (kp := kp) hs n with ⟨a, b⟩ | ⟨x, a, b, c, d, e⟩
    · rw [a]
      dsimp only
      cases hf : (cmb l n).find? kp with
      | none =>
        refine .inl ⟨rfl, fun k hk y hy => ?_⟩
        rcases Nat.lt_succ_iff_lt_or_eq.1 hk with h | rfl
        · exact b k h y hy
        · have := List.find?_eq_none.1 hf y hy
          simpa using this
      | some x =>
        obtain ⟨h1, h2, h3⟩ := find_least (cmb_sorted hs n) hf
        have hl := cmb_len l n x h2
        refine .inr ⟨x, rfl, h1, by omega, by rw [hl]; exact h2, fun k y hy hky => ?_⟩
        have hyl := cmb_len l k y hy
        unfold befB
        by_cases e : y.length = x.length
        · rw [if_pos e]
          have hkn : k = n := by omega
          subst hkn
          rcases h3 y hy hky with rfl | h
          · exact lexB_irr _
          · exact lexB_asym e.symm h
        · rw [if_neg e]
          refine decide_eq_false ?_
          intro hlt
          have := b k (by omega) y hy
          rw [hky] at this; cases this
    · rw [a]
      exact .inr ⟨x, rfl, b, by omega, d, e⟩
theorem find_same {kp : List Int → Bool} {l : List Int} (hs : l.Pairwise (· < ·)) :
    (impS kp l (l.length + 1) = none ∧ (refS kp l (2 ^ l.length)).2 = false) ∨ (∃ x, impS kp l (l.length + 1) = some x ∧ refS kp l (2 ^ l.length) = (x, true)) := by
  rcases refS_inv kp l (2 ^ l.length) with ⟨a, b, c⟩ | ⟨a, ⟨j, hj, b⟩, c, d⟩
  · rcases impS_inv (kp := kp) hs (l.length + 1) with ⟨e, _⟩ | ⟨x, e, f, _, g, _⟩
    · exact .inl ⟨e, a⟩
    · obtain ⟨m, hm, rfl⟩ := cmb_ch l _ x g
      rw [c m hm] at f; cases f
  · rcases impS_inv (kp := kp) hs (l.length + 1) with ⟨_, e⟩ | ⟨x, e, f, _, g, h⟩
    · have h1 := chL_mem l j
      have := e _ (by have := chL_len l j; omega) _ h1
      rw [← b, c] at this; cases this
    · refine .inr ⟨x, e, ?_⟩
      obtain ⟨m, hm, hx⟩ := cmb_ch l _ x g
      have h1 := d m hm (by rw [hx]; exact f)
      rw [hx] at h1
      have h2 := h _ (chL l j) (chL_mem l j) (by rw [← b]; exact c)
      rw [← b] at h2
      have h3 := befB_tri h1 h2
      rw [h3, ← a]
theorem chL_append (a : List Int) : ∀ (b : List Int) (m : Nat), chL (a ++ b) m = chL a m ++ chL b (m / 2 ^ a.length) := by
  induction a with
  | nil => intro b m; simp [chL]
  | cons x a ih =>
    intro b m
    rw [List.cons_append]
    simp only [chL]
    rw [ih, List.length_cons, Nat.pow_succ, Nat.mul_comm, Nat.div_div_eq_div_mul]
    split <;> rfl
theorem chL_step {l : List Int} {k : Nat} {x : Int} (h : l[k]? = some x) (m : Nat) : chL (l.take (k + 1)) m = chL (l.take k) m ++ (if m / 2 ^ k % 2 = 1 then [x] else []) := by
  have hl : k < l.length := (List.getElem?_eq_some_iff.1 h).1
  have hx : l[k] = x := by rw [List.getElem?_eq_getElem hl] at h; exact Option.some.inj h
  rw [List.take_succ_eq_append_getElem hl, chL_append, List.length_take, Nat.min_eq_left (by omega), hx]
  congr 1
end Go.Proofs.Ytooifamckccadaa
