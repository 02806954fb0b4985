/- The search for ways: its model, what holds in each state, and the rows in memory. -/
import Derived.Test.YtakchdkoildkbaaDoorWq
import Derived.Test.YtakchdkoildkbaaDoorRn
import Derived.Test.YtakchdkoildkbaaDoorBx
import Derived.WalkSpells
import Derived.Deep.LoopGhost
namespace Go.Proofs.YtakchdkoildkbaaDoor
open Go.ChangeShapes Go.WideShapes Go.ChangeAt Go.RowKit
set_option maxRecDepth 20000
set_option linter.unusedVariables false
set_option linter.unusedSimpArgs false
abbrev WSt := List (Option (List Int)) × List Int
def kindW (r : Int) (b : Bool) (m : Int) (s : WSt) (k : Nat) : WSt :=
  if s.1.getD (nextK k m r b).toNat none = none then (s.1.set (nextK k m r b).toNat (some ((s.1.getD m.toNat none).getD [] ++ [(k : Int)])), s.2 ++ [nextK k m r b]) else s
def kindsW (r : Int) (b : Bool) (m : Int) (s : WSt) : Nat → WSt
  | 0 => s
  | k + 1 => kindW r b m (kindsW r b m s k) k
def startW (f : Int) : WSt := ((List.replicate 6 none).set f.toNat (some []), [f])
def roundW (r : Int) (b : Bool) (s : WSt) : WSt := match s.2 with | [] => s | m :: q => let t := kindsW r b m (s.1, m :: q) 10; (t.1, t.2.tail)
def waysW (f r : Int) (b : Bool) : Nat → WSt
  | 0 => startW f
  | n + 1 => roundW r b (waysW f r b n)
theorem ways_end : ∀ f : Fin 6, ∀ r : Fin 4, ∀ b : Bool, (waysW (f.val : Int) (r.val : Int) b 6).2 = [] := by decide +kernel
def InvW (s : WSt) (N : Nat) : Prop := s.1.length = 6 ∧ s.2.length ≤ N + 1 ∧ (∀ (i : Nat) (l : List Int), s.1.getD i none = some l → l.length ≤ N) ∧ ∀ m ∈ s.2, 0 ≤ m ∧ m ≤ 5 ∧ s.1.getD m.toNat none ≠ none
theorem invW_more {s : WSt} {N M : Nat} (h : InvW s N) (hM : N ≤ M) : InvW s M := ⟨h.1, by have := h.2.1; omega, fun i l hl => Nat.le_trans (h.2.2.1 i l hl) hM, h.2.2.2⟩
theorem getD_set {M : List (Option (List Int))} {t i : Nat} {x : Option (List Int)} (ht : t < M.length) : (M.set t x).getD i none = if i = t then x else M.getD i none := by
  simp only [List.getD_eq_getElem?_getD, List.getElem?_set]
  by_cases h : t = i
  · subst h; simp [ht]
  · rw [if_neg h, if_neg (fun e => h e.symm)]
theorem kindW_inv {r m : Int} {b : Bool} {s : WSt} {N k : Nat} (hk : k < 10) (h : InvW s N) (hm : 0 ≤ m ∧ m ≤ 5) (hs : s.1.getD m.toNat none ≠ none) : InvW (kindW r b m s k) (N + 1) ∧ (kindW r b m s k).1.getD m.toNat none ≠ none := by
  have hn := next_range hk (m := m) (r := r) (b := b) hm
  unfold kindW
  by_cases hc : s.1.getD (nextK k m r b).toNat none = none
  · rw [if_pos hc]
    have ht : (nextK k m r b).toNat < s.1.length := by rw [h.1]; omega
    have hne : m.toNat ≠ (nextK k m r b).toNat := fun e => hs (by rw [e]; exact hc)
    refine ⟨⟨by rw [List.length_set]; exact h.1, by rw [List.length_append]; have := h.2.1; simp; omega, fun i l hl => ?_, fun x hx => ?_⟩, ?_⟩
    · rw [getD_set ht] at hl
      split at hl
      · cases hl
        rw [List.length_append]
        have : ((s.1.getD m.toNat none).getD []).length ≤ N := by
          cases hq : s.1.getD m.toNat none with
          | none => exact absurd hq hs
          | some l => exact h.2.2.1 _ _ hq
        have h1 : [(k : Int)].length = 1 := rfl
        omega
      · have := h.2.2.1 i l hl; omega
    · rcases List.mem_append.1 hx with hx | hx
      · obtain ⟨h1, h2, h3⟩ := h.2.2.2 x hx
        refine ⟨h1, h2, ?_⟩
        rw [getD_set ht]
        split
        · simp
        · exact h3
      · simp at hx
        subst hx
        refine ⟨hn.1, hn.2, ?_⟩
        rw [getD_set ht, if_pos rfl]; simp
    · rw [getD_set ht, if_neg hne]; exact hs
  · rw [if_neg hc]
    exact ⟨invW_more h (by omega), hs⟩
theorem kindsW_inv {r m : Int} {b : Bool} {s : WSt} {N : Nat} (h : InvW s N) (hm : 0 ≤ m ∧ m ≤ 5) (hs : s.1.getD m.toNat none ≠ none) : ∀ k, k ≤ 10 → InvW (kindsW r b m s k) (N + k) ∧ (kindsW r b m s k).1.getD m.toNat none ≠ none
  | 0, _ => ⟨h, hs⟩
  | k + 1, hk => by
    obtain ⟨h1, h2⟩ := kindsW_inv h hm hs k (by omega)
    exact kindW_inv (by omega) h1 hm h2
theorem kindsW_head {r m x : Int} {b : Bool} {M : List (Option (List Int))} {q : List Int} : ∀ k, ∃ q', (kindsW r b m (M, x :: q) k).2 = x :: q'
  | 0 => ⟨q, rfl⟩
  | k + 1 => by
    obtain ⟨q', h⟩ := kindsW_head (r := r) (m := m) (x := x) (b := b) (M := M) (q := q) k
    rw [kindsW, kindW]
    split
    · exact ⟨_, by rw [h]; rfl⟩
    · exact ⟨q', h⟩
theorem roundW_eq {r m : Int} {b : Bool} {s : WSt} {q : List Int} (h : s.2 = m :: q) : roundW r b s = ((kindsW r b m s 10).1, (kindsW r b m s 10).2.tail) := by
  have e : s = (s.1, m :: q) := by rw [← h]
  unfold roundW
  rw [h]
  simp only
  rw [← e]
theorem roundW_nil {r : Int} {b : Bool} {s : WSt} (h : s.2 = []) : roundW r b s = s := by
  unfold roundW
  rw [h]
theorem startW_inv {f : Int} (hf : 0 ≤ f ∧ f ≤ 5) : InvW (startW f) 0 := by
  have ht : f.toNat < (List.replicate 6 (none : Option (List Int))).length := by rw [List.length_replicate]; omega
  refine ⟨by simp [startW], by simp [startW], fun i l hl => ?_, fun m hm => ?_⟩
  · rw [startW, getD_set ht] at hl
    split at hl
    · cases hl; simp
    · rw [List.getD_eq_getElem?_getD, List.getElem?_replicate] at hl
      split at hl <;> simp at hl
  · simp [startW] at hm
    subst hm
    refine ⟨hf.1, hf.2, ?_⟩
    rw [startW, getD_set ht, if_pos rfl]; simp
theorem roundW_inv {r : Int} {b : Bool} {s : WSt} {N : Nat} (ih : InvW s N) : InvW (roundW r b s) (N + 10) := by
  cases hq : s.2 with
  | nil => rw [roundW_nil hq]; exact invW_more ih (by omega)
  | cons m q =>
    obtain ⟨h1, h2, h3⟩ := ih.2.2.2 m (by rw [hq]; exact List.mem_cons_self)
    obtain ⟨k1, _⟩ := kindsW_inv (r := r) (b := b) ih ⟨h1, h2⟩ h3 10 (Nat.le_refl _)
    rw [roundW_eq hq]
    generalize kindsW r b m s 10 = t at k1 ⊢
    refine ⟨k1.1, ?_, k1.2.2.1, fun x hx => k1.2.2.2 x (List.mem_of_mem_tail hx)⟩
    have := k1.2.1
    rw [List.length_tail]; omega
theorem waysW_inv {f r : Int} {b : Bool} (hf : 0 ≤ f ∧ f ≤ 5) : ∀ n, InvW (waysW f r b n) (10 * n)
  | 0 => startW_inv hf
  | n + 1 => invW_more (roundW_inv (waysW_inv hf n)) (by omega)
/-- six cells hold the ways; their rows lie in blocks of the call's own, none of them in block g -/
def RowsM (w : World) (base : Nat) (cs : Array Value) (M : List (Option (List Int))) (g : Nat) : Prop :=
  ∀ i, i < 6 → (M.getD i none = none ∧ cs[i]? = some (.slice none 0 0)) ∨ ∃ (l : List Int) (A : Addr) (c : Nat), M.getD i none = some l ∧ cs[i]? = some (.slice (some A) l.length c) ∧ w.ownsRow base 2 1 (.slice (some A) l.length c) l.length (ints l) ∧ A.block ≠ g
section
variable {w w' : World} {base g : Nat} {cs : Array Value} {M : List (Option (List Int))}
theorem RowsM.below (h : RowsM w base cs M g) (hb : Below w.heap.size w w') : RowsM w' base cs M g := fun i hi => by
  rcases h i hi with h1 | ⟨l, A, c, h1, h2, h3, h4⟩
  · exact .inl h1
  · exact .inr ⟨l, A, c, h1, h2, own_below h3 hb, h4⟩
theorem RowsM.alloc (h : RowsM w base cs M g) (o : Obj) : RowsM (w.alloc o) base cs M g := h.below ((Below.refl _ _).alloc (Nat.le_refl _) o)
theorem RowsM.store {b1 t : Nat} {l : List Int} {A : Addr} {c : Nat} (h : RowsM w base cs M g) (hb : b1 < base) (hcs : cs.size = 6) (hM : M.length = 6) (ht : t < 6) (hl : w.ownsRow base 2 1 (.slice (some A) l.length c) l.length (ints l)) (hg : A.block ≠ g) :
    RowsM (w.setCell ⟨b1, t, none⟩ (.slice (some A) l.length c)) base (cs.setIfInBounds t (.slice (some A) l.length c)) (M.set t (some l)) g := fun i hi => by
  have hset : ∀ (l' : List Int) (A' : Addr) (c' : Nat), w.ownsRow base 2 1 (.slice (some A') l'.length c') l'.length (ints l') → (w.setCell ⟨b1, t, none⟩ (.slice (some A) l.length c)).ownsRow base 2 1 (.slice (some A') l'.length c') l'.length (ints l') := fun l' A' c' h' =>
    own_apart h' (row := some b1) ⟨rfl, rfl, rfl, by simp, fun k _ hk => heap_setCell_other w ⟨b1, t, none⟩ k _ (fun e => hk (by simp [e]))⟩ (fun k hk => by injection hk with hk; omega)
  by_cases e : i = t
  · subst e
    refine .inr ⟨l, A, c, ?_, ?_, hset _ _ _ hl, hg⟩
    · rw [getD_set (by omega), if_pos rfl]
    · rw [Array.getElem?_setIfInBounds, if_pos rfl, if_pos (by omega)]
  · rcases h i hi with ⟨h1, h2⟩ | ⟨l', A', c', h1, h2, h3, h4⟩
    · refine .inl ⟨?_, ?_⟩
      · rw [getD_set (by omega), if_neg e]; exact h1
      · rw [Array.getElem?_setIfInBounds, if_neg (fun q => e q.symm)]; exact h2
    · refine .inr ⟨l', A', c', ?_, ?_, hset _ _ _ h3, h4⟩
      · rw [getD_set (by omega), if_neg e]; exact h1
      · rw [Array.getElem?_setIfInBounds, if_neg (fun q => e q.symm)]; exact h2
theorem RowsM.que {g' : Nat} (h : RowsM w base cs M g) (hg : w.grownBy w' (some g)) (hg' : g' = g ∨ w.heap.size ≤ g') : RowsM w' base cs M g' := fun i hi => by
  rcases h i hi with h1 | ⟨l, A, c, h1, h2, h3, h4⟩
  · exact .inl h1
  · refine .inr ⟨l, A, c, h1, h2, h3.kept hg (.inr (fun e => h4 (by simpa [Value.ownBlock] using e))), ?_⟩
    have := (own_lt h3 A.block rfl).2
    rcases hg' with rfl | hg'
    · exact h4
    · omega
end
theorem bk6 {w : World} {b : Nat} {c0 c1 c2 c3 c4 c5 : Value} (h : Bk w b #[c0, c1, c2, c3, c4, c5]) : w.cell? ⟨b, 0, none⟩ = some c0 ∧ w.cell? ⟨b, 1, none⟩ = some c1 ∧ w.cell? ⟨b, 2, none⟩ = some c2 ∧ w.cell? ⟨b, 3, none⟩ = some c3 ∧ w.cell? ⟨b, 4, none⟩ = some c4 ∧ w.cell? ⟨b, 5, none⟩ = some c5 ∧ (∀ j, w.frozen? ⟨b, j, none⟩ = false) ∧ b < w.heap.size := by
  obtain ⟨h1, h2⟩ := bk_at h
  exact ⟨h1 0, h1 1, h1 2, h1 3, h1 4, h1 5, h2, bk_lt h⟩
end Go.Proofs.YtakchdkoildkbaaDoor
