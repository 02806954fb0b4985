/- Cells of boxed variables through draws (for any seat with draws). -/
import Derived.Test.YtakchdkoildkbaaDoorDr
namespace Go.Proofs.YtakchdkoildkbaaDoor
open Go.ChangeShapes Go.WideShapes Go.ChangeAt Go.RowKit
set_option maxRecDepth 20000
set_option linter.unusedVariables false
set_option linter.unusedSimpArgs false
/-- the block b holds these cells -/
def Bk (w : World) (b : Nat) (cs : Array Value) : Prop := ∃ t, w.heap[b]? = some (.cells cs t (0, 0))
theorem bk_lt {w : World} {b : Nat} {cs : Array Value} (h : Bk w b cs) : b < w.heap.size := by
  obtain ⟨t, h⟩ := h
  rcases Nat.lt_or_ge b w.heap.size with h1 | h1
  · exact h1
  · rw [Array.getElem?_eq_none h1] at h; cases h
theorem bk_new (w : World) (cs : Array Value) (t : TypeId) : Bk (w.alloc (.cells cs t)) w.heap.size cs := ⟨t, heap_alloc_new w _⟩
theorem bk_alloc {w : World} {b : Nat} {cs : Array Value} (h : Bk w b cs) (o : Obj) : Bk (w.alloc o) b cs := by
  obtain ⟨t, e⟩ := h
  exact ⟨t, (Below.heap_alloc w o b (bk_lt ⟨t, e⟩)).trans e⟩
theorem bk_keep {w w' : World} {g b : Nat} {cs : Array Value} (h : Bk w b cs) (hg : w.grownBy w' (some g)) (hne : g < b) : Bk w' b cs := by
  obtain ⟨t, e⟩ := h
  exact ⟨t, (hg.block b (bk_lt ⟨t, e⟩) (fun e => by injection e with e; omega)).trans e⟩
theorem bk_drew {w : World} {b : Nat} {cs : Array Value} (h : Bk w b cs) : Bk w.drew b cs := h
theorem bk_below {w w' : World} {b N : Nat} {cs : Array Value} (h : Bk w b cs) (hb : Below N w w') (hN : b < N) : Bk w' b cs := by
  obtain ⟨t, e⟩ := h
  exact ⟨t, (hb.block b hN).trans e⟩
theorem bk_set {w : World} {b : Nat} {cs : Array Value} (h : Bk w b cs) (j : Nat) (u : Value) (cs' : Array Value) (hc : cs' = cs.setIfInBounds j u) : Bk (w.setCell ⟨b, j, none⟩ u) b cs' := by
  obtain ⟨t, e⟩ := h
  subst hc
  exact ⟨t, by rw [heap_setCell_same w b j _ _ u e]⟩
theorem bk_other {w : World} {b b' : Nat} {cs : Array Value} (h : Bk w b cs) (hne : b' ≠ b) (j : Nat) (u : Value) : Bk (w.setCell ⟨b', j, none⟩ u) b cs := by
  obtain ⟨t, e⟩ := h
  exact ⟨t, by rw [heap_setCell_other w ⟨b', j, none⟩ b u (fun q => hne q.symm)]; exact e⟩
theorem bk_at {w : World} {b : Nat} {cs : Array Value} (h : Bk w b cs) : (∀ j, w.cell? ⟨b, j, none⟩ = cs[j]?) ∧ (∀ j, w.frozen? ⟨b, j, none⟩ = false) := by
  obtain ⟨t, e⟩ := h
  exact ⟨fun j => cell_of_row w b j _ _ _ e, fun j => by simp [World.frozen?, e]⟩
theorem bk2 {w : World} {b : Nat} {x y : Value} (h : Bk w b #[x, y]) : w.cell? ⟨b, 0, none⟩ = some x ∧ w.cell? ⟨b, 1, none⟩ = some y ∧ (∀ j, w.frozen? ⟨b, j, none⟩ = false) ∧ b < w.heap.size := by
  obtain ⟨h1, h2⟩ := bk_at h
  exact ⟨h1 0, h1 1, h2, bk_lt h⟩
theorem bk7 {w : World} {b : Nat} {c0 c1 c2 c3 c4 c5 c6 : Value} (h : Bk w b #[c0, c1, c2, c3, c4, c5, c6]) : w.cell? ⟨b, 0, none⟩ = some c0 ∧ w.cell? ⟨b, 1, none⟩ = some c1 ∧ w.cell? ⟨b, 2, none⟩ = some c2 ∧ w.cell? ⟨b, 3, none⟩ = some c3 ∧ w.cell? ⟨b, 4, none⟩ = some c4 ∧ w.cell? ⟨b, 5, none⟩ = some c5 ∧ w.cell? ⟨b, 6, none⟩ = some c6 ∧ (∀ j, w.frozen? ⟨b, j, none⟩ = false) ∧ b < w.heap.size := by
  obtain ⟨h1, h2⟩ := bk_at h
  exact ⟨h1 0, h1 1, h1 2, h1 3, h1 4, h1 5, h1 6, h2, bk_lt h⟩
theorem bk_fill7 {w : World} {b : Nat} {c0 c1 c2 c3 c4 c5 c6 : Value} (h : Bk w b #[c0, c1, c2, c3, c4, c5, c6]) (v0 v1 v2 v3 v4 v5 v6 : Value) : Bk (((((((w.setCell ⟨b, 0, none⟩ v0).setCell ⟨b, 1, none⟩ v1).setCell ⟨b, 2, none⟩ v2).setCell ⟨b, 3, none⟩ v3).setCell ⟨b, 4, none⟩ v4).setCell ⟨b, 5, none⟩ v5).setCell ⟨b, 6, none⟩ v6) b #[v0, v1, v2, v3, v4, v5, v6] := by
  replace h := bk_set h 0 v0 #[v0, c1, c2, c3, c4, c5, c6] rfl
  replace h := bk_set h 1 v1 #[v0, v1, c2, c3, c4, c5, c6] rfl
  replace h := bk_set h 2 v2 #[v0, v1, v2, c3, c4, c5, c6] rfl
  replace h := bk_set h 3 v3 #[v0, v1, v2, v3, c4, c5, c6] rfl
  replace h := bk_set h 4 v4 #[v0, v1, v2, v3, v4, c5, c6] rfl
  replace h := bk_set h 5 v5 #[v0, v1, v2, v3, v4, v5, c6] rfl
  replace h := bk_set h 6 v6 #[v0, v1, v2, v3, v4, v5, v6] rfl
  exact h
theorem bk_fill2 {w : World} {b : Nat} {c0 c1 : Value} (h : Bk w b #[c0, c1]) (v0 v1 : Value) : Bk ((w.setCell ⟨b, 0, none⟩ v0).setCell ⟨b, 1, none⟩ v1) b #[v0, v1] := bk_set (bk_set h 0 v0 _ rfl) 1 v1 _ rfl
section
variable {w0 w w' : World} {g B : Nat} {C : Option Addr} {cap : Nat} {bl : List Int}
theorem DS.set (h : DS w0 w g B C cap bl) {b : Nat} (hb : w0.heap.size ≤ b) (j : Nat) (u : Value) : DS w0 (w.setCell ⟨b, j, none⟩ u) g B C cap bl := h.below (by repeat' (first | (with_reducible exact Below.refl _ _) | (with_reducible assumption) | (with_reducible refine Below.alloc ?_ ?_ _) | (with_reducible refine Below.drew ?_) | (with_reducible refine below_drewN ?_ _) | (with_reducible refine Below.setCell ?_ ?_ _) | (with_reducible refine Below.trans ?_ (Below.mono (by assumption) ?_)) | go_size | (exact Below.size (by assumption))))
theorem DS.fill7 (h : DS w0 w g B C cap bl) {b : Nat} (hb : w0.heap.size ≤ b) (v0 v1 v2 v3 v4 v5 v6 : Value) : DS w0 (((((((w.setCell ⟨b, 0, none⟩ v0).setCell ⟨b, 1, none⟩ v1).setCell ⟨b, 2, none⟩ v2).setCell ⟨b, 3, none⟩ v3).setCell ⟨b, 4, none⟩ v4).setCell ⟨b, 5, none⟩ v5).setCell ⟨b, 6, none⟩ v6) g B C cap bl :=
  (((((((h.set hb _ _).set hb _ _).set hb _ _).set hb _ _).set hb _ _).set hb _ _).set hb _ _)
theorem DS.fill2 (h : DS w0 w g B C cap bl) {b : Nat} (hb : w0.heap.size ≤ b) (v0 v1 : Value) : DS w0 ((w.setCell ⟨b, 0, none⟩ v0).setCell ⟨b, 1, none⟩ v1) g B C cap bl := (h.set hb _ _).set hb _ _
theorem next_al (h : DS w0 w g B C cap bl) (m : Int) :
   Calls Tryd.prog 51 #[.pointer (some ⟨g, 0, none⟩), .int .i64 m] w fun e w' => ∃ x : Int, e = .returned (.int .i64 x) ∧ DS w0 w' g B C cap bl ∧ w.grownBy w' (some g) :=
  (next_ds h m).mono (fun e w' ⟨x, e1, _, _, d, gr⟩ => ⟨x, e1, d, gr⟩)
theorem pick_al (h : DS w0 w g B C cap bl) (l : List Int) (k q : Nat) (hq : q = w.heap.size) (cs : Array Value) (hcs : cs = (ints l).toArray) (hk : l.length = k) (h0 : 0 < k) (hk2 : k ≤ 1000) :
   Calls Tryd.prog 56 #[.pointer (some ⟨g, 0, none⟩), .slice (some ⟨q, 0, none⟩) k k] (w.alloc (.cells cs 2)) (fun e w' => ∃ x : Int, e = .returned (.int .i64 x) ∧ DS w0 w' g B C cap bl ∧ (w.alloc (.cells cs 2)).grownBy w' (some g)) :=
  (pick_ds h l k q hq cs hcs hk h0 hk2).mono (fun e w' ⟨x, e1, _, d, gr⟩ => ⟨x, e1, d, gr⟩)
end
theorem bk3 {w : World} {b : Nat} {x y z : Value} (h : Bk w b #[x, y, z]) : w.cell? ⟨b, 0, none⟩ = some x ∧ w.cell? ⟨b, 1, none⟩ = some y ∧ w.cell? ⟨b, 2, none⟩ = some z ∧ (∀ j, w.frozen? ⟨b, j, none⟩ = false) ∧ b < w.heap.size := by
  obtain ⟨h1, h2⟩ := bk_at h
  exact ⟨h1 0, h1 1, h1 2, h2, bk_lt h⟩
theorem bk_fill3 {w : World} {b : Nat} {c0 c1 c2 : Value} (h : Bk w b #[c0, c1, c2]) (v0 v1 v2 : Value) : Bk (((w.setCell ⟨b, 0, none⟩ v0).setCell ⟨b, 1, none⟩ v1).setCell ⟨b, 2, none⟩ v2) b #[v0, v1, v2] := by
  replace h := bk_set h 0 v0 #[v0, c1, c2] rfl
  replace h := bk_set h 1 v1 #[v0, v1, c2] rfl
  replace h := bk_set h 2 v2 #[v0, v1, v2] rfl
  exact h
theorem ds_fill3 {w0 w : World} {g B : Nat} {C : Option Addr} {cap : Nat} {bl : List Int} (h : DS w0 w g B C cap bl) {b : Nat} (hb : w0.heap.size ≤ b) (v0 v1 v2 : Value) : DS w0 (((w.setCell ⟨b, 0, none⟩ v0).setCell ⟨b, 1, none⟩ v1).setCell ⟨b, 2, none⟩ v2) g B C cap bl := ((h.set hb _ _).set hb _ _).set hb _ _
end Go.Proofs.YtakchdkoildkbaaDoor
