/- The state of the laws' dice through a walk (for any seat that has them). -/
import Derived.Test.YtjohpakfaommgaaRo
import Derived.Test.YtjohpakfaommgaaBx
namespace Go.Proofs.Ytjohpakfaommgaa
open Go.ChangeShapes Go.WideShapes Go.ChangeAt Go.RowKit
set_option maxRecDepth 20000
set_option linter.unusedVariables false
set_option linter.unusedSimpArgs false
theorem di_lt {w : World} {g : Nat} {C : Option Addr} {n cap : Nat} (h : Di w g C n cap) : g < w.heap.size := by
  obtain ⟨a, s, _, _, h⟩ := h
  rcases Nat.lt_or_ge g w.heap.size with h1 | h1
  · exact h1
  · rw [Array.getElem?_eq_none h1] at h; cases h
theorem di_keep {w w' : World} {g : Nat} {C : Option Addr} {n cap : Nat} (h : Di w g C n cap) (hk : w'.heap[g]? = w.heap[g]?) : Di w' g C n cap := by
  obtain ⟨a, s, h1, h2, h⟩ := h
  exact ⟨a, s, h1, h2, hk.trans h⟩
theorem di_below {w w' : World} {g N : Nat} {C : Option Addr} {n cap : Nat} (h : Di w g C n cap) (hb : Below N w w') (hN : g < N) : Di w' g C n cap := di_keep h (hb.block g hN)
theorem di_alloc {w : World} {g : Nat} {C : Option Addr} {n cap : Nat} (h : Di w g C n cap) (o : Obj) : Di (w.alloc o) g C n cap := di_keep h (Below.heap_alloc w o g (di_lt h))
/-- w0 the world when the walk began, block g the dice -/
def DD (w0 w : World) (g B : Nat) (C : Option Addr) (cap : Nat) (bl : List Int) : Prop := Rd w B C (bytesU bl) ∧ Di w g C bl.length cap ∧ w0.grownBy w (some g) ∧ g < w0.heap.size ∧ B ≤ g ∧ isU8 bl ∧ bl.length ≤ 4096
section
variable {w0 w w' : World} {g B cap : Nat} {C : Option Addr} {bl : List Int}
theorem DD.size (h : DD w0 w g B C cap bl) : w0.heap.size ≤ w.heap.size ∧ g < w0.heap.size := ⟨h.2.2.1.size, h.2.2.2.1⟩
theorem DD.next (h : DD w0 w g B C cap bl) (hs : Di w' g C bl.length cap) (hg : w.grownBy w' (some g)) : DD w0 w' g B C cap bl :=
  ⟨h.1.grown hg (by have := h.size; have := h.2.2.2.2.1; omega) (fun k hk => by injection hk with hk; subst hk; exact h.2.2.2.2.1), hs, grownBy_trans h.2.2.1 hg, h.2.2.2⟩
theorem DD.alloc (h : DD w0 w g B C cap bl) (o : Obj) : DD w0 (w.alloc o) g B C cap bl :=
  ⟨h.1.alloc (by have := h.size; have := h.2.2.2.2.1; omega) o, di_alloc h.2.1 o, grown_below h.2.2.1 ((Below.refl _ _).alloc h.size.1 _), h.2.2.2⟩
theorem DD.drew (h : DD w0 w g B C cap bl) : DD w0 w.drew g B C cap bl := ⟨h.1, h.2.1, grownBy_drew h.2.2.1, h.2.2.2⟩
theorem DD.below (h : DD w0 w g B C cap bl) (hb : Below w0.heap.size w w') : DD w0 w' g B C cap bl :=
  ⟨h.1.below hb (by have := h.2.2.2.2.1; have := h.size; omega), di_below h.2.1 hb h.size.2, grown_below h.2.2.1 hb, h.2.2.2⟩
theorem DD.start (hr : Rd w B C (bytesU bl)) (hs : Di w g C bl.length cap) (hB : B ≤ g) (hbl : isU8 bl) (hn : bl.length ≤ 4096) : DD w w g B C cap bl := ⟨hr, hs, World.grownBy.refl w _, di_lt hs, hB, hbl, hn⟩
/-- a row that lay below the dice reads as before -/
theorem DD.rd (h : DD w0 w g B C cap bl) {A : Option Addr} {xs : List Value} (hr : Rd w0 g A xs) : Rd w w.heap.size A xs :=
  (hr.grown h.2.2.1 (by have := h.size; omega) (fun k hk => by injection hk with hk; omega)).more (by have := h.size; omega)
theorem DD.bel (h : DD w0 w g B C cap bl) {N : Nat} (hN : N ≤ g) : Below N w0 w :=
  below_of_grownBy (B := N) h.2.2.1 (by have := h.size; omega) (fun k hk => by injection hk with hk; omega)
theorem below_dd (h : DD w0 w g B C cap bl) (m : Int) (hm : 1 ≤ m) (hm2 : m ≤ 1000000) :
   Calls Try.prog 44 #[.pointer (some ⟨g, 0, none⟩), .int .i64 m] w (fun e w' => ∃ x : Int, e = .returned (.int .i64 x) ∧ 0 ≤ x ∧ x < m ∧ DD w0 w' g B C cap bl ∧ w.grownBy w' (some g)) :=
  (below_any bl h.2.2.2.2.2.1 h.2.2.2.2.2.2 C B cap g m hm hm2 w h.1 h.2.2.2.2.1 h.2.1).mono fun e w' ⟨x, h1, h2, h3, h4, h5⟩ => ⟨x, h1, h2, h3, h.next h4 h5, h5⟩
end
end Go.Proofs.Ytjohpakfaommgaa
