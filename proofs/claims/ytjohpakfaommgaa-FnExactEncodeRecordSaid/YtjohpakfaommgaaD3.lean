/- The law on EncodeRecord. -/
import Derived.Test.YtjohpakfaommgaaI
import Derived.Test.YtjohpakfaommgaaEr
namespace Go.Proofs.Ytjohpakfaommgaa
open Go.ChangeShapes Go.WideShapes Go.ChangeAt Go.RowKit
set_option linter.unusedVariables false
set_option linter.unusedSimpArgs false
set_option maxRecDepth 20000 in
theorem walkFnExactEncodeRecord (x0 : Int) (x1 : Int) (x2 : Int) (n : Int) (w : World) (wfx0 : (Lit.int .i64 x0).wf = true) (wfx1 : (Lit.int .i64 x1).wf = true) (wfx2 : (Lit.int .i64 x2).wf = true) (wfn : (Lit.int .i64 n).wf = true) :
   Calls Try.prog 5 #[.agg #[.int .i64 x0, .int .i64 x1, .int .i64 x2], .int .i64 n] w fun e w' => e = .returned (.bool true) ∧ Below w.heap.size w w' := by
  clear wfx0
  clear wfx1
  clear wfx2
  clear wfn
  go_enter Try.func5, Try.ntmps5
  have C0_0 : (w.alloc (.cells #[.int .i64 x0, .int .i64 x1, .int .i64 x2] 33)).cell? ⟨w.heap.size, 0, none⟩ = some (.int .i64 x0) := by simp
  have C0_1 : (w.alloc (.cells #[.int .i64 x0, .int .i64 x1, .int .i64 x2] 33)).cell? ⟨w.heap.size, 1, none⟩ = some (.int .i64 x1) := by simp
  have C0_2 : (w.alloc (.cells #[.int .i64 x0, .int .i64 x1, .int .i64 x2] 33)).cell? ⟨w.heap.size, 2, none⟩ = some (.int .i64 x2) := by simp
  go_wp2_with fail
  refine (toEventRecord_any x0 x1 x2 _).mono ?_; rintro e w1 ⟨rfl, b1⟩
  have z1 := b1.size
  try simp only [World.size_alloc] at z1
  replace C0_0 := (b1.cell (p := ⟨w.heap.size, 0, none⟩) (by first | omega | (simp only [World.size_alloc]; omega))).trans C0_0
  replace C0_1 := (b1.cell (p := ⟨w.heap.size, 1, none⟩) (by first | omega | (simp only [World.size_alloc]; omega))).trans C0_1
  replace C0_2 := (b1.cell (p := ⟨w.heap.size, 2, none⟩) (by first | omega | (simp only [World.size_alloc]; omega))).trans C0_2
  go_wp2_with fail
  refine (enc_spec x0 x1 x2 n _).mono ?_; rintro e w2 ⟨Aw, cw, rfl, Ow, b2⟩
  have z2 := b2.size
  try simp only [World.size_alloc] at z2
  replace C0_0 := (b2.cell (p := ⟨w.heap.size, 0, none⟩) (by first | omega | (simp only [World.size_alloc]; omega))).trans C0_0
  replace C0_1 := (b2.cell (p := ⟨w.heap.size, 1, none⟩) (by first | omega | (simp only [World.size_alloc]; omega))).trans C0_1
  replace C0_2 := (b2.cell (p := ⟨w.heap.size, 2, none⟩) (by first | omega | (simp only [World.size_alloc]; omega))).trans C0_2
  have Rw := Rd.of_own Ow
  clear Ow
  go_wp2_with fail
  refine (toEventRecord_any x0 x1 x2 _).mono ?_; rintro e w3 ⟨rfl, b3⟩
  have z3 := b3.size
  try simp only [World.size_alloc] at z3
  replace C0_0 := (b3.cell (p := ⟨w.heap.size, 0, none⟩) (by first | omega | (simp only [World.size_alloc]; omega))).trans C0_0
  replace C0_1 := (b3.cell (p := ⟨w.heap.size, 1, none⟩) (by first | omega | (simp only [World.size_alloc]; omega))).trans C0_1
  replace C0_2 := (b3.cell (p := ⟨w.heap.size, 2, none⟩) (by first | omega | (simp only [World.size_alloc]; omega))).trans C0_2
  replace Rw := Rw.below b3 (by first | omega | (simp only [World.size_alloc]; omega))
  go_wp2_with fail
  refine (enc_impl x0 x1 x2 n _).mono ?_; rintro e w4 ⟨Ag, cg, rfl, Og, b4⟩
  have z4 := b4.size
  try simp only [World.size_alloc] at z4
  replace C0_0 := (b4.cell (p := ⟨w.heap.size, 0, none⟩) (by first | omega | (simp only [World.size_alloc]; omega))).trans C0_0
  replace C0_1 := (b4.cell (p := ⟨w.heap.size, 1, none⟩) (by first | omega | (simp only [World.size_alloc]; omega))).trans C0_1
  replace C0_2 := (b4.cell (p := ⟨w.heap.size, 2, none⟩) (by first | omega | (simp only [World.size_alloc]; omega))).trans C0_2
  replace Rw := Rw.below b4 (by first | omega | (simp only [World.size_alloc]; omega))
  have Rg := Rd.of_own Og
  have Lg := own_lt Og
  go_wp2_with fail
  refine (eqInt64S_same (encR x0 x1 x2 n) Ag Aw _ _ _ _ (Rg.more (by first | omega | (simp only [World.size_alloc]; omega))) (Rw.more (by first | omega | (simp only [World.size_alloc]; omega))) (Nat.le_refl _) (encR_len x0 x1 x2 n)).mono ?_; rintro e w5 ⟨rfl, b5⟩
  have z5 := b5.size
  try simp only [World.size_alloc] at z5
  replace C0_0 := (b5.cell (p := ⟨w.heap.size, 0, none⟩) (by first | omega | (simp only [World.size_alloc]; omega))).trans C0_0
  replace C0_1 := (b5.cell (p := ⟨w.heap.size, 1, none⟩) (by first | omega | (simp only [World.size_alloc]; omega))).trans C0_1
  replace C0_2 := (b5.cell (p := ⟨w.heap.size, 2, none⟩) (by first | omega | (simp only [World.size_alloc]; omega))).trans C0_2
  replace Rw := Rw.below b5 (by first | omega | (simp only [World.size_alloc]; omega))
  replace Rg := Rg.below b5 (by first | omega | (simp only [World.size_alloc]; omega))
  replace Og := own_below Og b5
  have hRn : (encR x0 x1 x2 n).length ≤ 1048576 := encR_len x0 x1 x2 n
  go_wp2_with fail
  clear Rg
  refine (markInt64S_any (encR x0 x1 x2 n).length Ag _ cg _ _ _ Og (by omega) (by omega) (by omega)).mono ?_; rintro e w6 ⟨rfl, Og', g6⟩
  have z6 := g6.size
  replace C0_0 := (grownBy_cell g6 C0_0 (fun k hk => by have := Lg k hk; omega))
  replace C0_1 := (grownBy_cell g6 C0_1 (fun k hk => by have := Lg k hk; omega))
  replace C0_2 := (grownBy_cell g6 C0_2 (fun k hk => by have := Lg k hk; omega))
  replace Rw := Rw.grown g6 (by omega) (fun k hk => by have := Lg k hk; omega)
  have b6 := below_of_grownBy (B := w.heap.size) g6 (by omega) (fun k hk => by have := Lg k hk; omega)
  clear Og g6
  have Og := Og'
  clear Og'
  have Rg := Rd.of_own Og
  go_wp2_with fail
  refine (heldInt64S_any (encR x0 x1 x2 n).length Ag _ _ _ _ Rg (by omega) (by omega) (by omega)).mono ?_; rintro e w7 ⟨rfl, he7⟩
  subst he7
  go_wp2_with fail
  refine (toEventRecord_any x0 x1 x2 _).mono ?_; rintro e w7 ⟨rfl, b7⟩
  have z7 := b7.size
  try simp only [World.size_alloc] at z7
  replace C0_0 := (b7.cell (p := ⟨w.heap.size, 0, none⟩) (by first | omega | (simp only [World.size_alloc]; omega))).trans C0_0
  replace C0_1 := (b7.cell (p := ⟨w.heap.size, 1, none⟩) (by first | omega | (simp only [World.size_alloc]; omega))).trans C0_1
  replace C0_2 := (b7.cell (p := ⟨w.heap.size, 2, none⟩) (by first | omega | (simp only [World.size_alloc]; omega))).trans C0_2
  replace Rw := Rw.below b7 (by first | omega | (simp only [World.size_alloc]; omega))
  replace Og := own_below Og b7
  replace Rg := Rg.below b7 (by first | omega | (simp only [World.size_alloc]; omega))
  go_wp2_with fail
  refine (enc_impl x0 x1 x2 n _).mono ?_; rintro e w8 ⟨Ah, ch, rfl, Oh, b8⟩
  have z8 := b8.size
  try simp only [World.size_alloc] at z8
  replace C0_0 := (b8.cell (p := ⟨w.heap.size, 0, none⟩) (by first | omega | (simp only [World.size_alloc]; omega))).trans C0_0
  replace C0_1 := (b8.cell (p := ⟨w.heap.size, 1, none⟩) (by first | omega | (simp only [World.size_alloc]; omega))).trans C0_1
  replace C0_2 := (b8.cell (p := ⟨w.heap.size, 2, none⟩) (by first | omega | (simp only [World.size_alloc]; omega))).trans C0_2
  replace Rw := Rw.below b8 (by first | omega | (simp only [World.size_alloc]; omega))
  replace Og := own_below Og b8
  replace Rg := Rg.below b8 (by first | omega | (simp only [World.size_alloc]; omega))
  have Rh := Rd.of_own Oh
  have Lh := own_lt Oh
  go_wp2_with fail
  refine (eqInt64S_same (encR x0 x1 x2 n) Ah Aw _ _ _ _ (Rh.more (by first | omega | (simp only [World.size_alloc]; omega))) (Rw.more (by first | omega | (simp only [World.size_alloc]; omega))) (Nat.le_refl _) (encR_len x0 x1 x2 n)).mono ?_; rintro e w9 ⟨rfl, b9⟩
  have z9 := b9.size
  try simp only [World.size_alloc] at z9
  replace C0_0 := (b9.cell (p := ⟨w.heap.size, 0, none⟩) (by first | omega | (simp only [World.size_alloc]; omega))).trans C0_0
  replace C0_1 := (b9.cell (p := ⟨w.heap.size, 1, none⟩) (by first | omega | (simp only [World.size_alloc]; omega))).trans C0_1
  replace C0_2 := (b9.cell (p := ⟨w.heap.size, 2, none⟩) (by first | omega | (simp only [World.size_alloc]; omega))).trans C0_2
  replace Rw := Rw.below b9 (by first | omega | (simp only [World.size_alloc]; omega))
  replace Og := own_below Og b9
  replace Rg := Rg.below b9 (by first | omega | (simp only [World.size_alloc]; omega))
  replace Rh := Rh.below b9 (by first | omega | (simp only [World.size_alloc]; omega))
  replace Oh := own_below Oh b9
  go_wp2_with fail
  refine (heldInt64S_any (encR x0 x1 x2 n).length Ag _ _ _ _ Rg (by omega) (by omega) (by omega)).mono ?_; rintro e w10 ⟨rfl, he10⟩
  subst he10
  go_wp2
  go_ret
  exact ⟨rfl, by repeat' (first | (with_reducible exact Below.refl _ _) | (with_reducible assumption) | (with_reducible refine Below.alloc ?_ ?_ _) | (with_reducible refine Below.drew ?_) | (with_reducible refine below_drewN ?_ _) | (with_reducible refine Below.setCell ?_ ?_ _) | (with_reducible refine Below.trans ?_ (Below.mono (by assumption) ?_)) | go_size | (exact Below.size (by assumption)))⟩
end Go.Proofs.Ytjohpakfaommgaa
