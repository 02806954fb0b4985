/- The law on UsualSeating. -/
import Derived.Test.YtdjbbjehgfkefaaI
import Derived.Test.YtdjbbjehgfkefaaUs
namespace Go.Proofs.Ytdjbbjehgfkefaa
open Go.ChangeShapes Go.WideShapes Go.ChangeAt Go.RowKit
set_option linter.unusedVariables false
set_option linter.unusedSimpArgs false
set_option maxRecDepth 20000 in
theorem walkFnExactUsualSeating (x0 : Int) (x1 : Int) (x2 : Int) (l : List (Int)) (Al : Option Addr) (cl : Nat) (n : Int) (w : World) (wfx0 : (Lit.int .i64 x0).wf = true) (wfx1 : (Lit.int .i64 x1).wf = true) (wfx2 : (Lit.int .i64 x2).wf = true) (Rl : Rd w w.heap.size Al (ints (l))) (hlcl : l.length ≤ cl) (hml : cl ≤ maxLen) (wfn : (Lit.int .i64 n).wf = true) :
   Calls Try.prog 3 #[.agg #[.int .i64 x0, .int .i64 x1, .int .i64 x2], .slice Al l.length cl, .int .i64 n] w fun e w' => e = .returned (.bool true) ∧ Below w.heap.size w w' := by
  clear wfx0
  clear wfx1
  clear wfx2
  clear wfn
  unfold maxLen at hml
  by_cases hnl : (l.length : Int) ≤ 1048576
  rotate_left
  · skip
    go_enter Try.func3, Try.ntmps3
    go_wp2
    go_ret
    exact ⟨rfl, by repeat' (first | (with_reducible exact Below.refl _ _) | (with_reducible assumption) | (with_reducible refine Below.alloc ?_ ?_ _) | (with_reducible refine Below.drew ?_) | (with_reducible refine below_drewN ?_ _) | (with_reducible refine Below.setCell ?_ ?_ _) | (with_reducible refine Below.trans ?_ (Below.mono (by assumption) ?_)) | go_size | (exact Below.size (by assumption)))⟩
  have hkl : l.length ≤ 1048576 := by omega
  go_enter Try.func3, Try.ntmps3
  have C0_0 : (w.alloc (.cells #[.int .i64 x0, .int .i64 x1, .int .i64 x2] 23)).cell? ⟨w.heap.size, 0, none⟩ = some (.int .i64 x0) := by simp
  have C0_1 : (w.alloc (.cells #[.int .i64 x0, .int .i64 x1, .int .i64 x2] 23)).cell? ⟨w.heap.size, 1, none⟩ = some (.int .i64 x1) := by simp
  have C0_2 : (w.alloc (.cells #[.int .i64 x0, .int .i64 x1, .int .i64 x2] 23)).cell? ⟨w.heap.size, 2, none⟩ = some (.int .i64 x2) := by simp
  replace Rl := Rl.alloc (by first | omega | simp) (.cells #[.int .i64 x0, .int .i64 x1, .int .i64 x2] 23)
  go_wp2_with fail
  refine (toHeightRule_any x0 x1 x2 _).mono ?_; rintro e w1 ⟨rfl, b1⟩
  have z1 := b1.size
  try simp only [World.size_alloc] at z1
  replace Rl := Rl.below b1 (by first | omega | (simp only [World.size_alloc]; omega))
  replace C0_0 := (b1.cell (p := ⟨w.heap.size, 0, none⟩) (by first | omega | (simp only [World.size_alloc]; omega))).trans C0_0
  replace C0_1 := (b1.cell (p := ⟨w.heap.size, 1, none⟩) (by first | omega | (simp only [World.size_alloc]; omega))).trans C0_1
  replace C0_2 := (b1.cell (p := ⟨w.heap.size, 2, none⟩) (by first | omega | (simp only [World.size_alloc]; omega))).trans C0_2
  go_wp2_with fail
  refine (toInt64S_any l Al _ _ _ Rl (by first | omega | (simp only [World.size_alloc]; omega)) hkl).mono ?_; rintro e w2 ⟨Asl, csl, rfl, Osl, b2⟩
  have z2 := b2.size
  try simp only [World.size_alloc] at z2
  replace Rl := Rl.below b2 (by first | omega | (simp only [World.size_alloc]; omega))
  replace C0_0 := (b2.cell (p := ⟨w.heap.size, 0, none⟩) (by first | omega | (simp only [World.size_alloc]; omega))).trans C0_0
  replace C0_1 := (b2.cell (p := ⟨w.heap.size, 1, none⟩) (by first | omega | (simp only [World.size_alloc]; omega))).trans C0_1
  replace C0_2 := (b2.cell (p := ⟨w.heap.size, 2, none⟩) (by first | omega | (simp only [World.size_alloc]; omega))).trans C0_2
  have Rsl := Rd.of_own Osl
  have ksl := own_cap Osl
  have Lsl := own_lt Osl
  go_wp2_with fail
  refine (us_spec x0 x1 x2 l n Asl _ _ _ (Rsl.more (by omega)) (Nat.le_refl _) hkl).mono ?_; rintro e w3 ⟨Aw, cw, rfl, Ow, b3⟩
  have z3 := b3.size
  try simp only [World.size_alloc] at z3
  replace Rl := Rl.below b3 (by first | omega | (simp only [World.size_alloc]; omega))
  replace C0_0 := (b3.cell (p := ⟨w.heap.size, 0, none⟩) (by first | omega | (simp only [World.size_alloc]; omega))).trans C0_0
  replace C0_1 := (b3.cell (p := ⟨w.heap.size, 1, none⟩) (by first | omega | (simp only [World.size_alloc]; omega))).trans C0_1
  replace C0_2 := (b3.cell (p := ⟨w.heap.size, 2, none⟩) (by first | omega | (simp only [World.size_alloc]; omega))).trans C0_2
  replace Rsl := Rsl.below b3 (by first | omega | (simp only [World.size_alloc]; omega))
  replace Osl := own_below Osl b3
  have Rw := Rd.of_own Ow
  clear Ow
  clear Osl
  clear Rsl
  go_wp2_with fail
  refine (toInt64S_any l Al _ _ _ Rl (by first | omega | (simp only [World.size_alloc]; omega)) hkl).mono ?_; rintro e w4 ⟨Axl, cxl, rfl, Oxl, b4⟩
  have z4 := b4.size
  try simp only [World.size_alloc] at z4
  replace Rl := Rl.below b4 (by first | omega | (simp only [World.size_alloc]; omega))
  replace C0_0 := (b4.cell (p := ⟨w.heap.size, 0, none⟩) (by first | omega | (simp only [World.size_alloc]; omega))).trans C0_0
  replace C0_1 := (b4.cell (p := ⟨w.heap.size, 1, none⟩) (by first | omega | (simp only [World.size_alloc]; omega))).trans C0_1
  replace C0_2 := (b4.cell (p := ⟨w.heap.size, 2, none⟩) (by first | omega | (simp only [World.size_alloc]; omega))).trans C0_2
  replace Rw := Rw.below b4 (by first | omega | (simp only [World.size_alloc]; omega))
  have Rxl := Rd.of_own Oxl
  have kxl := own_cap Oxl
  have Lxl := own_lt Oxl
  go_wp2_with fail
  refine (toHeightRule_any x0 x1 x2 _).mono ?_; rintro e w5 ⟨rfl, b5⟩
  have z5 := b5.size
  try simp only [World.size_alloc] at z5
  replace Rl := Rl.below b5 (by first | omega | (simp only [World.size_alloc]; omega))
  replace C0_0 := (b5.cell (p := ⟨w.heap.size, 0, none⟩) (by first | omega | (simp only [World.size_alloc]; omega))).trans C0_0
  replace C0_1 := (b5.cell (p := ⟨w.heap.size, 1, none⟩) (by first | omega | (simp only [World.size_alloc]; omega))).trans C0_1
  replace C0_2 := (b5.cell (p := ⟨w.heap.size, 2, none⟩) (by first | omega | (simp only [World.size_alloc]; omega))).trans C0_2
  replace Rw := Rw.below b5 (by first | omega | (simp only [World.size_alloc]; omega))
  replace Rxl := Rxl.below b5 (by first | omega | (simp only [World.size_alloc]; omega))
  replace Oxl := own_below Oxl b5
  go_wp2_with fail
  refine (us_impl x0 x1 x2 l n Axl _ _ _ (Rxl.more (by omega)) (Nat.le_refl _) hkl).mono ?_; rintro e w6 ⟨Ag, cg, rfl, Og, b6⟩
  have z6 := b6.size
  try simp only [World.size_alloc] at z6
  replace Rl := Rl.below b6 (by first | omega | (simp only [World.size_alloc]; omega))
  replace C0_0 := (b6.cell (p := ⟨w.heap.size, 0, none⟩) (by first | omega | (simp only [World.size_alloc]; omega))).trans C0_0
  replace C0_1 := (b6.cell (p := ⟨w.heap.size, 1, none⟩) (by first | omega | (simp only [World.size_alloc]; omega))).trans C0_1
  replace C0_2 := (b6.cell (p := ⟨w.heap.size, 2, none⟩) (by first | omega | (simp only [World.size_alloc]; omega))).trans C0_2
  replace Rw := Rw.below b6 (by first | omega | (simp only [World.size_alloc]; omega))
  replace Rxl := Rxl.below b6 (by first | omega | (simp only [World.size_alloc]; omega))
  replace Oxl := own_below Oxl b6
  have Rg := Rd.of_own Og
  have Lg := own_lt Og
  go_wp2_with fail
  refine (eqInt64S_same (usR x0 x1 x2 l n) Ag Aw _ _ _ _ (Rg.more (by first | omega | (simp only [World.size_alloc]; omega))) (Rw.more (by first | omega | (simp only [World.size_alloc]; omega))) (Nat.le_refl _) (usR_len x0 x1 x2 l n hkl)).mono ?_; rintro e w7 ⟨rfl, b7⟩
  have z7 := b7.size
  try simp only [World.size_alloc] at z7
  replace Rl := Rl.below b7 (by first | omega | (simp only [World.size_alloc]; omega))
  replace C0_0 := (b7.cell (p := ⟨w.heap.size, 0, none⟩) (by first | omega | (simp only [World.size_alloc]; omega))).trans C0_0
  replace C0_1 := (b7.cell (p := ⟨w.heap.size, 1, none⟩) (by first | omega | (simp only [World.size_alloc]; omega))).trans C0_1
  replace C0_2 := (b7.cell (p := ⟨w.heap.size, 2, none⟩) (by first | omega | (simp only [World.size_alloc]; omega))).trans C0_2
  replace Rw := Rw.below b7 (by first | omega | (simp only [World.size_alloc]; omega))
  replace Rxl := Rxl.below b7 (by first | omega | (simp only [World.size_alloc]; omega))
  replace Oxl := own_below Oxl b7
  replace Rg := Rg.below b7 (by first | omega | (simp only [World.size_alloc]; omega))
  replace Og := own_below Og b7
  go_wp2_with fail
  refine (toInt64S_any l Al _ _ _ Rl (by first | omega | (simp only [World.size_alloc]; omega)) hkl).mono ?_; rintro e w8 ⟨Ayl, cyl, rfl, Oyl, b8⟩
  have z8 := b8.size
  try simp only [World.size_alloc] at z8
  replace Rl := Rl.below b8 (by first | omega | (simp only [World.size_alloc]; omega))
  replace C0_0 := (b8.cell (p := ⟨w.heap.size, 0, none⟩) (by first | omega | (simp only [World.size_alloc]; omega))).trans C0_0
  replace C0_1 := (b8.cell (p := ⟨w.heap.size, 1, none⟩) (by first | omega | (simp only [World.size_alloc]; omega))).trans C0_1
  replace C0_2 := (b8.cell (p := ⟨w.heap.size, 2, none⟩) (by first | omega | (simp only [World.size_alloc]; omega))).trans C0_2
  replace Rw := Rw.below b8 (by first | omega | (simp only [World.size_alloc]; omega))
  replace Rxl := Rxl.below b8 (by first | omega | (simp only [World.size_alloc]; omega))
  replace Oxl := own_below Oxl b8
  replace Rg := Rg.below b8 (by first | omega | (simp only [World.size_alloc]; omega))
  replace Og := own_below Og b8
  have Ryl := Rd.of_own Oyl
  have kyl := own_cap Oyl
  have Lyl := own_lt Oyl
  go_wp2_with fail
  refine (eqInt64S_same l Axl Ayl _ _ _ _ (Rxl.more (by first | omega | (simp only [World.size_alloc]; omega))) (Ryl.more (by first | omega | (simp only [World.size_alloc]; omega))) (Nat.le_refl _) hkl).mono ?_; rintro e w9 ⟨rfl, b9⟩
  have z9 := b9.size
  try simp only [World.size_alloc] at z9
  replace Rl := Rl.below b9 (by first | omega | (simp only [World.size_alloc]; omega))
  replace C0_0 := (b9.cell (p := ⟨w.heap.size, 0, none⟩) (by first | omega | (simp only [World.size_alloc]; omega))).trans C0_0
  replace C0_1 := (b9.cell (p := ⟨w.heap.size, 1, none⟩) (by first | omega | (simp only [World.size_alloc]; omega))).trans C0_1
  replace C0_2 := (b9.cell (p := ⟨w.heap.size, 2, none⟩) (by first | omega | (simp only [World.size_alloc]; omega))).trans C0_2
  replace Rw := Rw.below b9 (by first | omega | (simp only [World.size_alloc]; omega))
  replace Rxl := Rxl.below b9 (by first | omega | (simp only [World.size_alloc]; omega))
  replace Oxl := own_below Oxl b9
  replace Rg := Rg.below b9 (by first | omega | (simp only [World.size_alloc]; omega))
  replace Og := own_below Og b9
  replace Ryl := Ryl.below b9 (by first | omega | (simp only [World.size_alloc]; omega))
  replace Oyl := own_below Oyl b9
  clear Ryl
  clear Oyl
  have hql : (l.length : Int) ≤ 1048576 := by omega
  go_wp2_with fail
  clear Rxl
  refine (markInt64S_any l.length Axl _ cxl _ _ _ Oxl (by omega) (by omega) (by omega)).mono ?_; rintro e w10 ⟨rfl, Oxl', g10⟩
  have z10 := g10.size
  replace Rl := Rl.grown g10 (by omega) (fun k hk => by have := Lxl k hk; omega)
  replace C0_0 := (grownBy_cell g10 C0_0 (fun k hk => by have := Lxl k hk; omega))
  replace C0_1 := (grownBy_cell g10 C0_1 (fun k hk => by have := Lxl k hk; omega))
  replace C0_2 := (grownBy_cell g10 C0_2 (fun k hk => by have := Lxl k hk; omega))
  replace Rw := Rw.grown g10 (by omega) (fun k hk => by have := Lxl k hk; omega)
  replace Og := own_apart Og g10 (fun k hk => by have := Lxl k hk; omega)
  have b10 := below_of_grownBy (B := w.heap.size) g10 (by omega) (fun k hk => by have := Lxl k hk; omega)
  replace Rg := Rd.of_own Og
  clear Oxl g10
  have Oxl := Oxl'
  clear Oxl'
  clear Oxl
  go_wp2_with fail
  refine (eqInt64S_same (usR x0 x1 x2 l n) Ag Aw _ _ _ _ (Rg.more (by first | omega | (simp only [World.size_alloc]; omega))) (Rw.more (by first | omega | (simp only [World.size_alloc]; omega))) (Nat.le_refl _) (usR_len x0 x1 x2 l n hkl)).mono ?_; rintro e w11 ⟨rfl, b11⟩
  have z11 := b11.size
  try simp only [World.size_alloc] at z11
  replace Rl := Rl.below b11 (by first | omega | (simp only [World.size_alloc]; omega))
  replace C0_0 := (b11.cell (p := ⟨w.heap.size, 0, none⟩) (by first | omega | (simp only [World.size_alloc]; omega))).trans C0_0
  replace C0_1 := (b11.cell (p := ⟨w.heap.size, 1, none⟩) (by first | omega | (simp only [World.size_alloc]; omega))).trans C0_1
  replace C0_2 := (b11.cell (p := ⟨w.heap.size, 2, none⟩) (by first | omega | (simp only [World.size_alloc]; omega))).trans C0_2
  replace Rw := Rw.below b11 (by first | omega | (simp only [World.size_alloc]; omega))
  replace Rg := Rg.below b11 (by first | omega | (simp only [World.size_alloc]; omega))
  replace Og := own_below Og b11
  have hRn : (usR x0 x1 x2 l n).length ≤ 1048576 := usR_len x0 x1 x2 l n hkl
  go_wp2_with fail
  clear Rg
  refine (markInt64S_any (usR x0 x1 x2 l n).length Ag _ cg _ _ _ Og (by omega) (by omega) (by omega)).mono ?_; rintro e w12 ⟨rfl, Og', g12⟩
  have z12 := g12.size
  replace Rl := Rl.grown g12 (by omega) (fun k hk => by have := Lg k hk; omega)
  replace C0_0 := (grownBy_cell g12 C0_0 (fun k hk => by have := Lg k hk; omega))
  replace C0_1 := (grownBy_cell g12 C0_1 (fun k hk => by have := Lg k hk; omega))
  replace C0_2 := (grownBy_cell g12 C0_2 (fun k hk => by have := Lg k hk; omega))
  replace Rw := Rw.grown g12 (by omega) (fun k hk => by have := Lg k hk; omega)
  have b12 := below_of_grownBy (B := w.heap.size) g12 (by omega) (fun k hk => by have := Lg k hk; omega)
  clear Og g12
  have Og := Og'
  clear Og'
  have Rg := Rd.of_own Og
  go_wp2_with fail
  refine (heldInt64S_any (usR x0 x1 x2 l n).length Ag _ _ _ _ Rg (by omega) (by omega) (by omega)).mono ?_; rintro e w13 ⟨rfl, he13⟩
  subst he13
  go_wp2_with fail
  refine (toHeightRule_any x0 x1 x2 _).mono ?_; rintro e w13 ⟨rfl, b13⟩
  have z13 := b13.size
  try simp only [World.size_alloc] at z13
  replace Rl := Rl.below b13 (by first | omega | (simp only [World.size_alloc]; omega))
  replace C0_0 := (b13.cell (p := ⟨w.heap.size, 0, none⟩) (by first | omega | (simp only [World.size_alloc]; omega))).trans C0_0
  replace C0_1 := (b13.cell (p := ⟨w.heap.size, 1, none⟩) (by first | omega | (simp only [World.size_alloc]; omega))).trans C0_1
  replace C0_2 := (b13.cell (p := ⟨w.heap.size, 2, none⟩) (by first | omega | (simp only [World.size_alloc]; omega))).trans C0_2
  replace Rw := Rw.below b13 (by first | omega | (simp only [World.size_alloc]; omega))
  replace Og := own_below Og b13
  replace Rg := Rg.below b13 (by first | omega | (simp only [World.size_alloc]; omega))
  go_wp2_with fail
  refine (toInt64S_any l Al _ _ _ Rl (by first | omega | (simp only [World.size_alloc]; omega)) hkl).mono ?_; rintro e w14 ⟨Ahl, chl, rfl, Ohl, b14⟩
  have z14 := b14.size
  try simp only [World.size_alloc] at z14
  replace Rl := Rl.below b14 (by first | omega | (simp only [World.size_alloc]; omega))
  replace C0_0 := (b14.cell (p := ⟨w.heap.size, 0, none⟩) (by first | omega | (simp only [World.size_alloc]; omega))).trans C0_0
  replace C0_1 := (b14.cell (p := ⟨w.heap.size, 1, none⟩) (by first | omega | (simp only [World.size_alloc]; omega))).trans C0_1
  replace C0_2 := (b14.cell (p := ⟨w.heap.size, 2, none⟩) (by first | omega | (simp only [World.size_alloc]; omega))).trans C0_2
  replace Rw := Rw.below b14 (by first | omega | (simp only [World.size_alloc]; omega))
  replace Og := own_below Og b14
  replace Rg := Rg.below b14 (by first | omega | (simp only [World.size_alloc]; omega))
  have Rhl := Rd.of_own Ohl
  have khl := own_cap Ohl
  have Lhl := own_lt Ohl
  go_wp2_with fail
  refine (us_impl x0 x1 x2 l n Ahl _ _ _ (Rhl.more (by omega)) (Nat.le_refl _) hkl).mono ?_; rintro e w15 ⟨Ah, ch, rfl, Oh, b15⟩
  have z15 := b15.size
  try simp only [World.size_alloc] at z15
  replace Rl := Rl.below b15 (by first | omega | (simp only [World.size_alloc]; omega))
  replace C0_0 := (b15.cell (p := ⟨w.heap.size, 0, none⟩) (by first | omega | (simp only [World.size_alloc]; omega))).trans C0_0
  replace C0_1 := (b15.cell (p := ⟨w.heap.size, 1, none⟩) (by first | omega | (simp only [World.size_alloc]; omega))).trans C0_1
  replace C0_2 := (b15.cell (p := ⟨w.heap.size, 2, none⟩) (by first | omega | (simp only [World.size_alloc]; omega))).trans C0_2
  replace Rw := Rw.below b15 (by first | omega | (simp only [World.size_alloc]; omega))
  replace Og := own_below Og b15
  replace Rg := Rg.below b15 (by first | omega | (simp only [World.size_alloc]; omega))
  replace Rhl := Rhl.below b15 (by first | omega | (simp only [World.size_alloc]; omega))
  replace Ohl := own_below Ohl b15
  have Rh := Rd.of_own Oh
  have Lh := own_lt Oh
  go_wp2_with fail
  refine (eqInt64S_same (usR x0 x1 x2 l n) Ah Aw _ _ _ _ (Rh.more (by first | omega | (simp only [World.size_alloc]; omega))) (Rw.more (by first | omega | (simp only [World.size_alloc]; omega))) (Nat.le_refl _) (usR_len x0 x1 x2 l n hkl)).mono ?_; rintro e w16 ⟨rfl, b16⟩
  have z16 := b16.size
  try simp only [World.size_alloc] at z16
  replace Rl := Rl.below b16 (by first | omega | (simp only [World.size_alloc]; omega))
  replace C0_0 := (b16.cell (p := ⟨w.heap.size, 0, none⟩) (by first | omega | (simp only [World.size_alloc]; omega))).trans C0_0
  replace C0_1 := (b16.cell (p := ⟨w.heap.size, 1, none⟩) (by first | omega | (simp only [World.size_alloc]; omega))).trans C0_1
  replace C0_2 := (b16.cell (p := ⟨w.heap.size, 2, none⟩) (by first | omega | (simp only [World.size_alloc]; omega))).trans C0_2
  replace Rw := Rw.below b16 (by first | omega | (simp only [World.size_alloc]; omega))
  replace Og := own_below Og b16
  replace Rg := Rg.below b16 (by first | omega | (simp only [World.size_alloc]; omega))
  replace Rhl := Rhl.below b16 (by first | omega | (simp only [World.size_alloc]; omega))
  replace Ohl := own_below Ohl b16
  replace Rh := Rh.below b16 (by first | omega | (simp only [World.size_alloc]; omega))
  replace Oh := own_below Oh b16
  go_wp2_with fail
  refine (heldInt64S_any (usR x0 x1 x2 l n).length Ag _ _ _ _ Rg (by omega) (by omega) (by omega)).mono ?_; rintro e w17 ⟨rfl, he17⟩
  subst he17
  go_wp2
  go_ret
  exact ⟨rfl, by repeat' (first | (with_reducible exact Below.refl _ _) | (with_reducible assumption) | (with_reducible refine Below.alloc ?_ ?_ _) | (with_reducible refine Below.drew ?_) | (with_reducible refine below_drewN ?_ _) | (with_reducible refine Below.setCell ?_ ?_ _) | (with_reducible refine Below.trans ?_ (Below.mono (by assumption) ?_)) | go_size | (exact Below.size (by assumption)))⟩
end Go.Proofs.Ytdjbbjehgfkefaa
