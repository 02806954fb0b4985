/- The law on AppendRecord. -/
import Derived.Test.YtjohpakfaommgaaI
import Derived.Test.YtjohpakfaommgaaB
import Derived.Test.YtjohpakfaommgaaApr
import Derived.Deep.RegionWith
import Derived.Deep.RegionHeld3
namespace Go.Proofs.Ytjohpakfaommgaa
open Go.ChangeShapes Go.WideShapes Go.ChangeAt Go.RowKit
set_option linter.unusedVariables false
set_option linter.unusedSimpArgs false
set_option maxRecDepth 20000 in
theorem walkFnExactAppendRecord (l : List (Int)) (Al : Option Addr) (cl : Nat) (x0 : Int) (x1 : Int) (x2 : Int) (w : World) (Rl : Rd w w.heap.size Al (ints (l))) (hlcl : l.length ≤ cl) (hml : cl ≤ maxLen) (wfx0 : (Lit.int .i64 x0).wf = true) (wfx1 : (Lit.int .i64 x1).wf = true) (wfx2 : (Lit.int .i64 x2).wf = true) :
   Calls Try.prog 9 #[.slice Al l.length cl, .agg #[.int .i64 x0, .int .i64 x1, .int .i64 x2]] w fun e w' => e = .returned (.bool true) ∧ Below w.heap.size w w' := by
  clear wfx0
  clear wfx1
  clear wfx2
  unfold maxLen at hml
  by_cases hnl : (l.length : Int) ≤ 1048576
  rotate_left
  · skip
    go_enter Try.func9, Try.ntmps9
    go_wp2
    go_ret
    exact ⟨rfl, by repeat' (first | (with_reducible exact Below.refl _ _) | (with_reducible assumption) | (with_reducible refine Below.alloc ?_ ?_ _) | (with_reducible refine Below.drew ?_) | (with_reducible refine below_drewN ?_ _) | (with_reducible refine Below.setCell ?_ ?_ _) | (with_reducible refine Below.trans ?_ (Below.mono (by assumption) ?_)) | go_size | (exact Below.size (by assumption)))⟩
  have hkl : l.length ≤ 1048576 := by omega
  go_enter Try.func9, Try.ntmps9
  have C0_0 : (w.alloc (.cells #[.int .i64 x0, .int .i64 x1, .int .i64 x2] 33)).cell? ⟨w.heap.size, 0, none⟩ = some (.int .i64 x0) := by simp
  have C0_1 : (w.alloc (.cells #[.int .i64 x0, .int .i64 x1, .int .i64 x2] 33)).cell? ⟨w.heap.size, 1, none⟩ = some (.int .i64 x1) := by simp
  have C0_2 : (w.alloc (.cells #[.int .i64 x0, .int .i64 x1, .int .i64 x2] 33)).cell? ⟨w.heap.size, 2, none⟩ = some (.int .i64 x2) := by simp
  replace Rl := Rl.alloc (by first | omega | simp) (.cells #[.int .i64 x0, .int .i64 x1, .int .i64 x2] 33)
  have RlH := Lib.hid Rl; clear Rl
  go_wp2_with fail
  have hw0 : w.heap.size < w.heap.size + 1 := by first | omega | (simp only [World.size_alloc]; omega)
  go_region_held3 (fun w' => w'.cell? ⟨w.heap.size, 0, none⟩ = some (.int .i64 x0) ∧ w'.cell? ⟨w.heap.size, 1, none⟩ = some (.int .i64 x1) ∧ w'.cell? ⟨w.heap.size, 2, none⟩ = some (.int .i64 x2)) (simp [*, World.cell?_alloc_past])
   (first | (go_at_call 13; refine (toInt64S_any l Al _ _ _ (by exact RlH.out) (by first | omega | go_size | (simp only [World.size_alloc]; omega) | (simp; omega)) hkl).mono ?_; rintro e w1 ⟨Asl, csl, rfl, o1, b1⟩; have Osl1 := Lib.hid o1; clear o1; obtain ⟨hc1, hf1, hz1⟩ := bstep (N := w.heap.size + 1) (by first | omega | go_size | (simp only [World.size_alloc]; omega) | (simp; omega)) b1; have hy1 : w.heap.size < w1.heap.size := hz1) | (go_at_call 21; refine (toEventRecord_any x0 x1 x2 _).mono ?_; rintro e w2 ⟨rfl, b2⟩; have Osl2 := Lib.hid (own_below Osl1.out b2); obtain ⟨hc2, hf2, hz2⟩ := bstep (N := w.heap.size + 1) (by first | omega | go_size | (simp only [World.size_alloc]; omega) | (simp; omega)) b2; have hy2 : w.heap.size < w2.heap.size := hz2) | (go_at_call 35; refine (app_spec l x0 x1 x2 Asl _ _ _ ((Rd.of_own Osl2.out).more (by omega)) (Nat.le_refl _) (own_cap Osl2.out) (own_capmax Osl2.out trivial) hkl).mono ?_; rintro e w3 ⟨Aw, cw, rfl, o3, b3⟩; have OwH := Lib.hid o3; clear o3; obtain ⟨hc3, hf3, hz3⟩ := bstep (N := w.heap.size + 1) (by first | omega | go_size | (simp only [World.size_alloc]; omega) | (simp; omega)) b3; have hy3 : w.heap.size < w3.heap.size := hz3))
  all_goals (
  replace b1 : Below ((w.alloc (.cells #[.int .i64 x0, .int .i64 x1, .int .i64 x2] 33))).heap.size (w.alloc (.cells #[.int .i64 x0, .int .i64 x1, .int .i64 x2] 33)) w1 := (by first | exact b1 | exact Below.trans (Below.drew (Below.refl _ _)) b1)
  have z1 := b1.size
  try simp only [World.size_alloc] at z1
  have z2 := b2.size
  try simp only [World.size_alloc] at z2
  have z3 := b3.size
  try simp only [World.size_alloc] at z3
  have Rl := ((RlH.out.below b1 (by first | omega | (simp only [World.size_alloc]; omega))).below b2 (by first | omega | (simp only [World.size_alloc]; omega))).below b3 (by first | omega | (simp only [World.size_alloc]; omega))
  replace C0_0 := (b1.cell (p := ⟨w.heap.size, 0, none⟩) (by first | omega | (simp only [World.size_alloc]; omega))).trans C0_0
  replace C0_1 := (b1.cell (p := ⟨w.heap.size, 1, none⟩) (by first | omega | (simp only [World.size_alloc]; omega))).trans C0_1
  replace C0_2 := (b1.cell (p := ⟨w.heap.size, 2, none⟩) (by first | omega | (simp only [World.size_alloc]; omega))).trans C0_2
  replace C0_0 := (b2.cell (p := ⟨w.heap.size, 0, none⟩) (by first | omega | (simp only [World.size_alloc]; omega))).trans C0_0
  replace C0_1 := (b2.cell (p := ⟨w.heap.size, 1, none⟩) (by first | omega | (simp only [World.size_alloc]; omega))).trans C0_1
  replace C0_2 := (b2.cell (p := ⟨w.heap.size, 2, none⟩) (by first | omega | (simp only [World.size_alloc]; omega))).trans C0_2
  replace C0_0 := (b3.cell (p := ⟨w.heap.size, 0, none⟩) (by first | omega | (simp only [World.size_alloc]; omega))).trans C0_0
  replace C0_1 := (b3.cell (p := ⟨w.heap.size, 1, none⟩) (by first | omega | (simp only [World.size_alloc]; omega))).trans C0_1
  replace C0_2 := (b3.cell (p := ⟨w.heap.size, 2, none⟩) (by first | omega | (simp only [World.size_alloc]; omega))).trans C0_2
  have Ow := OwH.out
  have Rw := Rd.of_own Ow
  clear RlH hc1 hf1 hc2 hf2 hc3 hf3
  clear Ow
  go_wp2_with fail
  refine (toInt64S_any l Al _ _ _ Rl (by first | omega | (simp only [World.size_alloc]; omega)) hkl).mono ?_; rintro e w4 ⟨Axl, cxl, rfl, Oxl, b4⟩
  have z4 := b4.size
  try simp only [World.size_alloc] at z4
  replace Rl := Rl.below b4 (by first | omega | (simp only [World.size_alloc]; omega))
  replace C0_0 := (b4.cell (p := ⟨w.heap.size, 0, none⟩) (by first | omega | (simp only [World.size_alloc]; omega))).trans C0_0
  replace C0_1 := (b4.cell (p := ⟨w.heap.size, 1, none⟩) (by first | omega | (simp only [World.size_alloc]; omega))).trans C0_1
  replace C0_2 := (b4.cell (p := ⟨w.heap.size, 2, none⟩) (by first | omega | (simp only [World.size_alloc]; omega))).trans C0_2
  replace Rw := Rw.below b4 (by first | omega | (simp only [World.size_alloc]; omega))
  have Rxl := Rd.of_own Oxl
  have kxl := own_cap Oxl
  have Lxl := own_lt Oxl
  go_wp2_with fail
  refine (toEventRecord_any x0 x1 x2 _).mono ?_; rintro e w5 ⟨rfl, b5⟩
  have z5 := b5.size
  try simp only [World.size_alloc] at z5
  replace Rl := Rl.below b5 (by first | omega | (simp only [World.size_alloc]; omega))
  replace C0_0 := (b5.cell (p := ⟨w.heap.size, 0, none⟩) (by first | omega | (simp only [World.size_alloc]; omega))).trans C0_0
  replace C0_1 := (b5.cell (p := ⟨w.heap.size, 1, none⟩) (by first | omega | (simp only [World.size_alloc]; omega))).trans C0_1
  replace C0_2 := (b5.cell (p := ⟨w.heap.size, 2, none⟩) (by first | omega | (simp only [World.size_alloc]; omega))).trans C0_2
  replace Rw := Rw.below b5 (by first | omega | (simp only [World.size_alloc]; omega))
  replace Rxl := Rxl.below b5 (by first | omega | (simp only [World.size_alloc]; omega))
  replace Oxl := own_below Oxl b5
  go_wp2_with fail
  refine (app_impl l x0 x1 x2 Axl _ _ _ (Rxl.more (by omega)) (Nat.le_refl _) kxl (own_capmax Oxl trivial) hkl).mono ?_; rintro e w6 ⟨Ag, cg, rfl, Og, b6⟩
  have z6 := b6.size
  try simp only [World.size_alloc] at z6
  replace Rl := Rl.below b6 (by first | omega | (simp only [World.size_alloc]; omega))
  replace C0_0 := (b6.cell (p := ⟨w.heap.size, 0, none⟩) (by first | omega | (simp only [World.size_alloc]; omega))).trans C0_0
  replace C0_1 := (b6.cell (p := ⟨w.heap.size, 1, none⟩) (by first | omega | (simp only [World.size_alloc]; omega))).trans C0_1
  replace C0_2 := (b6.cell (p := ⟨w.heap.size, 2, none⟩) (by first | omega | (simp only [World.size_alloc]; omega))).trans C0_2
  replace Rw := Rw.below b6 (by first | omega | (simp only [World.size_alloc]; omega))
  replace Rxl := Rxl.below b6 (by first | omega | (simp only [World.size_alloc]; omega))
  replace Oxl := own_below Oxl b6
  have Rg := Rd.of_own Og
  have Lg := own_lt Og
  go_wp2_with fail
  refine (eqInt64S_same (appR l x0 x1 x2) Ag Aw _ _ _ _ (Rg.more (by first | omega | (simp only [World.size_alloc]; omega))) (Rw.more (by first | omega | (simp only [World.size_alloc]; omega))) (Nat.le_refl _) (appR_len l x0 x1 x2)).mono ?_; rintro e w7 ⟨rfl, b7⟩
  have z7 := b7.size
  try simp only [World.size_alloc] at z7
  replace Rl := Rl.below b7 (by first | omega | (simp only [World.size_alloc]; omega))
  replace C0_0 := (b7.cell (p := ⟨w.heap.size, 0, none⟩) (by first | omega | (simp only [World.size_alloc]; omega))).trans C0_0
  replace C0_1 := (b7.cell (p := ⟨w.heap.size, 1, none⟩) (by first | omega | (simp only [World.size_alloc]; omega))).trans C0_1
  replace C0_2 := (b7.cell (p := ⟨w.heap.size, 2, none⟩) (by first | omega | (simp only [World.size_alloc]; omega))).trans C0_2
  replace Rw := Rw.below b7 (by first | omega | (simp only [World.size_alloc]; omega))
  replace Rxl := Rxl.below b7 (by first | omega | (simp only [World.size_alloc]; omega))
  replace Oxl := own_below Oxl b7
  replace Rg := Rg.below b7 (by first | omega | (simp only [World.size_alloc]; omega))
  replace Og := own_below Og b7
  go_wp2_with fail
  refine (toInt64S_any l Al _ _ _ Rl (by first | omega | (simp only [World.size_alloc]; omega)) hkl).mono ?_; rintro e w8 ⟨Ayl, cyl, rfl, Oyl, b8⟩
  have z8 := b8.size
  try simp only [World.size_alloc] at z8
  replace Rl := Rl.below b8 (by first | omega | (simp only [World.size_alloc]; omega))
  replace C0_0 := (b8.cell (p := ⟨w.heap.size, 0, none⟩) (by first | omega | (simp only [World.size_alloc]; omega))).trans C0_0
  replace C0_1 := (b8.cell (p := ⟨w.heap.size, 1, none⟩) (by first | omega | (simp only [World.size_alloc]; omega))).trans C0_1
  replace C0_2 := (b8.cell (p := ⟨w.heap.size, 2, none⟩) (by first | omega | (simp only [World.size_alloc]; omega))).trans C0_2
  replace Rw := Rw.below b8 (by first | omega | (simp only [World.size_alloc]; omega))
  replace Rxl := Rxl.below b8 (by first | omega | (simp only [World.size_alloc]; omega))
  replace Oxl := own_below Oxl b8
  replace Rg := Rg.below b8 (by first | omega | (simp only [World.size_alloc]; omega))
  replace Og := own_below Og b8
  have Ryl := Rd.of_own Oyl
  have kyl := own_cap Oyl
  have Lyl := own_lt Oyl
  go_wp2_with fail
  refine (eqInt64S_same l Axl Ayl _ _ _ _ (Rxl.more (by first | omega | (simp only [World.size_alloc]; omega))) (Ryl.more (by first | omega | (simp only [World.size_alloc]; omega))) (Nat.le_refl _) hkl).mono ?_; rintro e w9 ⟨rfl, b9⟩
  have z9 := b9.size
  try simp only [World.size_alloc] at z9
  replace Rl := Rl.below b9 (by first | omega | (simp only [World.size_alloc]; omega))
  replace C0_0 := (b9.cell (p := ⟨w.heap.size, 0, none⟩) (by first | omega | (simp only [World.size_alloc]; omega))).trans C0_0
  replace C0_1 := (b9.cell (p := ⟨w.heap.size, 1, none⟩) (by first | omega | (simp only [World.size_alloc]; omega))).trans C0_1
  replace C0_2 := (b9.cell (p := ⟨w.heap.size, 2, none⟩) (by first | omega | (simp only [World.size_alloc]; omega))).trans C0_2
  replace Rw := Rw.below b9 (by first | omega | (simp only [World.size_alloc]; omega))
  replace Rxl := Rxl.below b9 (by first | omega | (simp only [World.size_alloc]; omega))
  replace Oxl := own_below Oxl b9
  replace Rg := Rg.below b9 (by first | omega | (simp only [World.size_alloc]; omega))
  replace Og := own_below Og b9
  replace Ryl := Ryl.below b9 (by first | omega | (simp only [World.size_alloc]; omega))
  replace Oyl := own_below Oyl b9
  clear Ryl
  clear Oyl
  have hql : (l.length : Int) ≤ 1048576 := by omega
  go_wp2_with fail
  clear Rxl
  refine (markInt64S_any l.length Axl _ cxl _ _ _ Oxl (by omega) (by omega) (by omega)).mono ?_; rintro e w10 ⟨rfl, Oxl', g10⟩
  have z10 := g10.size
  replace Rl := Rl.grown g10 (by omega) (fun k hk => by have := Lxl k hk; omega)
  replace C0_0 := (grownBy_cell g10 C0_0 (fun k hk => by have := Lxl k hk; omega))
  replace C0_1 := (grownBy_cell g10 C0_1 (fun k hk => by have := Lxl k hk; omega))
  replace C0_2 := (grownBy_cell g10 C0_2 (fun k hk => by have := Lxl k hk; omega))
  replace Rw := Rw.grown g10 (by omega) (fun k hk => by have := Lxl k hk; omega)
  replace Og := own_apart Og g10 (fun k hk => by have := Lxl k hk; omega)
  have b10 := below_of_grownBy (B := w.heap.size) g10 (by omega) (fun k hk => by have := Lxl k hk; omega)
  replace Rg := Rd.of_own Og
  clear Oxl g10
  have Oxl := Oxl'
  clear Oxl'
  clear Oxl
  go_wp2_with fail
  refine (eqInt64S_same (appR l x0 x1 x2) Ag Aw _ _ _ _ (Rg.more (by first | omega | (simp only [World.size_alloc]; omega))) (Rw.more (by first | omega | (simp only [World.size_alloc]; omega))) (Nat.le_refl _) (appR_len l x0 x1 x2)).mono ?_; rintro e w11 ⟨rfl, b11⟩
  have z11 := b11.size
  try simp only [World.size_alloc] at z11
  replace Rl := Rl.below b11 (by first | omega | (simp only [World.size_alloc]; omega))
  replace C0_0 := (b11.cell (p := ⟨w.heap.size, 0, none⟩) (by first | omega | (simp only [World.size_alloc]; omega))).trans C0_0
  replace C0_1 := (b11.cell (p := ⟨w.heap.size, 1, none⟩) (by first | omega | (simp only [World.size_alloc]; omega))).trans C0_1
  replace C0_2 := (b11.cell (p := ⟨w.heap.size, 2, none⟩) (by first | omega | (simp only [World.size_alloc]; omega))).trans C0_2
  replace Rw := Rw.below b11 (by first | omega | (simp only [World.size_alloc]; omega))
  replace Rg := Rg.below b11 (by first | omega | (simp only [World.size_alloc]; omega))
  replace Og := own_below Og b11
  have hRn : (appR l x0 x1 x2).length ≤ 1048576 := appR_len l x0 x1 x2
  go_wp2_with fail
  clear Rg
  refine (markInt64S_any (appR l x0 x1 x2).length Ag _ cg _ _ _ Og (by omega) (by omega) (by omega)).mono ?_; rintro e w12 ⟨rfl, Og', g12⟩
  have z12 := g12.size
  replace Rl := Rl.grown g12 (by omega) (fun k hk => by have := Lg k hk; omega)
  replace C0_0 := (grownBy_cell g12 C0_0 (fun k hk => by have := Lg k hk; omega))
  replace C0_1 := (grownBy_cell g12 C0_1 (fun k hk => by have := Lg k hk; omega))
  replace C0_2 := (grownBy_cell g12 C0_2 (fun k hk => by have := Lg k hk; omega))
  replace Rw := Rw.grown g12 (by omega) (fun k hk => by have := Lg k hk; omega)
  have b12 := below_of_grownBy (B := w.heap.size) g12 (by omega) (fun k hk => by have := Lg k hk; omega)
  clear Og g12
  have Og := Og'
  clear Og'
  have Rg := Rd.of_own Og
  go_wp2_with fail
  refine (heldInt64S_any (appR l x0 x1 x2).length Ag _ _ _ _ Rg (by omega) (by omega) (by omega)).mono ?_; rintro e w13 ⟨rfl, he13⟩
  subst he13
  have RlH := Lib.hid Rl; clear Rl
  have RwH := Lib.hid Rw; clear Rw
  have OgH := Lib.hid Og; clear Og
  have RgH := Lib.hid Rg; clear Rg
  go_wp2_with fail
  have hw0 : w.heap.size < w12.heap.size := by first | omega | (simp only [World.size_alloc]; omega)
  go_region_held3 (fun w' => w'.cell? ⟨w.heap.size, 0, none⟩ = some (.int .i64 x0) ∧ w'.cell? ⟨w.heap.size, 1, none⟩ = some (.int .i64 x1) ∧ w'.cell? ⟨w.heap.size, 2, none⟩ = some (.int .i64 x2)) (simp [*, World.cell?_alloc_past])
   (first | (go_at_call 13; refine (toInt64S_any l Al _ _ _ (by exact RlH.out) (by first | omega | go_size | (simp only [World.size_alloc]; omega) | (simp; omega)) hkl).mono ?_; rintro e w13 ⟨Ahl, chl, rfl, o1, b13⟩; have Ohl1 := Lib.hid o1; clear o1; obtain ⟨hc13, hf13, hz13⟩ := bstep (N := w.heap.size + 1) (by first | omega | go_size | (simp only [World.size_alloc]; omega) | (simp; omega)) b13; have hy13 : w.heap.size < w13.heap.size := hz13) | (go_at_call 21; refine (toEventRecord_any x0 x1 x2 _).mono ?_; rintro e w14 ⟨rfl, b14⟩; have Ohl2 := Lib.hid (own_below Ohl1.out b14); obtain ⟨hc14, hf14, hz14⟩ := bstep (N := w.heap.size + 1) (by first | omega | go_size | (simp only [World.size_alloc]; omega) | (simp; omega)) b14; have hy14 : w.heap.size < w14.heap.size := hz14) | (go_at_call 36; refine (app_impl l x0 x1 x2 Ahl _ _ _ ((Rd.of_own Ohl2.out).more (by omega)) (Nat.le_refl _) (own_cap Ohl2.out) (own_capmax Ohl2.out trivial) hkl).mono ?_; rintro e w15 ⟨Ah, ch, rfl, o3, b15⟩; have OhH := Lib.hid o3; clear o3; obtain ⟨hc15, hf15, hz15⟩ := bstep (N := w.heap.size + 1) (by first | omega | go_size | (simp only [World.size_alloc]; omega) | (simp; omega)) b15; have hy15 : w.heap.size < w15.heap.size := hz15))
  all_goals (
  replace b13 : Below (w12).heap.size w12 w13 := (by first | exact b13 | exact Below.trans (Below.drew (Below.refl _ _)) b13)
  have z13 := b13.size
  try simp only [World.size_alloc] at z13
  have z14 := b14.size
  try simp only [World.size_alloc] at z14
  have z15 := b15.size
  try simp only [World.size_alloc] at z15
  have Rl := ((RlH.out.below b13 (by first | omega | (simp only [World.size_alloc]; omega))).below b14 (by first | omega | (simp only [World.size_alloc]; omega))).below b15 (by first | omega | (simp only [World.size_alloc]; omega))
  have Rw := ((RwH.out.below b13 (by first | omega | (simp only [World.size_alloc]; omega))).below b14 (by first | omega | (simp only [World.size_alloc]; omega))).below b15 (by first | omega | (simp only [World.size_alloc]; omega))
  have Og := own_below (own_below (own_below OgH.out b13) b14) b15
  have Rg := ((RgH.out.below b13 (by first | omega | (simp only [World.size_alloc]; omega))).below b14 (by first | omega | (simp only [World.size_alloc]; omega))).below b15 (by first | omega | (simp only [World.size_alloc]; omega))
  replace C0_0 := (b13.cell (p := ⟨w.heap.size, 0, none⟩) (by first | omega | (simp only [World.size_alloc]; omega))).trans C0_0
  replace C0_1 := (b13.cell (p := ⟨w.heap.size, 1, none⟩) (by first | omega | (simp only [World.size_alloc]; omega))).trans C0_1
  replace C0_2 := (b13.cell (p := ⟨w.heap.size, 2, none⟩) (by first | omega | (simp only [World.size_alloc]; omega))).trans C0_2
  replace C0_0 := (b14.cell (p := ⟨w.heap.size, 0, none⟩) (by first | omega | (simp only [World.size_alloc]; omega))).trans C0_0
  replace C0_1 := (b14.cell (p := ⟨w.heap.size, 1, none⟩) (by first | omega | (simp only [World.size_alloc]; omega))).trans C0_1
  replace C0_2 := (b14.cell (p := ⟨w.heap.size, 2, none⟩) (by first | omega | (simp only [World.size_alloc]; omega))).trans C0_2
  replace C0_0 := (b15.cell (p := ⟨w.heap.size, 0, none⟩) (by first | omega | (simp only [World.size_alloc]; omega))).trans C0_0
  replace C0_1 := (b15.cell (p := ⟨w.heap.size, 1, none⟩) (by first | omega | (simp only [World.size_alloc]; omega))).trans C0_1
  replace C0_2 := (b15.cell (p := ⟨w.heap.size, 2, none⟩) (by first | omega | (simp only [World.size_alloc]; omega))).trans C0_2
  have Oh := OhH.out
  have Rh := Rd.of_own Oh
  have Lh := own_lt Oh
  clear RlH RwH OgH RgH hc13 hf13 hc14 hf14 hc15 hf15
  go_wp2_with fail
  refine (eqInt64S_same (appR l x0 x1 x2) Ah Aw _ _ _ _ (Rh.more (by first | omega | (simp only [World.size_alloc]; omega))) (Rw.more (by first | omega | (simp only [World.size_alloc]; omega))) (Nat.le_refl _) (appR_len l x0 x1 x2)).mono ?_; rintro e w16 ⟨rfl, b16⟩
  have z16 := b16.size
  try simp only [World.size_alloc] at z16
  replace Rl := Rl.below b16 (by first | omega | (simp only [World.size_alloc]; omega))
  replace C0_0 := (b16.cell (p := ⟨w.heap.size, 0, none⟩) (by first | omega | (simp only [World.size_alloc]; omega))).trans C0_0
  replace C0_1 := (b16.cell (p := ⟨w.heap.size, 1, none⟩) (by first | omega | (simp only [World.size_alloc]; omega))).trans C0_1
  replace C0_2 := (b16.cell (p := ⟨w.heap.size, 2, none⟩) (by first | omega | (simp only [World.size_alloc]; omega))).trans C0_2
  replace Rw := Rw.below b16 (by first | omega | (simp only [World.size_alloc]; omega))
  replace Og := own_below Og b16
  replace Rg := Rg.below b16 (by first | omega | (simp only [World.size_alloc]; omega))
  replace Rh := Rh.below b16 (by first | omega | (simp only [World.size_alloc]; omega))
  replace Oh := own_below Oh b16
  go_wp2_with fail
  refine (heldInt64S_any (appR l x0 x1 x2).length Ag _ _ _ _ Rg (by omega) (by omega) (by omega)).mono ?_; rintro e w17 ⟨rfl, he17⟩
  subst he17
  go_wp2
  go_ret
  exact ⟨rfl, by repeat' (first | (with_reducible exact Below.refl _ _) | (with_reducible assumption) | (with_reducible refine Below.alloc ?_ ?_ _) | (with_reducible refine Below.drew ?_) | (with_reducible refine below_drewN ?_ _) | (with_reducible refine Below.setCell ?_ ?_ _) | (with_reducible refine Below.trans ?_ (Below.mono (by assumption) ?_)) | go_size | (exact Below.size (by assumption)))⟩))
end Go.Proofs.Ytjohpakfaommgaa
