/- The law on VisitDays. -/
import Derived.Test.YtmbchcenclfjoaaB
import Derived.Test.YtmbchcenclfjoaaI
import Derived.Test.YtmbchcenclfjoaaVi
namespace Go.Proofs.Ytmbchcenclfjoaa
open Go.ChangeShapes Go.WideShapes Go.ChangeAt Go.RowKit
set_option linter.unusedVariables false
set_option linter.unusedSimpArgs false
set_option maxRecDepth 20000 in
theorem walkFnExactVisitDays (l : List (Int × Int)) (Al : Option Addr) (cl : Nat) (day : Int) (w : World) (Rl : Rd w w.heap.size Al ((l).flatMap eTask)) (hlcl : l.length ≤ cl) (hml : cl ≤ maxLen) (wfday : (Lit.int .i64 day).wf = true) :
   Calls Try.prog 14 #[.slice Al l.length cl, .int .i64 day] w fun e w' => e = .returned (.bool true) ∧ Below w.heap.size w w' := by
  clear wfday
  unfold maxLen at hml
  by_cases hnl : (l.length : Int) ≤ 1048576
  rotate_left
  · skip
    go_enter Try.func14, Try.ntmps14
    go_wp2_with fail
    refine (szTaskS_great _ _ _ _ (by omega) (by omega) (by omega) (by omega) _).mono ?_; rintro e w' ⟨rfl, rfl⟩
    go_wp2
    go_ret
    exact ⟨rfl, by repeat' (first | (with_reducible exact Below.refl _ _) | (with_reducible assumption) | (with_reducible refine Below.alloc ?_ ?_ _) | (with_reducible refine Below.drew ?_) | (with_reducible refine below_drewN ?_ _) | (with_reducible refine Below.setCell ?_ ?_ _) | (with_reducible refine Below.trans ?_ (Below.mono (by assumption) ?_)) | go_size | (exact Below.size (by assumption)))⟩
  have hkl : l.length ≤ 1048576 := by omega
  go_enter Try.func14, Try.ntmps14
  go_wp2_with fail
  refine (szTaskS_small _ _ _ _ (by omega) (by omega) _).mono ?_; rintro e w' ⟨rfl, rfl⟩
  go_wp2_with fail
  refine (toTaskS_any l Al _ _ _ Rl (by first | omega | (simp only [World.size_alloc]; omega)) hkl).mono ?_; rintro e w1 ⟨Asl, csl, rfl, Osl, b1⟩
  have z1 := b1.size
  replace Rl := Rl.below b1 (by first | omega | (simp only [World.size_alloc]; omega))
  have Rsl := Rd.of_own Osl
  have ksl := own_cap Osl
  have Lsl := own_lt Osl
  go_wp2_with fail
  refine (visit_spec l day Asl _ _ _ Rsl (by omega) hkl).mono ?_; rintro e w2 ⟨Aw, cw, rfl, Ow, b2⟩
  have z2 := b2.size
  replace Rl := Rl.below b2 (by first | omega | (simp only [World.size_alloc]; omega))
  replace Rsl := Rsl.below b2 (by first | omega | (simp only [World.size_alloc]; omega))
  replace Osl := own_below Osl b2
  have Rw := Rd.of_own Ow
  clear Ow
  clear Osl
  clear Rsl
  go_wp2_with fail
  refine (toTaskS_any l Al _ _ _ Rl (by first | omega | (simp only [World.size_alloc]; omega)) hkl).mono ?_; rintro e w3 ⟨Axl, cxl, rfl, Oxl, b3⟩
  have z3 := b3.size
  replace Rl := Rl.below b3 (by first | omega | (simp only [World.size_alloc]; omega))
  replace Rw := Rw.below b3 (by first | omega | (simp only [World.size_alloc]; omega))
  have Rxl := Rd.of_own Oxl
  have kxl := own_cap Oxl
  have Lxl := own_lt Oxl
  go_wp2_with fail
  refine (visit_impl l day Axl _ _ _ Rxl (by omega) hkl).mono ?_; rintro e w4 ⟨Ag, cg, rfl, Og, b4⟩
  have z4 := b4.size
  replace Rl := Rl.below b4 (by first | omega | (simp only [World.size_alloc]; omega))
  replace Rw := Rw.below b4 (by first | omega | (simp only [World.size_alloc]; omega))
  replace Rxl := Rxl.below b4 (by first | omega | (simp only [World.size_alloc]; omega))
  replace Oxl := own_below Oxl b4
  have Rg := Rd.of_own Og
  have Lg := own_lt Og
  go_wp2_with fail
  refine (eqInt64S_same (visR l day) Ag Aw _ _ _ _ (Rg.more (by first | omega | (simp only [World.size_alloc]; omega))) (Rw.more (by first | omega | (simp only [World.size_alloc]; omega))) (Nat.le_refl _) (visR_len l day)).mono ?_; rintro e w5 ⟨rfl, b5⟩
  have z5 := b5.size
  replace Rl := Rl.below b5 (by first | omega | (simp only [World.size_alloc]; omega))
  replace Rw := Rw.below b5 (by first | omega | (simp only [World.size_alloc]; omega))
  replace Rxl := Rxl.below b5 (by first | omega | (simp only [World.size_alloc]; omega))
  replace Oxl := own_below Oxl b5
  replace Rg := Rg.below b5 (by first | omega | (simp only [World.size_alloc]; omega))
  replace Og := own_below Og b5
  go_wp2_with fail
  refine (toTaskS_any l Al _ _ _ Rl (by first | omega | (simp only [World.size_alloc]; omega)) hkl).mono ?_; rintro e w6 ⟨Ayl, cyl, rfl, Oyl, b6⟩
  have z6 := b6.size
  replace Rl := Rl.below b6 (by first | omega | (simp only [World.size_alloc]; omega))
  replace Rw := Rw.below b6 (by first | omega | (simp only [World.size_alloc]; omega))
  replace Rxl := Rxl.below b6 (by first | omega | (simp only [World.size_alloc]; omega))
  replace Oxl := own_below Oxl b6
  replace Rg := Rg.below b6 (by first | omega | (simp only [World.size_alloc]; omega))
  replace Og := own_below Og b6
  have Ryl := Rd.of_own Oyl
  have kyl := own_cap Oyl
  have Lyl := own_lt Oyl
  go_wp2_with fail
  refine (eqTaskS_same l Axl Ayl _ _ _ _ (Rxl.more (by first | omega | (simp only [World.size_alloc]; omega))) (Ryl.more (by first | omega | (simp only [World.size_alloc]; omega))) (Nat.le_refl _) hkl).mono ?_; rintro e w7 ⟨rfl, b7⟩
  have z7 := b7.size
  replace Rl := Rl.below b7 (by first | omega | (simp only [World.size_alloc]; omega))
  replace Rw := Rw.below b7 (by first | omega | (simp only [World.size_alloc]; omega))
  replace Rxl := Rxl.below b7 (by first | omega | (simp only [World.size_alloc]; omega))
  replace Oxl := own_below Oxl b7
  replace Rg := Rg.below b7 (by first | omega | (simp only [World.size_alloc]; omega))
  replace Og := own_below Og b7
  replace Ryl := Ryl.below b7 (by first | omega | (simp only [World.size_alloc]; omega))
  replace Oyl := own_below Oyl b7
  clear Ryl
  clear Oyl
  have hql : (l.length : Int) ≤ 1048576 := by omega
  go_wp2_with fail
  clear Rxl
  refine (markTaskS_any l.length Axl _ cxl _ _ _ Oxl (by omega) (by omega) (by omega)).mono ?_; rintro e w8 ⟨rfl, Oxl', g8⟩
  have z8 := g8.size
  replace Rl := Rl.grown g8 (by omega) (fun k hk => by have := Lxl k hk; omega)
  replace Rw := Rw.grown g8 (by omega) (fun k hk => by have := Lxl k hk; omega)
  replace Og := own_apart Og g8 (fun k hk => by have := Lxl k hk; omega)
  have b8 := below_of_grownBy (B := w.heap.size) g8 (by omega) (fun k hk => by have := Lxl k hk; omega)
  replace Rg := Rd.of_own Og
  clear Oxl g8
  have Oxl := Oxl'
  clear Oxl'
  clear Oxl
  go_wp2_with fail
  refine (eqInt64S_same (visR l day) Ag Aw _ _ _ _ (Rg.more (by first | omega | (simp only [World.size_alloc]; omega))) (Rw.more (by first | omega | (simp only [World.size_alloc]; omega))) (Nat.le_refl _) (visR_len l day)).mono ?_; rintro e w9 ⟨rfl, b9⟩
  have z9 := b9.size
  replace Rl := Rl.below b9 (by first | omega | (simp only [World.size_alloc]; omega))
  replace Rw := Rw.below b9 (by first | omega | (simp only [World.size_alloc]; omega))
  replace Rg := Rg.below b9 (by first | omega | (simp only [World.size_alloc]; omega))
  replace Og := own_below Og b9
  have hRn : (visR l day).length ≤ 1048576 := visR_len l day
  go_wp2_with fail
  clear Rg
  refine (markInt64S_any (visR l day).length Ag _ cg _ _ _ Og (by omega) (by omega) (by omega)).mono ?_; rintro e w10 ⟨rfl, Og', g10⟩
  have z10 := g10.size
  replace Rl := Rl.grown g10 (by omega) (fun k hk => by have := Lg k hk; omega)
  replace Rw := Rw.grown g10 (by omega) (fun k hk => by have := Lg k hk; omega)
  have b10 := below_of_grownBy (B := w.heap.size) g10 (by omega) (fun k hk => by have := Lg k hk; omega)
  clear Og g10
  have Og := Og'
  clear Og'
  have Rg := Rd.of_own Og
  go_wp2_with fail
  refine (heldInt64S_any (visR l day).length Ag _ _ _ _ Rg (by omega) (by omega) (by omega)).mono ?_; rintro e w11 ⟨rfl, he11⟩
  subst he11
  go_wp2_with fail
  refine (toTaskS_any l Al _ _ _ Rl (by first | omega | (simp only [World.size_alloc]; omega)) hkl).mono ?_; rintro e w11 ⟨Ahl, chl, rfl, Ohl, b11⟩
  have z11 := b11.size
  replace Rl := Rl.below b11 (by first | omega | (simp only [World.size_alloc]; omega))
  replace Rw := Rw.below b11 (by first | omega | (simp only [World.size_alloc]; omega))
  replace Og := own_below Og b11
  replace Rg := Rg.below b11 (by first | omega | (simp only [World.size_alloc]; omega))
  have Rhl := Rd.of_own Ohl
  have khl := own_cap Ohl
  have Lhl := own_lt Ohl
  go_wp2_with fail
  refine (visit_impl l day Ahl _ _ _ Rhl (by omega) hkl).mono ?_; rintro e w12 ⟨Ah, ch, rfl, Oh, b12⟩
  have z12 := b12.size
  replace Rl := Rl.below b12 (by first | omega | (simp only [World.size_alloc]; omega))
  replace Rw := Rw.below b12 (by first | omega | (simp only [World.size_alloc]; omega))
  replace Og := own_below Og b12
  replace Rg := Rg.below b12 (by first | omega | (simp only [World.size_alloc]; omega))
  replace Rhl := Rhl.below b12 (by first | omega | (simp only [World.size_alloc]; omega))
  replace Ohl := own_below Ohl b12
  have Rh := Rd.of_own Oh
  have Lh := own_lt Oh
  go_wp2_with fail
  refine (eqInt64S_same (visR l day) Ah Aw _ _ _ _ (Rh.more (by first | omega | (simp only [World.size_alloc]; omega))) (Rw.more (by first | omega | (simp only [World.size_alloc]; omega))) (Nat.le_refl _) (visR_len l day)).mono ?_; rintro e w13 ⟨rfl, b13⟩
  have z13 := b13.size
  replace Rl := Rl.below b13 (by first | omega | (simp only [World.size_alloc]; omega))
  replace Rw := Rw.below b13 (by first | omega | (simp only [World.size_alloc]; omega))
  replace Og := own_below Og b13
  replace Rg := Rg.below b13 (by first | omega | (simp only [World.size_alloc]; omega))
  replace Rhl := Rhl.below b13 (by first | omega | (simp only [World.size_alloc]; omega))
  replace Ohl := own_below Ohl b13
  replace Rh := Rh.below b13 (by first | omega | (simp only [World.size_alloc]; omega))
  replace Oh := own_below Oh b13
  go_wp2_with fail
  refine (heldInt64S_any (visR l day).length Ag _ _ _ _ Rg (by omega) (by omega) (by omega)).mono ?_; rintro e w14 ⟨rfl, he14⟩
  subst he14
  go_wp2
  go_ret
  exact ⟨rfl, by repeat' (first | (with_reducible exact Below.refl _ _) | (with_reducible assumption) | (with_reducible refine Below.alloc ?_ ?_ _) | (with_reducible refine Below.drew ?_) | (with_reducible refine below_drewN ?_ _) | (with_reducible refine Below.setCell ?_ ?_ _) | (with_reducible refine Below.trans ?_ (Below.mono (by assumption) ?_)) | go_size | (exact Below.size (by assumption)))⟩
end Go.Proofs.Ytmbchcenclfjoaa
