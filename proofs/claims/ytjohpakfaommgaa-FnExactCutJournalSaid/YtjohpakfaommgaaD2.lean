/- The law on CutJournal. -/
import Derived.Test.YtjohpakfaommgaaI
import Derived.Test.YtjohpakfaommgaaCut
namespace Go.Proofs.Ytjohpakfaommgaa
open Go.ChangeShapes Go.WideShapes Go.ChangeAt Go.RowKit
set_option linter.unusedVariables false
set_option linter.unusedSimpArgs false
set_option maxRecDepth 20000 in
theorem walkFnExactCutJournal (l : List (Int)) (Al : Option Addr) (cl : Nat) (kept : Int) (rest : List (Int)) (Arest : Option Addr) (crest : Nat) (w : World) (Rl : Rd w w.heap.size Al (ints (l))) (hlcl : l.length ≤ cl) (hml : cl ≤ maxLen) (wfkept : (Lit.int .i64 kept).wf = true) (Rrest : Rd w w.heap.size Arest (ints (rest))) (hlcrest : rest.length ≤ crest) (hmrest : crest ≤ maxLen) :
   Calls Try.prog 4 #[.slice Al l.length cl, .int .i64 kept, .slice Arest rest.length crest] w fun e w' => e = .returned (.bool true) ∧ Below w.heap.size w w' := by
  clear wfkept
  unfold maxLen at hml
  unfold maxLen at hmrest
  by_cases hnl : (l.length : Int) ≤ 1048576
  rotate_left
  · skip
    go_enter Try.func4, Try.ntmps4
    go_wp2
    go_ret
    exact ⟨rfl, by repeat' (first | (with_reducible exact Below.refl _ _) | (with_reducible assumption) | (with_reducible refine Below.alloc ?_ ?_ _) | (with_reducible refine Below.drew ?_) | (with_reducible refine below_drewN ?_ _) | (with_reducible refine Below.setCell ?_ ?_ _) | (with_reducible refine Below.trans ?_ (Below.mono (by assumption) ?_)) | go_size | (exact Below.size (by assumption)))⟩
  by_cases hnrest : (rest.length : Int) ≤ 1048576
  rotate_left
  · skip
    go_enter Try.func4, Try.ntmps4
    go_wp2
    go_ret
    exact ⟨rfl, by repeat' (first | (with_reducible exact Below.refl _ _) | (with_reducible assumption) | (with_reducible refine Below.alloc ?_ ?_ _) | (with_reducible refine Below.drew ?_) | (with_reducible refine below_drewN ?_ _) | (with_reducible refine Below.setCell ?_ ?_ _) | (with_reducible refine Below.trans ?_ (Below.mono (by assumption) ?_)) | go_size | (exact Below.size (by assumption)))⟩
  have hkl : l.length ≤ 1048576 := by omega
  have hkrest : rest.length ≤ 1048576 := by omega
  go_enter Try.func4, Try.ntmps4
  go_wp2_with fail
  refine (toInt64S_any l Al _ _ _ Rl (by first | omega | (simp only [World.size_alloc]; omega)) hkl).mono ?_; rintro e w1 ⟨Asl, csl, rfl, Osl, b1⟩
  have z1 := b1.size
  replace Rl := Rl.below b1 (by first | omega | (simp only [World.size_alloc]; omega))
  replace Rrest := Rrest.below b1 (by first | omega | (simp only [World.size_alloc]; omega))
  have Rsl := Rd.of_own Osl
  have ksl := own_cap Osl
  have Lsl := own_lt Osl
  go_wp2_with fail
  refine (toInt64S_any rest Arest _ _ _ Rrest (by first | omega | (simp only [World.size_alloc]; omega)) hkrest).mono ?_; rintro e w2 ⟨Asrest, csrest, rfl, Osrest, b2⟩
  have z2 := b2.size
  replace Rl := Rl.below b2 (by first | omega | (simp only [World.size_alloc]; omega))
  replace Rrest := Rrest.below b2 (by first | omega | (simp only [World.size_alloc]; omega))
  replace Rsl := Rsl.below b2 (by first | omega | (simp only [World.size_alloc]; omega))
  replace Osl := own_below Osl b2
  have Rsrest := Rd.of_own Osrest
  have ksrest := own_cap Osrest
  have Lsrest := own_lt Osrest
  go_wp2_with fail
  refine (cut_spec l kept rest Asl Asrest _ _ _ _ (Rsl.more (by omega)) (Rsrest.more (by omega)) (Nat.le_refl _) hkl hkrest ksl).mono ?_; rintro e w3 ⟨Aw, cw, rfl, Ow, b3⟩
  have z3 := b3.size
  replace Rl := Rl.below b3 (by first | omega | (simp only [World.size_alloc]; omega))
  replace Rrest := Rrest.below b3 (by first | omega | (simp only [World.size_alloc]; omega))
  replace Rsl := Rsl.below b3 (by first | omega | (simp only [World.size_alloc]; omega))
  replace Osl := own_below Osl b3
  replace Rsrest := Rsrest.below b3 (by first | omega | (simp only [World.size_alloc]; omega))
  replace Osrest := own_below Osrest b3
  have Rw := Rd.of_own Ow
  clear Ow
  clear Osl
  clear Rsl
  clear Osrest
  clear Rsrest
  go_wp2_with fail
  refine (toInt64S_any l Al _ _ _ Rl (by first | omega | (simp only [World.size_alloc]; omega)) hkl).mono ?_; rintro e w4 ⟨Axl, cxl, rfl, Oxl, b4⟩
  have z4 := b4.size
  replace Rl := Rl.below b4 (by first | omega | (simp only [World.size_alloc]; omega))
  replace Rrest := Rrest.below b4 (by first | omega | (simp only [World.size_alloc]; omega))
  replace Rw := Rw.below b4 (by first | omega | (simp only [World.size_alloc]; omega))
  have Rxl := Rd.of_own Oxl
  have kxl := own_cap Oxl
  have Lxl := own_lt Oxl
  go_wp2_with fail
  refine (toInt64S_any rest Arest _ _ _ Rrest (by first | omega | (simp only [World.size_alloc]; omega)) hkrest).mono ?_; rintro e w5 ⟨Axrest, cxrest, rfl, Oxrest, b5⟩
  have z5 := b5.size
  replace Rl := Rl.below b5 (by first | omega | (simp only [World.size_alloc]; omega))
  replace Rrest := Rrest.below b5 (by first | omega | (simp only [World.size_alloc]; omega))
  replace Rw := Rw.below b5 (by first | omega | (simp only [World.size_alloc]; omega))
  replace Rxl := Rxl.below b5 (by first | omega | (simp only [World.size_alloc]; omega))
  replace Oxl := own_below Oxl b5
  have Rxrest := Rd.of_own Oxrest
  have kxrest := own_cap Oxrest
  have Lxrest := own_lt Oxrest
  go_wp2_with fail
  refine (cut_impl l kept rest Axl Axrest _ _ _ _ (Rxl.more (by omega)) (Rxrest.more (by omega)) (Nat.le_refl _) hkl hkrest kxl).mono ?_; rintro e w6 ⟨Ag, cg, rfl, Og, b6⟩
  have z6 := b6.size
  replace Rl := Rl.below b6 (by first | omega | (simp only [World.size_alloc]; omega))
  replace Rrest := Rrest.below b6 (by first | omega | (simp only [World.size_alloc]; omega))
  replace Rw := Rw.below b6 (by first | omega | (simp only [World.size_alloc]; omega))
  replace Rxl := Rxl.below b6 (by first | omega | (simp only [World.size_alloc]; omega))
  replace Oxl := own_below Oxl b6
  replace Rxrest := Rxrest.below b6 (by first | omega | (simp only [World.size_alloc]; omega))
  replace Oxrest := own_below Oxrest b6
  have Rg := Rd.of_own Og
  have Lg := own_lt Og
  go_wp2_with fail
  refine (eqInt64S_same (cutR l kept rest) Ag Aw _ _ _ _ (Rg.more (by first | omega | (simp only [World.size_alloc]; omega))) (Rw.more (by first | omega | (simp only [World.size_alloc]; omega))) (Nat.le_refl _) (cutR_len l kept rest)).mono ?_; rintro e w7 ⟨rfl, b7⟩
  have z7 := b7.size
  replace Rl := Rl.below b7 (by first | omega | (simp only [World.size_alloc]; omega))
  replace Rrest := Rrest.below b7 (by first | omega | (simp only [World.size_alloc]; omega))
  replace Rw := Rw.below b7 (by first | omega | (simp only [World.size_alloc]; omega))
  replace Rxl := Rxl.below b7 (by first | omega | (simp only [World.size_alloc]; omega))
  replace Oxl := own_below Oxl b7
  replace Rxrest := Rxrest.below b7 (by first | omega | (simp only [World.size_alloc]; omega))
  replace Oxrest := own_below Oxrest b7
  replace Rg := Rg.below b7 (by first | omega | (simp only [World.size_alloc]; omega))
  replace Og := own_below Og b7
  go_wp2_with fail
  refine (toInt64S_any l Al _ _ _ Rl (by first | omega | (simp only [World.size_alloc]; omega)) hkl).mono ?_; rintro e w8 ⟨Ayl, cyl, rfl, Oyl, b8⟩
  have z8 := b8.size
  replace Rl := Rl.below b8 (by first | omega | (simp only [World.size_alloc]; omega))
  replace Rrest := Rrest.below b8 (by first | omega | (simp only [World.size_alloc]; omega))
  replace Rw := Rw.below b8 (by first | omega | (simp only [World.size_alloc]; omega))
  replace Rxl := Rxl.below b8 (by first | omega | (simp only [World.size_alloc]; omega))
  replace Oxl := own_below Oxl b8
  replace Rxrest := Rxrest.below b8 (by first | omega | (simp only [World.size_alloc]; omega))
  replace Oxrest := own_below Oxrest b8
  replace Rg := Rg.below b8 (by first | omega | (simp only [World.size_alloc]; omega))
  replace Og := own_below Og b8
  have Ryl := Rd.of_own Oyl
  have kyl := own_cap Oyl
  have Lyl := own_lt Oyl
  go_wp2_with fail
  refine (eqInt64S_same l Axl Ayl _ _ _ _ (Rxl.more (by first | omega | (simp only [World.size_alloc]; omega))) (Ryl.more (by first | omega | (simp only [World.size_alloc]; omega))) (Nat.le_refl _) hkl).mono ?_; rintro e w9 ⟨rfl, b9⟩
  have z9 := b9.size
  replace Rl := Rl.below b9 (by first | omega | (simp only [World.size_alloc]; omega))
  replace Rrest := Rrest.below b9 (by first | omega | (simp only [World.size_alloc]; omega))
  replace Rw := Rw.below b9 (by first | omega | (simp only [World.size_alloc]; omega))
  replace Rxl := Rxl.below b9 (by first | omega | (simp only [World.size_alloc]; omega))
  replace Oxl := own_below Oxl b9
  replace Rxrest := Rxrest.below b9 (by first | omega | (simp only [World.size_alloc]; omega))
  replace Oxrest := own_below Oxrest b9
  replace Rg := Rg.below b9 (by first | omega | (simp only [World.size_alloc]; omega))
  replace Og := own_below Og b9
  replace Ryl := Ryl.below b9 (by first | omega | (simp only [World.size_alloc]; omega))
  replace Oyl := own_below Oyl b9
  clear Ryl
  clear Oyl
  go_wp2_with fail
  refine (toInt64S_any rest Arest _ _ _ Rrest (by first | omega | (simp only [World.size_alloc]; omega)) hkrest).mono ?_; rintro e w10 ⟨Ayrest, cyrest, rfl, Oyrest, b10⟩
  have z10 := b10.size
  replace Rl := Rl.below b10 (by first | omega | (simp only [World.size_alloc]; omega))
  replace Rrest := Rrest.below b10 (by first | omega | (simp only [World.size_alloc]; omega))
  replace Rw := Rw.below b10 (by first | omega | (simp only [World.size_alloc]; omega))
  replace Rxl := Rxl.below b10 (by first | omega | (simp only [World.size_alloc]; omega))
  replace Oxl := own_below Oxl b10
  replace Rxrest := Rxrest.below b10 (by first | omega | (simp only [World.size_alloc]; omega))
  replace Oxrest := own_below Oxrest b10
  replace Rg := Rg.below b10 (by first | omega | (simp only [World.size_alloc]; omega))
  replace Og := own_below Og b10
  have Ryrest := Rd.of_own Oyrest
  have kyrest := own_cap Oyrest
  have Lyrest := own_lt Oyrest
  go_wp2_with fail
  refine (eqInt64S_same rest Axrest Ayrest _ _ _ _ (Rxrest.more (by first | omega | (simp only [World.size_alloc]; omega))) (Ryrest.more (by first | omega | (simp only [World.size_alloc]; omega))) (Nat.le_refl _) hkrest).mono ?_; rintro e w11 ⟨rfl, b11⟩
  have z11 := b11.size
  replace Rl := Rl.below b11 (by first | omega | (simp only [World.size_alloc]; omega))
  replace Rrest := Rrest.below b11 (by first | omega | (simp only [World.size_alloc]; omega))
  replace Rw := Rw.below b11 (by first | omega | (simp only [World.size_alloc]; omega))
  replace Rxl := Rxl.below b11 (by first | omega | (simp only [World.size_alloc]; omega))
  replace Oxl := own_below Oxl b11
  replace Rxrest := Rxrest.below b11 (by first | omega | (simp only [World.size_alloc]; omega))
  replace Oxrest := own_below Oxrest b11
  replace Rg := Rg.below b11 (by first | omega | (simp only [World.size_alloc]; omega))
  replace Og := own_below Og b11
  replace Ryrest := Ryrest.below b11 (by first | omega | (simp only [World.size_alloc]; omega))
  replace Oyrest := own_below Oyrest b11
  clear Ryrest
  clear Oyrest
  have hql : (l.length : Int) ≤ 1048576 := by omega
  go_wp2_with fail
  clear Rxl
  refine (markInt64S_any l.length Axl _ cxl _ _ _ Oxl (by omega) (by omega) (by omega)).mono ?_; rintro e w12 ⟨rfl, Oxl', g12⟩
  have z12 := g12.size
  replace Rl := Rl.grown g12 (by omega) (fun k hk => by have := Lxl k hk; omega)
  replace Rrest := Rrest.grown g12 (by omega) (fun k hk => by have := Lxl k hk; omega)
  replace Rw := Rw.grown g12 (by omega) (fun k hk => by have := Lxl k hk; omega)
  replace Oxrest := own_apart Oxrest g12 (fun k hk => by have := Lxl k hk; omega)
  replace Og := own_apart Og g12 (fun k hk => by have := Lxl k hk; omega)
  have b12 := below_of_grownBy (B := w.heap.size) g12 (by omega) (fun k hk => by have := Lxl k hk; omega)
  replace Rxrest := Rd.of_own Oxrest
  replace Rg := Rd.of_own Og
  clear Oxl g12
  have Oxl := Oxl'
  clear Oxl'
  clear Oxl
  have hqrest : (rest.length : Int) ≤ 1048576 := by omega
  go_wp2_with fail
  clear Rxrest
  refine (markInt64S_any rest.length Axrest _ cxrest _ _ _ Oxrest (by omega) (by omega) (by omega)).mono ?_; rintro e w13 ⟨rfl, Oxrest', g13⟩
  have z13 := g13.size
  replace Rl := Rl.grown g13 (by omega) (fun k hk => by have := Lxrest k hk; omega)
  replace Rrest := Rrest.grown g13 (by omega) (fun k hk => by have := Lxrest k hk; omega)
  replace Rw := Rw.grown g13 (by omega) (fun k hk => by have := Lxrest k hk; omega)
  replace Og := own_apart Og g13 (fun k hk => by have := Lxrest k hk; omega)
  have b13 := below_of_grownBy (B := w.heap.size) g13 (by omega) (fun k hk => by have := Lxrest k hk; omega)
  replace Rg := Rd.of_own Og
  clear Oxrest g13
  have Oxrest := Oxrest'
  clear Oxrest'
  clear Oxrest
  go_wp2_with fail
  refine (eqInt64S_same (cutR l kept rest) Ag Aw _ _ _ _ (Rg.more (by first | omega | (simp only [World.size_alloc]; omega))) (Rw.more (by first | omega | (simp only [World.size_alloc]; omega))) (Nat.le_refl _) (cutR_len l kept rest)).mono ?_; rintro e w14 ⟨rfl, b14⟩
  have z14 := b14.size
  replace Rl := Rl.below b14 (by first | omega | (simp only [World.size_alloc]; omega))
  replace Rrest := Rrest.below b14 (by first | omega | (simp only [World.size_alloc]; omega))
  replace Rw := Rw.below b14 (by first | omega | (simp only [World.size_alloc]; omega))
  replace Rg := Rg.below b14 (by first | omega | (simp only [World.size_alloc]; omega))
  replace Og := own_below Og b14
  have hRn : (cutR l kept rest).length ≤ 1048576 := cutR_len l kept rest
  go_wp2_with fail
  clear Rg
  refine (markInt64S_any (cutR l kept rest).length Ag _ cg _ _ _ Og (by omega) (by omega) (by omega)).mono ?_; rintro e w15 ⟨rfl, Og', g15⟩
  have z15 := g15.size
  replace Rl := Rl.grown g15 (by omega) (fun k hk => by have := Lg k hk; omega)
  replace Rrest := Rrest.grown g15 (by omega) (fun k hk => by have := Lg k hk; omega)
  replace Rw := Rw.grown g15 (by omega) (fun k hk => by have := Lg k hk; omega)
  have b15 := below_of_grownBy (B := w.heap.size) g15 (by omega) (fun k hk => by have := Lg k hk; omega)
  clear Og g15
  have Og := Og'
  clear Og'
  have Rg := Rd.of_own Og
  go_wp2_with fail
  refine (heldInt64S_any (cutR l kept rest).length Ag _ _ _ _ Rg (by omega) (by omega) (by omega)).mono ?_; rintro e w16 ⟨rfl, he16⟩
  subst he16
  go_wp2_with fail
  refine (toInt64S_any l Al _ _ _ Rl (by first | omega | (simp only [World.size_alloc]; omega)) hkl).mono ?_; rintro e w16 ⟨Ahl, chl, rfl, Ohl, b16⟩
  have z16 := b16.size
  replace Rl := Rl.below b16 (by first | omega | (simp only [World.size_alloc]; omega))
  replace Rrest := Rrest.below b16 (by first | omega | (simp only [World.size_alloc]; omega))
  replace Rw := Rw.below b16 (by first | omega | (simp only [World.size_alloc]; omega))
  replace Og := own_below Og b16
  replace Rg := Rg.below b16 (by first | omega | (simp only [World.size_alloc]; omega))
  have Rhl := Rd.of_own Ohl
  have khl := own_cap Ohl
  have Lhl := own_lt Ohl
  go_wp2_with fail
  refine (toInt64S_any rest Arest _ _ _ Rrest (by first | omega | (simp only [World.size_alloc]; omega)) hkrest).mono ?_; rintro e w17 ⟨Ahrest, chrest, rfl, Ohrest, b17⟩
  have z17 := b17.size
  replace Rl := Rl.below b17 (by first | omega | (simp only [World.size_alloc]; omega))
  replace Rrest := Rrest.below b17 (by first | omega | (simp only [World.size_alloc]; omega))
  replace Rw := Rw.below b17 (by first | omega | (simp only [World.size_alloc]; omega))
  replace Og := own_below Og b17
  replace Rg := Rg.below b17 (by first | omega | (simp only [World.size_alloc]; omega))
  replace Rhl := Rhl.below b17 (by first | omega | (simp only [World.size_alloc]; omega))
  replace Ohl := own_below Ohl b17
  have Rhrest := Rd.of_own Ohrest
  have khrest := own_cap Ohrest
  have Lhrest := own_lt Ohrest
  go_wp2_with fail
  refine (cut_impl l kept rest Ahl Ahrest _ _ _ _ (Rhl.more (by omega)) (Rhrest.more (by omega)) (Nat.le_refl _) hkl hkrest khl).mono ?_; rintro e w18 ⟨Ah, ch, rfl, Oh, b18⟩
  have z18 := b18.size
  replace Rl := Rl.below b18 (by first | omega | (simp only [World.size_alloc]; omega))
  replace Rrest := Rrest.below b18 (by first | omega | (simp only [World.size_alloc]; omega))
  replace Rw := Rw.below b18 (by first | omega | (simp only [World.size_alloc]; omega))
  replace Og := own_below Og b18
  replace Rg := Rg.below b18 (by first | omega | (simp only [World.size_alloc]; omega))
  replace Rhl := Rhl.below b18 (by first | omega | (simp only [World.size_alloc]; omega))
  replace Ohl := own_below Ohl b18
  replace Rhrest := Rhrest.below b18 (by first | omega | (simp only [World.size_alloc]; omega))
  replace Ohrest := own_below Ohrest b18
  have Rh := Rd.of_own Oh
  have Lh := own_lt Oh
  go_wp2_with fail
  refine (eqInt64S_same (cutR l kept rest) Ah Aw _ _ _ _ (Rh.more (by first | omega | (simp only [World.size_alloc]; omega))) (Rw.more (by first | omega | (simp only [World.size_alloc]; omega))) (Nat.le_refl _) (cutR_len l kept rest)).mono ?_; rintro e w19 ⟨rfl, b19⟩
  have z19 := b19.size
  replace Rl := Rl.below b19 (by first | omega | (simp only [World.size_alloc]; omega))
  replace Rrest := Rrest.below b19 (by first | omega | (simp only [World.size_alloc]; omega))
  replace Rw := Rw.below b19 (by first | omega | (simp only [World.size_alloc]; omega))
  replace Og := own_below Og b19
  replace Rg := Rg.below b19 (by first | omega | (simp only [World.size_alloc]; omega))
  replace Rhl := Rhl.below b19 (by first | omega | (simp only [World.size_alloc]; omega))
  replace Ohl := own_below Ohl b19
  replace Rhrest := Rhrest.below b19 (by first | omega | (simp only [World.size_alloc]; omega))
  replace Ohrest := own_below Ohrest b19
  replace Rh := Rh.below b19 (by first | omega | (simp only [World.size_alloc]; omega))
  replace Oh := own_below Oh b19
  go_wp2_with fail
  refine (heldInt64S_any (cutR l kept rest).length Ag _ _ _ _ Rg (by omega) (by omega) (by omega)).mono ?_; rintro e w20 ⟨rfl, he20⟩
  subst he20
  go_wp2
  go_ret
  exact ⟨rfl, by repeat' (first | (with_reducible exact Below.refl _ _) | (with_reducible assumption) | (with_reducible refine Below.alloc ?_ ?_ _) | (with_reducible refine Below.drew ?_) | (with_reducible refine below_drewN ?_ _) | (with_reducible refine Below.setCell ?_ ?_ _) | (with_reducible refine Below.trans ?_ (Below.mono (by assumption) ?_)) | go_size | (exact Below.size (by assumption)))⟩
end Go.Proofs.Ytjohpakfaommgaa
