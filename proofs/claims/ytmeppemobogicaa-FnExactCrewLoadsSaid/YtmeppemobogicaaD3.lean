/- The law on CrewLoads. -/
import Derived.Test.YtmeppemobogicaaB
import Derived.Test.YtmeppemobogicaaI
import Derived.Test.YtmeppemobogicaaCwI
namespace Go.Proofs.Ytmeppemobogicaa
open Go.ChangeShapes Go.WideShapes Go.ChangeAt Go.RowKit
set_option linter.unusedVariables false
set_option linter.unusedSimpArgs false
set_option maxRecDepth 20000 in
theorem walkFnExactCrewLoads (l : List (Int × Int)) (Al : Option Addr) (cl : Nat) (crews : Int) (a : List (Int)) (Aa : Option Addr) (ca : Nat) (w : World) (Rl : Rd w w.heap.size Al ((l).flatMap eEvacuationStop)) (hlcl : l.length ≤ cl) (hml : cl ≤ maxLen) (wfcrews : (Lit.int .i64 crews).wf = true) (Ra : Rd w w.heap.size Aa (ints (a))) (hlca : a.length ≤ ca) (hma : ca ≤ maxLen) :
   Calls Try.prog 5 #[.slice Al l.length cl, .int .i64 crews, .slice Aa a.length ca] w fun e w' => e = .returned (.bool true) ∧ Below w.heap.size w w' := by
  clear wfcrews
  unfold maxLen at hma
  unfold maxLen at hml
  by_cases hna : (a.length : Int) ≤ 1048576
  rotate_left
  · skip
    go_enter Try.func5, Try.ntmps5
    go_wp2
    go_ret
    exact ⟨rfl, by repeat' (first | (with_reducible exact Below.refl _ _) | (with_reducible assumption) | (with_reducible refine Below.alloc ?_ ?_ _) | (with_reducible refine Below.drew ?_) | (with_reducible refine below_drewN ?_ _) | (with_reducible refine Below.setCell ?_ ?_ _) | (with_reducible refine Below.trans ?_ (Below.mono (by assumption) ?_)) | go_size | (exact Below.size (by assumption)))⟩
  by_cases hnl : (l.length : Int) ≤ 1048576
  rotate_left
  · skip
    go_enter Try.func5, Try.ntmps5
    go_wp2_with fail
    refine (szEvacuationStopS_great _ _ _ _ (by omega) (by omega) (by omega) (by omega) _).mono ?_; rintro e w' ⟨rfl, rfl⟩
    go_wp2
    go_ret
    exact ⟨rfl, by repeat' (first | (with_reducible exact Below.refl _ _) | (with_reducible assumption) | (with_reducible refine Below.alloc ?_ ?_ _) | (with_reducible refine Below.drew ?_) | (with_reducible refine below_drewN ?_ _) | (with_reducible refine Below.setCell ?_ ?_ _) | (with_reducible refine Below.trans ?_ (Below.mono (by assumption) ?_)) | go_size | (exact Below.size (by assumption)))⟩
  have hka : a.length ≤ 1048576 := by omega
  have hkl : l.length ≤ 1048576 := by omega
  go_enter Try.func5, Try.ntmps5
  go_wp2_with fail
  refine (szEvacuationStopS_small _ _ _ _ (by omega) (by omega) _).mono ?_; rintro e w' ⟨rfl, rfl⟩
  go_wp2_with fail
  refine (toEvacuationStopS_any l Al _ _ _ Rl (by first | omega | (simp only [World.size_alloc]; omega)) hkl).mono ?_; rintro e w1 ⟨Asl, csl, rfl, Osl, b1⟩
  have z1 := b1.size
  replace Ra := Ra.below b1 (by first | omega | (simp only [World.size_alloc]; omega))
  replace Rl := Rl.below b1 (by first | omega | (simp only [World.size_alloc]; omega))
  have Rsl := Rd.of_own Osl
  have ksl := own_cap Osl
  have Lsl := own_lt Osl
  go_wp2_with fail
  refine (toInt64S_any a Aa _ _ _ Ra (by first | omega | (simp only [World.size_alloc]; omega)) hka).mono ?_; rintro e w2 ⟨Asa, csa, rfl, Osa, b2⟩
  have z2 := b2.size
  replace Ra := Ra.below b2 (by first | omega | (simp only [World.size_alloc]; omega))
  replace Rl := Rl.below b2 (by first | omega | (simp only [World.size_alloc]; omega))
  replace Rsl := Rsl.below b2 (by first | omega | (simp only [World.size_alloc]; omega))
  replace Osl := own_below Osl b2
  have Rsa := Rd.of_own Osa
  have ksa := own_cap Osa
  have Lsa := own_lt Osa
  go_wp2_with fail
  refine (crewLoads_spec l crews a Asl Asa _ _ _ _ (Rsl.more (by omega)) (Rsa.more (by omega)) (Nat.le_refl _) hkl hka).mono ?_; rintro e w3 ⟨Aw, cw, rfl, Ow, b3⟩
  have z3 := b3.size
  replace Ra := Ra.below b3 (by first | omega | (simp only [World.size_alloc]; omega))
  replace Rl := Rl.below b3 (by first | omega | (simp only [World.size_alloc]; omega))
  replace Rsl := Rsl.below b3 (by first | omega | (simp only [World.size_alloc]; omega))
  replace Osl := own_below Osl b3
  replace Rsa := Rsa.below b3 (by first | omega | (simp only [World.size_alloc]; omega))
  replace Osa := own_below Osa b3
  have Rw := Rd.of_own Ow
  clear Ow
  clear Osa
  clear Rsa
  clear Osl
  clear Rsl
  go_wp2_with fail
  refine (toEvacuationStopS_any l Al _ _ _ Rl (by first | omega | (simp only [World.size_alloc]; omega)) hkl).mono ?_; rintro e w4 ⟨Axl, cxl, rfl, Oxl, b4⟩
  have z4 := b4.size
  replace Ra := Ra.below b4 (by first | omega | (simp only [World.size_alloc]; omega))
  replace Rl := Rl.below b4 (by first | omega | (simp only [World.size_alloc]; omega))
  replace Rw := Rw.below b4 (by first | omega | (simp only [World.size_alloc]; omega))
  have Rxl := Rd.of_own Oxl
  have kxl := own_cap Oxl
  have Lxl := own_lt Oxl
  go_wp2_with fail
  refine (toInt64S_any a Aa _ _ _ Ra (by first | omega | (simp only [World.size_alloc]; omega)) hka).mono ?_; rintro e w5 ⟨Axa, cxa, rfl, Oxa, b5⟩
  have z5 := b5.size
  replace Ra := Ra.below b5 (by first | omega | (simp only [World.size_alloc]; omega))
  replace Rl := Rl.below b5 (by first | omega | (simp only [World.size_alloc]; omega))
  replace Rw := Rw.below b5 (by first | omega | (simp only [World.size_alloc]; omega))
  replace Rxl := Rxl.below b5 (by first | omega | (simp only [World.size_alloc]; omega))
  replace Oxl := own_below Oxl b5
  have Rxa := Rd.of_own Oxa
  have kxa := own_cap Oxa
  have Lxa := own_lt Oxa
  go_wp2_with fail
  refine (crewLoads_impl l crews a Axl Axa _ _ _ _ (Rxl.more (by omega)) (Rxa.more (by omega)) (Nat.le_refl _) hkl hka).mono ?_; rintro e w6 ⟨Ag, cg, rfl, Og, b6⟩
  have z6 := b6.size
  replace Ra := Ra.below b6 (by first | omega | (simp only [World.size_alloc]; omega))
  replace Rl := Rl.below b6 (by first | omega | (simp only [World.size_alloc]; omega))
  replace Rw := Rw.below b6 (by first | omega | (simp only [World.size_alloc]; omega))
  replace Rxl := Rxl.below b6 (by first | omega | (simp only [World.size_alloc]; omega))
  replace Oxl := own_below Oxl b6
  replace Rxa := Rxa.below b6 (by first | omega | (simp only [World.size_alloc]; omega))
  replace Oxa := own_below Oxa b6
  have Rg := Rd.of_own Og
  have Lg := own_lt Og
  go_wp2_with fail
  refine (eqInt64S_same (clR l crews a) Ag Aw _ _ _ _ (Rg.more (by first | omega | (simp only [World.size_alloc]; omega))) (Rw.more (by first | omega | (simp only [World.size_alloc]; omega))) (Nat.le_refl _) (clR_len l crews a)).mono ?_; rintro e w7 ⟨rfl, b7⟩
  have z7 := b7.size
  replace Ra := Ra.below b7 (by first | omega | (simp only [World.size_alloc]; omega))
  replace Rl := Rl.below b7 (by first | omega | (simp only [World.size_alloc]; omega))
  replace Rw := Rw.below b7 (by first | omega | (simp only [World.size_alloc]; omega))
  replace Rxl := Rxl.below b7 (by first | omega | (simp only [World.size_alloc]; omega))
  replace Oxl := own_below Oxl b7
  replace Rxa := Rxa.below b7 (by first | omega | (simp only [World.size_alloc]; omega))
  replace Oxa := own_below Oxa b7
  replace Rg := Rg.below b7 (by first | omega | (simp only [World.size_alloc]; omega))
  replace Og := own_below Og b7
  go_wp2_with fail
  refine (toEvacuationStopS_any l Al _ _ _ Rl (by first | omega | (simp only [World.size_alloc]; omega)) hkl).mono ?_; rintro e w8 ⟨Ayl, cyl, rfl, Oyl, b8⟩
  have z8 := b8.size
  replace Ra := Ra.below b8 (by first | omega | (simp only [World.size_alloc]; omega))
  replace Rl := Rl.below b8 (by first | omega | (simp only [World.size_alloc]; omega))
  replace Rw := Rw.below b8 (by first | omega | (simp only [World.size_alloc]; omega))
  replace Rxl := Rxl.below b8 (by first | omega | (simp only [World.size_alloc]; omega))
  replace Oxl := own_below Oxl b8
  replace Rxa := Rxa.below b8 (by first | omega | (simp only [World.size_alloc]; omega))
  replace Oxa := own_below Oxa b8
  replace Rg := Rg.below b8 (by first | omega | (simp only [World.size_alloc]; omega))
  replace Og := own_below Og b8
  have Ryl := Rd.of_own Oyl
  have kyl := own_cap Oyl
  have Lyl := own_lt Oyl
  go_wp2_with fail
  refine (eqEvacuationStopS_same l Axl Ayl _ _ _ _ (Rxl.more (by first | omega | (simp only [World.size_alloc]; omega))) (Ryl.more (by first | omega | (simp only [World.size_alloc]; omega))) (Nat.le_refl _) hkl).mono ?_; rintro e w9 ⟨rfl, b9⟩
  have z9 := b9.size
  replace Ra := Ra.below b9 (by first | omega | (simp only [World.size_alloc]; omega))
  replace Rl := Rl.below b9 (by first | omega | (simp only [World.size_alloc]; omega))
  replace Rw := Rw.below b9 (by first | omega | (simp only [World.size_alloc]; omega))
  replace Rxl := Rxl.below b9 (by first | omega | (simp only [World.size_alloc]; omega))
  replace Oxl := own_below Oxl b9
  replace Rxa := Rxa.below b9 (by first | omega | (simp only [World.size_alloc]; omega))
  replace Oxa := own_below Oxa b9
  replace Rg := Rg.below b9 (by first | omega | (simp only [World.size_alloc]; omega))
  replace Og := own_below Og b9
  replace Ryl := Ryl.below b9 (by first | omega | (simp only [World.size_alloc]; omega))
  replace Oyl := own_below Oyl b9
  clear Ryl
  clear Oyl
  go_wp2_with fail
  refine (toInt64S_any a Aa _ _ _ Ra (by first | omega | (simp only [World.size_alloc]; omega)) hka).mono ?_; rintro e w10 ⟨Aya, cya, rfl, Oya, b10⟩
  have z10 := b10.size
  replace Ra := Ra.below b10 (by first | omega | (simp only [World.size_alloc]; omega))
  replace Rl := Rl.below b10 (by first | omega | (simp only [World.size_alloc]; omega))
  replace Rw := Rw.below b10 (by first | omega | (simp only [World.size_alloc]; omega))
  replace Rxl := Rxl.below b10 (by first | omega | (simp only [World.size_alloc]; omega))
  replace Oxl := own_below Oxl b10
  replace Rxa := Rxa.below b10 (by first | omega | (simp only [World.size_alloc]; omega))
  replace Oxa := own_below Oxa b10
  replace Rg := Rg.below b10 (by first | omega | (simp only [World.size_alloc]; omega))
  replace Og := own_below Og b10
  have Rya := Rd.of_own Oya
  have kya := own_cap Oya
  have Lya := own_lt Oya
  go_wp2_with fail
  refine (eqInt64S_same a Axa Aya _ _ _ _ (Rxa.more (by first | omega | (simp only [World.size_alloc]; omega))) (Rya.more (by first | omega | (simp only [World.size_alloc]; omega))) (Nat.le_refl _) hka).mono ?_; rintro e w11 ⟨rfl, b11⟩
  have z11 := b11.size
  replace Ra := Ra.below b11 (by first | omega | (simp only [World.size_alloc]; omega))
  replace Rl := Rl.below b11 (by first | omega | (simp only [World.size_alloc]; omega))
  replace Rw := Rw.below b11 (by first | omega | (simp only [World.size_alloc]; omega))
  replace Rxl := Rxl.below b11 (by first | omega | (simp only [World.size_alloc]; omega))
  replace Oxl := own_below Oxl b11
  replace Rxa := Rxa.below b11 (by first | omega | (simp only [World.size_alloc]; omega))
  replace Oxa := own_below Oxa b11
  replace Rg := Rg.below b11 (by first | omega | (simp only [World.size_alloc]; omega))
  replace Og := own_below Og b11
  replace Rya := Rya.below b11 (by first | omega | (simp only [World.size_alloc]; omega))
  replace Oya := own_below Oya b11
  clear Rya
  clear Oya
  have hql : (l.length : Int) ≤ 1048576 := by omega
  go_wp2_with fail
  clear Rxl
  refine (markEvacuationStopS_any l.length Axl _ cxl _ _ _ Oxl (by omega) (by omega) (by omega)).mono ?_; rintro e w12 ⟨rfl, Oxl', g12⟩
  have z12 := g12.size
  replace Ra := Ra.grown g12 (by omega) (fun k hk => by have := Lxl k hk; omega)
  replace Rl := Rl.grown g12 (by omega) (fun k hk => by have := Lxl k hk; omega)
  replace Rw := Rw.grown g12 (by omega) (fun k hk => by have := Lxl k hk; omega)
  replace Oxa := own_apart Oxa g12 (fun k hk => by have := Lxl k hk; omega)
  replace Og := own_apart Og g12 (fun k hk => by have := Lxl k hk; omega)
  have b12 := below_of_grownBy (B := w.heap.size) g12 (by omega) (fun k hk => by have := Lxl k hk; omega)
  replace Rxa := Rd.of_own Oxa
  replace Rg := Rd.of_own Og
  clear Oxl g12
  have Oxl := Oxl'
  clear Oxl'
  clear Oxl
  have hqa : (a.length : Int) ≤ 1048576 := by omega
  go_wp2_with fail
  clear Rxa
  refine (markInt64S_any a.length Axa _ cxa _ _ _ Oxa (by omega) (by omega) (by omega)).mono ?_; rintro e w13 ⟨rfl, Oxa', g13⟩
  have z13 := g13.size
  replace Ra := Ra.grown g13 (by omega) (fun k hk => by have := Lxa k hk; omega)
  replace Rl := Rl.grown g13 (by omega) (fun k hk => by have := Lxa k hk; omega)
  replace Rw := Rw.grown g13 (by omega) (fun k hk => by have := Lxa k hk; omega)
  replace Og := own_apart Og g13 (fun k hk => by have := Lxa k hk; omega)
  have b13 := below_of_grownBy (B := w.heap.size) g13 (by omega) (fun k hk => by have := Lxa k hk; omega)
  replace Rg := Rd.of_own Og
  clear Oxa g13
  have Oxa := Oxa'
  clear Oxa'
  clear Oxa
  go_wp2_with fail
  refine (eqInt64S_same (clR l crews a) Ag Aw _ _ _ _ (Rg.more (by first | omega | (simp only [World.size_alloc]; omega))) (Rw.more (by first | omega | (simp only [World.size_alloc]; omega))) (Nat.le_refl _) (clR_len l crews a)).mono ?_; rintro e w14 ⟨rfl, b14⟩
  have z14 := b14.size
  replace Ra := Ra.below b14 (by first | omega | (simp only [World.size_alloc]; omega))
  replace Rl := Rl.below b14 (by first | omega | (simp only [World.size_alloc]; omega))
  replace Rw := Rw.below b14 (by first | omega | (simp only [World.size_alloc]; omega))
  replace Rg := Rg.below b14 (by first | omega | (simp only [World.size_alloc]; omega))
  replace Og := own_below Og b14
  have hRn : (clR l crews a).length ≤ 1048576 := clR_len l crews a
  go_wp2_with fail
  clear Rg
  refine (markInt64S_any (clR l crews a).length Ag _ cg _ _ _ Og (by omega) (by omega) (by omega)).mono ?_; rintro e w15 ⟨rfl, Og', g15⟩
  have z15 := g15.size
  replace Ra := Ra.grown g15 (by omega) (fun k hk => by have := Lg k hk; omega)
  replace Rl := Rl.grown g15 (by omega) (fun k hk => by have := Lg k hk; omega)
  replace Rw := Rw.grown g15 (by omega) (fun k hk => by have := Lg k hk; omega)
  have b15 := below_of_grownBy (B := w.heap.size) g15 (by omega) (fun k hk => by have := Lg k hk; omega)
  clear Og g15
  have Og := Og'
  clear Og'
  have Rg := Rd.of_own Og
  go_wp2_with fail
  refine (heldInt64S_any (clR l crews a).length Ag _ _ _ _ Rg (by omega) (by omega) (by omega)).mono ?_; rintro e w16 ⟨rfl, he16⟩
  subst he16
  go_wp2_with fail
  refine (toEvacuationStopS_any l Al _ _ _ Rl (by first | omega | (simp only [World.size_alloc]; omega)) hkl).mono ?_; rintro e w16 ⟨Ahl, chl, rfl, Ohl, b16⟩
  have z16 := b16.size
  replace Ra := Ra.below b16 (by first | omega | (simp only [World.size_alloc]; omega))
  replace Rl := Rl.below b16 (by first | omega | (simp only [World.size_alloc]; omega))
  replace Rw := Rw.below b16 (by first | omega | (simp only [World.size_alloc]; omega))
  replace Og := own_below Og b16
  replace Rg := Rg.below b16 (by first | omega | (simp only [World.size_alloc]; omega))
  have Rhl := Rd.of_own Ohl
  have khl := own_cap Ohl
  have Lhl := own_lt Ohl
  go_wp2_with fail
  refine (toInt64S_any a Aa _ _ _ Ra (by first | omega | (simp only [World.size_alloc]; omega)) hka).mono ?_; rintro e w17 ⟨Aha, cha, rfl, Oha, b17⟩
  have z17 := b17.size
  replace Ra := Ra.below b17 (by first | omega | (simp only [World.size_alloc]; omega))
  replace Rl := Rl.below b17 (by first | omega | (simp only [World.size_alloc]; omega))
  replace Rw := Rw.below b17 (by first | omega | (simp only [World.size_alloc]; omega))
  replace Og := own_below Og b17
  replace Rg := Rg.below b17 (by first | omega | (simp only [World.size_alloc]; omega))
  replace Rhl := Rhl.below b17 (by first | omega | (simp only [World.size_alloc]; omega))
  replace Ohl := own_below Ohl b17
  have Rha := Rd.of_own Oha
  have kha := own_cap Oha
  have Lha := own_lt Oha
  go_wp2_with fail
  refine (crewLoads_impl l crews a Ahl Aha _ _ _ _ (Rhl.more (by omega)) (Rha.more (by omega)) (Nat.le_refl _) hkl hka).mono ?_; rintro e w18 ⟨Ah, ch, rfl, Oh, b18⟩
  have z18 := b18.size
  replace Ra := Ra.below b18 (by first | omega | (simp only [World.size_alloc]; omega))
  replace Rl := Rl.below b18 (by first | omega | (simp only [World.size_alloc]; omega))
  replace Rw := Rw.below b18 (by first | omega | (simp only [World.size_alloc]; omega))
  replace Og := own_below Og b18
  replace Rg := Rg.below b18 (by first | omega | (simp only [World.size_alloc]; omega))
  replace Rhl := Rhl.below b18 (by first | omega | (simp only [World.size_alloc]; omega))
  replace Ohl := own_below Ohl b18
  replace Rha := Rha.below b18 (by first | omega | (simp only [World.size_alloc]; omega))
  replace Oha := own_below Oha b18
  have Rh := Rd.of_own Oh
  have Lh := own_lt Oh
  go_wp2_with fail
  refine (eqInt64S_same (clR l crews a) Ah Aw _ _ _ _ (Rh.more (by first | omega | (simp only [World.size_alloc]; omega))) (Rw.more (by first | omega | (simp only [World.size_alloc]; omega))) (Nat.le_refl _) (clR_len l crews a)).mono ?_; rintro e w19 ⟨rfl, b19⟩
  have z19 := b19.size
  replace Ra := Ra.below b19 (by first | omega | (simp only [World.size_alloc]; omega))
  replace Rl := Rl.below b19 (by first | omega | (simp only [World.size_alloc]; omega))
  replace Rw := Rw.below b19 (by first | omega | (simp only [World.size_alloc]; omega))
  replace Og := own_below Og b19
  replace Rg := Rg.below b19 (by first | omega | (simp only [World.size_alloc]; omega))
  replace Rhl := Rhl.below b19 (by first | omega | (simp only [World.size_alloc]; omega))
  replace Ohl := own_below Ohl b19
  replace Rha := Rha.below b19 (by first | omega | (simp only [World.size_alloc]; omega))
  replace Oha := own_below Oha b19
  replace Rh := Rh.below b19 (by first | omega | (simp only [World.size_alloc]; omega))
  replace Oh := own_below Oh b19
  go_wp2_with fail
  refine (heldInt64S_any (clR l crews a).length Ag _ _ _ _ Rg (by omega) (by omega) (by omega)).mono ?_; rintro e w20 ⟨rfl, he20⟩
  subst he20
  go_wp2
  go_ret
  exact ⟨rfl, by repeat' (first | (with_reducible exact Below.refl _ _) | (with_reducible assumption) | (with_reducible refine Below.alloc ?_ ?_ _) | (with_reducible refine Below.drew ?_) | (with_reducible refine below_drewN ?_ _) | (with_reducible refine Below.setCell ?_ ?_ _) | (with_reducible refine Below.trans ?_ (Below.mono (by assumption) ?_)) | go_size | (exact Below.size (by assumption)))⟩
end Go.Proofs.Ytmeppemobogicaa
