/- The law on FinishOf. -/
import Derived.Test.YtmeppemobogicaaB
import Derived.Test.YtmeppemobogicaaI
import Derived.Test.YtmeppemobogicaaFo
namespace Go.Proofs.Ytmeppemobogicaa
open Go.ChangeShapes Go.WideShapes Go.ChangeAt Go.RowKit
set_option linter.unusedVariables false
set_option linter.unusedSimpArgs false
set_option maxRecDepth 20000 in
theorem walkFnExactFinishOf (l : List (Int × Int)) (Al : Option Addr) (cl : Nat) (crews : Int) (a : List (Int)) (Aa : Option Addr) (ca : Nat) (w : World) (Rl : Rd w w.heap.size Al ((l).flatMap eEvacuationStop)) (hlcl : l.length ≤ cl) (hml : cl ≤ maxLen) (wfcrews : (Lit.int .i64 crews).wf = true) (Ra : Rd w w.heap.size Aa (ints (a))) (hlca : a.length ≤ ca) (hma : ca ≤ maxLen) :
   Calls Try.prog 6 #[.slice Al l.length cl, .int .i64 crews, .slice Aa a.length ca] w fun e w' => e = .returned (.bool true) ∧ Below w.heap.size w w' := by
  clear wfcrews
  unfold maxLen at hma
  unfold maxLen at hml
  by_cases hna : (a.length : Int) ≤ 1048576
  rotate_left
  · skip
    go_enter Try.func6, Try.ntmps6
    go_wp2
    go_ret
    exact ⟨rfl, by repeat' (first | (with_reducible exact Below.refl _ _) | (with_reducible assumption) | (with_reducible refine Below.alloc ?_ ?_ _) | (with_reducible refine Below.drew ?_) | (with_reducible refine below_drewN ?_ _) | (with_reducible refine Below.setCell ?_ ?_ _) | (with_reducible refine Below.trans ?_ (Below.mono (by assumption) ?_)) | go_size | (exact Below.size (by assumption)))⟩
  by_cases hnl : (l.length : Int) ≤ 1048576
  rotate_left
  · skip
    go_enter Try.func6, Try.ntmps6
    go_wp2_with fail
    refine (szEvacuationStopS_great _ _ _ _ (by omega) (by omega) (by omega) (by omega) _).mono ?_; rintro e w' ⟨rfl, rfl⟩
    go_wp2
    go_ret
    exact ⟨rfl, by repeat' (first | (with_reducible exact Below.refl _ _) | (with_reducible assumption) | (with_reducible refine Below.alloc ?_ ?_ _) | (with_reducible refine Below.drew ?_) | (with_reducible refine below_drewN ?_ _) | (with_reducible refine Below.setCell ?_ ?_ _) | (with_reducible refine Below.trans ?_ (Below.mono (by assumption) ?_)) | go_size | (exact Below.size (by assumption)))⟩
  have hka : a.length ≤ 1048576 := by omega
  have hkl : l.length ≤ 1048576 := by omega
  go_enter Try.func6, Try.ntmps6
  go_wp2_with fail
  refine (szEvacuationStopS_small _ _ _ _ (by omega) (by omega) _).mono ?_; rintro e w' ⟨rfl, rfl⟩
  go_wp2_with fail
  refine (toEvacuationStopS_any l Al _ _ _ Rl (by first | omega | (simp only [World.size_alloc]; omega)) hkl).mono ?_; rintro e w1 ⟨Asl, csl, rfl, Osl, b1⟩
  have z1 := b1.size
  replace Ra := Ra.below b1 (by first | omega | (simp only [World.size_alloc]; omega))
  replace Rl := Rl.below b1 (by first | omega | (simp only [World.size_alloc]; omega))
  have Rsl := Rd.of_own Osl
  have ksl := own_cap Osl
  have Lsl := own_lt Osl
  go_wp2_with fail
  refine (toInt64S_any a Aa _ _ _ Ra (by first | omega | (simp only [World.size_alloc]; omega)) hka).mono ?_; rintro e w2 ⟨Asa, csa, rfl, Osa, b2⟩
  have z2 := b2.size
  replace Ra := Ra.below b2 (by first | omega | (simp only [World.size_alloc]; omega))
  replace Rl := Rl.below b2 (by first | omega | (simp only [World.size_alloc]; omega))
  replace Rsl := Rsl.below b2 (by first | omega | (simp only [World.size_alloc]; omega))
  replace Osl := own_below Osl b2
  have Rsa := Rd.of_own Osa
  have ksa := own_cap Osa
  have Lsa := own_lt Osa
  go_wp2_with fail
  refine (finish_spec l crews a Asl Asa _ _ _ _ (Rsl.more (by omega)) (Rsa.more (by omega)) (Nat.le_refl _) hkl hka).mono ?_; rintro e w3 ⟨rfl, b3⟩
  have z3 := b3.size
  replace Ra := Ra.below b3 (by first | omega | (simp only [World.size_alloc]; omega))
  replace Rl := Rl.below b3 (by first | omega | (simp only [World.size_alloc]; omega))
  replace Rsl := Rsl.below b3 (by first | omega | (simp only [World.size_alloc]; omega))
  replace Osl := own_below Osl b3
  replace Rsa := Rsa.below b3 (by first | omega | (simp only [World.size_alloc]; omega))
  replace Osa := own_below Osa b3
  clear Osa
  clear Rsa
  clear Osl
  clear Rsl
  go_wp2_with fail
  refine (toEvacuationStopS_any l Al _ _ _ Rl (by first | omega | (simp only [World.size_alloc]; omega)) hkl).mono ?_; rintro e w4 ⟨Axl, cxl, rfl, Oxl, b4⟩
  have z4 := b4.size
  replace Ra := Ra.below b4 (by first | omega | (simp only [World.size_alloc]; omega))
  replace Rl := Rl.below b4 (by first | omega | (simp only [World.size_alloc]; omega))
  have Rxl := Rd.of_own Oxl
  have kxl := own_cap Oxl
  have Lxl := own_lt Oxl
  go_wp2_with fail
  refine (toInt64S_any a Aa _ _ _ Ra (by first | omega | (simp only [World.size_alloc]; omega)) hka).mono ?_; rintro e w5 ⟨Axa, cxa, rfl, Oxa, b5⟩
  have z5 := b5.size
  replace Ra := Ra.below b5 (by first | omega | (simp only [World.size_alloc]; omega))
  replace Rl := Rl.below b5 (by first | omega | (simp only [World.size_alloc]; omega))
  replace Rxl := Rxl.below b5 (by first | omega | (simp only [World.size_alloc]; omega))
  replace Oxl := own_below Oxl b5
  have Rxa := Rd.of_own Oxa
  have kxa := own_cap Oxa
  have Lxa := own_lt Oxa
  go_wp2_with fail
  refine (finish_impl l crews a Axl Axa _ _ _ _ (Rxl.more (by omega)) (Rxa.more (by omega)) (Nat.le_refl _) hkl hka).mono ?_; rintro e w6 ⟨rfl, b6⟩
  have z6 := b6.size
  replace Ra := Ra.below b6 (by first | omega | (simp only [World.size_alloc]; omega))
  replace Rl := Rl.below b6 (by first | omega | (simp only [World.size_alloc]; omega))
  replace Rxl := Rxl.below b6 (by first | omega | (simp only [World.size_alloc]; omega))
  replace Oxl := own_below Oxl b6
  replace Rxa := Rxa.below b6 (by first | omega | (simp only [World.size_alloc]; omega))
  replace Oxa := own_below Oxa b6
  go_wp2_with fail
  refine (toEvacuationStopS_any l Al _ _ _ Rl (by first | omega | (simp only [World.size_alloc]; omega)) hkl).mono ?_; rintro e w7 ⟨Ayl, cyl, rfl, Oyl, b7⟩
  have z7 := b7.size
  replace Ra := Ra.below b7 (by first | omega | (simp only [World.size_alloc]; omega))
  replace Rl := Rl.below b7 (by first | omega | (simp only [World.size_alloc]; omega))
  replace Rxl := Rxl.below b7 (by first | omega | (simp only [World.size_alloc]; omega))
  replace Oxl := own_below Oxl b7
  replace Rxa := Rxa.below b7 (by first | omega | (simp only [World.size_alloc]; omega))
  replace Oxa := own_below Oxa b7
  have Ryl := Rd.of_own Oyl
  have kyl := own_cap Oyl
  have Lyl := own_lt Oyl
  go_wp2_with fail
  refine (eqEvacuationStopS_same l Axl Ayl _ _ _ _ (Rxl.more (by first | omega | (simp only [World.size_alloc]; omega))) (Ryl.more (by first | omega | (simp only [World.size_alloc]; omega))) (Nat.le_refl _) hkl).mono ?_; rintro e w8 ⟨rfl, b8⟩
  have z8 := b8.size
  replace Ra := Ra.below b8 (by first | omega | (simp only [World.size_alloc]; omega))
  replace Rl := Rl.below b8 (by first | omega | (simp only [World.size_alloc]; omega))
  replace Rxl := Rxl.below b8 (by first | omega | (simp only [World.size_alloc]; omega))
  replace Oxl := own_below Oxl b8
  replace Rxa := Rxa.below b8 (by first | omega | (simp only [World.size_alloc]; omega))
  replace Oxa := own_below Oxa b8
  replace Ryl := Ryl.below b8 (by first | omega | (simp only [World.size_alloc]; omega))
  replace Oyl := own_below Oyl b8
  clear Ryl
  clear Oyl
  go_wp2_with fail
  refine (toInt64S_any a Aa _ _ _ Ra (by first | omega | (simp only [World.size_alloc]; omega)) hka).mono ?_; rintro e w9 ⟨Aya, cya, rfl, Oya, b9⟩
  have z9 := b9.size
  replace Ra := Ra.below b9 (by first | omega | (simp only [World.size_alloc]; omega))
  replace Rl := Rl.below b9 (by first | omega | (simp only [World.size_alloc]; omega))
  replace Rxl := Rxl.below b9 (by first | omega | (simp only [World.size_alloc]; omega))
  replace Oxl := own_below Oxl b9
  replace Rxa := Rxa.below b9 (by first | omega | (simp only [World.size_alloc]; omega))
  replace Oxa := own_below Oxa b9
  have Rya := Rd.of_own Oya
  have kya := own_cap Oya
  have Lya := own_lt Oya
  go_wp2_with fail
  refine (eqInt64S_same a Axa Aya _ _ _ _ (Rxa.more (by first | omega | (simp only [World.size_alloc]; omega))) (Rya.more (by first | omega | (simp only [World.size_alloc]; omega))) (Nat.le_refl _) hka).mono ?_; rintro e w10 ⟨rfl, b10⟩
  have z10 := b10.size
  replace Ra := Ra.below b10 (by first | omega | (simp only [World.size_alloc]; omega))
  replace Rl := Rl.below b10 (by first | omega | (simp only [World.size_alloc]; omega))
  replace Rxl := Rxl.below b10 (by first | omega | (simp only [World.size_alloc]; omega))
  replace Oxl := own_below Oxl b10
  replace Rxa := Rxa.below b10 (by first | omega | (simp only [World.size_alloc]; omega))
  replace Oxa := own_below Oxa b10
  replace Rya := Rya.below b10 (by first | omega | (simp only [World.size_alloc]; omega))
  replace Oya := own_below Oya b10
  clear Rya
  clear Oya
  go_wp2
  go_ret
  exact ⟨rfl, by repeat' (first | (with_reducible exact Below.refl _ _) | (with_reducible assumption) | (with_reducible refine Below.alloc ?_ ?_ _) | (with_reducible refine Below.drew ?_) | (with_reducible refine below_drewN ?_ _) | (with_reducible refine Below.setCell ?_ ?_ _) | (with_reducible refine Below.trans ?_ (Below.mono (by assumption) ?_)) | go_size | (exact Below.size (by assumption)))⟩
end Go.Proofs.Ytmeppemobogicaa
