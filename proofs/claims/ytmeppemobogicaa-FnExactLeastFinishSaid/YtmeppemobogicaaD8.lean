/- The law on LeastFinish. -/
import Derived.Test.YtmeppemobogicaaB
import Derived.Test.YtmeppemobogicaaBe3
namespace Go.Proofs.Ytmeppemobogicaa
open Go.ChangeShapes Go.WideShapes Go.ChangeAt Go.RowKit
set_option linter.unusedVariables false
set_option linter.unusedSimpArgs false
set_option maxRecDepth 20000 in
theorem walkFnExactLeastFinish (l : List (Int × Int)) (Al : Option Addr) (cl : Nat) (crews : Int) (w : World) (Rl : Rd w w.heap.size Al ((l).flatMap eEvacuationStop)) (hlcl : l.length ≤ cl) (hml : cl ≤ maxLen) (wfcrews : (Lit.int .i64 crews).wf = true) :
   Calls Try.prog 7 #[.slice Al l.length cl, .int .i64 crews] w fun e w' => e = .returned (.bool true) ∧ Below w.heap.size w w' := by
  clear wfcrews
  unfold maxLen at hml
  by_cases hnl : (l.length : Int) ≤ 1048576
  rotate_left
  · skip
    go_enter Try.func7, Try.ntmps7
    go_wp2_with fail
    refine (szEvacuationStopS_great _ _ _ _ (by omega) (by omega) (by omega) (by omega) _).mono ?_; rintro e w' ⟨rfl, rfl⟩
    go_wp2
    go_ret
    exact ⟨rfl, by repeat' (first | (with_reducible exact Below.refl _ _) | (with_reducible assumption) | (with_reducible refine Below.alloc ?_ ?_ _) | (with_reducible refine Below.drew ?_) | (with_reducible refine below_drewN ?_ _) | (with_reducible refine Below.setCell ?_ ?_ _) | (with_reducible refine Below.trans ?_ (Below.mono (by assumption) ?_)) | go_size | (exact Below.size (by assumption)))⟩
  have hkl : l.length ≤ 1048576 := by omega
  go_enter Try.func7, Try.ntmps7
  go_wp2_with fail
  refine (szEvacuationStopS_small _ _ _ _ (by omega) (by omega) _).mono ?_; rintro e w' ⟨rfl, rfl⟩
  go_wp2_with fail
  refine (toEvacuationStopS_any l Al _ _ _ Rl (by first | omega | (simp only [World.size_alloc]; omega)) hkl).mono ?_; rintro e w1 ⟨Asl, csl, rfl, Osl, b1⟩
  have z1 := b1.size
  replace Rl := Rl.below b1 (by first | omega | (simp only [World.size_alloc]; omega))
  have Rsl := Rd.of_own Osl
  have ksl := own_cap Osl
  have Lsl := own_lt Osl
  go_wp2_with fail
  refine (least_spec l crews Asl _ _ _ Rsl (by omega) hkl).mono ?_; rintro e w2 ⟨rfl, b2⟩
  have z2 := b2.size
  replace Rl := Rl.below b2 (by first | omega | (simp only [World.size_alloc]; omega))
  replace Rsl := Rsl.below b2 (by first | omega | (simp only [World.size_alloc]; omega))
  replace Osl := own_below Osl b2
  clear Osl
  clear Rsl
  go_wp2_with fail
  refine (toEvacuationStopS_any l Al _ _ _ Rl (by first | omega | (simp only [World.size_alloc]; omega)) hkl).mono ?_; rintro e w3 ⟨Axl, cxl, rfl, Oxl, b3⟩
  have z3 := b3.size
  replace Rl := Rl.below b3 (by first | omega | (simp only [World.size_alloc]; omega))
  have Rxl := Rd.of_own Oxl
  have kxl := own_cap Oxl
  have Lxl := own_lt Oxl
  go_wp2_with fail
  refine (least_impl l crews Axl _ _ _ Rxl (by omega) hkl).mono ?_; rintro e w4 ⟨rfl, b4⟩
  have z4 := b4.size
  replace Rl := Rl.below b4 (by first | omega | (simp only [World.size_alloc]; omega))
  replace Rxl := Rxl.below b4 (by first | omega | (simp only [World.size_alloc]; omega))
  replace Oxl := own_below Oxl b4
  go_wp2_with fail
  refine (toEvacuationStopS_any l Al _ _ _ Rl (by first | omega | (simp only [World.size_alloc]; omega)) hkl).mono ?_; rintro e w5 ⟨Ayl, cyl, rfl, Oyl, b5⟩
  have z5 := b5.size
  replace Rl := Rl.below b5 (by first | omega | (simp only [World.size_alloc]; omega))
  replace Rxl := Rxl.below b5 (by first | omega | (simp only [World.size_alloc]; omega))
  replace Oxl := own_below Oxl b5
  have Ryl := Rd.of_own Oyl
  have kyl := own_cap Oyl
  have Lyl := own_lt Oyl
  go_wp2_with fail
  refine (eqEvacuationStopS_same l Axl Ayl _ _ _ _ (Rxl.more (by first | omega | (simp only [World.size_alloc]; omega))) (Ryl.more (by first | omega | (simp only [World.size_alloc]; omega))) (Nat.le_refl _) hkl).mono ?_; rintro e w6 ⟨rfl, b6⟩
  have z6 := b6.size
  replace Rl := Rl.below b6 (by first | omega | (simp only [World.size_alloc]; omega))
  replace Rxl := Rxl.below b6 (by first | omega | (simp only [World.size_alloc]; omega))
  replace Oxl := own_below Oxl b6
  replace Ryl := Ryl.below b6 (by first | omega | (simp only [World.size_alloc]; omega))
  replace Oyl := own_below Oyl b6
  clear Ryl
  clear Oyl
  go_wp2
  go_ret
  exact ⟨rfl, by repeat' (first | (with_reducible exact Below.refl _ _) | (with_reducible assumption) | (with_reducible refine Below.alloc ?_ ?_ _) | (with_reducible refine Below.drew ?_) | (with_reducible refine below_drewN ?_ _) | (with_reducible refine Below.setCell ?_ ?_ _) | (with_reducible refine Below.trans ?_ (Below.mono (by assumption) ?_)) | go_size | (exact Below.size (by assumption)))⟩
end Go.Proofs.Ytmeppemobogicaa
