/- The law on IsPlan. -/
import Derived.Test.YtmbchcenclfjoaaB
import Derived.Test.YtmbchcenclfjoaaC
namespace Go.Proofs.Ytmbchcenclfjoaa
open Go.ChangeShapes Go.WideShapes Go.ChangeAt Go.RowKit
set_option linter.unusedVariables false
set_option linter.unusedSimpArgs false
theorem walkFnExactIsPlan (l : List (Int × Int)) (A : Option Addr) (c : Nat) (w : World) (hr : Rd w w.heap.size A (l.flatMap eTask)) (hlc : l.length ≤ c) (hm : c ≤ maxLen) :
   Calls Try.prog 3 #[.slice A l.length c] w fun e w' => e = .returned (.bool true) ∧ Below w.heap.size w w' := by
  unfold maxLen at hm
  by_cases hn : l.length ≤ 1048576
  · go_enter Try.func3, Try.ntmps3
    go_wp2_with fail
    refine (szTaskS_small _ _ _ _ (by omega) (by omega) _).mono ?_; rintro e w' ⟨rfl, rfl⟩
    go_wp2_with fail
    refine (toTaskS_any l A _ _ _ hr (Nat.le_refl _) hn).mono ?_; rintro e w1 ⟨A1, c1, rfl, o1, b1⟩
    have r1 := Rd.of_own o1
    have s1 := hr.step b1
    go_wp2_with fail
    refine (isPlan_spec l A1 _ _ _ r1 (Nat.le_refl _) hn).mono ?_; rintro e w2 ⟨rfl, b2⟩
    have s2 := s1.step b2
    go_wp2_with fail
    refine (toTaskS_any l A _ _ _ s2 (Nat.le_refl _) hn).mono ?_; rintro e w3 ⟨A3, c3, rfl, o3, b3⟩
    have r3 := Rd.of_own o3
    have s3 := s2.step b3
    go_wp2_with fail
    refine (isPlan_impl l A3 _ _ _ r3 (Nat.le_refl _) hn).mono ?_; rintro e w4 ⟨rfl, b4⟩
    have r4 := r3.step b4
    have s4 := s3.step b4
    go_wp2_with fail
    refine (toTaskS_any l A _ _ _ s4 (Nat.le_refl _) hn).mono ?_; rintro e w5 ⟨A5, c5, rfl, o5, b5⟩
    have r5 := Rd.of_own o5
    have t5 := r4.step b5
    go_wp2_with fail
    refine (eqTaskS_same l A3 A5 _ _ _ _ t5 r5 (Nat.le_refl _) hn).mono ?_; rintro e w6 ⟨rfl, b6⟩
    go_wp2
    go_ret
    have z1 := b1.size
    have z2 := b2.size
    have z3 := b3.size
    have z4 := b4.size
    have z5 := b5.size
    exact ⟨rfl, by repeat' (first | (with_reducible exact Below.refl _ _) | (with_reducible assumption) | (with_reducible refine Below.alloc ?_ ?_ _) | (with_reducible refine Below.drew ?_) | (with_reducible refine below_drewN ?_ _) | (with_reducible refine Below.setCell ?_ ?_ _) | (with_reducible refine Below.trans ?_ (Below.mono (by assumption) ?_)) | go_size | (exact Below.size (by assumption)))⟩
  · go_enter Try.func3, Try.ntmps3
    go_wp2_with fail
    refine (szTaskS_great _ _ _ _ (by omega) (by omega) (by omega) (by omega) _).mono ?_; rintro e w' ⟨rfl, rfl⟩
    go_wp2
    go_ret
    exact ⟨rfl, Below.refl _ _⟩
end Go.Proofs.Ytmbchcenclfjoaa
