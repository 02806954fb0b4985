/- The law on DecodeRecord. -/
import Derived.Test.YtjohpakfaommgaaI
import Derived.Test.YtjohpakfaommgaaA
import Derived.Test.YtjohpakfaommgaaDcr
namespace Go.Proofs.Ytjohpakfaommgaa
open Go.ChangeShapes Go.WideShapes Go.ChangeAt Go.RowKit
set_option maxRecDepth 20000
set_option linter.unusedVariables false
set_option linter.unusedSimpArgs false
theorem walkFnExactDecodeRecord (l : List Int) (A : Option Addr) (c : Nat) (w : World) (hr : Rd w w.heap.size A (ints l)) (hlc : l.length ≤ c) (hm : c ≤ maxLen) :
   Calls Try.prog 6 #[.slice A l.length c] w fun e w' => e = .returned (.bool true) ∧ Below w.heap.size w w' := by
  unfold maxLen at hm
  by_cases hn : (l.length : Int) ≤ 1048576
  rotate_left
  · go_enter Try.func6, Try.ntmps6
    go_wp2
    go_ret
    exact ⟨rfl, Below.refl _ _⟩
  have hk : l.length ≤ 1048576 := by omega
  generalize hT : dX (dcOk l) (dT l) = T
  generalize hK : dX (dcOk l) (dK l) = K
  generalize hV : dX (dcOk l) (dV l) = V
  generalize hN : dX (dcOk l) (dN l) = N
  have hsp := fun (A : Option Addr) (B c : Nat) (w : World) (h1 : Rd w B A (ints l)) (h2 : B ≤ w.heap.size) (h3 : l.length ≤ c) => dc_spec l A B c w h1 h2 h3 hk
  have him := fun (A : Option Addr) (B c : Nat) (w : World) (h1 : Rd w B A (ints l)) (h2 : B ≤ w.heap.size) (h3 : l.length ≤ c) => dc_impl l A B c w h1 h2 h3 hk
  rw [hT, hK, hV, hN] at hsp him
  have Hsp := Lib.hid hsp
  have Him := Lib.hid him
  clear hT hK hV hN hsp him
  go_enter Try.func6, Try.ntmps6
  go_wp2_with fail
  refine (toInt64S_any l A _ _ _ hr (Nat.le_refl _) hk).mono ?_; rintro e w1 ⟨A1, c1, rfl, o1, b1⟩
  have r1 := Rd.of_own o1
  have k1 := own_cap o1
  have Rl := hr.step b1
  have z1 := b1.size
  clear o1
  go_wp2_with fail
  refine (Hsp.out A1 _ c1 _ r1 (Nat.le_refl _) k1).mono ?_; rintro e w2 ⟨rfl, b2⟩
  replace Rl := Rl.step b2
  have z2 := b2.size
  clear r1 k1
  have C0 : (w2.alloc (.cells #[.int .i64 T, .int .i64 K, .int .i64 V] 35)).cell? ⟨w2.heap.size, 0, none⟩ = some (.int .i64 T) := by simp
  have C1 : (w2.alloc (.cells #[.int .i64 T, .int .i64 K, .int .i64 V] 35)).cell? ⟨w2.heap.size, 1, none⟩ = some (.int .i64 K) := by simp
  have C2 : (w2.alloc (.cells #[.int .i64 T, .int .i64 K, .int .i64 V] 35)).cell? ⟨w2.heap.size, 2, none⟩ = some (.int .i64 V) := by simp
  replace Rl := Rl.alloc (Nat.le_refl _) (.cells #[.int .i64 T, .int .i64 K, .int .i64 V] 35)
  go_wp2_with fail
  refine (toInt64S_any l A _ _ _ Rl (by simp) hk).mono ?_; rintro e w3 ⟨A3, c3, rfl, o3, b3⟩
  have R3 := Rd.of_own o3
  have k3 := own_cap o3
  have z3 := b3.size
  simp only [World.size_alloc] at z3
  replace Rl := Rl.below b3 (by simp)
  replace C0 := (b3.cell (p := ⟨w2.heap.size, 0, none⟩) (by simp)).trans C0
  replace C1 := (b3.cell (p := ⟨w2.heap.size, 1, none⟩) (by simp)).trans C1
  replace C2 := (b3.cell (p := ⟨w2.heap.size, 2, none⟩) (by simp)).trans C2
  clear o3
  go_wp2_with fail
  refine (Him.out A3 _ c3 _ R3 (Nat.le_refl _) k3).mono ?_; rintro e w4 ⟨rfl, b4⟩
  have z4 := b4.size
  replace R3 := R3.step b4
  replace Rl := Rl.below b4 (by omega)
  replace C0 := (b4.cell (p := ⟨w2.heap.size, 0, none⟩) (show w2.heap.size < w3.heap.size by omega)).trans C0
  replace C1 := (b4.cell (p := ⟨w2.heap.size, 1, none⟩) (show w2.heap.size < w3.heap.size by omega)).trans C1
  replace C2 := (b4.cell (p := ⟨w2.heap.size, 2, none⟩) (show w2.heap.size < w3.heap.size by omega)).trans C2
  have y4 : w2.heap.size < w4.heap.size := by omega
  replace R3 := R3.alloc (Nat.le_refl _) (.cells #[.int .i64 T, .int .i64 K, .int .i64 V] 35)
  replace Rl := Rl.alloc (by omega) (.cells #[.int .i64 T, .int .i64 K, .int .i64 V] 35)
  go_wp2_with fail
  refine (eqEventRecord_same T K V _).mono ?_; rintro e w5 ⟨rfl, b5⟩
  have z5 := b5.size
  simp only [World.size_alloc] at z5
  replace R3 := R3.below b5 (by simp)
  replace Rl := Rl.below b5 (by simp; omega)
  go_wp2_with fail
  refine (toInt64S_any l A _ _ _ Rl (by omega) hk).mono ?_; rintro e w6 ⟨A6, c6, rfl, o6, b6⟩
  have R6 := Rd.of_own o6
  have z6 := b6.size
  replace R3 := R3.below b6 (by omega)
  clear o6
  go_wp2_with fail
  refine (eqInt64S_same l A3 A6 _ _ _ _ (R3.more (by omega)) R6 (Nat.le_refl _) hk).mono ?_; rintro e w7 ⟨rfl, b7⟩
  go_wp2
  go_ret
  exact ⟨rfl, by repeat' (first | (with_reducible exact Below.refl _ _) | (with_reducible assumption) | (with_reducible refine Below.alloc ?_ ?_ _) | (with_reducible refine Below.drew ?_) | (with_reducible refine below_drewN ?_ _) | (with_reducible refine Below.setCell ?_ ?_ _) | (with_reducible refine Below.trans ?_ (Below.mono (by assumption) ?_)) | go_size | (exact Below.size (by assumption)))⟩
end Go.Proofs.Ytjohpakfaommgaa
