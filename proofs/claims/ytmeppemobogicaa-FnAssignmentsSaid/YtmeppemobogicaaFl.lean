/- The quotients rounded down and up: walks. -/
import Derived.Test.YtmeppemobogicaaRows
import Derived.Test.YtmeppemobogicaaBase
namespace Go.Proofs.Ytmeppemobogicaa
open Go.ChangeShapes Go.WideShapes Go.ChangeAt Go.RowKit
set_option maxRecDepth 20000
set_option linter.unusedVariables false
set_option linter.unusedSimpArgs false
theorem tdiv_neg_ediv (a b : Int) (ha : a < 0) (hb : 0 < b) : a.tdiv b = if a % b = 0 then a / b else a / b + 1 := by
  have h1 := Int.tdiv_eq_ediv (a := a) (b := b)
  rw [h1]
  by_cases h : a % b = 0
  · rw [if_pos h]
    have : b ∣ a := Int.dvd_of_emod_eq_zero h
    simp [this]
  · rw [if_neg h]
    have : ¬ b ∣ a := fun hd => h (Int.emod_eq_zero_of_dvd hd)
    have h3 : ¬ 0 ≤ a := by omega
    simp [this, h3, Int.sign_eq_one_of_pos hb]
theorem tmod_neg_zero (a b : Int) (hb : 0 < b) : (a.tmod b = 0) ↔ (a % b = 0) := by
  constructor
  · intro h
    exact Int.emod_eq_zero_of_dvd (Int.dvd_of_tmod_eq_zero h)
  · intro h
    exact Int.tmod_eq_zero_of_dvd (Int.dvd_of_emod_eq_zero h)
theorem ediv_bound (a b K : Int) (hb : 0 < b) (h1 : -K ≤ a) (h2 : a ≤ K) (hK : 0 ≤ K) : -K - 1 ≤ a / b ∧ a / b ≤ K := by
  constructor
  · have h := Int.ediv_le_ediv hb h1
    have h3 : -K ≤ -K / b ∨ -K - 1 ≤ -K / b := by
      left
      have := Int.le_ediv_of_mul_le (a := -K) (b := -K) hb (by
        have : K * 1 ≤ K * b := Int.mul_le_mul_of_nonneg_left (by omega) hK
        rw [Int.neg_mul]; omega)
      exact this
    omega
  · have h := Int.ediv_le_ediv hb h2
    have : K / b ≤ K := Int.ediv_le_self b hK
    omega
theorem floor_any (a b : Int) (hb : 0 < b) (hb2 : b ≤ 1000000000000000) (h1 : -1000000000000000000 ≤ a) (h2 : a ≤ 1000000000000000000) (w : World) :
   Calls Try.prog 84 #[.int .i64 a, .int .i64 b] w fun e w' => e = .returned (.int .i64 (a / b)) ∧ w = w' := by
  have hbd := ediv_bound a b 1000000000000000000 hb h1 h2 (by omega)
  have hbf : decide (b < 0) = false := by simp; omega
  have hdiv := Lib.hid (tdiv_neg_ediv a b)
  have hmod := tmod_neg_zero a b hb
  by_cases ha : 0 ≤ a
  · have haf : decide (a < 0) = false := by simp; omega
    have Hb := Lib.hid hbd
    clear hbd hmod
    by_cases hm : a % b = 0
    · have hm' : (a % b == 0) = true := by simpa using hm
      have hm2 : (a % b != 0) = false := by simpa using hm
      have Hm := Lib.hid hm
      clear hm
      go_enter Try.func84, Try.ntmps84
      go_wp2
      go_ret
      exact ⟨rfl, rfl⟩
    · have hm2 : (a % b != 0) = true := by simpa using hm
      have Hm := Lib.hid hm
      clear hm
      go_enter Try.func84, Try.ntmps84
      go_wp2
      go_ret
      exact ⟨rfl, rfl⟩
  · have haf : decide (a < 0) = true := by simp; omega
    by_cases hm : a % b = 0
    · have ht : a.tdiv b = a / b := by rw [hdiv.out (by omega) hb, if_pos hm]
      have hm2 : (a.tmod b != 0) = false := by simpa using hmod.2 hm
      have Hm := Lib.hid hm
      have Hb := Lib.hid hbd
      have Ht := Lib.hid ht
      clear hm hbd hmod ht
      go_enter Try.func84, Try.ntmps84
      go_wp2
      go_ret
      exact ⟨ret_int Ht.out, rfl⟩
    · have ht : a.tdiv b = a / b + 1 := by rw [hdiv.out (by omega) hb, if_neg hm]
      have hm2 : (a.tmod b != 0) = true := by simpa using (fun h => hm (hmod.1 h))
      have Hm := Lib.hid hm
      have Hb := Lib.hid hbd
      have Ht := Lib.hid ht
      clear hm hbd hmod ht
      go_enter Try.func84, Try.ntmps84
      go_wp2
      go_ret
      exact ⟨ret_int (by have h := Ht.out; have hb := Hb.out; rw [h, Int.add_sub_cancel]; exact IntWalk.wrap64_in _ (by omega)), rfl⟩
theorem down_any (a b : Int) (hb : 0 < b) (hb2 : b ≤ 1000000000000000) (h1 : -1000000000000000000 ≤ a) (h2 : a ≤ 1000000000000000000) (w : World) :
   Calls Try.prog 85 #[.int .i64 a, .int .i64 b] w fun e w' => e = .returned (.int .i64 (a / b)) ∧ w = w' := by
  have hbd := ediv_bound a b 1000000000000000000 hb h1 h2 (by omega)
  have hbf : decide (b < 0) = false := by simp; omega
  have hdiv := Lib.hid (tdiv_neg_ediv a b)
  have hmod := tmod_neg_zero a b hb
  by_cases ha : 0 ≤ a
  · have haf : decide (a < 0) = false := by simp; omega
    have Hb := Lib.hid hbd
    clear hbd hmod
    by_cases hm : a % b = 0
    · have hm' : (a % b == 0) = true := by simpa using hm
      have hm2 : (a % b != 0) = false := by simpa using hm
      have Hm := Lib.hid hm
      clear hm
      go_enter Try.func85, Try.ntmps85
      go_wp2
      go_ret
      exact ⟨rfl, rfl⟩
    · have hm2 : (a % b != 0) = true := by simpa using hm
      have Hm := Lib.hid hm
      clear hm
      go_enter Try.func85, Try.ntmps85
      go_wp2
      go_ret
      exact ⟨rfl, rfl⟩
  · have haf : decide (a < 0) = true := by simp; omega
    by_cases hm : a % b = 0
    · have ht : a.tdiv b = a / b := by rw [hdiv.out (by omega) hb, if_pos hm]
      have hm2 : (a.tmod b != 0) = false := by simpa using hmod.2 hm
      have Hm := Lib.hid hm
      have Hb := Lib.hid hbd
      have Ht := Lib.hid ht
      clear hm hbd hmod ht
      go_enter Try.func85, Try.ntmps85
      go_wp2
      go_ret
      exact ⟨ret_int Ht.out, rfl⟩
    · have ht : a.tdiv b = a / b + 1 := by rw [hdiv.out (by omega) hb, if_neg hm]
      have hm2 : (a.tmod b != 0) = true := by simpa using (fun h => hm (hmod.1 h))
      have Hm := Lib.hid hm
      have Hb := Lib.hid hbd
      have Ht := Lib.hid ht
      clear hm hbd hmod ht
      go_enter Try.func85, Try.ntmps85
      go_wp2
      go_ret
      exact ⟨ret_int (by have h := Ht.out; have hb := Hb.out; rw [h, Int.add_sub_cancel]; exact IntWalk.wrap64_in _ (by omega)), rfl⟩
theorem ceil_any (a b : Int) (hb : 0 < b) (hb2 : b ≤ 1000000000000000) (h1 : -1000000000000000000 ≤ a) (h2 : a ≤ 1000000000000000000) (w : World) :
   Calls Try.prog 73 #[.int .i64 a, .int .i64 b] w fun e w' => e = .returned (.int .i64 (-((-a) / b))) ∧ w = w' := by
  have hbd := ediv_bound (-a) b 1000000000000000000 hb (by omega) (by omega) (by omega)
  go_enter Try.func73, Try.ntmps73
  go_wp2_with (go_at_call 84; refine (floor_any (-a) b hb hb2 (by omega) (by omega) _).mono ?_; rintro e w' ⟨rfl, rfl⟩)
  go_ret
  exact ⟨rfl, rfl⟩
theorem up_any (a b : Int) (hb : 0 < b) (hb2 : b ≤ 1000000000000000) (h1 : -1000000000000000000 ≤ a) (h2 : a ≤ 1000000000000000000) (w : World) :
   Calls Try.prog 74 #[.int .i64 a, .int .i64 b] w fun e w' => e = .returned (.int .i64 (-((-a) / b))) ∧ w = w' := by
  have hbd := ediv_bound (-a) b 1000000000000000000 hb (by omega) (by omega) (by omega)
  go_enter Try.func74, Try.ntmps74
  go_wp2_with (go_at_call 85; refine (down_any (-a) b hb hb2 (by omega) (by omega) _).mono ?_; rintro e w' ⟨rfl, rfl⟩)
  go_ret
  exact ⟨rfl, rfl⟩
end Go.Proofs.Ytmeppemobogicaa
