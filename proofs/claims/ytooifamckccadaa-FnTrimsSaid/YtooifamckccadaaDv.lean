/- Rising lists, devices of a layout, runs of segments: walks. -/
import Derived.Test.YtooifamckccadaaLy2
import Derived.Test.YtooifamckccadaaP
import Derived.Deep.QuietTactic
import Derived.BigQuiet
namespace Go.Proofs.Ytooifamckccadaa
open Go.ChangeShapes Go.WideShapes Go.ChangeAt Go.RowKit
set_option maxRecDepth 20000
set_option linter.unusedVariables false
set_option linter.unusedSimpArgs false
theorem range_step (q : Nat → Bool) (k : Nat) : (List.range (k + 1)).all q = ((List.range k).all q && q k) := by rw [List.range_succ, List.all_append]; simp
theorem range_false {q : Nat → Bool} {k n : Nat} (h : k < n) (hq : q k = false) : (List.range n).all q = false := by
  rw [List.all_eq_false]
  exact ⟨k, List.mem_range.2 h, by simp [hq]⟩
def riseT (on : List Int) (n : Int) (k : Nat) : Bool :=
  (match on[k]? with | some x => decide (0 ≤ x) && decide (x < n) | none => true) && (match k with | 0 => true | j + 1 => (match on[j]?, on[j + 1]? with | some y, some x => decide (y < x) | _, _ => true))
def risB (on : List Int) (n : Int) : Bool := (List.range on.length).all (riseT on n)
theorem riseT_zero {on : List Int} {n x : Int} (h : on[0]? = some x) : riseT on n 0 = (decide (0 ≤ x) && decide (x < n)) := by simp [riseT, h]
theorem riseT_succ {on : List Int} {n x y : Int} {j : Nat} (h : on[j + 1]? = some x) (h2 : on[j]? = some y) : riseT on n (j + 1) = ((decide (0 ≤ x) && decide (x < n)) && decide (y < x)) := by simp [riseT, h, h2]
theorem riseT_low {on : List Int} {n x : Int} {k : Nat} (h : on[k]? = some x) (hx : (decide (0 ≤ x) && decide (x < n)) = false) : riseT on n k = false := by simp only [riseT, h, hx, Bool.false_and]
theorem risB_at {on : List Int} {n : Int} (h : risB on n = true) {k : Nat} {x : Int} (hk : on[k]? = some x) : 0 ≤ x ∧ x < n := by
  have hl : k < on.length := (List.getElem?_eq_some_iff.1 hk).1
  have h1 := (List.all_eq_true.1 h) k (List.mem_range.2 hl)
  unfold riseT at h1
  rw [hk] at h1
  simp only [Bool.and_eq_true, decide_eq_true_eq] at h1
  exact h1.1
set_option maxHeartbeats 1000000 in
theorem isRising_any (on : List Int) (n : Int) (A : Option Addr) (B c : Nat) (w : World) (hr : Rd w B A (ints on)) (hn : on.length ≤ 1048576) :
   Calls Try.prog 143 #[.slice A on.length c, .int .i64 n] w fun e w' => e = .returned (.bool (risB on n)) ∧ w = w' := by
  go_enter Try.func143, Try.ntmps143
  go_wp2_with fail
  go_loop [9] (fun i => ∃ k : Nat, k ≤ on.length ∧ i = .int .i64 k ∧ (List.range k).all (riseT on n) = true) (fun i => on.length - (intOf i).toNat)
  case atStart => exact ⟨0, Nat.zero_le _, rfl, by simp⟩
  case round =>
    obtain ⟨k, hk, rfl, hall⟩ := hrel
    by_cases hlt : k < on.length
    · have ht := List.getElem?_eq_getElem hlt
      generalize on[k] = x at ht
      obtain ⟨b, o, rfl, _, c0⟩ := hr.int ht
      have hst := range_step (riseT on n) k
      rw [hall, Bool.true_and] at hst
      have Hst := Lib.hid hst
      have hff : riseT on n k = false → risB on n = false := fun h => range_false hlt h
      have Hff := Lib.hid hff
      have hi0 : (0 : Int) ≤ (k : Int) := by omega
      have hi1 : (k : Int) < (on.length : Int) := by omega
      by_cases h0 : x < 0
      · have hw : riseT on n k = false := riseT_low ht (by simp; omega)
        have Hw := Lib.hid hw
        have d0 : decide (x < 0) = true := by simpa using h0
        clear hw hst hff ht hall hr
        go_wp2
        go_ret
        exact ⟨ret_bool (Hff.out (Hw.out)).symm, rfl⟩
      have d0 : decide (x < 0) = false := by simpa using h0
      by_cases h1 : n ≤ x
      · have hw : riseT on n k = false := riseT_low ht (by simp; omega)
        have Hw := Lib.hid hw
        have d1 : decide (n ≤ x) = true := by simpa using h1
        clear hw hst hff ht hall hr
        go_wp2
        go_ret
        exact ⟨ret_bool (Hff.out (Hw.out)).symm, rfl⟩
      have d1 : decide (n ≤ x) = false := by simpa using h1
      rcases Nat.eq_zero_or_pos k with hk0 | hk0
      · subst hk0
        have hw : riseT on n 0 = true := by rw [riseT_zero ht]; first | (simp; done) | (simp; omega)
        have Hw := Lib.hid hw
        simp only [Nat.add_zero] at c0
        clear hw hst hff ht hall hr
        go_wp2
        go_round
        case rel => exact ⟨0 + 1, by omega, by go_num, by rw [Hst.out]; exact Hw.out⟩
        case measure => simp [intOf]; omega
      · obtain ⟨j, rfl⟩ : ∃ j, k = j + 1 := ⟨k - 1, by omega⟩
        have hj : j < on.length := by omega
        have hy := List.getElem?_eq_getElem hj
        generalize on[j] = y at hy
        obtain ⟨b2, o2, he, _, c1⟩ := hr.int hy
        injection he with he
        injection he with he1 he2
        subst he1 he2
        have hrt := riseT_succ (n := n) ht hy
        have e1 : (((j + 1 : Nat) : Int)) - 1 = (j : Int) := by omega
        have hj0 : (0 : Int) ≤ (j : Int) := by omega
        have hj1 : (j : Int) < (on.length : Int) := by omega
        have hpos : (0 : Int) < ((j + 1 : Nat) : Int) := by omega
        have hposd : decide ((0 : Int) < ((j + 1 : Nat) : Int)) = true := by first | (simp; done) | (simp; omega)
        by_cases h2 : y < x
        · have hw : riseT on n (j + 1) = true := by rw [hrt]; first | (simp; done) | (simp; omega)
          have Hw := Lib.hid hw
          have d2 : decide (x ≤ y) = false := by first | (simp; done) | (simp; omega)
          clear hw hst hff ht hall hr hrt hy
          go_wp2
          go_round
          case rel => exact ⟨(j + 1) + 1, by omega, by go_num, by rw [Hst.out]; exact Hw.out⟩
          case measure => simp [intOf]; omega
        · have hw : riseT on n (j + 1) = false := by rw [hrt]; first | (simp; done) | (simp; omega)
          have Hw := Lib.hid hw
          have d2 : decide (x ≤ y) = true := by first | (simp; done) | (simp; omega)
          clear hw hst hff ht hall hr hrt hy
          go_wp2
          go_ret
          exact ⟨ret_bool (Hff.out (Hw.out)).symm, rfl⟩
    · have hk' : k = on.length := by omega
      subst hk'
      have Ha := Lib.hid (show risB on n = true from hall)
      clear hall hr
      go_wp2
      go_ret
      exact ⟨ret_bool Ha.out.symm, rfl⟩
set_option maxHeartbeats 1000000 in
theorem l01Rises_any (on : List Int) (n : Int) (A : Option Addr) (B c : Nat) (w : World) (hr : Rd w B A (ints on)) (hn : on.length ≤ 1048576) :
   Calls Try.prog 149 #[.slice A on.length c, .int .i64 n] w fun e w' => e = .returned (.bool (risB on n)) ∧ ∃ q, w' = w.drewN q := by
  go_enter Try.func149, Try.ntmps149
  go_wp2_with fail
  go_loopw [5] (fun i wr => ∃ k : Nat, k ≤ on.length ∧ i = .int .i64 k ∧ (List.range k).all (riseT on n) = true ∧ ∃ q, wr = w.drewN q) (fun i _ => on.length - (intOf i).toNat)
  case atStart => exact ⟨0, Nat.zero_le _, rfl, by simp, 0, rfl⟩
  case round =>
    obtain ⟨k, hk, rfl, hall, qd, rfl⟩ := hrel
    by_cases hlt : k < on.length
    · have ht := List.getElem?_eq_getElem hlt
      generalize on[k] = x at ht
      obtain ⟨b, o, rfl, _, c0⟩ := hr.int ht
      have hst := range_step (riseT on n) k
      rw [hall, Bool.true_and] at hst
      have Hst := Lib.hid hst
      have hff : riseT on n k = false → risB on n = false := fun h => range_false hlt h
      have Hff := Lib.hid hff
      have hi0 : (0 : Int) ≤ (k : Int) := by omega
      have hi1 : (k : Int) < (on.length : Int) := by omega
      by_cases h0 : x < 0
      · have hw : riseT on n k = false := riseT_low ht (by simp; omega)
        have Hw := Lib.hid hw
        have d0 : decide (x < 0) = true := by simpa using h0
        clear hw hst hff ht hall hr
        go_wp2_with fail
        go_quiet (fail)
        go_wp2
        go_ret
        exact ⟨ret_bool (Hff.out (Hw.out)).symm, _, World.drewN_drewN _ _ _⟩
      have d0 : decide (x < 0) = false := by simpa using h0
      by_cases h1 : n ≤ x
      · have hw : riseT on n k = false := riseT_low ht (by simp; omega)
        have Hw := Lib.hid hw
        have d1 : decide (n ≤ x) = true := by simpa using h1
        clear hw hst hff ht hall hr
        go_wp2_with fail
        go_quiet (fail)
        go_wp2
        go_ret
        exact ⟨ret_bool (Hff.out (Hw.out)).symm, _, World.drewN_drewN _ _ _⟩
      have d1 : decide (n ≤ x) = false := by simpa using h1
      rcases Nat.eq_zero_or_pos k with hk0 | hk0
      · subst hk0
        have hw : riseT on n 0 = true := by rw [riseT_zero ht]; first | (simp; done) | (simp; omega)
        have Hw := Lib.hid hw
        simp only [Nat.add_zero] at c0
        clear hw hst hff ht hall hr
        go_wp2_with fail
        go_quiet (fail)
        go_wp2
        go_roundw
        case rel => exact ⟨0 + 1, by omega, by go_num, by rw [Hst.out]; exact Hw.out, _, by first | rfl | exact World.drewN_drewN _ _ _⟩
        case measure => simp [intOf]; omega
      · obtain ⟨j, rfl⟩ : ∃ j, k = j + 1 := ⟨k - 1, by omega⟩
        have hj : j < on.length := by omega
        have hy := List.getElem?_eq_getElem hj
        generalize on[j] = y at hy
        obtain ⟨b2, o2, he, _, c1⟩ := hr.int hy
        injection he with he
        injection he with he1 he2
        subst he1 he2
        have hrt := riseT_succ (n := n) ht hy
        have e1 : (((j + 1 : Nat) : Int)) - 1 = (j : Int) := by omega
        have hj0 : (0 : Int) ≤ (j : Int) := by omega
        have hj1 : (j : Int) < (on.length : Int) := by omega
        have hpos : (0 : Int) < ((j + 1 : Nat) : Int) := by omega
        have hposd : decide ((0 : Int) < ((j + 1 : Nat) : Int)) = true := by first | (simp; done) | (simp; omega)
        by_cases h2 : y < x
        · have hw : riseT on n (j + 1) = true := by rw [hrt]; first | (simp; done) | (simp; omega)
          have Hw := Lib.hid hw
          have d2 : decide (x ≤ y) = false := by first | (simp; done) | (simp; omega)
          clear hw hst hff ht hall hr hrt hy
          go_wp2_with fail
          go_quiet (fail)
          go_wp2
          go_roundw
          case rel => exact ⟨(j + 1) + 1, by omega, by go_num, by rw [Hst.out]; exact Hw.out, _, by first | rfl | exact World.drewN_drewN _ _ _⟩
          case measure => simp [intOf]; omega
        · have hw : riseT on n (j + 1) = false := by rw [hrt]; first | (simp; done) | (simp; omega)
          have Hw := Lib.hid hw
          have d2 : decide (x ≤ y) = true := by first | (simp; done) | (simp; omega)
          clear hw hst hff ht hall hr hrt hy
          go_wp2_with fail
          go_quiet (fail)
          go_wp2
          go_ret
          exact ⟨ret_bool (Hff.out (Hw.out)).symm, _, World.drewN_drewN _ _ _⟩
    · have hk' : k = on.length := by omega
      subst hk'
      have Ha := Lib.hid (show risB on n = true from hall)
      clear hall hr
      go_wp2
      go_ret
      exact ⟨ret_bool Ha.out.symm, _, rfl⟩
end Go.Proofs.Ytooifamckccadaa
