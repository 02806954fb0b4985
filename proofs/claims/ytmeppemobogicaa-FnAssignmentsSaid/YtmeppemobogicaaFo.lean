/- The finish of an assignment. -/
import Derived.Test.YtmeppemobogicaaCwI
namespace Go.Proofs.Ytmeppemobogicaa
open Go.ChangeShapes Go.WideShapes Go.ChangeAt Go.RowKit
set_option linter.unusedVariables false
set_option linter.unusedSimpArgs false
def mostUp (l : List Int) : Nat → Int
  | 0 => 0
  | k + 1 => match l[k]? with
    | some x => if mostUp l k < x then x else mostUp l k
    | none => mostUp l k
theorem mostUp_step {l : List Int} {k : Nat} {x : Int} (h : l[k]? = some x) : mostUp l (k + 1) = if mostUp l k < x then x else mostUp l k := by simp [mostUp, h]
theorem mostUp_nonneg (l : List Int) : ∀ k, 0 ≤ mostUp l k
  | 0 => by simp [mostUp]
  | k + 1 => by
    have := mostUp_nonneg l k
    unfold mostUp
    split
    · split <;> omega
    · exact this
def mostL (l : List Int) : Int := mostUp l l.length
theorem most_any (l : List Int) (A : Option Addr) (B c : Nat) (w : World) (hr : Rd w B A (ints l)) (hB : B ≤ w.heap.size) (hn : l.length ≤ 1048576) :
   Calls Try.prog 60 #[.slice A l.length c] w fun e w' => e = .returned (.int .i64 (mostL l)) ∧ Below w.heap.size w w' := by
  go_enter Try.func60, Try.ntmps60
  go_wp2_with fail
  go_loopw [3, 4] (fun q i wr => ∃ k : Nat, k ≤ l.length ∧ i = .int .i64 k ∧ q = .int .i64 (mostUp l k) ∧ Below w.heap.size w wr) (fun _ i _ => l.length - (intOf i).toNat)
  case atStart => exact ⟨0, Nat.zero_le _, rfl, rfl, Below.refl _ _⟩
  case round =>
    obtain ⟨k, hk, rfl, rfl, hbw⟩ := hrel
    by_cases hlt : k < l.length
    · have ht := List.getElem?_eq_getElem hlt
      generalize l[k] = x at ht
      obtain ⟨b, o, rfl, _, c0⟩ := (hr.below hbw hB).int ht
      have hs := mostUp_step ht
      have Hr := Lib.hid hr
      clear ht hr
      by_cases hc : mostUp l k < x
      · rw [if_pos hc] at hs
        have Hs := Lib.hid hs
        clear hs
        go_wp2
        go_roundw
        case rel => exact ⟨k + 1, by omega, by go_num, by rw [Hs.out], by repeat' (first | (with_reducible exact Below.refl _ _) | (with_reducible assumption) | (with_reducible refine Below.alloc ?_ ?_ _) | (with_reducible refine Below.drew ?_) | (with_reducible refine below_drewN ?_ _) | (with_reducible refine Below.setCell ?_ ?_ _) | (with_reducible refine Below.trans ?_ (Below.mono (by assumption) ?_)) | go_size | (exact Below.size (by assumption)))⟩
        case measure => simp [intOf]; omega
      · rw [if_neg hc] at hs
        have Hs := Lib.hid hs
        clear hs
        go_wp2
        go_roundw
        case rel => exact ⟨k + 1, by omega, by go_num, by rw [Hs.out], by repeat' (first | (with_reducible exact Below.refl _ _) | (with_reducible assumption) | (with_reducible refine Below.alloc ?_ ?_ _) | (with_reducible refine Below.drew ?_) | (with_reducible refine below_drewN ?_ _) | (with_reducible refine Below.setCell ?_ ?_ _) | (with_reducible refine Below.trans ?_ (Below.mono (by assumption) ?_)) | go_size | (exact Below.size (by assumption)))⟩
        case measure => simp [intOf]; omega
    · have hk' : k = l.length := by omega
      subst hk'
      go_wp2
      go_ret
      exact ⟨ret_int rfl, by repeat' (first | (with_reducible exact Below.refl _ _) | (with_reducible assumption) | (with_reducible refine Below.alloc ?_ ?_ _) | (with_reducible refine Below.drew ?_) | (with_reducible refine below_drewN ?_ _) | (with_reducible refine Below.setCell ?_ ?_ _) | (with_reducible refine Below.trans ?_ (Below.mono (by assumption) ?_)) | go_size | (exact Below.size (by assumption)))⟩
theorem max_any (l : List Int) (h0 : 0 < l.length) (hp : ∀ (k : Nat) (x : Int), l[k]? = some x → 0 ≤ x) (A : Option Addr) (B c : Nat) (w : World) (hr : Rd w B A (ints l)) (hB : B ≤ w.heap.size) (hn : l.length ≤ 1048576) :
   Calls Try.prog 61 #[.slice A l.length c] w fun e w' => e = .returned (.int .i64 (mostL l)) ∧ Below w.heap.size w w' := by
  have ht0 := List.getElem?_eq_getElem h0
  generalize l[0] = x0 at ht0
  obtain ⟨b, o, rfl, _, c0⟩ := hr.int ht0
  rw [Nat.add_zero] at c0
  have hx0 := hp 0 x0 ht0
  have hs0 := mostUp_step ht0
  rw [show mostUp l 0 = 0 from rfl] at hs0
  have hs1 : mostUp l 1 = x0 := by rw [hs0]; split <;> omega
  have Hs1 := Lib.hid hs1
  have Hp := Lib.hid hp
  clear hp ht0 hs0 hs1 hx0
  go_enter Try.func61, Try.ntmps61
  go_wp2_with fail
  go_loopw [3, 4] (fun q i wr => ∃ k : Nat, 1 ≤ k ∧ k ≤ l.length ∧ i = .int .i64 k ∧ q = .int .i64 (mostUp l k) ∧ Below w.heap.size w wr) (fun _ i _ => l.length - (intOf i).toNat)
  case atStart => exact ⟨1, Nat.le_refl _, h0, rfl, by rw [Hs1.out], Below.refl _ _⟩
  case round =>
    obtain ⟨k, hk1, hk, rfl, rfl, hbw⟩ := hrel
    by_cases hlt : k < l.length
    · have ht := List.getElem?_eq_getElem hlt
      generalize l[k] = x at ht
      obtain ⟨b', o', hbo, _, c1⟩ := (hr.below hbw hB).int ht
      simp only [Option.some.injEq, Addr.mk.injEq, and_true] at hbo
      obtain ⟨rfl, rfl⟩ := hbo
      have hs := mostUp_step ht
      have Hr := Lib.hid hr
      clear ht hr
      by_cases hc : mostUp l k < x
      · rw [if_pos hc] at hs
        have Hs := Lib.hid hs
        clear hs
        go_wp2
        go_roundw
        case rel => exact ⟨k + 1, by omega, by omega, by go_num, by rw [Hs.out], by repeat' (first | (with_reducible exact Below.refl _ _) | (with_reducible assumption) | (with_reducible refine Below.alloc ?_ ?_ _) | (with_reducible refine Below.drew ?_) | (with_reducible refine below_drewN ?_ _) | (with_reducible refine Below.setCell ?_ ?_ _) | (with_reducible refine Below.trans ?_ (Below.mono (by assumption) ?_)) | go_size | (exact Below.size (by assumption)))⟩
        case measure => simp [intOf]; omega
      · rw [if_neg hc] at hs
        have Hs := Lib.hid hs
        clear hs
        go_wp2
        go_roundw
        case rel => exact ⟨k + 1, by omega, by omega, by go_num, by rw [Hs.out], by repeat' (first | (with_reducible exact Below.refl _ _) | (with_reducible assumption) | (with_reducible refine Below.alloc ?_ ?_ _) | (with_reducible refine Below.drew ?_) | (with_reducible refine below_drewN ?_ _) | (with_reducible refine Below.setCell ?_ ?_ _) | (with_reducible refine Below.trans ?_ (Below.mono (by assumption) ?_)) | go_size | (exact Below.size (by assumption)))⟩
        case measure => simp [intOf]; omega
    · have hk' : k = l.length := by omega
      subst hk'
      go_wp2
      go_ret
      exact ⟨ret_int rfl, by repeat' (first | (with_reducible exact Below.refl _ _) | (with_reducible assumption) | (with_reducible refine Below.alloc ?_ ?_ _) | (with_reducible refine Below.drew ?_) | (with_reducible refine below_drewN ?_ _) | (with_reducible refine Below.setCell ?_ ?_ _) | (with_reducible refine Below.trans ?_ (Below.mono (by assumption) ?_)) | go_size | (exact Below.size (by assumption)))⟩
theorem clR_at (l : List (Int × Int)) (crews : Int) (asg : List Int) (k : Nat) (x : Int) (h : (clR l crews asg)[k]? = some x) : 0 ≤ x := by
  unfold clR at h
  split at h
  · rename_i h0
    have hst : stopsB l = true := by
      unfold clC at h0
      split at h0
      · exact (crewC_zero (by assumption)).1
      · contradiction
    exact (ldsUp_bd (timesL_at hst) _ k x h).1
  · simp at h
theorem clR_pos (l : List (Int × Int)) (crews : Int) (asg : List Int) (h : clC l crews asg = 0) : 0 < (clR l crews asg).length := by
  unfold clR
  rw [if_pos h, ldsUp_length]
  unfold clC at h
  split at h
  · have := crewC_zero (by assumption)
    omega
  · contradiction
theorem clR_nil (l : List (Int × Int)) (crews : Int) (asg : List Int) (h : clC l crews asg ≠ 0) : clR l crews asg = [] := by simp [clR, h]
theorem finish_spec (l : List (Int × Int)) (crews : Int) (asg : List Int) (A A' : Option Addr) (B c c' : Nat) (w : World) (hr : Rd w B A (l.flatMap eEvacuationStop)) (hr2 : Rd w B A' (ints asg)) (hB : B ≤ w.heap.size) (hn : l.length ≤ 1048576) (hn2 : asg.length ≤ 1048576) :
   Calls Try.prog 28 #[.slice A l.length c, .int .i64 crews, .slice A' asg.length c'] w fun e w' => e = .returned (.tuple #[.int .i64 (mostL (clR l crews asg)), .int .i64 (clC l crews asg)]) ∧ Below w.heap.size w w' := by
  have hl := clR_len l crews asg
  go_enter Try.func28, Try.ntmps28
  go_wp2_with fail
  refine (crewLoads_spec l crews asg A A' B c c' _ hr hr2 hB hn hn2).mono ?_; rintro e w1 ⟨A2, c2, rfl, o1, b1⟩
  have rt := Lib.hid (Rd.of_own o1)
  clear o1
  go_wp2_with (go_at_call 60; refine (most_any _ A2 _ c2 _ rt.out (Nat.le_refl _) hl).mono ?_; rintro e w2 ⟨rfl, b2⟩)
  go_ret2
  exact ⟨rfl, by repeat' (first | (with_reducible exact Below.refl _ _) | (with_reducible assumption) | (with_reducible refine Below.alloc ?_ ?_ _) | (with_reducible refine Below.drew ?_) | (with_reducible refine below_drewN ?_ _) | (with_reducible refine Below.setCell ?_ ?_ _) | (with_reducible refine Below.trans ?_ (Below.mono (by assumption) ?_)) | go_size | (exact Below.size (by assumption)))⟩
theorem finish_impl (l : List (Int × Int)) (crews : Int) (asg : List Int) (A A' : Option Addr) (B c c' : Nat) (w : World) (hr : Rd w B A (l.flatMap eEvacuationStop)) (hr2 : Rd w B A' (ints asg)) (hB : B ≤ w.heap.size) (hn : l.length ≤ 1048576) (hn2 : asg.length ≤ 1048576) :
   Calls Try.prog 29 #[.slice A l.length c, .int .i64 crews, .slice A' asg.length c'] w fun e w' => e = .returned (.tuple #[.int .i64 (mostL (clR l crews asg)), .int .i64 (clC l crews asg)]) ∧ Below w.heap.size w w' := by
  have hl := clR_len l crews asg
  by_cases h0 : clC l crews asg = 0
  · have hpos := clR_pos l crews asg h0
    have hb0 : (clC l crews asg != 0) = false := by simpa using h0
    have H0 := Lib.hid h0
    clear h0
    go_enter Try.func29, Try.ntmps29
    go_wp2_with fail
    refine (crewLoads_impl l crews asg A A' B c c' _ hr hr2 hB hn hn2).mono ?_; rintro e w1 ⟨A2, c2, rfl, o1, b1⟩
    have rt := Lib.hid (Rd.of_own o1)
    clear o1
    go_wp2_with (go_at_call 61; refine (max_any _ hpos (clR_at l crews asg) A2 _ c2 _ rt.out (Nat.le_refl _) hl).mono ?_; rintro e w2 ⟨rfl, b2⟩)
    go_ret2
    exact ⟨by rw [H0.out]; rfl, by repeat' (first | (with_reducible exact Below.refl _ _) | (with_reducible assumption) | (with_reducible refine Below.alloc ?_ ?_ _) | (with_reducible refine Below.drew ?_) | (with_reducible refine below_drewN ?_ _) | (with_reducible refine Below.setCell ?_ ?_ _) | (with_reducible refine Below.trans ?_ (Below.mono (by assumption) ?_)) | go_size | (exact Below.size (by assumption)))⟩
  · have hb0 : (clC l crews asg != 0) = true := by simpa using h0
    have hnil := Lib.hid (clR_nil l crews asg h0)
    clear h0
    go_enter Try.func29, Try.ntmps29
    go_wp2_with (go_at_call 27; refine (crewLoads_impl l crews asg A A' B c c' _ hr hr2 hB hn hn2).mono ?_; rintro e w1 ⟨A2, c2, rfl, o1, b1⟩; clear o1)
    go_ret2
    exact ⟨by rw [hnil.out]; rfl, by repeat' (first | (with_reducible exact Below.refl _ _) | (with_reducible assumption) | (with_reducible refine Below.alloc ?_ ?_ _) | (with_reducible refine Below.drew ?_) | (with_reducible refine below_drewN ?_ _) | (with_reducible refine Below.setCell ?_ ?_ _) | (with_reducible refine Below.trans ?_ (Below.mono (by assumption) ?_)) | go_size | (exact Below.size (by assumption)))⟩

end Go.Proofs.Ytmeppemobogicaa
