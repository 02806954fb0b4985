/- Which lists of stops are stops. -/
import Derived.Test.YtmeppemobogicaaA
import Derived.Test.YtmeppemobogicaaP
namespace Go.Proofs.Ytmeppemobogicaa
open Go.ChangeShapes Go.WideShapes Go.ChangeAt Go.RowKit
set_option linter.unusedVariables false
set_option linter.unusedSimpArgs false
theorem isRowCount_any (n : Int) (w : World) : Calls Try.prog 49 #[.int .i64 n] w fun e w' => e = .returned (.bool (inB n 1 12)) ∧ w = w' := by
  go_enter Try.func49, Try.ntmps49
  go_wp2_with (go_at_call 50; refine (within_any _ _ _ _).mono ?_; rintro e w' ⟨rfl, rfl⟩)
  go_ret
  exact ⟨rfl, rfl⟩

def stopB (t : Int × Int) : Bool := inB t.1 1 12 && inB t.2 0 100000
def stopsB (l : List (Int × Int)) : Bool := l.all stopB && decide (l.length ≤ 6)
theorem stopsB_spec (l : List (Int × Int)) (A : Option Addr) (B c : Nat) (w : World) (hr : Rd w B A (l.flatMap eEvacuationStop)) (hB : B ≤ w.heap.size) (hn : l.length ≤ 1048576) :
   Calls Try.prog 15 #[.slice A l.length c] w fun e w' => e = .returned (.bool (stopsB l)) ∧ Below w.heap.size w w' := by
  refine Calls.mono (R := fun e w' => e = .returned (.bool (stopsB l)) ∧ w = w') ?_ (fun e w' h => ⟨h.1, h.2 ▸ Below.refl _ _⟩)
  go_enter Try.func15, Try.ntmps15
  go_wp2
  go_loop [3] (fun i => ∃ k : Nat, k ≤ l.length ∧ i = .int .i64 k ∧ (l.take k).all stopB = true) (fun i => l.length - (intOf i).toNat)
  case atStart => exact ⟨0, Nat.zero_le _, rfl, by simp⟩
  case round =>
    obtain ⟨k, hk, rfl, hall⟩ := hrel
    by_cases hlt : k < l.length
    · have ht := List.getElem?_eq_getElem hlt
      generalize l[k] = t at ht
      obtain ⟨b, o, rfl, _, c0, c1⟩ := hr.atEvacuationStop ht
      have Ht := Lib.hid ht
      have Ha := Lib.hid hall
      clear ht hall
      go_wp2_with (go_at_call 45; refine (l01In_any _ _ _ _).mono ?_; rintro e w' ⟨rfl, rfl⟩)
      · go_ret
        exact ⟨ret_bool (by rw [stopsB, all_false stopB l Ht.out (by simp [stopB, *])]; rfl), rfl⟩
      · go_ret
        exact ⟨ret_bool (by rw [stopsB, all_false stopB l Ht.out (by simp_all [stopB])]; rfl), rfl⟩
      · go_round
        case rel => exact ⟨k + 1, by omega, by go_num, by rw [all_step stopB l Ht.out, Ha.out]; simp_all [stopB]⟩
        case measure => simp [intOf]; omega
    · have hk' : k = l.length := by omega
      subst hk'
      rw [List.take_length] at hall
      have Ha := Lib.hid hall
      clear hall
      go_wp2
      go_ret
      exact ⟨ret_bool (by rw [stopsB, Ha.out, Bool.true_and]; exact decide_eq_decide.2 (by omega)), rfl⟩
theorem stopsB_1 (x0 x1 : Int) (w : World) : Calls Try.prog 48 #[.agg #[.int .i64 x0, .int .i64 x1]] w fun e w' => e = .returned (.bool (!stopB (x0, x1))) ∧ Below w.heap.size w w' := by
  unfold stopB
  go_enter Try.func48, Try.ntmps48
  go_wp2_with (first | (go_at_call 49; refine (isRowCount_any _ _).mono ?_; rintro e w' ⟨rfl, rfl⟩) | (go_at_call 50; refine (within_any _ _ _ _).mono ?_; rintro e w' ⟨rfl, rfl⟩))
  all_goals go_ret
  all_goals exact ⟨ret_bool (by simp_all), by go_grown⟩
theorem idxstopsB1 (l : List (Int × Int)) (A : Option Addr) (B c : Nat)  (w : World) (hr : Rd w B A (l.flatMap eEvacuationStop)) (hB : B ≤ w.heap.size) (hn : l.length ≤ 1048576)  :
   Calls Try.prog 72 #[.slice A l.length c, .func (Fn.func 48) #[] #[]] w fun e w' => e = .returned (.int .i64 (idxB (fun t => !stopB t) l)) ∧ Below w.heap.size w w' := by
  go_enter Try.func72, Try.ntmps72
  go_wp2_with fail
  go_loopw [8] (fun i wr => ∃ k : Nat, k ≤ l.length ∧ i = .int .i64 k ∧ (l.take k).any (fun t => !stopB t) = false ∧ Below w.heap.size w wr) (fun i _ => l.length - (intOf i).toNat)
  case atStart => exact ⟨0, Nat.zero_le _, rfl, by simp, Below.refl _ _⟩
  case round =>
    obtain ⟨k, hk, rfl, hall, hbw⟩ := hrel
    by_cases hlt : k < l.length
    · have ht := List.getElem?_eq_getElem hlt
      generalize l[k] = t at ht
      have hsz := hbw.size
      have hr' := hr.below hbw hB
      obtain ⟨b, o, rfl, _, c0, c1⟩ := hr'.atEvacuationStop ht
      have Ht := Lib.hid ht
      have Ha := Lib.hid hall
      have Hr := Lib.hid hr
      have Hr' := Lib.hid hr'
      clear ht hall hr hr'
      go_wp2_with (go_at_call 48; refine (stopsB_1 _ _ _).mono ?_; rintro e w1 ⟨rfl, hb⟩)
      · go_ret
        exact ⟨ret_int (by rw [idxB_here _ _ Ht.out Ha.out (by simp_all)]), by repeat' (first | (with_reducible exact Below.refl _ _) | (with_reducible assumption) | (with_reducible refine Below.alloc ?_ ?_ _) | (with_reducible refine Below.drew ?_) | (with_reducible refine below_drewN ?_ _) | (with_reducible refine Below.setCell ?_ ?_ _) | (with_reducible refine Below.trans ?_ (Below.mono (by assumption) ?_)) | go_size | (exact Below.size (by assumption)))⟩
      · go_roundw
        case rel => exact ⟨k + 1, by omega, by go_num, by rw [any_step _ _ Ht.out, Ha.out]; simp_all, by repeat' (first | (with_reducible exact Below.refl _ _) | (with_reducible assumption) | (with_reducible refine Below.alloc ?_ ?_ _) | (with_reducible refine Below.drew ?_) | (with_reducible refine below_drewN ?_ _) | (with_reducible refine Below.setCell ?_ ?_ _) | (with_reducible refine Below.trans ?_ (Below.mono (by assumption) ?_)) | go_size | (exact Below.size (by assumption)))⟩
        case measure => simp [intOf]; omega
    · have hk' : k = l.length := by omega
      subst hk'
      rw [List.take_length] at hall
      have Ha := Lib.hid hall
      clear hall
      go_wp2
      go_ret
      exact ⟨ret_int (by rw [idxB_none _ _ Ha.out]), by repeat' (first | (with_reducible exact Below.refl _ _) | (with_reducible assumption) | (with_reducible refine Below.alloc ?_ ?_ _) | (with_reducible refine Below.drew ?_) | (with_reducible refine below_drewN ?_ _) | (with_reducible refine Below.setCell ?_ ?_ _) | (with_reducible refine Below.trans ?_ (Below.mono (by assumption) ?_)) | go_size | (exact Below.size (by assumption)))⟩
theorem constopsB1 (l : List (Int × Int)) (A : Option Addr) (B c : Nat)  (w : World) (hr : Rd w B A (l.flatMap eEvacuationStop)) (hB : B ≤ w.heap.size) (hn : l.length ≤ 1048576)  :
   Calls Try.prog 47 #[.slice A l.length c, .func (Fn.func 48) #[] #[]] w fun e w' => e = .returned (.bool (l.any (fun t => !stopB t))) ∧ Below w.heap.size w w' := by
  go_enter Try.func47, Try.ntmps47
  go_wp2_with (go_at_call 72; refine (idxstopsB1 l A B c  w hr hB hn ).mono ?_; rintro e w1 ⟨rfl, hb⟩)
  go_ret
  exact ⟨ret_bool (idxB_any _ _), by repeat' (first | (with_reducible exact Below.refl _ _) | (with_reducible assumption) | (with_reducible refine Below.alloc ?_ ?_ _) | (with_reducible refine Below.drew ?_) | (with_reducible refine below_drewN ?_ _) | (with_reducible refine Below.setCell ?_ ?_ _) | (with_reducible refine Below.trans ?_ (Below.mono (by assumption) ?_)) | go_size | (exact Below.size (by assumption)))⟩
theorem stopsB_impl (l : List (Int × Int)) (A : Option Addr) (B c : Nat) (w : World) (hr : Rd w B A (l.flatMap eEvacuationStop)) (hB : B ≤ w.heap.size) (hn : l.length ≤ 1048576) :
   Calls Try.prog 17 #[.slice A l.length c] w fun e w' => e = .returned (.bool (stopsB l)) ∧ Below w.heap.size w w' := by
  go_enter Try.func17, Try.ntmps17
  go_wp2_with (go_at_call 47; refine (constopsB1 l A B c w hr hB hn).mono ?_; rintro e w1 ⟨rfl, hb⟩)
  · have h : (l.length : Int) ≤ 6 := by assumption
    go_ret
    exact ⟨ret_bool (by rw [stopsB, any_not_all, Bool.not_not, decide_eq_true (show l.length ≤ 6 by omega), Bool.and_true]), by go_grown⟩
  · have h : 6 < (l.length : Int) := by assumption
    go_ret
    exact ⟨ret_bool (by rw [stopsB, decide_eq_false (show ¬ l.length ≤ 6 by omega), Bool.and_false]), by go_grown⟩
theorem stopsB_spec_r (l : List (Int × Int)) (A : Option Addr) (B c : Nat) (r : Bool) (h : stopsB l = r) (w : World) (hr : Rd w B A (l.flatMap eEvacuationStop)) (hB : B ≤ w.heap.size) (hn : l.length ≤ 1048576) :
   Calls Try.prog 15 #[.slice A l.length c] w fun e w' => e = .returned (.bool r) ∧ Below w.heap.size w w' := h ▸ stopsB_spec l A B c w hr hB hn
theorem stopsB_impl_r (l : List (Int × Int)) (A : Option Addr) (B c : Nat) (r : Bool) (h : stopsB l = r) (w : World) (hr : Rd w B A (l.flatMap eEvacuationStop)) (hB : B ≤ w.heap.size) (hn : l.length ≤ 1048576) :
   Calls Try.prog 17 #[.slice A l.length c] w fun e w' => e = .returned (.bool r) ∧ Below w.heap.size w w' := h ▸ stopsB_impl l A B c w hr hB hn
theorem stopsB_len {l : List (Int × Int)} (h : stopsB l = true) : l.length ≤ 6 := by
  simp only [stopsB, Bool.and_eq_true, decide_eq_true_eq] at h
  exact h.2
theorem stops_at {l : List (Int × Int)} (h : stopsB l = true) {k : Nat} {t : Int × Int} (hk : l[k]? = some t) : 1 ≤ t.1 ∧ t.1 ≤ 12 ∧ 0 ≤ t.2 ∧ t.2 ≤ 100000 := by
  simp only [stopsB, Bool.and_eq_true, List.all_eq_true] at h
  have := h.1 t (List.mem_of_getElem? hk)
  simp only [stopB, inB, Bool.and_eq_true, decide_eq_true_eq] at this
  omega
end Go.Proofs.Ytmeppemobogicaa
