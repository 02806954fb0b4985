/- EvacuationOrder: walks of the program and of the reference. -/
import Derived.Test.YtmeppemobogicaaEo
import Derived.Test.YtmeppemobogicaaCl
namespace Go.Proofs.Ytmeppemobogicaa
open Go.ChangeShapes Go.WideShapes Go.ChangeAt Go.RowKit
set_option maxRecDepth 20000
set_option linter.unusedVariables false
set_option linter.unusedSimpArgs false
def evR (l : List (Int × Int)) : List Int := if stopsB l then natI (ordT (tN (timesL l)) (timesL l).length) else []
theorem evR_len (l : List (Int × Int)) (hn : l.length ≤ 1048576) : (evR l).length ≤ 1048576 := by
  unfold evR
  split
  · rw [natI_length, ordT_length, timesL_length]; exact hn
  · simp
theorem evac_impl (l : List (Int × Int)) (A : Option Addr) (B c : Nat) (w : World) (hr : Rd w B A (l.flatMap eEvacuationStop)) (hB : B ≤ w.heap.size) (hn : l.length ≤ 1048576) :
   Calls Try.prog 39 #[.slice A l.length c] w fun e w' => ∃ A' c', e = .returned (.tuple #[.slice A' (evR l).length c', .int .i64 (timesC l)]) ∧ w'.ownsRow w.heap.size 2 1 (.slice A' (evR l).length c') (evR l).length (ints (evR l)) ∧ Below w.heap.size w w' := by
  cases h : stopsB l with
  | false =>
    rw [show evR l = [] by simp [evR, h], show timesC l = 1 by simp [timesC, h]]
    have H := Lib.hid h
    clear h
    go_enter Try.func39, Try.ntmps39
    go_wp2_with (go_at_call 17; refine (stopsB_impl_r l A B c false H.out w hr hB hn).mono ?_; rintro e w1 ⟨rfl, hb⟩)
    go_ret2
    exact ⟨none, 0, rfl, World.ownsRow_nil _ _ _ _, hb⟩
  | true =>
    rw [show evR l = natI (ordT (tN (timesL l)) (timesL l).length) by simp [evR, h], show timesC l = 0 by simp [timesC, h]]
    have H := Lib.hid h
    have h6 : (timesL l).length ≤ 6 := by rw [timesL_length]; exact stopsB_len h
    clear h
    go_enter Try.func39, Try.ntmps39
    go_wp2_with fail
    refine (stopsB_impl_r l A B c true H.out w hr hB hn).mono ?_; rintro e w1 ⟨rfl, hb⟩
    have hz := hb.size
    go_wp2_with fail
    refine (stopTimes_any l H.out A B c w1 (hr.below hb hB) (by omega)).mono ?_; rintro e w2 ⟨At, ct, rfl, o2, hb2⟩
    have hz2 := hb2.size
    have R2 := Lib.hid (Rd.of_own o2)
    clear o2
    go_wp2_with fail
    refine (order_impl (timesL l) h6 At _ ct w2 R2.out (Nat.le_refl _)).mono ?_; rintro e w3 ⟨A', c', rfl, o3, hb3⟩
    have O3 := Lib.hid o3
    clear o3
    go_wp2
    go_ret2
    rw [natI_length, ordT_length]
    exact ⟨A', c', rfl, own_more O3.out (by omega), by repeat' (first | (with_reducible exact Below.refl _ _) | (with_reducible assumption) | (with_reducible refine Below.alloc ?_ ?_ _) | (with_reducible refine Below.drew ?_) | (with_reducible refine below_drewN ?_ _) | (with_reducible refine Below.setCell ?_ ?_ _) | (with_reducible refine Below.trans ?_ (Below.mono (by assumption) ?_)) | go_size | (exact Below.size (by assumption)))⟩
theorem evac_spec (l : List (Int × Int)) (A : Option Addr) (B c : Nat) (w : World) (hr : Rd w B A (l.flatMap eEvacuationStop)) (hB : B ≤ w.heap.size) (hn : l.length ≤ 1048576) :
   Calls Try.prog 40 #[.slice A l.length c] w fun e w' => ∃ A' c', e = .returned (.tuple #[.slice A' (evR l).length c', .int .i64 (timesC l)]) ∧ w'.ownsRow w.heap.size 2 1 (.slice A' (evR l).length c') (evR l).length (ints (evR l)) ∧ Below w.heap.size w w' := by
  cases h : stopsB l with
  | false =>
    rw [show evR l = [] by simp [evR, h], show timesC l = 1 by simp [timesC, h]]
    have H := Lib.hid h
    clear h
    go_enter Try.func40, Try.ntmps40
    go_wp2_with (go_at_call 15; refine (stopsB_spec_r l A B c false H.out w hr hB hn).mono ?_; rintro e w1 ⟨rfl, hb⟩)
    go_ret2
    exact ⟨none, 0, rfl, World.ownsRow_nil _ _ _ _, hb⟩
  | true =>
    rw [show evR l = natI (ordT (tN (timesL l)) (timesL l).length) by simp [evR, h], show timesC l = 0 by simp [timesC, h]]
    have H := Lib.hid h
    have h6 : (timesL l).length ≤ 6 := by rw [timesL_length]; exact stopsB_len h
    clear h
    go_enter Try.func40, Try.ntmps40
    go_wp2_with fail
    refine (stopsB_spec_r l A B c true H.out w hr hB hn).mono ?_; rintro e w1 ⟨rfl, hb⟩
    have hz := hb.size
    go_wp2_with fail
    refine (l30Times_any l H.out A B c w1 (hr.below hb hB) (by omega)).mono ?_; rintro e w2 ⟨At, ct, rfl, o2, hb2⟩
    have hz2 := hb2.size
    have R2 := Lib.hid (Rd.of_own o2)
    clear o2
    go_wp2_with fail
    refine (order_spec (timesL l) _ rfl h6 At _ ct w2 R2.out (Nat.le_refl _)).mono ?_; rintro e w3 ⟨A', c', rfl, o3, hb3⟩
    have O3 := Lib.hid o3
    clear o3
    go_wp2
    go_ret2
    rw [natI_length, ordT_length]
    exact ⟨A', c', rfl, own_more O3.out (by omega), by repeat' (first | (with_reducible exact Below.refl _ _) | (with_reducible assumption) | (with_reducible refine Below.alloc ?_ ?_ _) | (with_reducible refine Below.drew ?_) | (with_reducible refine below_drewN ?_ _) | (with_reducible refine Below.setCell ?_ ?_ _) | (with_reducible refine Below.trans ?_ (Below.mono (by assumption) ?_)) | go_size | (exact Below.size (by assumption)))⟩
end Go.Proofs.Ytmeppemobogicaa
