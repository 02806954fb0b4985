/- Checksum16 of the program and of the reference: walks. -/
import Derived.Test.YtjohpakfaommgaaCrc
import Derived.Test.YtjohpakfaommgaaP
namespace Go.Proofs.Ytjohpakfaommgaa
open Go.ChangeShapes Go.WideShapes Go.ChangeAt Go.RowKit
set_option linter.unusedVariables false
set_option linter.unusedSimpArgs false
theorem idxBytes1 (l : List (Int)) (A : Option Addr) (B c : Nat)  (w : World) (hr : Rd w B A (ints l)) (hB : B ≤ w.heap.size) (hn : l.length ≤ 1048576)  :
   Calls Try.prog 89 #[.slice A l.length c, .func (Fn.func 79) #[] #[]] w fun e w' => e = .returned (.int .i64 (idxB (fun x => !inB x 0 255) l)) ∧ Below w.heap.size w w' := by
  go_enter Try.func89, Try.ntmps89
  go_wp2_with fail
  go_loopw [8] (fun i wr => ∃ k : Nat, k ≤ l.length ∧ i = .int .i64 k ∧ (l.take k).any (fun x => !inB x 0 255) = false ∧ Below w.heap.size w wr) (fun i _ => l.length - (intOf i).toNat)
  case atStart => exact ⟨0, Nat.zero_le _, rfl, by simp, Below.refl _ _⟩
  case round =>
    obtain ⟨k, hk, rfl, hall, hbw⟩ := hrel
    by_cases hlt : k < l.length
    · have ht := List.getElem?_eq_getElem hlt
      generalize l[k] = t at ht
      have hsz := hbw.size
      have hr' := hr.below hbw hB
      obtain ⟨b, o, rfl, _, c0⟩ := hr'.int ht
      have Ht := Lib.hid ht
      have Ha := Lib.hid hall
      have Hr := Lib.hid hr
      have Hr' := Lib.hid hr'
      clear ht hall hr hr'
      go_wp2_with (go_at_call 79; refine (areBytes1_any _ _).mono ?_; rintro e w1 ⟨rfl, hb⟩)
      · go_ret
        exact ⟨ret_int (by rw [idxB_here _ _ Ht.out Ha.out (by simp_all)]), by repeat' (first | (with_reducible exact Below.refl _ _) | (with_reducible assumption) | (with_reducible refine Below.alloc ?_ ?_ _) | (with_reducible refine Below.drew ?_) | (with_reducible refine below_drewN ?_ _) | (with_reducible refine Below.setCell ?_ ?_ _) | (with_reducible refine Below.trans ?_ (Below.mono (by assumption) ?_)) | go_size | (exact Below.size (by assumption)))⟩
      · go_roundw
        case rel => exact ⟨k + 1, by omega, by go_num, by rw [any_step _ _ Ht.out, Ha.out]; simp_all, by repeat' (first | (with_reducible exact Below.refl _ _) | (with_reducible assumption) | (with_reducible refine Below.alloc ?_ ?_ _) | (with_reducible refine Below.drew ?_) | (with_reducible refine below_drewN ?_ _) | (with_reducible refine Below.setCell ?_ ?_ _) | (with_reducible refine Below.trans ?_ (Below.mono (by assumption) ?_)) | go_size | (exact Below.size (by assumption)))⟩
        case measure => simp [intOf]; omega
    · have hk' : k = l.length := by omega
      subst hk'
      rw [List.take_length] at hall
      have Ha := Lib.hid hall
      clear hall
      go_wp2
      go_ret
      exact ⟨ret_int (by rw [idxB_none _ _ Ha.out]), by repeat' (first | (with_reducible exact Below.refl _ _) | (with_reducible assumption) | (with_reducible refine Below.alloc ?_ ?_ _) | (with_reducible refine Below.drew ?_) | (with_reducible refine below_drewN ?_ _) | (with_reducible refine Below.setCell ?_ ?_ _) | (with_reducible refine Below.trans ?_ (Below.mono (by assumption) ?_)) | go_size | (exact Below.size (by assumption)))⟩
theorem conBytes1 (l : List (Int)) (A : Option Addr) (B c : Nat)  (w : World) (hr : Rd w B A (ints l)) (hB : B ≤ w.heap.size) (hn : l.length ≤ 1048576)  :
   Calls Try.prog 78 #[.slice A l.length c, .func (Fn.func 79) #[] #[]] w fun e w' => e = .returned (.bool (l.any (fun x => !inB x 0 255))) ∧ Below w.heap.size w w' := by
  go_enter Try.func78, Try.ntmps78
  go_wp2_with (go_at_call 89; refine (idxBytes1 l A B c  w hr hB hn ).mono ?_; rintro e w1 ⟨rfl, hb⟩)
  go_ret
  exact ⟨ret_bool (idxB_any _ _), by repeat' (first | (with_reducible exact Below.refl _ _) | (with_reducible assumption) | (with_reducible refine Below.alloc ?_ ?_ _) | (with_reducible refine Below.drew ?_) | (with_reducible refine below_drewN ?_ _) | (with_reducible refine Below.setCell ?_ ?_ _) | (with_reducible refine Below.trans ?_ (Below.mono (by assumption) ?_)) | go_size | (exact Below.size (by assumption)))⟩
theorem areBytes_any (l : List Int) (A : Option Addr) (B c : Nat) (w : World) (hr : Rd w B A (ints l)) (hB : B ≤ w.heap.size) (hn : l.length ≤ 1048576) :
   Calls Try.prog 51 #[.slice A l.length c] w fun e w' => e = .returned (.bool (bytesB l)) ∧ Below w.heap.size w w' := by
  go_enter Try.func51, Try.ntmps51
  go_wp2_with (go_at_call 78; refine (conBytes1 l A B c w hr hB hn).mono ?_; rintro e w1 ⟨rfl, hb⟩)
  · have h : (l.length : Int) ≤ 2000 := by assumption
    go_ret
    exact ⟨ret_bool (by rw [bytesB, any_not_all, Bool.not_not, decide_eq_true (show l.length ≤ 2000 by omega), Bool.true_and]), by go_grown⟩
  · have h : 2000 < (l.length : Int) := by assumption
    go_ret
    exact ⟨ret_bool (by rw [bytesB, decide_eq_false (show ¬ l.length ≤ 2000 by omega), Bool.false_and]), by go_grown⟩
theorem l32Bytes_r (l : List Int) (A : Option Addr) (B c : Nat) (r : Bool) (h : bytesB l = r) (w : World) (hr : Rd w B A (ints l)) (hn : l.length ≤ 1048576) :
   Calls Try.prog 49 #[.slice A l.length c] w fun e w' => e = .returned (.bool r) ∧ w = w' := h ▸ l32Bytes_any l A B c w hr hn
theorem areBytes_r (l : List Int) (A : Option Addr) (B c : Nat) (r : Bool) (h : bytesB l = r) (w : World) (hr : Rd w B A (ints l)) (hB : B ≤ w.heap.size) (hn : l.length ≤ 1048576) :
   Calls Try.prog 51 #[.slice A l.length c] w fun e w' => e = .returned (.bool r) ∧ Below w.heap.size w w' := h ▸ areBytes_any l A B c w hr hB hn
def sumR (l : List Int) : Int := if bytesB l then crc l else 0
def sumC (l : List Int) : Int := if bytesB l then 0 else 2
theorem sum_spec (l : List Int) (A : Option Addr) (B c : Nat) (w : World) (hr : Rd w B A (ints l)) (hB : B ≤ w.heap.size) (hn : l.length ≤ 1048576) :
   Calls Try.prog 12 #[.slice A l.length c] w fun e w' => e = .returned (.tuple #[.int .i64 (sumR l), .int .i64 (sumC l)]) ∧ Below w.heap.size w w' := by
  cases h : bytesB l with
  | false =>
    rw [show sumR l = 0 by simp [sumR, h], show sumC l = 2 by simp [sumC, h]]
    have H := Lib.hid h
    clear h
    go_enter Try.func12, Try.ntmps12
    go_wp2_with (go_at_call 49; refine (l32Bytes_r l A B c false H.out w hr hn).mono ?_; rintro e w' ⟨rfl, rfl⟩)
    go_ret2
    exact ⟨rfl, Below.refl _ _⟩
  | true =>
    rw [show sumR l = crc l by simp [sumR, h], show sumC l = 0 by simp [sumC, h]]
    have H := Lib.hid h
    clear h
    go_enter Try.func12, Try.ntmps12
    go_wp2_with (first | (go_at_call 49; refine (l32Bytes_r l A B c true H.out w hr hn).mono ?_; rintro e w' ⟨rfl, rfl⟩) | (go_at_call 50; refine (l32Check_any l (fun k x hk => bytes_at H.out hk) A B c w hr hn).mono ?_; rintro e w' ⟨rfl, rfl⟩))
    go_ret2
    exact ⟨rfl, Below.refl _ _⟩
theorem sum_impl (l : List Int) (A : Option Addr) (B c : Nat) (w : World) (hr : Rd w B A (ints l)) (hB : B ≤ w.heap.size) (hn : l.length ≤ 1048576) :
   Calls Try.prog 14 #[.slice A l.length c] w fun e w' => e = .returned (.tuple #[.int .i64 (sumR l), .int .i64 (sumC l)]) ∧ Below w.heap.size w w' := by
  cases h : bytesB l with
  | false =>
    rw [show sumR l = 0 by simp [sumR, h], show sumC l = 2 by simp [sumC, h]]
    have H := Lib.hid h
    clear h
    go_enter Try.func14, Try.ntmps14
    go_wp2_with (go_at_call 51; refine (areBytes_r l A B c false H.out w hr hB hn).mono ?_; rintro e w1 ⟨rfl, hb⟩)
    go_ret2
    exact ⟨rfl, hb⟩
  | true =>
    rw [show sumR l = crc l by simp [sumR, h], show sumC l = 0 by simp [sumC, h]]
    have H := Lib.hid h
    clear h
    go_enter Try.func14, Try.ntmps14
    go_wp2_with fail
    refine (areBytes_r l A B c true H.out w hr hB hn).mono ?_; rintro e w1 ⟨rfl, hb⟩
    have hr1 := hr.below hb hB
    go_wp2_with (go_at_call 52; refine (checksum_any l (fun k x hk => bytes_at H.out hk) A B c w1 hr1 hn).mono ?_; rintro e w' ⟨rfl, rfl⟩)
    go_ret2
    exact ⟨rfl, hb⟩
end Go.Proofs.Ytjohpakfaommgaa
