/- Lists of records: whether all are valid. -/
import Derived.Test.YtjohpakfaommgaaEr0
import Derived.Test.YtjohpakfaommgaaP
namespace Go.Proofs.Ytjohpakfaommgaa
open Go.ChangeShapes Go.WideShapes Go.ChangeAt Go.RowKit
set_option linter.unusedVariables false
set_option linter.unusedSimpArgs false
theorem jour1_any (t k v : Int) (w : World) : Calls Try.prog 64 #[.agg #[.int .i64 t, .int .i64 k, .int .i64 v]] w fun e w' => e = .returned (.bool (!recB t k v)) ∧ Below w.heap.size w w' := by
  cases h : recB t k v with
  | false =>
    have H := Lib.hid h
    clear h
    go_enter Try.func64, Try.ntmps64
    go_wp2_with (go_at_call 41; refine (isER_impl_r _ _ _ false H.out _).mono ?_; rintro e w1 ⟨rfl, hb⟩)
    go_ret
    exact ⟨rfl, by repeat' (first | (with_reducible exact Below.refl _ _) | (with_reducible assumption) | (with_reducible refine Below.alloc ?_ ?_ _) | (with_reducible refine Below.drew ?_) | (with_reducible refine below_drewN ?_ _) | (with_reducible refine Below.setCell ?_ ?_ _) | (with_reducible refine Below.trans ?_ (Below.mono (by assumption) ?_)) | go_size | (exact Below.size (by assumption)))⟩
  | true =>
    have H := Lib.hid h
    clear h
    go_enter Try.func64, Try.ntmps64
    go_wp2_with (go_at_call 41; refine (isER_impl_r _ _ _ true H.out _).mono ?_; rintro e w1 ⟨rfl, hb⟩)
    go_ret
    exact ⟨rfl, by repeat' (first | (with_reducible exact Below.refl _ _) | (with_reducible assumption) | (with_reducible refine Below.alloc ?_ ?_ _) | (with_reducible refine Below.drew ?_) | (with_reducible refine below_drewN ?_ _) | (with_reducible refine Below.setCell ?_ ?_ _) | (with_reducible refine Below.trans ?_ (Below.mono (by assumption) ?_)) | go_size | (exact Below.size (by assumption)))⟩
theorem idxRec1 (l : List (Int × Int × Int)) (A : Option Addr) (B c : Nat)  (w : World) (hr : Rd w B A (l.flatMap eEventRecord)) (hB : B ≤ w.heap.size) (hn : l.length ≤ 1048576)  :
   Calls Try.prog 87 #[.slice A l.length c, .func (Fn.func 64) #[] #[]] w fun e w' => e = .returned (.int .i64 (idxB (fun t => !recB t.1 t.2.1 t.2.2) l)) ∧ Below w.heap.size w w' := by
  go_enter Try.func87, Try.ntmps87
  go_wp2_with fail
  go_loopw [8] (fun i wr => ∃ k : Nat, k ≤ l.length ∧ i = .int .i64 k ∧ (l.take k).any (fun t => !recB t.1 t.2.1 t.2.2) = false ∧ Below w.heap.size w wr) (fun i _ => l.length - (intOf i).toNat)
  case atStart => exact ⟨0, Nat.zero_le _, rfl, by simp, Below.refl _ _⟩
  case round =>
    obtain ⟨k, hk, rfl, hall, hbw⟩ := hrel
    by_cases hlt : k < l.length
    · have ht := List.getElem?_eq_getElem hlt
      generalize l[k] = t at ht
      have hsz := hbw.size
      have hr' := hr.below hbw hB
      obtain ⟨b, o, rfl, _, c0, c1, c2⟩ := hr'.atEventRecord ht
      have Ht := Lib.hid ht
      have Ha := Lib.hid hall
      have Hr := Lib.hid hr
      have Hr' := Lib.hid hr'
      clear ht hall hr hr'
      go_wp2_with (go_at_call 64; refine (jour1_any _ _ _ _).mono ?_; rintro e w1 ⟨rfl, hb⟩)
      · go_ret
        exact ⟨ret_int (by rw [idxB_here _ _ Ht.out Ha.out (by simp_all)]), by repeat' (first | (with_reducible exact Below.refl _ _) | (with_reducible assumption) | (with_reducible refine Below.alloc ?_ ?_ _) | (with_reducible refine Below.drew ?_) | (with_reducible refine below_drewN ?_ _) | (with_reducible refine Below.setCell ?_ ?_ _) | (with_reducible refine Below.trans ?_ (Below.mono (by assumption) ?_)) | go_size | (exact Below.size (by assumption)))⟩
      · go_roundw
        case rel => exact ⟨k + 1, by omega, by go_num, by rw [any_step _ _ Ht.out, Ha.out]; simp_all, by repeat' (first | (with_reducible exact Below.refl _ _) | (with_reducible assumption) | (with_reducible refine Below.alloc ?_ ?_ _) | (with_reducible refine Below.drew ?_) | (with_reducible refine below_drewN ?_ _) | (with_reducible refine Below.setCell ?_ ?_ _) | (with_reducible refine Below.trans ?_ (Below.mono (by assumption) ?_)) | go_size | (exact Below.size (by assumption)))⟩
        case measure => simp [intOf]; omega
    · have hk' : k = l.length := by omega
      subst hk'
      rw [List.take_length] at hall
      have Ha := Lib.hid hall
      clear hall
      go_wp2
      go_ret
      exact ⟨ret_int (by rw [idxB_none _ _ Ha.out]), by repeat' (first | (with_reducible exact Below.refl _ _) | (with_reducible assumption) | (with_reducible refine Below.alloc ?_ ?_ _) | (with_reducible refine Below.drew ?_) | (with_reducible refine below_drewN ?_ _) | (with_reducible refine Below.setCell ?_ ?_ _) | (with_reducible refine Below.trans ?_ (Below.mono (by assumption) ?_)) | go_size | (exact Below.size (by assumption)))⟩
theorem conRec1 (l : List (Int × Int × Int)) (A : Option Addr) (B c : Nat)  (w : World) (hr : Rd w B A (l.flatMap eEventRecord)) (hB : B ≤ w.heap.size) (hn : l.length ≤ 1048576)  :
   Calls Try.prog 63 #[.slice A l.length c, .func (Fn.func 64) #[] #[]] w fun e w' => e = .returned (.bool (l.any (fun t => !recB t.1 t.2.1 t.2.2))) ∧ Below w.heap.size w w' := by
  go_enter Try.func63, Try.ntmps63
  go_wp2_with (go_at_call 87; refine (idxRec1 l A B c  w hr hB hn ).mono ?_; rintro e w1 ⟨rfl, hb⟩)
  go_ret
  exact ⟨ret_bool (idxB_any _ _), by repeat' (first | (with_reducible exact Below.refl _ _) | (with_reducible assumption) | (with_reducible refine Below.alloc ?_ ?_ _) | (with_reducible refine Below.drew ?_) | (with_reducible refine below_drewN ?_ _) | (with_reducible refine Below.setCell ?_ ?_ _) | (with_reducible refine Below.trans ?_ (Below.mono (by assumption) ?_)) | go_size | (exact Below.size (by assumption)))⟩
end Go.Proofs.Ytjohpakfaommgaa
