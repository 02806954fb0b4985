/- Which records are valid. -/
import Derived.Test.YtjohpakfaommgaaA
namespace Go.Proofs.Ytjohpakfaommgaa
open Go.ChangeShapes Go.WideShapes Go.ChangeAt Go.RowKit
set_option linter.unusedVariables false
set_option linter.unusedSimpArgs false
def recB (t k v : Int) : Bool := inB t 0 4294967295 && inB v 0 4294967295 && inB k 0 255
theorem l32Word_any (n : Int) (w : World) : Calls Try.prog 74 #[.int .i64 n] w fun e w' => e = .returned (.bool (inB n 0 4294967295)) ∧ w = w' := by
  go_enter Try.func74, Try.ntmps74
  go_wp2_with (first
    | (go_at_call 75; refine (l01In_any _ _ _ _).mono ?_; rintro e w' ⟨rfl, rfl⟩))
  all_goals go_ret
  all_goals exact ⟨by first | rfl | (simp [*]; done) | (simp_all []; done) | (simp_all []; omega) | (simp_all []; intros; exfalso; omega), rfl⟩
theorem isER_impl (t k v : Int) (w : World) : Calls Try.prog 41 #[.agg #[.int .i64 t, .int .i64 k, .int .i64 v]] w fun e w' => e = .returned (.bool (recB t k v)) ∧ Below w.heap.size w w' := by
  go_enter Try.func41, Try.ntmps41
  go_wp2_with (first
    | (go_at_call 73; refine (within_any _ _ _ _).mono ?_; rintro e w' ⟨rfl, rfl⟩))
  all_goals go_ret
  all_goals exact ⟨by first | rfl | (simp [recB, *]; done) | (simp_all [recB]; done) | (simp_all [recB]; omega) | (simp_all [recB]; intros; exfalso; omega), by repeat' (first | (with_reducible exact Below.refl _ _) | (with_reducible assumption) | (with_reducible refine Below.alloc ?_ ?_ _) | (with_reducible refine Below.drew ?_) | (with_reducible refine below_drewN ?_ _) | (with_reducible refine Below.setCell ?_ ?_ _) | (with_reducible refine Below.trans ?_ (Below.mono (by assumption) ?_)) | go_size | (exact Below.size (by assumption)))⟩
theorem isER_spec (t k v : Int) (w : World) : Calls Try.prog 42 #[.agg #[.int .i64 t, .int .i64 k, .int .i64 v]] w fun e w' => e = .returned (.bool (recB t k v)) ∧ Below w.heap.size w w' := by
  go_enter Try.func42, Try.ntmps42
  go_wp2_with (first
    | (go_at_call 74; refine (l32Word_any _ _).mono ?_; rintro e w' ⟨rfl, rfl⟩)
    | (go_at_call 75; refine (l01In_any _ _ _ _).mono ?_; rintro e w' ⟨rfl, rfl⟩))
  all_goals go_ret
  all_goals exact ⟨by first | rfl | (simp [recB, *]; done) | (simp_all [recB]; done) | (simp_all [recB]; omega) | (simp_all [recB]; intros; exfalso; omega), by repeat' (first | (with_reducible exact Below.refl _ _) | (with_reducible assumption) | (with_reducible refine Below.alloc ?_ ?_ _) | (with_reducible refine Below.drew ?_) | (with_reducible refine below_drewN ?_ _) | (with_reducible refine Below.setCell ?_ ?_ _) | (with_reducible refine Below.trans ?_ (Below.mono (by assumption) ?_)) | go_size | (exact Below.size (by assumption)))⟩
theorem l32Number_any (n : Int) (w : World) : Calls Try.prog 56 #[.int .i64 n] w fun e w' => e = .returned (.bool (inB n 0 99)) ∧ w = w' := by
  go_enter Try.func56, Try.ntmps56
  go_wp2_with (first
    | (go_at_call 75; refine (l01In_any _ _ _ _).mono ?_; rintro e w' ⟨rfl, rfl⟩))
  all_goals go_ret
  all_goals exact ⟨by first | rfl | (simp [*]; done) | (simp_all []; done) | (simp_all []; omega) | (simp_all []; intros; exfalso; omega), rfl⟩
theorem isRecordNumber_any (n : Int) (w : World) : Calls Try.prog 58 #[.int .i64 n] w fun e w' => e = .returned (.bool (inB n 0 99)) ∧ w = w' := by
  go_enter Try.func58, Try.ntmps58
  go_wp2_with (first
    | (go_at_call 73; refine (within_any _ _ _ _).mono ?_; rintro e w' ⟨rfl, rfl⟩))
  all_goals go_ret
  all_goals exact ⟨by first | rfl | (simp [*]; done) | (simp_all []; done) | (simp_all []; omega) | (simp_all []; intros; exfalso; omega), rfl⟩
theorem isER_impl_r (t k v : Int) (r : Bool) (h : recB t k v = r) (w : World) : Calls Try.prog 41 #[.agg #[.int .i64 t, .int .i64 k, .int .i64 v]] w fun e w' => e = .returned (.bool r) ∧ Below w.heap.size w w' := h ▸ isER_impl t k v w
theorem isER_spec_r (t k v : Int) (r : Bool) (h : recB t k v = r) (w : World) : Calls Try.prog 42 #[.agg #[.int .i64 t, .int .i64 k, .int .i64 v]] w fun e w' => e = .returned (.bool r) ∧ Below w.heap.size w w' := h ▸ isER_spec t k v w
theorem l32Number_r (n : Int) (r : Bool) (h : inB n 0 99 = r) (w : World) : Calls Try.prog 56 #[.int .i64 n] w fun e w' => e = .returned (.bool r) ∧ w = w' := h ▸ l32Number_any n w
theorem isRecordNumber_r (n : Int) (r : Bool) (h : inB n 0 99 = r) (w : World) : Calls Try.prog 58 #[.int .i64 n] w fun e w' => e = .returned (.bool r) ∧ w = w' := h ▸ isRecordNumber_any n w
end Go.Proofs.Ytjohpakfaommgaa
