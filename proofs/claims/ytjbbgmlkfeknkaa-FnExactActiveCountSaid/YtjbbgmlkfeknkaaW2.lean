/- Contracts of the functions on pairs of controllers. -/
import Derived.Test.YtjbbgmlkfeknkaaRows
import Derived.Test.YtjbbgmlkfeknkaaBase
namespace Go.Proofs.Ytjbbgmlkfeknkaa
open Go.ChangeShapes Go.WideShapes Go.ChangeAt Go.RowKit
set_option linter.unusedVariables false
set_option linter.unusedSimpArgs false
theorem l01In_any (n lo hi : Int) (w : World) : Calls Try.prog 19 #[.int .i64 n, .int .i64 lo, .int .i64 hi] w fun e w' => e = .returned (.bool (inB n lo hi)) ∧ w = w' := by
  unfold inB
  go_enter Try.func19, Try.ntmps19
  go_wp2
  · go_ret
    have h : lo ≤ n := by assumption
    exact ⟨by simp [h], rfl⟩
  · go_ret
    have h : ¬ lo ≤ n := by omega
    exact ⟨by simp [h], rfl⟩
theorem within_any (n lo hi : Int) (w : World) : Calls Try.prog 20 #[.int .i64 n, .int .i64 lo, .int .i64 hi] w fun e w' => e = .returned (.bool (inB n lo hi)) ∧ w = w' := by
  unfold inB
  go_enter Try.func20, Try.ntmps20
  go_wp2
  · go_ret
    have h : lo ≤ n := by assumption
    exact ⟨by simp [h], rfl⟩
  · go_ret
    have h : ¬ lo ≤ n := by omega
    exact ⟨by simp [h], rfl⟩
def ctlB (r t : Int) : Bool := inB r 0 2 && inB t 0 6 && (!(r == 2) || (t == 0))
theorem isUp_any (r t : Int) (w : World) : Calls Try.prog 26 #[.agg #[.int .i64 r, .int .i64 t]] w fun e w' => e = .returned (.bool (!(r == 2))) ∧ Below w.heap.size w w' := by
  go_enter Try.func26, Try.ntmps26
  go_wp2
  all_goals go_ret
  all_goals exact ⟨by first | rfl | (simp [*]; done) | (simp_all []; done) | (simp_all []; omega) | (simp_all []; intros; exfalso; omega), by repeat' (first | (with_reducible exact Below.refl _ _) | (with_reducible assumption) | (with_reducible refine Below.alloc ?_ ?_ _) | (with_reducible refine Below.drew ?_) | (with_reducible refine below_drewN ?_ _) | (with_reducible refine Below.setCell ?_ ?_ _) | (with_reducible refine Below.trans ?_ (Below.mono (by assumption) ?_)) | go_size)⟩
theorem l31Is_any (r t : Int) (w : World) : Calls Try.prog 21 #[.agg #[.int .i64 r, .int .i64 t]] w fun e w' => e = .returned (.bool (ctlB r t)) ∧ Below w.heap.size w w' := by
  go_enter Try.func21, Try.ntmps21
  go_wp2_with (first
    | (go_at_call 19; refine (l01In_any _ _ _ _).mono ?_; rintro e w' ⟨rfl, rfl⟩))
  all_goals go_ret
  all_goals exact ⟨by first | rfl | (simp [ctlB, *]; done) | (simp_all [ctlB]; done) | (simp_all [ctlB]; omega) | (simp_all [ctlB]; intros; exfalso; omega), by repeat' (first | (with_reducible exact Below.refl _ _) | (with_reducible assumption) | (with_reducible refine Below.alloc ?_ ?_ _) | (with_reducible refine Below.drew ?_) | (with_reducible refine below_drewN ?_ _) | (with_reducible refine Below.setCell ?_ ?_ _) | (with_reducible refine Below.trans ?_ (Below.mono (by assumption) ?_)) | go_size)⟩
theorem isController_any (r t : Int) (w : World) : Calls Try.prog 23 #[.agg #[.int .i64 r, .int .i64 t]] w fun e w' => e = .returned (.bool (ctlB r t)) ∧ Below w.heap.size w w' := by
  go_enter Try.func23, Try.ntmps23
  go_wp2_with (first
    | (go_at_call 20; refine (within_any _ _ _ _).mono ?_; rintro e w' ⟨rfl, rfl⟩)
    | (go_at_call 26; refine (isUp_any _ _ _).mono ?_; rintro e w1 ⟨rfl, hb⟩; obtain ⟨hc, hf, hz⟩ := bstep (N := w.heap.size + 1) (by go_size) hb))
  all_goals go_ret
  all_goals exact ⟨by first | rfl | (simp [ctlB, *]; done) | (simp_all [ctlB]; done) | (simp_all [ctlB]; omega) | (simp_all [ctlB]; intros; exfalso; omega), by repeat' (first | (with_reducible exact Below.refl _ _) | (with_reducible assumption) | (with_reducible refine Below.alloc ?_ ?_ _) | (with_reducible refine Below.drew ?_) | (with_reducible refine below_drewN ?_ _) | (with_reducible refine Below.setCell ?_ ?_ _) | (with_reducible refine Below.trans ?_ (Below.mono (by assumption) ?_)) | go_size)⟩
theorem isPair_spec (a b c d : Int) (w : World) : Calls Try.prog 10 #[.agg #[.int .i64 a, .int .i64 b, .int .i64 c, .int .i64 d]] w fun e w' => e = .returned (.bool (ctlB a b && ctlB c d)) ∧ Below w.heap.size w w' := by
  go_enter Try.func10, Try.ntmps10
  go_wp2_with (first
    | (go_at_call 21; refine (l31Is_any _ _ _).mono ?_; rintro e w1 ⟨rfl, hb⟩; obtain ⟨hc, hf, hz⟩ := bstep (N := w.heap.size + 1) (by go_size) hb))
  all_goals go_ret
  all_goals exact ⟨by first | rfl | (simp [*]; done) | (simp_all []; done) | (simp_all []; omega) | (simp_all []; intros; exfalso; omega), by repeat' (first | (with_reducible exact Below.refl _ _) | (with_reducible assumption) | (with_reducible refine Below.alloc ?_ ?_ _) | (with_reducible refine Below.drew ?_) | (with_reducible refine below_drewN ?_ _) | (with_reducible refine Below.setCell ?_ ?_ _) | (with_reducible refine Below.trans ?_ (Below.mono (by assumption) ?_)) | go_size)⟩
theorem isPair_impl (a b c d : Int) (w : World) : Calls Try.prog 12 #[.agg #[.int .i64 a, .int .i64 b, .int .i64 c, .int .i64 d]] w fun e w' => e = .returned (.bool (ctlB a b && ctlB c d)) ∧ Below w.heap.size w w' := by
  go_enter Try.func12, Try.ntmps12
  go_wp2_with (first
    | (go_at_call 23; refine (isController_any _ _ _).mono ?_; rintro e w1 ⟨rfl, hb⟩; obtain ⟨hc, hf, hz⟩ := bstep (N := w.heap.size + 1) (by go_size) hb))
  all_goals go_ret
  all_goals exact ⟨by first | rfl | (simp [*]; done) | (simp_all []; done) | (simp_all []; omega) | (simp_all []; intros; exfalso; omega), by repeat' (first | (with_reducible exact Below.refl _ _) | (with_reducible assumption) | (with_reducible refine Below.alloc ?_ ?_ _) | (with_reducible refine Below.drew ?_) | (with_reducible refine below_drewN ?_ _) | (with_reducible refine Below.setCell ?_ ?_ _) | (with_reducible refine Below.trans ?_ (Below.mono (by assumption) ?_)) | go_size)⟩
theorem toController_any (r t : Int) (w : World) : Calls Try.prog 22 #[.agg #[.int .i64 r, .int .i64 t]] w fun e w' => e = .returned (.agg #[.int .i64 r, .int .i64 t]) ∧ Below w.heap.size w w' := by
  go_enter Try.func22, Try.ntmps22
  go_wp2
  all_goals go_returns
  all_goals exact ⟨by first | rfl | (simp [*]; done) | (simp_all []; done) | (simp_all []; omega) | (simp_all []; intros; exfalso; omega), by repeat' (first | (with_reducible exact Below.refl _ _) | (with_reducible assumption) | (with_reducible refine Below.alloc ?_ ?_ _) | (with_reducible refine Below.drew ?_) | (with_reducible refine below_drewN ?_ _) | (with_reducible refine Below.setCell ?_ ?_ _) | (with_reducible refine Below.trans ?_ (Below.mono (by assumption) ?_)) | go_size)⟩
theorem toPair_any (a b c d : Int) (w : World) : Calls Try.prog 11 #[.agg #[.int .i64 a, .int .i64 b, .int .i64 c, .int .i64 d]] w fun e w' => e = .returned (.agg #[.int .i64 a, .int .i64 b, .int .i64 c, .int .i64 d]) ∧ Below w.heap.size w w' := by
  go_enter Try.func11, Try.ntmps11
  go_wp2_with (first
    | (go_at_call 22; refine (toController_any _ _ _).mono ?_; rintro e w1 ⟨rfl, hb⟩; obtain ⟨hc, hf, hz⟩ := bstep (N := w.heap.size + 3) (by go_size) hb))
  all_goals refine bodyPost_ret (v := .agg #[.int .i64 a, .int .i64 b, .int .i64 c, .int .i64 d]) (by simp [results, Try.results11, go_sem, *]) rfl ?_
  all_goals exact ⟨by first | rfl | (simp [*]; done) | (simp_all []; done) | (simp_all []; omega) | (simp_all []; intros; exfalso; omega), by repeat' (first | (with_reducible exact Below.refl _ _) | (with_reducible assumption) | (with_reducible refine Below.alloc ?_ ?_ _) | (with_reducible refine Below.drew ?_) | (with_reducible refine below_drewN ?_ _) | (with_reducible refine Below.setCell ?_ ?_ _) | (with_reducible refine Below.trans ?_ (Below.mono (by assumption) ?_)) | go_size)⟩
def evB (k n : Int) (x y : Bool) : Bool := if k == 0 then n == 0 else inB k 1 2 && inB n 0 1 && !x && !y
theorem isPairEvent_spec (k n : Int) (x y : Bool) (w : World) : Calls Try.prog 13 #[.agg #[.int .i64 k, .int .i64 n, .bool x, .bool y]] w fun e w' => e = .returned (.bool (evB k n x y)) ∧ Below w.heap.size w w' := by
  go_enter Try.func13, Try.ntmps13
  go_wp2_with (first
    | (go_at_call 19; refine (l01In_any _ _ _ _).mono ?_; rintro e w' ⟨rfl, rfl⟩))
  all_goals go_ret
  all_goals exact ⟨by first | rfl | (simp [evB, inB, *]; done) | (simp_all [evB, inB]; done) | (simp_all [evB, inB]; omega) | (simp_all [evB, inB]; intros; exfalso; omega), by repeat' (first | (with_reducible exact Below.refl _ _) | (with_reducible assumption) | (with_reducible refine Below.alloc ?_ ?_ _) | (with_reducible refine Below.drew ?_) | (with_reducible refine below_drewN ?_ _) | (with_reducible refine Below.setCell ?_ ?_ _) | (with_reducible refine Below.trans ?_ (Below.mono (by assumption) ?_)) | go_size)⟩
theorem isPairEvent_impl (k n : Int) (x y : Bool) (w : World) : Calls Try.prog 15 #[.agg #[.int .i64 k, .int .i64 n, .bool x, .bool y]] w fun e w' => e = .returned (.bool (evB k n x y)) ∧ Below w.heap.size w w' := by
  go_enter Try.func15, Try.ntmps15
  go_wp2_with (first
    | (go_at_call 20; refine (within_any _ _ _ _).mono ?_; rintro e w' ⟨rfl, rfl⟩))
  all_goals go_ret
  all_goals exact ⟨by first | rfl | (simp [evB, *]; done) | (simp_all [evB]; done) | (simp_all [evB]; omega) | (simp_all [evB]; intros; exfalso; omega), by repeat' (first | (with_reducible exact Below.refl _ _) | (with_reducible assumption) | (with_reducible refine Below.alloc ?_ ?_ _) | (with_reducible refine Below.drew ?_) | (with_reducible refine below_drewN ?_ _) | (with_reducible refine Below.setCell ?_ ?_ _) | (with_reducible refine Below.trans ?_ (Below.mono (by assumption) ?_)) | go_size)⟩
theorem toPairEvent_any (k n : Int) (x y : Bool) (w : World) : Calls Try.prog 14 #[.agg #[.int .i64 k, .int .i64 n, .bool x, .bool y]] w fun e w' => e = .returned (.agg #[.int .i64 k, .int .i64 n, .bool x, .bool y]) ∧ Below w.heap.size w w' := by
  go_enter Try.func14, Try.ntmps14
  go_wp2
  all_goals go_returns
  all_goals exact ⟨by first | rfl | (simp [*]; done) | (simp_all []; done) | (simp_all []; omega) | (simp_all []; intros; exfalso; omega), by repeat' (first | (with_reducible exact Below.refl _ _) | (with_reducible assumption) | (with_reducible refine Below.alloc ?_ ?_ _) | (with_reducible refine Below.drew ?_) | (with_reducible refine below_drewN ?_ _) | (with_reducible refine Below.setCell ?_ ?_ _) | (with_reducible refine Below.trans ?_ (Below.mono (by assumption) ?_)) | go_size)⟩
def actN (a c : Int) : Int := (if a == 1 then 1 else 0) + (if c == 1 then 1 else 0)
theorem truth_any (b : Bool) (w : World) : Calls Try.prog 27 #[.bool b] w fun e w' => e = .returned (.int .i64 (if b then 1 else 0)) ∧ w = w' := by
  go_enter Try.func27, Try.ntmps27
  go_wp2
  all_goals go_ret
  all_goals exact ⟨by first | rfl | (simp [*]; done) | (simp_all []; done) | (simp_all []; omega) | (simp_all []; intros; exfalso; omega), rfl⟩
theorem l31Active_any (a b c d : Int) (w : World) : Calls Try.prog 24 #[.agg #[.int .i64 a, .int .i64 b, .int .i64 c, .int .i64 d]] w fun e w' => e = .returned (.int .i64 (actN a c)) ∧ Below w.heap.size w w' := by
  go_enter Try.func24, Try.ntmps24
  go_wp2
  all_goals go_ret
  all_goals exact ⟨by first | rfl | (simp [actN, *]; done) | (simp_all [actN]; done) | (simp_all [actN]; omega) | (simp_all [actN]; intros; exfalso; omega), by repeat' (first | (with_reducible exact Below.refl _ _) | (with_reducible assumption) | (with_reducible refine Below.alloc ?_ ?_ _) | (with_reducible refine Below.drew ?_) | (with_reducible refine below_drewN ?_ _) | (with_reducible refine Below.setCell ?_ ?_ _) | (with_reducible refine Below.trans ?_ (Below.mono (by assumption) ?_)) | go_size)⟩
theorem truth_i (b : Bool) (i : Int) (h : (if b then 1 else 0) = i) (w : World) : Calls Try.prog 27 #[.bool b] w fun e w' => e = .returned (.int .i64 i) ∧ w = w' := by
  subst h; exact truth_any b w
theorem active_any (a b c d : Int) (w : World) : Calls Try.prog 25 #[.agg #[.int .i64 a, .int .i64 b, .int .i64 c, .int .i64 d]] w fun e w' => e = .returned (.int .i64 (actN a c)) ∧ Below w.heap.size w w' := by
  unfold actN
  go_enter Try.func25, Try.ntmps25
  go_wp2
  go_quiet ((go_at_call 27; exact Calls.quiet_of_same ((truth_any _ _).mono (fun _ _ h => ⟨h.1, h.2.symm⟩))))
  go_wp2
  all_goals go_ret
  all_goals exact ⟨by first | rfl | (simp [*]; done) | (simp_all; done), by repeat' (first | (with_reducible exact Below.refl _ _) | (with_reducible assumption) | (with_reducible refine Below.alloc ?_ ?_ _) | (with_reducible refine Below.drew ?_) | (with_reducible refine below_drewN ?_ _) | (with_reducible refine Below.setCell ?_ ?_ _) | (with_reducible refine Below.trans ?_ (Below.mono (by assumption) ?_)) | go_size)⟩
theorem activeCount_spec (a b c d : Int) (w : World) : Calls Try.prog 16 #[.agg #[.int .i64 a, .int .i64 b, .int .i64 c, .int .i64 d]] w fun e w' => e = .returned (.tuple #[.int .i64 (if ctlB a b && ctlB c d then actN a c else 0), .int .i64 (if ctlB a b && ctlB c d then 0 else 1)]) ∧ Below w.heap.size w w' := by
  go_enter Try.func16, Try.ntmps16
  go_wp2_with (first
    | (go_at_call 10; refine (isPair_spec _ _ _ _ _).mono ?_; rintro e w1 ⟨rfl, hb⟩; obtain ⟨hc, hf, hz⟩ := bstep (N := w.heap.size + 1) (by go_size) hb)
    | (go_at_call 24; refine (l31Active_any _ _ _ _ _).mono ?_; rintro e w1 ⟨rfl, hb⟩; obtain ⟨hc, hf, hz⟩ := bstep (N := w.heap.size + 1) (by go_size) hb))
  all_goals go_ret2
  all_goals exact ⟨by first | rfl | (simp [*]; done) | (simp_all []; done) | (simp_all []; omega) | (simp_all []; intros; exfalso; omega), by repeat' (first | (with_reducible exact Below.refl _ _) | (with_reducible assumption) | (with_reducible refine Below.alloc ?_ ?_ _) | (with_reducible refine Below.drew ?_) | (with_reducible refine below_drewN ?_ _) | (with_reducible refine Below.setCell ?_ ?_ _) | (with_reducible refine Below.trans ?_ (Below.mono (by assumption) ?_)) | go_size)⟩
theorem activeCount_impl (a b c d : Int) (w : World) : Calls Try.prog 17 #[.agg #[.int .i64 a, .int .i64 b, .int .i64 c, .int .i64 d]] w fun e w' => e = .returned (.tuple #[.int .i64 (if ctlB a b && ctlB c d then actN a c else 0), .int .i64 (if ctlB a b && ctlB c d then 0 else 1)]) ∧ Below w.heap.size w w' := by
  go_enter Try.func17, Try.ntmps17
  go_wp2_with (first
    | (go_at_call 12; refine (isPair_impl _ _ _ _ _).mono ?_; rintro e w1 ⟨rfl, hb⟩; obtain ⟨hc, hf, hz⟩ := bstep (N := w.heap.size + 1) (by go_size) hb)
    | (go_at_call 25; refine (active_any _ _ _ _ _).mono ?_; rintro e w1 ⟨rfl, hb⟩; obtain ⟨hc, hf, hz⟩ := bstep (N := w.heap.size + 1) (by go_size) hb))
  all_goals go_ret2
  all_goals exact ⟨by first | rfl | (simp [*]; done) | (simp_all []; done) | (simp_all []; omega) | (simp_all []; intros; exfalso; omega), by repeat' (first | (with_reducible exact Below.refl _ _) | (with_reducible assumption) | (with_reducible refine Below.alloc ?_ ?_ _) | (with_reducible refine Below.drew ?_) | (with_reducible refine below_drewN ?_ _) | (with_reducible refine Below.setCell ?_ ?_ _) | (with_reducible refine Below.trans ?_ (Below.mono (by assumption) ?_)) | go_size)⟩
end Go.Proofs.Ytjbbgmlkfeknkaa
