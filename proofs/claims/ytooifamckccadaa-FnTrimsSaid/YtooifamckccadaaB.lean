/- Which segments are segments. -/
import Derived.Test.YtooifamckccadaaA
import Derived.BigQuiet
namespace Go.Proofs.Ytooifamckccadaa
open Go.ChangeShapes Go.WideShapes Go.ChangeAt Go.RowKit
set_option linter.unusedVariables false
set_option linter.unusedSimpArgs false
set_option maxRecDepth 20000
theorem isWithinK_any (lo hi a b : Int) (h : ivB a b = true) (w : World) : Calls Try.prog 152 #[.agg #[.int .i64 lo, .int .i64 hi], .agg #[.int .i64 a, .int .i64 b]] w fun e w' => e = .returned (.bool (witB lo hi a b)) ∧ Below w.heap.size w w' := by
  have := isWithin_impl lo hi a b w
  rw [h, Bool.and_true, ← Bool.and_assoc] at this
  exact this
theorem iv020 : ivB 0 20000 = true := by decide
theorem iv120 : ivB 1 20000 = true := by decide
attribute [local irreducible] inB ivB witB
theorem quiet_add_left {P : Program} {f : FuncId} {args : Array Value} {w : World} {a n : Nat} {v : Value}
    (h : Calls P f args (w.drewN (a + n)) fun e w' => e = .returned v ∧ w.drewN (a + n) = w') :
    Calls P f args (w.drewN (a + n)) fun e w'' => e = .returned v ∧ ∃ m, w'' = w.drewN (a + m) :=
  h.mono fun _ _ ⟨he, hm⟩ => ⟨he, n, hm.symm⟩
def segB (k len rise rl rh fl fh : Int) : Bool := inB k 0 4 && inB len 1 200000 && inB rise (-100000) 100000 && inB rise (-len) len && witB rl rh 0 20000 && (if k = 0 then (decide (fl = 0) && decide (fh = 0)) else witB fl fh 1 20000)
def absI (n : Int) : Int := if n < -n then -n else n
theorem abs_any (n : Int) (h1 : -1000000 ≤ n) (h2 : n ≤ 1000000) (w : World) : Calls Try.prog 153 #[.int .i64 n] w fun e w' => e = .returned (.int .i64 (absI n)) ∧ w = w' := by
  go_enter Try.func153, Try.ntmps153
  go_wp2
  all_goals go_ret
  all_goals exact ⟨by first | rfl | (simp [absI, *]; done) | (simp_all [absI]; done) | (simp_all [absI]; omega) | (simp_all [absI]; intros; exfalso; omega), rfl⟩
theorem isSegment_impl (k len rise rl rh fl fh : Int) (w : World) : Calls Try.prog 89 #[.agg #[.int .i64 k, .int .i64 len, .int .i64 rise, .int .i64 rl, .int .i64 rh, .int .i64 fl, .int .i64 fh]] w fun e w' => e = .returned (.bool (segB k len rise rl rh fl fh)) ∧ Below w.heap.size w w' := by
  cases h1 : inB k 0 4 with
  | false =>
    have H1 := Lib.hid h1
    clear h1
    go_enter Try.func89, Try.ntmps89
    go_wp2_with (first | (go_at_call 109; with_reducible refine (within_r _ _ _ false H1.out _).mono ?_; rintro e w' ⟨rfl, rfl⟩))
    go_ret
    exact ⟨ret_bool (by simp [segB, H1.out]), by repeat' (first | (with_reducible exact Below.refl _ _) | (with_reducible assumption) | (with_reducible refine Below.alloc ?_ ?_ _) | (with_reducible refine Below.drew ?_) | (with_reducible refine below_drewN ?_ _) | (with_reducible refine Below.setCell ?_ ?_ _) | (with_reducible refine Below.trans ?_ (Below.mono (by assumption) ?_)) | go_size | (exact Below.size (by assumption)))⟩
  | true =>
    have H1 := Lib.hid h1
    clear h1
    cases h2 : inB len 1 200000 with
    | false =>
      have H2 := Lib.hid h2
      clear h2
      go_enter Try.func89, Try.ntmps89
      go_wp2_with (first | (go_at_call 109; with_reducible refine (within_r _ _ _ true H1.out _).mono ?_; rintro e w' ⟨rfl, rfl⟩) | (go_at_call 109; with_reducible refine (within_r _ _ _ false H2.out _).mono ?_; rintro e w' ⟨rfl, rfl⟩))
      go_ret
      exact ⟨ret_bool (by simp [segB, H1.out, H2.out]), by repeat' (first | (with_reducible exact Below.refl _ _) | (with_reducible assumption) | (with_reducible refine Below.alloc ?_ ?_ _) | (with_reducible refine Below.drew ?_) | (with_reducible refine below_drewN ?_ _) | (with_reducible refine Below.setCell ?_ ?_ _) | (with_reducible refine Below.trans ?_ (Below.mono (by assumption) ?_)) | go_size | (exact Below.size (by assumption)))⟩
    | true =>
      have e1 : IntKind.i64.wrap (-len) = -len := IntWalk.i64_in _ (by simp only [inB, Bool.and_eq_true, decide_eq_true_eq] at h2; omega)
      have H2 := Lib.hid h2
      clear h2
      cases h3 : inB rise (-100000) 100000 with
      | false =>
        have H3 := Lib.hid h3
        clear h3
        go_enter Try.func89, Try.ntmps89
        go_wp2_with (first | (go_at_call 109; with_reducible refine (within_r _ _ _ true H1.out _).mono ?_; rintro e w' ⟨rfl, rfl⟩) | (go_at_call 109; with_reducible refine (within_r _ _ _ true H2.out _).mono ?_; rintro e w' ⟨rfl, rfl⟩) | (go_at_call 109; with_reducible refine (within_r _ _ _ false H3.out _).mono ?_; rintro e w' ⟨rfl, rfl⟩))
        go_ret
        exact ⟨ret_bool (by simp [segB, H1.out, H2.out, H3.out]), by repeat' (first | (with_reducible exact Below.refl _ _) | (with_reducible assumption) | (with_reducible refine Below.alloc ?_ ?_ _) | (with_reducible refine Below.drew ?_) | (with_reducible refine below_drewN ?_ _) | (with_reducible refine Below.setCell ?_ ?_ _) | (with_reducible refine Below.trans ?_ (Below.mono (by assumption) ?_)) | go_size | (exact Below.size (by assumption)))⟩
      | true =>
        have H3 := Lib.hid h3
        clear h3
        cases h4 : inB rise (-len) len with
        | false =>
          have H4 := Lib.hid h4
          clear h4
          go_enter Try.func89, Try.ntmps89
          go_wp2_with (first | (go_at_call 109; with_reducible refine (within_r _ _ _ true H1.out _).mono ?_; rintro e w' ⟨rfl, rfl⟩) | (go_at_call 109; with_reducible refine (within_r _ _ _ true H2.out _).mono ?_; rintro e w' ⟨rfl, rfl⟩) | (go_at_call 109; with_reducible refine (within_r _ _ _ true H3.out _).mono ?_; rintro e w' ⟨rfl, rfl⟩) | (go_at_call 109; with_reducible refine (within_r _ _ _ false H4.out _).mono ?_; rintro e w' ⟨rfl, rfl⟩))
          go_ret
          exact ⟨ret_bool (by simp [segB, H1.out, H2.out, H3.out, H4.out]), by repeat' (first | (with_reducible exact Below.refl _ _) | (with_reducible assumption) | (with_reducible refine Below.alloc ?_ ?_ _) | (with_reducible refine Below.drew ?_) | (with_reducible refine below_drewN ?_ _) | (with_reducible refine Below.setCell ?_ ?_ _) | (with_reducible refine Below.trans ?_ (Below.mono (by assumption) ?_)) | go_size | (exact Below.size (by assumption)))⟩
        | true =>
          have H4 := Lib.hid h4
          clear h4
          go_enter Try.func89, Try.ntmps89
          go_wp2_with (first | (go_at_call 109; with_reducible refine (within_r _ _ _ true H1.out _).mono ?_; rintro e w' ⟨rfl, rfl⟩) | (go_at_call 109; with_reducible refine (within_r _ _ _ true H2.out _).mono ?_; rintro e w' ⟨rfl, rfl⟩) | (go_at_call 109; with_reducible refine (within_r _ _ _ true H3.out _).mono ?_; rintro e w' ⟨rfl, rfl⟩) | (go_at_call 109; with_reducible refine (within_r _ _ _ true H4.out _).mono ?_; rintro e w' ⟨rfl, rfl⟩) | (go_at_call 152; refine (isWithinK_any _ _ _ _ (by first | exact iv020 | exact iv120) _).mono ?_; rintro e w1 ⟨rfl, hb⟩; obtain ⟨hc, hf, hz⟩ := bstep (N := w.heap.size + 1) (by go_size) hb))
          all_goals go_ret
          all_goals exact ⟨ret_bool (by have q1 := H1.out; have q2 := H2.out; have q3 := H3.out; have q4 := H4.out; unfold segB; simp_all), by repeat' (first | (with_reducible exact Below.refl _ _) | (with_reducible assumption) | (with_reducible refine Below.alloc ?_ ?_ _) | (with_reducible refine Below.drew ?_) | (with_reducible refine below_drewN ?_ _) | (with_reducible refine Below.setCell ?_ ?_ _) | (with_reducible refine Below.trans ?_ (Below.mono (by assumption) ?_)) | go_size | (exact Below.size (by assumption)))⟩
theorem isSegment_spec (k len rise rl rh fl fh : Int) (w : World) : Calls Try.prog 94 #[.agg #[.int .i64 k, .int .i64 len, .int .i64 rise, .int .i64 rl, .int .i64 rh, .int .i64 fl, .int .i64 fh]] w fun e w' => e = .returned (.bool (segB k len rise rl rh fl fh)) ∧ Below w.heap.size w w' := by
  cases h1 : inB k 0 4 with
  | false =>
    have H1 := Lib.hid h1
    clear h1
    go_enter Try.func94, Try.ntmps94
    go_wp2_with fail
    go_quiet ((first | (go_at_call 82; with_reducible exact Calls.quiet_of_same ((l01In_r _ _ _ false H1.out _).mono (fun _ _ h => ⟨h.1, h.2.symm⟩))) | (go_at_call 153; exact Calls.quiet_of_same ((Habs.out _).mono (fun _ _ h => ⟨h.1, h.2.symm⟩)))))
    go_wp2_with (go_at_call 148; refine (l03Within_any _ _ _ _ _).mono ?_; rintro e w1 ⟨rfl, hb⟩; obtain ⟨hc, hf, hz⟩ := bstep (N := w.heap.size + 1) (by go_size) hb)
    go_ret
    exact ⟨ret_bool (by simp [segB, H1.out]), by repeat' (first | (with_reducible exact Below.refl _ _) | (with_reducible assumption) | (with_reducible refine Below.alloc ?_ ?_ _) | (with_reducible refine Below.drew ?_) | (with_reducible refine below_drewN ?_ _) | (with_reducible refine Below.setCell ?_ ?_ _) | (with_reducible refine Below.trans ?_ (Below.mono (by assumption) ?_)) | go_size | (exact Below.size (by assumption)))⟩
  | true =>
    have H1 := Lib.hid h1
    clear h1
    cases h2 : inB len 1 200000 with
    | false =>
      have H2 := Lib.hid h2
      clear h2
      go_enter Try.func94, Try.ntmps94
      go_wp2_with fail
      go_quiet ((first | (go_at_call 82; with_reducible exact Calls.quiet_of_same ((l01In_r _ _ _ true H1.out _).mono (fun _ _ h => ⟨h.1, h.2.symm⟩))) | (go_at_call 82; with_reducible exact Calls.quiet_of_same ((l01In_r _ _ _ false H2.out _).mono (fun _ _ h => ⟨h.1, h.2.symm⟩))) | (go_at_call 153; exact Calls.quiet_of_same ((Habs.out _).mono (fun _ _ h => ⟨h.1, h.2.symm⟩)))))
      go_wp2_with (go_at_call 148; refine (l03Within_any _ _ _ _ _).mono ?_; rintro e w1 ⟨rfl, hb⟩; obtain ⟨hc, hf, hz⟩ := bstep (N := w.heap.size + 1) (by go_size) hb)
      go_ret
      exact ⟨ret_bool (by simp [segB, H1.out, H2.out]), by repeat' (first | (with_reducible exact Below.refl _ _) | (with_reducible assumption) | (with_reducible refine Below.alloc ?_ ?_ _) | (with_reducible refine Below.drew ?_) | (with_reducible refine below_drewN ?_ _) | (with_reducible refine Below.setCell ?_ ?_ _) | (with_reducible refine Below.trans ?_ (Below.mono (by assumption) ?_)) | go_size | (exact Below.size (by assumption)))⟩
    | true =>
      have H2 := Lib.hid h2
      clear h2
      cases h3 : inB rise (-100000) 100000 with
      | false =>
        have H3 := Lib.hid h3
        clear h3
        go_enter Try.func94, Try.ntmps94
        go_wp2_with fail
        go_quiet ((first | (go_at_call 82; with_reducible exact Calls.quiet_of_same ((l01In_r _ _ _ true H1.out _).mono (fun _ _ h => ⟨h.1, h.2.symm⟩))) | (go_at_call 82; with_reducible exact Calls.quiet_of_same ((l01In_r _ _ _ true H2.out _).mono (fun _ _ h => ⟨h.1, h.2.symm⟩))) | (go_at_call 82; with_reducible exact Calls.quiet_of_same ((l01In_r _ _ _ false H3.out _).mono (fun _ _ h => ⟨h.1, h.2.symm⟩))) | (go_at_call 153; exact Calls.quiet_of_same ((Habs.out _).mono (fun _ _ h => ⟨h.1, h.2.symm⟩)))))
        go_wp2_with (go_at_call 148; refine (l03Within_any _ _ _ _ _).mono ?_; rintro e w1 ⟨rfl, hb⟩; obtain ⟨hc, hf, hz⟩ := bstep (N := w.heap.size + 1) (by go_size) hb)
        go_ret
        exact ⟨ret_bool (by simp [segB, H1.out, H2.out, H3.out]), by repeat' (first | (with_reducible exact Below.refl _ _) | (with_reducible assumption) | (with_reducible refine Below.alloc ?_ ?_ _) | (with_reducible refine Below.drew ?_) | (with_reducible refine below_drewN ?_ _) | (with_reducible refine Below.setCell ?_ ?_ _) | (with_reducible refine Below.trans ?_ (Below.mono (by assumption) ?_)) | go_size | (exact Below.size (by assumption)))⟩
      | true =>
        have Habs := Lib.hid (abs_any rise (by simp only [inB, Bool.and_eq_true, decide_eq_true_eq] at h3; omega) (by simp only [inB, Bool.and_eq_true, decide_eq_true_eq] at h3; omega))
        have H3 := Lib.hid h3
        clear h3
        cases h4 : inB rise (-len) len with
        | false =>
          have g4 : decide (len < absI rise) = true := by unfold inB at h4; unfold absI; simp only [Bool.and_eq_false_iff, decide_eq_false_iff_not] at h4; simp only [decide_eq_true_eq]; split <;> omega
          have H4 := Lib.hid h4
          clear h4
          go_enter Try.func94, Try.ntmps94
          go_wp2_with fail
          go_quiet ((first | (go_at_call 82; with_reducible exact Calls.quiet_of_same ((l01In_r _ _ _ true H1.out _).mono (fun _ _ h => ⟨h.1, h.2.symm⟩))) | (go_at_call 82; with_reducible exact Calls.quiet_of_same ((l01In_r _ _ _ true H2.out _).mono (fun _ _ h => ⟨h.1, h.2.symm⟩))) | (go_at_call 82; with_reducible exact Calls.quiet_of_same ((l01In_r _ _ _ true H3.out _).mono (fun _ _ h => ⟨h.1, h.2.symm⟩))) | (go_at_call 153; exact Calls.quiet_of_same ((Habs.out _).mono (fun _ _ h => ⟨h.1, h.2.symm⟩)))))
          go_wp2_with (go_at_call 148; refine (l03Within_any _ _ _ _ _).mono ?_; rintro e w1 ⟨rfl, hb⟩; obtain ⟨hc, hf, hz⟩ := bstep (N := w.heap.size + 1) (by go_size) hb)
          go_ret
          exact ⟨ret_bool (by simp [segB, H1.out, H2.out, H3.out, H4.out]), by repeat' (first | (with_reducible exact Below.refl _ _) | (with_reducible assumption) | (with_reducible refine Below.alloc ?_ ?_ _) | (with_reducible refine Below.drew ?_) | (with_reducible refine below_drewN ?_ _) | (with_reducible refine Below.setCell ?_ ?_ _) | (with_reducible refine Below.trans ?_ (Below.mono (by assumption) ?_)) | go_size | (exact Below.size (by assumption)))⟩
        | true =>
          have H4 := Lib.hid h4
          have g4 : decide (len < absI rise) = false := by unfold inB at h4; unfold absI; simp only [Bool.and_eq_true, decide_eq_true_eq] at h4; simp only [decide_eq_false_iff_not]; split <;> omega
          clear h4
          go_enter Try.func94, Try.ntmps94
          go_wp2_with fail
          go_quiet ((first | (go_at_call 82; with_reducible exact Calls.quiet_of_same ((l01In_r _ _ _ true H1.out _).mono (fun _ _ h => ⟨h.1, h.2.symm⟩))) | (go_at_call 82; with_reducible exact Calls.quiet_of_same ((l01In_r _ _ _ true H2.out _).mono (fun _ _ h => ⟨h.1, h.2.symm⟩))) | (go_at_call 82; with_reducible exact Calls.quiet_of_same ((l01In_r _ _ _ true H3.out _).mono (fun _ _ h => ⟨h.1, h.2.symm⟩))) | (go_at_call 153; exact Calls.quiet_of_same ((Habs.out _).mono (fun _ _ h => ⟨h.1, h.2.symm⟩)))))
          go_wp2_with (go_at_call 148; refine (l03Within_any _ _ _ _ _).mono ?_; rintro e w1 ⟨rfl, hb⟩; obtain ⟨hc, hf, hz⟩ := bstep (N := w.heap.size + 1) (by go_size) hb)
          all_goals go_ret
          all_goals exact ⟨ret_bool (by have q1 := H1.out; have q2 := H2.out; have q3 := H3.out; have q4 := H4.out; unfold segB; simp_all), by repeat' (first | (with_reducible exact Below.refl _ _) | (with_reducible assumption) | (with_reducible refine Below.alloc ?_ ?_ _) | (with_reducible refine Below.drew ?_) | (with_reducible refine below_drewN ?_ _) | (with_reducible refine Below.setCell ?_ ?_ _) | (with_reducible refine Below.trans ?_ (Below.mono (by assumption) ?_)) | go_size | (exact Below.size (by assumption)))⟩
end Go.Proofs.Ytooifamckccadaa
