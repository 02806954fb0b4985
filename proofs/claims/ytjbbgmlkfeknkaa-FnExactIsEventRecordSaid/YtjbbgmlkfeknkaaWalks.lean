/- Contracts of small functions. -/
import Derived.Test.YtjbbgmlkfeknkaaRows
import Derived.Test.YtjbbgmlkfeknkaaBase
import Derived.Deep.DeepFit
import Derived.Outline
namespace Go.Proofs.Ytjbbgmlkfeknkaa
open Go.ChangeShapes Go.WideShapes Go.ChangeAt Go.RowKit

theorem within_any (n lo hi : Int) (w : World) : Calls Try.prog 20 #[.int .i64 n, .int .i64 lo, .int .i64 hi] w fun e w' => e = .returned (.bool (inB n lo hi)) ∧ w = w' := by
  by_cases h1 : lo ≤ n
  · by_cases h2 : n ≤ hi
    · have e : inB n lo hi = true := by simp [inB, h1, h2]
      rw [e]; clear e
      go_enter Try.func20, Try.ntmps20
      go_wp2
      go_ret
      exact ⟨rfl, rfl⟩
    · have e : inB n lo hi = false := by simp [inB, h2]
      rw [e]; clear e
      go_enter Try.func20, Try.ntmps20
      go_wp2
      go_ret
      exact ⟨rfl, rfl⟩
  · have e : inB n lo hi = false := by simp [inB, h1]
    rw [e]; clear e
    go_enter Try.func20, Try.ntmps20
    go_wp2
    go_ret
    exact ⟨rfl, rfl⟩
theorem l01In_any (n lo hi : Int) (w : World) : Calls Try.prog 19 #[.int .i64 n, .int .i64 lo, .int .i64 hi] w fun e w' => e = .returned (.bool (inB n lo hi)) ∧ w = w' := by
    unfold inB
    go_enter Try.func19, Try.ntmps19
    go_wp2
    · go_ret
      have h : lo ≤ n := by assumption
      exact ⟨by simp [h], rfl⟩
    · go_ret
      have h : ¬ lo ≤ n := by omega
      exact ⟨by simp [h], rfl⟩

def isERB (t k v : Int) : Bool := inB t 0 4294967295 && inB v 0 4294967295 && inB k 0 255
theorem isER_impl (t k v : Int) (w : World) : Calls Try.prog 9 #[.agg #[.int .i64 t, .int .i64 k, .int .i64 v]] w fun e w' => e = .returned (.bool (isERB t k v)) ∧ Below w.heap.size w w' := by
    go_enter Try.func9, Try.ntmps9
    go_wp2_with (first | (go_at_call 20; refine (within_any _ _ _ _).mono ?_; rintro e w' ⟨rfl, rfl⟩))
    all_goals go_ret
    all_goals exact ⟨by simp [isERB, *], by go_grown⟩

theorem l32Word_any (n : Int) (w : World) : Calls Try.prog 18 #[.int .i64 n] w fun e w' => e = .returned (.bool (inB n 0 4294967295)) ∧ w = w' := by
    go_enter Try.func18, Try.ntmps18
    go_wp2_with (first | (go_at_call 19; refine (l01In_any _ _ _ _).mono ?_; rintro e w' ⟨rfl, rfl⟩))
    all_goals go_ret
    exact ⟨rfl, rfl⟩

theorem isER_spec (t k v : Int) (w : World) : Calls Try.prog 7 #[.agg #[.int .i64 t, .int .i64 k, .int .i64 v]] w fun e w' => e = .returned (.bool (isERB t k v)) ∧ Below w.heap.size w w' := by
    go_enter Try.func7, Try.ntmps7
    go_wp2_with (first | (go_at_call 18; refine (l32Word_any _ _).mono ?_; rintro e w' ⟨rfl, rfl⟩) | (go_at_call 19; refine (l01In_any _ _ _ _).mono ?_; rintro e w' ⟨rfl, rfl⟩))
    all_goals go_ret
    all_goals exact ⟨by simp [isERB, *], by go_grown⟩

theorem toER (t k v : Int) (w : World) : Calls Try.prog 8 #[.agg #[.int .i64 t, .int .i64 k, .int .i64 v]] w fun e w' => e = .returned (.agg #[.int .i64 t, .int .i64 k, .int .i64 v]) ∧ Below w.heap.size w w' := by
    go_enter Try.func8, Try.ntmps8
    go_wp2
    go_returns
    exact ⟨rfl, by go_grown⟩

theorem law3 (t k v : Int) (w : World) : Calls Try.prog 3 #[.agg #[.int .i64 t, .int .i64 k, .int .i64 v]] w fun e w' => e = .returned (.bool true) ∧ Below w.heap.size w w' := by
    go_enter Try.func3, Try.ntmps3
    go_wp2_with (first
      | (go_at_call 8; refine (toER _ _ _ _).mono ?_; rintro e w1 ⟨rfl, hb⟩; obtain ⟨hc, hf, hz⟩ := bstep (N := w.heap.size + 1) (by go_size) hb)
      | (go_at_call 7; refine (isER_spec _ _ _ _).mono ?_; rintro e w1 ⟨rfl, hb⟩; obtain ⟨hc, hf, hz⟩ := bstep (N := w.heap.size + 1) (by go_size) hb)
      | (go_at_call 9; refine (isER_impl _ _ _ _).mono ?_; rintro e w1 ⟨rfl, hb⟩; obtain ⟨hc, hf, hz⟩ := bstep (N := w.heap.size + 1) (by go_size) hb))
    go_ret
    refine ⟨rfl, ?_⟩
    repeat' (first
  | (with_reducible exact Below.refl _ _) | (with_reducible assumption)
  | (with_reducible refine Below.alloc ?_ ?_ _)
  | (with_reducible refine Below.drew ?_)
  | (with_reducible refine Below.setCell ?_ ?_ _)
  | (with_reducible refine Below.trans ?_ (Below.mono (by assumption) ?_))
  | go_size)
end Go.Proofs.Ytjbbgmlkfeknkaa
