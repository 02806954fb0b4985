/- Height rules: small functions. -/
import Derived.Test.YtdjbbjehgfkefaaRows
import Derived.Test.YtdjbbjehgfkefaaRd
namespace Go.Proofs.Ytdjbbjehgfkefaa
open Go.ChangeShapes Go.WideShapes Go.ChangeAt Go.RowKit
set_option linter.unusedVariables false
set_option linter.unusedSimpArgs false
theorem l01In_any (n lo hi : Int) (w : World) : Calls Try.prog 32 #[.int .i64 n, .int .i64 lo, .int .i64 hi] w fun e w' => e = .returned (.bool (inB n lo hi)) ∧ w = w' := by
  unfold inB
  go_enter Try.func32, Try.ntmps32
  go_wp2
  · go_ret
    have h : lo ≤ n := by assumption
    exact ⟨by simp [h], rfl⟩
  · go_ret
    have h : ¬ lo ≤ n := by omega
    exact ⟨by simp [h], rfl⟩
theorem l01In_r (n lo hi : Int) (r : Bool) (h : inB n lo hi = r) (w : World) : Calls Try.prog 32 #[.int .i64 n, .int .i64 lo, .int .i64 hi] w fun e w' => e = .returned (.bool r) ∧ w = w' := h ▸ l01In_any n lo hi w
theorem within_any (n lo hi : Int) (w : World) : Calls Try.prog 53 #[.int .i64 n, .int .i64 lo, .int .i64 hi] w fun e w' => e = .returned (.bool (inB n lo hi)) ∧ w = w' := by
  unfold inB
  go_enter Try.func53, Try.ntmps53
  go_wp2
  · go_ret
    have h : lo ≤ n := by assumption
    exact ⟨by simp [h], rfl⟩
  · go_ret
    have h : ¬ lo ≤ n := by omega
    exact ⟨by simp [h], rfl⟩
theorem within_r (n lo hi : Int) (r : Bool) (h : inB n lo hi = r) (w : World) : Calls Try.prog 53 #[.int .i64 n, .int .i64 lo, .int .i64 hi] w fun e w' => e = .returned (.bool r) ∧ w = w' := h ▸ within_any n lo hi w
theorem toHeightRule_any (x0 : Int) (x1 : Int) (x2 : Int) (w : World) : Calls Try.prog 9 #[.agg #[.int .i64 x0, .int .i64 x1, .int .i64 x2]] w fun e w' => e = .returned (.agg #[.int .i64 x0, .int .i64 x1, .int .i64 x2]) ∧ Below w.heap.size w w' := by
  go_enter Try.func9, Try.ntmps9
  go_wp2
  all_goals go_returns
  all_goals exact ⟨by first | rfl | (simp [*]; done) | (simp_all []; done) | (simp_all []; omega) | (simp_all []; intros; exfalso; omega), by repeat' (first | (with_reducible exact Below.refl _ _) | (with_reducible assumption) | (with_reducible refine Below.alloc ?_ ?_ _) | (with_reducible refine Below.drew ?_) | (with_reducible refine below_drewN ?_ _) | (with_reducible refine Below.setCell ?_ ?_ _) | (with_reducible refine Below.trans ?_ (Below.mono (by assumption) ?_)) | go_size | (exact Below.size (by assumption)))⟩
def verd (a b c h : Int) : Int := if h < a then 0 else if c < h then 3 else if b ≤ h then 2 else 1
def ruleB (a b c : Int) : Bool := decide (1 ≤ a) && (decide (a ≤ b) && (decide (b ≤ c) && decide (c ≤ 3000)))
theorem verd_impl (a b c h : Int) (w : World) : Calls Try.prog 52 #[.agg #[.int .i64 a, .int .i64 b, .int .i64 c], .int .i64 h] w fun e w' => e = .returned (.int .i64 (verd a b c h)) ∧ Below w.heap.size w w' := by
  go_enter Try.func52, Try.ntmps52
  go_wp2
  all_goals go_ret
  all_goals exact ⟨by first | rfl | (simp [verd, *]; done) | (simp_all [verd]; done) | (simp_all [verd]; omega) | (simp_all [verd]; intros; exfalso; omega), by repeat' (first | (with_reducible exact Below.refl _ _) | (with_reducible assumption) | (with_reducible refine Below.alloc ?_ ?_ _) | (with_reducible refine Below.drew ?_) | (with_reducible refine below_drewN ?_ _) | (with_reducible refine Below.setCell ?_ ?_ _) | (with_reducible refine Below.trans ?_ (Below.mono (by assumption) ?_)) | go_size | (exact Below.size (by assumption)))⟩
theorem verd_spec (a b c h : Int) (w : World) : Calls Try.prog 35 #[.agg #[.int .i64 a, .int .i64 b, .int .i64 c], .int .i64 h] w fun e w' => e = .returned (.int .i64 (verd a b c h)) ∧ Below w.heap.size w w' := by
  go_enter Try.func35, Try.ntmps35
  go_wp2
  all_goals go_ret
  all_goals exact ⟨by first | rfl | (simp [verd, *]; done) | (simp_all [verd]; done) | (simp_all [verd]; omega) | (simp_all [verd]; intros; exfalso; omega), by repeat' (first | (with_reducible exact Below.refl _ _) | (with_reducible assumption) | (with_reducible refine Below.alloc ?_ ?_ _) | (with_reducible refine Below.drew ?_) | (with_reducible refine below_drewN ?_ _) | (with_reducible refine Below.setCell ?_ ?_ _) | (with_reducible refine Below.trans ?_ (Below.mono (by assumption) ?_)) | go_size | (exact Below.size (by assumption)))⟩
theorem ruleB_impl (a b c : Int) (w : World) : Calls Try.prog 42 #[.agg #[.int .i64 a, .int .i64 b, .int .i64 c]] w fun e w' => e = .returned (.bool (ruleB a b c)) ∧ Below w.heap.size w w' := by
  go_enter Try.func42, Try.ntmps42
  go_wp2
  all_goals go_ret
  all_goals exact ⟨by first | rfl | (simp [ruleB, *]; done) | (simp_all [ruleB]; done) | (simp_all [ruleB]; omega) | (simp_all [ruleB]; intros; exfalso; omega), by repeat' (first | (with_reducible exact Below.refl _ _) | (with_reducible assumption) | (with_reducible refine Below.alloc ?_ ?_ _) | (with_reducible refine Below.drew ?_) | (with_reducible refine below_drewN ?_ _) | (with_reducible refine Below.setCell ?_ ?_ _) | (with_reducible refine Below.trans ?_ (Below.mono (by assumption) ?_)) | go_size | (exact Below.size (by assumption)))⟩
theorem ruleB_impl_r (a b c : Int) (r : Bool) (h : ruleB a b c = r) (w : World) : Calls Try.prog 42 #[.agg #[.int .i64 a, .int .i64 b, .int .i64 c]] w fun e w' => e = .returned (.bool r) ∧ Below w.heap.size w w' := h ▸ ruleB_impl a b c w
theorem ruleB_spec (a b c : Int) (w : World) : Calls Try.prog 41 #[.agg #[.int .i64 a, .int .i64 b, .int .i64 c]] w fun e w' => e = .returned (.bool (ruleB a b c)) ∧ Below w.heap.size w w' := by
  go_enter Try.func41, Try.ntmps41
  go_wp2
  all_goals go_ret
  all_goals exact ⟨by first | rfl | (simp [ruleB, *]; done) | (simp_all [ruleB]; done) | (simp_all [ruleB]; omega) | (simp_all [ruleB]; intros; exfalso; omega), by repeat' (first | (with_reducible exact Below.refl _ _) | (with_reducible assumption) | (with_reducible refine Below.alloc ?_ ?_ _) | (with_reducible refine Below.drew ?_) | (with_reducible refine below_drewN ?_ _) | (with_reducible refine Below.setCell ?_ ?_ _) | (with_reducible refine Below.trans ?_ (Below.mono (by assumption) ?_)) | go_size | (exact Below.size (by assumption)))⟩
theorem ruleB_spec_r (a b c : Int) (r : Bool) (h : ruleB a b c = r) (w : World) : Calls Try.prog 41 #[.agg #[.int .i64 a, .int .i64 b, .int .i64 c]] w fun e w' => e = .returned (.bool r) ∧ Below w.heap.size w w' := h ▸ ruleB_spec a b c w
theorem truth_any (b : Bool) (w : World) : Calls Try.prog 68 #[.bool b] w fun e w' => e = .returned (.int .i64 (if b then 1 else 0)) ∧ w = w' := by
  go_enter Try.func68, Try.ntmps68
  go_wp2
  all_goals go_ret
  all_goals exact ⟨by first | rfl | (simp [*]; done) | (simp_all []; done) | (simp_all []; omega) | (simp_all []; intros; exfalso; omega), rfl⟩
theorem isRowCount_any (n : Int) (w : World) : Calls Try.prog 37 #[.int .i64 n] w fun e w' => e = .returned (.bool (inB n 1 12)) ∧ w = w' := by
  go_enter Try.func37, Try.ntmps37
  go_wp2_with (first
    | (go_at_call 53; refine (within_any _ _ _ _).mono ?_; rintro e w' ⟨rfl, rfl⟩))
  all_goals go_ret
  all_goals exact ⟨by first | rfl | (simp [*]; done) | (simp_all []; done) | (simp_all []; omega) | (simp_all []; intros; exfalso; omega), rfl⟩
theorem isRowCount_r (n : Int) (r : Bool) (h : inB n 1 12 = r) (w : World) : Calls Try.prog 37 #[.int .i64 n] w fun e w' => e = .returned (.bool r) ∧ w = w' := h ▸ isRowCount_any n w
theorem heights1_any (n : Int) (w : World) : Calls Try.prog 61 #[.int .i64 n] w fun e w' => e = .returned (.bool (!inB n 1 3000)) ∧ Below w.heap.size w w' := by
  refine Calls.mono (R := fun e w' => e = .returned (.bool (!inB n 1 3000)) ∧ w = w') ?_ (fun e w' h => ⟨h.1, h.2 ▸ Below.refl _ _⟩)
  go_enter Try.func61, Try.ntmps61
  go_wp2_with (go_at_call 53; refine (within_any _ _ _ _).mono ?_; rintro e w' ⟨rfl, rfl⟩)
  go_ret
  exact ⟨rfl, rfl⟩
theorem openInts {H : Type} {enc : TypeId × Value → H} {W : World} {n c : Nat} {A : Option Addr} {d : DataW H} {p : List MemPlace} {b0 : Nat} {sp : Nat → Bool} {hd : Bool} (h : DataW.Trod enc Try.prog W b0 sp hd 24 (.slice A n c) d p) :
    ∃ l : List Int, l.length = n ∧ Rd W W.heap.size A (ints l) ∧ n ≤ c ∧ c ≤ maxLen ∧ ∀ t ∈ l, (Lit.int .i64 t).wf = true := by
  obtain ⟨rows, hl, hk, hr, h1, h2⟩ := open_rows_flat (ks := [some .i64]) (C := 1) Try.underlying24 (by kernel_rfl) (by kernel_rfl) (by omega) h
  obtain ⟨l, he, hll, hok⟩ := rows_typed (fun x : Int => [Value.int .i64 x]) (fun x => (Lit.int .i64 x).wf = true) rows (fun r hr => by
    obtain ⟨_, _, rfl, ⟨x, rfl, wx⟩, rfl⟩ := (hk r hr).1
    exact ⟨x, rfl, wx⟩)
  exact ⟨l, by omega, ints_flat l ▸ he ▸ hr, h1, h2, hok⟩
end Go.Proofs.Ytdjbbjehgfkefaa
