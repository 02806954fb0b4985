/- The order of stops by insertion: walks. -/
import Derived.Test.YtmeppemobogicaaOrd
import Derived.Test.YtmeppemobogicaaTm
import Derived.BigRegion
import Derived.BigQuiet
namespace Go.Proofs.Ytmeppemobogicaa
open Go.ChangeShapes Go.WideShapes Go.ChangeAt Go.RowKit
set_option maxRecDepth 20000
set_option linter.unusedVariables false
set_option linter.unusedSimpArgs false
def tN (times : List Int) (i : Nat) : Int := times.getD i 0
theorem tN_at {l : List Int} {i : Nat} {x : Int} (h : l[i]? = some x) : tN l i = x := by simp [tN, List.getD_eq_getElem?_getD, h]
def natI (l : List Nat) : List Int := l.map fun i : Nat => (i : Int)
theorem natI_length (l : List Nat) : (natI l).length = l.length := by simp [natI]
theorem natI_append (l m : List Nat) : natI (l ++ m) = natI l ++ natI m := by simp [natI]
def cmpV (x y : Int) : Int := if x < y then -1 else if y < x then 1 else 0
theorem isNaN_any (x : Int) (w : World) : Calls Try.prog 87 #[.int .i64 x] w fun e w' => e = .returned (.bool false) ∧ w = w' := by
  go_enter Try.func87, Try.ntmps87
  go_wp2
  go_ret
  exact ⟨by simp, rfl⟩
theorem compare_any (x y : Int) (w : World) : Calls Try.prog 83 #[.int .i64 x, .int .i64 y] w fun e w' => e = .returned (.int .i64 (cmpV x y)) ∧ w = w' := by
  unfold cmpV
  by_cases h : x < y
  · rw [if_pos h]
    go_enter Try.func83, Try.ntmps83
    go_wp2_with (go_at_call 87; refine (isNaN_any _ _).mono ?_; rintro e w' ⟨rfl, rfl⟩)
    go_ret
    exact ⟨rfl, rfl⟩
  · rw [if_neg h]
    by_cases h2 : y < x
    · rw [if_pos h2]
      go_enter Try.func83, Try.ntmps83
      go_wp2_with (go_at_call 87; refine (isNaN_any _ _).mono ?_; rintro e w' ⟨rfl, rfl⟩)
      go_ret
      exact ⟨rfl, rfl⟩
    · rw [if_neg h2]
      go_enter Try.func83, Try.ntmps83
      go_wp2_with (go_at_call 87; refine (isNaN_any _ _).mono ?_; rintro e w' ⟨rfl, rfl⟩)
      go_ret
      exact ⟨rfl, rfl⟩
theorem ord1_any (i j : Nat) (times : List Int) (Al : Option Addr) (cl cb B : Nat) (w : World) (hcw : w.cell? ⟨cb, 0, none⟩ = some (.slice Al times.length cl)) (hr : Rd w B Al (ints times)) (hi : i < times.length) (hj : j < times.length) :
   Calls Try.prog 82 #[.int .i64 i, .int .i64 j, .pointer (some ⟨cb, 0, none⟩)] w fun e w' => e = .returned (.int .i64 (cmpV (tN times j) (tN times i))) ∧ ∃ n, w' = w.drewN n := by
  have h1 := List.getElem?_eq_getElem hi
  generalize times[i] = x at h1
  have h2 := List.getElem?_eq_getElem hj
  generalize times[j] = y at h2
  rw [tN_at h1, tN_at h2]
  obtain ⟨b, o, rfl, _, c0⟩ := hr.int h1
  obtain ⟨b2, o2, he, _, d0⟩ := hr.int h2
  injection he with he
  injection he with e1 e2
  subst e1 e2
  have i0 : (0 : Int) ≤ (i : Int) := by omega
  have i1 : (i : Int) < (times.length : Int) := by omega
  have j0 : (0 : Int) ≤ (j : Int) := by omega
  have j1 : (j : Int) < (times.length : Int) := by omega
  clear h1 h2 hr hi hj
  go_enter Try.func82, Try.ntmps82
  go_wp2_with fail
  go_quiet ((go_at_call 83; exact Calls.quiet_of_same ((compare_any _ _ _).mono (fun _ _ h => ⟨h.1, h.2.symm⟩))))
  go_wp2
  go_ret
  exact ⟨rfl, _, rfl⟩
theorem ord1_lt (i j : Nat) (times : List Int) (Al : Option Addr) (cl cb B : Nat) (r : Int) (hrr : cmpV (tN times j) (tN times i) = r) (w : World) (hcw : w.cell? ⟨cb, 0, none⟩ = some (.slice Al times.length cl)) (hr : Rd w B Al (ints times)) (hi : i < times.length) (hj : j < times.length) :
   Calls Try.prog 82 #[.int .i64 i, .int .i64 j, .pointer (some ⟨cb, 0, none⟩)] w fun e w' => e = .returned (.int .i64 r) ∧ ∃ n, w' = w.drewN n := hrr ▸ ord1_any i j times Al cl cb B w hcw hr hi hj
end Go.Proofs.Ytmeppemobogicaa
