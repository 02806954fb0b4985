/- Energies behind segments: walks. -/
import Derived.Test.YtooifamckccadaaB
import Derived.BigRegion
import Derived.Deep.RegionWith
namespace Go.Proofs.Ytooifamckccadaa
open Go.ChangeShapes Go.WideShapes Go.ChangeAt Go.RowKit
set_option linter.unusedVariables false
set_option linter.unusedSimpArgs false
theorem inB_iff {n lo hi : Int} (h : inB n lo hi = true) : lo ≤ n ∧ n ≤ hi := by
  simpa [inB] using h
theorem wit_bds {lo hi a b : Int} (h : witB lo hi a b = true) : a ≤ lo ∧ lo ≤ hi ∧ hi ≤ b := by
  simp only [witB, ivB, Bool.and_eq_true, decide_eq_true_eq] at h
  exact ⟨h.1.2, h.1.1.2, h.2⟩
theorem seg_bds {k len rise rl rh fl fh : Int} (h : segB k len rise rl rh fl fh = true) : (0 ≤ k ∧ k ≤ 4) ∧ (1 ≤ len ∧ len ≤ 200000) ∧ (-100000 ≤ rise ∧ rise ≤ 100000) ∧ (0 ≤ rl ∧ rl ≤ rh ∧ rh ≤ 20000) ∧ (0 ≤ fl ∧ fl ≤ fh ∧ fh ≤ 20000) := by
  simp only [segB, Bool.and_eq_true] at h
  obtain ⟨⟨⟨⟨⟨h1, h2⟩, h3⟩, _⟩, h5⟩, h6⟩ := h
  refine ⟨inB_iff h1, inB_iff h2, inB_iff h3, wit_bds h5, ?_⟩
  split at h6
  · simp only [Bool.and_eq_true, decide_eq_true_eq] at h6
    omega
  · have := wit_bds h6
    omega
/-- a product of a force and a length -/
theorem prod_bds {f len : Int} (h1 : 0 ≤ f) (h2 : f ≤ 20000) (h3 : 1 ≤ len) (h4 : len ≤ 200000) : 0 ≤ 2 * f * len ∧ 2 * f * len ≤ 8000000000 := by
  have a : 0 ≤ f * len := Int.mul_nonneg h1 (by omega)
  have b : f * len ≤ 20000 * 200000 := Int.mul_le_mul h2 h4 (by omega) (by omega)
  have c : 2 * f * len = 2 * (f * len) := Int.mul_assoc _ _ _
  omega
theorem sq_bds {f : Int} (h1 : 0 ≤ f) (h2 : f ≤ 20000) : 0 ≤ f * f ∧ f * f ≤ 400000000 := by
  have a : 0 ≤ f * f := Int.mul_nonneg h1 h1
  have b : f * f ≤ 20000 * 20000 := Int.mul_le_mul h2 h2 h1 (by omega)
  omega
theorem plus_any (a b c d : Int) (e1 : IntKind.i64.wrap (a + c) = a + c) (e2 : IntKind.i64.wrap (b + d) = b + d) (w : World) : Calls Try.prog 131 #[.agg #[.int .i64 a, .int .i64 b], .agg #[.int .i64 c, .int .i64 d]] w fun e w' => e = .returned (.agg #[.int .i64 (a + c), .int .i64 (b + d)]) ∧ Below w.heap.size w w' := by
  go_enter Try.func131, Try.ntmps131
  go_wp2
  refine bodyPost_ret (v := .agg #[.int .i64 (a + c), .int .i64 (b + d)]) (by simp [results, Try.results131, go_sem, *]) rfl ?_
  exact ⟨rfl, by repeat' (first | (with_reducible exact Below.refl _ _) | (with_reducible assumption) | (with_reducible refine Below.alloc ?_ ?_ _) | (with_reducible refine Below.drew ?_) | (with_reducible refine below_drewN ?_ _) | (with_reducible refine Below.setCell ?_ ?_ _) | (with_reducible refine Below.trans ?_ (Below.mono (by assumption) ?_)) | go_size | (exact Below.size (by assumption)))⟩
theorem l06Sum_any (a b c d : Int) (e1 : IntKind.i64.wrap (a + c) = a + c) (e2 : IntKind.i64.wrap (b + d) = b + d) (w : World) : Calls Try.prog 134 #[.agg #[.int .i64 a, .int .i64 b], .agg #[.int .i64 c, .int .i64 d]] w fun e w' => e = .returned (.agg #[.int .i64 (a + c), .int .i64 (b + d)]) ∧ Below w.heap.size w w' := by
  go_enter Try.func134, Try.ntmps134
  go_wp2
  refine bodyPost_ret (v := .agg #[.int .i64 (a + c), .int .i64 (b + d)]) (by simp [results, Try.results134, go_sem, *]) rfl ?_
  exact ⟨rfl, by repeat' (first | (with_reducible exact Below.refl _ _) | (with_reducible assumption) | (with_reducible refine Below.alloc ?_ ?_ _) | (with_reducible refine Below.drew ?_) | (with_reducible refine below_drewN ?_ _) | (with_reducible refine Below.setCell ?_ ?_ _) | (with_reducible refine Below.trans ?_ (Below.mono (by assumption) ?_)) | go_size | (exact Below.size (by assumption)))⟩

theorem change_any (k len rise rl rh fl fh : Int) (h : segB k len rise rl rh fl fh = true) (w : World) : Calls Try.prog 132 #[.agg #[.int .i64 k, .int .i64 len, .int .i64 rise, .int .i64 rl, .int .i64 rh, .int .i64 fl, .int .i64 fh]] w fun e w' => e = .returned (.agg #[.int .i64 (-19612 * rise - 2 * rh * len), .int .i64 (-19612 * rise - 2 * rl * len)]) ∧ Below w.heap.size w w' := by
  obtain ⟨⟨k0, k4⟩, ⟨l1, l2⟩, ⟨r1, r2⟩, ⟨a0, a1, a2⟩, f0, f1, f2⟩ := seg_bds h
  have p1 := prod_bds (f := rh) (by omega) (by omega) l1 l2
  have p2 := prod_bds (f := rl) (by omega) (by omega) l1 l2
  have e1 : IntKind.i64.wrap (-19612 * rise) = -19612 * rise := IntWalk.i64_in _ (by omega)
  have e2 : IntKind.i64.wrap (2 * rh) = 2 * rh := IntWalk.i64_in _ (by omega)
  have e3 : IntKind.i64.wrap (2 * rh * len) = 2 * rh * len := IntWalk.i64_in _ (by omega)
  have e4 : IntKind.i64.wrap (2 * rl) = 2 * rl := IntWalk.i64_in _ (by omega)
  have e5 : IntKind.i64.wrap (2 * rl * len) = 2 * rl * len := IntWalk.i64_in _ (by omega)
  have e6 : IntKind.i64.wrap (-19612 * rise - 2 * rh * len) = -19612 * rise - 2 * rh * len := IntWalk.i64_in _ (by omega)
  have e7 : IntKind.i64.wrap (-19612 * rise - 2 * rl * len) = -19612 * rise - 2 * rl * len := IntWalk.i64_in _ (by omega)
  clear k0 k4 l1 l2 r1 r2 a0 a1 a2 f0 f1 f2 p1 p2 h
  go_enter Try.func132, Try.ntmps132
  go_wp2
  refine bodyPost_ret (v := .agg #[.int .i64 (-19612 * rise - 2 * rh * len), .int .i64 (-19612 * rise - 2 * rl * len)]) (by simp [results, Try.results132, go_sem, *]) rfl ?_
  exact ⟨rfl, by repeat' (first | (with_reducible exact Below.refl _ _) | (with_reducible assumption) | (with_reducible refine Below.alloc ?_ ?_ _) | (with_reducible refine Below.drew ?_) | (with_reducible refine below_drewN ?_ _) | (with_reducible refine Below.setCell ?_ ?_ _) | (with_reducible refine Below.trans ?_ (Below.mono (by assumption) ?_)) | go_size | (exact Below.size (by assumption)))⟩
theorem l06Change_any (k len rise rl rh fl fh : Int) (h : segB k len rise rl rh fl fh = true) (w : World) : Calls Try.prog 135 #[.agg #[.int .i64 k, .int .i64 len, .int .i64 rise, .int .i64 rl, .int .i64 rh, .int .i64 fl, .int .i64 fh]] w fun e w' => e = .returned (.agg #[.int .i64 (-19612 * rise - 2 * rh * len), .int .i64 (-19612 * rise - 2 * rl * len)]) ∧ Below w.heap.size w w' := by
  obtain ⟨⟨k0, k4⟩, ⟨l1, l2⟩, ⟨r1, r2⟩, ⟨a0, a1, a2⟩, f0, f1, f2⟩ := seg_bds h
  have p1 := prod_bds (f := rh) (by omega) (by omega) l1 l2
  have p2 := prod_bds (f := rl) (by omega) (by omega) l1 l2
  have e1 : IntKind.i64.wrap (-19612 * rise) = -19612 * rise := IntWalk.i64_in _ (by omega)
  have e2 : IntKind.i64.wrap (2 * rh) = 2 * rh := IntWalk.i64_in _ (by omega)
  have e3 : IntKind.i64.wrap (2 * rh * len) = 2 * rh * len := IntWalk.i64_in _ (by omega)
  have e4 : IntKind.i64.wrap (2 * rl) = 2 * rl := IntWalk.i64_in _ (by omega)
  have e5 : IntKind.i64.wrap (2 * rl * len) = 2 * rl * len := IntWalk.i64_in _ (by omega)
  have e6 : IntKind.i64.wrap (-19612 * rise - 2 * rh * len) = -19612 * rise - 2 * rh * len := IntWalk.i64_in _ (by omega)
  have e7 : IntKind.i64.wrap (-19612 * rise - 2 * rl * len) = -19612 * rise - 2 * rl * len := IntWalk.i64_in _ (by omega)
  clear k0 k4 l1 l2 r1 r2 a0 a1 a2 f0 f1 f2 p1 p2 h
  go_enter Try.func135, Try.ntmps135
  go_wp2
  refine bodyPost_ret (v := .agg #[.int .i64 (-19612 * rise - 2 * rh * len), .int .i64 (-19612 * rise - 2 * rl * len)]) (by simp [results, Try.results135, go_sem, *]) rfl ?_
  exact ⟨rfl, by repeat' (first | (with_reducible exact Below.refl _ _) | (with_reducible assumption) | (with_reducible refine Below.alloc ?_ ?_ _) | (with_reducible refine Below.drew ?_) | (with_reducible refine below_drewN ?_ _) | (with_reducible refine Below.setCell ?_ ?_ _) | (with_reducible refine Below.trans ?_ (Below.mono (by assumption) ?_)) | go_size | (exact Below.size (by assumption)))⟩
end Go.Proofs.Ytooifamckccadaa
