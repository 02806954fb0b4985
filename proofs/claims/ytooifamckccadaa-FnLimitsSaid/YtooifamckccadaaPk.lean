/- PeakEnergy: walks of the program and of the reference. -/
import Derived.Test.YtooifamckccadaaTp
namespace Go.Proofs.Ytooifamckccadaa
open Go.ChangeShapes Go.WideShapes Go.ChangeAt Go.RowKit
set_option maxRecDepth 20000
set_option linter.unusedVariables false
set_option linter.unusedSimpArgs false
def pkUp (hi : Int) (l : List Ivl) : Nat → Int
  | 0 => hi
  | k + 1 => match l[k]? with
    | some x => if pkUp hi l k < x.2 then x.2 else pkUp hi l k
    | none => pkUp hi l k
theorem pkUp_step {hi : Int} {l : List Ivl} {k : Nat} {x : Ivl} (h : l[k]? = some x) : pkUp hi l (k + 1) = if pkUp hi l k < x.2 then x.2 else pkUp hi l k := by simp [pkUp, h]
def pkV (ls : List Seg) (on : List Int) (f n lo hi : Int) : Int := if alC ls on f n lo hi = 0 then pkUp hi (alR ls on f n lo hi) (alR ls on f n lo hi).length else 0
set_option maxHeartbeats 1000000 in
theorem peak_impl (ls : List Seg) (on : List Int) (f n lo hi : Int) (A : Option Addr) (B c : Nat) (A' : Option Addr) (c' : Nat) (w : World) (hs : Rd w B A (ls.flatMap eSegment)) (hr : Rd w B A' (ints on)) (hB : B ≤ w.heap.size) (hn : ls.length ≤ 1048576) (hn2 : on.length ≤ 1048576) :
   Calls Try.prog 52 #[.agg #[.slice A ls.length c], .int .i64 f, .int .i64 n, .agg #[.int .i64 lo, .int .i64 hi], .slice A' on.length c'] w fun e w' => e = .returned (.tuple #[.int .i64 (pkV ls on f n lo hi), .int .i64 (alC ls on f n lo hi)]) ∧ Below w.heap.size w w' := by
  have Hs := Lib.hid ((hs.alloc hB (.cells #[.slice A ls.length c] 26)).alloc (by simp; omega) (.cells #[.int .i64 lo, .int .i64 hi] 29))
  have Hr := Lib.hid ((hr.alloc hB (.cells #[.slice A ls.length c] 26)).alloc (by simp; omega) (.cells #[.int .i64 lo, .int .i64 hi] 29))
  have hS : B ≤ ((w.alloc (.cells #[.slice A ls.length c] 26)).alloc (.cells #[.int .i64 lo, .int .i64 hi] 29)).heap.size := by simp; omega
  have HA := Lib.hid (fun (w' : World) (h : Rd w' B A (ls.flatMap eSegment)) (h2 : Rd w' B A' (ints on)) (h3 : B ≤ w'.heap.size) => activeAlong_impl ls on f n lo hi A B c A' c' w' h h2 h3 hn hn2)
  have hln := alR_len ls on f n lo hi
  clear hs hr
  unfold pkV
  generalize alR ls on f n lo hi = L at *
  by_cases h0 : alC ls on f n lo hi = 0
  · rw [if_pos h0]
    rw [h0] at HA ⊢
    clear h0
    go_enter Try.func52, Try.ntmps52
    go_wp2_with (go_at_call 45; refine (HA.out _ (by exact Hs.out) (by exact Hr.out) (by exact hS)).mono ?_; rintro e w1 ⟨A2, c2, rfl, o2, b1⟩; have R2 := Lib.hid (Rd.of_own o2); clear o2; obtain ⟨hc1, hf1, hz1⟩ := bstep (N := w.heap.size + 2) (by go_size) b1; have hy1 : w.heap.size < w1.heap.size := (by omega); have hx1 : w.heap.size + 1 < w1.heap.size := (by omega))
    have hbw : Below w.heap.size w w1 := by repeat' (first | (with_reducible exact Below.refl _ _) | (with_reducible assumption) | (with_reducible refine Below.alloc ?_ ?_ _) | (with_reducible refine Below.drew ?_) | (with_reducible refine below_drewN ?_ _) | (with_reducible refine Below.setCell ?_ ?_ _) | (with_reducible refine Below.trans ?_ (Below.mono (by assumption) ?_)) | go_size | (exact Below.size (by assumption)))
    have x1 : w1.cell? ⟨w.heap.size + 1, 1, none⟩ = some (.int .i64 hi) := by go_cell
    clear hc1 hf1 b1
    go_loopw [14, 33] (fun v i wr => ∃ k : Nat, k ≤ L.length ∧ i = .int .i64 k ∧ v = .int .i64 (pkUp hi L k) ∧ Below w1.heap.size w1 wr) (fun _ i _ => L.length - (intOf i).toNat)
    case atStart => exact ⟨0, Nat.zero_le _, rfl, rfl, Below.refl _ _⟩
    case round =>
      obtain ⟨k, hk, rfl, rfl, hb2⟩ := hrel
      have hz2 := hb2.size
      by_cases hlt : k < L.length
      · have ht := List.getElem?_eq_getElem hlt
        generalize L[k] = t at ht
        obtain ⟨b, o, rfl, hbB, d0, d1⟩ := (R2.out.below hb2 (Nat.le_refl _)).atInterval ht
        have hst := pkUp_step (hi := hi) ht
        have hi0 : (0 : Int) ≤ (k : Int) := by omega
        have hi1 : (k : Int) < (L.length : Int) := by omega
        clear ht
        by_cases hc : pkUp hi L k < t.2
        · rw [if_pos hc] at hst
          have Hst := Lib.hid hst
          clear hst
          go_wp2
          go_roundw
          case rel => exact ⟨k + 1, by omega, by go_num, by rw [Hst.out], by repeat' (first | (with_reducible exact Below.refl _ _) | (with_reducible assumption) | (with_reducible refine Below.alloc ?_ ?_ _) | (with_reducible refine Below.drew ?_) | (with_reducible refine below_drewN ?_ _) | (with_reducible refine Below.setCell ?_ ?_ _) | (with_reducible refine Below.trans ?_ (Below.mono (by assumption) ?_)) | go_size | (exact Below.size (by assumption)))⟩
          case measure => simp [intOf]; omega
        · rw [if_neg hc] at hst
          have Hst := Lib.hid hst
          clear hst
          go_wp2
          go_roundw
          case rel => exact ⟨k + 1, by omega, by go_num, by rw [Hst.out], by repeat' (first | (with_reducible exact Below.refl _ _) | (with_reducible assumption) | (with_reducible refine Below.alloc ?_ ?_ _) | (with_reducible refine Below.drew ?_) | (with_reducible refine below_drewN ?_ _) | (with_reducible refine Below.setCell ?_ ?_ _) | (with_reducible refine Below.trans ?_ (Below.mono (by assumption) ?_)) | go_size | (exact Below.size (by assumption)))⟩
          case measure => simp [intOf]; omega
      · have hk' : k = L.length := by omega
        subst hk'
        clear R2
        go_wp2
        refine bodyPost_ret (v := .tuple #[.int .i64 (pkUp hi L L.length), .int .i64 0]) (by simp [results, Try.results52, go_sem, *]) rfl ?_
        exact ⟨rfl, by repeat' (first | (with_reducible exact Below.refl _ _) | (with_reducible assumption) | (with_reducible refine Below.alloc ?_ ?_ _) | (with_reducible refine Below.drew ?_) | (with_reducible refine below_drewN ?_ _) | (with_reducible refine Below.setCell ?_ ?_ _) | (with_reducible refine Below.trans ?_ (Below.mono (by assumption) ?_)) | go_size | (exact Below.size (by assumption)))⟩
  · rw [if_neg h0]
    generalize alC ls on f n lo hi = C at *
    have h5b : (C != 0) = true := by simpa using h0
    go_enter Try.func52, Try.ntmps52
    go_wp2_with (go_at_call 45; refine (HA.out _ (by exact Hs.out) (by exact Hr.out) (by exact hS)).mono ?_; rintro e w1 ⟨A2, c2, rfl, o2, b1⟩; clear o2; obtain ⟨hc1, hf1, hz1⟩ := bstep (N := w.heap.size + 2) (by go_size) b1; have hy1 : w.heap.size < w1.heap.size := (by omega); have hx1 : w.heap.size + 1 < w1.heap.size := (by omega))
    refine bodyPost_ret (v := .tuple #[.int .i64 0, .int .i64 C]) (by simp [results, Try.results52, go_sem, *]) rfl ?_
    exact ⟨rfl, by repeat' (first | (with_reducible exact Below.refl _ _) | (with_reducible assumption) | (with_reducible refine Below.alloc ?_ ?_ _) | (with_reducible refine Below.drew ?_) | (with_reducible refine below_drewN ?_ _) | (with_reducible refine Below.setCell ?_ ?_ _) | (with_reducible refine Below.trans ?_ (Below.mono (by assumption) ?_)) | go_size | (exact Below.size (by assumption)))⟩
set_option maxHeartbeats 1000000 in
theorem peak_spec (ls : List Seg) (on : List Int) (f n lo hi : Int) (A : Option Addr) (B c : Nat) (A' : Option Addr) (c' : Nat) (w : World) (hs : Rd w B A (ls.flatMap eSegment)) (hr : Rd w B A' (ints on)) (hB : B ≤ w.heap.size) (hn : ls.length ≤ 1048576) (hn2 : on.length ≤ 1048576) :
   Calls Try.prog 51 #[.agg #[.slice A ls.length c], .int .i64 f, .int .i64 n, .agg #[.int .i64 lo, .int .i64 hi], .slice A' on.length c'] w fun e w' => e = .returned (.tuple #[.int .i64 (pkV ls on f n lo hi), .int .i64 (alC ls on f n lo hi)]) ∧ Below w.heap.size w w' := by
  have Hs := Lib.hid ((hs.alloc hB (.cells #[.slice A ls.length c] 26)).alloc (by simp; omega) (.cells #[.int .i64 lo, .int .i64 hi] 29))
  have Hr := Lib.hid ((hr.alloc hB (.cells #[.slice A ls.length c] 26)).alloc (by simp; omega) (.cells #[.int .i64 lo, .int .i64 hi] 29))
  have hS : B ≤ ((w.alloc (.cells #[.slice A ls.length c] 26)).alloc (.cells #[.int .i64 lo, .int .i64 hi] 29)).heap.size := by simp; omega
  have HA := Lib.hid (fun (w' : World) (h : Rd w' B A (ls.flatMap eSegment)) (h2 : Rd w' B A' (ints on)) (h3 : B ≤ w'.heap.size) => activeAlong_spec ls on f n lo hi A B c A' c' w' h h2 h3 hn hn2)
  have hln := alR_len ls on f n lo hi
  clear hs hr
  unfold pkV
  generalize alR ls on f n lo hi = L at *
  by_cases h0 : alC ls on f n lo hi = 0
  · rw [if_pos h0]
    rw [h0] at HA ⊢
    clear h0
    go_enter Try.func51, Try.ntmps51
    go_wp2_with (go_at_call 57; refine (HA.out _ (by exact Hs.out) (by exact Hr.out) (by exact hS)).mono ?_; rintro e w1 ⟨A2, c2, rfl, o2, b1⟩; have R2 := Lib.hid (Rd.of_own o2); clear o2; obtain ⟨hc1, hf1, hz1⟩ := bstep (N := w.heap.size + 2) (by go_size) b1; have hy1 : w.heap.size < w1.heap.size := (by omega); have hx1 : w.heap.size + 1 < w1.heap.size := (by omega))
    have hbw : Below w.heap.size w w1 := by repeat' (first | (with_reducible exact Below.refl _ _) | (with_reducible assumption) | (with_reducible refine Below.alloc ?_ ?_ _) | (with_reducible refine Below.drew ?_) | (with_reducible refine below_drewN ?_ _) | (with_reducible refine Below.setCell ?_ ?_ _) | (with_reducible refine Below.trans ?_ (Below.mono (by assumption) ?_)) | go_size | (exact Below.size (by assumption)))
    have x1 : w1.cell? ⟨w.heap.size + 1, 1, none⟩ = some (.int .i64 hi) := by go_cell
    clear hc1 hf1 b1
    go_loopw [14, 15] (fun v i wr => ∃ k : Nat, k ≤ L.length ∧ i = .int .i64 k ∧ v = .int .i64 (pkUp hi L k) ∧ Below w1.heap.size w1 wr) (fun _ i _ => L.length - (intOf i).toNat)
    case atStart => exact ⟨0, Nat.zero_le _, rfl, rfl, Below.refl _ _⟩
    case round =>
      obtain ⟨k, hk, rfl, rfl, hb2⟩ := hrel
      have hz2 := hb2.size
      by_cases hlt : k < L.length
      · have ht := List.getElem?_eq_getElem hlt
        generalize L[k] = t at ht
        obtain ⟨b, o, rfl, hbB, d0, d1⟩ := (R2.out.below hb2 (Nat.le_refl _)).atInterval ht
        have hst := pkUp_step (hi := hi) ht
        have hi0 : (0 : Int) ≤ (k : Int) := by omega
        have hi1 : (k : Int) < (L.length : Int) := by omega
        clear ht
        by_cases hc : pkUp hi L k < t.2
        · rw [if_pos hc] at hst
          have Hst := Lib.hid hst
          clear hst
          go_wp2
          go_roundw
          case rel => exact ⟨k + 1, by omega, by go_num, by rw [Hst.out], by repeat' (first | (with_reducible exact Below.refl _ _) | (with_reducible assumption) | (with_reducible refine Below.alloc ?_ ?_ _) | (with_reducible refine Below.drew ?_) | (with_reducible refine below_drewN ?_ _) | (with_reducible refine Below.setCell ?_ ?_ _) | (with_reducible refine Below.trans ?_ (Below.mono (by assumption) ?_)) | go_size | (exact Below.size (by assumption)))⟩
          case measure => simp [intOf]; omega
        · rw [if_neg hc] at hst
          have Hst := Lib.hid hst
          clear hst
          go_wp2
          go_roundw
          case rel => exact ⟨k + 1, by omega, by go_num, by rw [Hst.out], by repeat' (first | (with_reducible exact Below.refl _ _) | (with_reducible assumption) | (with_reducible refine Below.alloc ?_ ?_ _) | (with_reducible refine Below.drew ?_) | (with_reducible refine below_drewN ?_ _) | (with_reducible refine Below.setCell ?_ ?_ _) | (with_reducible refine Below.trans ?_ (Below.mono (by assumption) ?_)) | go_size | (exact Below.size (by assumption)))⟩
          case measure => simp [intOf]; omega
      · have hk' : k = L.length := by omega
        subst hk'
        clear R2
        go_wp2
        refine bodyPost_ret (v := .tuple #[.int .i64 (pkUp hi L L.length), .int .i64 0]) (by simp [results, Try.results51, go_sem, *]) rfl ?_
        exact ⟨rfl, by repeat' (first | (with_reducible exact Below.refl _ _) | (with_reducible assumption) | (with_reducible refine Below.alloc ?_ ?_ _) | (with_reducible refine Below.drew ?_) | (with_reducible refine below_drewN ?_ _) | (with_reducible refine Below.setCell ?_ ?_ _) | (with_reducible refine Below.trans ?_ (Below.mono (by assumption) ?_)) | go_size | (exact Below.size (by assumption)))⟩
  · rw [if_neg h0]
    generalize alC ls on f n lo hi = C at *
    have h5b : (C != 0) = true := by simpa using h0
    go_enter Try.func51, Try.ntmps51
    go_wp2_with (go_at_call 57; refine (HA.out _ (by exact Hs.out) (by exact Hr.out) (by exact hS)).mono ?_; rintro e w1 ⟨A2, c2, rfl, o2, b1⟩; clear o2; obtain ⟨hc1, hf1, hz1⟩ := bstep (N := w.heap.size + 2) (by go_size) b1; have hy1 : w.heap.size < w1.heap.size := (by omega); have hx1 : w.heap.size + 1 < w1.heap.size := (by omega))
    refine bodyPost_ret (v := .tuple #[.int .i64 0, .int .i64 C]) (by simp [results, Try.results51, go_sem, *]) rfl ?_
    exact ⟨rfl, by repeat' (first | (with_reducible exact Below.refl _ _) | (with_reducible assumption) | (with_reducible refine Below.alloc ?_ ?_ _) | (with_reducible refine Below.drew ?_) | (with_reducible refine below_drewN ?_ _) | (with_reducible refine Below.setCell ?_ ?_ _) | (with_reducible refine Below.trans ?_ (Below.mono (by assumption) ?_)) | go_size | (exact Below.size (by assumption)))⟩
end Go.Proofs.Ytooifamckccadaa
