/- The codes of runs of segments with devices: walks. -/
import Derived.Test.YtooifamckccadaaDe
import Derived.Test.YtooifamckccadaaAa
namespace Go.Proofs.Ytooifamckccadaa
open Go.ChangeShapes Go.WideShapes Go.ChangeAt Go.RowKit
set_option maxRecDepth 20000
set_option linter.unusedVariables false
set_option linter.unusedSimpArgs false
theorem rcC_zero {ls : List Seg} {f c lo hi : Int} {on : List Int} (h : rcC ls f c lo hi on = 0) : layB ls = true ∧ enB lo hi = true ∧ runB ls f c = true ∧ devB ls on = true := by
  unfold rcC at h
  cases h1 : layB ls <;> cases h2 : enB lo hi <;> cases h3 : runB ls f c <;> cases h4 : devB ls on <;> simp_all
set_option maxHeartbeats 1000000 in
theorem runCode_impl (ls : List Seg) (on : List Int) (f d lo hi : Int) (A : Option Addr) (B c : Nat) (A' : Option Addr) (c' : Nat) (w : World) (hs : Rd w B A (ls.flatMap eSegment)) (hr : Rd w B A' (ints on)) (hB : B ≤ w.heap.size) (hn : ls.length ≤ 1048576) (hn2 : on.length ≤ 1048576) :
   Calls Try.prog 119 #[.agg #[.slice A ls.length c], .int .i64 f, .int .i64 d, .agg #[.int .i64 lo, .int .i64 hi], .slice A' on.length c'] w fun e w' => e = .returned (.int .i64 (rcC ls f d lo hi on)) ∧ Below w.heap.size w w' := by
  have Hs := Lib.hid ((hs.alloc hB (.cells #[.slice A ls.length c] 26)).alloc (by simp; omega) (.cells #[.int .i64 lo, .int .i64 hi] 29))
  have Hr := Lib.hid ((hr.alloc hB (.cells #[.slice A ls.length c] 26)).alloc (by simp; omega) (.cells #[.int .i64 lo, .int .i64 hi] 29))
  have hS : B ≤ ((w.alloc (.cells #[.slice A ls.length c] 26)).alloc (.cells #[.int .i64 lo, .int .i64 hi] 29)).heap.size := by simp; omega
  have HL := Lib.hid (fun (w' : World) (h : Rd w' B A (ls.flatMap eSegment)) (h2 : B ≤ w'.heap.size) => isLayout_impl ls A B c w' h h2 hn)
  have HD := Lib.hid (fun (w' : World) (h : Rd w' B A (ls.flatMap eSegment)) (h3 : Rd w' B A' (ints on)) (h2 : B ≤ w'.heap.size) => areDevices_any ls on A B c A' c' w' h h3 h2 hn hn2)
  have HR := Lib.hid (fun (q : Bool) (hq : runB ls f d = q) (w' : World) => isRun_any ls.length A c f d q hq hn w')
  clear hs hr
  cases h1 : layB ls with
  | false =>
    have hrc : rcC ls f d lo hi on = 1 := by simp [rcC, h1]
    rw [hrc]
    rw [h1] at HL
    clear hrc h1
    go_enter Try.func119, Try.ntmps119
    go_wp2_with (first | (go_at_call 106; refine (HL.out _ (by exact Hs.out) (by exact hS)).mono ?_; rintro e w1 ⟨rfl, b1⟩; have Hs1 := Lib.hid (Hs.out.below b1 hS); have Hr1 := Lib.hid (Hr.out.below b1 hS); have hS1 := Nat.le_trans hS b1.size; obtain ⟨hc1, hf1, hz1⟩ := bstep (N := w.heap.size + 2) (by go_size) b1; have hy1 : w.heap.size < w1.heap.size := (by omega); have hx1 : w.heap.size + 1 < w1.heap.size := (by omega)))
    go_ret
    exact ⟨rfl, by repeat' (first | (with_reducible exact Below.refl _ _) | (with_reducible assumption) | (with_reducible refine Below.alloc ?_ ?_ _) | (with_reducible refine Below.drew ?_) | (with_reducible refine below_drewN ?_ _) | (with_reducible refine Below.setCell ?_ ?_ _) | (with_reducible refine Below.trans ?_ (Below.mono (by assumption) ?_)) | go_size | (exact Below.size (by assumption)))⟩
  | true =>
    cases h2 : enB lo hi with
    | false =>
      have hrc : rcC ls f d lo hi on = 1 := by simp [rcC, h1, h2]
      rw [hrc]
      rw [h1] at HL
      have H2 := Lib.hid h2
      clear hrc h1 h2
      go_enter Try.func119, Try.ntmps119
      go_wp2_with (first | (go_at_call 106; refine (HL.out _ (by exact Hs.out) (by exact hS)).mono ?_; rintro e w1 ⟨rfl, b1⟩; have Hs1 := Lib.hid (Hs.out.below b1 hS); have Hr1 := Lib.hid (Hr.out.below b1 hS); have hS1 := Nat.le_trans hS b1.size; obtain ⟨hc1, hf1, hz1⟩ := bstep (N := w.heap.size + 2) (by go_size) b1; have hy1 : w.heap.size < w1.heap.size := (by omega); have hx1 : w.heap.size + 1 < w1.heap.size := (by omega)) | (go_at_call 90; refine (isEn_impl_r _ _ false H2.out _).mono ?_; rintro e w2 ⟨rfl, b2⟩; have Hs2 := Lib.hid (Hs1.out.below b2 hS1); have Hr2 := Lib.hid (Hr1.out.below b2 hS1); have hS2 := Nat.le_trans hS1 b2.size; obtain ⟨hc2, hf2, hz2⟩ := bstep (N := w.heap.size + 2) (by go_size) b2; have hy2 : w.heap.size < w2.heap.size := (by omega); have hx2 : w.heap.size + 1 < w2.heap.size := (by omega)))
      go_ret
      exact ⟨rfl, by repeat' (first | (with_reducible exact Below.refl _ _) | (with_reducible assumption) | (with_reducible refine Below.alloc ?_ ?_ _) | (with_reducible refine Below.drew ?_) | (with_reducible refine below_drewN ?_ _) | (with_reducible refine Below.setCell ?_ ?_ _) | (with_reducible refine Below.trans ?_ (Below.mono (by assumption) ?_)) | go_size | (exact Below.size (by assumption)))⟩
    | true =>
      cases h3 : runB ls f d with
      | false =>
        have hrc : rcC ls f d lo hi on = 2 := by simp [rcC, h1, h2, h3]
        rw [hrc]
        rw [h1] at HL
        have H2 := Lib.hid h2
        have H3 := Lib.hid h3
        clear hrc h1 h2 h3
        go_enter Try.func119, Try.ntmps119
        go_wp2_with (first | (go_at_call 106; refine (HL.out _ (by exact Hs.out) (by exact hS)).mono ?_; rintro e w1 ⟨rfl, b1⟩; have Hs1 := Lib.hid (Hs.out.below b1 hS); have Hr1 := Lib.hid (Hr.out.below b1 hS); have hS1 := Nat.le_trans hS b1.size; obtain ⟨hc1, hf1, hz1⟩ := bstep (N := w.heap.size + 2) (by go_size) b1; have hy1 : w.heap.size < w1.heap.size := (by omega); have hx1 : w.heap.size + 1 < w1.heap.size := (by omega)) | (go_at_call 90; refine (isEn_impl_r _ _ true H2.out _).mono ?_; rintro e w2 ⟨rfl, b2⟩; have Hs2 := Lib.hid (Hs1.out.below b2 hS1); have Hr2 := Lib.hid (Hr1.out.below b2 hS1); have hS2 := Nat.le_trans hS1 b2.size; obtain ⟨hc2, hf2, hz2⟩ := bstep (N := w.heap.size + 2) (by go_size) b2; have hy2 : w.heap.size < w2.heap.size := (by omega); have hx2 : w.heap.size + 1 < w2.heap.size := (by omega)) | (go_at_call 107; refine (HR.out false H3.out _).mono ?_; rintro e w3 ⟨rfl, b3⟩; have Hs3 := Lib.hid (Hs2.out.below b3 hS2); have Hr3 := Lib.hid (Hr2.out.below b3 hS2); have hS3 := Nat.le_trans hS2 b3.size; obtain ⟨hc3, hf3, hz3⟩ := bstep (N := w.heap.size + 2) (by go_size) b3; have hy3 : w.heap.size < w3.heap.size := (by omega); have hx3 : w.heap.size + 1 < w3.heap.size := (by omega)))
        go_ret
        exact ⟨rfl, by repeat' (first | (with_reducible exact Below.refl _ _) | (with_reducible assumption) | (with_reducible refine Below.alloc ?_ ?_ _) | (with_reducible refine Below.drew ?_) | (with_reducible refine below_drewN ?_ _) | (with_reducible refine Below.setCell ?_ ?_ _) | (with_reducible refine Below.trans ?_ (Below.mono (by assumption) ?_)) | go_size | (exact Below.size (by assumption)))⟩
      | true =>
        cases h4 : devB ls on with
        | false =>
          have hrc : rcC ls f d lo hi on = 2 := by simp [rcC, h1, h2, h3, h4]
          rw [hrc]
          rw [h1] at HL
          have H2 := Lib.hid h2
          have H3 := Lib.hid h3
          rw [h4] at HD
          clear hrc h1 h2 h3 h4
          go_enter Try.func119, Try.ntmps119
          go_wp2_with (first | (go_at_call 106; refine (HL.out _ (by exact Hs.out) (by exact hS)).mono ?_; rintro e w1 ⟨rfl, b1⟩; have Hs1 := Lib.hid (Hs.out.below b1 hS); have Hr1 := Lib.hid (Hr.out.below b1 hS); have hS1 := Nat.le_trans hS b1.size; obtain ⟨hc1, hf1, hz1⟩ := bstep (N := w.heap.size + 2) (by go_size) b1; have hy1 : w.heap.size < w1.heap.size := (by omega); have hx1 : w.heap.size + 1 < w1.heap.size := (by omega)) | (go_at_call 90; refine (isEn_impl_r _ _ true H2.out _).mono ?_; rintro e w2 ⟨rfl, b2⟩; have Hs2 := Lib.hid (Hs1.out.below b2 hS1); have Hr2 := Lib.hid (Hr1.out.below b2 hS1); have hS2 := Nat.le_trans hS1 b2.size; obtain ⟨hc2, hf2, hz2⟩ := bstep (N := w.heap.size + 2) (by go_size) b2; have hy2 : w.heap.size < w2.heap.size := (by omega); have hx2 : w.heap.size + 1 < w2.heap.size := (by omega)) | (go_at_call 107; refine (HR.out true H3.out _).mono ?_; rintro e w3 ⟨rfl, b3⟩; have Hs3 := Lib.hid (Hs2.out.below b3 hS2); have Hr3 := Lib.hid (Hr2.out.below b3 hS2); have hS3 := Nat.le_trans hS2 b3.size; obtain ⟨hc3, hf3, hz3⟩ := bstep (N := w.heap.size + 2) (by go_size) b3; have hy3 : w.heap.size < w3.heap.size := (by omega); have hx3 : w.heap.size + 1 < w3.heap.size := (by omega)) | (go_at_call 77; refine (HD.out _ (by exact Hs3.out) (by exact Hr3.out) (by exact hS3)).mono ?_; rintro e w4 ⟨rfl, b4⟩))
          go_ret
          exact ⟨rfl, by repeat' (first | (with_reducible exact Below.refl _ _) | (with_reducible assumption) | (with_reducible refine Below.alloc ?_ ?_ _) | (with_reducible refine Below.drew ?_) | (with_reducible refine below_drewN ?_ _) | (with_reducible refine Below.setCell ?_ ?_ _) | (with_reducible refine Below.trans ?_ (Below.mono (by assumption) ?_)) | go_size | (exact Below.size (by assumption)))⟩
        | true =>
          have hrc : rcC ls f d lo hi on = 0 := by simp [rcC, h1, h2, h3, h4]
          rw [hrc]
          rw [h1] at HL
          have H2 := Lib.hid h2
          have H3 := Lib.hid h3
          rw [h4] at HD
          clear hrc h1 h2 h3 h4
          go_enter Try.func119, Try.ntmps119
          go_wp2_with (first | (go_at_call 106; refine (HL.out _ (by exact Hs.out) (by exact hS)).mono ?_; rintro e w1 ⟨rfl, b1⟩; have Hs1 := Lib.hid (Hs.out.below b1 hS); have Hr1 := Lib.hid (Hr.out.below b1 hS); have hS1 := Nat.le_trans hS b1.size; obtain ⟨hc1, hf1, hz1⟩ := bstep (N := w.heap.size + 2) (by go_size) b1; have hy1 : w.heap.size < w1.heap.size := (by omega); have hx1 : w.heap.size + 1 < w1.heap.size := (by omega)) | (go_at_call 90; refine (isEn_impl_r _ _ true H2.out _).mono ?_; rintro e w2 ⟨rfl, b2⟩; have Hs2 := Lib.hid (Hs1.out.below b2 hS1); have Hr2 := Lib.hid (Hr1.out.below b2 hS1); have hS2 := Nat.le_trans hS1 b2.size; obtain ⟨hc2, hf2, hz2⟩ := bstep (N := w.heap.size + 2) (by go_size) b2; have hy2 : w.heap.size < w2.heap.size := (by omega); have hx2 : w.heap.size + 1 < w2.heap.size := (by omega)) | (go_at_call 107; refine (HR.out true H3.out _).mono ?_; rintro e w3 ⟨rfl, b3⟩; have Hs3 := Lib.hid (Hs2.out.below b3 hS2); have Hr3 := Lib.hid (Hr2.out.below b3 hS2); have hS3 := Nat.le_trans hS2 b3.size; obtain ⟨hc3, hf3, hz3⟩ := bstep (N := w.heap.size + 2) (by go_size) b3; have hy3 : w.heap.size < w3.heap.size := (by omega); have hx3 : w.heap.size + 1 < w3.heap.size := (by omega)) | (go_at_call 77; refine (HD.out _ (by exact Hs3.out) (by exact Hr3.out) (by exact hS3)).mono ?_; rintro e w4 ⟨rfl, b4⟩))
          go_ret
          exact ⟨rfl, by repeat' (first | (with_reducible exact Below.refl _ _) | (with_reducible assumption) | (with_reducible refine Below.alloc ?_ ?_ _) | (with_reducible refine Below.drew ?_) | (with_reducible refine below_drewN ?_ _) | (with_reducible refine Below.setCell ?_ ?_ _) | (with_reducible refine Below.trans ?_ (Below.mono (by assumption) ?_)) | go_size | (exact Below.size (by assumption)))⟩
set_option maxHeartbeats 1000000 in
theorem runCode_spec (ls : List Seg) (on : List Int) (f d lo hi : Int) (A : Option Addr) (B c : Nat) (A' : Option Addr) (c' : Nat) (w : World) (hs : Rd w B A (ls.flatMap eSegment)) (hr : Rd w B A' (ints on)) (hB : B ≤ w.heap.size) (hn : ls.length ≤ 1048576) (hn2 : on.length ≤ 1048576) :
   Calls Try.prog 122 #[.agg #[.slice A ls.length c], .int .i64 f, .int .i64 d, .agg #[.int .i64 lo, .int .i64 hi], .slice A' on.length c'] w fun e w' => e = .returned (.int .i64 (rcC ls f d lo hi on)) ∧ Below w.heap.size w w' := by
  have Hs := Lib.hid ((hs.alloc hB (.cells #[.slice A ls.length c] 26)).alloc (by simp; omega) (.cells #[.int .i64 lo, .int .i64 hi] 29))
  have Hr := Lib.hid ((hr.alloc hB (.cells #[.slice A ls.length c] 26)).alloc (by simp; omega) (.cells #[.int .i64 lo, .int .i64 hi] 29))
  have hS : B ≤ ((w.alloc (.cells #[.slice A ls.length c] 26)).alloc (.cells #[.int .i64 lo, .int .i64 hi] 29)).heap.size := by simp; omega
  have HL := Lib.hid (fun (w' : World) (h : Rd w' B A (ls.flatMap eSegment)) (h2 : B ≤ w'.heap.size) => isLayout_spec ls A B c w' h h2 hn)
  have HD := Lib.hid (fun (w' : World) (h : Rd w' B A (ls.flatMap eSegment)) (h3 : Rd w' B A' (ints on)) (h2 : B ≤ w'.heap.size) => l08Devices_any ls on A B c A' c' w' h h3 h2 hn hn2)
  have HR := Lib.hid (fun (q : Bool) (hq : runB ls f d = q) (w' : World) => l06Range_any ls.length A c f d q hq hn w')
  clear hs hr
  cases h1 : layB ls with
  | false =>
    have hrc : rcC ls f d lo hi on = 1 := by simp [rcC, h1]
    rw [hrc]
    rw [h1] at HL
    clear hrc h1
    go_enter Try.func122, Try.ntmps122
    go_wp2_with (first | (go_at_call 99; refine (HL.out _ (by exact Hs.out) (by exact hS)).mono ?_; rintro e w1 ⟨rfl, b1⟩; have Hs1 := Lib.hid (Hs.out.below b1 hS); have Hr1 := Lib.hid (Hr.out.below b1 hS); have hS1 := Nat.le_trans hS b1.size; obtain ⟨hc1, hf1, hz1⟩ := bstep (N := w.heap.size + 2) (by go_size) b1; have hy1 : w.heap.size < w1.heap.size := (by omega); have hx1 : w.heap.size + 1 < w1.heap.size := (by omega)))
    go_ret
    exact ⟨rfl, by repeat' (first | (with_reducible exact Below.refl _ _) | (with_reducible assumption) | (with_reducible refine Below.alloc ?_ ?_ _) | (with_reducible refine Below.drew ?_) | (with_reducible refine below_drewN ?_ _) | (with_reducible refine Below.setCell ?_ ?_ _) | (with_reducible refine Below.trans ?_ (Below.mono (by assumption) ?_)) | go_size | (exact Below.size (by assumption)))⟩
  | true =>
    cases h2 : enB lo hi with
    | false =>
      have hrc : rcC ls f d lo hi on = 1 := by simp [rcC, h1, h2]
      rw [hrc]
      rw [h1] at HL
      have H2 := Lib.hid h2
      clear hrc h1 h2
      go_enter Try.func122, Try.ntmps122
      go_wp2_with (first | (go_at_call 99; refine (HL.out _ (by exact Hs.out) (by exact hS)).mono ?_; rintro e w1 ⟨rfl, b1⟩; have Hs1 := Lib.hid (Hs.out.below b1 hS); have Hr1 := Lib.hid (Hr.out.below b1 hS); have hS1 := Nat.le_trans hS b1.size; obtain ⟨hc1, hf1, hz1⟩ := bstep (N := w.heap.size + 2) (by go_size) b1; have hy1 : w.heap.size < w1.heap.size := (by omega); have hx1 : w.heap.size + 1 < w1.heap.size := (by omega)) | (go_at_call 81; refine (isEn_spec_r _ _ false H2.out _).mono ?_; rintro e w2 ⟨rfl, b2⟩; have Hs2 := Lib.hid (Hs1.out.below b2 hS1); have Hr2 := Lib.hid (Hr1.out.below b2 hS1); have hS2 := Nat.le_trans hS1 b2.size; obtain ⟨hc2, hf2, hz2⟩ := bstep (N := w.heap.size + 2) (by go_size) b2; have hy2 : w.heap.size < w2.heap.size := (by omega); have hx2 : w.heap.size + 1 < w2.heap.size := (by omega)))
      go_ret
      exact ⟨rfl, by repeat' (first | (with_reducible exact Below.refl _ _) | (with_reducible assumption) | (with_reducible refine Below.alloc ?_ ?_ _) | (with_reducible refine Below.drew ?_) | (with_reducible refine below_drewN ?_ _) | (with_reducible refine Below.setCell ?_ ?_ _) | (with_reducible refine Below.trans ?_ (Below.mono (by assumption) ?_)) | go_size | (exact Below.size (by assumption)))⟩
    | true =>
      cases h3 : runB ls f d with
      | false =>
        have hrc : rcC ls f d lo hi on = 2 := by simp [rcC, h1, h2, h3]
        rw [hrc]
        rw [h1] at HL
        have H2 := Lib.hid h2
        have H3 := Lib.hid h3
        clear hrc h1 h2 h3
        go_enter Try.func122, Try.ntmps122
        go_wp2_with (first | (go_at_call 99; refine (HL.out _ (by exact Hs.out) (by exact hS)).mono ?_; rintro e w1 ⟨rfl, b1⟩; have Hs1 := Lib.hid (Hs.out.below b1 hS); have Hr1 := Lib.hid (Hr.out.below b1 hS); have hS1 := Nat.le_trans hS b1.size; obtain ⟨hc1, hf1, hz1⟩ := bstep (N := w.heap.size + 2) (by go_size) b1; have hy1 : w.heap.size < w1.heap.size := (by omega); have hx1 : w.heap.size + 1 < w1.heap.size := (by omega)) | (go_at_call 81; refine (isEn_spec_r _ _ true H2.out _).mono ?_; rintro e w2 ⟨rfl, b2⟩; have Hs2 := Lib.hid (Hs1.out.below b2 hS1); have Hr2 := Lib.hid (Hr1.out.below b2 hS1); have hS2 := Nat.le_trans hS1 b2.size; obtain ⟨hc2, hf2, hz2⟩ := bstep (N := w.heap.size + 2) (by go_size) b2; have hy2 : w.heap.size < w2.heap.size := (by omega); have hx2 : w.heap.size + 1 < w2.heap.size := (by omega)) | (go_at_call 154; refine (HR.out false H3.out _).mono ?_; rintro e w3 ⟨rfl, b3⟩; have Hs3 := Lib.hid (Hs2.out.below b3 hS2); have Hr3 := Lib.hid (Hr2.out.below b3 hS2); have hS3 := Nat.le_trans hS2 b3.size; obtain ⟨hc3, hf3, hz3⟩ := bstep (N := w.heap.size + 2) (by go_size) b3; have hy3 : w.heap.size < w3.heap.size := (by omega); have hx3 : w.heap.size + 1 < w3.heap.size := (by omega)))
        go_ret
        exact ⟨rfl, by repeat' (first | (with_reducible exact Below.refl _ _) | (with_reducible assumption) | (with_reducible refine Below.alloc ?_ ?_ _) | (with_reducible refine Below.drew ?_) | (with_reducible refine below_drewN ?_ _) | (with_reducible refine Below.setCell ?_ ?_ _) | (with_reducible refine Below.trans ?_ (Below.mono (by assumption) ?_)) | go_size | (exact Below.size (by assumption)))⟩
      | true =>
        cases h4 : devB ls on with
        | false =>
          have hrc : rcC ls f d lo hi on = 2 := by simp [rcC, h1, h2, h3, h4]
          rw [hrc]
          rw [h1] at HL
          have H2 := Lib.hid h2
          have H3 := Lib.hid h3
          rw [h4] at HD
          clear hrc h1 h2 h3 h4
          go_enter Try.func122, Try.ntmps122
          go_wp2_with (first | (go_at_call 99; refine (HL.out _ (by exact Hs.out) (by exact hS)).mono ?_; rintro e w1 ⟨rfl, b1⟩; have Hs1 := Lib.hid (Hs.out.below b1 hS); have Hr1 := Lib.hid (Hr.out.below b1 hS); have hS1 := Nat.le_trans hS b1.size; obtain ⟨hc1, hf1, hz1⟩ := bstep (N := w.heap.size + 2) (by go_size) b1; have hy1 : w.heap.size < w1.heap.size := (by omega); have hx1 : w.heap.size + 1 < w1.heap.size := (by omega)) | (go_at_call 81; refine (isEn_spec_r _ _ true H2.out _).mono ?_; rintro e w2 ⟨rfl, b2⟩; have Hs2 := Lib.hid (Hs1.out.below b2 hS1); have Hr2 := Lib.hid (Hr1.out.below b2 hS1); have hS2 := Nat.le_trans hS1 b2.size; obtain ⟨hc2, hf2, hz2⟩ := bstep (N := w.heap.size + 2) (by go_size) b2; have hy2 : w.heap.size < w2.heap.size := (by omega); have hx2 : w.heap.size + 1 < w2.heap.size := (by omega)) | (go_at_call 154; refine (HR.out true H3.out _).mono ?_; rintro e w3 ⟨rfl, b3⟩; have Hs3 := Lib.hid (Hs2.out.below b3 hS2); have Hr3 := Lib.hid (Hr2.out.below b3 hS2); have hS3 := Nat.le_trans hS2 b3.size; obtain ⟨hc3, hf3, hz3⟩ := bstep (N := w.heap.size + 2) (by go_size) b3; have hy3 : w.heap.size < w3.heap.size := (by omega); have hx3 : w.heap.size + 1 < w3.heap.size := (by omega)) | (go_at_call 83; refine (HD.out _ (by exact Hs3.out) (by exact Hr3.out) (by exact hS3)).mono ?_; rintro e w4 ⟨rfl, b4⟩))
          go_ret
          exact ⟨rfl, by repeat' (first | (with_reducible exact Below.refl _ _) | (with_reducible assumption) | (with_reducible refine Below.alloc ?_ ?_ _) | (with_reducible refine Below.drew ?_) | (with_reducible refine below_drewN ?_ _) | (with_reducible refine Below.setCell ?_ ?_ _) | (with_reducible refine Below.trans ?_ (Below.mono (by assumption) ?_)) | go_size | (exact Below.size (by assumption)))⟩
        | true =>
          have hrc : rcC ls f d lo hi on = 0 := by simp [rcC, h1, h2, h3, h4]
          rw [hrc]
          rw [h1] at HL
          have H2 := Lib.hid h2
          have H3 := Lib.hid h3
          rw [h4] at HD
          clear hrc h1 h2 h3 h4
          go_enter Try.func122, Try.ntmps122
          go_wp2_with (first | (go_at_call 99; refine (HL.out _ (by exact Hs.out) (by exact hS)).mono ?_; rintro e w1 ⟨rfl, b1⟩; have Hs1 := Lib.hid (Hs.out.below b1 hS); have Hr1 := Lib.hid (Hr.out.below b1 hS); have hS1 := Nat.le_trans hS b1.size; obtain ⟨hc1, hf1, hz1⟩ := bstep (N := w.heap.size + 2) (by go_size) b1; have hy1 : w.heap.size < w1.heap.size := (by omega); have hx1 : w.heap.size + 1 < w1.heap.size := (by omega)) | (go_at_call 81; refine (isEn_spec_r _ _ true H2.out _).mono ?_; rintro e w2 ⟨rfl, b2⟩; have Hs2 := Lib.hid (Hs1.out.below b2 hS1); have Hr2 := Lib.hid (Hr1.out.below b2 hS1); have hS2 := Nat.le_trans hS1 b2.size; obtain ⟨hc2, hf2, hz2⟩ := bstep (N := w.heap.size + 2) (by go_size) b2; have hy2 : w.heap.size < w2.heap.size := (by omega); have hx2 : w.heap.size + 1 < w2.heap.size := (by omega)) | (go_at_call 154; refine (HR.out true H3.out _).mono ?_; rintro e w3 ⟨rfl, b3⟩; have Hs3 := Lib.hid (Hs2.out.below b3 hS2); have Hr3 := Lib.hid (Hr2.out.below b3 hS2); have hS3 := Nat.le_trans hS2 b3.size; obtain ⟨hc3, hf3, hz3⟩ := bstep (N := w.heap.size + 2) (by go_size) b3; have hy3 : w.heap.size < w3.heap.size := (by omega); have hx3 : w.heap.size + 1 < w3.heap.size := (by omega)) | (go_at_call 83; refine (HD.out _ (by exact Hs3.out) (by exact Hr3.out) (by exact hS3)).mono ?_; rintro e w4 ⟨rfl, b4⟩))
          go_ret
          exact ⟨rfl, by repeat' (first | (with_reducible exact Below.refl _ _) | (with_reducible assumption) | (with_reducible refine Below.alloc ?_ ?_ _) | (with_reducible refine Below.drew ?_) | (with_reducible refine below_drewN ?_ _) | (with_reducible refine Below.setCell ?_ ?_ _) | (with_reducible refine Below.trans ?_ (Below.mono (by assumption) ?_)) | go_size | (exact Below.size (by assumption)))⟩
end Go.Proofs.Ytooifamckccadaa
