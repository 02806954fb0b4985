/- DecodeRecord of the program and of the reference: walks. -/
import Derived.Test.YtjohpakfaommgaaDe2
namespace Go.Proofs.Ytjohpakfaommgaa
open Go.ChangeShapes Go.WideShapes Go.ChangeAt Go.RowKit
set_option maxRecDepth 20000
set_option linter.unusedVariables false
set_option linter.unusedSimpArgs false
def dcC (l : List Int) : Int := if bytesB l then (if decOk l then 0 else 6) else 2
def dcOk (l : List Int) : Bool := bytesB l && decOk l
theorem isBytes_of {l : List Int} (h : bytesB l = true) : isBytes l := fun k x hk => bytes_at h hk
theorem l32Decode_r (l : List Int) (hb : isBytes l) (h14 : l.length = 14) (r : Bool) (hd : decOk l = r) (A : Option Addr) (B c : Nat) (w : World) (hr : Rd w B A (ints l)) (hB : B ≤ w.heap.size) (hlc : 14 ≤ c) :
   Calls Try.prog 60 #[.slice A 14 c] w fun e w' => e = .returned (.tuple #[.agg #[.int .i64 (dT l), .int .i64 (dK l), .int .i64 (dV l)], .int .i64 (dN l), .bool r]) ∧ Below w.heap.size w w' := hd ▸ l32Decode_any l hb h14 A B c w hr hB hlc
theorem decode_r (l : List Int) (hb : isBytes l) (r : Bool) (hd : decOk l = r) (A : Option Addr) (B c : Nat) (w : World) (hr : Rd w B A (ints l)) (hB : B ≤ w.heap.size) (hlc : l.length ≤ c) (hn : l.length ≤ 1048576) :
   Calls Try.prog 61 #[.slice A l.length c] w fun e w' => e = .returned (.tuple #[.agg #[.int .i64 (dX r (dT l)), .int .i64 (dX r (dK l)), .int .i64 (dX r (dV l))], .int .i64 (dX r (dN l)), .bool r]) ∧ Below w.heap.size w w' := hd ▸ decode_any l hb A B c w hr hB hlc hn
theorem dc_impl (l : List Int) (A : Option Addr) (B c : Nat) (w : World) (hr : Rd w B A (ints l)) (hB : B ≤ w.heap.size) (hlc : l.length ≤ c) (hn : l.length ≤ 1048576) :
   Calls Try.prog 24 #[.slice A l.length c] w fun e w' => e = .returned (.tuple #[.agg #[.int .i64 (dX (dcOk l) (dT l)), .int .i64 (dX (dcOk l) (dK l)), .int .i64 (dX (dcOk l) (dV l))], .int .i64 (dX (dcOk l) (dN l)), .int .i64 (dcC l)]) ∧ Below w.heap.size w w' := by
  cases h1 : bytesB l with
  | false =>
    rw [show dcOk l = false by simp [dcOk, h1], show dcC l = 2 by simp [dcC, h1]]
    have H1 := Lib.hid h1
    clear h1
    go_enter Try.func24, Try.ntmps24
    go_wp2_with ((go_at_call 51; refine (areBytes_r l A B c false H1.out _ (hr.alloc hB _) (by simp; omega) hn).mono ?_; rintro e w1 ⟨rfl, hb1⟩; obtain ⟨hc1, hf1, hz1⟩ := bstep (N := w.heap.size + 1) (by go_size) hb1; have hy1 : w.heap.size < w1.heap.size := hz1; have hr1 := Lib.hid ((hr.alloc hB _).below hb1 (by simp; omega))))
    refine bodyPost_ret (v := .tuple #[.agg #[.int .i64 0, .int .i64 0, .int .i64 0], .int .i64 0, .int .i64 2]) (by simp [results, Try.results24, go_sem, *]) rfl ⟨rfl, ?_⟩
    repeat' (first | (with_reducible exact Below.refl _ _) | (with_reducible assumption) | (with_reducible refine Below.alloc ?_ ?_ _) | (with_reducible refine Below.drew ?_) | (with_reducible refine below_drewN ?_ _) | (with_reducible refine Below.setCell ?_ ?_ _) | (with_reducible refine Below.trans ?_ (Below.mono (by assumption) ?_)) | go_size | (exact Below.size (by assumption)))
  | true =>
    cases h2 : decOk l with
    | false =>
      rw [show dcOk l = false by simp [dcOk, h2], show dcC l = 6 by simp [dcC, h1, h2]]
      have H1 := Lib.hid h1
      have H2 := Lib.hid h2
      clear h1 h2
      go_enter Try.func24, Try.ntmps24
      go_wp2_with (first | (go_at_call 51; refine (areBytes_r l A B c true H1.out _ (hr.alloc hB _) (by simp; omega) hn).mono ?_; rintro e w1 ⟨rfl, hb1⟩; obtain ⟨hc1, hf1, hz1⟩ := bstep (N := w.heap.size + 1) (by go_size) hb1; have hy1 : w.heap.size < w1.heap.size := hz1; have hr1 := Lib.hid ((hr.alloc hB _).below hb1 (by simp; omega))) | (go_at_call 61; refine (decode_r l (isBytes_of H1.out) false H2.out A B c _ hr1.out (by omega) hlc hn).mono ?_; rintro e w2 ⟨rfl, hb2⟩; obtain ⟨hc2, hf2, hz2⟩ := bstep (N := w.heap.size + 1) (by omega) hb2; have hy2 : w.heap.size < w2.heap.size := hz2))
      refine bodyPost_ret (v := .tuple #[.agg #[.int .i64 0, .int .i64 0, .int .i64 0], .int .i64 0, .int .i64 6]) (by simp [results, Try.results24, go_sem, *]) rfl ⟨rfl, ?_⟩
      repeat' (first | (with_reducible exact Below.refl _ _) | (with_reducible assumption) | (with_reducible refine Below.alloc ?_ ?_ _) | (with_reducible refine Below.drew ?_) | (with_reducible refine below_drewN ?_ _) | (with_reducible refine Below.setCell ?_ ?_ _) | (with_reducible refine Below.trans ?_ (Below.mono (by assumption) ?_)) | go_size | (exact Below.size (by assumption)))
    | true =>
      rw [show dcOk l = true by simp [dcOk, h1, h2], show dcC l = 0 by simp [dcC, h1, h2]]
      have H1 := Lib.hid h1
      have H2 := Lib.hid h2
      clear h1 h2
      go_enter Try.func24, Try.ntmps24
      go_wp2_with (first | (go_at_call 51; refine (areBytes_r l A B c true H1.out _ (hr.alloc hB _) (by simp; omega) hn).mono ?_; rintro e w1 ⟨rfl, hb1⟩; obtain ⟨hc1, hf1, hz1⟩ := bstep (N := w.heap.size + 1) (by go_size) hb1; have hy1 : w.heap.size < w1.heap.size := hz1; have hr1 := Lib.hid ((hr.alloc hB _).below hb1 (by simp; omega))) | (go_at_call 61; refine (decode_r l (isBytes_of H1.out) true H2.out A B c _ hr1.out (by omega) hlc hn).mono ?_; rintro e w2 ⟨rfl, hb2⟩; obtain ⟨hc2, hf2, hz2⟩ := bstep (N := w.heap.size + 1) (by omega) hb2; have hy2 : w.heap.size < w2.heap.size := hz2))
      refine bodyPost_ret (v := .tuple #[.agg #[.int .i64 (dX true (dT l)), .int .i64 (dX true (dK l)), .int .i64 (dX true (dV l))], .int .i64 (dX true (dN l)), .int .i64 0]) (by simp [results, Try.results24, go_sem, *]) rfl ⟨rfl, ?_⟩
      repeat' (first | (with_reducible exact Below.refl _ _) | (with_reducible assumption) | (with_reducible refine Below.alloc ?_ ?_ _) | (with_reducible refine Below.drew ?_) | (with_reducible refine below_drewN ?_ _) | (with_reducible refine Below.setCell ?_ ?_ _) | (with_reducible refine Below.trans ?_ (Below.mono (by assumption) ?_)) | go_size | (exact Below.size (by assumption)))
theorem l32Bytes_14 (l : List Int) (h14 : l.length = 14) (A : Option Addr) (B c : Nat) (r : Bool) (h : bytesB l = r) (w : World) (hr : Rd w B A (ints l)) :
   Calls Try.prog 49 #[.slice A 14 c] w fun e w' => e = .returned (.bool r) ∧ w = w' := by
  have hx := l32Bytes_r l A B c r h w hr (by omega)
  rw [h14] at hx
  exact hx
theorem dc_spec (l : List Int) (A : Option Addr) (B c : Nat) (w : World) (hr : Rd w B A (ints l)) (hB : B ≤ w.heap.size) (hlc : l.length ≤ c) (hn : l.length ≤ 1048576) :
   Calls Try.prog 23 #[.slice A l.length c] w fun e w' => e = .returned (.tuple #[.agg #[.int .i64 (dX (dcOk l) (dT l)), .int .i64 (dX (dcOk l) (dK l)), .int .i64 (dX (dcOk l) (dV l))], .int .i64 (dX (dcOk l) (dN l)), .int .i64 (dcC l)]) ∧ Below w.heap.size w w' := by
  cases h1 : bytesB l with
  | false =>
    rw [show dcOk l = false by simp [dcOk, h1], show dcC l = 2 by simp [dcC, h1]]
    have H1 := Lib.hid h1
    clear h1
    go_enter Try.func23, Try.ntmps23
    go_wp2_with ((go_at_call 49; refine (l32Bytes_r l A B c false H1.out _ (hr.alloc hB _) hn).mono ?_; rintro e w' ⟨rfl, rfl⟩))
    refine bodyPost_ret (v := .tuple #[.agg #[.int .i64 0, .int .i64 0, .int .i64 0], .int .i64 0, .int .i64 2]) (by simp [results, Try.results23, go_sem, *]) rfl ⟨rfl, ?_⟩
    repeat' (first | (with_reducible exact Below.refl _ _) | (with_reducible assumption) | (with_reducible refine Below.alloc ?_ ?_ _) | (with_reducible refine Below.drew ?_) | (with_reducible refine below_drewN ?_ _) | (with_reducible refine Below.setCell ?_ ?_ _) | (with_reducible refine Below.trans ?_ (Below.mono (by assumption) ?_)) | go_size | (exact Below.size (by assumption)))
  | true =>
    cases h2 : decOk l with
    | false =>
      rw [show dcOk l = false by simp [dcOk, h2], show dcC l = 6 by simp [dcC, h1, h2]]
      by_cases h14 : l.length = 14
      · have H1 := Lib.hid h1
        have H2 := Lib.hid h2
        have H14 := Lib.hid h14
        have hne : ((l.length : Int) != 14) = false := by rw [h14]; rfl
        clear h1 h2
        rw [h14] at hlc
        go_enter Try.func23, Try.ntmps23
        rw [h14] at hne ⊢
        clear h14 hne
        go_wp2_with (first | (go_at_call 49; refine (l32Bytes_14 l H14.out A B c true H1.out _ (hr.alloc hB _)).mono ?_; rintro e w' ⟨rfl, rfl⟩) | (go_at_call 60; refine (l32Decode_r l (isBytes_of H1.out) H14.out false H2.out A B c _ (hr.alloc hB _) (by simp; omega) (by omega)).mono ?_; rintro e w2 ⟨rfl, hb2⟩; obtain ⟨hc2, hf2, hz2⟩ := bstep (N := w.heap.size + 1) (by simp) hb2; have hy2 : w.heap.size < w2.heap.size := hz2))
        refine bodyPost_ret (v := .tuple #[.agg #[.int .i64 0, .int .i64 0, .int .i64 0], .int .i64 0, .int .i64 6]) (by simp [results, Try.results23, go_sem, *]) rfl ⟨rfl, ?_⟩
        repeat' (first | (with_reducible exact Below.refl _ _) | (with_reducible assumption) | (with_reducible refine Below.alloc ?_ ?_ _) | (with_reducible refine Below.drew ?_) | (with_reducible refine below_drewN ?_ _) | (with_reducible refine Below.setCell ?_ ?_ _) | (with_reducible refine Below.trans ?_ (Below.mono (by assumption) ?_)) | go_size | (exact Below.size (by assumption)))
      · have hne : ((l.length : Int) != 14) = true := by rw [bne_iff_ne]; omega
        have H1 := Lib.hid h1
        clear h1 h2 h14
        go_enter Try.func23, Try.ntmps23
        go_wp2_with ((go_at_call 49; refine (l32Bytes_r l A B c true H1.out _ (hr.alloc hB _) hn).mono ?_; rintro e w' ⟨rfl, rfl⟩))
        refine bodyPost_ret (v := .tuple #[.agg #[.int .i64 0, .int .i64 0, .int .i64 0], .int .i64 0, .int .i64 6]) (by simp [results, Try.results23, go_sem, *]) rfl ⟨rfl, ?_⟩
        repeat' (first | (with_reducible exact Below.refl _ _) | (with_reducible assumption) | (with_reducible refine Below.alloc ?_ ?_ _) | (with_reducible refine Below.drew ?_) | (with_reducible refine below_drewN ?_ _) | (with_reducible refine Below.setCell ?_ ?_ _) | (with_reducible refine Below.trans ?_ (Below.mono (by assumption) ?_)) | go_size | (exact Below.size (by assumption)))
    | true =>
      rw [show dcOk l = true by simp [dcOk, h1, h2], show dcC l = 0 by simp [dcC, h1, h2]]
      have h14 : l.length = 14 := by simp only [decOk, Bool.and_eq_true, decide_eq_true_eq] at h2; exact h2.1
      have H1 := Lib.hid h1
      have H2 := Lib.hid h2
      have H14 := Lib.hid h14
      clear h1 h2
      rw [h14] at hlc
      go_enter Try.func23, Try.ntmps23
      rw [h14]
      clear h14
      go_wp2_with (first | (go_at_call 49; refine (l32Bytes_14 l H14.out A B c true H1.out _ (hr.alloc hB _)).mono ?_; rintro e w' ⟨rfl, rfl⟩) | (go_at_call 60; refine (l32Decode_r l (isBytes_of H1.out) H14.out true H2.out A B c _ (hr.alloc hB _) (by simp; omega) (by omega)).mono ?_; rintro e w2 ⟨rfl, hb2⟩; obtain ⟨hc2, hf2, hz2⟩ := bstep (N := w.heap.size + 1) (by simp) hb2; have hy2 : w.heap.size < w2.heap.size := hz2))
      refine bodyPost_ret (v := .tuple #[.agg #[.int .i64 (dT l), .int .i64 (dK l), .int .i64 (dV l)], .int .i64 (dN l), .int .i64 0]) (by simp [results, Try.results23, go_sem, *]) rfl ⟨rfl, ?_⟩
      repeat' (first | (with_reducible exact Below.refl _ _) | (with_reducible assumption) | (with_reducible refine Below.alloc ?_ ?_ _) | (with_reducible refine Below.drew ?_) | (with_reducible refine below_drewN ?_ _) | (with_reducible refine Below.setCell ?_ ?_ _) | (with_reducible refine Below.trans ?_ (Below.mono (by assumption) ?_)) | go_size | (exact Below.size (by assumption)))
end Go.Proofs.Ytjohpakfaommgaa
