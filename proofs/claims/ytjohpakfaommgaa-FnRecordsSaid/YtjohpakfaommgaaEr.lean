/- EncodeRecord of the program and of the reference: walks. -/
import Derived.Test.YtjohpakfaommgaaEnc
import Derived.Test.YtjohpakfaommgaaEr0
namespace Go.Proofs.Ytjohpakfaommgaa
open Go.ChangeShapes Go.WideShapes Go.ChangeAt Go.RowKit
set_option maxRecDepth 20000
set_option linter.unusedVariables false
set_option linter.unusedSimpArgs false
def encC (t k v n : Int) : Int := if recB t k v then (if inB n 0 99 then 0 else 2) else 1
def encR (t k v n : Int) : List Int := if encC t k v n = 0 then encL t.toNat k.toNat v.toNat n.toNat else []
theorem encR_len (t k v n : Int) : (encR t k v n).length ≤ 1048576 := by
  unfold encR
  split
  · rw [encL_length]; omega
  · simp
theorem recB_nat {t k v : Int} (h : recB t k v = true) : ∃ t' k' v' : Nat, t = t' ∧ k = k' ∧ v = v' ∧ t' < 4294967296 ∧ k' ≤ 255 ∧ v' < 4294967296 := by
  simp only [recB, inB, Bool.and_eq_true, decide_eq_true_eq] at h
  exact ⟨t.toNat, k.toNat, v.toNat, by omega, by omega, by omega, by omega, by omega, by omega⟩
theorem inB_nat {n m : Int} (h : inB n 0 m = true) : ∃ n' : Nat, n = n' ∧ (n' : Int) ≤ m := by
  simp only [inB, Bool.and_eq_true, decide_eq_true_eq] at h
  exact ⟨n.toNat, by omega, by omega⟩
theorem enc_cases (t k v n : Int) : (recB t k v = false ∧ encC t k v n = 1 ∧ encR t k v n = []) ∨ (recB t k v = true ∧ inB n 0 99 = false ∧ encC t k v n = 2 ∧ encR t k v n = []) ∨
    (∃ t' k' v' n' : Nat, t = t' ∧ k = k' ∧ v = v' ∧ n = n' ∧ t' < 4294967296 ∧ k' ≤ 255 ∧ v' < 4294967296 ∧ n' ≤ 99 ∧ recB t k v = true ∧ inB n 0 99 = true ∧ encC t k v n = 0 ∧ encR t k v n = encL t' k' v' n') := by
  cases h : recB t k v with
  | false => left; simp [encC, encR, h]
  | true =>
    cases h2 : inB n 0 99 with
    | false => right; left; simp [encC, encR, h, h2]
    | true =>
      right; right
      obtain ⟨t', k', v', rfl, rfl, rfl, a, b, c⟩ := recB_nat h
      obtain ⟨n', rfl, d⟩ := inB_nat h2
      exact ⟨t', k', v', n', rfl, rfl, rfl, rfl, a, b, c, by omega, rfl, rfl, by simp [encC, h, h2], by simp [encR, encC, h, h2]⟩
theorem enc_spec (t k v n : Int) (w : World) :
   Calls Try.prog 20 #[.agg #[.int .i64 t, .int .i64 k, .int .i64 v], .int .i64 n] w fun e w' => ∃ A' c', e = .returned (.tuple #[.slice A' (encR t k v n).length c', .int .i64 (encC t k v n)]) ∧ w'.ownsRow w.heap.size 2 1 (.slice A' (encR t k v n).length c') (encR t k v n).length (ints (encR t k v n)) ∧ Below w.heap.size w w' := by
  rcases enc_cases t k v n with ⟨h, h1, h2⟩ | ⟨h, hn, h1, h2⟩ | ⟨t', k', v', n', rfl, rfl, rfl, rfl, a, b, c, d, h, hn, h1, h2⟩
  · rw [h1, h2]
    have H := Lib.hid h
    clear h h1 h2
    go_enter Try.func20, Try.ntmps20
    go_wp2_with ((go_at_call 42; refine (isER_spec_r _ _ _ _ H.out _).mono ?_; rintro e w1 ⟨rfl, hb⟩))
    go_ret2
    exact ⟨none, 0, rfl, World.ownsRow_nil _ _ _ _, by repeat' (first | (with_reducible exact Below.refl _ _) | (with_reducible assumption) | (with_reducible refine Below.alloc ?_ ?_ _) | (with_reducible refine Below.drew ?_) | (with_reducible refine below_drewN ?_ _) | (with_reducible refine Below.setCell ?_ ?_ _) | (with_reducible refine Below.trans ?_ (Below.mono (by assumption) ?_)) | go_size | (exact Below.size (by assumption)))⟩
  · rw [h1, h2]
    have H := Lib.hid h
    have H2 := Lib.hid hn
    clear h h1 h2 hn
    go_enter Try.func20, Try.ntmps20
    go_wp2_with (first | (go_at_call 42; refine (isER_spec_r _ _ _ _ H.out _).mono ?_; rintro e w1 ⟨rfl, hb⟩; obtain ⟨hc, hf, hz⟩ := bstep (N := w.heap.size + 1) (by go_size) hb) | (go_at_call 56; refine (l32Number_r _ _ H2.out _).mono ?_; rintro e w' ⟨rfl, rfl⟩))
    go_ret2
    exact ⟨none, 0, rfl, World.ownsRow_nil _ _ _ _, by repeat' (first | (with_reducible exact Below.refl _ _) | (with_reducible assumption) | (with_reducible refine Below.alloc ?_ ?_ _) | (with_reducible refine Below.drew ?_) | (with_reducible refine below_drewN ?_ _) | (with_reducible refine Below.setCell ?_ ?_ _) | (with_reducible refine Below.trans ?_ (Below.mono (by assumption) ?_)) | go_size | (exact Below.size (by assumption)))⟩
  · rw [h1, h2, encL_length]
    have H := Lib.hid h
    have H2 := Lib.hid hn
    clear h h1 h2 hn
    go_enter Try.func20, Try.ntmps20
    go_wp2_with (first | (go_at_call 42; refine (isER_spec_r _ _ _ _ H.out _).mono ?_; rintro e w1 ⟨rfl, hb⟩; obtain ⟨hc, hf, hz⟩ := bstep (N := w.heap.size + 1) (by go_size) hb) | (go_at_call 56; refine (l32Number_r _ _ H2.out _).mono ?_; rintro e w' ⟨rfl, rfl⟩) | (go_at_call 57; refine (l32Encode_any _ _ _ _ a b c (by omega) _).mono ?_; rintro e w2 ⟨A2, c2, rfl, o2, b2⟩; have O2 := Lib.hid (own_more o2 (show w.heap.size ≤ w1.heap.size by omega)); clear o2))
    go_ret2
    exact ⟨A2, c2, rfl, O2.out, by repeat' (first | (with_reducible exact Below.refl _ _) | (with_reducible assumption) | (with_reducible refine Below.alloc ?_ ?_ _) | (with_reducible refine Below.drew ?_) | (with_reducible refine below_drewN ?_ _) | (with_reducible refine Below.setCell ?_ ?_ _) | (with_reducible refine Below.trans ?_ (Below.mono (by assumption) ?_)) | go_size | (exact Below.size (by assumption)))⟩
theorem enc_impl (t k v n : Int) (w : World) :
   Calls Try.prog 22 #[.agg #[.int .i64 t, .int .i64 k, .int .i64 v], .int .i64 n] w fun e w' => ∃ A' c', e = .returned (.tuple #[.slice A' (encR t k v n).length c', .int .i64 (encC t k v n)]) ∧ w'.ownsRow w.heap.size 2 1 (.slice A' (encR t k v n).length c') (encR t k v n).length (ints (encR t k v n)) ∧ Below w.heap.size w w' := by
  rcases enc_cases t k v n with ⟨h, h1, h2⟩ | ⟨h, hn, h1, h2⟩ | ⟨t', k', v', n', rfl, rfl, rfl, rfl, a, b, c, d, h, hn, h1, h2⟩
  · rw [h1, h2]
    have H := Lib.hid h
    clear h h1 h2
    go_enter Try.func22, Try.ntmps22
    go_wp2_with ((go_at_call 41; refine (isER_impl_r _ _ _ _ H.out _).mono ?_; rintro e w1 ⟨rfl, hb⟩))
    go_ret2
    exact ⟨none, 0, rfl, World.ownsRow_nil _ _ _ _, by repeat' (first | (with_reducible exact Below.refl _ _) | (with_reducible assumption) | (with_reducible refine Below.alloc ?_ ?_ _) | (with_reducible refine Below.drew ?_) | (with_reducible refine below_drewN ?_ _) | (with_reducible refine Below.setCell ?_ ?_ _) | (with_reducible refine Below.trans ?_ (Below.mono (by assumption) ?_)) | go_size | (exact Below.size (by assumption)))⟩
  · rw [h1, h2]
    have H := Lib.hid h
    have H2 := Lib.hid hn
    clear h h1 h2 hn
    go_enter Try.func22, Try.ntmps22
    go_wp2_with (first | (go_at_call 41; refine (isER_impl_r _ _ _ _ H.out _).mono ?_; rintro e w1 ⟨rfl, hb⟩; obtain ⟨hc, hf, hz⟩ := bstep (N := w.heap.size + 1) (by go_size) hb) | (go_at_call 58; refine (isRecordNumber_r _ _ H2.out _).mono ?_; rintro e w' ⟨rfl, rfl⟩))
    go_ret2
    exact ⟨none, 0, rfl, World.ownsRow_nil _ _ _ _, by repeat' (first | (with_reducible exact Below.refl _ _) | (with_reducible assumption) | (with_reducible refine Below.alloc ?_ ?_ _) | (with_reducible refine Below.drew ?_) | (with_reducible refine below_drewN ?_ _) | (with_reducible refine Below.setCell ?_ ?_ _) | (with_reducible refine Below.trans ?_ (Below.mono (by assumption) ?_)) | go_size | (exact Below.size (by assumption)))⟩
  · rw [h1, h2, encL_length]
    have H := Lib.hid h
    have H2 := Lib.hid hn
    clear h h1 h2 hn
    go_enter Try.func22, Try.ntmps22
    go_wp2_with (first | (go_at_call 41; refine (isER_impl_r _ _ _ _ H.out _).mono ?_; rintro e w1 ⟨rfl, hb⟩; obtain ⟨hc, hf, hz⟩ := bstep (N := w.heap.size + 1) (by go_size) hb) | (go_at_call 58; refine (isRecordNumber_r _ _ H2.out _).mono ?_; rintro e w' ⟨rfl, rfl⟩) | (go_at_call 59; refine (encode_any _ _ _ _ a b c (by omega) _).mono ?_; rintro e w2 ⟨A2, c2, rfl, o2, b2⟩; have O2 := Lib.hid (own_more o2 (show w.heap.size ≤ w1.heap.size by omega)); clear o2))
    go_ret2
    exact ⟨A2, c2, rfl, O2.out, by repeat' (first | (with_reducible exact Below.refl _ _) | (with_reducible assumption) | (with_reducible refine Below.alloc ?_ ?_ _) | (with_reducible refine Below.drew ?_) | (with_reducible refine below_drewN ?_ _) | (with_reducible refine Below.setCell ?_ ?_ _) | (with_reducible refine Below.trans ?_ (Below.mono (by assumption) ?_)) | go_size | (exact Below.size (by assumption)))⟩
end Go.Proofs.Ytjohpakfaommgaa
