/- ActiveAfter: walks. -/
import Derived.Test.YtooifamckccadaaAs
namespace Go.Proofs.Ytooifamckccadaa
open Go.ChangeShapes Go.WideShapes Go.ChangeAt Go.RowKit
set_option linter.unusedVariables false
set_option linter.unusedSimpArgs false
set_option maxRecDepth 20000
def chkA (a b : Int) : Int := if a < 0 then 0 else if 10000000000 < b then 0 else a
def chkB (a b : Int) : Int := if a < 0 then 0 else if 10000000000 < b then 0 else b
def chkC (a b : Int) : Int := if a < 0 then 5 else if 10000000000 < b then 3 else 0
theorem chkV_eq (a b : Int) : chkV a b = .tuple #[.agg #[.int .i64 (chkA a b), .int .i64 (chkB a b)], .int .i64 (chkC a b)] := by
  unfold chkV chkA chkB chkC
  split
  · rfl
  · split <;> rfl
def afA (k len rise rl rh fl fh lo hi : Int) : Int := if segB k len rise rl rh fl fh && enB lo hi then chkA (actP k len rise rl rh fl fh lo hi).1 (actP k len rise rl rh fl fh lo hi).2 else 0
def afB (k len rise rl rh fl fh lo hi : Int) : Int := if segB k len rise rl rh fl fh && enB lo hi then chkB (actP k len rise rl rh fl fh lo hi).1 (actP k len rise rl rh fl fh lo hi).2 else 0
def afC (k len rise rl rh fl fh lo hi : Int) : Int := if segB k len rise rl rh fl fh && enB lo hi then chkC (actP k len rise rl rh fl fh lo hi).1 (actP k len rise rl rh fl fh lo hi).2 else 1
theorem isSeg_spec_r (k len rise rl rh fl fh : Int) (r : Bool) (h : segB k len rise rl rh fl fh = r) (w : World) : Calls Try.prog 94 #[.agg #[.int .i64 k, .int .i64 len, .int .i64 rise, .int .i64 rl, .int .i64 rh, .int .i64 fl, .int .i64 fh]] w fun e w' => e = .returned (.bool r) ∧ Below w.heap.size w w' := h ▸ isSegment_spec k len rise rl rh fl fh w
theorem isEn_spec_r (lo hi : Int) (r : Bool) (h : enB lo hi = r) (w : World) : Calls Try.prog 81 #[.agg #[.int .i64 lo, .int .i64 hi]] w fun e w' => e = .returned (.bool r) ∧ Below w.heap.size w w' := h ▸ isEnergy_spec lo hi w
theorem activeAfter_spec (k len rise rl rh fl fh lo hi : Int) (w : World) : Calls Try.prog 27 #[.agg #[.int .i64 k, .int .i64 len, .int .i64 rise, .int .i64 rl, .int .i64 rh, .int .i64 fl, .int .i64 fh], .agg #[.int .i64 lo, .int .i64 hi]] w fun e w' => e = .returned (.tuple #[.agg #[.int .i64 (afA k len rise rl rh fl fh lo hi), .int .i64 (afB k len rise rl rh fl fh lo hi)], .int .i64 (afC k len rise rl rh fl fh lo hi)]) ∧ Below w.heap.size w w' := by
  cases hs : segB k len rise rl rh fl fh with
  | false =>
    rw [show afA k len rise rl rh fl fh lo hi = 0 by simp [afA, hs], show afB k len rise rl rh fl fh lo hi = 0 by simp [afB, hs], show afC k len rise rl rh fl fh lo hi = 1 by simp [afC, hs]]
    have Hs := Lib.hid hs
    clear hs
    go_enter Try.func27, Try.ntmps27
    go_wp2_with (first | (go_at_call 94; refine (isSeg_spec_r _ _ _ _ _ _ _ false Hs.out _).mono ?_; rintro e w1 ⟨rfl, hb⟩; obtain ⟨hc, hf, hz⟩ := bstep (N := w.heap.size + 3) (by go_size) hb))
    refine bodyPost_ret (v := .tuple #[.agg #[.int .i64 0, .int .i64 0], .int .i64 1]) (by simp [results, Try.results27, go_sem, *]; done) rfl ?_
    exact ⟨rfl, by repeat' (first | (with_reducible exact Below.refl _ _) | (with_reducible assumption) | (with_reducible refine Below.alloc ?_ ?_ _) | (with_reducible refine Below.drew ?_) | (with_reducible refine below_drewN ?_ _) | (with_reducible refine Below.setCell ?_ ?_ _) | (with_reducible refine Below.trans ?_ (Below.mono (by assumption) ?_)) | go_size | (exact Below.size (by assumption)))⟩
  | true =>
    cases he : enB lo hi with
    | false =>
      rw [show afA k len rise rl rh fl fh lo hi = 0 by simp [afA, he], show afB k len rise rl rh fl fh lo hi = 0 by simp [afB, he], show afC k len rise rl rh fl fh lo hi = 1 by simp [afC, he]]
      have Hs := Lib.hid hs
      have He := Lib.hid he
      clear hs he
      go_enter Try.func27, Try.ntmps27
      go_wp2_with (first | (go_at_call 94; refine (isSeg_spec_r _ _ _ _ _ _ _ true Hs.out _).mono ?_; rintro e w1 ⟨rfl, hb⟩; obtain ⟨hc, hf, hz⟩ := bstep (N := w.heap.size + 3) (by go_size) hb) | (go_at_call 81; refine (isEn_spec_r _ _ false He.out _).mono ?_; rintro e w2 ⟨rfl, hb2⟩; obtain ⟨hc2, hf2, hz2⟩ := bstep (N := w.heap.size + 3) (by go_size) hb2))
      refine bodyPost_ret (v := .tuple #[.agg #[.int .i64 0, .int .i64 0], .int .i64 1]) (by simp [results, Try.results27, go_sem, *]; done) rfl ?_
      exact ⟨rfl, by repeat' (first | (with_reducible exact Below.refl _ _) | (with_reducible assumption) | (with_reducible refine Below.alloc ?_ ?_ _) | (with_reducible refine Below.drew ?_) | (with_reducible refine below_drewN ?_ _) | (with_reducible refine Below.setCell ?_ ?_ _) | (with_reducible refine Below.trans ?_ (Below.mono (by assumption) ?_)) | go_size | (exact Below.size (by assumption)))⟩
    | true =>
      rw [show afA k len rise rl rh fl fh lo hi = chkA (actP k len rise rl rh fl fh lo hi).1 (actP k len rise rl rh fl fh lo hi).2 by simp [afA, hs, he], show afB k len rise rl rh fl fh lo hi = chkB (actP k len rise rl rh fl fh lo hi).1 (actP k len rise rl rh fl fh lo hi).2 by simp [afB, hs, he], show afC k len rise rl rh fl fh lo hi = chkC (actP k len rise rl rh fl fh lo hi).1 (actP k len rise rl rh fl fh lo hi).2 by simp [afC, hs, he]]
      have Hac := Lib.hid (l08Active_any k len rise rl rh fl fh lo hi hs he)
      have Hs := Lib.hid hs
      have He := Lib.hid he
      clear hs he
      generalize (actP k len rise rl rh fl fh lo hi).1 = ra at *
      generalize (actP k len rise rl rh fl fh lo hi).2 = rb at *
      have Hck := Lib.hid (l06Check_any ra rb)
      rw [chkV_eq] at Hck
      generalize chkA ra rb = ca at *
      generalize chkB ra rb = cb at *
      generalize chkC ra rb = cc at *
      go_enter Try.func27, Try.ntmps27
      go_wp2_with (first | (go_at_call 94; refine (isSeg_spec_r _ _ _ _ _ _ _ true Hs.out _).mono ?_; rintro e w1 ⟨rfl, hb⟩; obtain ⟨hc, hf, hz⟩ := bstep (N := w.heap.size + 3) (by go_size) hb) | (go_at_call 81; refine (isEn_spec_r _ _ true He.out _).mono ?_; rintro e w2 ⟨rfl, hb2⟩; obtain ⟨hc2, hf2, hz2⟩ := bstep (N := w.heap.size + 3) (by go_size) hb2) | (go_at_call 96; refine (Hac.out _).mono ?_; rintro e w3 ⟨rfl, hb3⟩; obtain ⟨hc3, hf3, hz3⟩ := bstep (N := w.heap.size + 3) (by go_size) hb3) | (go_at_call 95; refine (Hck.out _).mono ?_; rintro e w4 ⟨rfl, hb4⟩; obtain ⟨hc4, hf4, hz4⟩ := bstep (N := w.heap.size + 3) (by go_size) hb4))
      refine bodyPost_ret (v := .tuple #[.agg #[.int .i64 ca, .int .i64 cb], .int .i64 cc]) (by simp [results, Try.results27, go_sem, *]; done) rfl ?_
      exact ⟨rfl, by repeat' (first | (with_reducible exact Below.refl _ _) | (with_reducible assumption) | (with_reducible refine Below.alloc ?_ ?_ _) | (with_reducible refine Below.drew ?_) | (with_reducible refine below_drewN ?_ _) | (with_reducible refine Below.setCell ?_ ?_ _) | (with_reducible refine Below.trans ?_ (Below.mono (by assumption) ?_)) | go_size | (exact Below.size (by assumption)))⟩
theorem isSeg_impl_r (k len rise rl rh fl fh : Int) (r : Bool) (h : segB k len rise rl rh fl fh = r) (w : World) : Calls Try.prog 89 #[.agg #[.int .i64 k, .int .i64 len, .int .i64 rise, .int .i64 rl, .int .i64 rh, .int .i64 fl, .int .i64 fh]] w fun e w' => e = .returned (.bool r) ∧ Below w.heap.size w w' := h ▸ isSegment_impl k len rise rl rh fl fh w
theorem isEn_impl_r (lo hi : Int) (r : Bool) (h : enB lo hi = r) (w : World) : Calls Try.prog 90 #[.agg #[.int .i64 lo, .int .i64 hi]] w fun e w' => e = .returned (.bool r) ∧ Below w.heap.size w w' := h ▸ isEnergy_impl lo hi w
theorem activeAfter_impl (k len rise rl rh fl fh lo hi : Int) (w : World) : Calls Try.prog 30 #[.agg #[.int .i64 k, .int .i64 len, .int .i64 rise, .int .i64 rl, .int .i64 rh, .int .i64 fl, .int .i64 fh], .agg #[.int .i64 lo, .int .i64 hi]] w fun e w' => e = .returned (.tuple #[.agg #[.int .i64 (afA k len rise rl rh fl fh lo hi), .int .i64 (afB k len rise rl rh fl fh lo hi)], .int .i64 (afC k len rise rl rh fl fh lo hi)]) ∧ Below w.heap.size w w' := by
  cases hs : segB k len rise rl rh fl fh with
  | false =>
    rw [show afA k len rise rl rh fl fh lo hi = 0 by simp [afA, hs], show afB k len rise rl rh fl fh lo hi = 0 by simp [afB, hs], show afC k len rise rl rh fl fh lo hi = 1 by simp [afC, hs]]
    have Hs := Lib.hid hs
    clear hs
    go_enter Try.func30, Try.ntmps30
    go_wp2_with (first | (go_at_call 89; refine (isSeg_impl_r _ _ _ _ _ _ _ false Hs.out _).mono ?_; rintro e w1 ⟨rfl, hb⟩; obtain ⟨hc, hf, hz⟩ := bstep (N := w.heap.size + 3) (by go_size) hb))
    refine bodyPost_ret (v := .tuple #[.agg #[.int .i64 0, .int .i64 0], .int .i64 1]) (by simp [results, Try.results30, go_sem, *]; done) rfl ?_
    exact ⟨rfl, by repeat' (first | (with_reducible exact Below.refl _ _) | (with_reducible assumption) | (with_reducible refine Below.alloc ?_ ?_ _) | (with_reducible refine Below.drew ?_) | (with_reducible refine below_drewN ?_ _) | (with_reducible refine Below.setCell ?_ ?_ _) | (with_reducible refine Below.trans ?_ (Below.mono (by assumption) ?_)) | go_size | (exact Below.size (by assumption)))⟩
  | true =>
    cases he : enB lo hi with
    | false =>
      rw [show afA k len rise rl rh fl fh lo hi = 0 by simp [afA, he], show afB k len rise rl rh fl fh lo hi = 0 by simp [afB, he], show afC k len rise rl rh fl fh lo hi = 1 by simp [afC, he]]
      have Hs := Lib.hid hs
      have He := Lib.hid he
      clear hs he
      go_enter Try.func30, Try.ntmps30
      go_wp2_with (first | (go_at_call 89; refine (isSeg_impl_r _ _ _ _ _ _ _ true Hs.out _).mono ?_; rintro e w1 ⟨rfl, hb⟩; obtain ⟨hc, hf, hz⟩ := bstep (N := w.heap.size + 3) (by go_size) hb) | (go_at_call 90; refine (isEn_impl_r _ _ false He.out _).mono ?_; rintro e w2 ⟨rfl, hb2⟩; obtain ⟨hc2, hf2, hz2⟩ := bstep (N := w.heap.size + 3) (by go_size) hb2))
      refine bodyPost_ret (v := .tuple #[.agg #[.int .i64 0, .int .i64 0], .int .i64 1]) (by simp [results, Try.results30, go_sem, *]; done) rfl ?_
      exact ⟨rfl, by repeat' (first | (with_reducible exact Below.refl _ _) | (with_reducible assumption) | (with_reducible refine Below.alloc ?_ ?_ _) | (with_reducible refine Below.drew ?_) | (with_reducible refine below_drewN ?_ _) | (with_reducible refine Below.setCell ?_ ?_ _) | (with_reducible refine Below.trans ?_ (Below.mono (by assumption) ?_)) | go_size | (exact Below.size (by assumption)))⟩
    | true =>
      rw [show afA k len rise rl rh fl fh lo hi = chkA (actP k len rise rl rh fl fh lo hi).1 (actP k len rise rl rh fl fh lo hi).2 by simp [afA, hs, he], show afB k len rise rl rh fl fh lo hi = chkB (actP k len rise rl rh fl fh lo hi).1 (actP k len rise rl rh fl fh lo hi).2 by simp [afB, hs, he], show afC k len rise rl rh fl fh lo hi = chkC (actP k len rise rl rh fl fh lo hi).1 (actP k len rise rl rh fl fh lo hi).2 by simp [afC, hs, he]]
      have Hac := Lib.hid (active_any k len rise rl rh fl fh lo hi hs he)
      rw [chkV_eq] at Hac
      have Hs := Lib.hid hs
      have He := Lib.hid he
      clear hs he
      generalize (actP k len rise rl rh fl fh lo hi).1 = ra at *
      generalize (actP k len rise rl rh fl fh lo hi).2 = rb at *
      generalize chkA ra rb = ca at *
      generalize chkB ra rb = cb at *
      generalize chkC ra rb = cc at *
      go_enter Try.func30, Try.ntmps30
      go_wp2_with (first | (go_at_call 89; refine (isSeg_impl_r _ _ _ _ _ _ _ true Hs.out _).mono ?_; rintro e w1 ⟨rfl, hb⟩; obtain ⟨hc, hf, hz⟩ := bstep (N := w.heap.size + 3) (by go_size) hb) | (go_at_call 90; refine (isEn_impl_r _ _ true He.out _).mono ?_; rintro e w2 ⟨rfl, hb2⟩; obtain ⟨hc2, hf2, hz2⟩ := bstep (N := w.heap.size + 3) (by go_size) hb2) | (go_at_call 97; refine (Hac.out _).mono ?_; rintro e w3 ⟨rfl, hb3⟩; obtain ⟨hc3, hf3, hz3⟩ := bstep (N := w.heap.size + 3) (by go_size) hb3))
      refine bodyPost_ret (v := .tuple #[.agg #[.int .i64 ca, .int .i64 cb], .int .i64 cc]) (by simp [results, Try.results30, go_sem, *]; done) rfl ?_
      exact ⟨rfl, by repeat' (first | (with_reducible exact Below.refl _ _) | (with_reducible assumption) | (with_reducible refine Below.alloc ?_ ?_ _) | (with_reducible refine Below.drew ?_) | (with_reducible refine below_drewN ?_ _) | (with_reducible refine Below.setCell ?_ ?_ _) | (with_reducible refine Below.trans ?_ (Below.mono (by assumption) ?_)) | go_size | (exact Below.size (by assumption)))⟩
end Go.Proofs.Ytooifamckccadaa
