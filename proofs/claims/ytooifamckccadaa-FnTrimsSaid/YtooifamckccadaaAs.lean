/- The energy behind a segment whose device is on, in the reference: a walk. -/
import Derived.Test.YtooifamckccadaaAc
import Derived.Deep.DeepCutAuto
import Derived.BigQuiet
namespace Go.Proofs.Ytooifamckccadaa
open Go.ChangeShapes Go.WideShapes Go.ChangeAt Go.RowKit
set_option linter.unusedVariables false
set_option linter.unusedSimpArgs false
set_option maxHeartbeats 4000000 in
theorem l08Active_any (k len rise rl rh fl fh lo hi : Int) (h : segB k len rise rl rh fl fh = true) (he : enB lo hi = true) (w : World) : Calls Try.prog 96 #[.agg #[.int .i64 k, .int .i64 len, .int .i64 rise, .int .i64 rl, .int .i64 rh, .int .i64 fl, .int .i64 fh], .agg #[.int .i64 lo, .int .i64 hi]] w fun e w' => e = .returned (.agg #[.int .i64 (actP k len rise rl rh fl fh lo hi).1, .int .i64 (actP k len rise rl rh fl fh lo hi).2]) ∧ Below w.heap.size w w' := by
  obtain ⟨⟨k0, k4⟩, ⟨l1, l2⟩, ⟨r1, r2⟩, ⟨a0, a1, a2⟩, f0, f1, f2⟩ := seg_bds h
  obtain ⟨g0, g1, g2⟩ := wit_bds he
  have p1 := prod_bds (f := rh) (by omega) (by omega) l1 l2
  have p2 := prod_bds (f := rl) (by omega) (by omega) l1 l2
  have q1 := prod_bds (f := fl) (by omega) (by omega) l1 l2
  have q2 := prod_bds (f := fh) (by omega) (by omega) l1 l2
  have s1 := sq_bds (f := fl) (by omega) (by omega)
  have s2 := sq_bds (f := fh) (by omega) (by omega)
  have n1 : -2 * fl * len = -(2 * fl * len) := by rw [Int.neg_mul, Int.neg_mul]
  have n2 : -2 * fh * len = -(2 * fh * len) := by rw [Int.neg_mul, Int.neg_mul]
  have hk : k = 0 ∨ k = 1 ∨ k = 2 ∨ k = 3 ∨ k = 4 := by omega
  have Hch := Lib.hid (l06Change_any k len rise rl rh fl fh h)
  unfold actP
  generalize hc1 : -19612 * rise - 2 * rh * len = c1 at *
  generalize hc2 : -19612 * rise - 2 * rl * len = c2 at *
  have e1 : IntKind.i64.wrap (lo + c1) = lo + c1 := IntWalk.i64_in _ (by omega)
  have e2 : IntKind.i64.wrap (hi + c2) = hi + c2 := IntWalk.i64_in _ (by omega)
  have e3 : IntKind.i64.wrap (2 * fl) = 2 * fl := IntWalk.i64_in _ (by omega)
  have e4 : IntKind.i64.wrap (2 * fl * len) = 2 * fl * len := IntWalk.i64_in _ (by omega)
  have e5 : IntKind.i64.wrap (2 * fh) = 2 * fh := IntWalk.i64_in _ (by omega)
  have e6 : IntKind.i64.wrap (2 * fh * len) = 2 * fh * len := IntWalk.i64_in _ (by omega)
  have e7 : IntKind.i64.wrap (lo + c1 + 2 * fl * len) = lo + c1 + 2 * fl * len := IntWalk.i64_in _ (by omega)
  have e8 : IntKind.i64.wrap (hi + c2 + 2 * fh * len) = hi + c2 + 2 * fh * len := IntWalk.i64_in _ (by omega)
  have e9 : IntKind.i64.wrap (fl * fl) = fl * fl := IntWalk.i64_in _ (by omega)
  have e10 : IntKind.i64.wrap (fh * fh) = fh * fh := IntWalk.i64_in _ (by omega)
  have e11 : IntKind.i64.wrap (-2 * fl) = -2 * fl := IntWalk.i64_in _ (by omega)
  have e12 : IntKind.i64.wrap (-2 * fh) = -2 * fh := IntWalk.i64_in _ (by omega)
  have e13 : IntKind.i64.wrap (-2 * fl * len) = -2 * fl * len := IntWalk.i64_in _ (by omega)
  have e14 : IntKind.i64.wrap (-2 * fh * len) = -2 * fh * len := IntWalk.i64_in _ (by omega)
  have e15 : IntKind.i64.wrap (lo + c1 + -2 * fh * len) = lo + c1 + -2 * fh * len := IntWalk.i64_in _ (by omega)
  have e16 : IntKind.i64.wrap (hi + c2 + -2 * fl * len) = hi + c2 + -2 * fl * len := IntWalk.i64_in _ (by omega)
  have e17 : IntKind.i64.wrap (-(2 * fl * len)) = -(2 * fl * len) := IntWalk.i64_in _ (by omega)
  have e18 : IntKind.i64.wrap (-(2 * fh * len)) = -(2 * fh * len) := IntWalk.i64_in _ (by omega)
  have e19 : IntKind.i64.wrap (lo + c1 + -(2 * fh * len)) = lo + c1 + -(2 * fh * len) := IntWalk.i64_in _ (by omega)
  have e20 : IntKind.i64.wrap (hi + c2 + -(2 * fl * len)) = hi + c2 + -(2 * fl * len) := IntWalk.i64_in _ (by omega)
  have N1 := Lib.hid n1
  have N2 := Lib.hid n2
  clear hc1 hc2 k0 k4 l1 l2 r1 r2 a0 a1 a2 f0 f1 f2 p1 p2 h he q1 q2 s1 s2 g0 g1 g2 n1 n2
  have E3 := Lib.hid e3
  have E4 := Lib.hid e4
  have E5 := Lib.hid e5
  have E6 := Lib.hid e6
  have E7 := Lib.hid e7
  have E8 := Lib.hid e8
  have E9 := Lib.hid e9
  have E10 := Lib.hid e10
  have E11 := Lib.hid e11
  have E12 := Lib.hid e12
  have E13 := Lib.hid e13
  have E14 := Lib.hid e14
  have E15 := Lib.hid e15
  have E16 := Lib.hid e16
  have E17 := Lib.hid e17
  have E18 := Lib.hid e18
  have E19 := Lib.hid e19
  have E20 := Lib.hid e20
  clear e3 e4 e5 e6 e7 e8 e9 e10 e11 e12 e13 e14 e15 e16 e17 e18 e19 e20
  go_enter Try.func96, Try.ntmps96
  go_upto_region 1 with fail
  go_cut [5] (fun s6 wx => ∃ b : Nat, s6 = .pointer (some ⟨b, 0, none⟩) ∧ w.heap.size + 3 ≤ b ∧ b < wx.heap.size ∧ Below (((w.alloc (.cells #[.int .i64 k, .int .i64 len, .int .i64 rise, .int .i64 rl, .int .i64 rh, .int .i64 fl, .int .i64 fh] 39)).alloc (.cells #[.int .i64 lo, .int .i64 hi] 29)).alloc (.cells #[.int .i64 0, .int .i64 0] 29)).heap.size (((w.alloc (.cells #[.int .i64 k, .int .i64 len, .int .i64 rise, .int .i64 rl, .int .i64 rh, .int .i64 fl, .int .i64 fh] 39)).alloc (.cells #[.int .i64 lo, .int .i64 hi] 29)).alloc (.cells #[.int .i64 0, .int .i64 0] 29)) wx ∧ wx.cell? ⟨b, 0, none⟩ = some (.int .i64 (lo + c1)) ∧ wx.cell? ⟨b, 1, none⟩ = some (.int .i64 (hi + c2)) ∧ wx.frozen? ⟨b, 0, none⟩ = false ∧ wx.frozen? ⟨b, 1, none⟩ = false)
  case first =>
    go_region_with ((first | (go_at_call 135; refine (Hch.out _).mono ?_; rintro e w1 ⟨rfl, hb⟩; obtain ⟨hc, hf, hz⟩ := bstep (Nat.le_refl _) hb; (try simp only [World.size_alloc, World.size_drew] at hc hf hz); have y0 : w.heap.size < w1.heap.size := (by omega); have y1 : w.heap.size + 1 < w1.heap.size := (by omega); have y2 : w.heap.size + 1 + 1 < w1.heap.size := (by omega)) | (go_at_call 134; refine (l06Sum_any _ _ _ _ e1 e2 _).mono ?_; rintro e w2 ⟨rfl, hb2⟩; obtain ⟨hc2, hf2, hz2⟩ := bstep (Nat.le_refl _) hb2; (try simp only [World.size_alloc, World.size_drew] at hc2 hf2 hz2); have hb3 := Below.trans hb (show Below _ w1 w2 by repeat' (first | (with_reducible exact Below.refl _ _) | (with_reducible assumption) | (with_reducible refine Below.alloc ?_ ?_ _) | (with_reducible refine Below.drew ?_) | (with_reducible refine below_drewN ?_ _) | (with_reducible refine Below.setCell ?_ ?_ _) | (with_reducible refine Below.trans ?_ (Below.mono (by assumption) ?_)) | go_size | (exact Below.size (by assumption)))); obtain ⟨hc3, hf3, hz3⟩ := bstep (Nat.le_refl _) hb3; (try simp only [World.size_alloc, World.size_drew] at hc3 hf3 hz3))))
    all_goals (go_wp2_with fail; go_meet; refine ⟨_, rfl, by go_size, by go_size, by repeat' (first | (with_reducible exact Below.refl _ _) | (with_reducible assumption) | (with_reducible refine Below.alloc ?_ ?_ _) | (with_reducible refine Below.drew ?_) | (with_reducible refine below_drewN ?_ _) | (with_reducible refine Below.setCell ?_ ?_ _) | (with_reducible refine Below.trans ?_ (Below.mono (by assumption) ?_)) | go_size | (exact Below.size (by assumption))), by go_cell, by go_cell, by go_cell, by go_cell⟩)
  case rest =>
  obtain ⟨b, rfl, hb1, hb2, hbb, d0, d1, fz0, fz1⟩ := hcut
  obtain ⟨hc, hf, hz⟩ := bstep (Nat.le_refl _) hbb
  simp only [World.size_alloc] at hc hf hz
  have hbw : Below w.heap.size w wc := by repeat' (first | (with_reducible exact Below.refl _ _) | (with_reducible assumption) | (with_reducible refine Below.alloc ?_ ?_ _) | (with_reducible refine Below.drew ?_) | (with_reducible refine below_drewN ?_ _) | (with_reducible refine Below.setCell ?_ ?_ _) | (with_reducible refine Below.trans ?_ (Below.mono (by assumption) ?_)) | go_size | (exact Below.size (by assumption)))
  have y0 : w.heap.size < wc.heap.size := by omega
  have y1 : w.heap.size + 1 < wc.heap.size := by omega
  have y2 : w.heap.size + 1 + 1 < wc.heap.size := by omega
  clear hbb Hch
  have e3 := E3.out
  have e4 := E4.out
  have e5 := E5.out
  have e6 := E6.out
  go_wp2_with fail
  go_quiet (fail)
  clear e3 e4 e5 e6
  rcases hk with rfl | rfl | rfl | rfl | rfl
  · skip
    clear E3 E4 E5 E6 E7 E8 E9 E10 E11 E12 E13 E14 E15 E16 E17 E18 E19 E20
    go_wp2_with (go_at_call 134; refine (l06Sum_any _ _ _ _ (by assumption) (by assumption) _).mono ?_; rintro e w2 ⟨rfl, hb3⟩; obtain ⟨hc2, hf2, hz2⟩ := bstep (N := wc.heap.size) (W := wc.drewN nq) (Nat.le_refl _) hb3; have hb4 := Below.trans hbw (show Below _ wc w2 by repeat' (first | (with_reducible exact Below.refl _ _) | (with_reducible assumption) | (with_reducible refine Below.alloc ?_ ?_ _) | (with_reducible refine Below.drew ?_) | (with_reducible refine below_drewN ?_ _) | (with_reducible refine Below.setCell ?_ ?_ _) | (with_reducible refine Below.trans ?_ (Below.mono (by assumption) ?_)) | go_size | (exact Below.size (by assumption)))))
    refine bodyPost_ret (v := .agg #[.int .i64 (lo + c1), .int .i64 (hi + c2)]) (by simp [results, Try.results96, go_sem, *]; done) rfl ?_
    refine ⟨?_, by repeat' (first | (with_reducible exact Below.refl _ _) | (with_reducible assumption) | (with_reducible refine Below.alloc ?_ ?_ _) | (with_reducible refine Below.drew ?_) | (with_reducible refine below_drewN ?_ _) | (with_reducible refine Below.setCell ?_ ?_ _) | (with_reducible refine Below.trans ?_ (Below.mono (by assumption) ?_)) | go_size | (exact Below.size (by assumption)))⟩
    simp only [reduceIte, Int.reduceEq, or_true, true_or, or_self]
  · skip
    have e9 := E9.out
    have e10 := E10.out
    clear E3 E4 E5 E6 E7 E8 E9 E10 E11 E12 E13 E14 E15 E16 E17 E18 E19 E20
    go_wp2_with (go_at_call 134; refine (l06Sum_any _ _ _ _ (by assumption) (by assumption) _).mono ?_; rintro e w2 ⟨rfl, hb3⟩; obtain ⟨hc2, hf2, hz2⟩ := bstep (N := wc.heap.size) (W := wc.drewN nq) (Nat.le_refl _) hb3; have hb4 := Below.trans hbw (show Below _ wc w2 by repeat' (first | (with_reducible exact Below.refl _ _) | (with_reducible assumption) | (with_reducible refine Below.alloc ?_ ?_ _) | (with_reducible refine Below.drew ?_) | (with_reducible refine below_drewN ?_ _) | (with_reducible refine Below.setCell ?_ ?_ _) | (with_reducible refine Below.trans ?_ (Below.mono (by assumption) ?_)) | go_size | (exact Below.size (by assumption)))))
    refine bodyPost_ret (v := .agg #[.int .i64 (fl * fl), .int .i64 (fh * fh)]) (by simp [results, Try.results96, go_sem, *]; done) rfl ?_
    refine ⟨?_, by repeat' (first | (with_reducible exact Below.refl _ _) | (with_reducible assumption) | (with_reducible refine Below.alloc ?_ ?_ _) | (with_reducible refine Below.drew ?_) | (with_reducible refine below_drewN ?_ _) | (with_reducible refine Below.setCell ?_ ?_ _) | (with_reducible refine Below.trans ?_ (Below.mono (by assumption) ?_)) | go_size | (exact Below.size (by assumption)))⟩
    simp only [reduceIte, Int.reduceEq, or_true, true_or, or_self]
  · skip
    have e7 := E7.out
    have e8 := E8.out
    clear E3 E4 E5 E6 E7 E8 E9 E10 E11 E12 E13 E14 E15 E16 E17 E18 E19 E20
    go_wp2_with (go_at_call 134; refine (l06Sum_any _ _ _ _ (by assumption) (by assumption) _).mono ?_; rintro e w2 ⟨rfl, hb3⟩; obtain ⟨hc2, hf2, hz2⟩ := bstep (N := wc.heap.size) (W := wc.drewN nq) (Nat.le_refl _) hb3; have hb4 := Below.trans hbw (show Below _ wc w2 by repeat' (first | (with_reducible exact Below.refl _ _) | (with_reducible assumption) | (with_reducible refine Below.alloc ?_ ?_ _) | (with_reducible refine Below.drew ?_) | (with_reducible refine below_drewN ?_ _) | (with_reducible refine Below.setCell ?_ ?_ _) | (with_reducible refine Below.trans ?_ (Below.mono (by assumption) ?_)) | go_size | (exact Below.size (by assumption)))))
    refine bodyPost_ret (v := .agg #[.int .i64 (lo + c1 + 2 * fl * len), .int .i64 (hi + c2 + 2 * fh * len)]) (by simp [results, Try.results96, go_sem, *]; done) rfl ?_
    refine ⟨?_, by repeat' (first | (with_reducible exact Below.refl _ _) | (with_reducible assumption) | (with_reducible refine Below.alloc ?_ ?_ _) | (with_reducible refine Below.drew ?_) | (with_reducible refine below_drewN ?_ _) | (with_reducible refine Below.setCell ?_ ?_ _) | (with_reducible refine Below.trans ?_ (Below.mono (by assumption) ?_)) | go_size | (exact Below.size (by assumption)))⟩
    simp only [reduceIte, Int.reduceEq, or_true, true_or, or_self]
  · skip
    have e17 := E17.out
    have e18 := E18.out
    have e19 := E19.out
    have e20 := E20.out
    clear E3 E4 E5 E6 E7 E8 E9 E10 E11 E12 E13 E14 E15 E16 E17 E18 E19 E20
    go_wp2_with (go_at_call 134; refine (l06Sum_any _ _ _ _ (by assumption) (by assumption) _).mono ?_; rintro e w2 ⟨rfl, hb3⟩; obtain ⟨hc2, hf2, hz2⟩ := bstep (N := wc.heap.size) (W := wc.drewN nq) (Nat.le_refl _) hb3; have hb4 := Below.trans hbw (show Below _ wc w2 by repeat' (first | (with_reducible exact Below.refl _ _) | (with_reducible assumption) | (with_reducible refine Below.alloc ?_ ?_ _) | (with_reducible refine Below.drew ?_) | (with_reducible refine below_drewN ?_ _) | (with_reducible refine Below.setCell ?_ ?_ _) | (with_reducible refine Below.trans ?_ (Below.mono (by assumption) ?_)) | go_size | (exact Below.size (by assumption)))))
    refine bodyPost_ret (v := .agg #[.int .i64 (lo + c1 + -(2 * fh * len)), .int .i64 (hi + c2 + -(2 * fl * len))]) (by simp [results, Try.results96, go_sem, *]; done) rfl ?_
    refine ⟨?_, by repeat' (first | (with_reducible exact Below.refl _ _) | (with_reducible assumption) | (with_reducible refine Below.alloc ?_ ?_ _) | (with_reducible refine Below.drew ?_) | (with_reducible refine below_drewN ?_ _) | (with_reducible refine Below.setCell ?_ ?_ _) | (with_reducible refine Below.trans ?_ (Below.mono (by assumption) ?_)) | go_size | (exact Below.size (by assumption)))⟩
    first | (rw [N1.out, N2.out]; done) | (simp [N1.out, N2.out]; done)
  · skip
    have e17 := E17.out
    have e18 := E18.out
    have e19 := E19.out
    have e20 := E20.out
    clear E3 E4 E5 E6 E7 E8 E9 E10 E11 E12 E13 E14 E15 E16 E17 E18 E19 E20
    go_wp2_with (go_at_call 134; refine (l06Sum_any _ _ _ _ (by assumption) (by assumption) _).mono ?_; rintro e w2 ⟨rfl, hb3⟩; obtain ⟨hc2, hf2, hz2⟩ := bstep (N := wc.heap.size) (W := wc.drewN nq) (Nat.le_refl _) hb3; have hb4 := Below.trans hbw (show Below _ wc w2 by repeat' (first | (with_reducible exact Below.refl _ _) | (with_reducible assumption) | (with_reducible refine Below.alloc ?_ ?_ _) | (with_reducible refine Below.drew ?_) | (with_reducible refine below_drewN ?_ _) | (with_reducible refine Below.setCell ?_ ?_ _) | (with_reducible refine Below.trans ?_ (Below.mono (by assumption) ?_)) | go_size | (exact Below.size (by assumption)))))
    refine bodyPost_ret (v := .agg #[.int .i64 (lo + c1 + -(2 * fh * len)), .int .i64 (hi + c2 + -(2 * fl * len))]) (by simp [results, Try.results96, go_sem, *]; done) rfl ?_
    refine ⟨?_, by repeat' (first | (with_reducible exact Below.refl _ _) | (with_reducible assumption) | (with_reducible refine Below.alloc ?_ ?_ _) | (with_reducible refine Below.drew ?_) | (with_reducible refine below_drewN ?_ _) | (with_reducible refine Below.setCell ?_ ?_ _) | (with_reducible refine Below.trans ?_ (Below.mono (by assumption) ?_)) | go_size | (exact Below.size (by assumption)))⟩
    first | (rw [N1.out, N2.out]; done) | (simp [N1.out, N2.out]; done)
end Go.Proofs.Ytooifamckccadaa
