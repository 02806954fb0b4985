/- The law on active devices: its walk. -/
import Derived.Test.YtooifamckccadaaAd0
import Derived.Test.YtooifamckccadaaDq2
namespace Go.Proofs.Ytooifamckccadaa
open Go.ChangeShapes Go.WideShapes Go.ChangeAt Go.RowKit
set_option maxRecDepth 20000
set_option linter.unusedVariables false
set_option linter.unusedSimpArgs false
theorem big_any (n cap : Nat) (C : Option Addr) (w : World) (hn : n ≤ 9223372036854775807) : Calls Try.prog 18 #[.slice C n cap] w fun e w' => e = .returned (.bool (decide (4096 < (n : Int)))) ∧ w = w' := by
  go_enter Try.func18, Try.ntmps18
  go_wp2
  go_ret
  exact ⟨rfl, rfl⟩
set_option maxHeartbeats 4000000 in
theorem walkFnActiveDevices (bl : List Int) (hbl : isU8 bl) (C : Option Addr) (cap : Nat) (w : World) (hr : Rd w w.heap.size C (bytesU bl)) (hlc : bl.length ≤ cap) (hm : cap ≤ maxLen) :
   Calls Try.prog 7 #[.slice C bl.length cap] w fun e w' => e = .returned (.bool true) ∧ Below w.heap.size w w' := by
  unfold maxLen at hm
  by_cases hn : bl.length ≤ 4096
  rotate_left
  · have hd : decide ((4096 : Int) < (bl.length : Int)) = true := by simp; omega
    go_enter Try.func7, Try.ntmps7
    go_wp2_with (go_at_call 18; refine (big_any _ _ _ _ (by omega)).mono ?_; rintro e w' ⟨rfl, rfl⟩)
    go_ret
    exact ⟨rfl, Below.refl _ _⟩
  have hd : decide ((4096 : Int) < (bl.length : Int)) = false := by simp; omega
  go_enter Try.func7, Try.ntmps7
  go_wp2_with fail
  refine (big_any _ _ _ _ (by omega)).mono ?_; rintro e w' ⟨rfl, rfl⟩
  go_wp2_with fail
  refine (drawActive_any bl hbl hn C cap _ hr).mono ?_
  rintro e w0 ⟨k, len, rise, rl, rh, fl, fh, lo, hi, rfl, b0⟩
  clear hr hbl hd
  have z0 := b0.size
  have HL := Lib.hid (fun hC : afC k len rise rl rh fl fh lo hi = 0 => act_law hC)
  have HI := Lib.hid (fun (lo hi : Int) (w' : World) => activeAfter_impl k len rise rl rh fl fh lo hi w')
  have HSp := Lib.hid (fun (w' : World) => activeAfter_spec k len rise rl rh fl fh lo hi w')
  have HE := Lib.hid (fun h1 h2 (w' : World) => energyAfter_impl k len rise rl rh fl fh lo hi h1 h2 w')
  have HIz := Lib.hid (fun (w' : World) => activeAfter_impl k len rise rl rh fl fh lo hi w')
  generalize lo + (-19612 * rise - 2 * rh * len) = X at *
  generalize hi + (-19612 * rise - 2 * rl * len) = Y at *
  generalize chkA X Y = za at *
  generalize chkB X Y = zb at *
  generalize chkC X Y = zc at *
  generalize afA k len rise rl rh fl fh lo hi = a at *
  generalize afB k len rise rl rh fl fh lo hi = b at *
  generalize afC k len rise rl rh fl fh lo hi = K at *
  have B0 := Lib.hid b0
  clear b0
  go_wp2_with fail
  refine (HIz.out _).mono ?_
  rintro e w1 ⟨rfl, b1⟩
  have S1 := Lib.hid (bk_below (bk_alloc (bk_new w0 #[.int .i64 k, .int .i64 len, .int .i64 rise, .int .i64 rl, .int .i64 rh, .int .i64 fl, .int .i64 fh] 39) (.cells #[.int .i64 lo, .int .i64 hi] 29)) b1 (by simp; omega))
  have E1 : Hid (Bk w1 (w0.heap.size + 1) #[.int .i64 lo, .int .i64 hi]) := Lib.hid (by have h := bk_below (bk_new (w0.alloc (.cells #[.int .i64 k, .int .i64 len, .int .i64 rise, .int .i64 rl, .int .i64 rh, .int .i64 fl, .int .i64 fh] 39)) #[.int .i64 lo, .int .i64 hi] 29) b1 (by simp); simpa using h)
  have B1 := Lib.hid (show Below w.heap.size w w1 from B0.out.trans ((Below.mono (((Below.refl w0.heap.size w0).alloc (Nat.le_refl _) _).alloc (by simp) _) z0).trans (b1.mono (by simp; omega))))
  clear b1 HIz
  have hsE := bk_lt E1.out
  have hsS := bk_lt S1.out
  obtain ⟨s0, s1, s2, s3, s4, s5, s6, sf, ss⟩ := bk7 S1.out
  obtain ⟨e0, e1, ef, es⟩ := bk2 E1.out
  go_wp2_with fail
  refine (HSp.out _).mono ?_
  rintro e w2 ⟨rfl, b2⟩
  have S2 := Lib.hid (bk_below (bk_alloc S1.out _) b2 (by simp; omega))
  have E2 := Lib.hid (bk_below (bk_alloc E1.out _) b2 (by simp; omega))
  have Y2 := Lib.hid (bk_below (bk_new w1 _ _) b2 (by simp))
  have B2 := Lib.hid (show Below w.heap.size w w2 from B1.out.trans ((Below.mono ((Below.refl w1.heap.size w1).alloc (Nat.le_refl _) _) (by omega)).trans (b2.mono (by simp; omega))))
  clear b2 HSp s0 s1 s2 s3 s4 s5 s6 sf ss e0 e1 ef es
  have hsY := bk_lt Y2.out
  obtain ⟨s0, s1, s2, s3, s4, s5, s6, sf, ss⟩ := bk7 S2.out
  obtain ⟨e0, e1, ef, es⟩ := bk2 E2.out
  obtain ⟨y0, y1, yf, ys⟩ := bk2 Y2.out
  by_cases hK : K = 0
  rotate_left
  · have h5 : (K != 0) = true := by simpa using hK
    have h5' : (K == 0) = false := by simpa using hK
    go_wp2
    all_goals go_ret
    all_goals exact ⟨rfl, by have b2 := B2.out; repeat' (first | (with_reducible exact Below.refl _ _) | (with_reducible assumption) | (with_reducible refine Below.alloc ?_ ?_ _) | (with_reducible refine Below.drew ?_) | (with_reducible refine below_drewN ?_ _) | (with_reducible refine Below.setCell ?_ ?_ _) | (with_reducible refine Below.trans ?_ (Below.mono (by assumption) ?_)) | go_size | (exact Below.size (by assumption)))⟩
  · obtain ⟨hseg, hen, hlaw⟩ := HL.out hK
    subst hK
    have HE2 := Lib.hid (fun (w' : World) => HE.out hseg hen w')
    clear HL HE hseg hen
    go_wp2_with fail
    refine (HE2.out _).mono ?_
    rintro e w3 ⟨rfl, b3⟩
    have S3 := Lib.hid (bk_below (bk_alloc S2.out _) b3 (by simp; omega))
    have E3 := Lib.hid (bk_below (bk_alloc E2.out _) b3 (by simp; omega))
    have Y3 := Lib.hid (bk_below (bk_alloc Y2.out _) b3 (by simp; omega))
    have B3 := Lib.hid (show Below w.heap.size w w3 from B2.out.trans ((Below.mono ((Below.refl w2.heap.size w2).alloc (Nat.le_refl _) _) (by omega)).trans (b3.mono (by simp; omega))))
    clear b3 HE2 s0 s1 s2 s3 s4 s5 s6 sf ss e0 e1 ef es y0 y1 yf ys
    have hsY3 := bk_lt Y3.out
    obtain ⟨s0, s1, s2, s3, s4, s5, s6, sf, ss⟩ := bk7 S3.out
    obtain ⟨e0, e1, ef, es⟩ := bk2 E3.out
    obtain ⟨y0, y1, yf, ys⟩ := bk2 Y3.out
    rcases hlaw with ⟨rfl, q1, q2, q3⟩ | ⟨rfl, q1⟩ | ⟨rfl, q1, q2, q3⟩ | ⟨q0, q1⟩
    · have HI2 := Lib.hid (HI.out 0 0)
      rw [q1, q2, q3] at HI2
      clear q1 q2 q3 HI
      go_wp2_with fail
      refine (HI2.out _).mono ?_
      rintro e w4 ⟨rfl, b4⟩
      have Y4 := bk_below (bk_alloc Y3.out _) b4 (by simp; omega)
      have B4 := Lib.hid (show Below w.heap.size w w4 from B3.out.trans ((Below.mono ((Below.refl w3.heap.size w3).alloc (Nat.le_refl _) _) (by omega)).trans (b4.mono (by simp; omega))))
      clear b4 HI2 s0 s1 s2 s3 s4 s5 s6 sf ss e0 e1 ef es y0 y1 yf ys
      obtain ⟨y0, y1, yf, ys⟩ := bk2 Y4
      go_wp2
      all_goals go_ret
      all_goals exact ⟨by first | rfl | (simp; done), by have b4 := B4.out; repeat' (first | (with_reducible exact Below.refl _ _) | (with_reducible assumption) | (with_reducible refine Below.alloc ?_ ?_ _) | (with_reducible refine Below.drew ?_) | (with_reducible refine below_drewN ?_ _) | (with_reducible refine Below.setCell ?_ ?_ _) | (with_reducible refine Below.trans ?_ (Below.mono (by assumption) ?_)) | go_size | (exact Below.size (by assumption)))⟩
    · clear HI
      rcases q1 with q1 | ⟨q1, q2⟩
      · have t1 : (zc != 0) = true := by simpa using q1
        have t2 : (zc == 0) = false := by simpa using q1
        go_wp2
        all_goals go_ret
        all_goals exact ⟨by first | rfl | (simp; done), by have b3 := B3.out; repeat' (first | (with_reducible exact Below.refl _ _) | (with_reducible assumption) | (with_reducible refine Below.alloc ?_ ?_ _) | (with_reducible refine Below.drew ?_) | (with_reducible refine below_drewN ?_ _) | (with_reducible refine Below.setCell ?_ ?_ _) | (with_reducible refine Below.trans ?_ (Below.mono (by assumption) ?_)) | go_size | (exact Below.size (by assumption)))⟩
      · have t3 : decide (za < a) = true := by simpa using q1
        have t4 : decide (zb < b) = true := by simpa using q2
        by_cases hz : zc = 0
        · subst hz
          go_wp2
          all_goals go_ret
          all_goals exact ⟨by first | rfl | (simp; done), by have b3 := B3.out; repeat' (first | (with_reducible exact Below.refl _ _) | (with_reducible assumption) | (with_reducible refine Below.alloc ?_ ?_ _) | (with_reducible refine Below.drew ?_) | (with_reducible refine below_drewN ?_ _) | (with_reducible refine Below.setCell ?_ ?_ _) | (with_reducible refine Below.trans ?_ (Below.mono (by assumption) ?_)) | go_size | (exact Below.size (by assumption)))⟩
        · have t1 : (zc != 0) = true := by simpa using hz
          have t2 : (zc == 0) = false := by simpa using hz
          go_wp2
          all_goals go_ret
          all_goals exact ⟨by first | rfl | (simp; done), by have b3 := B3.out; repeat' (first | (with_reducible exact Below.refl _ _) | (with_reducible assumption) | (with_reducible refine Below.alloc ?_ ?_ _) | (with_reducible refine Below.drew ?_) | (with_reducible refine below_drewN ?_ _) | (with_reducible refine Below.setCell ?_ ?_ _) | (with_reducible refine Below.trans ?_ (Below.mono (by assumption) ?_)) | go_size | (exact Below.size (by assumption)))⟩
    · clear HI
      subst q1 q2 q3
      go_wp2
      all_goals go_ret
      all_goals exact ⟨by first | rfl | (simp; done), by have b3 := B3.out; repeat' (first | (with_reducible exact Below.refl _ _) | (with_reducible assumption) | (with_reducible refine Below.alloc ?_ ?_ _) | (with_reducible refine Below.drew ?_) | (with_reducible refine below_drewN ?_ _) | (with_reducible refine Below.setCell ?_ ?_ _) | (with_reducible refine Below.trans ?_ (Below.mono (by assumption) ?_)) | go_size | (exact Below.size (by assumption)))⟩
    · clear HI
      rcases q0 with rfl | rfl
      all_goals (
        rcases q1 with rfl | ⟨rfl, q1, q2⟩
        · go_wp2
          all_goals go_ret
          all_goals exact ⟨by first | rfl | (simp; done), by have b3 := B3.out; repeat' (first | (with_reducible exact Below.refl _ _) | (with_reducible assumption) | (with_reducible refine Below.alloc ?_ ?_ _) | (with_reducible refine Below.drew ?_) | (with_reducible refine below_drewN ?_ _) | (with_reducible refine Below.setCell ?_ ?_ _) | (with_reducible refine Below.trans ?_ (Below.mono (by assumption) ?_)) | go_size | (exact Below.size (by assumption)))⟩
        · have t3 : decide (a < za) = true := by simpa using q1
          have t4 : decide (b < zb) = true := by simpa using q2
          go_wp2
          all_goals go_ret
          all_goals exact ⟨by first | rfl | (simp; done), by have b3 := B3.out; repeat' (first | (with_reducible exact Below.refl _ _) | (with_reducible assumption) | (with_reducible refine Below.alloc ?_ ?_ _) | (with_reducible refine Below.drew ?_) | (with_reducible refine below_drewN ?_ _) | (with_reducible refine Below.setCell ?_ ?_ _) | (with_reducible refine Below.trans ?_ (Below.mono (by assumption) ?_)) | go_size | (exact Below.size (by assumption)))⟩)
end Go.Proofs.Ytooifamckccadaa
