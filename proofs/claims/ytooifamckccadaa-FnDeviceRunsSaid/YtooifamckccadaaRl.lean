/- The law on runs with devices. -/
import Derived.Test.YtooifamckccadaaRe
import Derived.Test.YtooifamckccadaaAdw
import Derived.Test.YtooifamckccadaaQt
namespace Go.Proofs.Ytooifamckccadaa
open Go.ChangeShapes Go.WideShapes Go.ChangeAt Go.RowKit
set_option maxRecDepth 20000
set_option linter.unusedVariables false
set_option linter.unusedSimpArgs false
set_option maxHeartbeats 4000000 in
theorem walkFnDeviceRuns (bl : List Int) (hbl : isU8 bl) (C : Option Addr) (cap : Nat) (w : World) (hr : Rd w w.heap.size C (bytesU bl)) (hlc : bl.length ≤ cap) (hm : cap ≤ maxLen) :
   Calls Try.prog 14 #[.slice C bl.length cap] w fun e w' => e = .returned (.bool true) ∧ Below w.heap.size w w' := by
  unfold maxLen at hm
  by_cases hn : bl.length ≤ 4096
  rotate_left
  · have hd : decide ((4096 : Int) < (bl.length : Int)) = true := by simp; omega
    go_enter Try.func14, Try.ntmps14
    go_wp2_with (go_at_call 18; refine (big_any _ _ _ _ (by omega)).mono ?_; rintro e w' ⟨rfl, rfl⟩)
    go_ret
    exact ⟨rfl, Below.refl _ _⟩
  have hd : decide ((4096 : Int) < (bl.length : Int)) = false := by simp; omega
  go_enter Try.func14, Try.ntmps14
  go_wp2_with fail
  refine (big_any _ _ _ _ (by omega)).mono ?_; rintro e w' ⟨rfl, rfl⟩
  go_wp2_with fail
  refine (drawAlong_any bl hbl hn C cap _ hr).mono ?_
  rintro e w0 ⟨l, A, c, f, n, x, y, on, Ao, co, rfl, hl, hon, hlc1, hoc1, Rl, Ro, b0⟩
  clear hr hbl hd hlc1 hoc1
  have z0 := b0.size
  have HA := Lib.hid (fun (w' : World) (h1 : Rd w' w0.heap.size A (l.flatMap eSegment)) (h2 : Rd w' w0.heap.size Ao (ints on)) (hB : w0.heap.size ≤ w'.heap.size) => activeAlong_impl l on f n x y A w0.heap.size c Ao co w' h1 h2 hB (by omega) (by omega))
  have HAs := Lib.hid (fun (w' : World) (h1 : Rd w' w0.heap.size A (l.flatMap eSegment)) (h2 : Rd w' w0.heap.size Ao (ints on)) (hB : w0.heap.size ≤ w'.heap.size) => activeAlong_spec l on f n x y A w0.heap.size c Ao co w' h1 h2 hB (by omega) (by omega))
  have HF := Lib.hid (fun (w' : World) (h1 : Rd w' w0.heap.size A (l.flatMap eSegment)) (h2 : Rd w' w0.heap.size Ao (ints on)) (hB : w0.heap.size ≤ w'.heap.size) => firstDoubt_impl l on f n x y A w0.heap.size c Ao co w' h1 h2 hB (by omega) (by omega))
  have HFs := Lib.hid (fun (w' : World) (h1 : Rd w' w0.heap.size A (l.flatMap eSegment)) (h2 : Rd w' w0.heap.size Ao (ints on)) (hB : w0.heap.size ≤ w'.heap.size) => firstDoubt_spec l on f n x y A w0.heap.size c Ao co w' h1 h2 hB (by omega) (by omega))
  have HDi := Lib.hid (fun (w' : World) (h1 : Rd w' w0.heap.size A (l.flatMap eSegment)) (h2 : Rd w' w0.heap.size Ao (ints on)) (hB : w0.heap.size ≤ w'.heap.size) => areDev_impl l on A w0.heap.size c Ao co w' h1 h2 hB (by omega) (by omega))
  have HDs := Lib.hid (fun (w' : World) (h1 : Rd w' w0.heap.size A (l.flatMap eSegment)) (h2 : Rd w' w0.heap.size Ao (ints on)) (hB : w0.heap.size ≤ w'.heap.size) => areDev_spec l on A w0.heap.size c Ao co w' h1 h2 hB (by omega) (by omega))
  have hnil := (fun (w' : World) (h1 : Rd w' w0.heap.size A (l.flatMap eSegment)) (hB : w0.heap.size ≤ w'.heap.size) => activeAlong_impl l [] f n x y A w0.heap.size c none 0 w' h1 Rd.empty hB (by omega) (by simp))
  simp only [List.length_nil] at hnil
  have HN := Lib.hid hnil
  have HE := Lib.hid (fun (w' : World) (h1 : Rd w' w0.heap.size A (l.flatMap eSegment)) (hB : w0.heap.size ≤ w'.heap.size) => energyAlong_impl l f n x y A w0.heap.size c w' h1 hB (by omega))
  have HP := Lib.hid (fun (w' : World) (h1 : Rd w' w0.heap.size A (l.flatMap eSegment)) (h2 : Rd w' w0.heap.size Ao (ints on)) (hB : w0.heap.size ≤ w'.heap.size) => activeAlong_impl l on f (fdV l on f n x y) x y A w0.heap.size c Ao co w' h1 h2 hB (by omega) (by omega))
  have LAW := Lib.hid (fun h : fdC l on f n x y = 0 => (dr_law h).2)
  have hLR := alR_len l on f n x y
  have hLN := alR_len l [] f n x y
  generalize (layB l && devB l on) = DV at *
  generalize fdC l on f n x y = K at *
  generalize alR l on f (fdV l on f n x y) x y = R2 at *
  generalize alC l on f (fdV l on f n x y) x y = C2 at *
  generalize fdV l on f n x y = V at *
  generalize alR l on f n x y = R at *
  generalize alC l on f n x y = AC at *
  generalize alR l [] f n x y = RN at *
  generalize alC l [] f n x y = CN at *
  have Rl1 := Lib.hid ((Rl.alloc (Nat.le_refl _) (.cells #[.slice A l.length c] 26)).alloc (by simp) (.cells #[.int .i64 x, .int .i64 y] 29))
  have Ro1 := Lib.hid ((Ro.alloc (Nat.le_refl _) (.cells #[.slice A l.length c] 26)).alloc (by simp) (.cells #[.int .i64 x, .int .i64 y] 29))
  have L1 := Lib.hid (bk_alloc (bk_new w0 #[.slice A l.length c] 26) (.cells #[.int .i64 x, .int .i64 y] 29))
  have I1 : Hid (Bk ((w0.alloc (.cells #[.slice A l.length c] 26)).alloc (.cells #[.int .i64 x, .int .i64 y] 29)) (w0.heap.size + 1) #[.int .i64 x, .int .i64 y]) := Lib.hid (by simpa using bk_new (w0.alloc (.cells #[.slice A l.length c] 26)) #[.int .i64 x, .int .i64 y] 29)
  have B1 := Lib.hid (show Below w.heap.size w ((w0.alloc (.cells #[.slice A l.length c] 26)).alloc (.cells #[.int .i64 x, .int .i64 y] 29)) from b0.trans ((((Below.refl w0.heap.size w0).alloc (Nat.le_refl _) _).alloc (by simp) _).mono z0))
  clear Rl Ro b0 hnil
  go_wp2_with fail
  have hz1 : w0.heap.size + 1 < ((w0.alloc (.cells #[.slice A l.length c] 26)).alloc (.cells #[.int .i64 x, .int .i64 y] 29)).heap.size := by simp
  generalize ((w0.alloc (.cells #[.slice A l.length c] 26)).alloc (.cells #[.int .i64 x, .int .i64 y] 29)) = w1 at *
  refine (HA.out w1 Rl1.out Ro1.out (by omega)).mono ?_; rintro e w2 ⟨A2, c2, rfl, o2, b2⟩
  have L2 := Lib.hid (bk_below L1.out b2 (by omega))
  have I2 := Lib.hid (bk_below I1.out b2 (by omega))
  have Rl2 := Lib.hid (Rl1.out.below b2 (by omega))
  have Ro2 := Lib.hid (Ro1.out.below b2 (by omega))
  have B2 := Lib.hid (B1.out.trans (b2.mono (by omega)))
  have z2 := b2.size
  have X2 := Lib.hid (Rd.of_own o2)
  clear o2
  clear b2 L1 I1 Rl1 Ro1 B1 HA
  obtain ⟨s0, sf, ss⟩ := bk1 L2.out
  obtain ⟨q0, q1, qf, qs⟩ := bk2 I2.out
  go_wp2_with fail
  refine (HAs.out w2 Rl2.out Ro2.out (by omega)).mono ?_; rintro e w3 ⟨A3, c3, rfl, o3, b3⟩
  have L3 := Lib.hid (bk_below L2.out b3 (by omega))
  have I3 := Lib.hid (bk_below I2.out b3 (by omega))
  have Rl3 := Lib.hid (Rl2.out.below b3 (by omega))
  have Ro3 := Lib.hid (Ro2.out.below b3 (by omega))
  have B3 := Lib.hid (B2.out.trans (b3.mono (by omega)))
  have z3 := b3.size
  have Y3 := Lib.hid (Rd.of_own o3)
  have X3 := Lib.hid (X2.out.below b3 (by omega))
  clear o3 s0 sf ss q0 q1 qf qs
  clear b3 L2 I2 Rl2 Ro2 B2 HAs X2
  obtain ⟨s0, sf, ss⟩ := bk1 L3.out
  obtain ⟨q0, q1, qf, qs⟩ := bk2 I3.out
  go_wp2_with fail
  refine (HF.out w3 Rl3.out Ro3.out (by omega)).mono ?_; rintro e w4 ⟨rfl, b4⟩
  have L4 := Lib.hid (bk_below L3.out b4 (by omega))
  have I4 := Lib.hid (bk_below I3.out b4 (by omega))
  have Rl4 := Lib.hid (Rl3.out.below b4 (by omega))
  have Ro4 := Lib.hid (Ro3.out.below b4 (by omega))
  have B4 := Lib.hid (B3.out.trans (b4.mono (by omega)))
  have z4 := b4.size
  have Y4 := Lib.hid (Y3.out.below b4 (by omega))
  have X4 := Lib.hid (X3.out.below b4 (by omega))
  clear s0 sf ss q0 q1 qf qs
  clear b4 L3 I3 Rl3 Ro3 B3 HF X3 Y3
  obtain ⟨s0, sf, ss⟩ := bk1 L4.out
  obtain ⟨q0, q1, qf, qs⟩ := bk2 I4.out
  go_wp2_with fail
  refine (HFs.out w4 Rl4.out Ro4.out (by omega)).mono ?_; rintro e w5 ⟨rfl, b5⟩
  have Y5 := Lib.hid (Y4.out.below b5 (by omega))
  have X5 := Lib.hid (X4.out.below b5 (by omega))
  have L5 := Lib.hid (bk_below L4.out b5 (by omega))
  have I5 := Lib.hid (bk_below I4.out b5 (by omega))
  have Rl5 := Lib.hid (Rl4.out.below b5 (by omega))
  have Ro5 := Lib.hid (Ro4.out.below b5 (by omega))
  have B5 := Lib.hid (B4.out.trans (b5.mono (by omega)))
  have z5 := b5.size
  clear s0 sf ss q0 q1 qf qs
  clear b5 HFs L4 I4 Rl4 Ro4 B4 X4 Y4
  have HX := Lib.hid (fun (w' : World) (h1 : Rd w' w2.heap.size A2 (R.flatMap eInterval)) (h2 : Rd w' w3.heap.size A3 (R.flatMap eInterval)) => likeIntervals_same R A2 A3 w2.heap.size w3.heap.size c2 c3 w' h1 h2 hLR)
  obtain ⟨s0, sf, ss⟩ := bk1 L5.out
  have hx0 : w0.heap.size < w5.heap.size := ss
  have hdv : (DV != DV) = false := by cases DV <;> rfl
  go_wp2_with fail
  refine wp_region_cls (S := Below w5.heap.size w5) (by kernel_rfl) (by kernel_rfl) (below_drew1 _ _) ?_
  replace s0 := cls_cell s0 hx0
  repeat (go_big_quiet_step ((first | (go_at_call 62; exact cls_call (Nat.le_refl _) (HX.out _ (cls_rd _ X5.out (by omega)) (cls_rd _ Y5.out (by omega)))) | (go_at_call 63; exact cls_call (Nat.le_refl _) (HDi.out _ (cls_rd _ Rl5.out (by omega)) (cls_rd _ Ro5.out (by omega)) (cls_le _ (by omega)))) | (go_at_call 64; exact cls_call (Nat.le_refl _) (HDs.out _ (cls_rd _ Rl5.out (by omega)) (cls_rd _ Ro5.out (by omega)) (cls_le _ (by omega)))))))
  refine wpQuiet_nil ?_
  rintro w9 ⟨⟨_, b9⟩, rfl⟩
  (try dsimp only)
  have z95 := b9.size
  have L9 := Lib.hid (bk_below L5.out b9 hx0)
  have I9 := Lib.hid (bk_below I5.out b9 (bk_lt I5.out))
  have Rl9 := Lib.hid (Rl5.out.below b9 (by omega))
  have Ro9 := Lib.hid (Ro5.out.below b9 (by omega))
  have B9 := Lib.hid (B5.out.trans (b9.mono (by omega)))
  clear b9
  all_goals (
    have z9 := B9.out.size
    by_cases hK : K = 0
    rotate_left
    · have hk1 : (K != 0) = true := by simpa using hK
      go_wp2
      go_ret
      exact ⟨rfl, B9.out⟩
    have hk1 : (K != 0) = false := by simpa using hK
    have LW := Lib.hid (LAW.out hK)
    clear LAW
    clear s0 sf ss
    obtain ⟨s0, sf, ss⟩ := bk1 L9.out
    obtain ⟨q0, q1, qf, qs⟩ := bk2 I9.out
    go_wp2_with fail
    refine (HN.out w9 Rl9.out (by omega)).mono ?_; rintro e w10 ⟨A4, c4, rfl, o10, b10⟩
    have N10 := Lib.hid (Rd.of_own o10)
    have L10 := Lib.hid (bk_below L9.out b10 (by omega))
    have I10 := Lib.hid (bk_below I9.out b10 (by omega))
    have Rl10 := Lib.hid (Rl9.out.below b10 (by omega))
    have Ro10 := Lib.hid (Ro9.out.below b10 (by omega))
    have B10 := Lib.hid (B9.out.trans (b10.mono (by omega)))
    have z10 := b10.size
    clear o10 b10 s0 sf ss q0 q1 qf qs
    obtain ⟨s0, sf, ss⟩ := bk1 L10.out
    obtain ⟨q0, q1, qf, qs⟩ := bk2 I10.out
    go_wp2_with fail
    refine (HE.out w10 Rl10.out (by omega)).mono ?_; rintro e w11 ⟨A5, c5, rfl, o11, b11⟩
    have M11 := Lib.hid (Rd.of_own o11)
    have N11 := Lib.hid (N10.out.below b11 (by omega))
    have L11 := Lib.hid (bk_below L10.out b11 (by omega))
    have I11 := Lib.hid (bk_below I10.out b11 (by omega))
    have Rl11 := Lib.hid (Rl10.out.below b11 (by omega))
    have Ro11 := Lib.hid (Ro10.out.below b11 (by omega))
    have B11 := Lib.hid (B10.out.trans (b11.mono (by omega)))
    have z11 := b11.size
    clear o11 b11 s0 sf ss q0 q1 qf qs
    obtain ⟨s0, sf, ss⟩ := bk1 L11.out
    obtain ⟨q0, q1, qf, qs⟩ := bk2 I11.out
    have HXN := Lib.hid (fun (w' : World) (h1 : Rd w' w10.heap.size A4 (RN.flatMap eInterval)) (h2 : Rd w' w11.heap.size A5 (RN.flatMap eInterval)) => likeIntervals_same RN A4 A5 w10.heap.size w11.heap.size c4 c5 w' h1 h2 hLN)
    rcases LW.out with ⟨hV, hAC⟩ | ⟨hV, hAC, hC2, hR2⟩
    · have v1 : decide (V < 0) = true := decide_eq_true hV
      have v2 : (AC == 0) = true := by simpa using hAC
      clear LW
      go_wp2_with (go_at_call 62; refine (HXN.out _ (by exact N11.out) (by exact M11.out)).mono ?_; rintro e w12 ⟨rfl, b12⟩; have B12 := Lib.hid (B11.out.trans (b12.mono (by omega))))
      go_ret
      exact ⟨rfl, B12.out⟩
    · have v1 : decide (V < 0) = false := decide_eq_false (by omega)
      have v2 : (AC == 0) = false := by rw [beq_eq_false_iff_ne]; exact hAC
      have v3 : ((R2.length : Int) == V) = true := by simpa using hR2
      subst hC2
      clear LW
      go_wp2_with (first | (go_at_call 62; refine (HXN.out _ (by exact N11.out) (by exact M11.out)).mono ?_; rintro e w12 ⟨rfl, b12⟩; have L12 := Lib.hid (bk_below L11.out b12 (by omega)); have I12 := Lib.hid (bk_below I11.out b12 (by omega)); have Rl12 := Lib.hid (Rl11.out.below b12 (by omega)); have Ro12 := Lib.hid (Ro11.out.below b12 (by omega)); have B12 := Lib.hid (B11.out.trans (b12.mono (by omega))); have z12 := b12.size; clear b12 s0 sf ss q0 q1 qf qs; obtain ⟨s0, sf, ss⟩ := bk1 L12.out; obtain ⟨q0, q1, qf, qs⟩ := bk2 I12.out) | (go_at_call 45; refine (HP.out _ (by exact Rl12.out) (by exact Ro12.out) (by omega)).mono ?_; rintro e w13 ⟨A6, c6, rfl, o13, b13⟩; have B13 := Lib.hid (B12.out.trans (b13.mono (by omega)))))
      go_ret
      exact ⟨by simp, B13.out⟩)
end Go.Proofs.Ytooifamckccadaa
