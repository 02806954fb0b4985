/- Draws of brakes and of stops. -/
import Derived.Test.YtooifamckccadaaDa
import Derived.Test.YtooifamckccadaaSv
import Derived.Deep.RegionHeld3
namespace Go.Proofs.Ytooifamckccadaa
open Go.ChangeShapes Go.WideShapes Go.ChangeAt Go.RowKit
set_option maxRecDepth 20000
set_option linter.unusedVariables false
set_option linter.unusedSimpArgs false
theorem segP_fill {w0 : World} {g B : Nat} {C : Option Addr} {cap : Nat} {bl : List Int} : ∀ (w4 : World) (a0 a1 a2 a3 a4 a5 a6 : Int), DS w0 w4 g B C cap bl → SegP w0 g B C cap bl (.returned (.agg #[.int .i64 a0, .int .i64 a1, .int .i64 a2, .int .i64 a3, .int .i64 a4, .int .i64 a5, .int .i64 a6])) (((((((w4.setCell ⟨w0.heap.size, 0, none⟩ (.int .i64 a0)).setCell ⟨w0.heap.size, 1, none⟩ (.int .i64 a1)).setCell ⟨w0.heap.size, 2, none⟩ (.int .i64 a2)).setCell ⟨w0.heap.size, 3, none⟩ (.int .i64 a3)).setCell ⟨w0.heap.size, 4, none⟩ (.int .i64 a4)).setCell ⟨w0.heap.size, 5, none⟩ (.int .i64 a5)).setCell ⟨w0.heap.size, 6, none⟩ (.int .i64 a6)) := fun w4 _ _ _ _ _ _ _ d => ⟨_, _, _, _, _, _, _, rfl, d.fill7 (Nat.le_refl _) _ _ _ _ _ _ _⟩
def BothP (w0 : World) (g B : Nat) (C : Option Addr) (cap : Nat) (bl : List Int) (e : Ending) (w' : World) : Prop :=
  ∃ k len rise rl rh fl fh lo hi : Int, e = .returned (.tuple #[.agg #[.int .i64 k, .int .i64 len, .int .i64 rise, .int .i64 rl, .int .i64 rh, .int .i64 fl, .int .i64 fh], .agg #[.int .i64 lo, .int .i64 hi]]) ∧ DS w0 w' g B C cap bl
set_option maxHeartbeats 2000000 in
theorem l07DrawBrake_any (w0 : World) (g B : Nat) (C : Option Addr) (cap : Nat) (bl : List Int) (h : DS w0 w0 g B C cap bl) :
   Calls Try.prog 183 #[.pointer (some ⟨g, 0, none⟩)] w0 (SegP w0 g B C cap bl) := by
  have hg0 := h.size.2
  have H := Lib.hid h
  clear h
  go_enter Try.func183, Try.ntmps183
  go_wp2_with fail
  refine (next_al (H.out.alloc _) _).mono ?_
  rintro e w1 ⟨c, rfl, d1, g1⟩
  have D1 := Lib.hid (d1)
  have K1 := Lib.hid (bk_keep (bk_new w0 _ _) g1 hg0)
  clear d1 g1
  obtain ⟨q0, q1, q2, q3, q4, q5, q6, qf, qs⟩ := bk7 K1.out
  by_cases hc : c = 0
  · subst hc
    go_wp2_with fail
    refine (l03DrawAny_any w1 g B C cap bl D1.out.again).mono ?_
    rintro e w2 ⟨k, len, rise, rl, rh, fl, fh, rfl, d2⟩
    have D2 := Lib.hid (D1.out.join d2)
    have K2 := Lib.hid (bk_keep (K1.out) d2.2.2.1 hg0)
    clear d2 q0 q1 q2 q3 q4 q5 q6 qf qs
    obtain ⟨q0, q1, q2, q3, q4, q5, q6, qf, qs⟩ := bk7 K2.out
    go_wp2
    (try simp only [Exit.inBlock, Exit.then])
    refine ret_seg rfl rfl rfl (bk_fill7 K2.out _ _ _ _ _ _ _) ?_
    exact segP_fill _ _ _ _ _ _ _ _ D2.out
  · have hcb : (c == 0) = false := by rw [beq_eq_false_iff_ne]; exact hc
    go_wp2_with fail
    refine (next_al D1.out _).mono ?_
    rintro e w2 ⟨y, rfl, d2, g2⟩
    have D2 := Lib.hid (d2)
    have K2 := Lib.hid (bk_keep (K1.out) g2 hg0)
    clear d2 g2 q0 q1 q2 q3 q4 q5 q6 qf qs
    obtain ⟨q0, q1, q2, q3, q4, q5, q6, qf, qs⟩ := bk7 K2.out
    go_wp2_with fail
    refine (l03DrawSegment_any w2 g B C cap bl _ D2.out.again).mono ?_
    rintro e w3 ⟨k, len, rise, rl, rh, fl, fh, rfl, d3⟩
    have D3 := Lib.hid (D2.out.join d3)
    have K3 := Lib.hid (bk_keep (K2.out) d3.2.2.1 hg0)
    clear d3 q0 q1 q2 q3 q4 q5 q6 qf qs
    obtain ⟨q0, q1, q2, q3, q4, q5, q6, qf, qs⟩ := bk7 K3.out
    have z3 := D3.out.size.1
    have hb3 := bk_lt K3.out
    have hg3 : g < w3.heap.size := by omega
    have hne : w3.heap.size ≠ w0.heap.size := by omega
    have hne2 : w0.heap.size ≠ w3.heap.size := by omega
    go_wp2_with fail
    refine (next_al (D3.out.alloc _) _).mono ?_
    rintro e w4 ⟨y2, rfl, d4, g4⟩
    have D4 := Lib.hid (d4)
    have K4 := Lib.hid (bk_keep (bk_alloc K3.out _) g4 hg0)
    have L4 := Lib.hid (bk_keep (bk_new w3 _ _) g4 hg3)
    clear d4 g4 q0 q1 q2 q3 q4 q5 q6 qf qs
    obtain ⟨q0, q1, q2, q3, q4, q5, q6, qf, qs⟩ := bk7 K4.out
    obtain ⟨c0, c1, c2, c3, c4, c5, c6, cf, cs⟩ := bk7 L4.out
    by_cases hc2 : y2 = 0
    · subst hc2
      go_wp2_with fail
      refine (next_al (D4.out.set z3 _ _) _).mono ?_
      rintro e w5 ⟨x, rfl, d5, g5⟩
      have D5 := Lib.hid (d5)
      have K5 := Lib.hid (bk_keep (bk_other K4.out hne _ _) g5 hg0)
      have L5 := Lib.hid (bk_keep (bk_set L4.out 2 _ _ rfl) g5 hg3)
      clear d5 g5 q0 q1 q2 q3 q4 q5 q6 qf qs c0 c1 c2 c3 c4 c5 c6 cf cs
      obtain ⟨q0, q1, q2, q3, q4, q5, q6, qf, qs⟩ := bk7 K5.out
      obtain ⟨c0, c1, c2, c3, c4, c5, c6, cf, cs⟩ := bk7 L5.out
      go_wp2
      (try simp only [Exit.inBlock, Exit.then])
      refine ret_seg rfl rfl rfl (bk_fill7 (bk_other (bk_other K5.out hne _ _) hne _ _) _ _ _ _ _ _ _) ?_
      exact segP_fill _ _ _ _ _ _ _ _ ((D5.out.set z3 _ _).set z3 _ _)
    · have hcb2 : (y2 == 0) = false := by rw [beq_eq_false_iff_ne]; exact hc2
      go_wp2
      (try simp only [Exit.inBlock, Exit.then])
      refine ret_seg rfl rfl rfl (bk_fill7 K4.out _ _ _ _ _ _ _) ?_
      exact segP_fill _ _ _ _ _ _ _ _ D4.out
theorem ds_below {w0 w w' : World} {g B : Nat} {C : Option Addr} {cap : Nat} {bl : List Int} (h : DS w0 w g B C cap bl) (hb : Below w.heap.size w w') : DS w0 w' g B C cap bl := h.below (hb.mono h.size.1)
theorem bothP_mk {w0 w : World} {g B : Nat} {C : Option Addr} {cap : Nat} {bl : List Int} (k len rise rl rh fl fh lo hi : Int) (d : DS w0 w g B C cap bl) : BothP w0 g B C cap bl (.returned (.tuple #[.agg #[.int .i64 k, .int .i64 len, .int .i64 rise, .int .i64 rl, .int .i64 rh, .int .i64 fl, .int .i64 fh], .agg #[.int .i64 lo, .int .i64 hi]])) w := ⟨_, _, _, _, _, _, _, _, _, rfl, d⟩
set_option maxHeartbeats 4000000 in
theorem l07DrawStop_any (w0 : World) (g B : Nat) (C : Option Addr) (cap : Nat) (bl : List Int) (h : DS w0 w0 g B C cap bl) :
   Calls Try.prog 163 #[.pointer (some ⟨g, 0, none⟩)] w0 (BothP w0 g B C cap bl) := by
  have hg0 := h.size.2
  have H := Lib.hid h
  clear h
  go_enter Try.func163, Try.ntmps163
  go_wp2_with fail
  refine (l07DrawBrake_any _ g B C cap bl ((H.out.alloc _).alloc _).again).mono ?_
  rintro e w1 ⟨k, len, rise, rl, rh, fl, fh, rfl, d1⟩
  have D1 := Lib.hid (((H.out.alloc _).alloc _).join d1)
  have K1 := Lib.hid (bk_keep (bk_alloc (bk_new w0 _ _) _) d1.2.2.1 hg0)
  skip
  obtain ⟨q0, q1, q2, q3, q4, q5, q6, qf, qs⟩ := bk7 K1.out
  have I1 : Hid (Bk w1 (w0.heap.size + 1) #[.int .i64 0, .int .i64 0]) := Lib.hid (by have h := bk_keep (bk_new (w0.alloc (.cells #[.int .i64 0, .int .i64 0, .int .i64 0, .int .i64 0, .int .i64 0, .int .i64 0, .int .i64 0] 39)) #[.int .i64 0, .int .i64 0] 29) d1.2.2.1 (by simp; omega); simpa using h)
  clear d1
  have z1 := D1.out.size.1
  have hb1 := bk_lt I1.out
  have hg1 : g < w1.heap.size := by omega
  have hgI : g < w0.heap.size + 1 := by omega
  have zI : w0.heap.size ≤ w0.heap.size + 1 := by omega
  have m1 : w1.heap.size ≠ w0.heap.size := by omega
  have m2 : w0.heap.size ≠ w1.heap.size := by omega
  have m3 : w1.heap.size ≠ w0.heap.size + 1 := by omega
  have m4 : w0.heap.size + 1 ≠ w1.heap.size := by omega
  have m5 : w0.heap.size ≠ w0.heap.size + 1 := by omega
  have m6 : w0.heap.size + 1 ≠ w0.heap.size := by omega
  clear q0 q1 q2 q3 q4 q5 q6 qf qs
  have HS := Lib.hid (fun (r : Bool) (hr : segB k len rise rl rh fl fh = r) (w' : World) => isSeg_spec_r k len rise rl rh fl fh r hr w')
  have HB := Lib.hid (fun (r : Bool) (hr : brkB k = r) (w' : World) => show Calls Try.prog 136 #[.agg #[.int .i64 k, .int .i64 len, .int .i64 rise, .int .i64 rl, .int .i64 rh, .int .i64 fl, .int .i64 fh]] w' fun e w'' => e = .returned (.bool r) ∧ Below w'.heap.size w' w'' from by have h := isBrake_spec k len rise rl rh fl fh w'; rw [hr] at h; exact h)
  have LB : ∀ (w' : World) , Below (w1.heap.size + 1) (w1.alloc (.cells #[.int .i64 k, .int .i64 len, .int .i64 rise, .int .i64 rl, .int .i64 rh, .int .i64 fl, .int .i64 fh] 39)) w' → DS w0 w' g B C cap bl ∧ Bk w' w0.heap.size #[.int .i64 0, .int .i64 0, .int .i64 0, .int .i64 0, .int .i64 0, .int .i64 0, .int .i64 0] ∧ Bk w' (w0.heap.size + 1) #[.int .i64 0, .int .i64 0] ∧ Bk w' w1.heap.size #[.int .i64 k, .int .i64 len, .int .i64 rise, .int .i64 rl, .int .i64 rh, .int .i64 fl, .int .i64 fh] := fun w' h => ⟨(D1.out.alloc _).below (h.mono (by omega)), bk_below (bk_alloc K1.out _) h (by omega), bk_below (bk_alloc I1.out _) h (by omega), bk_below (bk_new w1 _ _) h (by omega)⟩
  have HLB := Lib.hid LB
  clear LB
  cases hseg : segB k len rise rl rh fl fh with
  | false =>
    go_wp2_with fail
    refine (HS.out false hseg _).mono ?_
    rintro e w2 ⟨rfl, b2⟩
    obtain ⟨d2, k2, i2, l2⟩ := HLB.out w2 (by simpa using b2)
    have D2 := Lib.hid d2
    have K2 := Lib.hid k2
    have I2 := Lib.hid i2
    have L2 := Lib.hid l2
    clear d2 k2 i2 l2 b2
    obtain ⟨q0, q1, q2, q3, q4, q5, q6, qf, qs⟩ := bk7 K2.out
    obtain ⟨j0, j1, jf, js⟩ := bk2 I2.out
    obtain ⟨c0, c1, c2, c3, c4, c5, c6, cf, cs⟩ := bk7 L2.out
    go_wp2_with fail
    go_region_with ((go_at_call 116; clear q0 q1 q2 q3 q4 q5 q6 qf qs j0 j1 jf js c0 c1 c2 c3 c4 c5 c6 cf cs; refine (l06Draw_any _ g B C cap bl (by first | exact D2.out.again | exact D2.out.drew.again)).mono ?_; rintro e w9 ⟨lo, hi, rfl, e9⟩; have d9 := (show DS w0 w9 g B C cap bl from by first | exact D2.out.join e9 | exact D2.out.drew.join e9); have D9 := Lib.hid d9; have K9 := Lib.hid (bk_keep (by first | exact bk_drew K2.out | exact K2.out) e9.2.2.1 hg0); have I9 := Lib.hid (bk_keep (by first | exact bk_drew I2.out | exact I2.out) e9.2.2.1 hgI); have L9 := Lib.hid (bk_keep (by first | exact bk_drew L2.out | exact L2.out) e9.2.2.1 hg1); obtain ⟨q0, q1, q2, q3, q4, q5, q6, qf, qs⟩ := bk7 K9.out; obtain ⟨j0, j1, jf, js⟩ := bk2 I9.out; obtain ⟨c0, c1, c2, c3, c4, c5, c6, cf, cs⟩ := bk7 L9.out; clear d9 e9))
    all_goals go_wp2
    all_goals (try simp only [Exit.inBlock, Exit.then])
    all_goals refine ret_both rfl rfl rfl rfl (bk_other (bk_other (bk_fill7 K9.out _ _ _ _ _ _ _) m6 _ _) m6 _ _) (bk_fill2 (bk_other (bk_other (bk_other (bk_other (bk_other (bk_other (bk_other I9.out m5 _ _) m5 _ _) m5 _ _) m5 _ _) m5 _ _) m5 _ _) m5 _ _) _ _) ?_
    all_goals exact bothP_mk _ _ _ _ _ _ _ _ _ ((D9.out.fill7 (Nat.le_refl _) _ _ _ _ _ _ _).fill2 zI _ _)
  | true =>
    go_wp2_with fail
    refine (HS.out true hseg _).mono ?_
    rintro e w2 ⟨rfl, b2⟩
    obtain ⟨d2, k2, i2, l2⟩ := HLB.out w2 (by simpa using b2)
    have D2 := Lib.hid d2
    have K2 := Lib.hid k2
    have I2 := Lib.hid i2
    have L2 := Lib.hid l2
    clear d2 k2 i2 l2 b2
    obtain ⟨q0, q1, q2, q3, q4, q5, q6, qf, qs⟩ := bk7 K2.out
    obtain ⟨j0, j1, jf, js⟩ := bk2 I2.out
    obtain ⟨c0, c1, c2, c3, c4, c5, c6, cf, cs⟩ := bk7 L2.out
    cases hbr : brkB k with
    | false =>
      go_wp2_with fail
      refine (HB.out false hbr _).mono ?_
      rintro e w3 ⟨rfl, b3⟩
      have D3 := Lib.hid (ds_below D2.out b3)
      have K3 := Lib.hid (bk_below K2.out b3 (by have := bk_lt K2.out; omega))
      have I3 := Lib.hid (bk_below I2.out b3 (by have := bk_lt I2.out; omega))
      have L3 := Lib.hid (bk_below L2.out b3 (by have := bk_lt L2.out; omega))
      clear b3
      clear q0 q1 q2 q3 q4 q5 q6 qf qs j0 j1 jf js c0 c1 c2 c3 c4 c5 c6 cf cs
      obtain ⟨q0, q1, q2, q3, q4, q5, q6, qf, qs⟩ := bk7 K3.out
      obtain ⟨j0, j1, jf, js⟩ := bk2 I3.out
      obtain ⟨c0, c1, c2, c3, c4, c5, c6, cf, cs⟩ := bk7 L3.out
      go_wp2_with fail
      go_region_with ((go_at_call 116; clear q0 q1 q2 q3 q4 q5 q6 qf qs j0 j1 jf js c0 c1 c2 c3 c4 c5 c6 cf cs; refine (l06Draw_any _ g B C cap bl (by first | exact D3.out.again | exact D3.out.drew.again)).mono ?_; rintro e w9 ⟨lo, hi, rfl, e9⟩; have d9 := (show DS w0 w9 g B C cap bl from by first | exact D3.out.join e9 | exact D3.out.drew.join e9); have D9 := Lib.hid d9; have K9 := Lib.hid (bk_keep (by first | exact bk_drew K3.out | exact K3.out) e9.2.2.1 hg0); have I9 := Lib.hid (bk_keep (by first | exact bk_drew I3.out | exact I3.out) e9.2.2.1 hgI); have L9 := Lib.hid (bk_keep (by first | exact bk_drew L3.out | exact L3.out) e9.2.2.1 hg1); obtain ⟨q0, q1, q2, q3, q4, q5, q6, qf, qs⟩ := bk7 K9.out; obtain ⟨j0, j1, jf, js⟩ := bk2 I9.out; obtain ⟨c0, c1, c2, c3, c4, c5, c6, cf, cs⟩ := bk7 L9.out; clear d9 e9))
      all_goals go_wp2
      all_goals (try simp only [Exit.inBlock, Exit.then])
      all_goals refine ret_both rfl rfl rfl rfl (bk_other (bk_other (bk_fill7 K9.out _ _ _ _ _ _ _) m6 _ _) m6 _ _) (bk_fill2 (bk_other (bk_other (bk_other (bk_other (bk_other (bk_other (bk_other I9.out m5 _ _) m5 _ _) m5 _ _) m5 _ _) m5 _ _) m5 _ _) m5 _ _) _ _) ?_
      all_goals exact bothP_mk _ _ _ _ _ _ _ _ _ ((D9.out.fill7 (Nat.le_refl _) _ _ _ _ _ _ _).fill2 zI _ _)
    | true =>
      go_wp2_with fail
      refine (HB.out true hbr _).mono ?_
      rintro e w3 ⟨rfl, b3⟩
      have D3 := Lib.hid (ds_below D2.out b3)
      have K3 := Lib.hid (bk_below K2.out b3 (by have := bk_lt K2.out; omega))
      have I3 := Lib.hid (bk_below I2.out b3 (by have := bk_lt I2.out; omega))
      have L3 := Lib.hid (bk_below L2.out b3 (by have := bk_lt L2.out; omega))
      clear b3
      clear q0 q1 q2 q3 q4 q5 q6 qf qs j0 j1 jf js c0 c1 c2 c3 c4 c5 c6 cf cs
      obtain ⟨q0, q1, q2, q3, q4, q5, q6, qf, qs⟩ := bk7 K3.out
      obtain ⟨j0, j1, jf, js⟩ := bk2 I3.out
      obtain ⟨c0, c1, c2, c3, c4, c5, c6, cf, cs⟩ := bk7 L3.out
      go_wp2_with fail
      refine (next_al D3.out _).mono ?_
      rintro e w4 ⟨x, rfl, d4, g4⟩
      clear q0 q1 q2 q3 q4 q5 q6 qf qs j0 j1 jf js c0 c1 c2 c3 c4 c5 c6 cf cs; 
      have D4 := Lib.hid d4
      have K4 := Lib.hid (bk_keep (by first | exact bk_drew K3.out | exact K3.out) g4 hg0)
      have I4 := Lib.hid (bk_keep (by first | exact bk_drew I3.out | exact I3.out) g4 hgI)
      have L4 := Lib.hid (bk_keep (by first | exact bk_drew L3.out | exact L3.out) g4 hg1)
      obtain ⟨q0, q1, q2, q3, q4, q5, q6, qf, qs⟩ := bk7 K4.out
      obtain ⟨j0, j1, jf, js⟩ := bk2 I4.out
      obtain ⟨c0, c1, c2, c3, c4, c5, c6, cf, cs⟩ := bk7 L4.out
      clear d4 g4
      by_cases hx : x = 0
      · subst hx
        obtain ⟨W1, W2, hW⟩ : ∃ W1 W2, workP (k, len, rise, rl, rh, fl, fh) = (W1, W2) := ⟨_, _, rfl⟩
        have HW := Lib.hid (fun w' => work_spec_t k len rise rl rh fl fh W1 W2 hW hseg w')
        clear hW
        go_wp2_with fail
        refine (HW.out _).mono ?_
        rintro e w5 ⟨rfl, b5⟩
        have D5 := Lib.hid (ds_below D4.out b5)
        have K5 := Lib.hid (bk_below K4.out b5 (by have := bk_lt K4.out; omega))
        have I5 := Lib.hid (bk_below I4.out b5 (by have := bk_lt I4.out; omega))
        have L5 := Lib.hid (bk_below L4.out b5 (by have := bk_lt L4.out; omega))
        clear b5
        clear q0 q1 q2 q3 q4 q5 q6 qf qs j0 j1 jf js c0 c1 c2 c3 c4 c5 c6 cf cs
        obtain ⟨q0, q1, q2, q3, q4, q5, q6, qf, qs⟩ := bk7 K5.out
        obtain ⟨j0, j1, jf, js⟩ := bk2 I5.out
        obtain ⟨c0, c1, c2, c3, c4, c5, c6, cf, cs⟩ := bk7 L5.out
        go_wp2_with fail
        refine (pick_al (D5.out.alloc _) [_, _, _, _, _] 5 _ (by first | rfl | simp) _ (by rfl) rfl (by omega) (by omega)).mono ?_
        rintro e w6 ⟨y, rfl, d6, g6⟩
        clear q0 q1 q2 q3 q4 q5 q6 qf qs j0 j1 jf js c0 c1 c2 c3 c4 c5 c6 cf cs; 
        have D6 := Lib.hid d6
        have K6 := Lib.hid (bk_keep (bk_alloc (bk_alloc K5.out _) _) g6 hg0)
        have I6 := Lib.hid (bk_keep (bk_alloc (bk_alloc I5.out _) _) g6 hgI)
        have L6 := Lib.hid (bk_keep (bk_alloc (bk_alloc L5.out _) _) g6 hg1)
        clear d6 g6
        obtain ⟨q0, q1, q2, q3, q4, q5, q6, qf, qs⟩ := bk7 K6.out
        obtain ⟨j0, j1, jf, js⟩ := bk2 I6.out
        obtain ⟨c0, c1, c2, c3, c4, c5, c6, cf, cs⟩ := bk7 L6.out
        by_cases hy : 0 < y
        all_goals go_wp2_with fail
        all_goals go_region_held3 (fun w' => w'.cell? ⟨w1.heap.size, 0, none⟩ = some (.int .i64 k) ∧ w'.cell? ⟨w1.heap.size, 1, none⟩ = some (.int .i64 len) ∧ w'.cell? ⟨w1.heap.size, 2, none⟩ = some (.int .i64 rise) ∧ w'.cell? ⟨w1.heap.size, 3, none⟩ = some (.int .i64 rl) ∧ w'.cell? ⟨w1.heap.size, 4, none⟩ = some (.int .i64 rh) ∧ w'.cell? ⟨w1.heap.size, 5, none⟩ = some (.int .i64 fl) ∧ w'.cell? ⟨w1.heap.size, 6, none⟩ = some (.int .i64 fh)) (simp [*, World.cell?_alloc_past, World.cell?_setCell_far]) (first | (go_at_call 117; clear q0 q1 q2 q3 q4 q5 q6 qf qs j0 j1 jf js c0 c1 c2 c3 c4 c5 c6 cf cs; refine (next_al D7.out _).mono ?_; rintro e w9 ⟨y9, rfl, d9, g9⟩; have D9 := Lib.hid d9; have K9 := Lib.hid (bk_keep (by first | exact bk_drew K7.out | exact K7.out) g9 hg0); have I9 := Lib.hid (bk_keep (by first | exact bk_drew I7.out | exact I7.out) g9 hgI); have L9 := Lib.hid (bk_keep (by first | exact bk_drew L7.out | exact L7.out) g9 hg1); obtain ⟨q0, q1, q2, q3, q4, q5, q6, qf, qs⟩ := bk7 K9.out; obtain ⟨j0, j1, jf, js⟩ := bk2 I9.out; obtain ⟨c0, c1, c2, c3, c4, c5, c6, cf, cs⟩ := bk7 L9.out; clear d9 g9) | (go_at_call 117; clear q0 q1 q2 q3 q4 q5 q6 qf qs j0 j1 jf js c0 c1 c2 c3 c4 c5 c6 cf cs; refine (next_al (by first | exact D6.out | exact D6.out.drew) _).mono ?_; rintro e w7 ⟨y7, rfl, d7, g7⟩; have D7 := Lib.hid d7; have K7 := Lib.hid (bk_keep (by first | exact bk_drew K6.out | exact K6.out) g7 hg0); have I7 := Lib.hid (bk_keep (by first | exact bk_drew I6.out | exact I6.out) g7 hgI); have L7 := Lib.hid (bk_keep (by first | exact bk_drew L6.out | exact L6.out) g7 hg1); obtain ⟨q0, q1, q2, q3, q4, q5, q6, qf, qs⟩ := bk7 K7.out; obtain ⟨j0, j1, jf, js⟩ := bk2 I7.out; obtain ⟨c0, c1, c2, c3, c4, c5, c6, cf, cs⟩ := bk7 L7.out; clear d7 g7))
        all_goals (go_step; go_step; go_step)
        all_goals (try simp only [Exit.inBlock, Exit.then])
        all_goals refine ret_both rfl rfl rfl rfl (bk_other (bk_other (bk_fill7 K9.out _ _ _ _ _ _ _) m6 _ _) m6 _ _) (bk_fill2 (bk_other (bk_other (bk_other (bk_other (bk_other (bk_other (bk_other I9.out m5 _ _) m5 _ _) m5 _ _) m5 _ _) m5 _ _) m5 _ _) m5 _ _) _ _) ?_
        all_goals exact bothP_mk _ _ _ _ _ _ _ _ _ ((D9.out.fill7 (Nat.le_refl _) _ _ _ _ _ _ _).fill2 zI _ _)
      · have hxb : (x == 0) = false := by rw [beq_eq_false_iff_ne]; exact hx
        go_wp2_with fail
        go_region_with ((go_at_call 116; clear q0 q1 q2 q3 q4 q5 q6 qf qs j0 j1 jf js c0 c1 c2 c3 c4 c5 c6 cf cs; refine (l06Draw_any _ g B C cap bl (by first | exact D4.out.again | exact D4.out.drew.again)).mono ?_; rintro e w9 ⟨lo, hi, rfl, e9⟩; have d9 := (show DS w0 w9 g B C cap bl from by first | exact D4.out.join e9 | exact D4.out.drew.join e9); have D9 := Lib.hid d9; have K9 := Lib.hid (bk_keep (by first | exact bk_drew K4.out | exact K4.out) e9.2.2.1 hg0); have I9 := Lib.hid (bk_keep (by first | exact bk_drew I4.out | exact I4.out) e9.2.2.1 hgI); have L9 := Lib.hid (bk_keep (by first | exact bk_drew L4.out | exact L4.out) e9.2.2.1 hg1); obtain ⟨q0, q1, q2, q3, q4, q5, q6, qf, qs⟩ := bk7 K9.out; obtain ⟨j0, j1, jf, js⟩ := bk2 I9.out; obtain ⟨c0, c1, c2, c3, c4, c5, c6, cf, cs⟩ := bk7 L9.out; clear d9 e9))
        all_goals go_wp2
        all_goals (try simp only [Exit.inBlock, Exit.then])
        all_goals refine ret_both rfl rfl rfl rfl (bk_other (bk_other (bk_fill7 K9.out _ _ _ _ _ _ _) m6 _ _) m6 _ _) (bk_fill2 (bk_other (bk_other (bk_other (bk_other (bk_other (bk_other (bk_other I9.out m5 _ _) m5 _ _) m5 _ _) m5 _ _) m5 _ _) m5 _ _) m5 _ _) _ _) ?_
        all_goals exact bothP_mk _ _ _ _ _ _ _ _ _ ((D9.out.fill7 (Nat.le_refl _) _ _ _ _ _ _ _).fill2 zI _ _)
end Go.Proofs.Ytooifamckccadaa
