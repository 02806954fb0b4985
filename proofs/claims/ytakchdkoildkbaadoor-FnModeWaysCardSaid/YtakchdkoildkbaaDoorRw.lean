/- The law on resets: a walk. -/
import Derived.Test.YtakchdkoildkbaaDoorRs
import Derived.Deep.RegionWith
namespace Go.Proofs.YtakchdkoildkbaaDoor
open Go.ChangeShapes Go.WideShapes Go.ChangeAt Go.RowKit
set_option maxRecDepth 20000
set_option linter.unusedVariables false
set_option linter.unusedSimpArgs false
theorem rn_zero {l : List Cmd} {m : Int} (h : rnC l m = 0) : l.length ≤ 200 ∧ l.all okC = true := by
  rcases rn_cases l m with ⟨_, h1, _⟩ | ⟨_, _, h1, _⟩ | ⟨_, _, _, h1, _⟩ | ⟨h1, h2, _⟩
  · omega
  · omega
  · omega
  · exact ⟨h1, h2⟩
theorem rn_four {l : List Cmd} (h : l.length ≤ 200 ∧ l.all okC = true) : rnC l 4 = 0 ∧ rnM l 4 = modeAt l 4 l.length ∧ rnR l 4 = verdUp l 4 l.length := by
  have hc : rnC l 4 = 0 := by rw [rnC, if_neg (by omega), h.2]; rfl
  exact ⟨hc, by rw [rnM, if_pos hc], by rw [rnR, if_pos hc]⟩
set_option maxHeartbeats 2000000 in
theorem walkFnResets (bl : List Int) (hbl : isU8 bl) (C : Option Addr) (cap : Nat) (w : World) (hr : Rd w w.heap.size C (bytesU bl)) (hlc : bl.length ≤ cap) (hm : cap ≤ maxLen) (T : Rd w w.heap.size (some ⟨0, 0, none⟩) tabL) :
   Calls Tryd.prog 5 #[.slice C bl.length cap] w fun e w' => e = .returned (.bool true) ∧ Below w.heap.size w w' := by
  unfold maxLen at hm
  by_cases hn : bl.length ≤ 4096
  rotate_left
  · have hd : decide ((4096 : Int) < (bl.length : Int)) = true := by simp; omega
    clear T hr
    go_enter Tryd.func5, Tryd.ntmps5
    go_wp2_with (go_at_call 13; refine (big_any _ _ _ _ (by omega)).mono ?_; rintro e w' ⟨rfl, rfl⟩)
    go_ret
    exact ⟨rfl, Below.refl _ _⟩
  have hd : decide ((4096 : Int) < (bl.length : Int)) = false := by simp; omega
  have HT := Lib.hid T
  clear T
  go_enter Tryd.func5, Tryd.ntmps5
  go_wp2_with fail
  refine (big_any _ _ _ _ (by omega)).mono ?_; rintro e w' ⟨rfl, rfl⟩
  go_wp2_with fail
  refine (drawRuns_any bl hbl hn C cap _ hr).mono ?_
  rintro e w0 ⟨m, l, A, c, rfl, hmm, hok, hl, o0, b0⟩
  have R0 := Lib.hid (Rd.of_own o0)
  have T0 := Lib.hid ((HT.out.below b0 (Nat.le_refl _)).more b0.size)
  have z0 := b0.size
  have H0 := Lib.hid b0
  have hl2 : l.length ≤ 1048576 := by omega
  have hrl := rnR_len l m
  clear hr hbl hd HT hmm hok o0 b0 hn hlc hm
  go_wp2_with fail
  refine (run_impl l m A _ c _ R0.out (Nat.le_refl _) hl2 T0.out).mono ?_
  rintro e w1 ⟨A1, c1, rfl, o1, b1⟩
  have z1 := b1.size
  have R1 := Lib.hid (Rd.more (R0.out.below b1 (Nat.le_refl _)) z1)
  clear R0
  have T1 := Lib.hid (Rd.more (T0.out.below b1 (Nat.le_refl _)) z1)
  clear T0
  have V1 := Lib.hid (Rd.of_own o1)
  clear o1
  have H1 := Lib.hid (Below.trans H0.out (b1.mono (by omega)))
  clear b1 H0
  go_wp2_with fail
  refine (run_spec l m A _ c _ R1.out (Nat.le_refl _) hl2).mono ?_
  rintro e w2 ⟨A2, c2, rfl, o2, b2⟩
  have z2 := b2.size
  have R2 := Lib.hid (Rd.more (R1.out.below b2 (Nat.le_refl _)) z2)
  clear R1
  have T2 := Lib.hid (Rd.more (T1.out.below b2 (Nat.le_refl _)) z2)
  clear T1
  have V2 := Lib.hid (Rd.more (V1.out.below b2 (Nat.le_refl _)) z2)
  clear V1
  have U2 := Lib.hid (Rd.of_own o2)
  clear o2
  have H2 := Lib.hid (Below.trans H1.out (b2.mono (by omega)))
  clear b2 H1
  go_wp2_with fail
  refine (likeInts_same (rnR l m) A1 A2 _ _ _ _ _ V2.out U2.out hrl).mono ?_
  rintro e w3 ⟨rfl, b3⟩
  have z3 := b3.size
  have R3 := Lib.hid (Rd.more (R2.out.below b3 (Nat.le_refl _)) z3)
  clear R2
  have T3 := Lib.hid (Rd.more (T2.out.below b3 (Nat.le_refl _)) z3)
  clear T2
  have V3 := Lib.hid (Rd.more (V2.out.below b3 (Nat.le_refl _)) z3)
  clear V2
  have U3 := Lib.hid (Rd.more (U2.out.below b3 (Nat.le_refl _)) z3)
  clear U2
  have H3 := Lib.hid (Below.trans H2.out (b3.mono (by omega)))
  clear b3 H2
  by_cases hc : rnC l m = 0
  rotate_left
  · have hb : (rnC l m != 0) = true := by rw [bne_iff_ne]; exact hc
    clear hc
    go_wp2
    go_ret
    exact ⟨rfl, H3.out⟩
  have hb : (rnC l m != 0) = false := by rw [hc]; rfl
  have hlen := rn_zero hc
  obtain ⟨f1, f2, f3⟩ := rn_four hlen
  have LAW := Lib.hid (reset_law hlen.2 l.length (Nat.le_refl _))
  have hvl := verdUp_length (l := l) (m := 4) l.length (Nat.le_refl _)
  have Hvl := Lib.hid hvl
  have HRI := Lib.hid (fun (w : World) (B : Nat) (hr : Rd w B A (l.flatMap eCommand)) (hB : B ≤ w.heap.size) (hT : Rd w B (some ⟨0, 0, none⟩) tabL) => run_impl l 4 A B c w hr hB hl2 hT)
  have HRS := Lib.hid (fun (w : World) (B : Nat) (hr : Rd w B A (l.flatMap eCommand)) (hB : B ≤ w.heap.size) => run_spec l 4 A B c w hr hB hl2)
  rw [f1, f2, f3, hvl] at HRI HRS
  clear hc f1 f2 f3 V3 U3 hvl
  go_wp2_with fail
  refine (HRI.out _ _ R3.out (Nat.le_refl _) T3.out).mono ?_
  rintro e w4 ⟨A4, c4, rfl, o4, b4⟩
  have z4 := b4.size
  have R4 := Lib.hid (Rd.more (R3.out.below b4 (Nat.le_refl _)) z4)
  clear R3
  have T4 := Lib.hid (Rd.more (T3.out.below b4 (Nat.le_refl _)) z4)
  clear T3
  have V4 := Lib.hid (Rd.of_own o4)
  clear o4
  have H4 := Lib.hid (Below.trans H3.out (b4.mono (by omega)))
  clear b4 H3
  go_wp2_with fail
  refine (HRS.out _ _ R4.out (Nat.le_refl _)).mono ?_
  rintro e w5 ⟨A5, c5, rfl, o5, b5⟩
  have z5 := b5.size
  have R5 := Lib.hid (Rd.more (R4.out.below b5 (Nat.le_refl _)) z5)
  clear R4
  have T5 := Lib.hid (Rd.more (T4.out.below b5 (Nat.le_refl _)) z5)
  clear T4
  have V5 := Lib.hid (Rd.more (V4.out.below b5 (Nat.le_refl _)) z5)
  clear V4
  have U5 := Lib.hid (Rd.of_own o5)
  clear o5
  have H5 := Lib.hid (Below.trans H4.out (b5.mono (by omega)))
  clear b5 H4
  have LK := Lib.hid (fun (w : World) (B B' : Nat) (hr : Rd w B A4 (ints (verdUp l 4 l.length))) (hr2 : Rd w B' A5 (ints (verdUp l 4 l.length))) => likeInts_same (verdUp l 4 l.length) A4 A5 B B' c4 c5 w hr hr2 (by rw [Hvl.out]; exact hl2))
  rw [Hvl.out] at LK
  go_wp2_with fail
  refine (LK.out _ _ _ V5.out U5.out).mono ?_
  rintro e w6 ⟨rfl, b6⟩
  have z6 := b6.size
  have R6 := Lib.hid (Rd.more (R5.out.below b6 (Nat.le_refl _)) z6)
  clear R5
  have T6 := Lib.hid (Rd.more (T5.out.below b6 (Nat.le_refl _)) z6)
  clear T5
  have V6 := Lib.hid (Rd.more (V5.out.below b6 (Nat.le_refl _)) z6)
  clear V5
  have U6 := Lib.hid (Rd.more (U5.out.below b6 (Nat.le_refl _)) z6)
  clear U5
  have H6 := Lib.hid (Below.trans H5.out (b6.mono (by omega)))
  clear b6 H5
  clear HRI HRS LK T6 V6
  generalize hx : modeAt l 4 l.length = x at *
  have HX := Lib.hid hx
  clear hx
  go_wp2_with fail
  go_loop [17, 18] (fun r i => ∃ k : Nat, k ≤ l.length ∧ i = .int .i64 k ∧ r = .bool (rstUp l (verdUp l 4 l.length) k)) (fun _ i => l.length - (intOf i).toNat)
  case atStart => exact ⟨0, Nat.zero_le _, rfl, rfl⟩
  case round =>
    obtain ⟨k, hk, rfl, rfl⟩ := hrel
    by_cases hlt : k < l.length
    · have ht := List.getElem?_eq_getElem hlt
      generalize l[k] = t at ht
      have hv := verdUp_at (m := 4) ht l.length (by omega) (Nat.le_refl _)
      have hst := rstUp_step ht hv
      generalize verd t.1.toNat (modeAt l 4 k) t.2.1 t.2.2 = v at *
      have Hst := Lib.hid hst
      obtain ⟨bb, o, rfl, _, c0, c1, c2⟩ := R6.out.atCommand ht
      obtain ⟨b2, o2, rfl, _, d0⟩ := U6.out.int hv
      obtain ⟨a, r, q⟩ := t
      simp only at c0 c1 c2
      have hi0 : (0 : Int) ≤ (k : Int) := by omega
      have hi1 : (k : Int) < (l.length : Int) := by omega
      generalize hq : rstUp l (verdUp l 4 l.length) k = q0 at *
      have Hq := Lib.hid hq
      clear hq hst ht hv
      cases q0
      · cases ha : (a == 4)
        · go_wp2
          go_round
          case rel => exact ⟨k + 1, by omega, by go_num, by rw [Hst.out]; simp [rstB, ha]⟩
          case measure => simp [intOf]; omega
        · cases hvv : (v == 0)
          · go_wp2
            go_round
            case rel => exact ⟨k + 1, by omega, by go_num, by rw [Hst.out]; simp [rstB, ha, hvv]⟩
            case measure => simp [intOf]; omega
          · cases hrr : decide (2 ≤ r)
            · go_wp2
              go_round
              case rel => exact ⟨k + 1, by omega, by go_num, by rw [Hst.out]; simp [rstB, ha, hvv, hrr]⟩
              case measure => simp [intOf]; omega
            · go_wp2
              go_round
              case rel => exact ⟨k + 1, by omega, by go_num, by rw [Hst.out]; simp [rstB, ha, hvv, hrr]⟩
              case measure => simp [intOf]; omega
      · go_wp2
        go_round
        case rel => exact ⟨k + 1, by omega, by go_num, by rw [Hst.out]; simp⟩
        case measure => simp [intOf]; omega
    · have hk' : k = l.length := by omega
      subst hk'
      generalize hq : rstUp l (verdUp l 4 l.length) l.length = q0 at *
      have Hq := Lib.hid hq
      clear hq
      have law2 : q0 = true ∨ (x == 4) = true ∨ ((x == 4) = false ∧ (x == 5) = true) := by
        rcases LAW.out with h | h | h
        · left; exact h
        · right; left; rw [h]; rfl
        · right; right; rw [h]; exact ⟨rfl, rfl⟩
      clear LAW
      cases q0
      · rcases law2 with h | h | ⟨h, h2⟩
        · cases h
        · go_wp2
          go_ret
          exact ⟨rfl, H6.out⟩
        · go_wp2
          go_ret
          exact ⟨rfl, H6.out⟩
      · clear law2
        go_wp2
        go_ret
        exact ⟨rfl, H6.out⟩
end Go.Proofs.YtakchdkoildkbaaDoor
