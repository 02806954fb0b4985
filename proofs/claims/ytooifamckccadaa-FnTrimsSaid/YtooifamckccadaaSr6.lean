/- The sort of few numbers: pdqsort: of twelve or fewer numbers it sorts, of 24 or fewer it is safe. -/
import Derived.Test.YtooifamckccadaaSr3
import Derived.Test.YtooifamckccadaaSr4
import Derived.Test.YtooifamckccadaaSr5
import Derived.Deep.CutBlock
namespace Go.Proofs.Ytooifamckccadaa
open Go.ChangeShapes Go.WideShapes Go.ChangeAt Go.RowKit
set_option maxRecDepth 20000
set_option linter.unusedVariables false
set_option linter.unusedSimpArgs false
set_option maxHeartbeats 4000000 in
theorem pdq_small (base g n c a b : Nat) (lim : Int) (d0 : List Int) (w : World) (hn : n ≤ 24) (hab : a ≤ b) (hb : b ≤ n) (hs : b ≤ a + 12) (h : Row w base g n c d0) :
   Calls Try.prog 180 #[.slice (some ⟨g, 0, none⟩) n c, .int .i64 a, .int .i64 b, .int .i64 lim] w (RowP base g n c w (fun d => d.Perm d0 ∧ SrtTo a b d)) := by
  have HI := Lib.hid (insertion_anyS base g n c a b d0 w hn hab hb h)
  clear h
  go_enter Try.func180, Try.ntmps180
  go_wp2_with fail
  go_loopw [1, 2, 3, 8, 9] (fun v1 v2 v3 v8 v9 wr => v1 = .int .i64 a ∧ v2 = .int .i64 b ∧ v3 = .int .i64 lim ∧ v8 = .bool true ∧ v9 = .bool true ∧ wr = w) (fun _ _ _ _ _ _ => 0)
  case atStart => exact ⟨rfl, rfl, rfl, rfl, rfl, rfl⟩
  case round =>
    obtain ⟨rfl, rfl, rfl, rfl, rfl, hwr⟩ := hrel
    subst hwr
    have q1 : (b : Int) - (a : Int) ≤ 12 := by omega
    have q2 : -24 ≤ (b : Int) - (a : Int) := by omega
    go_wp2_with fail
    refine HI.out.mono ?_
    rintro e w1 ⟨d2, rfl, hq, r2, g2⟩
    go_wp2
    go_end0
    exact ⟨d2, rfl, hq, r2, g2⟩
set_option maxHeartbeats 8000000 in
theorem pdq_any (base g n c a0 b0 : Nat) (lim0 : Int) (d : List Int) (w : World) (hn : n ≤ 24) (hab : a0 ≤ b0) (hb : b0 ≤ n) (hl0 : 0 ≤ lim0) (hl1 : lim0 ≤ 64) (h : Row w base g n c d) :
   Calls Try.prog 180 #[.slice (some ⟨g, 0, none⟩) n c, .int .i64 a0, .int .i64 b0, .int .i64 lim0] w (RowP base g n c w (fun _ => True)) := by
  have H := Lib.hid h
  clear h
  go_enter Try.func180, Try.ntmps180
  go_wp2_with fail
  go_loopw [1, 2, 3, 8, 9] (fun v1 v2 v3 v8 v9 wr => ∃ (a b : Nat) (lim : Int) (wb wp : Bool) (d' : List Int), a ≤ b ∧ b ≤ n ∧ 0 ≤ lim ∧ lim ≤ 64 ∧ v1 = .int .i64 a ∧ v2 = .int .i64 b ∧ v3 = .int .i64 lim ∧ v8 = .bool wb ∧ v9 = .bool wp ∧ Row wr base g n c d' ∧ w.grownBy wr (some g)) (fun v1 v2 _ _ _ _ => (intOf v2).toNat - (intOf v1).toNat)
  case atStart => exact ⟨a0, b0, lim0, true, true, d, hab, hb, hl0, hl1, rfl, rfl, rfl, rfl, rfl, H.out, World.grownBy.refl _ _⟩
  case round =>
    clear H hab hb hl0 hl1
    obtain ⟨a, b, lim, wb, wp, d', hab, hb, hl0, hl1, rfl, rfl, rfl, rfl, rfl, hr, hg⟩ := hrel
    have Hr := Lib.hid hr
    have Hg := Lib.hid hg
    clear hr hg
    obtain ⟨l, hl⟩ : ∃ l, l = b - a := ⟨_, rfl⟩
    have hl2 : a + l ≤ b ∧ b ≤ a + l ∧ l ≤ 24 := by omega
    have e0 : (b : Int) - (a : Int) = (l : Int) := by omega
    clear hl
    by_cases hs : l ≤ 12
    · have HI := Lib.hid (insertion_anyS base g n c a b d' wr hn (by omega) hb Hr.out)
      have q1 : (l : Int) ≤ 12 := by omega
      go_wp2_with fail
      refine HI.out.mono ?_
      rintro e w1 ⟨d2, rfl, _, r2, g2⟩
      have G2 := Lib.hid (grownBy_trans Hg.out g2)
      clear g2
      go_wp2
      go_end0
      exact ⟨d2, rfl, trivial, r2, G2.out⟩
    · have q1 : ¬ (l : Int) ≤ 12 := by omega
      by_cases hz : lim = 0
      · have HI := Lib.hid (heap_any base g n c a b d' wr hn (by omega) hb Hr.out)
        subst hz
        go_wp2_with fail
        refine HI.out.mono ?_
        rintro e w1 ⟨d2, rfl, _, r2, g2⟩
        have G2 := Lib.hid (grownBy_trans Hg.out g2)
        clear g2
        go_wp2
        go_end0
        exact ⟨d2, rfl, trivial, r2, G2.out⟩
      · have q2 : (lim == 0) = false := by rw [beq_eq_false_iff_ne]; exact hz
        have hz1 : 1 ≤ lim := by omega
        clear hz
        go_upto_if 35 with fail
        go_cut [3] (fun v wx => ∃ (lim2 : Int) (d2 : List Int), 0 ≤ lim2 ∧ lim2 ≤ 64 ∧ v = .int .i64 lim2 ∧ Row wx base g n c d2 ∧ w.grownBy wx (some g))
        case first =>
          cases wb with
          | false =>
            go_wp2_with fail
            refine (break_any base g n c a b d' wr hn (by omega) hb Hr.out).mono ?_
            rintro e w1 ⟨d2, rfl, _, r2, g2⟩
            have R2 := Lib.hid r2
            have G2 := Lib.hid (grownBy_trans Hg.out g2)
            clear r2 g2
            go_wp2
            go_meet
            exact ⟨lim - 1, d2, by omega, by omega, by first | rfl | go_num, R2.out, G2.out⟩
          | true =>
            go_wp2
            go_meet
            exact ⟨lim, d', by omega, by omega, rfl, Hr.out, Hg.out⟩
        case rest =>
          obtain ⟨lim2, d2, hm0, hm1, rfl, hr2, hg2⟩ := hcut
          have R2 := Lib.hid hr2
          have G2 := Lib.hid hg2
          clear hr2 hg2 Hr Hg hl0 hl1 hz1 q2
          go_wp2_with fail
          refine (pivot_any base g n c a b d2 wc hn (by omega) hb R2.out).mono ?_
          rintro e w3 ⟨v, d3, rfl, ⟨p, hint, rfl, hp1, hp2, hh⟩, r3, g3⟩
          have R3 := Lib.hid r3
          have G3 := Lib.hid (grownBy_trans G2.out g3)
          clear r3 g3 R2 G2
          have h9 : (hint == 2) = false := by rw [beq_eq_false_iff_ne]; omega
          go_upto_region 15 with fail
          go_cut [68] (fun v wx => ∃ r : Bool, v = .bool r ∧ wx = w3)
          case first =>
            rcases hh with rfl | rfl
            all_goals (cases wb)
            all_goals (cases wp)
            all_goals go_wp2
            all_goals go_meet
            all_goals exact ⟨_, rfl, rfl⟩
          case rest =>
            obtain ⟨r, rfl, hwc⟩ := hcut
            rw [hwc]
            clear hwc
            go_upto_if 68 with fail
            go_cut [11] (fun v wx => v = .int .i64 p ∧ ∃ d4 : List Int, Row wx base g n c d4 ∧ w.grownBy wx (some g))
            case first =>
              cases r with
              | false =>
                go_wp2
                go_meet
                exact ⟨rfl, d3, R3.out, G3.out⟩
              | true =>
                go_wp2_with fail
                refine (partial_any base g n c a b d3 w3 hn (by omega) hb R3.out).mono ?_
                rintro e w4 ⟨v, d4, rfl, ⟨r4, rfl⟩, r4', g4⟩
                have R4 := Lib.hid r4'
                have G4 := Lib.hid (grownBy_trans G3.out g4)
                clear r4' g4
                cases r4 with
                | true =>
                  go_wp2
                  go_end0
                  exact ⟨d4, rfl, trivial, R4.out, G4.out⟩
                | false =>
                  go_wp2
                  go_meet
                  exact ⟨rfl, d4, R4.out, G4.out⟩
            case rest =>
              obtain ⟨rfl, d4, r4, g4⟩ := hcut
              clear R3 G3
              have R4 := Lib.hid r4
              have G4 := Lib.hid g4
              clear g4
              generalize wc = wo at *
              go_upto_region 17 with fail
              go_cut [87] (fun v wx => ∃ r : Bool, v = .bool r ∧ Row wx base g n c d4 ∧ w.grownBy wx (some g))
              case first =>
                by_cases ha : 0 < a
                · have c0 := r4.cell (show a - 1 < n by omega)
                  have c1 := r4.cell (show p < n by omega)
                  have a0 : (0 : Int) ≤ ((a - 1 : Nat) : Int) := by omega
                  have a1 : ((a - 1 : Nat) : Int) < (n : Int) := by omega
                  have a2 : (0 : Int) ≤ (p : Int) := by omega
                  have a3 : (p : Int) < (n : Int) := by omega
                  have a4 : (0 : Int) < (a : Int) := by omega
                  have e1 : IntKind.i64.wrap ((a : Int) - 1) = ((a - 1 : Nat) : Int) := by rw [show (a : Int) - 1 = ((a - 1 : Nat) : Int) by omega]; exact IntWalk.i64_in _ (by omega)
                  have e2 : (a : Int) - 1 = ((a - 1 : Nat) : Int) := by omega
                  clear r4
                  generalize nth d4 (a - 1) = x at *
                  generalize nth d4 p = y at *
                  go_quiet ((go_at_call 198; exact Calls.quiet_of_same (less_q _ _ _)))
                  go_wp2
                  go_meet
                  exact ⟨_, rfl, R4.out.drewN _, grown_drewNS G4.out _⟩
                · have a4 : ¬ (0 : Int) < (a : Int) := by omega
                  have a5 : decide ((0 : Int) < (a : Int)) = false := decide_eq_false a4
                  clear r4
                  go_quiet (fail)
                  go_wp2
                  go_meet
                  exact ⟨_, rfl, R4.out.drewN _, grown_drewNS G4.out _⟩
              case rest =>
                clear r4 R4 G4 wo
                obtain ⟨r, rfl, r5, g5⟩ := hcut
                have R5 := Lib.hid r5
                have G5 := Lib.hid g5
                clear r5 g5
                cases r with
                | true =>
                  go_wp2_with fail
                  refine (partEq_any base g n c a b p d4 _ hn (by omega) hb hp1 hp2 R5.out).mono ?_
                  rintro e w6 ⟨v, d6, rfl, ⟨m, rfl, hm1', hm2'⟩, r6, g6⟩
                  have R6 := Lib.hid r6
                  have G6 := Lib.hid (grownBy_trans G5.out g6)
                  clear r6 g6
                  go_wp2
                  go_roundw
                  case rel => exact ⟨m, b, lim2, wb, wp, d6, by omega, hb, hm0, hm1, rfl, rfl, rfl, rfl, rfl, R6.out, G6.out⟩
                  case measure => simp [intOf]; omega
                | false =>
                  go_wp2_with fail
                  refine (part_any base g n c a b p d4 _ hn (by omega) hb hp1 hp2 R5.out).mono ?_
                  rintro e w6 ⟨v, d6, rfl, ⟨m, r, rfl, hm1', hm2'⟩, r6, g6⟩
                  have R6 := Lib.hid r6
                  have G6 := Lib.hid (grownBy_trans G5.out g6)
                  clear r6 g6
                  obtain ⟨k1, hk1⟩ : ∃ k1, k1 = m - a := ⟨_, rfl⟩
                  obtain ⟨k2, hk2⟩ : ∃ k2, k2 = b - m := ⟨_, rfl⟩
                  have hk : a + k1 ≤ m ∧ m ≤ a + k1 ∧ m + k2 ≤ b ∧ b ≤ m + k2 := by omega
                  have e3 : (m : Int) - (a : Int) = (k1 : Int) := by omega
                  have e4 : (b : Int) - (m : Int) = (k2 : Int) := by omega
                  clear hk1 hk2
                  by_cases hk3 : k1 < k2
                  · have q3 : (k1 : Int) < (k2 : Int) := by omega
                    have HI := Lib.hid (pdq_small base g n c a m lim2 d6 w6 hn (by omega) (by omega) (by omega) R6.out)
                    go_wp2_with fail
                    refine HI.out.mono ?_
                    rintro e w7 ⟨d7, rfl, _, r7, g7⟩
                    have R7 := Lib.hid r7
                    have G7 := Lib.hid (grownBy_trans G6.out g7)
                    clear r7 g7
                    go_wp2
                    go_roundw
                    case rel => exact ⟨m + 1, b, lim2, _, r, d7, by omega, hb, hm0, hm1, by first | rfl | go_num, rfl, rfl, rfl, rfl, R7.out, G7.out⟩
                    case measure => simp [intOf]; omega
                  · have q3 : ¬ (k1 : Int) < (k2 : Int) := by omega
                    have HI := pdq_small base g n c (m + 1) b lim2 d6 w6 hn (by omega) (by omega) (by omega) R6.out
                    rw [show ((m + 1 : Nat) : Int) = (m : Int) + 1 by omega] at HI
                    have HI2 := Lib.hid HI
                    clear HI
                    go_wp2_with fail
                    refine HI2.out.mono ?_
                    rintro e w7 ⟨d7, rfl, _, r7, g7⟩
                    have R7 := Lib.hid r7
                    have G7 := Lib.hid (grownBy_trans G6.out g7)
                    clear r7 g7
                    go_wp2
                    go_roundw
                    case rel => exact ⟨a, m, lim2, _, r, d7, by omega, by omega, hm0, hm1, rfl, rfl, rfl, rfl, rfl, R7.out, G7.out⟩
                    case measure => simp [intOf]; omega
end Go.Proofs.Ytooifamckccadaa
