/- Sorting in place, at any length: pdqsort. -/
import Derived.Test.YtmbchcenclfjoaaSq3
import Derived.Test.YtmbchcenclfjoaaSq4
import Derived.Test.YtmbchcenclfjoaaSq5
import Derived.Test.YtmbchcenclfjoaaSq6
import Derived.Deep.CutBlock
namespace Go.Proofs.Ytmbchcenclfjoaa
open Go.ChangeShapes Go.WideShapes Go.ChangeAt Go.RowKit
set_option maxRecDepth 20000
set_option linter.unusedVariables false
set_option linter.unusedSimpArgs false
/-- a round's part, sorted: all is sorted -/
theorem round_done {a0 b0 a b : Nat} {d0 d1 d2 : List Int} (hl : b0 ≤ d0.length) (ha : a0 ≤ a) (hb : b ≤ b0) (h1 : Sw a0 b0 d0 d1) (h2 : St a0 b0 a b d1) (h3 : Sw a b d1 d2) (h4 : SrtTo a b d2) : Sw a0 b0 d0 d2 ∧ SrtTo a0 b0 d2 := by
  have := h1.len
  exact ⟨h1.trans (h3.mono ha hb), (h2.keep ha hb (by omega) h3).done h4⟩
theorem round_eq {a0 b0 a b m p : Nat} {d0 d1 d4 d6 : List Int} (hl : b0 ≤ d0.length) (ha : a0 ≤ a) (hb : b ≤ b0) (h1 : Sw a0 b0 d0 d1) (h2 : St a0 b0 a b d1) (hL : Lo a b d1) (h3 : Sw a b d1 d4) (ha0 : 0 < a) (hx : ¬ nth d4 (a - 1) < nth d4 p) (hp : PartedEq a b m (nth d4 p) d4 d6) (ham : a < m) (hm : m ≤ b) : Sw a0 b0 d0 d6 ∧ St a0 b0 m b d6 ∧ Lo m b d6 := by
  have l1 := h1.len
  have l3 := h3.len
  have hs := h3.trans hp.1
  have hL4 := hL.keep (by omega) h3
  refine ⟨h1.trans (hs.mono ha hb), St.goE (h2.keep ha hb (by omega) hs) hp ?_ ham hm hb, hp.lo ham⟩
  refine hp.1.all (P := fun x => nth d4 p ≤ x) (by omega) (fun q h5 h6 => ?_)
  rcases hL4 with h | h
  · omega
  · have := h q h5 h6
    omega
theorem round_left {a0 b0 a b m : Nat} {d0 d1 d4 d6 d7 : List Int} (hl : b0 ≤ d0.length) (ha : a0 ≤ a) (hb : b ≤ b0) (h1 : Sw a0 b0 d0 d1) (h2 : St a0 b0 a b d1) (h3 : Sw a b d1 d4) (hp : Parted a b m d4 d6) (ham : a ≤ m) (hm : m < b) (hs : Sw a m d6 d7) (hso : SrtTo a m d7) : Sw a0 b0 d0 d7 ∧ St a0 b0 (m + 1) b d7 ∧ Lo (m + 1) b d7 := by
  have l1 := h1.len
  have l3 := h3.len
  have hp7 := hp.keepL (by omega) ham hm hs
  have hs7 := h3.trans hp7.1
  exact ⟨h1.trans (hs7.mono ha hb), St.goR (h2.keep ha hb (by omega) hs7) hp7 hm hso, hp7.right⟩
theorem round_right {a0 b0 a b m : Nat} {d0 d1 d4 d6 d7 : List Int} (hl : b0 ≤ d0.length) (ha : a0 ≤ a) (hb : b ≤ b0) (h1 : Sw a0 b0 d0 d1) (h2 : St a0 b0 a b d1) (hL : Lo a b d1) (h3 : Sw a b d1 d4) (hp : Parted a b m d4 d6) (ham : a ≤ m) (hm : m < b) (hs : Sw (m + 1) b d6 d7) (hso : SrtTo (m + 1) b d7) : Sw a0 b0 d0 d7 ∧ St a0 b0 a m d7 ∧ Lo a m d7 := by
  have l1 := h1.len
  have l3 := h3.len
  have hp7 := hp.keepR (by omega) ham hm hs
  have hs7 := h3.trans hp7.1
  exact ⟨h1.trans (hs7.mono ha hb), St.goL (h2.keep ha hb (by omega) hs7) hp7 ham hso, (hL.keep (by omega) hs7).left (by omega)⟩
set_option maxHeartbeats 16000000 in
theorem pdq_any (base g n c : Nat) (hn : n ≤ 1073741824) : ∀ (k a0 b0 : Nat) (lim0 : Int) (d0 : List Int) (w : World), b0 - a0 < k → a0 ≤ b0 → b0 ≤ n → 0 ≤ lim0 → lim0 ≤ 64 → Lo a0 b0 d0 → Row w base g n c d0 →
   Calls Try.prog 90 #[.slice (some ⟨g, 0, none⟩) n c, .int .i64 a0, .int .i64 b0, .int .i64 lim0] w (RowP base g n c w (fun d => Sw a0 b0 d0 d ∧ SrtTo a0 b0 d)) := by
  intro k
  induction k with
  | zero => intro a0 b0 lim0 d0 w h; omega
  | succ k ih =>
  intro a0 b0 lim0 d0 w hk hab hb hl0 hl1 hlo h
  have IH := Lib.hid ih
  have H := Lib.hid h
  have HLo := Lib.hid hlo
  have hlen := h.len
  have hlen0 : b0 ≤ d0.length := by omega
  have hb0n := hb
  clear h ih hlo hlen
  go_enter Try.func90, Try.ntmps90
  go_wp2_with fail
  go_loopw [1, 2, 3, 8, 9] (fun v1 v2 v3 v8 v9 wr => ∃ (a b : Nat) (lim : Int) (wb wp : Bool) (d' : List Int), a ≤ b ∧ b ≤ n ∧ 0 ≤ lim ∧ lim ≤ 64 ∧ a0 ≤ a ∧ b ≤ b0 ∧ v1 = .int .i64 a ∧ v2 = .int .i64 b ∧ v3 = .int .i64 lim ∧ v8 = .bool wb ∧ v9 = .bool wp ∧ Sw a0 b0 d0 d' ∧ St a0 b0 a b d' ∧ Lo a b d' ∧ Row wr base g n c d' ∧ w.grownBy wr (some g)) (fun v1 v2 _ _ _ _ => (intOf v2).toNat - (intOf v1).toNat)
  case atStart => exact ⟨a0, b0, lim0, true, true, d0, hab, hb, hl0, hl1, Nat.le_refl _, Nat.le_refl _, rfl, rfl, rfl, rfl, rfl, Sw.refl, St.start _ _ _, HLo.out, H.out, World.grownBy.refl _ _⟩
  case round =>
    clear H HLo hab hb hl0 hl1
    obtain ⟨a, b, lim, wb, wp, d', hab, hb, hl0, hl1, haa, hbb, rfl, rfl, rfl, rfl, rfl, hsw, hst, hlo, hr, hg⟩ := hrel
    have hlen := hr.len
    have Hr := Lib.hid hr
    have Hg := Lib.hid hg
    have Hs := Lib.hid hsw
    have Ht := Lib.hid hst
    have Ho := Lib.hid hlo
    clear hr hg hsw hst hlo
    obtain ⟨l, hl⟩ : ∃ l, l = b - a := ⟨_, rfl⟩
    have hl2 : a + l ≤ b ∧ b ≤ a + l ∧ l ≤ 1073741824 := by omega
    have e0 : (b : Int) - (a : Int) = (l : Int) := by omega
    clear hl
    by_cases hs : l ≤ 12
    · have HI := Lib.hid (insertion_anyS base g n c a b d' wr hn (by omega) hb Hr.out)
      have q1 : (l : Int) ≤ 12 := by omega
      go_wp2_with fail
      refine HI.out.mono ?_
      rintro e w1 ⟨d2, rfl, hq, r2, g2⟩
      have G2 := Lib.hid (grownBy_trans Hg.out g2)
      have Q2 := Lib.hid (round_done hlen0 haa hbb Hs.out Ht.out hq.1 hq.2)
      clear g2 hq
      go_wp2
      go_end0
      exact ⟨d2, rfl, Q2.out, r2, G2.out⟩
    · have q1 : ¬ (l : Int) ≤ 12 := by omega
      by_cases hz : lim = 0
      · have HI := Lib.hid (heap_any base g n c a b d' wr hn (by omega) hb Hr.out)
        subst hz
        go_wp2_with fail
        refine HI.out.mono ?_
        rintro e w1 ⟨d2, rfl, hq, r2, g2⟩
        have G2 := Lib.hid (grownBy_trans Hg.out g2)
        have Q2 := Lib.hid (round_done hlen0 haa hbb Hs.out Ht.out hq.1 hq.2)
        clear g2 hq
        go_wp2
        go_end0
        exact ⟨d2, rfl, Q2.out, r2, G2.out⟩
      · have q2 : (lim == 0) = false := by rw [beq_eq_false_iff_ne]; exact hz
        have hz1 : 1 ≤ lim := by omega
        clear hz
        go_upto_if 35 with fail
        go_cut [3] (fun v wx => ∃ (lim2 : Int) (d2 : List Int), 0 ≤ lim2 ∧ lim2 ≤ 64 ∧ v = .int .i64 lim2 ∧ Sw a b d' d2 ∧ Row wx base g n c d2 ∧ w.grownBy wx (some g))
        case first =>
          cases wb with
          | false =>
            go_wp2_with fail
            refine (break_any base g n c a b d' wr hn (by omega) hb Hr.out).mono ?_
            rintro e w1 ⟨d2, rfl, s2, r2, g2⟩
            have R2 := Lib.hid r2
            have G2 := Lib.hid (grownBy_trans Hg.out g2)
            have S2 := Lib.hid s2
            clear r2 g2 s2
            go_wp2
            go_meet
            exact ⟨lim - 1, d2, by omega, by omega, by first | rfl | go_num, S2.out, R2.out, G2.out⟩
          | true =>
            go_wp2
            go_meet
            exact ⟨lim, d', by omega, by omega, rfl, Sw.refl, Hr.out, Hg.out⟩
        case rest =>
          obtain ⟨lim2, d2, hm0, hm1, rfl, hs2, hr2, hg2⟩ := hcut
          have R2 := Lib.hid hr2
          have G2 := Lib.hid hg2
          have S2 := Lib.hid hs2
          clear hr2 hg2 hs2 Hr Hg hl0 hl1 hz1 q2
          go_wp2_with fail
          refine (pivot_any base g n c a b d2 wc hn (by omega) hb R2.out).mono ?_
          rintro e w3 ⟨v, rfl, ⟨p0, hint, rfl, hp1, hp2, hh⟩, r3, g3⟩
          have R3 := Lib.hid r3
          have G3 := Lib.hid (grownBy_trans G2.out g3)
          clear r3 g3 R2 G2
          go_upto_if 50 with fail
          go_cut [11, 12] (fun v u wx => ∃ (p : Nat) (hint2 : Int) (d3 : List Int), a ≤ p ∧ p < b ∧ v = .int .i64 p ∧ u = .int .i64 hint2 ∧ (hint2 = 0 ∨ hint2 = 1) ∧ Sw a b d' d3 ∧ Row wx base g n c d3 ∧ w.grownBy wx (some g))
          case first =>
            by_cases h2 : hint = 2
            · have h9 : (hint == 2) = true := by simpa using h2
              obtain ⟨q, hq⟩ : ∃ q, q = b - 1 - (p0 - a) := ⟨_, rfl⟩
              have eq1 : (b : Int) - 1 - ((p0 : Int) - (a : Int)) = (q : Int) := by omega
              have hq2 : a ≤ q ∧ q < b := by omega
              clear hq h2
              go_wp2_with fail
              refine (reverse_any base g n c a b d2 w3 hn (by omega) hb R3.out).mono ?_
              rintro e w4 ⟨d3, rfl, s3, r3, g3⟩
              have R4 := Lib.hid r3
              have G4 := Lib.hid (grownBy_trans G3.out g3)
              have S4 := Lib.hid (S2.out.trans s3)
              clear r3 g3 s3
              go_wp2
              go_meet
              exact ⟨q, 1, d3, hq2.1, hq2.2, by first | rfl | go_num | (congr 1; omega), rfl, .inr rfl, S4.out, R4.out, G4.out⟩
            · have h9 : (hint == 2) = false := by simpa using h2
              go_wp2
              go_meet
              exact ⟨p0, hint, d2, hp1, hp2, rfl, rfl, by omega, S2.out, R3.out, G3.out⟩
          case rest =>
            clear R3 G3 S2 hp1 hp2 hh
            obtain ⟨p, hint2, d3, hp1, hp2, rfl, rfl, hh, hs3, hr3, hg3⟩ := hcut
            have hlen3 := hr3.len
            have R3 := Lib.hid hr3
            have G3 := Lib.hid hg3
            have S3 := Lib.hid hs3
            clear hr3 hg3 hs3
            generalize wc = w3' at *
            go_upto_region 15 with fail
            go_cut [68] (fun v wx => ∃ r : Bool, v = .bool r ∧ wx = w3')
            case first =>
              rcases hh with rfl | rfl
              all_goals (cases wb)
              all_goals (cases wp)
              all_goals go_wp2
              all_goals go_meet
              all_goals exact ⟨_, rfl, rfl⟩
            case rest =>
              obtain ⟨r, rfl, hwc⟩ := hcut
              rw [hwc]
              clear hwc
              go_upto_if 68 with fail
              go_cut [11] (fun v wx => v = .int .i64 p ∧ ∃ d4 : List Int, Sw a b d' d4 ∧ Row wx base g n c d4 ∧ w.grownBy wx (some g))
              case first =>
                cases r with
                | false =>
                  go_wp2
                  go_meet
                  exact ⟨rfl, d3, S3.out, R3.out, G3.out⟩
                | true =>
                  go_wp2_with fail
                  refine (partial_any base g n c a b d3 w3' hn (by omega) hb (Ho.out.keep (by omega) S3.out) R3.out).mono ?_
                  rintro e w4 ⟨r4, d4, rfl, s4, o4, r4', g4⟩
                  have R4 := Lib.hid r4'
                  have G4 := Lib.hid (grownBy_trans G3.out g4)
                  have S4 := Lib.hid (S3.out.trans s4)
                  have O4 := Lib.hid o4
                  clear r4' g4 s4 o4
                  cases r4 with
                  | true =>
                    have Q4 := Lib.hid (round_done hlen0 haa hbb Hs.out Ht.out S4.out (O4.out rfl))
                    go_wp2
                    go_end0
                    exact ⟨d4, rfl, Q4.out, R4.out, G4.out⟩
                  | false =>
                    go_wp2
                    go_meet
                    exact ⟨rfl, d4, S4.out, R4.out, G4.out⟩
              case rest =>
                obtain ⟨rfl, d4, s4, r4, g4⟩ := hcut
                clear R3 G3 S3
                have R4 := Lib.hid r4
                have G4 := Lib.hid g4
                have S4 := Lib.hid s4
                clear g4 s4
                generalize wc = wo at *
                go_upto_region 17 with fail
                go_cut [87] (fun v wx => ∃ r : Bool, v = .bool r ∧ (r = true → 0 < a ∧ ¬ nth d4 (a - 1) < nth d4 p) ∧ Row wx base g n c d4 ∧ w.grownBy wx (some g))
                case first =>
                  by_cases ha : 0 < a
                  · have c0 := r4.cell (show a - 1 < n by omega)
                    have c1 := r4.cell (show p < n by omega)
                    have a0' : (0 : Int) ≤ ((a - 1 : Nat) : Int) := by omega
                    have a1 : ((a - 1 : Nat) : Int) < (n : Int) := by omega
                    have a2 : (0 : Int) ≤ (p : Int) := by omega
                    have a3 : (p : Int) < (n : Int) := by omega
                    have a4 : (0 : Int) < (a : Int) := by omega
                    have e1 : IntKind.i64.wrap ((a : Int) - 1) = ((a - 1 : Nat) : Int) := by rw [show (a : Int) - 1 = ((a - 1 : Nat) : Int) by omega]; exact IntWalk.i64_in _ (by omega)
                    have e2 : (a : Int) - 1 = ((a - 1 : Nat) : Int) := by omega
                    clear r4
                    generalize hX : nth d4 (a - 1) = x at *
                    generalize hY : nth d4 p = y at *
                    have HX := Lib.hid hX
                    have HY := Lib.hid hY
                    clear hX hY
                    by_cases hx : x < y
                    · have hd : decide (x < y) = true := decide_eq_true hx
                      clear hx
                      go_quiet ((go_at_call 99; exact Calls.quiet_of_same (less_q _ _ _)))
                      go_wp2
                      go_meet
                      exact ⟨false, rfl, (fun h => by cases h), R4.out.drewN _, grown_drewNS G4.out _⟩
                    · have hd : decide (x < y) = false := decide_eq_false hx
                      have HN := Lib.hid hx
                      clear hx
                      go_quiet ((go_at_call 99; exact Calls.quiet_of_same (less_q _ _ _)))
                      go_wp2
                      go_meet
                      exact ⟨true, rfl, fun _ => ⟨ha, HN.out⟩, R4.out.drewN _, grown_drewNS G4.out _⟩
                  · have a4 : ¬ (0 : Int) < (a : Int) := by omega
                    have a5 : decide ((0 : Int) < (a : Int)) = false := decide_eq_false a4
                    clear r4
                    go_quiet (fail)
                    go_wp2
                    go_meet
                    exact ⟨false, rfl, (fun h => by cases h), R4.out.drewN _, grown_drewNS G4.out _⟩
                case rest =>
                  have hlen4 := r4.len
                  clear r4 R4 G4 wo
                  obtain ⟨r, rfl, hrt, r5, g5⟩ := hcut
                  have R5 := Lib.hid r5
                  have G5 := Lib.hid g5
                  have HT := Lib.hid hrt
                  clear r5 g5 hrt
                  cases r with
                  | true =>
                    have ht := HT.out rfl
                    have HT2 := Lib.hid ht.2
                    have ha0 := ht.1
                    clear HT ht
                    go_wp2_with fail
                    refine (partEq_any base g n c a b p d4 _ hn (by omega) hb hp1 hp2 R5.out).mono ?_
                    rintro e w6 ⟨m, d6, rfl, hm1', hm2', hp6, r6, g6⟩
                    have R6 := Lib.hid r6
                    have G6 := Lib.hid (grownBy_trans G5.out g6)
                    have Q6 := Lib.hid (round_eq hlen0 haa hbb Hs.out Ht.out Ho.out S4.out ha0 (by have := HT2.out; omega) hp6 hm1' hm2')
                    clear r6 g6 hp6
                    go_wp2
                    go_roundw
                    case rel => exact ⟨m, b, lim2, wb, wp, d6, by omega, hb, hm0, hm1, by omega, hbb, rfl, rfl, rfl, rfl, rfl, Q6.out.1, Q6.out.2.1, Q6.out.2.2, R6.out, G6.out⟩
                    case measure => simp [intOf]; omega
                  | false =>
                    go_wp2_with fail
                    refine (part_any base g n c a b p d4 _ hn (by omega) hb hp1 hp2 R5.out).mono ?_
                    rintro e w6 ⟨m, r, d6, rfl, hm1', hm2', hp6, r6, g6⟩
                    have hlen6 := r6.len
                    have R6 := Lib.hid r6
                    have G6 := Lib.hid (grownBy_trans G5.out g6)
                    have P6 := Lib.hid hp6
                    clear r6 g6 hp6
                    obtain ⟨k1, hk1⟩ : ∃ k1, k1 = m - a := ⟨_, rfl⟩
                    obtain ⟨k2, hk2⟩ : ∃ k2, k2 = b - m := ⟨_, rfl⟩
                    have hk' : a + k1 ≤ m ∧ m ≤ a + k1 ∧ m + k2 ≤ b ∧ b ≤ m + k2 := by omega
                    have e3 : (m : Int) - (a : Int) = (k1 : Int) := by omega
                    have e4 : (b : Int) - (m : Int) = (k2 : Int) := by omega
                    clear hk1 hk2
                    by_cases hk3 : k1 < k2
                    · have q3 : (k1 : Int) < (k2 : Int) := by omega
                      have HI := Lib.hid (IH.out a m lim2 d6 w6 (by omega) (by omega) (by omega) hm0 hm1 ((Ho.out.keep (by omega) (S4.out.trans P6.out.1)).left (by omega)) R6.out)
                      go_wp2_with fail
                      refine HI.out.mono ?_
                      rintro e w7 ⟨d7, rfl, hq, r7, g7⟩
                      have R7 := Lib.hid r7
                      have G7 := Lib.hid (grownBy_trans G6.out g7)
                      have Q7 := Lib.hid (round_left hlen0 haa hbb Hs.out Ht.out S4.out P6.out hm1' hm2' hq.1 hq.2)
                      clear r7 g7 hq
                      go_wp2
                      go_roundw
                      case rel => exact ⟨m + 1, b, lim2, _, r, d7, by omega, hb, hm0, hm1, by omega, hbb, by first | rfl | go_num, rfl, rfl, rfl, rfl, Q7.out.1, Q7.out.2.1, Q7.out.2.2, R7.out, G7.out⟩
                      case measure => simp [intOf]; omega
                    · have q3 : ¬ (k1 : Int) < (k2 : Int) := by omega
                      have HI := IH.out (m + 1) b lim2 d6 w6 (by omega) (by omega) (by omega) hm0 hm1 P6.out.right R6.out
                      rw [show ((m + 1 : Nat) : Int) = (m : Int) + 1 by omega] at HI
                      have HI2 := Lib.hid HI
                      clear HI
                      go_wp2_with fail
                      refine HI2.out.mono ?_
                      rintro e w7 ⟨d7, rfl, hq, r7, g7⟩
                      have R7 := Lib.hid r7
                      have G7 := Lib.hid (grownBy_trans G6.out g7)
                      have Q7 := Lib.hid (round_right hlen0 haa hbb Hs.out Ht.out Ho.out S4.out P6.out hm1' hm2' hq.1 hq.2)
                      clear r7 g7 hq
                      go_wp2
                      go_roundw
                      case rel => exact ⟨a, m, lim2, _, r, d7, by omega, by omega, hm0, hm1, haa, by omega, rfl, rfl, rfl, rfl, rfl, Q7.out.1, Q7.out.2.1, Q7.out.2.2, R7.out, G7.out⟩
                      case measure => simp [intOf]; omega
end Go.Proofs.Ytmbchcenclfjoaa
