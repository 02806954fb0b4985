/- The sort of few numbers: the sort by a heap is safe. -/
import Derived.Test.YtooifamckccadaaSr2
namespace Go.Proofs.Ytooifamckccadaa
open Go.ChangeShapes Go.WideShapes Go.ChangeAt Go.RowKit
set_option maxRecDepth 20000
set_option linter.unusedVariables false
set_option linter.unusedSimpArgs false
set_option maxHeartbeats 8000000 in
theorem sift_any (base g n c lo hi f : Nat) (d : List Int) (w : World) (hn : n ≤ 24) (hf : f + hi ≤ n) (hlo : lo ≤ 24) (h : Row w base g n c d) :
   Calls Try.prog 203 #[.slice (some ⟨g, 0, none⟩) n c, .int .i64 lo, .int .i64 hi, .int .i64 f] w (RowP base g n c w (fun _ => True)) := by
  have H := Lib.hid h
  clear h
  go_enter Try.func203, Try.ntmps203
  go_wp2_with fail
  go_loopw [8] (fun v wr => ∃ (r : Nat) (d' : List Int), r ≤ 24 ∧ v = .int .i64 r ∧ Row wr base g n c d' ∧ w.grownBy wr (some g)) (fun v _ => hi - (intOf v).toNat)
  case atStart => exact ⟨lo, d, hlo, rfl, H.out, World.grownBy.refl _ _⟩
  case round =>
    clear H
    obtain ⟨r, d', hr24, rfl, hr, hg⟩ := hrel
    have Hr := Lib.hid hr
    have Hg := Lib.hid hg
    clear hr hg
    generalize wr = wo at *
    obtain ⟨ch, hch⟩ : ∃ ch, ch = 2 * r + 1 := ⟨_, rfl⟩
    have hch2 : r < ch ∧ ch ≤ 2 * r + 1 ∧ 2 * r + 1 ≤ ch := by omega
    have ec : 2 * (r : Int) + 1 = (ch : Int) := by omega
    clear hch
    by_cases hc : ch < hi
    · obtain ⟨fr, hfr⟩ : ∃ fr, fr = f + r := ⟨_, rfl⟩
      obtain ⟨fc, hfc⟩ : ∃ fc, fc = f + ch := ⟨_, rfl⟩
      obtain ⟨fc1, hfc1⟩ : ∃ fc1, fc1 = fc + 1 := ⟨_, rfl⟩
      obtain ⟨ch1, hch1⟩ : ∃ ch1, ch1 = ch + 1 := ⟨_, rfl⟩
      have hb : fr < fc ∧ fc < n ∧ fc1 ≤ fc + 1 ∧ fc + 1 ≤ fc1 ∧ ch1 ≤ ch + 1 ∧ ch + 1 ≤ ch1 ∧ ch1 ≤ 24 ∧ (ch1 < hi → fc1 < n) := by omega
      have w1 : IntKind.i64.wrap ((f : Int) + (r : Int)) = (fr : Int) := by rw [show (f : Int) + (r : Int) = (fr : Int) by omega]; exact IntWalk.i64_in _ (by omega)
      have w2 : IntKind.i64.wrap ((f : Int) + (ch : Int)) = (fc : Int) := by rw [show (f : Int) + (ch : Int) = (fc : Int) by omega]; exact IntWalk.i64_in _ (by omega)
      have w3 : IntKind.i64.wrap ((fc : Int) + 1) = (fc1 : Int) := by rw [show (fc : Int) + 1 = (fc1 : Int) by omega]; exact IntWalk.i64_in _ (by omega)
      have w4 : IntKind.i64.wrap ((ch : Int) + 1) = (ch1 : Int) := by rw [show (ch : Int) + 1 = (ch1 : Int) by omega]; exact IntWalk.i64_in _ (by omega)
      have w5 : IntKind.i64.wrap ((f : Int) + (ch1 : Int)) = (fc1 : Int) := by rw [show (f : Int) + (ch1 : Int) = (fc1 : Int) by omega]; exact IntWalk.i64_in _ (by omega)
      have w6 : (ch : Int) + 1 = (ch1 : Int) := by omega
      have hnc : ¬ (hi : Int) ≤ (ch : Int) := by omega
      clear hfr hfc hfc1 hch1
      by_cases h1 : ch1 < hi
      · have q4 : (ch1 : Int) < (hi : Int) := by omega
        have c0 := Hr.out.cell (show fc < n by omega)
        have c1 := Hr.out.cell (show fc1 < n by omega)
        have a0 : (0 : Int) ≤ (fc : Int) := by omega
        have a1 : (fc : Int) < (n : Int) := by omega
        have a2 : (0 : Int) ≤ (fc1 : Int) := by omega
        have a3 : (fc1 : Int) < (n : Int) := by omega
        by_cases hx : nth d' fc < nth d' fc1
        · generalize hX : nth d' fc = x at *
          generalize hY : nth d' fc1 = y at *
          have hd : decide (x < y) = true := decide_eq_true hx
          clear hX hY
          go_wp2
          go_quiet ((go_at_call 198; exact Calls.quiet_of_same (less_q _ _ _)))
          go_wp2_with fail
          clear c0 c1 hd hx
          generalize hwq : World.drewN wo _ = wq
          have HrQ := Lib.hid (show Row wq base g n c d' from hwq ▸ Hr.out.drewN _)
          have HgQ := Lib.hid (show w.grownBy wq (some g) from hwq ▸ grown_drewNS Hg.out _)
          clear hwq Hr Hg
          have k0 := HrQ.out.cell (show fr < n by omega)
          have k1 := HrQ.out.cell (show fc1 < n by omega)
          have kr0 : (0 : Int) ≤ (fr : Int) := by omega
          have kr1 : (fr : Int) < (n : Int) := by omega
          have kc0 : (0 : Int) ≤ (fc1 : Int) := by omega
          have kc1 : (fc1 : Int) < (n : Int) := by omega
          by_cases hx : nth d' fr < nth d' fc1
          · have hfz := HrQ.out.frozenAt
            have RD := Lib.hid (fun k => (HrQ.out.drewN k).ex fr fc1)
            have GD := Lib.hid (fun k u v => grownBy_trans (grown_drewNS HgQ.out k) (grown_swp (World.drewN wq k) g fr fc1 u v))
            generalize hD : swp d' fr fc1 = d2 at *
            generalize nth d' fr = x at *
            generalize nth d' fc1 = y at *
            have hd : decide (x < y) = true := decide_eq_true hx
            clear hD
            obtain ⟨v9, hy⟩ := cell?_setCell_some (w := wq) (p := ⟨g, fr, none⟩) (x := .int .i64 y) (q := ⟨g, fc1, none⟩) (v := .int .i64 y) k1
            go_quiet ((go_at_call 198; exact Calls.quiet_of_same (less_q _ _ _)))
            go_wp2_with fail
            go_region
            all_goals go_wp2
            all_goals go_roundw
            all_goals first | (simp [intOf]; omega) | exact ⟨ch1, d2, by omega, by first | rfl | go_num, RD.out _, GD.out _ _ _⟩
          · generalize nth d' fr = x at *
            generalize nth d' fc1 = y at *
            have hd : decide (x < y) = false := decide_eq_false hx
            go_quiet ((go_at_call 198; exact Calls.quiet_of_same (less_q _ _ _)))
            go_wp2
            go_end0
            exact ⟨d', rfl, trivial, HrQ.out.drewN _, grown_drewNS HgQ.out _⟩
        · generalize hX : nth d' fc = x at *
          generalize hY : nth d' fc1 = y at *
          have hd : decide (x < y) = false := decide_eq_false hx
          clear hX hY
          go_wp2
          go_quiet ((go_at_call 198; exact Calls.quiet_of_same (less_q _ _ _)))
          go_wp2_with fail
          clear c0 c1 hd hx
          generalize hwq : World.drewN wo _ = wq
          have HrQ := Lib.hid (show Row wq base g n c d' from hwq ▸ Hr.out.drewN _)
          have HgQ := Lib.hid (show w.grownBy wq (some g) from hwq ▸ grown_drewNS Hg.out _)
          clear hwq Hr Hg
          have k0 := HrQ.out.cell (show fr < n by omega)
          have k1 := HrQ.out.cell (show fc < n by omega)
          have kr0 : (0 : Int) ≤ (fr : Int) := by omega
          have kr1 : (fr : Int) < (n : Int) := by omega
          have kc0 : (0 : Int) ≤ (fc : Int) := by omega
          have kc1 : (fc : Int) < (n : Int) := by omega
          by_cases hx : nth d' fr < nth d' fc
          · have hfz := HrQ.out.frozenAt
            have RD := Lib.hid (fun k => (HrQ.out.drewN k).ex fr fc)
            have GD := Lib.hid (fun k u v => grownBy_trans (grown_drewNS HgQ.out k) (grown_swp (World.drewN wq k) g fr fc u v))
            generalize hD : swp d' fr fc = d2 at *
            generalize nth d' fr = x at *
            generalize nth d' fc = y at *
            have hd : decide (x < y) = true := decide_eq_true hx
            clear hD
            obtain ⟨v9, hy⟩ := cell?_setCell_some (w := wq) (p := ⟨g, fr, none⟩) (x := .int .i64 y) (q := ⟨g, fc, none⟩) (v := .int .i64 y) k1
            go_quiet ((go_at_call 198; exact Calls.quiet_of_same (less_q _ _ _)))
            go_wp2_with fail
            go_region
            all_goals go_wp2
            all_goals go_roundw
            all_goals first | (simp [intOf]; omega) | exact ⟨ch, d2, by omega, by first | rfl | go_num, RD.out _, GD.out _ _ _⟩
          · generalize nth d' fr = x at *
            generalize nth d' fc = y at *
            have hd : decide (x < y) = false := decide_eq_false hx
            go_quiet ((go_at_call 198; exact Calls.quiet_of_same (less_q _ _ _)))
            go_wp2
            go_end0
            exact ⟨d', rfl, trivial, HrQ.out.drewN _, grown_drewNS HgQ.out _⟩
      · have q4 : decide ((ch1 : Int) < (hi : Int)) = false := decide_eq_false (by omega)
        go_wp2
        go_quiet (fail)
        go_wp2_with fail
        generalize hwq : World.drewN wo _ = wq
        have HrQ := Lib.hid (show Row wq base g n c d' from hwq ▸ Hr.out.drewN _)
        have HgQ := Lib.hid (show w.grownBy wq (some g) from hwq ▸ grown_drewNS Hg.out _)
        clear hwq Hr Hg
        have k0 := HrQ.out.cell (show fr < n by omega)
        have k1 := HrQ.out.cell (show fc < n by omega)
        have kr0 : (0 : Int) ≤ (fr : Int) := by omega
        have kr1 : (fr : Int) < (n : Int) := by omega
        have kc0 : (0 : Int) ≤ (fc : Int) := by omega
        have kc1 : (fc : Int) < (n : Int) := by omega
        by_cases hx : nth d' fr < nth d' fc
        · have hfz := HrQ.out.frozenAt
          have RD := Lib.hid (fun k => (HrQ.out.drewN k).ex fr fc)
          have GD := Lib.hid (fun k u v => grownBy_trans (grown_drewNS HgQ.out k) (grown_swp (World.drewN wq k) g fr fc u v))
          generalize hD : swp d' fr fc = d2 at *
          generalize nth d' fr = x at *
          generalize nth d' fc = y at *
          have hd : decide (x < y) = true := decide_eq_true hx
          clear hD
          obtain ⟨v9, hy⟩ := cell?_setCell_some (w := wq) (p := ⟨g, fr, none⟩) (x := .int .i64 y) (q := ⟨g, fc, none⟩) (v := .int .i64 y) k1
          go_quiet ((go_at_call 198; exact Calls.quiet_of_same (less_q _ _ _)))
          go_wp2_with fail
          go_region
          all_goals go_wp2
          all_goals go_roundw
          all_goals first | (simp [intOf]; omega) | exact ⟨ch, d2, by omega, by first | rfl | go_num, RD.out _, GD.out _ _ _⟩
        · generalize nth d' fr = x at *
          generalize nth d' fc = y at *
          have hd : decide (x < y) = false := decide_eq_false hx
          go_quiet ((go_at_call 198; exact Calls.quiet_of_same (less_q _ _ _)))
          go_wp2
          go_end0
          exact ⟨d', rfl, trivial, HrQ.out.drewN _, grown_drewNS HgQ.out _⟩
    · have hnc : (hi : Int) ≤ (ch : Int) := by omega
      go_wp2
      go_end0
      exact ⟨d', rfl, trivial, Hr.out, Hg.out⟩
set_option maxHeartbeats 4000000 in
theorem heap_any (base g n c a b : Nat) (d : List Int) (w : World) (hn : n ≤ 24) (hab : a + 1 ≤ b) (hb : b ≤ n) (h : Row w base g n c d) :
   Calls Try.prog 193 #[.slice (some ⟨g, 0, none⟩) n c, .int .i64 a, .int .i64 b] w (RowP base g n c w (fun _ => True)) := by
  have H := Lib.hid h
  obtain ⟨hi, hhi⟩ : ∃ hi, hi = b - a := ⟨_, rfl⟩
  have hb2 : a + hi ≤ b ∧ b ≤ a + hi ∧ 1 ≤ hi := by omega
  have e0 : (b : Int) - (a : Int) = (hi : Int) := by omega
  have e1 : ((hi : Int) - 1) / 2 = (((hi - 1) / 2 : Nat) : Int) := by omega
  have e2 : (hi : Int) - 1 = ((hi - 1 : Nat) : Int) := by omega
  clear h hhi
  go_enter Try.func193, Try.ntmps193
  go_wp2_with fail
  go_loopw [9] (fun v wr => ∃ (i : Int) (d' : List Int), -1 ≤ i ∧ i ≤ 24 ∧ v = .int .i64 i ∧ Row wr base g n c d' ∧ w.grownBy wr (some g)) (fun v _ => (intOf v + 1).toNat)
  case atStart => exact ⟨(((hi - 1) / 2 : Nat) : Int), d, by omega, by omega, by first | rfl | (congr 1; omega), H.out, World.grownBy.refl _ _⟩
  case round =>
    clear H
    obtain ⟨i, d', hi1, hi2, rfl, hr, hg⟩ := hrel
    have Hr := Lib.hid hr
    have Hg := Lib.hid hg
    clear hr hg
    by_cases h0 : 0 ≤ i
    · obtain ⟨k, rfl⟩ : ∃ k : Nat, i = k := ⟨i.toNat, by omega⟩
      have HS := Lib.hid (sift_any base g n c k hi a d' wr hn (by omega) (by omega) Hr.out)
      clear e1 e2
      go_wp2_with fail
      refine HS.out.mono ?_
      rintro e w1 ⟨d2, rfl, _, r2, g2⟩
      have R2 := Lib.hid r2
      have G2 := Lib.hid (grownBy_trans Hg.out g2)
      clear r2 g2
      go_wp2
      go_roundw
      case rel => exact ⟨(k : Int) - 1, d2, by omega, by omega, rfl, R2.out, G2.out⟩
      case measure => first | (simp [intOf]; omega) | (simp [intOf]; done)
    · have q4 : ¬ (0 : Int) ≤ i := h0
      go_wp2_with fail
      go_loopw [10] (fun v wr => ∃ (i : Int) (d' : List Int), -1 ≤ i ∧ i < hi ∧ v = .int .i64 i ∧ Row wr base g n c d' ∧ w.grownBy wr (some g)) (fun v _ => (intOf v + 1).toNat)
      case atStart => exact ⟨((hi - 1 : Nat) : Int), d', by omega, by omega, by first | rfl | (congr 1; omega), Hr.out, Hg.out⟩
      case round =>
        clear Hr Hg q4 e1 e2
        obtain ⟨j, d0', hj1, hj2, rfl, hr, hg⟩ := hrel
        have HrC := Lib.hid hr
        have HgC := Lib.hid hg
        clear hr hg
        generalize wr = wo at *
        by_cases h0 : 0 ≤ j
        · obtain ⟨k, rfl⟩ : ∃ k : Nat, j = k := ⟨j.toNat, by omega⟩
          obtain ⟨ak, hak⟩ : ∃ ak, ak = a + k := ⟨_, rfl⟩
          have hak2 : ak < n := by omega
          have w1 : IntKind.i64.wrap ((a : Int) + (k : Int)) = (ak : Int) := by rw [show (a : Int) + (k : Int) = (ak : Int) by omega]; exact IntWalk.i64_in _ (by omega)
          clear hak
          have hfz := HrC.out.frozenAt
          have c0 := HrC.out.cell (show a < n by omega)
          have c1 := HrC.out.cell (show ak < n by omega)
          have q0 : (0 : Int) ≤ (a : Int) := by omega
          have q1 : (a : Int) < (n : Int) := by omega
          have q2 : (0 : Int) ≤ (ak : Int) := by omega
          have q3 : (ak : Int) < (n : Int) := by omega
          have RD := Lib.hid (own_drew (HrC.out.ex a ak))
          have GD := Lib.hid (fun u v => grown_drewS (grownBy_trans HgC.out (grown_swp _ g a ak u v)))
          generalize hD : swp d0' a ak = d2 at *
          generalize nth d0' a = x at *
          generalize nth d0' ak = y at *
          clear hD
          obtain ⟨v9, hy⟩ := cell?_setCell_some (p := ⟨g, a, none⟩) (x := .int .i64 y) (q := ⟨g, ak, none⟩) (v := .int .i64 y) c1
          go_wp2_with fail
          go_region
          have GE := Lib.hid (GD.out (.int .i64 y) (.int .i64 x))
          clear GD c0 c1 hy hfz HrC HgC
          have HS := Lib.hid (sift_any base g n c 0 k a d2 _ hn (by omega) (by omega) RD.out)
          go_wp2_with fail
          refine HS.out.mono ?_
          rintro e w1 ⟨d3, rfl, _, r2, g2⟩
          have R2 := Lib.hid r2
          have G2 := Lib.hid (grownBy_trans GE.out g2)
          clear r2 g2
          go_wp2
          go_roundw
          case rel => exact ⟨(k : Int) - 1, d3, by omega, by omega, rfl, R2.out, G2.out⟩
          case measure => first | (simp [intOf]; omega) | (simp [intOf]; done)
        · have q4 : ¬ (0 : Int) ≤ j := h0
          go_wp2
          go_end0
          exact ⟨d0', rfl, trivial, HrC.out, HgC.out⟩
end Go.Proofs.Ytooifamckccadaa
