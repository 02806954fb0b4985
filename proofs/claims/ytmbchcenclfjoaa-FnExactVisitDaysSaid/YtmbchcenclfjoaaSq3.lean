/- Sorting in place, at any length: partitions. -/
import Derived.Test.YtmbchcenclfjoaaSq2
import Derived.Deep.DeepCutAuto
import Derived.Deep.CutBlock
namespace Go.Proofs.Ytmbchcenclfjoaa
open Go.ChangeShapes Go.WideShapes Go.ChangeAt Go.RowKit
set_option maxRecDepth 20000
set_option linter.unusedVariables false
set_option linter.unusedSimpArgs false
def PartEqP (base g n c a b : Nat) (y : Int) (d0 : List Int) (w : World) (e : Ending) (w' : World) : Prop := ∃ (m : Nat) (d' : List Int), e = .returned (.int .i64 m) ∧ a < m ∧ m ≤ b ∧ PartedEq a b m y d0 d' ∧ Row w' base g n c d' ∧ w.grownBy w' (some g)
def PartP (base g n c a b : Nat) (d0 : List Int) (w : World) (e : Ending) (w' : World) : Prop := ∃ (m : Nat) (r : Bool) (d' : List Int), e = .returned (.tuple #[.int .i64 m, .bool r]) ∧ a ≤ m ∧ m < b ∧ Parted a b m d0 d' ∧ Row w' base g n c d' ∧ w.grownBy w' (some g)
set_option maxHeartbeats 8000000 in
theorem partEq_any (base g n c a b p : Nat) (d0 : List Int) (w : World) (hn : n ≤ 1073741824) (hab : a + 12 < b) (hb : b ≤ n) (hp1 : a ≤ p) (hp2 : p < b) (h : Row w base g n c d0) :
   Calls Try.prog 100 #[.slice (some ⟨g, 0, none⟩) n c, .int .i64 a, .int .i64 b, .int .i64 p] w (PartEqP base g n c a b (nth d0 p) d0 w) := by
  have H := Lib.hid h
  have HG0 := Lib.hid (World.grownBy.refl w (some g))
  have hlen := h.len
  have hpv : nth (swp d0 a p) a = nth d0 p := by
    rw [swp_nth (by omega) (by omega)]
    by_cases e : a = p
    · rw [if_pos e, e]
    · rw [if_neg e, if_pos rfl]
  have hst := PQ.start (C := (fun x => x ≤ nth d0 p)) (Sw.ex (Sw.refl (a := a) (b := b) (d := d0)) (i := a) (j := p) (by omega) (by omega) hp1 hp2)
  rw [hpv] at hst
  have Q0 := Lib.hid hst
  clear h hst hpv
  have hfz := H.out.frozenAt
  have c0 := H.out.cell (show a < n by omega)
  have c1 := H.out.cell (show p < n by omega)
  have q0 : (0 : Int) ≤ (a : Int) := by omega
  have q1 : (a : Int) < (n : Int) := by omega
  have q2 : (0 : Int) ≤ (p : Int) := by omega
  have q3 : (p : Int) < (n : Int) := by omega
  have R0 := Lib.hid (own_drew (H.out.ex a p))
  have G0 := Lib.hid (fun u v => grown_drewS (grownBy_trans HG0.out (grown_swp _ g a p u v)))
  generalize hD : swp d0 a p = d1 at *
  generalize nth d0 a = x at *
  generalize hPV : nth d0 p = pv at *
  clear hPV
  clear hD
  obtain ⟨v9, hy⟩ := cell?_setCell_some (p := ⟨g, a, none⟩) (x := .int .i64 pv) (q := ⟨g, p, none⟩) (v := .int .i64 pv) c1
  have e1 : IntKind.i64.wrap ((b : Int) - 1) = ((b - 1 : Nat) : Int) := by rw [show (b : Int) - 1 = ((b - 1 : Nat) : Int) by omega]; exact IntWalk.i64_in _ (by omega)
  have e2 : (b : Int) - 1 = ((b - 1 : Nat) : Int) := by omega
  go_enter Try.func100, Try.ntmps100
  go_wp2_with fail
  go_region
  have G1 := Lib.hid (G0.out (.int .i64 pv) (.int .i64 x))
  clear G0 c0 c1 hy hfz H HG0
  generalize ((w.setCell ⟨g, a, none⟩ (.int .i64 pv)).setCell ⟨g, p, none⟩ (.int .i64 x)).drew = w1 at *
  clear q0 q1 q2 q3
  go_wp2_with fail
  go_loopw [9, 10] (fun v u wr => ∃ (i j : Nat) (d' : List Int), a + 1 ≤ i ∧ i ≤ b ∧ a ≤ j ∧ j + 1 ≤ b ∧ v = .int .i64 i ∧ u = .int .i64 j ∧ PQ (fun x => x ≤ pv) a b d0 pv i j d' ∧ Row wr base g n c d' ∧ w.grownBy wr (some g)) (fun v _ _ => b - (intOf v).toNat)
  case atStart => exact ⟨a + 1, b - 1, d1, by omega, by omega, by omega, by omega, by go_num, rfl, Q0.out, R0.out, G1.out⟩
  case round =>
    clear R0 G1 e1 e2 Q0
    obtain ⟨i0, j0, d0', hi1, hi2, hj1, hj2, rfl, rfl, hq, hr, hg⟩ := hrel
    have HrA := Lib.hid hr
    have HgA := Lib.hid hg
    have HqA := Lib.hid hq
    clear hr hg hq
    generalize wr = wA at *
    go_upto_block 2 with fail
    go_cut [9, 10] (fun v u wr => ∃ (i j : Nat) (d' : List Int), i0 ≤ i ∧ i ≤ b ∧ a ≤ j ∧ j + 1 ≤ b ∧ v = .int .i64 i ∧ u = .int .i64 j ∧ PQ (fun x => x ≤ pv) a b d0 pv i j d' ∧ (i ≤ j → pv < nth d' i) ∧ Row wr base g n c d' ∧ w.grownBy wr (some g))
    case first =>
      go_wp2_with fail
      go_loopw [9] (fun v wr => ∃ ii : Nat, i0 ≤ ii ∧ ii ≤ b ∧ v = .int .i64 ii ∧ PQ (fun x => x ≤ pv) a b d0 pv ii j0 d0' ∧ Row wr base g n c d0' ∧ w.grownBy wr (some g)) (fun v _ => b - (intOf v).toNat)
      case atStart => exact ⟨i0, by omega, by omega, rfl, HqA.out, HrA.out, HgA.out⟩
      case round =>
        obtain ⟨ii, hx1, hx2, rfl, hq, hr, hg⟩ := hrel
        have Hr := Lib.hid hr
        have Hg := Lib.hid hg
        have Hq := Lib.hid hq
        by_cases hlt : ii ≤ j0
        · have c0 := hr.cell (show ii < n by omega)
          have c1 := hr.cell (show a < n by omega)
          rw [hq.2.1] at c1
          have q0 : (0 : Int) ≤ (ii : Int) := by omega
          have q1 : (ii : Int) < (n : Int) := by omega
          have q2 : (0 : Int) ≤ (a : Int) := by omega
          have q3 : (a : Int) < (n : Int) := by omega
          have q4 : (ii : Int) ≤ (j0 : Int) := by omega
          have HU := Lib.hid (fun hx => PQ.up hq hx)
          clear hr hg hq
          generalize hX : nth d0' ii = x at *
          have HX := Lib.hid hX
          clear hX
          by_cases hx : pv < x
          · have hd : decide (pv < x) = true := decide_eq_true hx
            go_wp2
            go_quiet ((go_at_call 99; exact Calls.quiet_of_same (less_q _ _ _)))
            go_wp2
            go_meet
            exact ⟨ii, j0, d0', by omega, by omega, by omega, by omega, rfl, rfl, Hq.out, fun _ => by have e := HX.out; omega, Hr.out.drewN _, grown_drewNS Hg.out _⟩
          · have hd : decide (pv < x) = false := decide_eq_false hx
            go_wp2
            go_quiet ((go_at_call 99; exact Calls.quiet_of_same (less_q _ _ _)))
            go_wp2
            go_roundw
            case rel => exact ⟨ii + 1, by omega, by omega, by go_num, HU.out (by omega), Hr.out.drewN _, grown_drewNS Hg.out _⟩
            case measure => simp [intOf]; omega
        · have q4 : decide ((ii : Int) ≤ (j0 : Int)) = false := decide_eq_false (by omega)
          clear hr hg hq
          go_wp2
          go_quiet (fail)
          go_wp2
          go_meet
          exact ⟨ii, j0, d0', by omega, by omega, by omega, by omega, rfl, rfl, Hq.out, fun q => absurd q (by omega), Hr.out.drewN _, grown_drewNS Hg.out _⟩
    case rest =>
    obtain ⟨i, j, d', hi1, hi2, hj1, hj2, rfl, rfl, hq, hxx, hr, hg⟩ := hcut
    have HrB := Lib.hid hr
    have HgB := Lib.hid hg
    have HqB := Lib.hid hq
    have HxB := Lib.hid hxx
    clear hr hg hq hxx HrA HgA HqA
    generalize wc = wB at *
    go_upto_block 4 with fail
    go_cut [9, 10] (fun v u wr => ∃ (i j : Nat) (d' : List Int), i0 ≤ i ∧ i ≤ b ∧ a ≤ j ∧ j + 1 ≤ b ∧ v = .int .i64 i ∧ u = .int .i64 j ∧ PQ (fun x => x ≤ pv) a b d0 pv i j d' ∧ (i ≤ j → pv < nth d' i ∧ nth d' j ≤ pv) ∧ Row wr base g n c d' ∧ w.grownBy wr (some g))
    case first =>
      go_wp2_with fail
      go_loopw [10] (fun v wr => ∃ jj : Nat, a ≤ jj ∧ jj ≤ j ∧ v = .int .i64 jj ∧ PQ (fun x => x ≤ pv) a b d0 pv i jj d' ∧ Row wr base g n c d' ∧ w.grownBy wr (some g)) (fun v _ => (intOf v).toNat)
      case atStart => exact ⟨j, by omega, by omega, rfl, HqB.out, HrB.out, HgB.out⟩
      case round =>
        obtain ⟨jj, hx1, hx2, rfl, hq, hr, hg⟩ := hrel
        have Hr := Lib.hid hr
        have Hg := Lib.hid hg
        have Hq := Lib.hid hq
        by_cases hlt : i ≤ jj
        · have c0 := hr.cell (show jj < n by omega)
          have c1 := hr.cell (show a < n by omega)
          rw [hq.2.1] at c1
          have q0 : (0 : Int) ≤ (jj : Int) := by omega
          have q1 : (jj : Int) < (n : Int) := by omega
          have q2 : (0 : Int) ≤ (a : Int) := by omega
          have q3 : (a : Int) < (n : Int) := by omega
          have q4 : (i : Int) ≤ (jj : Int) := by omega
          have HU := Lib.hid (fun hx => PQ.down hq hx)
          clear hr hg hq
          generalize hX : nth d' jj = x at *
          have HX := Lib.hid hX
          clear hX
          by_cases hx : pv < x
          · have hd : decide (pv < x) = true := decide_eq_true hx
            go_wp2
            go_quiet ((go_at_call 99; exact Calls.quiet_of_same (less_q _ _ _)))
            go_wp2
            go_roundw
            case rel => exact ⟨jj - 1, by omega, by omega, by go_num, HU.out (by omega), Hr.out.drewN _, grown_drewNS Hg.out _⟩
            case measure => simp [intOf]; omega
          · have hd : decide (pv < x) = false := decide_eq_false hx
            go_wp2
            go_quiet ((go_at_call 99; exact Calls.quiet_of_same (less_q _ _ _)))
            go_wp2
            go_meet
            exact ⟨i, jj, d', by omega, by omega, by omega, by omega, rfl, rfl, Hq.out, fun q => ⟨HxB.out (by omega), by have e := HX.out; omega⟩, Hr.out.drewN _, grown_drewNS Hg.out _⟩
        · have q4 : decide ((i : Int) ≤ (jj : Int)) = false := decide_eq_false (by omega)
          clear hr hg hq
          go_wp2
          go_quiet (fail)
          go_wp2
          go_meet
          exact ⟨i, jj, d', by omega, by omega, by omega, by omega, rfl, rfl, Hq.out, fun q => absurd q (by omega), Hr.out.drewN _, grown_drewNS Hg.out _⟩
    case rest =>
    obtain ⟨i, j, d', hi1, hi2, hj1, hj2, rfl, rfl, hq, hxx, hr, hg⟩ := hcut
    have HrC := Lib.hid hr
    have HgC := Lib.hid hg
    have HqC := Lib.hid hq
    have HxC := Lib.hid hxx
    clear hr hg hq hxx HrB HgB HqB HxB
    generalize wc = wC at *
    by_cases hij : j < i
    · have q4 : (j : Int) < (i : Int) := by omega
      have HP := Lib.hid (PQ.partedEq HqC.out hij)
      go_wp2
      go_ret
      exact ⟨i, d', rfl, by omega, by omega, HP.out, HrC.out, HgC.out⟩
    · have q4 : ¬ (j : Int) < (i : Int) := by omega
      have hfz := HrC.out.frozenAt
      have c0 := HrC.out.cell (show i < n by omega)
      have c1 := HrC.out.cell (show j < n by omega)
      have q0 : (0 : Int) ≤ (i : Int) := by omega
      have q1 : (i : Int) < (n : Int) := by omega
      have q2 : (0 : Int) ≤ (j : Int) := by omega
      have q3 : (j : Int) < (n : Int) := by omega
      have RD := Lib.hid (own_drew (HrC.out.ex i j))
      have GD := Lib.hid (fun u v => grown_drewS (grownBy_trans HgC.out (grown_swp _ g i j u v)))
      have hsx := HxC.out (by omega)
      have hsq := PQ.swap HqC.out (by omega) (by omega) (show i ≤ j by omega) (by omega) (by first | omega | (simp only; omega)) (by first | omega | (simp only; omega))
      have SQ := Lib.hid hsq.1
      have hlij := hsq.2
      clear hsq hsx HqC HxC
      generalize hD : swp d' i j = d2 at *
      generalize nth d' i = x at *
      generalize nth d' j = y at *
      clear hD
      obtain ⟨v9, hy⟩ := cell?_setCell_some (p := ⟨g, i, none⟩) (x := .int .i64 y) (q := ⟨g, j, none⟩) (v := .int .i64 y) c1
      have e1 : IntKind.i64.wrap ((j : Int) - 1) = ((j - 1 : Nat) : Int) := by rw [show (j : Int) - 1 = ((j - 1 : Nat) : Int) by omega]; exact IntWalk.i64_in _ (by omega)
      go_wp2_with fail
      go_region
      have GE := Lib.hid (GD.out (.int .i64 y) (.int .i64 x))
      clear GD c0 c1 hy hfz HrC HgC
      go_wp2
      go_roundw
      case rel => exact ⟨i + 1, j - 1, d2, by omega, by omega, by omega, by omega, by go_num, by first | rfl | go_num | (rw [e1]; done) | (congr 1; omega), SQ.out, RD.out, GE.out⟩
      case measure => simp [intOf]; omega
set_option maxHeartbeats 8000000 in
theorem part_any (base g n c a b p : Nat) (d0 : List Int) (w : World) (hn : n ≤ 1073741824) (hab : a + 12 < b) (hb : b ≤ n) (hp1 : a ≤ p) (hp2 : p < b) (h : Row w base g n c d0) :
   Calls Try.prog 101 #[.slice (some ⟨g, 0, none⟩) n c, .int .i64 a, .int .i64 b, .int .i64 p] w (PartP base g n c a b d0 w) := by
  have H := Lib.hid h
  have HG0 := Lib.hid (World.grownBy.refl w (some g))
  have hlen := h.len
  have hpv : nth (swp d0 a p) a = nth d0 p := by
    rw [swp_nth (by omega) (by omega)]
    by_cases e : a = p
    · rw [if_pos e, e]
    · rw [if_neg e, if_pos rfl]
  have hst := PQ.start (C := (fun x => x < nth d0 p)) (Sw.ex (Sw.refl (a := a) (b := b) (d := d0)) (i := a) (j := p) (by omega) (by omega) hp1 hp2)
  rw [hpv] at hst
  have Q0 := Lib.hid hst
  clear h hst hpv
  have hfz := H.out.frozenAt
  have c0 := H.out.cell (show a < n by omega)
  have c1 := H.out.cell (show p < n by omega)
  have q0 : (0 : Int) ≤ (a : Int) := by omega
  have q1 : (a : Int) < (n : Int) := by omega
  have q2 : (0 : Int) ≤ (p : Int) := by omega
  have q3 : (p : Int) < (n : Int) := by omega
  have R0 := Lib.hid (own_drew (H.out.ex a p))
  have G0 := Lib.hid (fun u v => grown_drewS (grownBy_trans HG0.out (grown_swp _ g a p u v)))
  generalize hD : swp d0 a p = d1 at *
  generalize nth d0 a = x at *
  generalize hPV : nth d0 p = pv at *
  clear hPV
  clear hD
  obtain ⟨v9, hy⟩ := cell?_setCell_some (p := ⟨g, a, none⟩) (x := .int .i64 pv) (q := ⟨g, p, none⟩) (v := .int .i64 pv) c1
  have e1 : IntKind.i64.wrap ((b : Int) - 1) = ((b - 1 : Nat) : Int) := by rw [show (b : Int) - 1 = ((b - 1 : Nat) : Int) by omega]; exact IntWalk.i64_in _ (by omega)
  have e2 : (b : Int) - 1 = ((b - 1 : Nat) : Int) := by omega
  have hb1 : b - 1 + 1 = b := by omega
  go_enter Try.func101, Try.ntmps101
  go_wp2_with fail
  go_region
  have G1 := Lib.hid (G0.out (.int .i64 pv) (.int .i64 x))
  clear G0 c0 c1 hy hfz H HG0
  generalize ((w.setCell ⟨g, a, none⟩ (.int .i64 pv)).setCell ⟨g, p, none⟩ (.int .i64 x)).drew = w1 at *
  clear q0 q1 q2 q3
  obtain ⟨i0, hi0⟩ : ∃ i0, i0 = a + 1 := ⟨_, rfl⟩
  obtain ⟨j0, hj0⟩ : ∃ j0, j0 = b - 1 := ⟨_, rfl⟩
  have ea : (a : Int) + 1 = (i0 : Int) := by omega
  rw [← hj0] at e1 e2 Q0
  rw [← hi0] at Q0
  have hij0 : a + 1 ≤ i0 ∧ i0 ≤ a + 1 ∧ j0 + 1 ≤ b ∧ b ≤ j0 + 1 := by omega
  clear hi0 hj0 hb1
  go_upto_block 0 with fail
  go_cut [10, 11] (fun v u wr => ∃ (i j : Nat) (d' : List Int), i0 ≤ i ∧ i ≤ b ∧ a ≤ j ∧ j + 1 ≤ b ∧ v = .int .i64 i ∧ u = .int .i64 j ∧ PQ (fun x => x < pv) a b d0 pv i j d' ∧ (i ≤ j → pv ≤ nth d' i) ∧ Row wr base g n c d' ∧ w.grownBy wr (some g))
  case first =>
    go_wp2_with fail
    go_loopw [10] (fun v wr => ∃ ii : Nat, i0 ≤ ii ∧ ii ≤ b ∧ v = .int .i64 ii ∧ PQ (fun x => x < pv) a b d0 pv ii j0 d1 ∧ Row wr base g n c d1 ∧ w.grownBy wr (some g)) (fun v _ => b - (intOf v).toNat)
    case atStart => exact ⟨i0, by omega, by omega, rfl, Q0.out, R0.out, G1.out⟩
    case round =>
      obtain ⟨ii, hx1, hx2, rfl, hq, hr, hg⟩ := hrel
      have Hr := Lib.hid hr
      have Hg := Lib.hid hg
      have Hq := Lib.hid hq
      by_cases hlt : ii ≤ j0
      · have c0 := hr.cell (show ii < n by omega)
        have c1 := hr.cell (show a < n by omega)
        rw [hq.2.1] at c1
        have q0 : (0 : Int) ≤ (ii : Int) := by omega
        have q1 : (ii : Int) < (n : Int) := by omega
        have q2 : (0 : Int) ≤ (a : Int) := by omega
        have q3 : (a : Int) < (n : Int) := by omega
        have q4 : (ii : Int) ≤ (j0 : Int) := by omega
        have HU := Lib.hid (fun hx => PQ.up hq hx)
        clear hr hg hq
        generalize hX : nth d1 ii = x at *
        have HX := Lib.hid hX
        clear hX
        by_cases hx : x < pv
        · have hd : decide (x < pv) = true := decide_eq_true hx
          go_wp2
          go_quiet ((go_at_call 99; exact Calls.quiet_of_same (less_q _ _ _)))
          go_wp2
          go_roundw
          case rel => exact ⟨ii + 1, by omega, by omega, by go_num, HU.out (by omega), Hr.out.drewN _, grown_drewNS Hg.out _⟩
          case measure => simp [intOf]; omega
        · have hd : decide (x < pv) = false := decide_eq_false hx
          go_wp2
          go_quiet ((go_at_call 99; exact Calls.quiet_of_same (less_q _ _ _)))
          go_wp2
          go_meet
          exact ⟨ii, j0, d1, by omega, by omega, by omega, by omega, rfl, rfl, Hq.out, fun _ => by have e := HX.out; omega, Hr.out.drewN _, grown_drewNS Hg.out _⟩
      · have q4 : decide ((ii : Int) ≤ (j0 : Int)) = false := decide_eq_false (by omega)
        clear hr hg hq
        go_wp2
        go_quiet (fail)
        go_wp2
        go_meet
        exact ⟨ii, j0, d1, by omega, by omega, by omega, by omega, rfl, rfl, Hq.out, fun q => absurd q (by omega), Hr.out.drewN _, grown_drewNS Hg.out _⟩
  case rest =>
  obtain ⟨i, j, d', hi1, hi2, hj1, hj2, rfl, rfl, hq, hxx, hr, hg⟩ := hcut
  have HrB := Lib.hid hr
  have HgB := Lib.hid hg
  have HqB := Lib.hid hq
  have HxB := Lib.hid hxx
  clear hr hg hq hxx R0 G1 Q0 e1 e2 ea
  generalize wc = wB at *
  go_upto_block 2 with fail
  go_cut [10, 11] (fun v u wr => ∃ (i j : Nat) (d' : List Int), i0 ≤ i ∧ i ≤ b ∧ a ≤ j ∧ j + 1 ≤ b ∧ v = .int .i64 i ∧ u = .int .i64 j ∧ PQ (fun x => x < pv) a b d0 pv i j d' ∧ (i ≤ j → pv ≤ nth d' i ∧ nth d' j < pv) ∧ Row wr base g n c d' ∧ w.grownBy wr (some g))
  case first =>
    go_wp2_with fail
    go_loopw [11] (fun v wr => ∃ jj : Nat, a ≤ jj ∧ jj ≤ j ∧ v = .int .i64 jj ∧ PQ (fun x => x < pv) a b d0 pv i jj d' ∧ Row wr base g n c d' ∧ w.grownBy wr (some g)) (fun v _ => (intOf v).toNat)
    case atStart => exact ⟨j, by omega, by omega, rfl, HqB.out, HrB.out, HgB.out⟩
    case round =>
      obtain ⟨jj, hx1, hx2, rfl, hq, hr, hg⟩ := hrel
      have Hr := Lib.hid hr
      have Hg := Lib.hid hg
      have Hq := Lib.hid hq
      by_cases hlt : i ≤ jj
      · have c0 := hr.cell (show jj < n by omega)
        have c1 := hr.cell (show a < n by omega)
        rw [hq.2.1] at c1
        have q0 : (0 : Int) ≤ (jj : Int) := by omega
        have q1 : (jj : Int) < (n : Int) := by omega
        have q2 : (0 : Int) ≤ (a : Int) := by omega
        have q3 : (a : Int) < (n : Int) := by omega
        have q4 : (i : Int) ≤ (jj : Int) := by omega
        have HU := Lib.hid (fun hx => PQ.down hq hx)
        clear hr hg hq
        generalize hX : nth d' jj = x at *
        have HX := Lib.hid hX
        clear hX
        by_cases hx : x < pv
        · have hd : decide (x < pv) = true := decide_eq_true hx
          go_wp2
          go_quiet ((go_at_call 99; exact Calls.quiet_of_same (less_q _ _ _)))
          go_wp2
          go_meet
          exact ⟨i, jj, d', by omega, by omega, by omega, by omega, rfl, rfl, Hq.out, fun q => ⟨HxB.out (by omega), by have e := HX.out; omega⟩, Hr.out.drewN _, grown_drewNS Hg.out _⟩
        · have hd : decide (x < pv) = false := decide_eq_false hx
          go_wp2
          go_quiet ((go_at_call 99; exact Calls.quiet_of_same (less_q _ _ _)))
          go_wp2
          go_roundw
          case rel => exact ⟨jj - 1, by omega, by omega, by go_num, HU.out (by omega), Hr.out.drewN _, grown_drewNS Hg.out _⟩
          case measure => simp [intOf]; omega
      · have q4 : decide ((i : Int) ≤ (jj : Int)) = false := decide_eq_false (by omega)
        clear hr hg hq
        go_wp2
        go_quiet (fail)
        go_wp2
        go_meet
        exact ⟨i, jj, d', by omega, by omega, by omega, by omega, rfl, rfl, Hq.out, fun q => absurd q (by omega), Hr.out.drewN _, grown_drewNS Hg.out _⟩
  case rest =>
  obtain ⟨i, j, d', hi1, hi2, hj1, hj2, rfl, rfl, hq, hxx, hr, hg⟩ := hcut
  have HrC := Lib.hid hr
  have HgC := Lib.hid hg
  have HqC := Lib.hid hq
  have HxC := Lib.hid hxx
  clear hr hg hq hxx HrB HgB HqB HxB
  generalize wc = wC at *
  by_cases hij : j < i
  · have q4 : (j : Int) < (i : Int) := by omega
    have hfz := HrC.out.frozenAt
    have c0 := HrC.out.cell (show j < n by omega)
    have c1 := HrC.out.cell (show a < n by omega)
    have q0 : (0 : Int) ≤ (j : Int) := by omega
    have q1 : (j : Int) < (n : Int) := by omega
    have q2 : (0 : Int) ≤ (a : Int) := by omega
    have q3 : (a : Int) < (n : Int) := by omega
    have RD := Lib.hid (own_drew (HrC.out.ex j a))
    have GD := Lib.hid (fun u v => grown_drewS (grownBy_trans HgC.out (grown_swp _ g j a u v)))
    have HP := Lib.hid (PQ.parted HqC.out (by omega) (by omega) hij (by omega))
    clear HqC HxC
    generalize hD : swp d' j a = d2 at *
    generalize nth d' j = x at *
    generalize nth d' a = y at *
    clear hD
    obtain ⟨v9, hy⟩ := cell?_setCell_some (p := ⟨g, j, none⟩) (x := .int .i64 y) (q := ⟨g, a, none⟩) (v := .int .i64 y) c1
    go_wp2_with fail
    go_region
    have GE := Lib.hid (GD.out (.int .i64 y) (.int .i64 x))
    clear GD c0 c1 hy hfz HrC HgC
    go_wp2
    go_ret2
    exact ⟨j, true, d2, rfl, by omega, by omega, HP.out, RD.out, GE.out⟩
  have q4 : ¬ (j : Int) < (i : Int) := by omega
  have hfz := HrC.out.frozenAt
  have c0 := HrC.out.cell (show i < n by omega)
  have c1 := HrC.out.cell (show j < n by omega)
  have q0 : (0 : Int) ≤ (i : Int) := by omega
  have q1 : (i : Int) < (n : Int) := by omega
  have q2 : (0 : Int) ≤ (j : Int) := by omega
  have q3 : (j : Int) < (n : Int) := by omega
  have RD := Lib.hid (own_drew (HrC.out.ex i j))
  have GD := Lib.hid (fun u v => grown_drewS (grownBy_trans HgC.out (grown_swp _ g i j u v)))
  have hsx := HxC.out (by omega)
  have hsq := PQ.swap HqC.out (by omega) (by omega) (show i ≤ j by omega) (by omega) (by first | omega | (simp only; omega)) (by first | omega | (simp only; omega))
  have SQ := Lib.hid hsq.1
  have hlij := hsq.2
  clear hsq hsx HqC HxC
  generalize hD : swp d' i j = d2 at *
  generalize nth d' i = x at *
  generalize nth d' j = y at *
  clear hD
  obtain ⟨v9, hy⟩ := cell?_setCell_some (p := ⟨g, i, none⟩) (x := .int .i64 y) (q := ⟨g, j, none⟩) (v := .int .i64 y) c1
  have e1 : IntKind.i64.wrap ((j : Int) - 1) = ((j - 1 : Nat) : Int) := by rw [show (j : Int) - 1 = ((j - 1 : Nat) : Int) by omega]; exact IntWalk.i64_in _ (by omega)
  have e2 : (j : Int) - 1 = ((j - 1 : Nat) : Int) := by omega
  go_wp2_with fail
  go_region
  have GE := Lib.hid (GD.out (.int .i64 y) (.int .i64 x))
  clear GD c0 c1 hy hfz HrC HgC q0 q1 q2 q3 q4
  generalize (World.setCell (World.setCell wC _ _) _ _).drew = wD at *
  go_wp2_with fail
  go_loopw [10, 11] (fun v u wr => ∃ (i j : Nat) (d' : List Int), a + 1 ≤ i ∧ i ≤ b ∧ a ≤ j ∧ j + 1 ≤ b ∧ v = .int .i64 i ∧ u = .int .i64 j ∧ PQ (fun x => x < pv) a b d0 pv i j d' ∧ Row wr base g n c d' ∧ w.grownBy wr (some g)) (fun v _ _ => b - (intOf v).toNat)
  case atStart => exact ⟨i + 1, j - 1, d2, by omega, by omega, by omega, by omega, by go_num, by first | rfl | go_num | (rw [e1]; done) | (congr 1; omega), SQ.out, RD.out, GE.out⟩
  case round =>
    clear RD GE e1 e2 SQ
    obtain ⟨i0, j0, d0', hi1, hi2, hj1, hj2, rfl, rfl, hq, hr, hg⟩ := hrel
    have HrA := Lib.hid hr
    have HgA := Lib.hid hg
    have HqA := Lib.hid hq
    clear hr hg hq
    generalize wr = wA at *
    go_upto_block 6 with fail
    go_cut [10, 11] (fun v u wr => ∃ (i j : Nat) (d' : List Int), i0 ≤ i ∧ i ≤ b ∧ a ≤ j ∧ j + 1 ≤ b ∧ v = .int .i64 i ∧ u = .int .i64 j ∧ PQ (fun x => x < pv) a b d0 pv i j d' ∧ (i ≤ j → pv ≤ nth d' i) ∧ Row wr base g n c d' ∧ w.grownBy wr (some g))
    case first =>
      go_wp2_with fail
      go_loopw [10] (fun v wr => ∃ ii : Nat, i0 ≤ ii ∧ ii ≤ b ∧ v = .int .i64 ii ∧ PQ (fun x => x < pv) a b d0 pv ii j0 d0' ∧ Row wr base g n c d0' ∧ w.grownBy wr (some g)) (fun v _ => b - (intOf v).toNat)
      case atStart => exact ⟨i0, by omega, by omega, rfl, HqA.out, HrA.out, HgA.out⟩
      case round =>
        obtain ⟨ii, hx1, hx2, rfl, hq, hr, hg⟩ := hrel
        have Hr := Lib.hid hr
        have Hg := Lib.hid hg
        have Hq := Lib.hid hq
        by_cases hlt : ii ≤ j0
        · have c0 := hr.cell (show ii < n by omega)
          have c1 := hr.cell (show a < n by omega)
          rw [hq.2.1] at c1
          have q0 : (0 : Int) ≤ (ii : Int) := by omega
          have q1 : (ii : Int) < (n : Int) := by omega
          have q2 : (0 : Int) ≤ (a : Int) := by omega
          have q3 : (a : Int) < (n : Int) := by omega
          have q4 : (ii : Int) ≤ (j0 : Int) := by omega
          have HU := Lib.hid (fun hx => PQ.up hq hx)
          clear hr hg hq
          generalize hX : nth d0' ii = x at *
          have HX := Lib.hid hX
          clear hX
          by_cases hx : x < pv
          · have hd : decide (x < pv) = true := decide_eq_true hx
            go_wp2
            go_quiet ((go_at_call 99; exact Calls.quiet_of_same (less_q _ _ _)))
            go_wp2
            go_roundw
            case rel => exact ⟨ii + 1, by omega, by omega, by go_num, HU.out (by omega), Hr.out.drewN _, grown_drewNS Hg.out _⟩
            case measure => simp [intOf]; omega
          · have hd : decide (x < pv) = false := decide_eq_false hx
            go_wp2
            go_quiet ((go_at_call 99; exact Calls.quiet_of_same (less_q _ _ _)))
            go_wp2
            go_meet
            exact ⟨ii, j0, d0', by omega, by omega, by omega, by omega, rfl, rfl, Hq.out, fun _ => by have e := HX.out; omega, Hr.out.drewN _, grown_drewNS Hg.out _⟩
        · have q4 : decide ((ii : Int) ≤ (j0 : Int)) = false := decide_eq_false (by omega)
          clear hr hg hq
          go_wp2
          go_quiet (fail)
          go_wp2
          go_meet
          exact ⟨ii, j0, d0', by omega, by omega, by omega, by omega, rfl, rfl, Hq.out, fun q => absurd q (by omega), Hr.out.drewN _, grown_drewNS Hg.out _⟩
    case rest =>
    obtain ⟨i, j, d', hi1, hi2, hj1, hj2, rfl, rfl, hq, hxx, hr, hg⟩ := hcut
    have HrB := Lib.hid hr
    have HgB := Lib.hid hg
    have HqB := Lib.hid hq
    have HxB := Lib.hid hxx
    clear hr hg hq hxx HrA HgA HqA
    generalize wc = wB at *
    go_upto_block 8 with fail
    go_cut [10, 11] (fun v u wr => ∃ (i j : Nat) (d' : List Int), i0 ≤ i ∧ i ≤ b ∧ a ≤ j ∧ j + 1 ≤ b ∧ v = .int .i64 i ∧ u = .int .i64 j ∧ PQ (fun x => x < pv) a b d0 pv i j d' ∧ (i ≤ j → pv ≤ nth d' i ∧ nth d' j < pv) ∧ Row wr base g n c d' ∧ w.grownBy wr (some g))
    case first =>
      go_wp2_with fail
      go_loopw [11] (fun v wr => ∃ jj : Nat, a ≤ jj ∧ jj ≤ j ∧ v = .int .i64 jj ∧ PQ (fun x => x < pv) a b d0 pv i jj d' ∧ Row wr base g n c d' ∧ w.grownBy wr (some g)) (fun v _ => (intOf v).toNat)
      case atStart => exact ⟨j, by omega, by omega, rfl, HqB.out, HrB.out, HgB.out⟩
      case round =>
        obtain ⟨jj, hx1, hx2, rfl, hq, hr, hg⟩ := hrel
        have Hr := Lib.hid hr
        have Hg := Lib.hid hg
        have Hq := Lib.hid hq
        by_cases hlt : i ≤ jj
        · have c0 := hr.cell (show jj < n by omega)
          have c1 := hr.cell (show a < n by omega)
          rw [hq.2.1] at c1
          have q0 : (0 : Int) ≤ (jj : Int) := by omega
          have q1 : (jj : Int) < (n : Int) := by omega
          have q2 : (0 : Int) ≤ (a : Int) := by omega
          have q3 : (a : Int) < (n : Int) := by omega
          have q4 : (i : Int) ≤ (jj : Int) := by omega
          have HU := Lib.hid (fun hx => PQ.down hq hx)
          clear hr hg hq
          generalize hX : nth d' jj = x at *
          have HX := Lib.hid hX
          clear hX
          by_cases hx : x < pv
          · have hd : decide (x < pv) = true := decide_eq_true hx
            go_wp2
            go_quiet ((go_at_call 99; exact Calls.quiet_of_same (less_q _ _ _)))
            go_wp2
            go_meet
            exact ⟨i, jj, d', by omega, by omega, by omega, by omega, rfl, rfl, Hq.out, fun q => ⟨HxB.out (by omega), by have e := HX.out; omega⟩, Hr.out.drewN _, grown_drewNS Hg.out _⟩
          · have hd : decide (x < pv) = false := decide_eq_false hx
            go_wp2
            go_quiet ((go_at_call 99; exact Calls.quiet_of_same (less_q _ _ _)))
            go_wp2
            go_roundw
            case rel => exact ⟨jj - 1, by omega, by omega, by go_num, HU.out (by omega), Hr.out.drewN _, grown_drewNS Hg.out _⟩
            case measure => simp [intOf]; omega
        · have q4 : decide ((i : Int) ≤ (jj : Int)) = false := decide_eq_false (by omega)
          clear hr hg hq
          go_wp2
          go_quiet (fail)
          go_wp2
          go_meet
          exact ⟨i, jj, d', by omega, by omega, by omega, by omega, rfl, rfl, Hq.out, fun q => absurd q (by omega), Hr.out.drewN _, grown_drewNS Hg.out _⟩
    case rest =>
    obtain ⟨i, j, d', hi1, hi2, hj1, hj2, rfl, rfl, hq, hxx, hr, hg⟩ := hcut
    have HrC := Lib.hid hr
    have HgC := Lib.hid hg
    have HqC := Lib.hid hq
    have HxC := Lib.hid hxx
    clear hr hg hq hxx HrB HgB HqB HxB
    generalize wc = wC at *
    by_cases hij : j < i
    · have q4 : (j : Int) < (i : Int) := by omega
      have hfz := HrC.out.frozenAt
      have c0 := HrC.out.cell (show j < n by omega)
      have c1 := HrC.out.cell (show a < n by omega)
      have q0 : (0 : Int) ≤ (j : Int) := by omega
      have q1 : (j : Int) < (n : Int) := by omega
      have q2 : (0 : Int) ≤ (a : Int) := by omega
      have q3 : (a : Int) < (n : Int) := by omega
      have RD := Lib.hid (own_drew (HrC.out.ex j a))
      have GD := Lib.hid (fun u v => grown_drewS (grownBy_trans HgC.out (grown_swp _ g j a u v)))
      have HP := Lib.hid (PQ.parted HqC.out (by omega) (by omega) hij (by omega))
      clear HqC HxC
      generalize hD : swp d' j a = d2 at *
      generalize nth d' j = x at *
      generalize nth d' a = y at *
      clear hD
      obtain ⟨v9, hy⟩ := cell?_setCell_some (p := ⟨g, j, none⟩) (x := .int .i64 y) (q := ⟨g, a, none⟩) (v := .int .i64 y) c1
      go_wp2_with fail
      go_region
      have GE := Lib.hid (GD.out (.int .i64 y) (.int .i64 x))
      clear GD c0 c1 hy hfz HrC HgC
      go_wp2
      go_ret2
      exact ⟨j, false, d2, rfl, by omega, by omega, HP.out, RD.out, GE.out⟩
    · have q4 : ¬ (j : Int) < (i : Int) := by omega
      have hfz := HrC.out.frozenAt
      have c0 := HrC.out.cell (show i < n by omega)
      have c1 := HrC.out.cell (show j < n by omega)
      have q0 : (0 : Int) ≤ (i : Int) := by omega
      have q1 : (i : Int) < (n : Int) := by omega
      have q2 : (0 : Int) ≤ (j : Int) := by omega
      have q3 : (j : Int) < (n : Int) := by omega
      have RD := Lib.hid (own_drew (HrC.out.ex i j))
      have GD := Lib.hid (fun u v => grown_drewS (grownBy_trans HgC.out (grown_swp _ g i j u v)))
      have hsx := HxC.out (by omega)
      have hsq := PQ.swap HqC.out (by omega) (by omega) (show i ≤ j by omega) (by omega) (by first | omega | (simp only; omega)) (by first | omega | (simp only; omega))
      have SQ := Lib.hid hsq.1
      have hlij := hsq.2
      clear hsq hsx HqC HxC
      generalize hD : swp d' i j = d2 at *
      generalize nth d' i = x at *
      generalize nth d' j = y at *
      clear hD
      obtain ⟨v9, hy⟩ := cell?_setCell_some (p := ⟨g, i, none⟩) (x := .int .i64 y) (q := ⟨g, j, none⟩) (v := .int .i64 y) c1
      have e1 : IntKind.i64.wrap ((j : Int) - 1) = ((j - 1 : Nat) : Int) := by rw [show (j : Int) - 1 = ((j - 1 : Nat) : Int) by omega]; exact IntWalk.i64_in _ (by omega)
      go_wp2_with fail
      go_region
      have GE := Lib.hid (GD.out (.int .i64 y) (.int .i64 x))
      clear GD c0 c1 hy hfz HrC HgC
      go_wp2
      go_roundw
      case rel => exact ⟨i + 1, j - 1, d2, by omega, by omega, by omega, by omega, by go_num, by first | rfl | go_num | (rw [e1]; done) | (congr 1; omega), SQ.out, RD.out, GE.out⟩
      case measure => simp [intOf]; omega
end Go.Proofs.Ytmbchcenclfjoaa
