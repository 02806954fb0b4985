/- Sorting in place, at any length: the test for order, which shifts a few numbers. -/
import Derived.Test.YtmbchcenclfjoaaSq2
import Derived.Deep.DeepCutAuto
import Derived.Deep.CutBlock
namespace Go.Proofs.Ytmbchcenclfjoaa
open Go.ChangeShapes Go.WideShapes Go.ChangeAt Go.RowKit
set_option maxRecDepth 20000
set_option linter.unusedVariables false
set_option linter.unusedSimpArgs false
def PartialP (base g n c a b : Nat) (d0 : List Int) (w : World) (e : Ending) (w' : World) : Prop := ∃ (r : Bool) (d' : List Int), e = .returned (.bool r) ∧ Sw a b d0 d' ∧ (r = true → SrtTo a b d') ∧ Row w' base g n c d' ∧ w.grownBy w' (some g)
set_option maxHeartbeats 8000000 in
theorem partial_any (base g n c a b : Nat) (d0 : List Int) (w : World) (hn : n ≤ 1073741824) (hab : a + 12 < b) (hb : b ≤ n) (hlo : Lo a b d0) (h : Row w base g n c d0) :
   Calls Try.prog 98 #[.slice (some ⟨g, 0, none⟩) n c, .int .i64 a, .int .i64 b] w (PartialP base g n c a b d0 w) := by
  have H := Lib.hid h
  have HL := Lib.hid hlo
  have hlen0 := h.len
  clear h hlo
  go_enter Try.func98, Try.ntmps98
  go_wp2_with fail
  go_loopw [7, 8, 9, 10] (fun v u _ _ wr => ∃ (i s : Nat) (d' : List Int), a < i ∧ i ≤ b ∧ s ≤ 5 ∧ v = .int .i64 i ∧ u = .int .i64 s ∧ Sw a b d0 d' ∧ SrtTo a i d' ∧ Row wr base g n c d' ∧ w.grownBy wr (some g)) (fun _ u _ _ _ => 5 - (intOf u).toNat)
  case atStart => exact ⟨a + 1, 0, d0, by omega, by omega, by omega, by go_num, rfl, Sw.refl, fun p q h1 h2 h3 => by omega, H.out, World.grownBy.refl _ _⟩
  case round =>
    clear H
    obtain ⟨i0, s, d', hi1, hi2, hs5, rfl, rfl, hsw, hst, hr, hg⟩ := hrel
    have hlen := hr.len
    have HrA := Lib.hid hr
    have HgA := Lib.hid hg
    have HsA := Lib.hid hsw
    have HtA := Lib.hid hst
    clear hr hg hsw hst
    generalize wr = wA at *
    by_cases hs : s < 5
    rotate_left
    · have q5 : ¬ (s : Int) < 5 := by omega
      go_wp2
      go_ret
      exact ⟨false, d', rfl, HsA.out, (fun h => by cases h), HrA.out, HgA.out⟩
    have q5 : (s : Int) < 5 := by omega
    go_upto_block 2 with fail
    go_cut [7] (fun v wx => ∃ i : Nat, a < i ∧ i ≤ b ∧ v = .int .i64 i ∧ SrtTo a i d' ∧ Row wx base g n c d' ∧ w.grownBy wx (some g))
    case first =>
      go_wp2_with fail
      go_loopw [7] (fun v wr => ∃ i : Nat, a < i ∧ i ≤ b ∧ v = .int .i64 i ∧ SrtTo a i d' ∧ Row wr base g n c d' ∧ w.grownBy wr (some g)) (fun v _ => b - (intOf v).toNat)
      case atStart => exact ⟨i0, hi1, hi2, rfl, HtA.out, HrA.out, HgA.out⟩
      case round =>
        obtain ⟨i, hi1', hi2', rfl, ht, hr, hg⟩ := hrel
        have Hr := Lib.hid hr
        have Hg := Lib.hid hg
        have Ht := Lib.hid ht
        clear hr hg ht
        by_cases hlt : i < b
        · have q4 : (i : Int) < (b : Int) := by omega
          have c0 := Hr.out.cell (show i < n by omega)
          have c1 := Hr.out.cell (show i - 1 < n by omega)
          have q0 : (0 : Int) ≤ (i : Int) := by omega
          have q1 : (i : Int) < (n : Int) := by omega
          have q2 : (0 : Int) ≤ ((i - 1 : Nat) : Int) := by omega
          have q3 : ((i - 1 : Nat) : Int) < (n : Int) := by omega
          have e1 : IntKind.i64.wrap ((i : Int) - 1) = ((i - 1 : Nat) : Int) := by rw [show (i : Int) - 1 = ((i - 1 : Nat) : Int) by omega]; exact IntWalk.i64_in _ (by omega)
          have HC := Lib.hid (fun hx => Ht.out.snoc hi1' hx)
          generalize nth d' i = x at *
          generalize nth d' (i - 1) = y at *
          by_cases hx : x < y
          · have hd : decide (x < y) = true := decide_eq_true hx
            clear hx HC
            go_wp2
            go_quiet ((go_at_call 99; exact Calls.quiet_of_same (less_q x y _)))
            go_wp2
            go_meet
            exact ⟨i, hi1', hi2', rfl, Ht.out, Hr.out.drewN _, grown_drewNS Hg.out _⟩
          · have hd : decide (x < y) = false := decide_eq_false hx
            have HC2 := Lib.hid (HC.out (by omega))
            clear hx HC
            go_wp2
            go_quiet ((go_at_call 99; exact Calls.quiet_of_same (less_q x y _)))
            go_wp2
            go_roundw
            case rel => exact ⟨i + 1, by omega, by omega, by go_num, HC2.out, Hr.out.drewN _, grown_drewNS Hg.out _⟩
            case measure => simp [intOf]; omega
        · have q4 : decide ((i : Int) < (b : Int)) = false := decide_eq_false (by omega)
          go_wp2
          go_quiet (fail)
          go_wp2
          go_meet
          exact ⟨i, hi1', hi2', rfl, Ht.out, Hr.out.drewN _, grown_drewNS Hg.out _⟩
    case rest =>
      clear HrA HgA HtA hi1 hi2
      obtain ⟨i, hi1, hi2, rfl, ht, hr, hg⟩ := hcut
      have HrB := Lib.hid hr
      have HgB := Lib.hid hg
      have HtB := Lib.hid ht
      clear hr hg ht
      generalize wc = wB at *
      by_cases hib : i = b
      · have qb : ((i : Int) == (b : Int)) = true := by rw [hib]; simp
        go_wp2
        go_ret
        have ht := HtB.out
        rw [hib] at ht
        exact ⟨true, d', rfl, HsA.out, fun _ => ht, HrB.out, HgB.out⟩
      have qb : ((i : Int) == (b : Int)) = false := by rw [beq_eq_false_iff_ne]; omega
      by_cases h50 : b - a < 50
      · have e50 : (b : Int) - (a : Int) < 50 := by omega
        go_wp2
        go_ret
        exact ⟨false, d', rfl, HsA.out, (fun h => by cases h), HrB.out, HgB.out⟩
      have e50 : ¬ (b : Int) - (a : Int) < 50 := by omega
      have hfz := HrB.out.frozenAt
      have c0 := HrB.out.cell (show i < n by omega)
      have c1 := HrB.out.cell (show i - 1 < n by omega)
      have q0 : (0 : Int) ≤ (i : Int) := by omega
      have q1 : (i : Int) < (n : Int) := by omega
      have q2 : (0 : Int) ≤ ((i - 1 : Nat) : Int) := by omega
      have q3 : ((i - 1 : Nat) : Int) < (n : Int) := by omega
      have e1 : IntKind.i64.wrap ((i : Int) - 1) = ((i - 1 : Nat) : Int) := by rw [show (i : Int) - 1 = ((i - 1 : Nat) : Int) by omega]; exact IntWalk.i64_in _ (by omega)
      have RD := Lib.hid (own_drew (HrB.out.ex i (i - 1)))
      have GD := Lib.hid (fun u v => grown_drewS (grownBy_trans HgB.out (grown_swp _ g i (i - 1) u v)))
      have SD := Lib.hid (HsA.out.ex (i := i) (j := i - 1) (by omega) (by omega) (by omega) (by omega))
      have OD := Lib.hid (Hole.swap HtB.out (by omega) (by omega))
      have hlD : (swp d' i (i - 1)).length = d'.length := swp_len _ _ _
      clear HsA HtB
      generalize swp d' i (i - 1) = D at *
      generalize nth d' i = x at *
      generalize nth d' (i - 1) = y at *
      go_wp2_with fail
      go_region
      have GE := Lib.hid (GD.out (.int .i64 y) (.int .i64 x))
      clear GD c0 c1 hfz HrB HgB
      generalize (World.setCell (World.setCell wB _ _) _ _).drew = wD at *
      go_upto_if 61 with fail
      go_cut [9] (fun _ wx => ∃ d3 : List Int, Sw a b d0 d3 ∧ SrtTo a i d3 ∧ Row wx base g n c d3 ∧ w.grownBy wx (some g))
      case first =>
        by_cases hia : 2 ≤ i - a
        · have ea : 2 ≤ (i : Int) - (a : Int) := by omega
          go_wp2_with fail
          go_loopw [9] (fun v wr => ∃ (j : Nat) (d3 : List Int), a ≤ j ∧ j ≤ i - 1 ∧ v = .int .i64 j ∧ Sw a b d0 d3 ∧ Hole a (i - 1) j d3 ∧ Row wr base g n c d3 ∧ w.grownBy wr (some g)) (fun v _ => (intOf v).toNat)
          case atStart => exact ⟨i - 1, D, by omega, Nat.le_refl _, by first | rfl | (rw [e1]; done) | go_num | (congr 1; omega), SD.out, OD.out, RD.out, GE.out⟩
          case round =>
            clear SD OD RD GE e1 q0 q1 q2 q3
            obtain ⟨j, d3, hj1, hj2, rfl, hsw, hho, hr, hg⟩ := hrel
            have hlen3 := hr.len
            have hLo := Lo.keep HL.out (by omega) hsw
            have Hr := Lib.hid hr
            have Hg := Lib.hid hg
            have Hs := Lib.hid hsw
            have Ho := Lib.hid hho
            clear hr hg hsw hho
            generalize wr = wo at *
            by_cases hj : 1 ≤ j
            · have qj : 1 ≤ (j : Int) := by omega
              have hfz := Hr.out.frozenAt
              have c0 := Hr.out.cell (show j < n by omega)
              have c1 := Hr.out.cell (show j - 1 < n by omega)
              have q0 : (0 : Int) ≤ (j : Int) := by omega
              have q1 : (j : Int) < (n : Int) := by omega
              have q2 : (0 : Int) ≤ ((j - 1 : Nat) : Int) := by omega
              have q3 : ((j - 1 : Nat) : Int) < (n : Int) := by omega
              have e1 : IntKind.i64.wrap ((j : Int) - 1) = ((j - 1 : Nat) : Int) := by rw [show (j : Int) - 1 = ((j - 1 : Nat) : Int) by omega]; exact IntWalk.i64_in _ (by omega)
              have HR2 := Lib.hid (fun k => (Hr.out.drewN k).ex j (j - 1))
              have HG2 := Lib.hid (fun k u v => grownBy_trans (grown_drewNS Hg.out k) (grown_swp (World.drewN wo k) g j (j - 1) u v))
              have HC := Lib.hid (show nth d3 j < nth d3 (j - 1) → (a < j ∧ Sw a b d0 (swp d3 j (j - 1)) ∧ Hole a (i - 1) (j - 1) (swp d3 j (j - 1))) from fun hx => by
                have haj : a < j := by
                  rcases Nat.lt_or_eq_of_le hj1 with h | h
                  · exact h
                  · subst h; exact absurd hx (hLo.bot (by omega) hj)
                exact ⟨haj, Hs.out.ex (by omega) (by omega) (by omega) (by omega), Hole.step Ho.out haj hj2 (by omega) hx⟩)
              have HS := Lib.hid (show ¬ nth d3 j < nth d3 (j - 1) → SrtTo a i d3 from fun hx => by
                rcases Nat.lt_or_eq_of_le hj1 with h | h
                · have := Hole.ends Ho.out h hj2 hx
                  rwa [show i - 1 + 1 = i by omega] at this
                · subst h
                  have := Hole.bottom Ho.out
                  rwa [show i - 1 + 1 = i by omega] at this)
              clear hLo Ho
              generalize swp d3 j (j - 1) = D2 at *
              generalize nth d3 j = x at *
              generalize nth d3 (j - 1) = y at *
              by_cases hx : x < y
              · have hd : decide (x < y) = true := decide_eq_true hx
                have HC2 := Lib.hid (HC.out hx)
                clear HC HS hx
                go_wp2
                go_quiet ((go_at_call 99; exact Calls.quiet_of_same (less_q x y _)))
                go_wp2_with fail
                go_region
                all_goals go_wp2
                all_goals go_roundw
                all_goals first | exact ⟨j - 1, D2, by have := HC2.out.1; omega, by omega, by go_num, HC2.out.2.1, HC2.out.2.2, HR2.out _, HG2.out _ _ _⟩ | (simp [intOf]; omega)
              · have hd : decide (x < y) = false := decide_eq_false hx
                have HS2 := Lib.hid (HS.out hx)
                clear HC HS hx HR2 HG2
                go_wp2
                go_quiet ((go_at_call 99; exact Calls.quiet_of_same (less_q x y _)))
                go_wp2
                go_meet
                exact ⟨d3, Hs.out, HS2.out, Hr.out.drewN _, grown_drewNS Hg.out _⟩
            · have hj0 : j = a := by omega
              subst hj0
              have hss := Hole.bottom Ho.out
              rw [show i - 1 + 1 = i by omega] at hss
              have HSS := Lib.hid hss
              have qj : ¬ 1 ≤ (j : Int) := by omega
              clear hss hLo
              go_wp2
              go_meet
              exact ⟨d3, Hs.out, HSS.out, Hr.out, Hg.out⟩
        · have ea : ¬ 2 ≤ (i : Int) - (a : Int) := by omega
          go_wp2
          go_meet
          exact ⟨D, SD.out, fun p q h1 h2 h3 => by omega, RD.out, GE.out⟩
      case rest =>
        clear SD OD RD GE e1 q0 q1 q2 q3
        obtain ⟨d3, hsw, hst, hr, hg⟩ := hcut
        have hlen3 := hr.len
        have HrC := Lib.hid hr
        have HgC := Lib.hid hg
        have HsC := Lib.hid hsw
        have HtC := Lib.hid hst
        clear hr hg hsw hst
        generalize wc = wC at *
        by_cases hbi : 2 ≤ b - i
        · have eb : 2 ≤ (b : Int) - (i : Int) := by omega
          go_wp2_with fail
          go_loopw [10] (fun v wr => ∃ (j : Nat) (d4 : List Int), i < j ∧ j ≤ b ∧ v = .int .i64 j ∧ Sw a b d0 d4 ∧ SrtTo a i d4 ∧ Row wr base g n c d4 ∧ w.grownBy wr (some g)) (fun v _ => b - (intOf v).toNat)
          case atStart => exact ⟨i + 1, d3, by omega, by omega, by go_num, HsC.out, HtC.out, HrC.out, HgC.out⟩
          case round =>
            clear HrC HgC HsC HtC
            obtain ⟨j, d4, hj1, hj2, rfl, hsw, hst, hr, hg⟩ := hrel
            have hlen4 := hr.len
            have Hr := Lib.hid hr
            have Hg := Lib.hid hg
            have Hs := Lib.hid hsw
            have Ht := Lib.hid hst
            clear hr hg hsw hst
            generalize wr = wo at *
            by_cases hj : j < b
            · have qj : (j : Int) < (b : Int) := by omega
              have hfz := Hr.out.frozenAt
              have c0 := Hr.out.cell (show j < n by omega)
              have c1 := Hr.out.cell (show j - 1 < n by omega)
              have q0 : (0 : Int) ≤ (j : Int) := by omega
              have q1 : (j : Int) < (n : Int) := by omega
              have q2 : (0 : Int) ≤ ((j - 1 : Nat) : Int) := by omega
              have q3 : ((j - 1 : Nat) : Int) < (n : Int) := by omega
              have e1 : IntKind.i64.wrap ((j : Int) - 1) = ((j - 1 : Nat) : Int) := by rw [show (j : Int) - 1 = ((j - 1 : Nat) : Int) by omega]; exact IntWalk.i64_in _ (by omega)
              have HR2 := Lib.hid (fun k => (Hr.out.drewN k).ex j (j - 1))
              have HG2 := Lib.hid (fun k u v => grownBy_trans (grown_drewNS Hg.out k) (grown_swp (World.drewN wo k) g j (j - 1) u v))
              have HC := Lib.hid (show nth d4 j < nth d4 (j - 1) → (Sw a b d0 (swp d4 j (j - 1)) ∧ SrtTo a i (swp d4 j (j - 1))) from fun hx =>
                ⟨Hs.out.ex (by omega) (by omega) (by omega) (by omega), Ht.out.keep (b := b) (by omega) (Sw.ex Sw.refl (by omega) (by omega) (by omega) (by omega))⟩)
              have HS := Lib.hid (show ¬ nth d4 j < nth d4 (j - 1) → True from fun _ => trivial)
              generalize swp d4 j (j - 1) = D2 at *
              generalize nth d4 j = x at *
              generalize nth d4 (j - 1) = y at *
              by_cases hx : x < y
              · have hd : decide (x < y) = true := decide_eq_true hx
                have HC2 := Lib.hid (HC.out hx)
                clear HC HS hx
                go_wp2
                go_quiet ((go_at_call 99; exact Calls.quiet_of_same (less_q x y _)))
                go_wp2_with fail
                go_region
                all_goals go_wp2
                all_goals go_roundw
                all_goals first | exact ⟨j + 1, D2, by omega, by omega, by go_num, HC2.out.1, HC2.out.2, HR2.out _, HG2.out _ _ _⟩ | (simp [intOf]; omega)
              · have hd : decide (x < y) = false := decide_eq_false hx
                have HS2 := Lib.hid (HS.out hx)
                clear HC HS hx HR2 HG2
                go_wp2
                go_quiet ((go_at_call 99; exact Calls.quiet_of_same (less_q x y _)))
                go_wp2
                go_roundw
                case rel => exact ⟨i, s + 1, d4, hi1, hi2, by omega, rfl, by go_num, Hs.out, Ht.out, Hr.out.drewN _, grown_drewNS Hg.out _⟩
                case measure => simp [intOf]; omega
            · have qj : ¬ (j : Int) < (b : Int) := by omega
              go_wp2
              go_roundw
              case rel => exact ⟨i, s + 1, d4, hi1, hi2, by omega, rfl, by go_num, Hs.out, Ht.out, Hr.out, Hg.out⟩
              case measure => simp [intOf]; omega
        · have eb : ¬ 2 ≤ (b : Int) - (i : Int) := by omega
          go_wp2
          go_roundw
          case rel => exact ⟨i, s + 1, d3, hi1, hi2, by omega, rfl, by go_num, HsC.out, HtC.out, HrC.out, HgC.out⟩
          case measure => simp [intOf]; omega
end Go.Proofs.Ytmbchcenclfjoaa
