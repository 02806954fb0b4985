/- Sorting in place, at any length: the sort by a heap. -/
import Derived.Test.YtmbchcenclfjoaaSq2
namespace Go.Proofs.Ytmbchcenclfjoaa
open Go.ChangeShapes Go.WideShapes Go.ChangeAt Go.RowKit
set_option maxRecDepth 20000
set_option linter.unusedVariables false
set_option linter.unusedSimpArgs false
set_option maxHeartbeats 8000000 in
theorem sift_any (base g n c lo hi f : Nat) (d0 : List Int) (w : World) (hn : n ≤ 1073741824) (hf : f + hi ≤ n) (hlo : lo ≤ 1073741824) (hA : AllHp (lo + 1) hi f d0) (h : Row w base g n c d0) :
   Calls Try.prog 104 #[.slice (some ⟨g, 0, none⟩) n c, .int .i64 lo, .int .i64 hi, .int .i64 f] w (RowP base g n c w (fun d => Sw f (f + hi) d0 d ∧ AllHp lo hi f d)) := by
  have H := Lib.hid h
  have hlen := h.len
  have HI := Lib.hid (Inv.start hA)
  clear h hA
  go_enter Try.func104, Try.ntmps104
  go_wp2_with fail
  go_loopw [8] (fun v wr => ∃ (r : Nat) (d' : List Int), r ≤ 1073741824 ∧ lo ≤ r ∧ v = .int .i64 r ∧ Sw f (f + hi) d0 d' ∧ Inv lo hi f r d' ∧ Row wr base g n c d' ∧ w.grownBy wr (some g)) (fun v _ => hi - (intOf v).toNat)
  case atStart => exact ⟨lo, d0, hlo, Nat.le_refl _, rfl, Sw.refl, HI.out, H.out, World.grownBy.refl _ _⟩
  case round =>
    clear H HI hlen
    obtain ⟨r, d', hr24, hlr, rfl, hs, hi', hr, hg⟩ := hrel
    have hlen := hr.len
    have Hr := Lib.hid hr
    have Hg := Lib.hid hg
    have Hs := Lib.hid hs
    have Hi := Lib.hid hi'
    clear hr hg hs hi'
    generalize wr = wo at *
    obtain ⟨ch, hch⟩ : ∃ ch, ch = 2 * r + 1 := ⟨_, rfl⟩
    have hch2 : r < ch ∧ ch ≤ 2 * r + 1 ∧ 2 * r + 1 ≤ ch := by omega
    have ec : 2 * (r : Int) + 1 = (ch : Int) := by omega
    clear hch
    by_cases hc : ch < hi
    · obtain ⟨fr, hfr⟩ : ∃ fr, fr = f + r := ⟨_, rfl⟩
      obtain ⟨fc, hfc⟩ : ∃ fc, fc = f + ch := ⟨_, rfl⟩
      obtain ⟨fc1, hfc1⟩ : ∃ fc1, fc1 = fc + 1 := ⟨_, rfl⟩
      obtain ⟨ch1, hch1⟩ : ∃ ch1, ch1 = ch + 1 := ⟨_, rfl⟩
      have hb : fr < fc ∧ fc < n ∧ fc1 ≤ fc + 1 ∧ fc + 1 ≤ fc1 ∧ ch1 ≤ ch + 1 ∧ ch + 1 ≤ ch1 ∧ ch1 ≤ 1073741824 ∧ f ≤ fr ∧ fc < f + hi ∧ (ch1 < hi → fc1 < n ∧ fc1 < f + hi) := by omega
      have w1 : IntKind.i64.wrap ((f : Int) + (r : Int)) = (fr : Int) := by rw [show (f : Int) + (r : Int) = (fr : Int) by omega]; exact IntWalk.i64_in _ (by omega)
      have w2 : IntKind.i64.wrap ((f : Int) + (ch : Int)) = (fc : Int) := by rw [show (f : Int) + (ch : Int) = (fc : Int) by omega]; exact IntWalk.i64_in _ (by omega)
      have w3 : IntKind.i64.wrap ((fc : Int) + 1) = (fc1 : Int) := by rw [show (fc : Int) + 1 = (fc1 : Int) by omega]; exact IntWalk.i64_in _ (by omega)
      have w4 : IntKind.i64.wrap ((ch : Int) + 1) = (ch1 : Int) := by rw [show (ch : Int) + 1 = (ch1 : Int) by omega]; exact IntWalk.i64_in _ (by omega)
      have w5 : IntKind.i64.wrap ((f : Int) + (ch1 : Int)) = (fc1 : Int) := by rw [show (f : Int) + (ch1 : Int) = (fc1 : Int) by omega]; exact IntWalk.i64_in _ (by omega)
      have w6 : (ch : Int) + 1 = (ch1 : Int) := by omega
      have hnc : ¬ (hi : Int) ≤ (ch : Int) := by omega
      by_cases h1 : ch1 < hi
      · have q4 : (ch1 : Int) < (hi : Int) := by omega
        have c0 := Hr.out.cell (show fc < n by omega)
        have c1 := Hr.out.cell (show fc1 < n by omega)
        have a0 : (0 : Int) ≤ (fc : Int) := by omega
        have a1 : (fc : Int) < (n : Int) := by omega
        have a2 : (0 : Int) ≤ (fc1 : Int) := by omega
        have a3 : (fc1 : Int) < (n : Int) := by omega
        by_cases hx : nth d' fc < nth d' fc1
        · have hmx : ∀ c', (c' = 2 * r + 1 ∨ c' = 2 * r + 2) → c' < hi → nth d' (f + c') ≤ nth d' (f + ch1) := fun c' h5 h6 => by
            rcases (by omega : c' = ch ∨ c' = ch1) with e | e
            · rw [e, ← hfc, show f + ch1 = fc1 by omega]; omega
            · rw [e]; exact Int.le_refl _
          have HS := Lib.hid (fun hx => Inv.step Hi.out (by omega) hlr (by omega) (by omega) hmx hx)
          have HE := Lib.hid (fun hx => Inv.stop Hi.out hmx hx)
          rw [← hfr, show f + ch1 = fc1 by omega] at HS HE
          clear hmx Hi
          clear hfr hfc hfc1 hch1
          generalize hX : nth d' fc = x at *
          generalize hY : nth d' fc1 = y at *
          have hd : decide (x < y) = true := decide_eq_true hx
          clear hX
          subst hY
          go_wp2
          go_quiet ((go_at_call 99; exact Calls.quiet_of_same (less_q _ _ _)))
          go_wp2_with fail
          clear c0 c1 hd hx
          generalize hwq : World.drewN wo _ = wq
          have HrQ := Lib.hid (show Row wq base g n c d' from hwq ▸ Hr.out.drewN _)
          have HgQ := Lib.hid (show w.grownBy wq (some g) from hwq ▸ grown_drewNS Hg.out _)
          clear hwq Hr Hg
          have k0 := HrQ.out.cell (show fr < n by omega)
          have k1 := HrQ.out.cell (show fc1 < n by omega)
          have kr0 : (0 : Int) ≤ (fr : Int) := by omega
          have kr1 : (fr : Int) < (n : Int) := by omega
          have kc0 : (0 : Int) ≤ (fc1 : Int) := by omega
          have kc1 : (fc1 : Int) < (n : Int) := by omega
          by_cases hx : nth d' fr < nth d' fc1
          · have hfz := HrQ.out.frozenAt
            have RD := Lib.hid (fun k => (HrQ.out.drewN k).ex fr fc1)
            have GD := Lib.hid (fun k u v => grownBy_trans (grown_drewNS HgQ.out k) (grown_swp (World.drewN wq k) g fr fc1 u v))
            have SD := Lib.hid (Hs.out.ex (i := fr) (j := fc1) (by omega) (by omega) (by omega) (by omega))
            have ID := Lib.hid (HS.out hx)
            clear HS HE
            generalize hD : swp d' fr fc1 = d2 at *
            generalize nth d' fr = x at *
            generalize nth d' fc1 = y at *
            have hd : decide (x < y) = true := decide_eq_true hx
            clear hD
            obtain ⟨v9, hy⟩ := cell?_setCell_some (w := wq) (p := ⟨g, fr, none⟩) (x := .int .i64 y) (q := ⟨g, fc1, none⟩) (v := .int .i64 y) k1
            go_quiet ((go_at_call 99; exact Calls.quiet_of_same (less_q _ _ _)))
            go_wp2_with fail
            go_region
            all_goals go_wp2
            all_goals go_roundw
            all_goals first | (simp [intOf]; omega) | exact ⟨ch1, d2, by omega, by omega, by first | rfl | go_num, SD.out, ID.out, RD.out _, GD.out _ _ _⟩
          · have ED := Lib.hid (HE.out (by omega))
            clear HS HE
            generalize nth d' fr = x at *
            generalize nth d' fc1 = y at *
            have hd : decide (x < y) = false := decide_eq_false hx
            go_quiet ((go_at_call 99; exact Calls.quiet_of_same (less_q _ _ _)))
            go_wp2
            go_end0
            exact ⟨d', rfl, ⟨Hs.out, ED.out⟩, HrQ.out.drewN _, grown_drewNS HgQ.out _⟩
        · have hmx : ∀ c', (c' = 2 * r + 1 ∨ c' = 2 * r + 2) → c' < hi → nth d' (f + c') ≤ nth d' (f + ch) := fun c' h5 h6 => by
            rcases (by omega : c' = ch ∨ c' = ch1) with e | e
            · rw [e]; exact Int.le_refl _
            · rw [e, ← hfc, show f + ch1 = fc1 by omega]; omega
          have HS := Lib.hid (fun hx => Inv.step Hi.out (by omega) hlr (by omega) (by omega) hmx hx)
          have HE := Lib.hid (fun hx => Inv.stop Hi.out hmx hx)
          rw [← hfr, show f + ch = fc by omega] at HS HE
          clear hmx Hi
          clear hfr hfc hfc1 hch1
          generalize hX : nth d' fc = x at *
          generalize hY : nth d' fc1 = y at *
          have hd : decide (x < y) = false := decide_eq_false hx
          clear hY
          subst hX
          go_wp2
          go_quiet ((go_at_call 99; exact Calls.quiet_of_same (less_q _ _ _)))
          go_wp2_with fail
          clear c0 c1 hd hx
          generalize hwq : World.drewN wo _ = wq
          have HrQ := Lib.hid (show Row wq base g n c d' from hwq ▸ Hr.out.drewN _)
          have HgQ := Lib.hid (show w.grownBy wq (some g) from hwq ▸ grown_drewNS Hg.out _)
          clear hwq Hr Hg
          have k0 := HrQ.out.cell (show fr < n by omega)
          have k1 := HrQ.out.cell (show fc < n by omega)
          have kr0 : (0 : Int) ≤ (fr : Int) := by omega
          have kr1 : (fr : Int) < (n : Int) := by omega
          have kc0 : (0 : Int) ≤ (fc : Int) := by omega
          have kc1 : (fc : Int) < (n : Int) := by omega
          by_cases hx : nth d' fr < nth d' fc
          · have hfz := HrQ.out.frozenAt
            have RD := Lib.hid (fun k => (HrQ.out.drewN k).ex fr fc)
            have GD := Lib.hid (fun k u v => grownBy_trans (grown_drewNS HgQ.out k) (grown_swp (World.drewN wq k) g fr fc u v))
            have SD := Lib.hid (Hs.out.ex (i := fr) (j := fc) (by omega) (by omega) (by omega) (by omega))
            have ID := Lib.hid (HS.out hx)
            clear HS HE
            generalize hD : swp d' fr fc = d2 at *
            generalize nth d' fr = x at *
            generalize nth d' fc = y at *
            have hd : decide (x < y) = true := decide_eq_true hx
            clear hD
            obtain ⟨v9, hy⟩ := cell?_setCell_some (w := wq) (p := ⟨g, fr, none⟩) (x := .int .i64 y) (q := ⟨g, fc, none⟩) (v := .int .i64 y) k1
            go_quiet ((go_at_call 99; exact Calls.quiet_of_same (less_q _ _ _)))
            go_wp2_with fail
            go_region
            all_goals go_wp2
            all_goals go_roundw
            all_goals first | (simp [intOf]; omega) | exact ⟨ch, d2, by omega, by omega, by first | rfl | go_num, SD.out, ID.out, RD.out _, GD.out _ _ _⟩
          · have ED := Lib.hid (HE.out (by omega))
            clear HS HE
            generalize nth d' fr = x at *
            generalize nth d' fc = y at *
            have hd : decide (x < y) = false := decide_eq_false hx
            go_quiet ((go_at_call 99; exact Calls.quiet_of_same (less_q _ _ _)))
            go_wp2
            go_end0
            exact ⟨d', rfl, ⟨Hs.out, ED.out⟩, HrQ.out.drewN _, grown_drewNS HgQ.out _⟩
      · have q4 : decide ((ch1 : Int) < (hi : Int)) = false := decide_eq_false (by omega)
        have hmx : ∀ c', (c' = 2 * r + 1 ∨ c' = 2 * r + 2) → c' < hi → nth d' (f + c') ≤ nth d' (f + ch) := fun c' h5 h6 => by
          have e : c' = ch := by omega
          rw [e]; exact Int.le_refl _
        have HS := Lib.hid (fun hx => Inv.step Hi.out (by omega) hlr (by omega) (by omega) hmx hx)
        have HE := Lib.hid (fun hx => Inv.stop Hi.out hmx hx)
        rw [← hfr, show f + ch = fc by omega] at HS HE
        clear hmx Hi
        clear hfr hfc hfc1 hch1
        go_wp2
        go_quiet (fail)
        go_wp2_with fail
        generalize hwq : World.drewN wo _ = wq
        have HrQ := Lib.hid (show Row wq base g n c d' from hwq ▸ Hr.out.drewN _)
        have HgQ := Lib.hid (show w.grownBy wq (some g) from hwq ▸ grown_drewNS Hg.out _)
        clear hwq Hr Hg
        have k0 := HrQ.out.cell (show fr < n by omega)
        have k1 := HrQ.out.cell (show fc < n by omega)
        have kr0 : (0 : Int) ≤ (fr : Int) := by omega
        have kr1 : (fr : Int) < (n : Int) := by omega
        have kc0 : (0 : Int) ≤ (fc : Int) := by omega
        have kc1 : (fc : Int) < (n : Int) := by omega
        by_cases hx : nth d' fr < nth d' fc
        · have hfz := HrQ.out.frozenAt
          have RD := Lib.hid (fun k => (HrQ.out.drewN k).ex fr fc)
          have GD := Lib.hid (fun k u v => grownBy_trans (grown_drewNS HgQ.out k) (grown_swp (World.drewN wq k) g fr fc u v))
          have SD := Lib.hid (Hs.out.ex (i := fr) (j := fc) (by omega) (by omega) (by omega) (by omega))
          have ID := Lib.hid (HS.out hx)
          clear HS HE
          generalize hD : swp d' fr fc = d2 at *
          generalize nth d' fr = x at *
          generalize nth d' fc = y at *
          have hd : decide (x < y) = true := decide_eq_true hx
          clear hD
          obtain ⟨v9, hy⟩ := cell?_setCell_some (w := wq) (p := ⟨g, fr, none⟩) (x := .int .i64 y) (q := ⟨g, fc, none⟩) (v := .int .i64 y) k1
          go_quiet ((go_at_call 99; exact Calls.quiet_of_same (less_q _ _ _)))
          go_wp2_with fail
          go_region
          all_goals go_wp2
          all_goals go_roundw
          all_goals first | (simp [intOf]; omega) | exact ⟨ch, d2, by omega, by omega, by first | rfl | go_num, SD.out, ID.out, RD.out _, GD.out _ _ _⟩
        · have ED := Lib.hid (HE.out (by omega))
          clear HS HE
          generalize nth d' fr = x at *
          generalize nth d' fc = y at *
          have hd : decide (x < y) = false := decide_eq_false hx
          go_quiet ((go_at_call 99; exact Calls.quiet_of_same (less_q _ _ _)))
          go_wp2
          go_end0
          exact ⟨d', rfl, ⟨Hs.out, ED.out⟩, HrQ.out.drewN _, grown_drewNS HgQ.out _⟩
    · have hnc : (hi : Int) ≤ (ch : Int) := by omega
      have HE := Lib.hid (Inv.leaf Hi.out (by omega))
      go_wp2
      go_end0
      exact ⟨d', rfl, ⟨Hs.out, HE.out⟩, Hr.out, Hg.out⟩
set_option maxHeartbeats 4000000 in
theorem heap_any (base g n c a b : Nat) (d0 : List Int) (w : World) (hn : n ≤ 1073741824) (hab : a + 1 ≤ b) (hb : b ≤ n) (h : Row w base g n c d0) :
   Calls Try.prog 94 #[.slice (some ⟨g, 0, none⟩) n c, .int .i64 a, .int .i64 b] w (RowP base g n c w (fun d => Sw a b d0 d ∧ SrtTo a b d)) := by
  have H := Lib.hid h
  have hlen := h.len
  obtain ⟨hi, hhi⟩ : ∃ hi, hi = b - a := ⟨_, rfl⟩
  have hbe : b = a + hi := by omega
  subst hbe
  have hi1 : 1 ≤ hi := by omega
  have e0 : ((a + hi : Nat) : Int) - (a : Int) = (hi : Int) := by omega
  have e1 : ((hi : Int) - 1) / 2 = (((hi - 1) / 2 : Nat) : Int) := by omega
  have e2 : (hi : Int) - 1 = ((hi - 1 : Nat) : Int) := by omega
  have hfirst : AllHp ((hi - 1) / 2 + 1) hi a d0 := fun i h1 h2 c h3 h4 => by omega
  have HF := Lib.hid hfirst
  obtain ⟨b, hbb⟩ : ∃ b, b = a + hi := ⟨_, rfl⟩
  rw [← hbb] at e0 hb ⊢
  have Hbb := Lib.hid hbb
  clear h hhi hfirst hbb
  go_enter Try.func94, Try.ntmps94
  go_wp2_with fail
  go_loopw [9] (fun v wr => ∃ (i : Int) (d' : List Int), -1 ≤ i ∧ i ≤ hi ∧ v = .int .i64 i ∧ Sw a (a + hi) d0 d' ∧ AllHp (i + 1).toNat hi a d' ∧ Row wr base g n c d' ∧ w.grownBy wr (some g)) (fun v _ => (intOf v + 1).toNat)
  case atStart => exact ⟨(((hi - 1) / 2 : Nat) : Int), d0, by omega, by omega, by first | rfl | (congr 1; omega), Sw.refl, by rw [show ((((hi - 1) / 2 : Nat) : Int) + 1).toNat = (hi - 1) / 2 + 1 by omega]; exact HF.out, H.out, World.grownBy.refl _ _⟩
  case round =>
    clear H HF hlen
    obtain ⟨i, d', hi1', hi2, rfl, hs, hh, hr, hg⟩ := hrel
    have hlen := hr.len
    have hbn : a + hi ≤ n := by have := Hbb.out; omega
    have Hr := Lib.hid hr
    have Hg := Lib.hid hg
    have Hs := Lib.hid hs
    have Hh := Lib.hid hh
    clear hr hg hs hh
    by_cases h0 : 0 ≤ i
    · obtain ⟨k, rfl⟩ : ∃ k : Nat, i = k := ⟨i.toNat, by omega⟩
      have HS := Lib.hid (sift_any base g n c k hi a d' wr hn (by omega) (by omega) (by have := Hh.out; rwa [show ((k : Int) + 1).toNat = k + 1 by omega] at this) Hr.out)
      clear e1 e2
      go_wp2_with fail
      refine HS.out.mono ?_
      rintro e w1 ⟨d2, rfl, ⟨s2, h2⟩, r2, g2⟩
      have R2 := Lib.hid r2
      have G2 := Lib.hid (grownBy_trans Hg.out g2)
      have S2 := Lib.hid (Hs.out.trans s2)
      have H2 := Lib.hid (show AllHp ((k : Int) - 1 + 1).toNat hi a d2 by rw [show ((k : Int) - 1 + 1).toNat = k by omega]; exact h2)
      clear r2 g2 s2 h2
      go_wp2
      go_roundw
      case rel => exact ⟨(k : Int) - 1, d2, by omega, by omega, rfl, S2.out, H2.out, R2.out, G2.out⟩
      case measure => first | (simp [intOf]; omega) | (simp [intOf]; done)
    · have q4 : ¬ (0 : Int) ≤ i := h0
      have HP := Lib.hid (Pop.start (f := a) (hi := hi) (d := d') (by have := Hh.out; rwa [show (i + 1).toNat = 0 by omega] at this))
      go_wp2_with fail
      go_loopw [10] (fun v wr => ∃ (i : Int) (d' : List Int), -1 ≤ i ∧ i < hi ∧ v = .int .i64 i ∧ Sw a (a + hi) d0 d' ∧ Pop a hi (i + 1).toNat d' ∧ Row wr base g n c d' ∧ w.grownBy wr (some g)) (fun v _ => (intOf v + 1).toNat)
      case atStart => exact ⟨((hi - 1 : Nat) : Int), d', by omega, by omega, by first | rfl | (congr 1; omega), Hs.out, by rw [show (((hi - 1 : Nat) : Int) + 1).toNat = hi by omega]; exact HP.out, Hr.out, Hg.out⟩
      case round =>
        clear Hr Hg q4 e1 e2 HP Hh Hs
        obtain ⟨j, d0', hj1, hj2, rfl, hs, hh, hr, hg⟩ := hrel
        have hlen2 := hr.len
        have HrC := Lib.hid hr
        have HgC := Lib.hid hg
        have Hs := Lib.hid hs
        have Hh := Lib.hid hh
        clear hr hg hs hh
        generalize wr = wo at *
        by_cases h0 : 0 ≤ j
        · obtain ⟨k, rfl⟩ : ∃ k : Nat, j = k := ⟨j.toNat, by omega⟩
          have hh := Hh.out
          rw [show ((k : Int) + 1).toNat = k + 1 by omega] at hh
          have hps := Pop.swap (show a + hi ≤ d0'.length by omega) (by omega) hh
          have hsw := Hs.out.ex (i := a) (j := a + k) (by omega) (by omega) (by omega) (by omega)
          have HPs := Lib.hid hps
          have HSw := Lib.hid hsw
          clear hh hps hsw Hh
          obtain ⟨ak, hak⟩ : ∃ ak, ak = a + k := ⟨_, rfl⟩
          rw [← hak] at HPs HSw
          have hak2 : ak < n := by omega
          have w1 : IntKind.i64.wrap ((a : Int) + (k : Int)) = (ak : Int) := by rw [show (a : Int) + (k : Int) = (ak : Int) by omega]; exact IntWalk.i64_in _ (by omega)
          have Hak := Lib.hid hak
          have hl2 : (swp d0' a ak).length = d0'.length := swp_len _ _ _
          clear hak
          have hfz := HrC.out.frozenAt
          have c0 := HrC.out.cell (show a < n by omega)
          have c1 := HrC.out.cell (show ak < n by omega)
          have q0 : (0 : Int) ≤ (a : Int) := by omega
          have q1 : (a : Int) < (n : Int) := by omega
          have q2 : (0 : Int) ≤ (ak : Int) := by omega
          have q3 : (ak : Int) < (n : Int) := by omega
          have RD := Lib.hid (own_drew (HrC.out.ex a ak))
          have GD := Lib.hid (fun u v => grown_drewS (grownBy_trans HgC.out (grown_swp _ g a ak u v)))
          generalize hD : swp d0' a ak = d2 at *
          generalize nth d0' a = x at *
          generalize nth d0' ak = y at *
          clear hD
          obtain ⟨v9, hy⟩ := cell?_setCell_some (p := ⟨g, a, none⟩) (x := .int .i64 y) (q := ⟨g, ak, none⟩) (v := .int .i64 y) c1
          go_wp2_with fail
          go_region
          have GE := Lib.hid (GD.out (.int .i64 y) (.int .i64 x))
          clear GD c0 c1 hy hfz HrC HgC
          have HS := Lib.hid (sift_any base g n c 0 k a d2 _ hn (by omega) (by omega) HPs.out.1 RD.out)
          go_wp2_with fail
          refine HS.out.mono ?_
          rintro e w1 ⟨d3, rfl, ⟨s2, h2⟩, r2, g2⟩
          have R2 := Lib.hid r2
          have G2 := Lib.hid (grownBy_trans GE.out g2)
          have S2 := Lib.hid (HSw.out.trans (s2.mono (Nat.le_refl _) (by omega)))
          have hps := HPs.out
          rw [Hak.out] at hps
          have H2 := Lib.hid (show Pop a hi ((k : Int) - 1 + 1).toNat d3 by rw [show ((k : Int) - 1 + 1).toNat = k by omega]; exact Pop.next (by omega) (by omega) hps.2.1 hps.2.2 s2 h2)
          clear r2 g2 s2 h2 hps
          go_wp2
          go_roundw
          case rel => exact ⟨(k : Int) - 1, d3, by omega, by omega, rfl, S2.out, H2.out, R2.out, G2.out⟩
          case measure => first | (simp [intOf]; omega) | (simp [intOf]; done)
        · have q4 : ¬ (0 : Int) ≤ j := h0
          have hh := Hh.out
          rw [show (j + 1).toNat = 0 by omega] at hh
          have HE := Lib.hid (Pop.done hh)
          clear hh
          go_wp2
          go_end0
          have hbb := Hbb.out
          subst hbb
          exact ⟨d0', rfl, ⟨Hs.out, HE.out⟩, HrC.out, HgC.out⟩
end Go.Proofs.Ytmbchcenclfjoaa
