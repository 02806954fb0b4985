/- The law on evacuation orders. -/
import Derived.Test.YtmeppemobogicaaDs2
import Derived.Test.YtmeppemobogicaaEv
import Derived.Deep.DeepCutAuto
namespace Go.Proofs.Ytmeppemobogicaa
open Go.ChangeShapes Go.WideShapes Go.ChangeAt Go.RowKit
set_option maxRecDepth 20000
set_option linter.unusedVariables false
set_option linter.unusedSimpArgs false
theorem ord_has {t : Nat → Int} {n k : Nat} (h : k < n) : (natI (ordT t n)).any (· == (k : Int)) = true := by
  rw [List.any_eq_true]
  refine ⟨(k : Int), ?_, by simp⟩
  simp only [natI, List.mem_map]
  exact ⟨k, mem_ordT.2 h, rfl⟩
theorem ord_fall {t : Nat → Int} {n k x y : Nat} (hx : (ordT t n)[k + 1]? = some x) (hy : (ordT t n)[k]? = some y) : t x ≤ t y := by
  have hp := ordT_pairwise t n
  rw [List.pairwise_iff_getElem] at hp
  obtain ⟨h1, e1⟩ := List.getElem?_eq_some_iff.1 hx
  obtain ⟨h2, e2⟩ := List.getElem?_eq_some_iff.1 hy
  have := hp k (k + 1) h2 h1 (by omega)
  rw [e1, e2] at this
  simp only [befB, Bool.or_eq_true, Bool.and_eq_true, decide_eq_true_eq] at this
  omega
set_option maxHeartbeats 4000000 in
theorem walkFnEvacuationOrder (bl : List Int) (hbl : isU8 bl) (C : Option Addr) (cap : Nat) (w : World) (hr : Rd w w.heap.size C (bytesU bl)) (hlc : bl.length ≤ cap) (hm : cap ≤ maxLen) :
   Calls Try.prog 10 #[.slice C bl.length cap] w fun e w' => e = .returned (.bool true) ∧ Below w.heap.size w w' := by
  unfold maxLen at hm
  by_cases hn : bl.length ≤ 4096
  rotate_left
  · have hd : decide ((4096 : Int) < (bl.length : Int)) = true := by simp; omega
    go_enter Try.func10, Try.ntmps10
    go_wp2_with (go_at_call 34; refine (big_any _ _ _ _ (by omega)).mono ?_; rintro e w' ⟨rfl, rfl⟩)
    go_ret
    exact ⟨rfl, Below.refl _ _⟩
  have hd : decide ((4096 : Int) < (bl.length : Int)) = false := by simp; omega
  go_enter Try.func10, Try.ntmps10
  go_wp2_with fail
  refine (big_any _ _ _ _ (by omega)).mono ?_; rintro e w' ⟨rfl, rfl⟩
  go_wp2_with fail
  refine (drawOrder_any bl hbl hn C cap _ hr).mono ?_
  rintro e w0 ⟨l, A, c, rfl, hl, Rl, b0⟩
  clear hr hbl hd
  have hn2 : l.length ≤ 1048576 := by omega
  have hel := evR_len l hn2
  have htl := timesR_len l hn2
  have z0 := b0.size
  go_wp2_with fail
  refine (evac_impl l A _ c w0 Rl (Nat.le_refl _) hn2).mono ?_; rintro e w1 ⟨A1, c1, rfl, o1, b1⟩
  have z1 := b1.size
  replace Rl := Rl.step b1
  have Rx := Rd.of_own o1
  clear o1
  go_wp2_with fail
  refine (evac_spec l A _ c w1 Rl (Nat.le_refl _) hn2).mono ?_; rintro e w2 ⟨A2, c2, rfl, o2, b2⟩
  have z2 := b2.size
  replace Rl := Rl.step b2
  replace Rx := Rx.step b2
  have Ry := Rd.of_own o2
  clear o2
  go_wp2_with fail
  refine (stopTimes_impl l A _ c w2 Rl (Nat.le_refl _) hn2).mono ?_; rintro e w3 ⟨A3, c3, rfl, o3, b3⟩
  have z3 := b3.size
  replace Rl := Rl.step b3
  replace Rx := Rx.step b3
  replace Ry := Ry.step b3
  have Ra := Rd.of_own o3
  clear o3
  go_wp2_with fail
  refine (stopTimes_spec l A _ c w3 Rl (Nat.le_refl _) hn2).mono ?_; rintro e w4 ⟨A4, c4, rfl, o4, b4⟩
  have z4 := b4.size
  replace Rx := Rx.step b4
  replace Ry := Ry.step b4
  replace Ra := Ra.step b4
  have Rb := Rd.of_own o4
  clear o4 Rl
  have B4 : Below w.heap.size w w4 := (((b0.trans (b1.mono (by omega))).trans (b2.mono (by omega))).trans (b3.mono (by omega))).trans (b4.mono (by omega))
  clear b0 b1 b2 b3 b4
  have HRx := Lib.hid Rx
  have HRy := Lib.hid Ry
  have HRa := Lib.hid Ra
  have HRb := Lib.hid Rb
  have hK := Lib.hid (fun (w' : World) (h1 : Rd w' w'.heap.size A1 (ints (evR l))) (h2 : Rd w' w'.heap.size A2 (ints (evR l))) => likeInts_same (evR l) A1 A2 _ _ c1 c2 w' h1 h2 hel)
  have hK2 := Lib.hid (fun (w' : World) (h1 : Rd w' w'.heap.size A3 (ints (timesR l))) (h2 : Rd w' w'.heap.size A4 (ints (timesR l))) => likeInts_same (timesR l) A3 A4 _ _ c3 c4 w' h1 h2 htl)
  clear Rx Ry Ra Rb
  go_wp2_with fail
  refine (hK.out w4 HRx.out HRy.out).mono ?_; rintro e w5 ⟨rfl, b5⟩
  have z5 := b5.size
  have Ra5 := Lib.hid (HRa.out.step b5)
  have Rb5 := Lib.hid (HRb.out.step b5)
  have Rx5 := Lib.hid (HRx.out.step b5)
  go_wp2_with fail
  refine (hK2.out w5 Ra5.out Rb5.out).mono ?_; rintro e w6 ⟨rfl, b6⟩
  have z6 := b6.size
  have Ra6 := Lib.hid (Ra5.out.step b6)
  have Rx6 := Lib.hid (Rx5.out.step b6)
  have B6 := Lib.hid ((B4.trans (b5.mono (by omega))).trans (b6.mono (by omega)))
  clear b5 b6 B4 Ra5 Rb5 Rx5 HRx HRy HRa HRb hK hK2
  cases hst : stopsB l with
  | false =>
    have e1 : evR l = [] := by simp [evR, hst]
    have e2 : timesC l = 1 := by simp [timesC, hst]
    have e3 : (evR l).length = 0 := by rw [e1]; rfl
    have b9 : ((timesC l) == 0) = false := by rw [e2]; rfl
    have b8 : ((timesC l) != 0) = true := by rw [e2]; rfl
    generalize evR l = E at *
    generalize timesC l = K at *
    subst e1 e2
    go_wp2_with fail
    go_loop [12] (fun i => i = .int .i64 0) (fun _ => 0)
    case atStart => rfl
    case round =>
      subst hrel
      go_wp2
      all_goals go_ret
      all_goals exact ⟨by first | rfl | (simp; done), B6.out⟩
  | true =>
    have e1 : evR l = natI (ordT (tN (timesL l)) (timesL l).length) := by simp [evR, hst]
    have e2 : timesC l = 0 := by simp [timesC, hst]
    have e4 : timesR l = timesL l := by simp [timesR, hst]
    have e3 : (evR l).length = l.length := by rw [e1, natI_length, ordT_length, timesL_length]
    have e5 : (timesL l).length = l.length := timesL_length l
    rw [e4] at Ra6
    have HH := Lib.hid (fun (k : Nat) (w' : World) (h : Rd w' w'.heap.size A1 (ints (evR l))) (hk : k < l.length) => show Calls Try.prog 41 #[.slice A1 (evR l).length c1, .int .i64 k] w' fun e w'' => e = .returned (.bool true) ∧ w' = w'' from by
      have h1 := hasInt_any (evR l) (k : Int) A1 w'.heap.size c1 w' h hel
      rw [e1, ord_has (by rw [e5]; exact hk)] at h1
      rw [e1]
      exact h1)
    rw [e3] at HH
    have E1 := Lib.hid e1
    have E3 := Lib.hid e3
    have E5 := Lib.hid e5
    have b9 : ((timesC l) == 0) = true := by rw [e2]; rfl
    have e4l : (timesR l).length = l.length := by rw [e4, e5]
    have b10 : (((evR l).length : Int) == (l.length : Int)) = true := by rw [e3]; simp
    have HE := Lib.hid e1
    clear e1 e2 e4 e5 hst b9
    go_wp2_with fail
    go_loopw [12] (fun i wr => ∃ k : Nat, k ≤ l.length ∧ i = .int .i64 k ∧ Below w6.heap.size w6 wr) (fun i _ => l.length - (intOf i).toNat)
    case atStart => exact ⟨0, Nat.zero_le _, rfl, Below.refl _ _⟩
    case round =>
      obtain ⟨k, hk, rfl, hbq⟩ := hrel
      have hzq := hbq.size
      have Rx7 := Lib.hid ((Rx6.out.below hbq (Nat.le_refl _)).more hzq)
      have Ra7 := Lib.hid ((Ra6.out.below hbq (Nat.le_refl _)).more hzq)
      by_cases hlt : k < l.length
      · have hki : (k : Int) < (l.length : Int) := by omega
        have hk0 : (0 : Int) ≤ (k : Int) := by omega
        have hkl : k < (ordT (tN (timesL l)) (timesL l).length).length := by rw [ordT_length, E5.out]; exact hlt
        have hx := List.getElem?_eq_getElem hkl
        generalize (ordT (tN (timesL l)) (timesL l).length)[k] = x at hx
        have hxn : x < (timesL l).length := mem_ordT.1 (List.mem_of_getElem? hx)
        have hxi : (evR l)[k]? = some (x : Int) := by rw [E1.out]; simp [natI, hx]
        obtain ⟨b, o, hA1, _, c0⟩ := Rx7.out.int hxi
        have hxT := List.getElem?_eq_getElem hxn
        generalize (timesL l)[x] = tx at hxT
        have htx := tN_at hxT
        obtain ⟨b2, o2, hA3, _, d0⟩ := Ra7.out.int hxT
        subst hA1 hA3
        have x0 : (0 : Int) ≤ (x : Int) := by omega
        have x1 : (x : Int) < (l.length : Int) := by rw [← E5.out]; omega
        have HHk := Lib.hid (fun (w' : World) (h : Rd w' w'.heap.size (some ⟨b, o, none⟩) (ints (evR l))) => HH.out k w' h hlt)
        rcases Nat.eq_zero_or_pos k with h0 | h0
        · subst h0
          have m0 : decide ((0 : Int) < ((0 : Nat) : Int)) = false := by simp
          clear hx hxi hxT htx hkl hxn
          go_wp2_with fail
          go_quiet ((go_at_call 41; exact Calls.quiet_of_same ((HHk.out _ (by exact Rx7.out)).mono (fun _ _ h => ⟨h.1, h.2.symm⟩))))
          go_wp2
          go_roundw
          case rel => exact ⟨0 + 1, by omega, by go_num, by repeat' (first | (with_reducible exact Below.refl _ _) | (with_reducible assumption) | (with_reducible refine Below.alloc ?_ ?_ _) | (with_reducible refine Below.drew ?_) | (with_reducible refine below_drewN ?_ _) | (with_reducible refine Below.setCell ?_ ?_ _) | (with_reducible refine Below.trans ?_ (Below.mono (by assumption) ?_)) | go_size | (exact Below.size (by assumption)))⟩
          case measure => simp [intOf]; omega
        · obtain ⟨j, rfl⟩ : ∃ j, k = j + 1 := ⟨k - 1, by omega⟩
          have hy := List.getElem?_eq_getElem (show j < (ordT (tN (timesL l)) (timesL l).length).length by omega)
          generalize (ordT (tN (timesL l)) (timesL l).length)[j]'(by omega) = y at hy
          have hyn : y < (timesL l).length := mem_ordT.1 (List.mem_of_getElem? hy)
          have hyi : (evR l)[j]? = some (y : Int) := by rw [E1.out]; simp [natI, hy]
          obtain ⟨b3, o3, hA1, _, c1⟩ := Rx7.out.int hyi
          have hyT := List.getElem?_eq_getElem hyn
          generalize (timesL l)[y] = ty at hyT
          have hty := tN_at hyT
          obtain ⟨b4, o4, hA3, _, d1⟩ := Ra7.out.int hyT
          injection hA1 with hA1
          injection hA1 with g1 g2
          injection hA3 with hA3
          injection hA3 with g3 g4
          subst g1 g2 g3 g4
          have hle := ord_fall hx hy
          rw [htx, hty] at hle
          have hgt : decide (ty < tx) = false := by simpa using hle
          have m0 : decide ((0 : Int) < ((j + 1 : Nat) : Int)) = true := by first | (simp; done) | (simp; omega)
          have e1 : (((j + 1 : Nat) : Int)) - 1 = (j : Int) := by omega
          have j0 : (0 : Int) ≤ (j : Int) := by omega
          have j1 : (j : Int) < (l.length : Int) := by omega
          have y0 : (0 : Int) ≤ (y : Int) := by omega
          have y1 : (y : Int) < (l.length : Int) := by rw [← E5.out]; omega
          clear hx hxi hxT htx hkl hxn hy hyi hyT hty hyn hle
          go_wp2_with fail
          go_quiet ((go_at_call 41; exact Calls.quiet_of_same ((HHk.out _ (by exact Rx7.out)).mono (fun _ _ h => ⟨h.1, h.2.symm⟩))))
          go_wp2
          go_roundw
          case rel => exact ⟨(j + 1) + 1, by omega, by go_num, by repeat' (first | (with_reducible exact Below.refl _ _) | (with_reducible assumption) | (with_reducible refine Below.alloc ?_ ?_ _) | (with_reducible refine Below.drew ?_) | (with_reducible refine below_drewN ?_ _) | (with_reducible refine Below.setCell ?_ ?_ _) | (with_reducible refine Below.trans ?_ (Below.mono (by assumption) ?_)) | go_size | (exact Below.size (by assumption)))⟩
          case measure => simp [intOf]; omega
      · have hk' : k = l.length := by omega
        subst hk'
        clear HH
        go_wp2
        all_goals go_ret
        all_goals exact ⟨by first | rfl | (simp [*]; done), B6.out.trans (hbq.mono (by have := B6.out.size; omega))⟩
end Go.Proofs.Ytmeppemobogicaa
