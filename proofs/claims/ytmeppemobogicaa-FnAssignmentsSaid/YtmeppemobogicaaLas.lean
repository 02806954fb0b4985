/- The law on assignments. -/
import Derived.Test.YtmeppemobogicaaDs3
import Derived.Test.YtmeppemobogicaaLg
namespace Go.Proofs.Ytmeppemobogicaa
open Go.ChangeShapes Go.WideShapes Go.ChangeAt Go.RowKit
set_option maxRecDepth 20000
set_option linter.unusedVariables false
set_option linter.unusedSimpArgs false
theorem take_sum_succ {T : List Int} {k : Nat} {x : Int} (h : T[k]? = some x) : (T.take (k + 1)).sum = (T.take k).sum + x := by
  obtain ⟨h1, h2⟩ := List.getElem?_eq_some_iff.1 h
  subst h2
  rw [List.take_succ_eq_append_getElem h1, List.sum_append]
  simp
theorem take_sum_bd {T : List Int} (ht : ∀ (k : Nat) (x : Int), T[k]? = some x → 0 ≤ x ∧ x ≤ 1000000) : ∀ k, k ≤ T.length → 0 ≤ (T.take k).sum ∧ (T.take k).sum ≤ k * 1000000
  | 0, _ => by simp
  | k + 1, h => by
    obtain ⟨h1, h2⟩ := take_sum_bd ht k (by omega)
    have hx := List.getElem?_eq_getElem (show k < T.length by omega)
    have := ht _ _ hx
    rw [take_sum_succ hx]
    omega
theorem sum_any (T : List Int) (hl : T.length ≤ 6) (ht : ∀ (k : Nat) (x : Int), T[k]? = some x → 0 ≤ x ∧ x ≤ 1000000) (A : Option Addr) (B c : Nat) (w : World) (hr : Rd w B A (ints T)) (hB : B ≤ w.heap.size) :
   Calls Try.prog 37 #[.slice A T.length c] w fun e w' => e = .returned (.int .i64 T.sum) ∧ w = w' := by
  have HR := Lib.hid hr
  clear hr
  go_enter Try.func37, Try.ntmps37
  go_wp2_with fail
  go_loop [3, 4] (fun s i => ∃ k : Nat, k ≤ T.length ∧ i = .int .i64 k ∧ s = .int .i64 (T.take k).sum) (fun _ i => T.length - (intOf i).toNat)
  case atStart => exact ⟨0, Nat.zero_le _, rfl, by simp⟩
  case round =>
    obtain ⟨k, hk, rfl, rfl⟩ := hrel
    by_cases hlt : k < T.length
    · have hki : (k : Int) < (T.length : Int) := by omega
      have hx := List.getElem?_eq_getElem hlt
      generalize T[k] = x at hx
      obtain ⟨x0, x1⟩ := ht k x hx
      obtain ⟨s0, s1⟩ := take_sum_bd ht k (by omega)
      have hs := Lib.hid (take_sum_succ hx)
      obtain ⟨b, o, rfl, _, cx⟩ := HR.out.int hx
      generalize (T.take k).sum = S at *
      clear HR hx
      have hw : IntKind.i64.wrap (S + x) = S + x := IntWalk.i64_in _ (by omega)
      go_wp2
      go_round
      case rel => exact ⟨k + 1, by omega, by go_num, by rw [hs.out]⟩
      case measure => simp [intOf]; omega
    · have hk' : k = T.length := by omega
      subst hk'
      go_wp2
      go_ret
      exact ⟨by first | rfl | exact ret_int rfl | exact ret_int (by rw [List.take_length]), rfl⟩
theorem clC_ok {l : List (Int × Int)} {n : Int} {a : List Int} (h : clC l n a = 0) (h0 : crewC l n = 0) : a.length = l.length ∧ ∀ (i : Nat) (c : Int), a[i]? = some c → 0 ≤ c ∧ c < n := by
  rw [clC, if_pos h0] at h
  split at h
  · rename_i hl
    split at h
    · rename_i hok
      refine ⟨hl, fun i c hc => ?_⟩
      have := List.all_eq_true.1 hok c (List.mem_of_getElem? hc)
      simp only [inB, Bool.and_eq_true, decide_eq_true_eq] at this
      omega
    · omega
  · omega
theorem asg_lawI {l : List (Int × Int)} {n : Int} (a : List Int) (h0 : crewC l n = 0) : clC l n (beR l n) = 0 ∧ mostL (clR l n (beR l n)) = leV l n ∧ (beR l n).length = l.length ∧ 0 ≤ leV l n ∧ leV l n ≤ 6000000 ∧ (clC l n a = 0 → leV l n ≤ mostL (clR l n a)) ∧ (timesL l).sum ≤ n * leV l n := by
  obtain ⟨hst, hc1, hc3⟩ := crewC_zero h0
  have hn6 := stopsB_len hst
  have hta := timesL_at hst
  obtain ⟨m, rfl⟩ : ∃ m : Nat, n = m := ⟨n.toNat, by omega⟩
  obtain ⟨g1, g2, g3⟩ := beR_good h0
  have hle : leV l m = finP (timesL l) m (bstL (timesL l) m (timesL l).length) := by rw [leV, if_pos h0]; simp
  have hbl := bstL_length (timesL l) (m := m) (n := (timesL l).length) (by omega)
  have hba := bstL_at (timesL l) (m := m) (n := (timesL l).length) (by omega)
  refine ⟨g1, g2, g3, ?_, ?_, ?_, ?_⟩
  · rw [hle]; exact finP_nonneg _ _ _
  · rw [hle]; exact fin_bd (by rw [timesL_length]; exact hn6) hta (by rw [hbl, timesL_length]; exact hn6)
  · intro ha
    obtain ⟨hal, hab⟩ := clC_ok ha h0
    obtain ⟨_, e⟩ := asg_good h0 hal hab
    rw [e, hle]
    exact bst_le (by omega) (by rw [hal, timesL_length]) hab
  · rw [hle]; exact sum_le_fin hba hbl
set_option maxHeartbeats 4000000 in
theorem walkFnAssignments (bl : List Int) (hbl : isU8 bl) (C : Option Addr) (cap : Nat) (w : World) (hr : Rd w w.heap.size C (bytesU bl)) (hlc : bl.length ≤ cap) (hm : cap ≤ maxLen) :
   Calls Try.prog 9 #[.slice C bl.length cap] w fun e w' => e = .returned (.bool true) ∧ Below w.heap.size w w' := by
  unfold maxLen at hm
  by_cases hn : bl.length ≤ 4096
  rotate_left
  · have hd : decide ((4096 : Int) < (bl.length : Int)) = true := by simp; omega
    go_enter Try.func9, Try.ntmps9
    go_wp2_with (go_at_call 34; refine (big_any _ _ _ _ (by omega)).mono ?_; rintro e w' ⟨rfl, rfl⟩)
    go_ret
    exact ⟨rfl, Below.refl _ _⟩
  have hd : decide ((4096 : Int) < (bl.length : Int)) = false := by simp; omega
  go_enter Try.func9, Try.ntmps9
  go_wp2_with fail
  refine (big_any _ _ _ _ (by omega)).mono ?_; rintro e w' ⟨rfl, rfl⟩
  go_wp2_with fail
  refine (drawFinish_any bl hbl hn C cap _ hr).mono ?_
  rintro e w0 ⟨l, A, c, n, a, A', c', rfl, hl, hla, n0, n1, Rl, Ra, b0⟩
  clear hr hbl hd
  have hn2 : l.length ≤ 1048576 := by omega
  have hna : a.length ≤ 1048576 := by omega
  have hbe := beR_len l n hn2
  have hcl := clR_len l n a
  have HF := Lib.hid (fun (d : List Int) (D : Option Addr) (cd : Nat) (w' : World) (h1 : Rd w' w'.heap.size A (l.flatMap eEvacuationStop)) (h2 : Rd w' w'.heap.size D (ints d)) (hd : d.length ≤ 1048576) => finish_impl l n d A D w'.heap.size c cd w' h1 h2 (Nat.le_refl _) hn2 hd)
  have HFa := Lib.hid (fun (w' : World) (h1 : Rd w' w'.heap.size A (l.flatMap eEvacuationStop)) (h2 : Rd w' w'.heap.size A' (ints a)) => finish_impl l n a A A' w'.heap.size c c' w' h1 h2 (Nat.le_refl _) hn2 hna)
  have HFs := Lib.hid (fun (w' : World) (h1 : Rd w' w'.heap.size A (l.flatMap eEvacuationStop)) (h2 : Rd w' w'.heap.size A' (ints a)) => finish_spec l n a A A' w'.heap.size c c' w' h1 h2 (Nat.le_refl _) hn2 hna)
  have HC := Lib.hid (fun (w' : World) (h1 : Rd w' w'.heap.size A (l.flatMap eEvacuationStop)) (h2 : Rd w' w'.heap.size A' (ints a)) => crewLoads_impl l n a A A' w'.heap.size c c' w' h1 h2 (Nat.le_refl _) hn2 hna)
  have HCs := Lib.hid (fun (w' : World) (h1 : Rd w' w'.heap.size A (l.flatMap eEvacuationStop)) (h2 : Rd w' w'.heap.size A' (ints a)) => crewLoads_spec l n a A A' w'.heap.size c c' w' h1 h2 (Nat.le_refl _) hn2 hna)
  have HL := Lib.hid (fun (w' : World) (h1 : Rd w' w'.heap.size A (l.flatMap eEvacuationStop)) => least_impl l n A w'.heap.size c w' h1 (Nat.le_refl _) hn2)
  have HLs := Lib.hid (fun (w' : World) (h1 : Rd w' w'.heap.size A (l.flatMap eEvacuationStop)) => least_spec l n A w'.heap.size c w' h1 (Nat.le_refl _) hn2)
  have HB := Lib.hid (fun (w' : World) (h1 : Rd w' w'.heap.size A (l.flatMap eEvacuationStop)) => best_impl l n A w'.heap.size c w' h1 (Nat.le_refl _) hn2)
  have HBs := Lib.hid (fun (w' : World) (h1 : Rd w' w'.heap.size A (l.flatMap eEvacuationStop)) => best_spec l n A w'.heap.size c w' h1 (Nat.le_refl _) hn2)
  have HT := Lib.hid (fun (w' : World) (h1 : Rd w' w'.heap.size A (l.flatMap eEvacuationStop)) => stopTimes_impl l A w'.heap.size c w' h1 (Nat.le_refl _) hn2)
  have HKl := Lib.hid (fun (A1 A2 : Option Addr) (c1 c2 : Nat) (w' : World) (h1 : Rd w' w'.heap.size A1 (ints (clR l n a))) (h2 : Rd w' w'.heap.size A2 (ints (clR l n a))) => likeInts_same (clR l n a) A1 A2 _ _ c1 c2 w' h1 h2 hcl)
  have HKb := Lib.hid (fun (A1 A2 : Option Addr) (c1 c2 : Nat) (w' : World) (h1 : Rd w' w'.heap.size A1 (ints (beR l n))) (h2 : Rd w' w'.heap.size A2 (ints (beR l n))) => likeInts_same (beR l n) A1 A2 _ _ c1 c2 w' h1 h2 hbe)
  have HA := Lib.hid (fun (b : Bool) (e : stopsB l = b) (w' : World) (h1 : Rd w' w'.heap.size A (l.flatMap eEvacuationStop)) => stopsB_impl_r l A w'.heap.size c b e w' h1 (Nat.le_refl _) hn2)
  have hTl : timesC l = 0 → timesR l = timesL l := by
    intro h
    cases hst : stopsB l with
    | false => simp [timesC, hst] at h
    | true => simp [timesR, hst]
  have LAW := Lib.hid (fun (h0 : crewC l n = 0) => asg_lawI a h0)
  have LAW2 := Lib.hid (fun (h0 : crewC l n = 0) => crewC_zero h0)
  have TT := Lib.hid (fun (hst : stopsB l = true) => show timesC l = 0 ∧ timesR l = timesL l ∧ (timesL l).length ≤ 6 ∧ (∀ (k : Nat) (x : Int), (timesL l)[k]? = some x → 0 ≤ x ∧ x ≤ 1000000) from ⟨by simp [timesC, hst], by simp [timesR, hst], by rw [timesL_length]; exact stopsB_len hst, timesL_at hst⟩)
  clear hTl
  have Hbe := Lib.hid hbe
  have Hna := Lib.hid hna
  clear hbe hcl hna hn2 hla n0 n1 hl
  generalize clR l n a = R1 at *
  generalize hF : mostL R1 = F at *
  generalize clC l n a = K1 at *
  generalize hR2 : beR l n = R2 at *
  generalize leV l n = V at *
  generalize crewC l n = K at *
  have Hl := Lib.hid Rl
  have Ha := Lib.hid Ra
  clear Rl Ra
  have z0 := b0.size
  have B0 := Lib.hid b0
  clear b0
  go_wp2_with fail
  refine (HFa.out w0 Hl.out Ha.out).mono ?_; rintro e w1 ⟨rfl, b1⟩
  have z1 := b1.size
  have B1 := Lib.hid (B0.out.trans (b1.mono (by omega)))
  replace Hl := Lib.hid (Hl.out.step b1)
  replace Ha := Lib.hid (Ha.out.step b1)
  clear b1 B0
  go_wp2_with fail
  refine (HFs.out w1 Hl.out Ha.out).mono ?_; rintro e w2 ⟨rfl, b2⟩
  have z2 := b2.size
  have B2 := Lib.hid (B1.out.trans (b2.mono (by omega)))
  replace Hl := Lib.hid (Hl.out.step b2)
  replace Ha := Lib.hid (Ha.out.step b2)
  clear b2 B1
  go_wp2_with fail
  refine (HC.out w2 Hl.out Ha.out).mono ?_; rintro e w3 ⟨A1, c1, rfl, o3, b3⟩
  have z3 := b3.size
  have B3 := Lib.hid (B2.out.trans (b3.mono (by omega)))
  replace Hl := Lib.hid (Hl.out.step b3)
  replace Ha := Lib.hid (Ha.out.step b3)
  clear b3 B2
  have H1 := Lib.hid (Rd.of_own o3)
  clear o3
  go_wp2_with fail
  refine (HCs.out w3 Hl.out Ha.out).mono ?_; rintro e w4 ⟨A2, c2, rfl, o4, b4⟩
  have z4 := b4.size
  have B4 := Lib.hid (B3.out.trans (b4.mono (by omega)))
  replace Hl := Lib.hid (Hl.out.step b4)
  replace H1 := Lib.hid (H1.out.step b4)
  clear b4 B3
  have H2 := Lib.hid (Rd.of_own o4)
  clear o4 Ha
  go_wp2_with fail
  refine (HL.out w4 Hl.out).mono ?_; rintro e w5 ⟨rfl, b5⟩
  have z5 := b5.size
  have B5 := Lib.hid (B4.out.trans (b5.mono (by omega)))
  replace Hl := Lib.hid (Hl.out.step b5)
  replace H1 := Lib.hid (H1.out.step b5)
  replace H2 := Lib.hid (H2.out.step b5)
  clear b5 B4
  go_wp2_with fail
  refine (HLs.out w5 Hl.out).mono ?_; rintro e w6 ⟨rfl, b6⟩
  have z6 := b6.size
  have B6 := Lib.hid (B5.out.trans (b6.mono (by omega)))
  replace Hl := Lib.hid (Hl.out.step b6)
  replace H1 := Lib.hid (H1.out.step b6)
  replace H2 := Lib.hid (H2.out.step b6)
  clear b6 B5
  go_wp2_with fail
  refine (HB.out w6 Hl.out).mono ?_; rintro e w7 ⟨A3, c3, rfl, o7, b7⟩
  have z7 := b7.size
  have B7 := Lib.hid (B6.out.trans (b7.mono (by omega)))
  replace Hl := Lib.hid (Hl.out.step b7)
  replace H1 := Lib.hid (H1.out.step b7)
  replace H2 := Lib.hid (H2.out.step b7)
  clear b7 B6
  have H3 := Lib.hid (Rd.of_own o7)
  clear o7
  go_wp2_with fail
  refine (HBs.out w7 Hl.out).mono ?_; rintro e w8 ⟨A4, c4, rfl, o8, b8⟩
  have z8 := b8.size
  have B8 := Lib.hid (B7.out.trans (b8.mono (by omega)))
  replace Hl := Lib.hid (Hl.out.step b8)
  replace H1 := Lib.hid (H1.out.step b8)
  replace H2 := Lib.hid (H2.out.step b8)
  replace H3 := Lib.hid (H3.out.step b8)
  clear b8 B7
  have H4 := Lib.hid (Rd.of_own o8)
  clear o8
  have HK1 := Lib.hid (HKl.out A1 A2 c1 c2 w8 H1.out H2.out)
  clear HKl H1 H2 HFa HC HCs HL HLs HB HBs HFs
  by_cases hK : K = 0
  rotate_left
  · have h5 : (K != 0) = true := by simpa using hK
    have h5' : (K == 0) = false := by simpa using hK
    go_wp2_with fail
    refine (HK1.out).mono ?_; rintro e w9 ⟨rfl, b9⟩
    have z9 := b9.size
    have B9 := Lib.hid (B8.out.trans (b9.mono (by omega)))
    replace Hl := Lib.hid (Hl.out.step b9)
    replace H3 := Lib.hid (H3.out.step b9)
    replace H4 := Lib.hid (H4.out.step b9)
    clear b9 B8
    go_wp2_with fail
    refine (HKb.out A3 A4 c3 c4 w9 H3.out H4.out).mono ?_; rintro e w10 ⟨rfl, b10⟩
    have z10 := b10.size
    have B10 := Lib.hid (B9.out.trans (b10.mono (by omega)))
    replace Hl := Lib.hid (Hl.out.step b10)
    replace H3 := Lib.hid (H3.out.step b10)
    clear b10 B9
    go_wp2
    go_ret
    exact ⟨rfl, B10.out⟩
  · obtain ⟨g1, g2, g3, g4, g5, g6, g7⟩ := LAW.out hK
    obtain ⟨hst, hc1, hc3⟩ := LAW2.out hK
    obtain ⟨t1, t2, t3, t4⟩ := TT.out hst
    have h5 : (K != 0) = false := by simpa using hK
    have HFb := Lib.hid (fun (D : Option Addr) (cd : Nat) (w' : World) (h1 : Rd w' w'.heap.size A (l.flatMap eEvacuationStop)) (h2 : Rd w' w'.heap.size D (ints R2)) => show Calls Try.prog 29 #[.slice A l.length c, .int .i64 n, .slice D R2.length cd] w' fun e w'' => e = .returned (.tuple #[.int .i64 V, .int .i64 0]) ∧ Below w'.heap.size w' w'' from by
      have h := HF.out R2 D cd w' h1 h2 Hbe.out
      rw [g1, g2] at h
      exact h)
    have HTb := Lib.hid (fun (w' : World) (h1 : Rd w' w'.heap.size A (l.flatMap eEvacuationStop)) => show Calls Try.prog 20 #[.slice A l.length c] w' fun e w'' => ∃ A' c', e = .returned (.tuple #[.slice A' (timesL l).length c', .int .i64 0]) ∧ w''.ownsRow w'.heap.size 2 1 (.slice A' (timesL l).length c') (timesL l).length (ints (timesL l)) ∧ Below w'.heap.size w' w'' from by
      have h := HT.out w' h1
      rw [t1, t2] at h
      exact h)
    have HS := Lib.hid (fun (D : Option Addr) (cd : Nat) (w' : World) (h2 : Rd w' w'.heap.size D (ints (timesL l))) => sum_any (timesL l) t3 t4 D w'.heap.size cd w' h2 (Nat.le_refl _))
    have HAt := Lib.hid (fun (w' : World) (h1 : Rd w' w'.heap.size A (l.flatMap eEvacuationStop)) => HA.out true hst w' h1)
    have s0 : 0 ≤ (timesL l).sum ∧ (timesL l).sum ≤ 6000000 := by
      have := take_sum_bd t4 (timesL l).length (Nat.le_refl _)
      rw [List.take_length] at this
      omega
    clear g1 g2 g3 HF HT HA LAW LAW2 TT hK hst t1 t2 t3 t4 Hbe
    generalize timesL l = T at *
    generalize T.sum = S at *
    have hor : K1 ≠ 0 ∨ (K1 = 0 ∧ V ≤ F) := by
      by_cases h : K1 = 0
      · exact .inr ⟨h, g6 h⟩
      · exact .inl h
    clear g6 hF
    obtain ⟨s0, s1⟩ := s0
    have hm3 : n = 1 ∨ n = 2 ∨ n = 3 := by omega
    clear hc1 hc3
    go_wp2_with fail
    refine (HK1.out).mono ?_; rintro e w9 ⟨rfl, b9⟩
    have z9 := b9.size
    have B9 := Lib.hid (B8.out.trans (b9.mono (by omega)))
    replace Hl := Lib.hid (Hl.out.step b9)
    replace H3 := Lib.hid (H3.out.step b9)
    replace H4 := Lib.hid (H4.out.step b9)
    clear b9 B8
    go_wp2_with fail
    refine (HKb.out A3 A4 c3 c4 w9 H3.out H4.out).mono ?_; rintro e w10 ⟨rfl, b10⟩
    have z10 := b10.size
    have B10 := Lib.hid (B9.out.trans (b10.mono (by omega)))
    replace Hl := Lib.hid (Hl.out.step b10)
    replace H3 := Lib.hid (H3.out.step b10)
    clear b10 B9
    go_wp2_with fail
    refine (HFb.out A3 c3 w10 Hl.out H3.out).mono ?_; rintro e w11 ⟨rfl, b11⟩
    have z11 := b11.size
    have B11 := Lib.hid (B10.out.trans (b11.mono (by omega)))
    replace Hl := Lib.hid (Hl.out.step b11)
    clear b11 B10
    go_wp2_with fail
    refine (HTb.out w11 Hl.out).mono ?_; rintro e w12 ⟨A5, c5, rfl, o12, b12⟩
    have z12 := b12.size
    have B12 := Lib.hid (B11.out.trans (b12.mono (by omega)))
    replace Hl := Lib.hid (Hl.out.step b12)
    clear b12 B11
    have H5 := Lib.hid (Rd.of_own o12)
    clear o12 HTb HFb HKb HK1 H3 H4
    have hSS := Lib.hid (HS.out A5 c5 w12 H5.out)
    have hAA := Lib.hid (HAt.out w12 Hl.out)
    clear HS HAt H5 Hl
    rcases hm3 with rfl | rfl | rfl
    · have q1 : decide (S ≤ V * 1) = true := by simp; omega
      have hw : IntKind.i64.wrap (V * 1) = V * 1 := IntWalk.i64_in _ (by omega)
      have hw2 : wrap64 (V * 1) = V * 1 := IntWalk.wrap64_in _ (by omega)
      have hw3 : wrap64 V = V := IntWalk.wrap64_in _ (by omega)
      have q3 : S ≤ V * 1 := by omega
      have q4 : ¬ V * 1 < S := by omega
      have q6 : S ≤ V := by omega
      clear g7 g4 g5 s0 s1
      rcases hor with h7 | ⟨h7, h8⟩
      · have h7b : (K1 != 0) = true := by simpa using h7
        have h7c : (K1 == 0) = false := by simpa using h7
        go_wp2_with fail
        refine hSS.out.mono ?_; rintro e w13 ⟨rfl, rfl⟩
        go_wp2_with fail
        refine hAA.out.mono ?_; rintro e w14 ⟨rfl, b14⟩
        have B14 := Lib.hid (B12.out.trans (b14.mono (by omega)))
        clear b14 B12
        go_wp2
        go_ret
        exact ⟨by first | rfl | (simp; done) | (simp; omega), B14.out⟩
      · subst h7
        have q2 : decide (V ≤ F) = true := by simpa using h8
        go_wp2_with fail
        refine hSS.out.mono ?_; rintro e w13 ⟨rfl, rfl⟩
        go_wp2_with fail
        refine hAA.out.mono ?_; rintro e w14 ⟨rfl, b14⟩
        have B14 := Lib.hid (B12.out.trans (b14.mono (by omega)))
        clear b14 B12
        go_wp2
        go_ret
        exact ⟨by first | rfl | (simp; done) | (simp; omega), B14.out⟩
    · have q1 : decide (S ≤ V * 2) = true := by simp; omega
      have hw : IntKind.i64.wrap (V * 2) = V * 2 := IntWalk.i64_in _ (by omega)
      have hw2 : wrap64 (V * 2) = V * 2 := IntWalk.wrap64_in _ (by omega)
      have hw3 : wrap64 V = V := IntWalk.wrap64_in _ (by omega)
      have q3 : S ≤ V * 2 := by omega
      have q4 : ¬ V * 2 < S := by omega
      clear g7 g4 g5 s0 s1
      rcases hor with h7 | ⟨h7, h8⟩
      · have h7b : (K1 != 0) = true := by simpa using h7
        have h7c : (K1 == 0) = false := by simpa using h7
        go_wp2_with fail
        refine hSS.out.mono ?_; rintro e w13 ⟨rfl, rfl⟩
        go_wp2_with fail
        refine hAA.out.mono ?_; rintro e w14 ⟨rfl, b14⟩
        have B14 := Lib.hid (B12.out.trans (b14.mono (by omega)))
        clear b14 B12
        go_wp2
        go_ret
        exact ⟨by first | rfl | (simp; done) | (simp; omega), B14.out⟩
      · subst h7
        have q2 : decide (V ≤ F) = true := by simpa using h8
        go_wp2_with fail
        refine hSS.out.mono ?_; rintro e w13 ⟨rfl, rfl⟩
        go_wp2_with fail
        refine hAA.out.mono ?_; rintro e w14 ⟨rfl, b14⟩
        have B14 := Lib.hid (B12.out.trans (b14.mono (by omega)))
        clear b14 B12
        go_wp2
        go_ret
        exact ⟨by first | rfl | (simp; done) | (simp; omega), B14.out⟩
    · have q1 : decide (S ≤ V * 3) = true := by simp; omega
      have hw : IntKind.i64.wrap (V * 3) = V * 3 := IntWalk.i64_in _ (by omega)
      have hw2 : wrap64 (V * 3) = V * 3 := IntWalk.wrap64_in _ (by omega)
      have hw3 : wrap64 V = V := IntWalk.wrap64_in _ (by omega)
      have q3 : S ≤ V * 3 := by omega
      have q4 : ¬ V * 3 < S := by omega
      clear g7 g4 g5 s0 s1
      rcases hor with h7 | ⟨h7, h8⟩
      · have h7b : (K1 != 0) = true := by simpa using h7
        have h7c : (K1 == 0) = false := by simpa using h7
        go_wp2_with fail
        refine hSS.out.mono ?_; rintro e w13 ⟨rfl, rfl⟩
        go_wp2_with fail
        refine hAA.out.mono ?_; rintro e w14 ⟨rfl, b14⟩
        have B14 := Lib.hid (B12.out.trans (b14.mono (by omega)))
        clear b14 B12
        go_wp2
        go_ret
        exact ⟨by first | rfl | (simp; done) | (simp; omega), B14.out⟩
      · subst h7
        have q2 : decide (V ≤ F) = true := by simpa using h8
        go_wp2_with fail
        refine hSS.out.mono ?_; rintro e w13 ⟨rfl, rfl⟩
        go_wp2_with fail
        refine hAA.out.mono ?_; rintro e w14 ⟨rfl, b14⟩
        have B14 := Lib.hid (B12.out.trans (b14.mono (by omega)))
        clear b14 B12
        go_wp2
        go_ret
        exact ⟨by first | rfl | (simp; done) | (simp; omega), B14.out⟩
end Go.Proofs.Ytmeppemobogicaa
