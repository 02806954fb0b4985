/- The greedy assignment: walks of the program and of the reference. -/
import Derived.Test.YtmeppemobogicaaGr
import Derived.Test.YtmeppemobogicaaCw
namespace Go.Proofs.Ytmeppemobogicaa
open Go.ChangeShapes Go.WideShapes Go.ChangeAt Go.RowKit
set_option maxRecDepth 20000
set_option linter.unusedVariables false
set_option linter.unusedSimpArgs false
def grR (l : List (Int × Int)) (crews : Int) : List Int := if crewC l crews = 0 then greedyL (timesL l) crews.toNat else []
theorem grR_len (l : List (Int × Int)) (crews : Int) (hn : l.length ≤ 1048576) : (grR l crews).length ≤ 1048576 := by
  unfold grR
  split
  · rw [greedyL_length, timesL_length]; exact hn
  · simp
theorem zeros_own (n : Nat) (xs : List Value) (h : xs = (madeCells (Value.int .i64 0).cells (n * 1)).toList) : xs = ints (List.replicate n 0) := by
  rw [h, Nat.mul_one]
  simp only [ints, List.map_replicate]
  exact toList_madeCells_one _ _
set_option maxHeartbeats 4000000 in
theorem greedy_impl (l : List (Int × Int)) (crews : Int) (A : Option Addr) (B c : Nat) (w : World) (hr : Rd w B A (l.flatMap eEvacuationStop)) (hB : B ≤ w.heap.size) (hn : l.length ≤ 1048576) :
   Calls Try.prog 43 #[.slice A l.length c, .int .i64 crews] w fun e w' => ∃ A' c', e = .returned (.tuple #[.slice A' (grR l crews).length c', .int .i64 (crewC l crews)]) ∧ w'.ownsRow w.heap.size 2 1 (.slice A' (grR l crews).length c') (grR l crews).length (ints (grR l crews)) ∧ Below w.heap.size w w' := by
  by_cases h0 : crewC l crews = 0
  · obtain ⟨hst, hc1, hc3⟩ := crewC_zero h0
    obtain ⟨m, rfl⟩ : ∃ m : Nat, crews = m := ⟨crews.toNat, by omega⟩
    have hR : grR l m = greedyL (timesL l) m := by rw [grR, if_pos h0]; simp
    rw [hR, h0]
    have H0 := Lib.hid h0
    have Hst := Lib.hid hst
    obtain ⟨i0, hi0, hz0, hz1, hz2⟩ := info_parts infoInt64
    have hTl := timesL_length l
    have hn6 := stopsB_len hst
    have hTa := timesL_at hst
    have HTS := Lib.hid (fun (w' : World) (h : Rd w' B A (l.flatMap eEvacuationStop)) (hb : B ≤ w'.heap.size) => stopTimes_any l hst A B c w' h hb)
    clear h0 hst hR
    generalize hT : timesL l = T at *
    have HT := Lib.hid hT
    have HTl := Lib.hid hTl
    have HTa := Lib.hid hTa
    clear hT hTl hTa
    go_enter Try.func43, Try.ntmps43
    go_wp2_with fail
    refine (crewCode_r l m 0 H0.out A B c w hr hB hn).mono ?_; rintro e w1 ⟨rfl, b1⟩
    have z1 := b1.size
    have Hr1 := Lib.hid (hr.below b1 hB)
    clear hr
    go_wp2_with fail
    refine (HTS.out w1 Hr1.out (by omega)).mono ?_; rintro e w2 ⟨At, ct, rfl, o2, b2⟩
    have z2 := b2.size
    have R2 := Lib.hid (Rd.of_own o2)
    clear o2
    obtain ⟨w3, xs3, hmk3, own3, hxs3, b3, z3⟩ := mk_own (P := Try.prog) 29 2 i0 _ 1 8 Try.underlying29 hi0 hz0 hz1 hz2 .i64 .i64 m (by omega) (by unfold maxLen; omega) w2.heap.size w2 (Nat.le_refl _)
    obtain ⟨w4, xs4, hmk4, own4, hxs4, b4, z4⟩ := mk_own (P := Try.prog) 29 2 i0 _ 1 8 Try.underlying29 hi0 hz0 hz1 hz2 .i64 .i64 l.length (by omega) (by unfold maxLen; omega) w3.heap.size w3 (Nat.le_refl _)
    rw [zeros_own m xs3 hxs3] at own3
    rw [zeros_own l.length xs4 hxs4] at own4
    clear hxs3 hxs4
    have own3' := own_below own3 b4
    have O3 := Lib.hid own3'
    have O4 := Lib.hid own4
    have R4 := Lib.hid ((R2.out.below b3 (Nat.le_refl _)).below b4 (by omega))
    clear own3 own4 own3'
    go_wp2_with fail
    clear hmk3 hmk4
    generalize hG3 : w2.heap.size = g3 at *
    generalize hG4 : w3.heap.size = g4 at *
    have h6T : T.length ≤ 6 := by rw [HTl.out]; exact hn6
    have HO := Lib.hid (fun (w' : World) (h : Rd w' g3 At (ints T)) (hb : g3 ≤ w'.heap.size) => order_impl T h6T At g3 ct w' h hb)
    refine (HO.out w4 R4.out (by omega)).mono ?_; rintro e w5 ⟨A5, c5, rfl, o5, b5⟩
    have z5 := b5.size
    have O35 := Lib.hid (own_below O3.out b5)
    have O45 := Lib.hid (own_below O4.out b5)
    have R5 := Lib.hid (R4.out.below b5 (by omega))
    have b05 : Below w.heap.size w w5 := ((((b1.trans (b2.mono (by omega))).trans (b3.mono (by omega))).trans (b4.mono (by omega))).trans (b5.mono (by omega)))
    have O5 := Lib.hid o5
    have hTl2 : T.length = l.length := HTl.out
    have HTl2 := Lib.hid hTl2
    clear o5 b1 b2 b3 b4 b5 O3 O4 R4 HO Hr1 R2 HTS hTl2
    have hlen0 : (T.length : Int) = (l.length : Int) := by rw [HTl2.out]
    clear hlen0
    go_wp2_with fail
    go_loopw [29] (fun i wr => ∃ k : Nat, k ≤ T.length ∧ i = .int .i64 k ∧ wr.ownsRow w4.heap.size 2 1 (.slice A5 T.length c5) T.length (ints (natI (ordT (tN T) T.length))) ∧ wr.ownsRow g3 2 1 (.slice (some ⟨g3, 0, none⟩) m m) m (ints (gSt T m k).1) ∧ wr.ownsRow g4 2 1 (.slice (some ⟨g4, 0, none⟩) l.length l.length) l.length (ints (gSt T m k).2) ∧ Rd wr g3 At (ints T) ∧ gBd (gSt T m k).1 k ∧ Below w.heap.size w wr ∧ w5.heap.size ≤ wr.heap.size) (fun i _ => T.length - (intOf i).toNat)
    case atStart =>
      refine ⟨0, Nat.zero_le _, rfl, O5.out, ?_, ?_, R5.out, ?_, b05, Nat.le_refl _⟩
      · rw [gSt_zero]; exact O35.out
      · rw [gSt_zero]; have := O45.out; rw [← HTl2.out] at this ⊢; exact this
      · rw [gSt_zero]; exact gBd_zero m
    case round =>
      clear O5 O35 O45 R5 b05
      obtain ⟨k, hk, rfl, oO, oL, oA, rT, hbd, hbw, hsz⟩ := hrel
      by_cases hlt : k < T.length
      · have hkl : k < (ordT (tN T) T.length).length := by rw [ordT_length]; exact hlt
        have hx := List.getElem?_eq_getElem hkl
        generalize (ordT (tN T) T.length)[k] = x at hx
        have hxn : x < T.length := mem_ordT.1 (List.mem_of_getElem? hx)
        have hstep := gSt_step (m := m) hx
        obtain ⟨hl1, hl2⟩ := gSt_len T m k
        generalize gSt T m k = st at *
        obtain ⟨L, O⟩ := st
        dsimp only at *
        obtain ⟨g5, rfl, hg5, hg5b⟩ := own_form oO (by omega)
        have cO := own_cell_nat oO hx
        have hxT := List.getElem?_eq_getElem hxn
        generalize T[x] = t at hxT
        have htx := tN_at hxT
        have hta := HTa.out x t hxT
        obtain ⟨bt, ot, rfl, hbt, cT⟩ := rT.int hxT
        have hq0 := amUp_lt L m (by omega)
        have hq : argM L < m := by unfold argM; rw [hl1]; exact hq0
        have HMIN := Lib.hid (hl1 ▸ min_any L (by omega) (some ⟨g3, 0, none⟩) wr.heap.size m wr (Rd.of_own oL) (by omega))
        have HIDX := Lib.hid (hl1 ▸ index_arg L (by omega) (some ⟨g3, 0, none⟩) wr.heap.size m wr (Rd.of_own oL) (by omega))
        have hLq := List.getElem?_eq_getElem (show argM L < L.length by omega)
        have hgd := getD_at hLq
        have hyb := hbd _ _ hLq
        have cL := own_cell_int oL hLq
        have hOx := List.getElem?_eq_getElem (show x < O.length by omega)
        have cA := own_cell_int oA hOx
        generalize O[x]'(by omega) = z at hOx cA
        have hfA := oA.frozenAt
        have hfL := oL.frozenAt
        rw [hgd] at HMIN HIDX
        have hstep2 : gSt T m (k + 1) = (L.set (argM L) (L[argM L]'(by omega) + t), O.set x (argM L : Int)) := by rw [hstep, gStep]; dsimp only; rw [hgd, htx]
        have hbd2 := gBd_step (q := argM L) hbd hta
        rw [hgd] at hbd2
        generalize L[argM L]'(by omega) = y at *
        generalize argM L = q at *
        have e1 : IntKind.i64.wrap (y + t) = y + t := IntWalk.i64_in _ (by omega)
        have k0 : (0 : Int) ≤ (k : Int) := by omega
        have k1 : (k : Int) < (T.length : Int) := by omega
        have x0 : (0 : Int) ≤ (x : Int) := by omega
        have x1 : (x : Int) < (T.length : Int) := by omega
        have x2 : (x : Int) < (l.length : Int) := by rw [← HTl2.out]; exact x1
        have q0 : (0 : Int) ≤ (q : Int) := by omega
        have q1 : (q : Int) < (m : Int) := by omega
        have n1 : g3 ≠ g4 := by omega
        have n2 : g5 ≠ g4 := by omega
        have n3 : g5 ≠ g3 := by omega
        have n4 : bt ≠ g4 := by omega
        have n5 : bt ≠ g3 := by omega
        have n6 : g4 ≠ g3 := by omega
        have HS2 := Lib.hid hstep2
        have HBD := Lib.hid hbd2
        have HoO := Lib.hid oO
        have HoL := Lib.hid oL
        have HoA := Lib.hid oA
        have HrT := Lib.hid rT
        clear hx hstep hstep2 hl1 hl2 hxT htx hta hq0 hq hLq hgd hyb hOx hbd hbd2 oO oL oA rT hkl hxn
        go_wp2_with (first | (go_at_call 70; refine HMIN.out.mono ?_; rintro e w' ⟨rfl, rfl⟩) | (go_at_call 69; refine HIDX.out.mono ?_; rintro e w' ⟨rfl, rfl⟩))
        go_region
        go_wp2
        go_roundw
        case measure => first | (simp [intOf]; done) | (simp [intOf]; omega)
        case rel =>
          have g1 := grown_set1 wr g4 x (.int .i64 (q : Int))
          have g2 := grown_set1 (wr.setCell ⟨g4, x, none⟩ (.int .i64 (q : Int))).drew g3 q (.int .i64 (y + t))
          have p1 := own_other HoO.out g1 n2
          have p2 := own_other HoL.out g1 n1
          have p3 := (World.ownsRow.stored HoA.out x (.int .i64 (q : Int))).1
          have r1 := own_other (own_drew p1) g2 n3
          have r3 := own_other (own_drew p3) g2 n6
          have r2 := (World.ownsRow.stored (own_drew p2) q (.int .i64 (y + t))).1
          rw [ints_set] at r2 r3
          have t1 := HrT.out.grown g1 (by omega) (fun k e => by injection e with e; omega)
          have t2 := Rd.grown (w := (wr.setCell ⟨g4, x, none⟩ (.int .i64 (q : Int))).drew) t1 g2 (by simp; omega) (fun k e => by injection e with e; omega)
          refine ⟨k + 1, by omega, by go_num, r1, ?_, ?_, t2, ?_, by repeat' (first | (with_reducible exact Below.refl _ _) | (with_reducible assumption) | (with_reducible refine Below.alloc ?_ ?_ _) | (with_reducible refine Below.drew ?_) | (with_reducible refine below_drewN ?_ _) | (with_reducible refine Below.setCell ?_ ?_ _) | (with_reducible refine Below.trans ?_ (Below.mono (by assumption) ?_)) | go_size | (exact Below.size (by assumption))), by first | omega | (simp; omega)⟩
          · rw [HS2.out]; exact r2
          · rw [HS2.out]; exact r3
          · rw [HS2.out]; exact HBD.out
      · have hk' : k = T.length := by omega
        subst hk'
        have hend := gSt_end T m
        generalize gSt T m T.length = st at *
        obtain ⟨L, O⟩ := st
        dsimp only at *
        subst hend
        have hgl := greedyL_length T m
        have hgl2 : (greedyL T m).length = l.length := by rw [hgl, HTl2.out]
        have HoA := Lib.hid oA
        have Hgl := Lib.hid hgl2
        clear oO oL oA rT hbd hgl hgl2
        go_wp2
        go_ret2
        rw [Hgl.out]
        exact ⟨some ⟨g4, 0, none⟩, l.length, rfl, own_more HoA.out (by omega), hbw⟩
  · have hR : grR l crews = [] := by rw [grR, if_neg h0]
    rw [hR]
    have hb1 : (crewC l crews != 0) = true := by simpa using h0
    generalize hC : crewC l crews = C at *
    have HC := Lib.hid hC
    clear h0 hC
    go_enter Try.func43, Try.ntmps43
    go_wp2_with (go_at_call 56; refine (crewCode_r l crews C HC.out A B c w hr hB hn).mono ?_; rintro e w1 ⟨rfl, b1⟩)
    go_ret2
    exact ⟨none, 0, rfl, World.ownsRow_nil _ _ _ _, b1⟩
set_option maxHeartbeats 4000000 in
theorem greedy_spec (l : List (Int × Int)) (crews : Int) (A : Option Addr) (B c : Nat) (w : World) (hr : Rd w B A (l.flatMap eEvacuationStop)) (hB : B ≤ w.heap.size) (hn : l.length ≤ 1048576) :
   Calls Try.prog 42 #[.slice A l.length c, .int .i64 crews] w fun e w' => ∃ A' c', e = .returned (.tuple #[.slice A' (grR l crews).length c', .int .i64 (crewC l crews)]) ∧ w'.ownsRow w.heap.size 2 1 (.slice A' (grR l crews).length c') (grR l crews).length (ints (grR l crews)) ∧ Below w.heap.size w w' := by
  by_cases h0 : crewC l crews = 0
  · obtain ⟨hst, hc1, hc3⟩ := crewC_zero h0
    obtain ⟨m, rfl⟩ : ∃ m : Nat, crews = m := ⟨crews.toNat, by omega⟩
    have hR : grR l m = greedyL (timesL l) m := by rw [grR, if_pos h0]; simp
    rw [hR, h0]
    have H0 := Lib.hid h0
    have Hst := Lib.hid hst
    obtain ⟨i0, hi0, hz0, hz1, hz2⟩ := info_parts infoInt64
    have hTl := timesL_length l
    have hn6 := stopsB_len hst
    have hTa := timesL_at hst
    have HTS := Lib.hid (fun (w' : World) (h : Rd w' B A (l.flatMap eEvacuationStop)) (hb : B ≤ w'.heap.size) => l30Times_any l hst A B c w' h hb)
    clear h0 hst hR
    generalize hT : timesL l = T at *
    have HT := Lib.hid hT
    have HTl := Lib.hid hTl
    have HTa := Lib.hid hTa
    clear hT hTl hTa
    go_enter Try.func42, Try.ntmps42
    go_wp2_with fail
    refine (l30Code_r l m 0 H0.out A B c w hr hB hn).mono ?_; rintro e w1 ⟨rfl, b1⟩
    have z1 := b1.size
    have Hr1 := Lib.hid (hr.below b1 hB)
    clear hr
    go_wp2_with fail
    refine (HTS.out w1 Hr1.out (by omega)).mono ?_; rintro e w2 ⟨At, ct, rfl, o2, b2⟩
    have z2 := b2.size
    have R2 := Lib.hid (Rd.of_own o2)
    clear o2
    have h6T : T.length ≤ 6 := by rw [HTl.out]; exact hn6
    have HO := Lib.hid (fun (w' : World) (h : Rd w' w2.heap.size At (ints T)) (hb : w2.heap.size ≤ w'.heap.size) => order_spec T T.length rfl h6T At w2.heap.size ct w' h hb)
    go_wp2_with fail
    refine (HO.out w2 R2.out (Nat.le_refl _)).mono ?_; rintro e w5 ⟨A5, c5, rfl, o5, b5⟩
    have z5 := b5.size
    have R5 := Lib.hid (R2.out.below b5 (Nat.le_refl _))
    have O5 := Lib.hid (Rd.of_own o5)
    clear o5 HO
    obtain ⟨w3, xs3, hmk3, own3, hxs3, b3, z3⟩ := mk_own (P := Try.prog) 29 2 i0 _ 1 8 Try.underlying29 hi0 hz0 hz1 hz2 .i64 .i64 l.length (by omega) (by unfold maxLen; omega) w5.heap.size w5 (Nat.le_refl _)
    obtain ⟨w4, xs4, hmk4, own4, hxs4, b4, z4⟩ := mk_own (P := Try.prog) 29 2 i0 _ 1 8 Try.underlying29 hi0 hz0 hz1 hz2 .i64 .i64 m (by omega) (by unfold maxLen; omega) w3.heap.size w3 (Nat.le_refl _)
    rw [zeros_own l.length xs3 hxs3] at own3
    rw [zeros_own m xs4 hxs4] at own4
    clear hxs3 hxs4
    have own3' := own_below own3 b4
    have O3 := Lib.hid own3'
    have O4 := Lib.hid own4
    have R4 := Lib.hid (((R5.out.more (by omega)).below b3 (Nat.le_refl _)).below b4 (by omega))
    have OR4 := Lib.hid ((O5.out.below b3 (Nat.le_refl _)).below b4 (by omega))
    have b04 : Below w.heap.size w w4 := ((((b1.trans (b2.mono (by omega))).trans (b5.mono (by omega))).trans (b3.mono (by omega))).trans (b4.mono (by omega)))
    clear own3 own4 own3' b1 b2 b3 b4 b5 Hr1 R2 R5 O5 HTS
    have hTl2 : T.length = l.length := HTl.out
    have HTl2 := Lib.hid hTl2
    clear hTl2
    go_wp2_with fail
    clear hmk3 hmk4
    generalize hG3 : w5.heap.size = g3 at *
    generalize hG4 : w3.heap.size = g4 at *
    have hm1 : (1 : Int) ≤ (m : Int) := by omega
    go_loopw [11] (fun i wr => ∃ k : Nat, k ≤ T.length ∧ i = .int .i64 k ∧ Rd wr g3 A5 (ints (natI (ordT (tN T) T.length))) ∧ wr.ownsRow g4 2 1 (.slice (some ⟨g4, 0, none⟩) m m) m (ints (gSt T m k).1) ∧ wr.ownsRow g3 2 1 (.slice (some ⟨g3, 0, none⟩) l.length l.length) l.length (ints (gSt T m k).2) ∧ Rd wr g3 At (ints T) ∧ gBd (gSt T m k).1 k ∧ Below w.heap.size w wr ∧ w4.heap.size ≤ wr.heap.size) (fun i _ => T.length - (intOf i).toNat)
    case atStart =>
      refine ⟨0, Nat.zero_le _, rfl, OR4.out, ?_, ?_, R4.out, ?_, b04, Nat.le_refl _⟩
      · rw [gSt_zero]; exact O4.out
      · rw [gSt_zero]; have := O3.out; rw [← HTl2.out] at this ⊢; exact this
      · rw [gSt_zero]; exact gBd_zero m
    case round =>
      clear O3 O4 OR4 R4 b04
      obtain ⟨k, hk, rfl, oO, oL, oA, rT, hbd, hbw, hsz⟩ := hrel
      by_cases hlt : k < T.length
      · have hkl : k < (ordT (tN T) T.length).length := by rw [ordT_length]; exact hlt
        have hx := List.getElem?_eq_getElem hkl
        generalize (ordT (tN T) T.length)[k] = x at hx
        have hxn : x < T.length := mem_ordT.1 (List.mem_of_getElem? hx)
        have hstep := gSt_step (m := m) hx
        obtain ⟨hl1, hl2⟩ := gSt_len T m k
        generalize gSt T m k = st at *
        obtain ⟨L, O⟩ := st
        dsimp only at *
        have hxi : (natI (ordT (tN T) T.length))[k]? = some (x : Int) := by simp [natI, hx]
        obtain ⟨b5, o5, rfl, hb5, cO⟩ := oO.int hxi
        have hxT := List.getElem?_eq_getElem hxn
        generalize T[x] = t at hxT
        have htx := tN_at hxT
        have hta := HTa.out x t hxT
        obtain ⟨bt, ot, rfl, hbt, cT⟩ := rT.int hxT
        obtain ⟨wo, hwo⟩ : ∃ wo : World, wo = wr := ⟨_, rfl⟩
        subst hwo
        have k0 : (0 : Int) ≤ (k : Int) := by omega
        have k1 : (k : Int) < (T.length : Int) := by omega
        have HL1 := Lib.hid hl1
        have HL2 := Lib.hid hl2
        have HST := Lib.hid hstep
        have HBD := Lib.hid hbd
        have HoO := Lib.hid oO
        have HoL := Lib.hid oL
        have HoA := Lib.hid oA
        have HrT := Lib.hid rT
        have Htx := Lib.hid htx
        clear hx hxi hstep hl1 hl2 hxT htx hbd oO oL oA rT hkl
        go_wp2_with fail
        go_loopw [12, 13] (fun q cc wi => ∃ j : Nat, 1 ≤ j ∧ j ≤ m ∧ cc = .int .i64 j ∧ q = .int .i64 (amUp L j : Int) ∧ ∃ n, wi = wo.drewN n) (fun _ cc _ => m - (intOf cc).toNat)
        case atStart => exact ⟨1, Nat.le_refl _, by omega, rfl, by simp [amUp], 0, rfl⟩
        case round =>
          obtain ⟨j, hj1, hj, rfl, rfl, nn, rfl⟩ := hrel
          by_cases hlt2 : j < m
          · have hLj := List.getElem?_eq_getElem (show j < L.length by rw [HL1.out]; exact hlt2)
            have cj := own_cell_int HoL.out hLj
            have hs := amUp_step hLj
            generalize L[j]'(by rw [HL1.out]; exact hlt2) = u at *
            have ha := amUp_lt L j (by omega)
            have hLa := List.getElem?_eq_getElem (show amUp L j < L.length by rw [HL1.out]; omega)
            have ca := own_cell_int HoL.out hLa
            rw [getD_at hLa] at hs
            generalize L[amUp L j]'(by rw [HL1.out]; omega) = v at *
            generalize amUp L j = a at *
            have j0 : (0 : Int) ≤ (j : Int) := by omega
            have j1 : (j : Int) < (m : Int) := by omega
            have a0 : (0 : Int) ≤ (a : Int) := by omega
            have a1 : (a : Int) < (m : Int) := by omega
            by_cases hc : u < v
            · rw [if_pos hc] at hs
              have Hs := Lib.hid hs
              clear hs hLj hLa
              go_wp2_with fail
              go_quiet (fail)
              go_wp2
              go_roundw
              case rel => exact ⟨j + 1, by omega, by omega, by go_num, by rw [Hs.out], _, by first | rfl | exact World.drewN_drewN _ _ _⟩
              case measure => simp [intOf]; omega
            · rw [if_neg hc] at hs
              have Hs := Lib.hid hs
              clear hs hLj hLa
              go_wp2_with fail
              go_quiet (fail)
              go_wp2
              go_roundw
              case rel => exact ⟨j + 1, by omega, by omega, by go_num, by rw [Hs.out], _, by first | rfl | exact World.drewN_drewN _ _ _⟩
              case measure => simp [intOf]; omega
          · have hj' : j = m := by omega
            subst hj'
            have hqa : amUp L j = argM L := by unfold argM; rw [HL1.out]
            rw [hqa]
            have hq : argM L < j := by rw [← hqa]; exact amUp_lt _ _ (by omega)
            have hl1 := HL1.out
            have hl2 := HL2.out
            have hLq := List.getElem?_eq_getElem (show argM L < L.length by omega)
            have hgd := getD_at hLq
            have hyb := HBD.out _ _ hLq
            have cL := own_cell_int HoL.out hLq
            have hOx := List.getElem?_eq_getElem (show x < O.length by omega)
            have cA := own_cell_int HoA.out hOx
            generalize O[x]'(by omega) = z at hOx cA
            have hfA := HoA.out.frozenAt
            have hfL := HoL.out.frozenAt
            have hstep2 : gSt T j (k + 1) = (L.set (argM L) (L[argM L]'(by omega) + t), O.set x (argM L : Int)) := by rw [HST.out, gStep]; dsimp only; rw [hgd, Htx.out]
            have hbd2 := gBd_step (q := argM L) HBD.out hta
            rw [hgd] at hbd2
            generalize L[argM L]'(by omega) = y at *
            generalize argM L = q at *
            have e1 : IntKind.i64.wrap (y + t) = y + t := IntWalk.i64_in _ (by omega)
            have x0 : (0 : Int) ≤ (x : Int) := by omega
            have x1 : (x : Int) < (T.length : Int) := by omega
            have x2 : (x : Int) < (l.length : Int) := by rw [← HTl2.out]; exact x1
            have q0 : (0 : Int) ≤ (q : Int) := by omega
            have q1 : (q : Int) < (j : Int) := by omega
            have n1 : g3 ≠ g4 := by omega
            have n2 : b5 ≠ g4 := by omega
            have n3 : b5 ≠ g3 := by omega
            have n4 : bt ≠ g4 := by omega
            have n5 : bt ≠ g3 := by omega
            have n6 : g4 ≠ g3 := by omega
            have HS2 := Lib.hid hstep2
            have HBD2 := Lib.hid hbd2
            clear hqa hq hLq hgd hyb hOx hstep2 hbd2 hl1 hl2 hta hxn
            go_wp2_with fail
            go_region
            go_wp2
            go_roundw
            case measure => first | (simp [intOf]; done) | (simp [intOf]; omega)
            case rel =>
              have g1 := grown_set1 (wo.drewN nn).drew g4 q (.int .i64 (y + t))
              have g2 := grown_set1 ((wo.drewN nn).drew.setCell ⟨g4, q, none⟩ (.int .i64 (y + t))) g3 x (.int .i64 (q : Int))
              have p2 := own_other (own_drew (own_drewN HoA.out nn)) g1 n1
              have p3 := (World.ownsRow.stored (own_drew (own_drewN HoL.out nn)) q (.int .i64 (y + t))).1
              have r2 := (World.ownsRow.stored p2 x (.int .i64 (q : Int))).1
              have r3 := own_other p3 g2 n6
              rw [ints_set] at r2 r3
              have t1 := Rd.grown (w := (wo.drewN nn).drew) HrT.out g1 (by simp; omega) (fun k e => by injection e with e; omega)
              have t2 := t1.grown g2 (by simp; omega) (fun k e => by injection e with e; omega)
              have u1 := Rd.grown (w := (wo.drewN nn).drew) HoO.out g1 (by simp; omega) (fun k e => by injection e with e; omega)
              have u2 := u1.grown g2 (by simp; omega) (fun k e => by injection e with e; omega)
              refine ⟨k + 1, by omega, by go_num, u2, ?_, ?_, t2, ?_, by repeat' (first | (with_reducible exact Below.refl _ _) | (with_reducible assumption) | (with_reducible refine Below.alloc ?_ ?_ _) | (with_reducible refine Below.drew ?_) | (with_reducible refine below_drewN ?_ _) | (with_reducible refine Below.setCell ?_ ?_ _) | (with_reducible refine Below.trans ?_ (Below.mono (by assumption) ?_)) | go_size | (exact Below.size (by assumption))), by first | omega | (simp; omega)⟩
              · rw [HS2.out]; exact r3
              · rw [HS2.out]; exact r2
              · rw [HS2.out]; exact HBD2.out
      · have hk' : k = T.length := by omega
        subst hk'
        have hend := gSt_end T m
        generalize gSt T m T.length = st at *
        obtain ⟨L, O⟩ := st
        dsimp only at *
        subst hend
        have hgl := greedyL_length T m
        have hgl2 : (greedyL T m).length = l.length := by rw [hgl, HTl2.out]
        have HoA := Lib.hid oA
        have Hgl := Lib.hid hgl2
        clear oO oL oA rT hbd hgl hgl2
        go_wp2
        go_ret2
        rw [Hgl.out]
        exact ⟨some ⟨g3, 0, none⟩, l.length, rfl, own_more HoA.out (by omega), hbw⟩
  · have hR : grR l crews = [] := by rw [grR, if_neg h0]
    rw [hR]
    have hb1 : (crewC l crews != 0) = true := by simpa using h0
    generalize hC : crewC l crews = C at *
    have HC := Lib.hid hC
    clear h0 hC
    go_enter Try.func42, Try.ntmps42
    go_wp2_with (go_at_call 54; refine (l30Code_r l crews C HC.out A B c w hr hB hn).mono ?_; rintro e w1 ⟨rfl, b1⟩)
    go_ret2
    exact ⟨none, 0, rfl, World.ownsRow_nil _ _ _ _, b1⟩
end Go.Proofs.Ytmeppemobogicaa
