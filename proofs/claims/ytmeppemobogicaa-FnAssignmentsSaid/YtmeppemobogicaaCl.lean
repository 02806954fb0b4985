/- The loads of crews: walks of the program and of the reference. -/
import Derived.Test.YtmeppemobogicaaTm
import Derived.BigRegion
namespace Go.Proofs.Ytmeppemobogicaa
open Go.ChangeShapes Go.WideShapes Go.ChangeAt Go.RowKit
set_option maxRecDepth 20000
set_option linter.unusedVariables false
set_option linter.unusedSimpArgs false
/-! ### StopTimes -/
def timesR (l : List (Int × Int)) : List Int := if stopsB l then timesL l else []
def timesC (l : List (Int × Int)) : Int := if stopsB l then 0 else 1
theorem timesR_len (l : List (Int × Int)) (hn : l.length ≤ 1048576) : (timesR l).length ≤ 1048576 := by
  unfold timesR
  split
  · rw [timesL_length]; exact hn
  · simp
theorem stopTimes_spec (l : List (Int × Int)) (A : Option Addr) (B c : Nat) (w : World) (hr : Rd w B A (l.flatMap eEvacuationStop)) (hB : B ≤ w.heap.size) (hn : l.length ≤ 1048576) :
   Calls Try.prog 19 #[.slice A l.length c] w fun e w' => ∃ A' c', e = .returned (.tuple #[.slice A' (timesR l).length c', .int .i64 (timesC l)]) ∧ w'.ownsRow w.heap.size 2 1 (.slice A' (timesR l).length c') (timesR l).length (ints (timesR l)) ∧ Below w.heap.size w w' := by
  cases h : stopsB l with
  | false =>
    rw [show timesR l = [] by simp [timesR, h], show timesC l = 1 by simp [timesC, h]]
    have H := Lib.hid h
    clear h
    go_enter Try.func19, Try.ntmps19
    go_wp2_with (go_at_call 15; refine (stopsB_spec_r l A B c false H.out w hr hB hn).mono ?_; rintro e w1 ⟨rfl, hb⟩)
    go_ret2
    exact ⟨none, 0, rfl, World.ownsRow_nil _ _ _ _, hb⟩
  | true =>
    rw [show timesR l = timesL l by simp [timesR, h], show timesC l = 0 by simp [timesC, h]]
    have H := Lib.hid h
    clear h
    go_enter Try.func19, Try.ntmps19
    go_wp2_with fail
    refine (stopsB_spec_r l A B c true H.out w hr hB hn).mono ?_; rintro e w1 ⟨rfl, hb⟩
    have hz := hb.size
    go_wp2_with fail
    refine (l30Times_any l H.out A B c w1 (hr.below hb hB) (by omega)).mono ?_; rintro e w2 ⟨A', c', rfl, o2, hb2⟩
    have O2 := Lib.hid o2
    clear o2
    go_wp2
    go_ret2
    exact ⟨A', c', rfl, own_more O2.out hz, by repeat' (first | (with_reducible exact Below.refl _ _) | (with_reducible assumption) | (with_reducible refine Below.alloc ?_ ?_ _) | (with_reducible refine Below.drew ?_) | (with_reducible refine below_drewN ?_ _) | (with_reducible refine Below.setCell ?_ ?_ _) | (with_reducible refine Below.trans ?_ (Below.mono (by assumption) ?_)) | go_size | (exact Below.size (by assumption)))⟩
theorem stopTimes_impl (l : List (Int × Int)) (A : Option Addr) (B c : Nat) (w : World) (hr : Rd w B A (l.flatMap eEvacuationStop)) (hB : B ≤ w.heap.size) (hn : l.length ≤ 1048576) :
   Calls Try.prog 20 #[.slice A l.length c] w fun e w' => ∃ A' c', e = .returned (.tuple #[.slice A' (timesR l).length c', .int .i64 (timesC l)]) ∧ w'.ownsRow w.heap.size 2 1 (.slice A' (timesR l).length c') (timesR l).length (ints (timesR l)) ∧ Below w.heap.size w w' := by
  cases h : stopsB l with
  | false =>
    rw [show timesR l = [] by simp [timesR, h], show timesC l = 1 by simp [timesC, h]]
    have H := Lib.hid h
    clear h
    go_enter Try.func20, Try.ntmps20
    go_wp2_with (go_at_call 17; refine (stopsB_impl_r l A B c false H.out w hr hB hn).mono ?_; rintro e w1 ⟨rfl, hb⟩)
    go_ret2
    exact ⟨none, 0, rfl, World.ownsRow_nil _ _ _ _, hb⟩
  | true =>
    rw [show timesR l = timesL l by simp [timesR, h], show timesC l = 0 by simp [timesC, h]]
    have H := Lib.hid h
    clear h
    go_enter Try.func20, Try.ntmps20
    go_wp2_with fail
    refine (stopsB_impl_r l A B c true H.out w hr hB hn).mono ?_; rintro e w1 ⟨rfl, hb⟩
    have hz := hb.size
    go_wp2_with fail
    refine (stopTimes_any l H.out A B c w1 (hr.below hb hB) (by omega)).mono ?_; rintro e w2 ⟨A', c', rfl, o2, hb2⟩
    have O2 := Lib.hid o2
    clear o2
    go_wp2
    go_ret2
    exact ⟨A', c', rfl, own_more O2.out hz, by repeat' (first | (with_reducible exact Below.refl _ _) | (with_reducible assumption) | (with_reducible refine Below.alloc ?_ ?_ _) | (with_reducible refine Below.drew ?_) | (with_reducible refine below_drewN ?_ _) | (with_reducible refine Below.setCell ?_ ?_ _) | (with_reducible refine Below.trans ?_ (Below.mono (by assumption) ?_)) | go_size | (exact Below.size (by assumption)))⟩
/-! ### loads -/
def addAt (L : List Int) (c : Nat) (x : Int) : List Int := L.set c (L.getD c 0 + x)
def ldsUp (times asg : List Int) (m : Nat) : Nat → List Int
  | 0 => List.replicate m 0
  | k + 1 => match asg[k]?, times[k]? with
    | some c, some x => addAt (ldsUp times asg m k) c.toNat x
    | _, _ => ldsUp times asg m k
theorem ldsUp_length (times asg : List Int) (m : Nat) : ∀ k, (ldsUp times asg m k).length = m
  | 0 => by simp [ldsUp]
  | k + 1 => by
    unfold ldsUp
    split
    · simp [addAt, ldsUp_length times asg m k]
    · exact ldsUp_length times asg m k
theorem ldsUp_step {times asg : List Int} {m k : Nat} {c x : Int} (h1 : asg[k]? = some c) (h2 : times[k]? = some x) : ldsUp times asg m (k + 1) = addAt (ldsUp times asg m k) c.toNat x := by simp [ldsUp, h1, h2]
theorem ldsUp_bd {times asg : List Int} {m : Nat} (ht : ∀ (k : Nat) (x : Int), times[k]? = some x → 0 ≤ x ∧ x ≤ 1000000) : ∀ (k : Nat) (j : Nat) (q : Int), (ldsUp times asg m k)[j]? = some q → 0 ≤ q ∧ q ≤ 1000000 * k
  | 0 => by
    intro j q h
    simp only [ldsUp, List.getElem?_replicate] at h
    split at h <;> simp at h
    omega
  | k + 1 => by
    intro j q h
    have ih := ldsUp_bd (asg := asg) (m := m) ht k
    unfold ldsUp at h
    split at h
    · rename_i c x hc hx
      have hxb := ht k x hx
      simp only [addAt, List.getElem?_set] at h
      split at h
      · split at h
        · simp only [Option.some.injEq] at h
          rename_i hj hlt
          have := ih c.toNat ((ldsUp times asg m k)[c.toNat]) (List.getElem?_eq_getElem hlt)
          rw [List.getD_eq_getElem?_getD, List.getElem?_eq_getElem hlt] at h
          simp at h
          omega
        · simp at h
      · have := ih j q h
        omega
    · have := ih j q h
      omega
theorem ints_set (l : List Int) (c : Nat) (x : Int) : (ints l).set c (.int .i64 x) = ints (l.set c x) := by simp [ints, List.map_set]
theorem l30Loads_any (times asg : List Int) (m : Nat) (hm : m ≤ 3) (hl : asg.length ≤ times.length) (hn : times.length ≤ 1000) (ht : ∀ (k : Nat) (x : Int), times[k]? = some x → 0 ≤ x ∧ x ≤ 1000000) (ha : ∀ (k : Nat) (c : Int), asg[k]? = some c → 0 ≤ c ∧ c < m)
   (A A' : Option Addr) (B c c' : Nat) (w : World) (hr : Rd w B A (ints times)) (hr2 : Rd w B A' (ints asg)) (hB : B ≤ w.heap.size) :
   Calls Try.prog 55 #[.slice A times.length c, .int .i64 m, .slice A' asg.length c'] w fun e w' => ∃ A2 c2, e = .returned (.slice A2 m c2) ∧ w'.ownsRow w.heap.size 2 1 (.slice A2 m c2) m (ints (ldsUp times asg m asg.length)) ∧ Below w.heap.size w w' := by
  obtain ⟨i0, hi0, hz0, hz1, hz2⟩ := info_parts infoInt64
  obtain ⟨w1, xs, hmk, hown, hxs, hb1, hz⟩ := mk_own (P := Try.prog) 29 2 i0 _ 1 8 Try.underlying29 hi0 hz0 hz1 hz2 .i64 .i64 m (by omega) (by unfold maxLen; omega) w.heap.size w (Nat.le_refl _)
  have hx0 : xs = ints (ldsUp times asg m 0) := by
    rw [hxs, Nat.mul_one]
    simp only [ldsUp, ints, List.map_replicate]
    exact toList_madeCells_one _ _
  subst hx0
  clear hxs
  have Ht := Lib.hid ht
  have Ha := Lib.hid ha
  clear ht ha
  generalize hG : w.heap.size = G at *
  go_enter Try.func55, Try.ntmps55
  go_wp2_with fail
  go_loopw [8] (fun i wr => ∃ k : Nat, k ≤ asg.length ∧ i = .int .i64 k ∧ Below G w wr ∧ G < wr.heap.size ∧ wr.ownsRow G 2 1 (.slice (some ⟨G, 0, none⟩) m m) m (ints (ldsUp times asg m k))) (fun i _ => asg.length - (intOf i).toNat)
  case atStart => exact ⟨0, Nat.zero_le _, rfl, hb1, hz, hown⟩
  case round =>
    clear hmk hown hb1
    obtain ⟨k, hk, rfl, hbw, hsz, hown⟩ := hrel
    by_cases hlt : k < asg.length
    · have hlt2 : k < times.length := by omega
      have h1 := List.getElem?_eq_getElem hlt
      generalize asg[k] = q at h1
      have h2 := List.getElem?_eq_getElem hlt2
      generalize times[k] = x at h2
      obtain ⟨b, o, rfl, _, c0⟩ := (hr.below hbw (by omega)).int h2
      obtain ⟨b2, o2, rfl, _, d0⟩ := (hr2.below hbw (by omega)).int h1
      have hq := Ha.out k q h1
      obtain ⟨j, rfl⟩ : ∃ j : Nat, q = j := ⟨q.toNat, by omega⟩
      have hxb := Ht.out k x h2
      have hjm : j < m := by omega
      have hLl := ldsUp_length times asg m k
      have hLj : (ldsUp times asg m k)[j]? = some ((ldsUp times asg m k)[j]'(by omega)) := List.getElem?_eq_getElem _
      have hcell := hown.cellAt j (by omega)
      rw [ints, List.getElem?_map, hLj] at hcell
      have hgd : (ldsUp times asg m k).getD j 0 = (ldsUp times asg m k)[j]'(by omega) := by rw [List.getD_eq_getElem?_getD, hLj]; rfl
      have hLb := ldsUp_bd Ht.out k j _ hLj
      generalize (ldsUp times asg m k)[j]'(by omega) = y at hLj hcell hgd hLb
      simp only [Option.map_some] at hcell
      have hstep := ldsUp_step (m := m) h1 h2
      rw [addAt, Int.toNat_natCast, hgd] at hstep
      have hfz := hown.frozenAt
      have hj0 : (0 : Int) ≤ (j : Int) := by omega
      have hj1 : (j : Int) < (m : Int) := by omega
      have hk1 : (k : Int) < (asg.length : Int) := by omega
      have hk2 : (k : Int) < (times.length : Int) := by omega
      have e1 : IntKind.i64.wrap (y + x) = y + x := IntWalk.i64_in _ (by omega)
      have Hs := Lib.hid hstep
      have Ho := Lib.hid hown
      have Hr := Lib.hid hr
      have Hr2 := Lib.hid hr2
      have Hll := Lib.hid hLl
      clear h1 h2 hstep hown hr hr2 hLj hgd hLl
      go_wp2_with fail
      go_region
      go_wp2
      go_roundw
      case rel =>
        have o1 := (World.ownsRow.stored (own_drew Ho.out) j (.int .i64 (y + x))).1
        rw [ints_set] at o1
        exact ⟨k + 1, by omega, by go_num, by repeat' (first | (with_reducible exact Below.refl _ _) | (with_reducible assumption) | (with_reducible refine Below.alloc ?_ ?_ _) | (with_reducible refine Below.drew ?_) | (with_reducible refine below_drewN ?_ _) | (with_reducible refine Below.setCell ?_ ?_ _) | (with_reducible refine Below.trans ?_ (Below.mono (by assumption) ?_)) | go_size | (exact Below.size (by assumption))), by first | omega | (simp; omega), by rw [Hs.out]; exact o1⟩
      case measure => simp [intOf]; omega
    · have hk' : k = asg.length := by omega
      subst hk'
      have Ho := Lib.hid hown
      clear hown
      go_wp2
      go_ret
      exact ⟨_, _, rfl, Ho.out, by repeat' (first | (with_reducible exact Below.refl _ _) | (with_reducible assumption) | (with_reducible refine Below.alloc ?_ ?_ _) | (with_reducible refine Below.drew ?_) | (with_reducible refine below_drewN ?_ _) | (with_reducible refine Below.setCell ?_ ?_ _) | (with_reducible refine Below.trans ?_ (Below.mono (by assumption) ?_)) | go_size | (exact Below.size (by assumption)))⟩
theorem loadsOf_any (times asg : List Int) (m : Nat) (hm : m ≤ 3) (hl : asg.length ≤ times.length) (hn : times.length ≤ 1000) (ht : ∀ (k : Nat) (x : Int), times[k]? = some x → 0 ≤ x ∧ x ≤ 1000000) (ha : ∀ (k : Nat) (c : Int), asg[k]? = some c → 0 ≤ c ∧ c < m)
   (A A' : Option Addr) (B c c' : Nat) (w : World) (hr : Rd w B A (ints times)) (hr2 : Rd w B A' (ints asg)) (hB : B ≤ w.heap.size) :
   Calls Try.prog 59 #[.slice A times.length c, .int .i64 m, .slice A' asg.length c'] w fun e w' => ∃ A2 c2, e = .returned (.slice A2 m c2) ∧ w'.ownsRow w.heap.size 2 1 (.slice A2 m c2) m (ints (ldsUp times asg m asg.length)) ∧ Below w.heap.size w w' := by
  obtain ⟨i0, hi0, hz0, hz1, hz2⟩ := info_parts infoInt64
  obtain ⟨w1, xs, hmk, hown, hxs, hb1, hz⟩ := mk_own (P := Try.prog) 29 2 i0 _ 1 8 Try.underlying29 hi0 hz0 hz1 hz2 .i64 .i64 m (by omega) (by unfold maxLen; omega) w.heap.size w (Nat.le_refl _)
  have hx0 : xs = ints (ldsUp times asg m 0) := by
    rw [hxs, Nat.mul_one]
    simp only [ldsUp, ints, List.map_replicate]
    exact toList_madeCells_one _ _
  subst hx0
  clear hxs
  have Ht := Lib.hid ht
  have Ha := Lib.hid ha
  clear ht ha
  generalize hG : w.heap.size = G at *
  go_enter Try.func59, Try.ntmps59
  go_wp2_with fail
  go_loopw [14] (fun i wr => ∃ k : Nat, k ≤ asg.length ∧ i = .int .i64 k ∧ Below G w wr ∧ G < wr.heap.size ∧ wr.ownsRow G 2 1 (.slice (some ⟨G, 0, none⟩) m m) m (ints (ldsUp times asg m k))) (fun i _ => asg.length - (intOf i).toNat)
  case atStart => exact ⟨0, Nat.zero_le _, rfl, hb1, hz, hown⟩
  case round =>
    clear hmk hown hb1
    obtain ⟨k, hk, rfl, hbw, hsz, hown⟩ := hrel
    by_cases hlt : k < asg.length
    · have hlt2 : k < times.length := by omega
      have h1 := List.getElem?_eq_getElem hlt
      generalize asg[k] = q at h1
      have h2 := List.getElem?_eq_getElem hlt2
      generalize times[k] = x at h2
      obtain ⟨b, o, rfl, _, c0⟩ := (hr.below hbw (by omega)).int h2
      obtain ⟨b2, o2, rfl, _, d0⟩ := (hr2.below hbw (by omega)).int h1
      have hq := Ha.out k q h1
      obtain ⟨j, rfl⟩ : ∃ j : Nat, q = j := ⟨q.toNat, by omega⟩
      have hxb := Ht.out k x h2
      have hjm : j < m := by omega
      have hLl := ldsUp_length times asg m k
      have hLj : (ldsUp times asg m k)[j]? = some ((ldsUp times asg m k)[j]'(by omega)) := List.getElem?_eq_getElem _
      have hcell := hown.cellAt j (by omega)
      rw [ints, List.getElem?_map, hLj] at hcell
      have hgd : (ldsUp times asg m k).getD j 0 = (ldsUp times asg m k)[j]'(by omega) := by rw [List.getD_eq_getElem?_getD, hLj]; rfl
      have hLb := ldsUp_bd Ht.out k j _ hLj
      generalize (ldsUp times asg m k)[j]'(by omega) = y at hLj hcell hgd hLb
      simp only [Option.map_some] at hcell
      have hstep := ldsUp_step (m := m) h1 h2
      rw [addAt, Int.toNat_natCast, hgd] at hstep
      have hfz := hown.frozenAt
      have hj0 : (0 : Int) ≤ (j : Int) := by omega
      have hj1 : (j : Int) < (m : Int) := by omega
      have hk1 : (k : Int) < (asg.length : Int) := by omega
      have hk2 : (k : Int) < (times.length : Int) := by omega
      have e1 : IntKind.i64.wrap (y + x) = y + x := IntWalk.i64_in _ (by omega)
      have Hs := Lib.hid hstep
      have Ho := Lib.hid hown
      have Hr := Lib.hid hr
      have Hr2 := Lib.hid hr2
      have Hll := Lib.hid hLl
      clear h1 h2 hstep hown hr hr2 hLj hgd hLl
      go_wp2_with fail
      go_region
      go_wp2
      go_roundw
      case rel =>
        have o1 := (World.ownsRow.stored (own_drew Ho.out) j (.int .i64 (y + x))).1
        rw [ints_set] at o1
        exact ⟨k + 1, by omega, by go_num, by repeat' (first | (with_reducible exact Below.refl _ _) | (with_reducible assumption) | (with_reducible refine Below.alloc ?_ ?_ _) | (with_reducible refine Below.drew ?_) | (with_reducible refine below_drewN ?_ _) | (with_reducible refine Below.setCell ?_ ?_ _) | (with_reducible refine Below.trans ?_ (Below.mono (by assumption) ?_)) | go_size | (exact Below.size (by assumption))), by first | omega | (simp; omega), by rw [Hs.out]; exact o1⟩
      case measure => simp [intOf]; omega
    · have hk' : k = asg.length := by omega
      subst hk'
      have Ho := Lib.hid hown
      clear hown
      go_wp2
      go_ret
      exact ⟨_, _, rfl, Ho.out, by repeat' (first | (with_reducible exact Below.refl _ _) | (with_reducible assumption) | (with_reducible refine Below.alloc ?_ ?_ _) | (with_reducible refine Below.drew ?_) | (with_reducible refine below_drewN ?_ _) | (with_reducible refine Below.setCell ?_ ?_ _) | (with_reducible refine Below.trans ?_ (Below.mono (by assumption) ?_)) | go_size | (exact Below.size (by assumption)))⟩
def crewC (l : List (Int × Int)) (crews : Int) : Int := if stopsB l then (if inB crews 1 3 then 0 else 2) else 1
theorem l30Code_any (l : List (Int × Int)) (crews : Int) (A : Option Addr) (B c : Nat) (w : World) (hr : Rd w B A (l.flatMap eEvacuationStop)) (hB : B ≤ w.heap.size) (hn : l.length ≤ 1048576) :
   Calls Try.prog 54 #[.slice A l.length c, .int .i64 crews] w fun e w' => e = .returned (.int .i64 (crewC l crews)) ∧ Below w.heap.size w w' := by
  go_enter Try.func54, Try.ntmps54
  go_wp2_with (first | (go_at_call 15; refine (stopsB_spec l A B c w hr hB hn).mono ?_; rintro e w1 ⟨rfl, hb⟩) | (go_at_call 45; refine (l01In_any _ _ _ _).mono ?_; rintro e w' ⟨rfl, rfl⟩))
  all_goals go_ret
  all_goals exact ⟨ret_int (by simp_all [crewC]), by repeat' (first | (with_reducible exact Below.refl _ _) | (with_reducible assumption) | (with_reducible refine Below.alloc ?_ ?_ _) | (with_reducible refine Below.drew ?_) | (with_reducible refine below_drewN ?_ _) | (with_reducible refine Below.setCell ?_ ?_ _) | (with_reducible refine Below.trans ?_ (Below.mono (by assumption) ?_)) | go_size | (exact Below.size (by assumption)))⟩
theorem crewCode_any (l : List (Int × Int)) (crews : Int) (A : Option Addr) (B c : Nat) (w : World) (hr : Rd w B A (l.flatMap eEvacuationStop)) (hB : B ≤ w.heap.size) (hn : l.length ≤ 1048576) :
   Calls Try.prog 56 #[.slice A l.length c, .int .i64 crews] w fun e w' => e = .returned (.int .i64 (crewC l crews)) ∧ Below w.heap.size w w' := by
  go_enter Try.func56, Try.ntmps56
  go_wp2_with (first | (go_at_call 17; refine (stopsB_impl l A B c w hr hB hn).mono ?_; rintro e w1 ⟨rfl, hb⟩) | (go_at_call 50; refine (within_any _ _ _ _).mono ?_; rintro e w' ⟨rfl, rfl⟩))
  all_goals go_ret
  all_goals exact ⟨ret_int (by simp_all [crewC]), by repeat' (first | (with_reducible exact Below.refl _ _) | (with_reducible assumption) | (with_reducible refine Below.alloc ?_ ?_ _) | (with_reducible refine Below.drew ?_) | (with_reducible refine below_drewN ?_ _) | (with_reducible refine Below.setCell ?_ ?_ _) | (with_reducible refine Below.trans ?_ (Below.mono (by assumption) ?_)) | go_size | (exact Below.size (by assumption)))⟩
theorem l30Code_r (l : List (Int × Int)) (crews r : Int) (h : crewC l crews = r) (A : Option Addr) (B c : Nat) (w : World) (hr : Rd w B A (l.flatMap eEvacuationStop)) (hB : B ≤ w.heap.size) (hn : l.length ≤ 1048576) :
   Calls Try.prog 54 #[.slice A l.length c, .int .i64 crews] w fun e w' => e = .returned (.int .i64 r) ∧ Below w.heap.size w w' := h ▸ l30Code_any l crews A B c w hr hB hn
theorem crewCode_r (l : List (Int × Int)) (crews r : Int) (h : crewC l crews = r) (A : Option Addr) (B c : Nat) (w : World) (hr : Rd w B A (l.flatMap eEvacuationStop)) (hB : B ≤ w.heap.size) (hn : l.length ≤ 1048576) :
   Calls Try.prog 56 #[.slice A l.length c, .int .i64 crews] w fun e w' => e = .returned (.int .i64 r) ∧ Below w.heap.size w w' := h ▸ crewCode_any l crews A B c w hr hB hn
theorem crew1_any (x cr : Int) (hcr : -1000 ≤ cr) (hcr2 : cr ≤ 1000) (cb : Nat) (w : World) (hc : w.cell? ⟨cb, 0, none⟩ = some (.int .i64 cr)) : Calls Try.prog 58 #[.int .i64 x, .pointer (some ⟨cb, 0, none⟩)] w fun e w' => e = .returned (.bool (!inB x 0 (cr - 1))) ∧ Below w.heap.size w w' := by
  go_enter Try.func58, Try.ntmps58
  go_wp2_with (go_at_call 50; refine (within_any _ _ _ _).mono ?_; rintro e w' ⟨rfl, rfl⟩)
  go_ret
  exact ⟨rfl, Below.refl _ _⟩
end Go.Proofs.Ytmeppemobogicaa
