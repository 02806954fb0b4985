/- The tasks that are due: walks of the program and of the reference. -/
import Derived.Test.YtmbchcenclfjoaaNd
import Derived.Test.YtmbchcenclfjoaaI
namespace Go.Proofs.Ytmbchcenclfjoaa
open Go.ChangeShapes Go.WideShapes Go.ChangeAt Go.RowKit
set_option maxRecDepth 20000
set_option linter.unusedVariables false
set_option linter.unusedSimpArgs false
def dueB (l : List (Int × Int)) (day : Int) (i : Nat) : Bool := match l[i]? with | some t => decide (dueT t ≤ day) | none => false
def dueIdx (l : List (Int × Int)) (day : Int) (k : Nat) : List Int := ((List.range k).filter (dueB l day)).map fun i : Nat => (i : Int)
theorem dueIdx_len (l : List (Int × Int)) (day : Int) (k : Nat) : (dueIdx l day k).length ≤ k := by
  unfold dueIdx
  rw [List.length_map]
  exact Nat.le_trans (List.length_filter_le _ _) (by simp)
theorem dueIdx_step {l : List (Int × Int)} {day : Int} {k : Nat} {t : Int × Int} (h : l[k]? = some t) : dueIdx l day (k + 1) = dueIdx l day k ++ (if t.2 + t.1 ≤ day then [(k : Int)] else []) := by
  unfold dueIdx
  rw [List.range_succ, List.filter_append, List.map_append]
  congr 1
  by_cases hd : t.2 + t.1 ≤ day <;> simp [List.filter_cons, dueB, h, dueT, hd]
theorem l29Due_any (l : List (Int × Int)) (day : Int) (hp : planB l = true) (A : Option Addr) (B c : Nat) (w : World) (hr : Rd w B A (l.flatMap eTask)) (hB : B ≤ w.heap.size) :
   Calls Try.prog 72 #[.slice A l.length c, .int .i64 day] w fun e w' => ∃ A' c', e = .returned (.slice A' (dueIdx l day l.length).length c') ∧ w'.ownsRow w.heap.size 2 1 (.slice A' (dueIdx l day l.length).length c') (dueIdx l day l.length).length (ints (dueIdx l day l.length)) ∧ Below w.heap.size w w' := by
  obtain ⟨i0, hi0, hz0, hz1, hz2⟩ := info_parts infoInt64
  have hat := fun k t => @plan_at l hp k t
  have hn12 := plan_len hp
  have Hat := Lib.hid hat
  clear hat hp
  go_enter Try.func72, Try.ntmps72
  go_wp2_with fail
  go_loopw [5, 6] (fun v i wr => ∃ k : Nat, k ≤ l.length ∧ i = .int .i64 k ∧ wr.ownsRow w.heap.size 2 1 v (dueIdx l day k).length (ints (dueIdx l day k)) ∧ Below w.heap.size w wr) (fun _ i _ => l.length - (intOf i).toNat)
  case atStart =>
    exact ⟨0, Nat.zero_le _, rfl, World.ownsRow_made w #[] 0 (Nat.le_refl _) (by simp [maxLen]) rfl, by repeat' (first | (with_reducible exact Below.refl _ _) | (with_reducible assumption) | (with_reducible refine Below.alloc ?_ ?_ _) | (with_reducible refine Below.drew ?_) | (with_reducible refine below_drewN ?_ _) | (with_reducible refine Below.setCell ?_ ?_ _) | (with_reducible refine Below.trans ?_ (Below.mono (by assumption) ?_)) | go_size | (exact Below.size (by assumption)))⟩
  case round =>
    obtain ⟨k, hk, rfl, hown, hbw⟩ := hrel
    have hsz := hbw.size
    by_cases hlt : k < l.length
    · have ht := List.getElem?_eq_getElem hlt
      generalize l[k] = t at ht
      obtain ⟨b, o, rfl, _, c0, c1⟩ := (hr.below hbw hB).atTask ht
      have hBt := Hat.out k t ht
      have hstep := dueIdx_step (day := day) ht
      have hlen := dueIdx_len l day k
      have Hs := Lib.hid hstep
      have Ht := Lib.hid ht
      have Ho := Lib.hid hown
      have Hr := Lib.hid hr
      clear ht hstep hown hr
      by_cases hd : t.2 + t.1 ≤ day
      · go_wp2_with fail
        go_quiet (fail)
        go_wp2_with (at_builtin; refine wpList_append_int rfl (.tmp 27) (.tmp 29) 42 rfl w.heap.size 2 i0 Try.underlying42 hi0 hz0 hz1 hz2 _ _ (dueIdx l day k) rfl (own_drewN Ho.out _) (k : Int) rfl (by omega) (by first | omega | (simp; omega)) ?_; intro v1 w1 own1 hb1 hz3; have O1 := Lib.hid own1; clear own1)
        go_roundw
        case rel =>
          have hs := Hs.out
          rw [if_pos hd] at hs
          exact ⟨k + 1, by omega, by go_num, by rw [hs, List.length_append]; exact O1.out, by repeat' (first | (with_reducible exact Below.refl _ _) | (with_reducible assumption) | (with_reducible refine Below.alloc ?_ ?_ _) | (with_reducible refine Below.drew ?_) | (with_reducible refine below_drewN ?_ _) | (with_reducible refine Below.setCell ?_ ?_ _) | (with_reducible refine Below.trans ?_ (Below.mono (by assumption) ?_)) | go_size | (exact Below.size (by assumption)))⟩
        case measure => simp [intOf]; omega
      · go_wp2_with fail
        go_quiet (fail)
        go_wp2
        go_roundw
        case rel =>
          have hs := Hs.out
          rw [if_neg (by omega), List.append_nil] at hs
          exact ⟨k + 1, by omega, by go_num, by rw [hs]; exact Ho.out, by repeat' (first | (with_reducible exact Below.refl _ _) | (with_reducible assumption) | (with_reducible refine Below.alloc ?_ ?_ _) | (with_reducible refine Below.drew ?_) | (with_reducible refine below_drewN ?_ _) | (with_reducible refine Below.setCell ?_ ?_ _) | (with_reducible refine Below.trans ?_ (Below.mono (by assumption) ?_)) | go_size | (exact Below.size (by assumption)))⟩
        case measure => simp [intOf]; omega
    · have hk' : k = l.length := by omega
      subst hk'
      obtain ⟨A', c', rfl⟩ := own_val hown
      have Ho := Lib.hid hown
      clear hown
      go_wp2
      go_ret
      exact ⟨_, _, rfl, Ho.out, hbw⟩
theorem dueTasks_any (l : List (Int × Int)) (day : Int) (hp : planB l = true) (A : Option Addr) (B c : Nat) (w : World) (hr : Rd w B A (l.flatMap eTask)) (hB : B ≤ w.heap.size) :
   Calls Try.prog 73 #[.slice A l.length c, .int .i64 day] w fun e w' => ∃ A' c', e = .returned (.slice A' (dueIdx l day l.length).length c') ∧ w'.ownsRow w.heap.size 2 1 (.slice A' (dueIdx l day l.length).length c') (dueIdx l day l.length).length (ints (dueIdx l day l.length)) ∧ Below w.heap.size w w' := by
  obtain ⟨i0, hi0, hz0, hz1, hz2⟩ := info_parts infoInt64
  have hat := fun k t => @plan_at l hp k t
  have hn12 := plan_len hp
  have Hat := Lib.hid hat
  clear hat hp
  go_enter Try.func73, Try.ntmps73
  go_wp2_with fail
  go_loopw [5, 10] (fun v i wr => ∃ k : Nat, k ≤ l.length ∧ i = .int .i64 k ∧ wr.ownsRow w.heap.size 2 1 v (dueIdx l day k).length (ints (dueIdx l day k)) ∧ Below w.heap.size w wr) (fun _ i _ => l.length - (intOf i).toNat)
  case atStart =>
    exact ⟨0, Nat.zero_le _, rfl, World.ownsRow_nil _ _ _ _, by repeat' (first | (with_reducible exact Below.refl _ _) | (with_reducible assumption) | (with_reducible refine Below.alloc ?_ ?_ _) | (with_reducible refine Below.drew ?_) | (with_reducible refine below_drewN ?_ _) | (with_reducible refine Below.setCell ?_ ?_ _) | (with_reducible refine Below.trans ?_ (Below.mono (by assumption) ?_)) | go_size | (exact Below.size (by assumption)))⟩
  case round =>
    obtain ⟨k, hk, rfl, hown, hbw⟩ := hrel
    have hsz := hbw.size
    by_cases hlt : k < l.length
    · have ht := List.getElem?_eq_getElem hlt
      generalize l[k] = t at ht
      obtain ⟨b, o, rfl, _, c0, c1⟩ := (hr.below hbw hB).atTask ht
      have hBt := Hat.out k t ht
      have hstep := dueIdx_step (day := day) ht
      have hlen := dueIdx_len l day k
      have Hs := Lib.hid hstep
      have Ht := Lib.hid ht
      have Ho := Lib.hid hown
      have Hr := Lib.hid hr
      clear ht hstep hown hr
      by_cases hd : t.2 + t.1 ≤ day
      · go_wp2_with fail
        refine (due_any _ _ (by omega) (by omega) (by omega) (by omega) _).mono ?_; rintro e w2 ⟨rfl, hb2⟩
        have hz4 := hb2.size
        simp only [World.size_alloc] at hz4
        have o2 := Lib.hid (own_below (Ho.out.alloc _) hb2)
        have hbw2 : Below w.heap.size w w2 := by repeat' (first | (with_reducible exact Below.refl _ _) | (with_reducible assumption) | (with_reducible refine Below.alloc ?_ ?_ _) | (with_reducible refine Below.drew ?_) | (with_reducible refine below_drewN ?_ _) | (with_reducible refine Below.setCell ?_ ?_ _) | (with_reducible refine Below.trans ?_ (Below.mono (by assumption) ?_)) | go_size | (exact Below.size (by assumption)))
        go_wp2_with (at_builtin; refine wpList_append_int rfl (.tmp 19) (.tmp 21) 42 rfl w.heap.size 2 i0 Try.underlying42 hi0 hz0 hz1 hz2 _ _ (dueIdx l day k) rfl o2.out (k : Int) rfl (by omega) (by omega) ?_; intro v1 w3 own1 hb1 hz3; have O1 := Lib.hid own1; clear own1)
        go_roundw
        case rel =>
          have hs := Hs.out
          rw [if_pos hd] at hs
          exact ⟨k + 1, by omega, by go_num, by rw [hs, List.length_append]; exact O1.out, hbw2.trans hb1⟩
        case measure => simp [intOf]; omega
      · go_wp2_with fail
        refine (due_any _ _ (by omega) (by omega) (by omega) (by omega) _).mono ?_; rintro e w2 ⟨rfl, hb2⟩
        have o2 := Lib.hid (own_below (Ho.out.alloc _) hb2)
        go_wp2
        go_roundw
        case rel =>
          have hs := Hs.out
          rw [if_neg (by omega), List.append_nil] at hs
          exact ⟨k + 1, by omega, by go_num, by rw [hs]; exact o2.out, by repeat' (first | (with_reducible exact Below.refl _ _) | (with_reducible assumption) | (with_reducible refine Below.alloc ?_ ?_ _) | (with_reducible refine Below.drew ?_) | (with_reducible refine below_drewN ?_ _) | (with_reducible refine Below.setCell ?_ ?_ _) | (with_reducible refine Below.trans ?_ (Below.mono (by assumption) ?_)) | go_size | (exact Below.size (by assumption)))⟩
        case measure => simp [intOf]; omega
    · have hk' : k = l.length := by omega
      subst hk'
      obtain ⟨A', c', rfl⟩ := own_val hown
      have Ho := Lib.hid hown
      clear hown
      go_wp2
      go_ret
      exact ⟨_, _, rfl, Ho.out, hbw⟩
def planCode (l : List (Int × Int)) (day : Int) : Int := if planB l then (if inB day 0 100000 then 0 else 2) else 1
theorem l29Code_any (l : List (Int × Int)) (day : Int) (A : Option Addr) (B c : Nat) (w : World) (hr : Rd w B A (l.flatMap eTask)) (hB : B ≤ w.heap.size) (hn : l.length ≤ 1048576) :
   Calls Try.prog 69 #[.slice A l.length c, .int .i64 day] w fun e w' => e = .returned (.int .i64 (planCode l day)) ∧ Below w.heap.size w w' := by
  go_enter Try.func69, Try.ntmps69
  go_wp2_with (first | (go_at_call 16; refine (isPlan_spec l A B c w hr hB hn).mono ?_; rintro e w1 ⟨rfl, hb⟩) | (go_at_call 55; refine (l01In_any _ _ _ _).mono ?_; rintro e w' ⟨rfl, rfl⟩))
  all_goals go_ret
  all_goals exact ⟨ret_int (by simp_all [planCode]), by repeat' (first | (with_reducible exact Below.refl _ _) | (with_reducible assumption) | (with_reducible refine Below.alloc ?_ ?_ _) | (with_reducible refine Below.drew ?_) | (with_reducible refine below_drewN ?_ _) | (with_reducible refine Below.setCell ?_ ?_ _) | (with_reducible refine Below.trans ?_ (Below.mono (by assumption) ?_)) | go_size | (exact Below.size (by assumption)))⟩
/-- what DueTasks returns -/
def dueR (l : List (Int × Int)) (day : Int) : List Int := if planCode l day = 0 then dueIdx l day l.length else []
theorem planCode_zero {l : List (Int × Int)} {day : Int} (h : planCode l day = 0) : planB l = true := by
  unfold planCode at h
  split at h
  · assumption
  · simp at h
theorem dueR_len (l : List (Int × Int)) (day : Int) (hn : l.length ≤ 1048576) : (dueR l day).length ≤ 1048576 := by
  unfold dueR
  split
  · exact Nat.le_trans (dueIdx_len _ _ _) hn
  · simp
theorem dueTasks_spec (l : List (Int × Int)) (day : Int) (A : Option Addr) (B c : Nat) (w : World) (hr : Rd w B A (l.flatMap eTask)) (hB : B ≤ w.heap.size) (hn : l.length ≤ 1048576) :
   Calls Try.prog 31 #[.slice A l.length c, .int .i64 day] w fun e w' => ∃ A' c', e = .returned (.tuple #[.slice A' (dueR l day).length c', .int .i64 (planCode l day)]) ∧ w'.ownsRow w.heap.size 2 1 (.slice A' (dueR l day).length c') (dueR l day).length (ints (dueR l day)) ∧ Below w.heap.size w w' := by
  by_cases hc : planCode l day = 0
  · have hp := planCode_zero hc
    rw [show dueR l day = dueIdx l day l.length by simp [dueR, hc]]
    rw [hc]
    go_enter Try.func31, Try.ntmps31
    go_wp2_with fail
    refine (hc ▸ l29Code_any l day A B c w hr hB hn).mono ?_; rintro e w1 ⟨rfl, hb⟩
    have hr1 := hr.below hb hB
    have hz := hb.size
    have Hc := Lib.hid hc
    clear hc
    go_wp2_with fail
    refine (l29Due_any l day hp A B c w1 hr1 (by omega)).mono ?_; rintro e w2 ⟨A', c', rfl, o2, hb2⟩
    have O2 := Lib.hid o2
    clear o2 hr hr1
    go_wp2
    go_ret2
    exact ⟨A', c', rfl, own_more O2.out hz, by repeat' (first | (with_reducible exact Below.refl _ _) | (with_reducible assumption) | (with_reducible refine Below.alloc ?_ ?_ _) | (with_reducible refine Below.drew ?_) | (with_reducible refine below_drewN ?_ _) | (with_reducible refine Below.setCell ?_ ?_ _) | (with_reducible refine Below.trans ?_ (Below.mono (by assumption) ?_)) | go_size | (exact Below.size (by assumption)))⟩
  · rw [show dueR l day = [] by simp [dueR, hc]]
    have hb0 : (planCode l day == 0) = false := by simpa using hc
    have hb1 : (planCode l day != 0) = true := by simpa using hc
    have Hc := Lib.hid hc
    clear hc
    go_enter Try.func31, Try.ntmps31
    go_wp2_with (first | (go_at_call 69; refine (l29Code_any l day A B c w hr hB hn).mono ?_; rintro e w1 ⟨rfl, hb⟩))
    go_ret2
    exact ⟨none, 0, rfl, World.ownsRow_nil _ _ _ _, by repeat' (first | (with_reducible exact Below.refl _ _) | (with_reducible assumption) | (with_reducible refine Below.alloc ?_ ?_ _) | (with_reducible refine Below.drew ?_) | (with_reducible refine below_drewN ?_ _) | (with_reducible refine Below.setCell ?_ ?_ _) | (with_reducible refine Below.trans ?_ (Below.mono (by assumption) ?_)) | go_size | (exact Below.size (by assumption)))⟩
theorem dueTasks_impl (l : List (Int × Int)) (day : Int) (A : Option Addr) (B c : Nat) (w : World) (hr : Rd w B A (l.flatMap eTask)) (hB : B ≤ w.heap.size) (hn : l.length ≤ 1048576) :
   Calls Try.prog 32 #[.slice A l.length c, .int .i64 day] w fun e w' => ∃ A' c', e = .returned (.tuple #[.slice A' (dueR l day).length c', .int .i64 (planCode l day)]) ∧ w'.ownsRow w.heap.size 2 1 (.slice A' (dueR l day).length c') (dueR l day).length (ints (dueR l day)) ∧ Below w.heap.size w w' := by
  cases hp : planB l with
  | false =>
    rw [show dueR l day = [] by simp [dueR, planCode, hp], show planCode l day = 1 by simp [planCode, hp]]
    have Hp := Lib.hid hp
    clear hp
    go_enter Try.func32, Try.ntmps32
    go_wp2_with (first | (go_at_call 18; refine (isPlan_impl_r l A B c false Hp.out w hr hB hn).mono ?_; rintro e w1 ⟨rfl, hb⟩))
    go_ret2
    exact ⟨none, 0, rfl, World.ownsRow_nil _ _ _ _, by repeat' (first | (with_reducible exact Below.refl _ _) | (with_reducible assumption) | (with_reducible refine Below.alloc ?_ ?_ _) | (with_reducible refine Below.drew ?_) | (with_reducible refine below_drewN ?_ _) | (with_reducible refine Below.setCell ?_ ?_ _) | (with_reducible refine Below.trans ?_ (Below.mono (by assumption) ?_)) | go_size | (exact Below.size (by assumption)))⟩
  | true =>
    cases hd : inB day 0 100000 with
    | false =>
      rw [show dueR l day = [] by simp [dueR, planCode, hp, hd], show planCode l day = 2 by simp [planCode, hp, hd]]
      have Hp := Lib.hid hp
      clear hp
      go_enter Try.func32, Try.ntmps32
      go_wp2_with (first | (go_at_call 18; refine (isPlan_impl_r l A B c true Hp.out w hr hB hn).mono ?_; rintro e w1 ⟨rfl, hb⟩) | (go_at_call 60; refine (isDay_any _ _).mono ?_; rintro e w' ⟨rfl, rfl⟩))
      go_ret2
      exact ⟨none, 0, rfl, World.ownsRow_nil _ _ _ _, by repeat' (first | (with_reducible exact Below.refl _ _) | (with_reducible assumption) | (with_reducible refine Below.alloc ?_ ?_ _) | (with_reducible refine Below.drew ?_) | (with_reducible refine below_drewN ?_ _) | (with_reducible refine Below.setCell ?_ ?_ _) | (with_reducible refine Below.trans ?_ (Below.mono (by assumption) ?_)) | go_size | (exact Below.size (by assumption)))⟩
    | true =>
      rw [show dueR l day = dueIdx l day l.length by simp [dueR, planCode, hp, hd], show planCode l day = 0 by simp [planCode, hp, hd]]
      go_enter Try.func32, Try.ntmps32
      go_wp2_with fail
      refine (isPlan_impl_r l A B c true hp w hr hB hn).mono ?_; rintro e w1 ⟨rfl, hb⟩
      have hr1 := hr.below hb hB
      have hz := hb.size
      have Hp := Lib.hid hp
      clear hp
      go_wp2_with (first | (go_at_call 60; refine (isDay_any _ _).mono ?_; rintro e w' ⟨rfl, rfl⟩))
      refine (dueTasks_any l day Hp.out A B c w1 hr1 (by omega)).mono ?_; rintro e w2 ⟨A', c', rfl, o2, hb2⟩
      have O2 := Lib.hid o2
      clear o2 hr hr1
      go_wp2
      go_ret2
      exact ⟨A', c', rfl, own_more O2.out hz, by repeat' (first | (with_reducible exact Below.refl _ _) | (with_reducible assumption) | (with_reducible refine Below.alloc ?_ ?_ _) | (with_reducible refine Below.drew ?_) | (with_reducible refine below_drewN ?_ _) | (with_reducible refine Below.setCell ?_ ?_ _) | (with_reducible refine Below.trans ?_ (Below.mono (by assumption) ?_)) | go_size | (exact Below.size (by assumption)))⟩
end Go.Proofs.Ytmbchcenclfjoaa
