/- MayOperate and AddLock of the program and of the reference: walks. -/
import Derived.Test.YtmbchcenclfjoaaPf
import Derived.Test.YtmbchcenclfjoaaLk2
namespace Go.Proofs.Ytmbchcenclfjoaa
open Go.ChangeShapes Go.WideShapes Go.ChangeAt Go.RowKit
set_option maxRecDepth 20000
set_option linter.unusedVariables false
set_option linter.unusedSimpArgs false
def mayB (p : List (Int × Int)) (l : List (Int × Int)) (day : Int) : Bool := planB p && locksB l && inB day 0 100000 && (dueIdx p day p.length).isEmpty && l.isEmpty
theorem locks_spec_r (l : List (Int × Int)) (A : Option Addr) (B c : Nat) (r : Bool) (h : locksB l = r) (w : World) (hr : Rd w B A (l.flatMap eLock)) (hB : B ≤ w.heap.size) (hn : l.length ≤ 1048576) :
   Calls Try.prog 21 #[.slice A l.length c] w fun e w' => e = .returned (.bool r) ∧ Below w.heap.size w w' := h ▸ areLocks_spec l A B c w hr hB hn
theorem locks_impl_r (l : List (Int × Int)) (A : Option Addr) (B c : Nat) (r : Bool) (h : locksB l = r) (w : World) (hr : Rd w B A (l.flatMap eLock)) (hB : B ≤ w.heap.size) (hlc : l.length ≤ c) (hn : l.length ≤ 1048576) :
   Calls Try.prog 23 #[.slice A l.length c] w fun e w' => e = .returned (.bool r) ∧ Below w.heap.size w w' := h ▸ areLocks_impl l A B c w hr hB hlc hn
theorem len_zero {τ : Type} (l : List τ) : ((l.length : Int) == 0) = l.isEmpty := by cases l with
  | nil => rfl
  | cons a l => simp; omega
theorem may_spec (p l : List (Int × Int)) (day : Int) (A A' : Option Addr) (B c c' : Nat) (w : World) (hr : Rd w B A (p.flatMap eTask)) (hr2 : Rd w B A' (l.flatMap eLock)) (hB : B ≤ w.heap.size) (hn : p.length ≤ 1048576) (hn2 : l.length ≤ 1048576) :
   Calls Try.prog 42 #[.slice A p.length c, .slice A' l.length c', .int .i64 day] w fun e w' => e = .returned (.bool (mayB p l day)) ∧ Below w.heap.size w w' := by
  by_cases hc : planCode p day = 0
  · have hp := planCode_zero hc
    have hd : inB day 0 100000 = true := by
      unfold planCode at hc
      rw [if_pos hp] at hc
      split at hc
      · assumption
      · simp at hc
    cases hl : locksB l with
    | false =>
      rw [show mayB p l day = false by simp [mayB, hl]]
      have Hl := Lib.hid hl
      have Hc := Lib.hid hc
      clear hl hc hp hd
      go_enter Try.func42, Try.ntmps42
      go_wp2_with fail
      refine (planCode_r p day A B c 0 Hc.out w hr hB hn).mono ?_; rintro e w1 ⟨rfl, b1⟩
      have z1 := b1.size
      go_wp2_with (go_at_call 21; refine (locks_spec_r l A' B c' false Hl.out w1 (hr2.below b1 hB) (by omega) hn2).mono ?_; rintro e w2 ⟨rfl, b2⟩)
      go_ret
      exact ⟨rfl, by repeat' (first | (with_reducible exact Below.refl _ _) | (with_reducible assumption) | (with_reducible refine Below.alloc ?_ ?_ _) | (with_reducible refine Below.drew ?_) | (with_reducible refine below_drewN ?_ _) | (with_reducible refine Below.setCell ?_ ?_ _) | (with_reducible refine Below.trans ?_ (Below.mono (by assumption) ?_)) | go_size | (exact Below.size (by assumption)))⟩
    | true =>
      cases he : l.isEmpty with
      | false =>
        rw [show mayB p l day = false by simp [mayB, he]]
        have hlen : ((l.length : Int) == 0) = false := by rw [len_zero, he]
        have Hl := Lib.hid hl
        have Hc := Lib.hid hc
        clear hl hc hp hd he
        go_enter Try.func42, Try.ntmps42
        go_wp2_with fail
        refine (planCode_r p day A B c 0 Hc.out w hr hB hn).mono ?_; rintro e w1 ⟨rfl, b1⟩
        have z1 := b1.size
        go_wp2_with (go_at_call 21; refine (locks_spec_r l A' B c' true Hl.out w1 (hr2.below b1 hB) (by omega) hn2).mono ?_; rintro e w2 ⟨rfl, b2⟩)
        go_ret
        exact ⟨rfl, by repeat' (first | (with_reducible exact Below.refl _ _) | (with_reducible assumption) | (with_reducible refine Below.alloc ?_ ?_ _) | (with_reducible refine Below.drew ?_) | (with_reducible refine below_drewN ?_ _) | (with_reducible refine Below.setCell ?_ ?_ _) | (with_reducible refine Below.trans ?_ (Below.mono (by assumption) ?_)) | go_size | (exact Below.size (by assumption)))⟩
      | true =>
        rw [show mayB p l day = (dueIdx p day p.length).isEmpty by simp [mayB, hp, hl, hd, he]]
        have hlen : ((l.length : Int) == 0) = true := by rw [len_zero, he]
        have Hl := Lib.hid hl
        have Hc := Lib.hid hc
        have Hp := Lib.hid hp
        clear hl hc hp hd he
        go_enter Try.func42, Try.ntmps42
        go_wp2_with fail
        refine (planCode_r p day A B c 0 Hc.out w hr hB hn).mono ?_; rintro e w1 ⟨rfl, b1⟩
        have z1 := b1.size
        go_wp2_with fail
        refine (locks_spec_r l A' B c' true Hl.out w1 (hr2.below b1 hB) (by omega) hn2).mono ?_; rintro e w2 ⟨rfl, b2⟩
        have z2 := b2.size
        go_wp2_with fail
        refine (l29Due_any p day Hp.out A B c w2 ((hr.below b1 hB).below b2 (by omega)) (by omega)).mono ?_; rintro e w3 ⟨A3, c3, rfl, o3, b3⟩
        clear o3
        go_wp2
        go_ret
        exact ⟨ret_bool (len_zero _), by repeat' (first | (with_reducible exact Below.refl _ _) | (with_reducible assumption) | (with_reducible refine Below.alloc ?_ ?_ _) | (with_reducible refine Below.drew ?_) | (with_reducible refine below_drewN ?_ _) | (with_reducible refine Below.setCell ?_ ?_ _) | (with_reducible refine Below.trans ?_ (Below.mono (by assumption) ?_)) | go_size | (exact Below.size (by assumption)))⟩
  · have hb0 : (planCode p day == 0) = false := by simpa using hc
    rw [show mayB p l day = false by
      cases hp : planB p with
      | false => simp [mayB, hp]
      | true =>
        cases hd : inB day 0 100000 with
        | false => simp [mayB, hd]
        | true => exact absurd (by simp [planCode, hp, hd]) hc]
    have Hc := Lib.hid hc
    clear hc
    go_enter Try.func42, Try.ntmps42
    go_wp2_with (go_at_call 69; refine (l29Code_any p day A B c w hr hB hn).mono ?_; rintro e w1 ⟨rfl, b1⟩)
    go_ret
    exact ⟨rfl, by repeat' (first | (with_reducible exact Below.refl _ _) | (with_reducible assumption) | (with_reducible refine Below.alloc ?_ ?_ _) | (with_reducible refine Below.drew ?_) | (with_reducible refine below_drewN ?_ _) | (with_reducible refine Below.setCell ?_ ?_ _) | (with_reducible refine Below.trans ?_ (Below.mono (by assumption) ?_)) | go_size | (exact Below.size (by assumption)))⟩
theorem may_impl (p l : List (Int × Int)) (day : Int) (A A' : Option Addr) (B c c' : Nat) (w : World) (hr : Rd w B A (p.flatMap eTask)) (hr2 : Rd w B A' (l.flatMap eLock)) (hB : B ≤ w.heap.size) (hn : p.length ≤ 1048576) (hlc : l.length ≤ c') (hn2 : l.length ≤ 1048576) :
   Calls Try.prog 43 #[.slice A p.length c, .slice A' l.length c', .int .i64 day] w fun e w' => e = .returned (.bool (mayB p l day)) ∧ Below w.heap.size w w' := by
  cases hp : planB p with
  | false =>
    rw [show mayB p l day = false by simp [mayB, hp]]
    have Hp := Lib.hid hp
    clear hp
    go_enter Try.func43, Try.ntmps43
    go_wp2_with (go_at_call 18; refine (isPlan_impl_r p A B c false Hp.out w hr hB hn).mono ?_; rintro e w1 ⟨rfl, b1⟩)
    go_ret
    exact ⟨rfl, by repeat' (first | (with_reducible exact Below.refl _ _) | (with_reducible assumption) | (with_reducible refine Below.alloc ?_ ?_ _) | (with_reducible refine Below.drew ?_) | (with_reducible refine below_drewN ?_ _) | (with_reducible refine Below.setCell ?_ ?_ _) | (with_reducible refine Below.trans ?_ (Below.mono (by assumption) ?_)) | go_size | (exact Below.size (by assumption)))⟩
  | true =>
    cases hl : locksB l with
    | false =>
      rw [show mayB p l day = false by simp [mayB, hl]]
      have Hp := Lib.hid hp
      have Hl := Lib.hid hl
      clear hp hl
      go_enter Try.func43, Try.ntmps43
      go_wp2_with fail
      refine (isPlan_impl_r p A B c true Hp.out w hr hB hn).mono ?_; rintro e w1 ⟨rfl, b1⟩
      have z1 := b1.size
      go_wp2_with (go_at_call 23; refine (locks_impl_r l A' B c' false Hl.out w1 (hr2.below b1 hB) (by omega) hlc hn2).mono ?_; rintro e w2 ⟨rfl, b2⟩)
      go_ret
      exact ⟨rfl, by repeat' (first | (with_reducible exact Below.refl _ _) | (with_reducible assumption) | (with_reducible refine Below.alloc ?_ ?_ _) | (with_reducible refine Below.drew ?_) | (with_reducible refine below_drewN ?_ _) | (with_reducible refine Below.setCell ?_ ?_ _) | (with_reducible refine Below.trans ?_ (Below.mono (by assumption) ?_)) | go_size | (exact Below.size (by assumption)))⟩
    | true =>
      cases hd : inB day 0 100000 with
      | false =>
        rw [show mayB p l day = false by simp [mayB, hd]]
        have Hp := Lib.hid hp
        have Hl := Lib.hid hl
        have Hd := Lib.hid hd
        clear hp hl hd
        go_enter Try.func43, Try.ntmps43
        go_wp2_with fail
        refine (isPlan_impl_r p A B c true Hp.out w hr hB hn).mono ?_; rintro e w1 ⟨rfl, b1⟩
        have z1 := b1.size
        go_wp2_with (first | (go_at_call 23; refine (locks_impl_r l A' B c' true Hl.out w1 (hr2.below b1 hB) (by omega) hlc hn2).mono ?_; rintro e w2 ⟨rfl, b2⟩) | (go_at_call 60; refine (isDay_r _ false Hd.out _).mono ?_; rintro e w' ⟨rfl, rfl⟩))
        go_ret
        exact ⟨rfl, by repeat' (first | (with_reducible exact Below.refl _ _) | (with_reducible assumption) | (with_reducible refine Below.alloc ?_ ?_ _) | (with_reducible refine Below.drew ?_) | (with_reducible refine below_drewN ?_ _) | (with_reducible refine Below.setCell ?_ ?_ _) | (with_reducible refine Below.trans ?_ (Below.mono (by assumption) ?_)) | go_size | (exact Below.size (by assumption)))⟩
      | true =>
        rw [show mayB p l day = ((dueIdx p day p.length).isEmpty && l.isEmpty) by simp [mayB, hp, hl, hd]]
        rw [← len_zero l, ← len_zero (dueIdx p day p.length)]
        have Hp := Lib.hid hp
        have Hl := Lib.hid hl
        have Hd := Lib.hid hd
        clear hp hl hd
        go_enter Try.func43, Try.ntmps43
        go_wp2_with fail
        refine (isPlan_impl_r p A B c true Hp.out w hr hB hn).mono ?_; rintro e w1 ⟨rfl, b1⟩
        have z1 := b1.size
        go_wp2_with fail
        refine (locks_impl_r l A' B c' true Hl.out w1 (hr2.below b1 hB) (by omega) hlc hn2).mono ?_; rintro e w2 ⟨rfl, b2⟩
        have z2 := b2.size
        go_wp2_with (go_at_call 60; refine (isDay_r _ true Hd.out _).mono ?_; rintro e w' ⟨rfl, rfl⟩)
        refine (dueTasks_any p day Hp.out A B c w2 ((hr.below b1 hB).below b2 (by omega)) (by omega)).mono ?_; rintro e w3 ⟨A3, c3, rfl, o3, b3⟩
        clear o3
        go_wp2
        all_goals go_ret
        all_goals exact ⟨ret_bool (by simp_all), by repeat' (first | (with_reducible exact Below.refl _ _) | (with_reducible assumption) | (with_reducible refine Below.alloc ?_ ?_ _) | (with_reducible refine Below.drew ?_) | (with_reducible refine below_drewN ?_ _) | (with_reducible refine Below.setCell ?_ ?_ _) | (with_reducible refine Below.trans ?_ (Below.mono (by assumption) ?_)) | go_size | (exact Below.size (by assumption)))⟩
end Go.Proofs.Ytmbchcenclfjoaa
