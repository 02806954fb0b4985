/- NextDueDay of the program and of the reference: walks. -/
import Derived.Test.YtmbchcenclfjoaaA
import Derived.Test.YtmbchcenclfjoaaC
import Derived.Deep.RegionWith
import Derived.WalkLawsBesides
namespace Go.Proofs.Ytmbchcenclfjoaa
open Go.ChangeShapes Go.WideShapes Go.ChangeAt Go.RowKit
set_option linter.unusedVariables false
set_option linter.unusedSimpArgs false
theorem isPlan_spec_r (l : List (Int × Int)) (A : Option Addr) (B c : Nat) (r : Bool) (h : planB l = r) (w : World) (hr : Rd w B A (l.flatMap eTask)) (hB : B ≤ w.heap.size) (hn : l.length ≤ 1048576) :
   Calls Try.prog 16 #[.slice A l.length c] w fun e w' => e = .returned (.bool r) ∧ Below w.heap.size w w' := h ▸ isPlan_spec l A B c w hr hB hn
theorem isPlan_impl_r (l : List (Int × Int)) (A : Option Addr) (B c : Nat) (r : Bool) (h : planB l = r) (w : World) (hr : Rd w B A (l.flatMap eTask)) (hB : B ≤ w.heap.size) (hn : l.length ≤ 1048576) :
   Calls Try.prog 18 #[.slice A l.length c] w fun e w' => e = .returned (.bool r) ∧ Below w.heap.size w w' := h ▸ isPlan_impl l A B c w hr hB hn
theorem plan_at {l : List (Int × Int)} (h : planB l = true) {k : Nat} {t : Int × Int} (hk : l[k]? = some t) : 1 ≤ t.1 ∧ t.1 ≤ 366 ∧ 0 ≤ t.2 ∧ t.2 ≤ 100000 := by
  simp only [planB, Bool.and_eq_true, List.all_eq_true] at h
  have := h.1 t (List.mem_of_getElem? hk)
  simp only [taskB, inB, Bool.and_eq_true, decide_eq_true_eq] at this
  omega
theorem plan_len {l : List (Int × Int)} (h : planB l = true) : l.length ≤ 12 := by
  simp only [planB, Bool.and_eq_true, decide_eq_true_eq] at h
  exact h.2
def dueT (t : Int × Int) : Int := t.2 + t.1
def leastDue (d : Int) (l : List (Int × Int)) : Int := l.foldl (fun b t => if dueT t < b then dueT t else b) d
theorem leastDue_step (d : Int) {l : List (Int × Int)} {k : Nat} {t : Int × Int} (h : l[k]? = some t) : leastDue d (l.take (k + 1)) = if t.2 + t.1 < leastDue d (l.take k) then t.2 + t.1 else leastDue d (l.take k) := by
  have hl : k < l.length := (List.getElem?_eq_some_iff.1 h).1
  have : l[k] = t := by rw [List.getElem?_eq_getElem hl] at h; exact Option.some.inj h
  rw [List.take_succ_eq_append_getElem hl, leastDue, List.foldl_append, this]
  rfl
def nextB (l : List (Int × Int)) : Int × Int := if planB l then (match l with | [] => (0, 4) | t :: r => (leastDue (dueT t) (t :: r), 0)) else (0, 1)
theorem due_any (x0 x1 : Int) (h0 : 0 ≤ x0) (h1 : x0 ≤ 1000000) (h2 : 0 ≤ x1) (h3 : x1 ≤ 1000000) (w : World) : Calls Try.prog 68 #[.agg #[.int .i64 x0, .int .i64 x1]] w fun e w' => e = .returned (.int .i64 (x1 + x0)) ∧ Below w.heap.size w w' := by
  go_enter Try.func68, Try.ntmps68
  go_wp2
  go_ret
  exact ⟨rfl, by repeat' (first | (with_reducible exact Below.refl _ _) | (with_reducible assumption) | (with_reducible refine Below.alloc ?_ ?_ _) | (with_reducible refine Below.drew ?_) | (with_reducible refine below_drewN ?_ _) | (with_reducible refine Below.setCell ?_ ?_ _) | (with_reducible refine Below.trans ?_ (Below.mono (by assumption) ?_)) | go_size | (exact Below.size (by assumption)))⟩
theorem nextDue_spec (l : List (Int × Int)) (A : Option Addr) (B c : Nat) (w : World) (hr : Rd w B A (l.flatMap eTask)) (hB : B ≤ w.heap.size) (hn : l.length ≤ 1048576) :
   Calls Try.prog 25 #[.slice A l.length c] w fun e w' => e = .returned (.tuple #[.int .i64 (nextB l).1, .int .i64 (nextB l).2]) ∧ Below w.heap.size w w' := by
  cases hp : planB l with
  | false =>
    have Hp := Lib.hid hp
    rw [show nextB l = (0, 1) by simp [nextB, hp]]
    clear hp
    go_enter Try.func25, Try.ntmps25
    go_wp2_with (go_at_call 16; refine (isPlan_spec_r l A B c false Hp.out w hr hB hn).mono ?_; rintro e w1 ⟨rfl, hb⟩)
    go_ret2
    exact ⟨rfl, by repeat' (first | (with_reducible exact Below.refl _ _) | (with_reducible assumption) | (with_reducible refine Below.alloc ?_ ?_ _) | (with_reducible refine Below.drew ?_) | (with_reducible refine below_drewN ?_ _) | (with_reducible refine Below.setCell ?_ ?_ _) | (with_reducible refine Below.trans ?_ (Below.mono (by assumption) ?_)) | go_size | (exact Below.size (by assumption)))⟩
  | true =>
    have Hp := Lib.hid hp
    have hat := fun k t => @plan_at l hp k t
    clear hp
    cases l with
    | nil =>
      rw [show nextB [] = (0, 4) by simp [nextB, Hp.out]]
      go_enter Try.func25, Try.ntmps25
      go_wp2_with (go_at_call 16; refine (isPlan_spec_r [] A B c true Hp.out w hr hB hn).mono ?_; rintro e w1 ⟨rfl, hb⟩)
      go_ret2
      exact ⟨rfl, by repeat' (first | (with_reducible exact Below.refl _ _) | (with_reducible assumption) | (with_reducible refine Below.alloc ?_ ?_ _) | (with_reducible refine Below.drew ?_) | (with_reducible refine below_drewN ?_ _) | (with_reducible refine Below.setCell ?_ ?_ _) | (with_reducible refine Below.trans ?_ (Below.mono (by assumption) ?_)) | go_size | (exact Below.size (by assumption)))⟩
    | cons t0 r =>
      rw [show nextB (t0 :: r) = (leastDue (dueT t0) (t0 :: r), 0) by simp [nextB, Hp.out]]
      generalize hl : t0 :: r = l at *
      have ht0 : l[0]? = some t0 := by rw [← hl]; rfl
      have hlen : 0 < l.length := by rw [← hl]; simp
      clear hl
      have hd0 : leastDue (dueT t0) (l.take 1) = t0.2 + t0.1 := by rw [show (1 : Nat) = 0 + 1 from rfl, leastDue_step _ ht0]; simp [leastDue, dueT]
      have Hd0 := Lib.hid hd0
      clear hd0
      have hne : ((l.length : Int) == 0) = false := by rw [beq_eq_false_iff_ne]; omega
      have hB0 := hat 0 t0 ht0
      have Hat := Lib.hid hat
      clear hat
      go_enter Try.func25, Try.ntmps25
      go_wp2_with (go_at_call 16; refine (isPlan_spec_r l A B c true Hp.out w hr hB hn).mono ?_; rintro e w1 ⟨rfl, hb⟩)
      have hr1 := hr.below hb hB
      have hsz := hb.size
      obtain ⟨b, o, rfl, hbB, c0, c1⟩ := hr1.atTask ht0
      simp only [Nat.zero_mul, Nat.add_zero] at c0 c1
      have hlen' : (0 : Int) < (l.length : Int) := by omega
      have Hr := Lib.hid hr
      have Hr1 := Lib.hid hr1
      have Ht0 := Lib.hid ht0
      clear hr hr1 ht0
      go_quiet (fail)
      go_wp2_with fail
      go_loopw [4, 5] (fun d i wr => ∃ k : Nat, 1 ≤ k ∧ k ≤ l.length ∧ i = .int .i64 k ∧ d = .int .i64 (leastDue (dueT t0) (l.take k)) ∧ ∃ q, wr = w1.drewN q) (fun _ i _ => l.length - (intOf i).toNat)
      case atStart => exact ⟨1, by omega, by omega, rfl, vint Hd0.out.symm, _, rfl⟩
      case round =>
        clear c0 c1
        obtain ⟨k, hk1, hk, rfl, rfl, q, rfl⟩ := hrel
        by_cases hlt : k < l.length
        · have ht := List.getElem?_eq_getElem hlt
          generalize l[k] = t at ht
          obtain ⟨b', o', he, _, c0, c1⟩ := Hr1.out.atTask ht
          injection he with he
          injection he with he1 he2
          subst he1 he2
          have hBt := Hat.out k t ht
          have hstep := leastDue_step (dueT t0) ht
          have Hs := Lib.hid hstep
          have Ht := Lib.hid ht
          clear ht hstep
          generalize leastDue (dueT t0) (l.take k) = d at *
          go_wp2_with fail
          go_region
          go_wp2
          go_roundw
          case rel => exact ⟨k + 1, by omega, by omega, by go_num, vint Hs.out.symm, _, rfl⟩
          case measure => simp [intOf]; omega
        · have hk' : k = l.length := by omega
          subst hk'
          rw [List.take_length]
          go_wp2
          go_ret2
          exact ⟨rfl, by repeat' (first | (with_reducible exact Below.refl _ _) | (with_reducible assumption) | (with_reducible refine Below.alloc ?_ ?_ _) | (with_reducible refine Below.drew ?_) | (with_reducible refine below_drewN ?_ _) | (with_reducible refine Below.setCell ?_ ?_ _) | (with_reducible refine Below.trans ?_ (Below.mono (by assumption) ?_)) | go_size | (exact Below.size (by assumption)))⟩
set_option maxRecDepth 20000 in
theorem nextDue_impl (l : List (Int × Int)) (A : Option Addr) (B c : Nat) (w : World) (hr : Rd w B A (l.flatMap eTask)) (hB : B ≤ w.heap.size) (hn : l.length ≤ 1048576) :
   Calls Try.prog 26 #[.slice A l.length c] w fun e w' => e = .returned (.tuple #[.int .i64 (nextB l).1, .int .i64 (nextB l).2]) ∧ Below w.heap.size w w' := by
  cases hp : planB l with
  | false =>
    have Hp := Lib.hid hp
    rw [show nextB l = (0, 1) by simp [nextB, hp]]
    clear hp
    go_enter Try.func26, Try.ntmps26
    go_wp2_with (go_at_call 18; refine (isPlan_impl_r l A B c false Hp.out w hr hB hn).mono ?_; rintro e w1 ⟨rfl, hb⟩)
    go_ret2
    exact ⟨rfl, by repeat' (first | (with_reducible exact Below.refl _ _) | (with_reducible assumption) | (with_reducible refine Below.alloc ?_ ?_ _) | (with_reducible refine Below.drew ?_) | (with_reducible refine below_drewN ?_ _) | (with_reducible refine Below.setCell ?_ ?_ _) | (with_reducible refine Below.trans ?_ (Below.mono (by assumption) ?_)) | go_size | (exact Below.size (by assumption)))⟩
  | true =>
    have Hp := Lib.hid hp
    have hat := fun k t => @plan_at l hp k t
    clear hp
    cases l with
    | nil =>
      rw [show nextB [] = (0, 4) by simp [nextB, Hp.out]]
      go_enter Try.func26, Try.ntmps26
      go_wp2_with (go_at_call 18; refine (isPlan_impl_r [] A B c true Hp.out w hr hB hn).mono ?_; rintro e w1 ⟨rfl, hb⟩)
      go_ret2
      exact ⟨rfl, by repeat' (first | (with_reducible exact Below.refl _ _) | (with_reducible assumption) | (with_reducible refine Below.alloc ?_ ?_ _) | (with_reducible refine Below.drew ?_) | (with_reducible refine below_drewN ?_ _) | (with_reducible refine Below.setCell ?_ ?_ _) | (with_reducible refine Below.trans ?_ (Below.mono (by assumption) ?_)) | go_size | (exact Below.size (by assumption)))⟩
    | cons t0 r =>
      rw [show nextB (t0 :: r) = (leastDue (dueT t0) (t0 :: r), 0) by simp [nextB, Hp.out]]
      generalize hl : t0 :: r = l at *
      have ht0 : l[0]? = some t0 := by rw [← hl]; rfl
      have hlen : 0 < l.length := by rw [← hl]; simp
      clear hl
      have hne : ((l.length : Int) == 0) = false := by rw [beq_eq_false_iff_ne]; omega
      have hB0 := hat 0 t0 ht0
      have Hat := Lib.hid hat
      clear hat
      go_enter Try.func26, Try.ntmps26
      go_wp2_with fail
      refine (isPlan_impl_r l A B c true Hp.out w hr hB hn).mono ?_; rintro e w1 ⟨rfl, hb⟩
      have hr1 := hr.below hb hB
      have hsz := hb.size
      obtain ⟨b, o, rfl, hbB, c0, c1⟩ := hr1.atTask ht0
      simp only [Nat.zero_mul, Nat.add_zero] at c0 c1
      have hlen' : (0 : Int) < (l.length : Int) := by omega
      have Hr := Lib.hid hr
      have Hr1 := Lib.hid hr1
      have Ht0 := Lib.hid ht0
      clear hr hr1 ht0
      go_wp2_with (go_at_call 68; refine (due_any _ _ (by omega) (by omega) (by omega) (by omega) _).mono ?_; rintro e w2 ⟨rfl, hb2⟩)
      have hsz2 := hb2.size
      have hR := Hr1.out.below hb2 (by omega)
      have HR := Lib.hid hR
      clear hR
      go_loopw [4, 21] (fun d i wr => ∃ k : Nat, k ≤ l.length ∧ i = .int .i64 k ∧ d = .int .i64 (leastDue (dueT t0) (l.take k)) ∧ Below w2.heap.size w2 wr) (fun _ i _ => l.length - (intOf i).toNat)
      case atStart => exact ⟨0, by omega, rfl, vint (by simp [leastDue, dueT]), Below.refl _ _⟩
      case round =>
        clear c0 c1
        obtain ⟨k, hk, rfl, rfl, hbw⟩ := hrel
        have hsz3 := hbw.size
        by_cases hlt : k < l.length
        · have ht := List.getElem?_eq_getElem hlt
          generalize l[k] = t at ht
          obtain ⟨b', o', he, _, c0, c1⟩ := (HR.out.below hbw (by omega)).atTask ht
          injection he with he
          injection he with he1 he2
          subst he1 he2
          have hBt := Hat.out k t ht
          have hstep := leastDue_step (dueT t0) ht
          have Hs := Lib.hid hstep
          have Ht := Lib.hid ht
          clear ht hstep
          generalize leastDue (dueT t0) (l.take k) = d at *
          go_wp2_with (go_at_call 68; refine (due_any _ _ (by omega) (by omega) (by omega) (by omega) _).mono ?_; rintro e w3 ⟨rfl, hb3⟩)
          go_roundw
          case rel => exact ⟨k + 1, by omega, by go_num, vint Hs.out.symm, by repeat' (first | (with_reducible exact Below.refl _ _) | (with_reducible assumption) | (with_reducible refine Below.alloc ?_ ?_ _) | (with_reducible refine Below.drew ?_) | (with_reducible refine below_drewN ?_ _) | (with_reducible refine Below.setCell ?_ ?_ _) | (with_reducible refine Below.trans ?_ (Below.mono (by assumption) ?_)) | go_size | (exact Below.size (by assumption)))⟩
          case measure => simp [intOf]; omega
        · have hk' : k = l.length := by omega
          subst hk'
          rw [List.take_length]
          go_wp2
          go_ret2
          exact ⟨rfl, by repeat' (first | (with_reducible exact Below.refl _ _) | (with_reducible assumption) | (with_reducible refine Below.alloc ?_ ?_ _) | (with_reducible refine Below.drew ?_) | (with_reducible refine below_drewN ?_ _) | (with_reducible refine Below.setCell ?_ ?_ _) | (with_reducible refine Below.trans ?_ (Below.mono (by assumption) ?_)) | go_size | (exact Below.size (by assumption)))⟩
end Go.Proofs.Ytmbchcenclfjoaa
