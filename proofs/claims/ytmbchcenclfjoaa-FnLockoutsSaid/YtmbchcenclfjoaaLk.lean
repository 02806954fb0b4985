/- Locks: what the reference and the library functions compute. -/
import Derived.Test.YtmbchcenclfjoaaA
import Derived.Test.YtmbchcenclfjoaaP
import Derived.Deep.RegionWith
namespace Go.Proofs.Ytmbchcenclfjoaa
open Go.ChangeShapes Go.WideShapes Go.ChangeAt Go.RowKit
set_option linter.unusedVariables false
set_option linter.unusedSimpArgs false
def lockB (t : Int × Int) : Bool := inB t.1 0 23 && inB t.2 1 999
theorem l29Lock_any (a b : Int) (w : World) : Calls Try.prog 62 #[.int .i64 a, .int .i64 b] w fun e w' => e = .returned (.bool (lockB (a, b))) ∧ w = w' := by
  go_enter Try.func62, Try.ntmps62
  go_wp2_with (go_at_call 55; refine (l01In_any _ _ _ _).mono ?_; rintro e w' ⟨rfl, rfl⟩)
  all_goals go_ret
  all_goals exact ⟨ret_bool (by simp_all [lockB]), rfl⟩
theorem isLock_any (a b : Int) (w : World) : Calls Try.prog 65 #[.agg #[.int .i64 a, .int .i64 b]] w fun e w' => e = .returned (.bool (lockB (a, b))) ∧ Below w.heap.size w w' := by
  go_enter Try.func65, Try.ntmps65
  go_wp2_with (go_at_call 59; refine (within_any _ _ _ _).mono ?_; rintro e w' ⟨rfl, rfl⟩)
  all_goals go_ret
  all_goals exact ⟨ret_bool (by simp_all [lockB]), by go_grown⟩
theorem indexLock_any (l : List (Int × Int)) (A : Option Addr) (B c : Nat) (v : Int × Int) (w : World) (hr : Rd w B A (l.flatMap eLock)) (hB : B ≤ w.heap.size) (hn : l.length ≤ 1048576) :
   Calls Try.prog 77 #[.slice A l.length c, .agg #[.int .i64 v.1, .int .i64 v.2]] w fun e w' => e = .returned (.int .i64 (idxB (· == v) l)) ∧ Below w.heap.size w w' := by
  go_enter Try.func77, Try.ntmps77
  go_wp2_with fail
  go_loopw [8] (fun i wr => ∃ k : Nat, k ≤ l.length ∧ i = .int .i64 k ∧ (l.take k).any (· == v) = false ∧ Below (w.heap.size + 1) (w.alloc (.cells #[.int .i64 v.1, .int .i64 v.2] 75)) wr) (fun i _ => l.length - (intOf i).toNat)
  case atStart => exact ⟨0, Nat.zero_le _, rfl, by simp, Below.refl _ _⟩
  case round =>
    obtain ⟨k, hk, rfl, hall, hbw⟩ := hrel
    by_cases hlt : k < l.length
    · have ht := List.getElem?_eq_getElem hlt
      generalize l[k] = t at ht
      have hr' := (hr.alloc hB _).below hbw (by omega)
      obtain ⟨b, o, rfl, _, c0, c1⟩ := hr'.atLock ht
      have e0 := hbw.cell (p := ⟨w.heap.size, 0, none⟩) (by simp)
      have e1 := hbw.cell (p := ⟨w.heap.size, 1, none⟩) (by simp)
      simp at e0 e1
      have hz := hbw.size
      simp at hz
      have Ht := Lib.hid ht
      have Ha := Lib.hid hall
      have Hr := Lib.hid hr
      have Hr' := Lib.hid hr'
      clear ht hall hr hr'
      obtain ⟨v1, v2⟩ := v
      obtain ⟨t1, t2⟩ := t
      dsimp only at *
      by_cases h1 : v1 = t1
      · subst h1
        by_cases h2 : v2 = t2
        · subst h2
          go_wp2
          go_quiet (fail)
          go_wp2
          go_ret
          exact ⟨ret_int (by rw [idxB_here _ _ Ht.out Ha.out (by simp)]), by repeat' (first | (with_reducible exact Below.refl _ _) | (with_reducible assumption) | (with_reducible refine Below.alloc ?_ ?_ _) | (with_reducible refine Below.drew ?_) | (with_reducible refine below_drewN ?_ _) | (with_reducible refine Below.setCell ?_ ?_ _) | (with_reducible refine Below.trans ?_ (Below.mono (by assumption) ?_)) | go_size | (exact Below.size (by assumption)))⟩
        · go_wp2
          go_quiet (fail)
          go_wp2
          go_roundw
          case rel => exact ⟨k + 1, by omega, by go_num, by rw [any_step _ _ Ht.out, Ha.out]; simp [Ne.symm h2], by repeat' (first | (with_reducible exact Below.refl _ _) | (with_reducible assumption) | (with_reducible refine Below.alloc ?_ ?_ _) | (with_reducible refine Below.drew ?_) | (with_reducible refine below_drewN ?_ _) | (with_reducible refine Below.setCell ?_ ?_ _) | (with_reducible refine Below.trans ?_ (Below.mono (by assumption) ?_)) | go_size | (exact Below.size (by assumption)))⟩
          case measure => simp [intOf]; omega
      · go_wp2
        go_quiet (fail)
        go_wp2
        go_roundw
        case rel => exact ⟨k + 1, by omega, by go_num, by rw [any_step _ _ Ht.out, Ha.out]; simp [Ne.symm h1], by repeat' (first | (with_reducible exact Below.refl _ _) | (with_reducible assumption) | (with_reducible refine Below.alloc ?_ ?_ _) | (with_reducible refine Below.drew ?_) | (with_reducible refine below_drewN ?_ _) | (with_reducible refine Below.setCell ?_ ?_ _) | (with_reducible refine Below.trans ?_ (Below.mono (by assumption) ?_)) | go_size | (exact Below.size (by assumption)))⟩
        case measure => simp [intOf]; omega
    · have hk' : k = l.length := by omega
      subst hk'
      rw [List.take_length] at hall
      have Ha := Lib.hid hall
      clear hall
      go_wp2
      go_ret
      exact ⟨ret_int (by rw [idxB_none _ _ Ha.out]), ((Below.refl _ _).alloc (Nat.le_refl _) _).trans (hbw.mono (by omega))⟩
theorem containsLock_any (l : List (Int × Int)) (A : Option Addr) (B c : Nat) (v : Int × Int) (w : World) (hr : Rd w B A (l.flatMap eLock)) (hB : B ≤ w.heap.size) (hn : l.length ≤ 1048576) :
   Calls Try.prog 66 #[.slice A l.length c, .agg #[.int .i64 v.1, .int .i64 v.2]] w fun e w' => e = .returned (.bool (l.any (· == v))) ∧ Below w.heap.size w w' := by
  go_enter Try.func66, Try.ntmps66
  go_wp2_with (go_at_call 77; refine (indexLock_any l A B c v _ (hr.alloc hB _) (by simp; omega) hn).mono ?_; rintro e w1 ⟨rfl, hb⟩)
  go_ret
  exact ⟨ret_bool (idxB_any _ _), by repeat' (first | (with_reducible exact Below.refl _ _) | (with_reducible assumption) | (with_reducible refine Below.alloc ?_ ?_ _) | (with_reducible refine Below.drew ?_) | (with_reducible refine below_drewN ?_ _) | (with_reducible refine Below.setCell ?_ ?_ _) | (with_reducible refine Below.trans ?_ (Below.mono (by assumption) ?_)) | go_size | (exact Below.size (by assumption)))⟩
theorem l29Find_any (l : List (Int × Int)) (A : Option Addr) (B c : Nat) (x y : Int) (w : World) (hr : Rd w B A (l.flatMap eLock)) (hn : l.length ≤ 1048576) :
   Calls Try.prog 63 #[.slice A l.length c, .int .i64 x, .int .i64 y] w fun e w' => e = .returned (.int .i64 (idxB (· == (x, y)) l)) ∧ w = w' := by
  go_enter Try.func63, Try.ntmps63
  go_wp2_with fail
  go_loop [7] (fun i => ∃ k : Nat, k ≤ l.length ∧ i = .int .i64 k ∧ (l.take k).any (· == (x, y)) = false) (fun i => l.length - (intOf i).toNat)
  case atStart => exact ⟨0, Nat.zero_le _, rfl, by simp⟩
  case round =>
    obtain ⟨k, hk, rfl, hall⟩ := hrel
    by_cases hlt : k < l.length
    · have ht := List.getElem?_eq_getElem hlt
      generalize l[k] = t at ht
      obtain ⟨b, o, rfl, _, c0, c1⟩ := hr.atLock ht
      have Ht := Lib.hid ht
      have Ha := Lib.hid hall
      clear ht hall hr
      obtain ⟨t1, t2⟩ := t
      dsimp only at *
      by_cases h1 : t1 = x
      · subst h1
        by_cases h2 : t2 = y
        · subst h2
          go_wp2
          go_ret
          exact ⟨ret_int (by rw [idxB_here _ _ Ht.out Ha.out (by simp)]), rfl⟩
        · go_wp2
          go_round
          case rel => exact ⟨k + 1, by omega, by go_num, by rw [any_step _ _ Ht.out, Ha.out]; simp [h2]⟩
          case measure => simp [intOf]; omega
      · go_wp2
        go_round
        case rel => exact ⟨k + 1, by omega, by go_num, by rw [any_step _ _ Ht.out, Ha.out]; simp [h1]⟩
        case measure => simp [intOf]; omega
    · have hk' : k = l.length := by omega
      subst hk'
      rw [List.take_length] at hall
      have Ha := Lib.hid hall
      clear hall
      go_wp2
      go_ret
      exact ⟨ret_int (by rw [idxB_none _ _ Ha.out]), rfl⟩
/-- the first k locks are locks, and no two of them are alike -/
def okLk (l : List (Int × Int)) (k : Nat) (t : Int × Int) : Bool := lockB t && !(l.take k).any (· == t)
def locksUp (l : List (Int × Int)) : Nat → Bool
  | 0 => true
  | k + 1 => locksUp l k && (match l[k]? with | some t => okLk l k t | none => true)
def locksB (l : List (Int × Int)) : Bool := locksUp l l.length && decide (l.length ≤ 8)
theorem locksUp_step {l : List (Int × Int)} {k : Nat} {t : Int × Int} (h : l[k]? = some t) : locksUp l (k + 1) = (locksUp l k && okLk l k t) := by simp [locksUp, h]
theorem locksUp_false {l : List (Int × Int)} {k : Nat} : ∀ (m : Nat), k ≤ m → locksUp l k = false → locksUp l m = false := by
  intro m
  induction m with
  | zero => intro h hk; have : k = 0 := by omega
            subst this; exact hk
  | succ m ih =>
    intro h hk
    by_cases he : k = m + 1
    · subst he; exact hk
    · simp [locksUp, ih (by omega) hk]
theorem locksB_false {l : List (Int × Int)} {k : Nat} {t : Int × Int} (h : l[k]? = some t) (ho : okLk l k t = false) : locksB l = false := by
  have hl : k < l.length := (List.getElem?_eq_some_iff.1 h).1
  have : locksUp l (k + 1) = false := by rw [locksUp_step h, ho, Bool.and_false]
  simp [locksB, locksUp_false l.length (by omega) this]
theorem idxB_at {l : List (Int × Int)} {k : Nat} {t : Int × Int} (h : l[k]? = some t) : (idxB (· == t) l == (k : Int)) = !(l.take k).any (· == t) := by
  cases ha : (l.take k).any (· == t) with
  | false => rw [idxB_here _ _ h ha (by simp)]; simp
  | true =>
    have hl : k < l.length := (List.getElem?_eq_some_iff.1 h).1
    rw [List.any_eq_true] at ha
    obtain ⟨x, hx, hxt⟩ := ha
    rw [List.mem_take_iff_getElem] at hx
    obtain ⟨j, hj, rfl⟩ := hx
    unfold idxB
    cases hf : l.findIdx? (· == t) with
    | none =>
      rw [List.findIdx?_eq_none_iff] at hf
      have := hf _ (List.getElem_mem (show j < l.length by omega))
      simp [hxt] at this
    | some i =>
      rw [List.findIdx?_eq_some_iff_getElem] at hf
      obtain ⟨hi, _, hlt⟩ := hf
      have : ¬ j < i := fun hji => by have := hlt j hji; simp_all
      simp
      omega
theorem quiet_add_left {P : Program} {f : FuncId} {args : Array Value} {w : World} {a n : Nat} {v : Value}
    (h : Calls P f args (w.drewN (a + n)) fun e w' => e = .returned v ∧ w.drewN (a + n) = w') :
    Calls P f args (w.drewN (a + n)) fun e w'' => e = .returned v ∧ ∃ m, w'' = w.drewN (a + m) :=
  h.mono fun _ _ ⟨he, hm⟩ => ⟨he, n, hm.symm⟩
theorem l29Lock_r (a b : Int) (r : Bool) (h : lockB (a, b) = r) (w : World) : Calls Try.prog 62 #[.int .i64 a, .int .i64 b] w fun e w' => e = .returned (.bool r) ∧ w = w' := h ▸ l29Lock_any a b w
theorem areLocks_spec (l : List (Int × Int)) (A : Option Addr) (B c : Nat) (w : World) (hr : Rd w B A (l.flatMap eLock)) (hB : B ≤ w.heap.size) (hn : l.length ≤ 1048576) :
   Calls Try.prog 21 #[.slice A l.length c] w fun e w' => e = .returned (.bool (locksB l)) ∧ Below w.heap.size w w' := by
  go_enter Try.func21, Try.ntmps21
  go_wp2_with fail
  go_loopw [3] (fun i wr => ∃ k : Nat, k ≤ l.length ∧ i = .int .i64 k ∧ locksUp l k = true ∧ ∃ q, wr = w.drewN q) (fun i _ => l.length - (intOf i).toNat)
  case atStart => exact ⟨0, Nat.zero_le _, rfl, rfl, 0, rfl⟩
  case round =>
    obtain ⟨k, hk, rfl, hall, q, rfl⟩ := hrel
    by_cases hlt : k < l.length
    · have ht := List.getElem?_eq_getElem hlt
      generalize l[k] = t at ht
      obtain ⟨b, o, rfl, _, c0, c1⟩ := hr.atLock ht
      have hid : (idxB (· == (t.1, t.2)) l != (k : Int)) = (l.take k).any (· == t) := by rw [bne, idxB_at ht, Bool.not_not]
      have Ht := Lib.hid ht
      have Ha := Lib.hid hall
      clear ht hall
      cases hg : lockB (t.1, t.2) with
      | false =>
        have Hg := Lib.hid hg
        have Hi := Lib.hid hid
        have Hr := Lib.hid hr
        clear hg hid hr
        go_wp2_with fail
        go_quiet ((go_at_call 62; exact quiet_add_left (l29Lock_r _ _ false Hg.out _)))
        go_wp2
        go_ret
        exact ⟨ret_bool (locksB_false Ht.out (by rw [okLk, Hg.out, Bool.false_and])).symm, by repeat' (first | (with_reducible exact Below.refl _ _) | (with_reducible assumption) | (with_reducible refine Below.alloc ?_ ?_ _) | (with_reducible refine Below.drew ?_) | (with_reducible refine below_drewN ?_ _) | (with_reducible refine Below.setCell ?_ ?_ _) | (with_reducible refine Below.trans ?_ (Below.mono (by assumption) ?_)) | go_size | (exact Below.size (by assumption)))⟩
      | true =>
        have Hg := Lib.hid hg
        have Hr := Lib.hid hr
        clear hg hr
        cases ha : (l.take k).any (· == t) with
        | true =>
          rw [ha] at hid
          have Hx := Lib.hid ha
          clear ha
          go_wp2_with fail
          go_quiet ((first | (go_at_call 62; exact quiet_add_left (l29Lock_r _ _ true Hg.out _)) | (go_at_call 63; exact quiet_add_left (l29Find_any l _ _ c _ _ _ Hr.out hn))))
          go_wp2
          go_ret
          exact ⟨ret_bool (locksB_false Ht.out (by rw [okLk, Hx.out]; simp)).symm, by repeat' (first | (with_reducible exact Below.refl _ _) | (with_reducible assumption) | (with_reducible refine Below.alloc ?_ ?_ _) | (with_reducible refine Below.drew ?_) | (with_reducible refine below_drewN ?_ _) | (with_reducible refine Below.setCell ?_ ?_ _) | (with_reducible refine Below.trans ?_ (Below.mono (by assumption) ?_)) | go_size | (exact Below.size (by assumption)))⟩
        | false =>
          rw [ha] at hid
          have Hx := Lib.hid ha
          clear ha
          go_wp2_with fail
          go_quiet ((first | (go_at_call 62; exact quiet_add_left (l29Lock_r _ _ true Hg.out _)) | (go_at_call 63; exact quiet_add_left (l29Find_any l _ _ c _ _ _ Hr.out hn))))
          go_wp2
          go_roundw
          case rel => exact ⟨k + 1, by omega, by go_num, by rw [locksUp_step Ht.out, Ha.out, okLk, Hx.out, Hg.out]; rfl, _, rfl⟩
          case measure => simp [intOf]; omega
    · have hk' : k = l.length := by omega
      subst hk'
      have Ha := Lib.hid hall
      clear hall
      go_wp2
      go_ret
      exact ⟨ret_bool (by rw [locksB, Ha.out, Bool.true_and]; exact decide_eq_decide.2 (by omega)), by repeat' (first | (with_reducible exact Below.refl _ _) | (with_reducible assumption) | (with_reducible refine Below.alloc ?_ ?_ _) | (with_reducible refine Below.drew ?_) | (with_reducible refine below_drewN ?_ _) | (with_reducible refine Below.setCell ?_ ?_ _) | (with_reducible refine Below.trans ?_ (Below.mono (by assumption) ?_)) | go_size | (exact Below.size (by assumption)))⟩
end Go.Proofs.Ytmbchcenclfjoaa
