/- PerformTask of the program and of the reference: walks. -/
import Derived.Test.YtmbchcenclfjoaaDue
import Derived.Test.YtmbchcenclfjoaaB
import Derived.Test.YtmbchcenclfjoaaApp
import Derived.Deep.RegionWith
namespace Go.Proofs.Ytmbchcenclfjoaa
open Go.ChangeShapes Go.WideShapes Go.ChangeAt Go.RowKit
set_option maxRecDepth 20000
set_option linter.unusedVariables false
set_option linter.unusedSimpArgs false
def perfCode (l : List (Int × Int)) (task day : Int) : Int :=
  if planB l then (if inB day 0 100000 then (if inB task 0 ((l.length : Int) - 1) then (match l[task.toNat]? with | some t => if day < t.2 then 5 else 0 | none => 0) else 2) else 2) else 1
def perfR (l : List (Int × Int)) (task day : Int) : List (Int × Int) :=
  if perfCode l task day = 0 then (match l[task.toNat]? with | some t => l.set task.toNat (t.1, day) | none => []) else []
theorem perfR_len (l : List (Int × Int)) (task day : Int) (hn : l.length ≤ 1048576) : (perfR l task day).length ≤ 1048576 := by
  unfold perfR
  split
  · split <;> simp [hn]
  · simp
theorem perf_cases (l : List (Int × Int)) (task day : Int) :
    (planB l = false ∧ perfCode l task day = 1 ∧ perfR l task day = []) ∨
    (planB l = true ∧ inB day 0 100000 = false ∧ perfCode l task day = 2 ∧ perfR l task day = []) ∨
    (planB l = true ∧ inB day 0 100000 = true ∧ inB task 0 ((l.length : Int) - 1) = false ∧ perfCode l task day = 2 ∧ perfR l task day = []) ∨
    (∃ (k : Nat) (t : Int × Int), task = k ∧ k < l.length ∧ l[k]? = some t ∧ planB l = true ∧ inB day 0 100000 = true ∧ inB task 0 ((l.length : Int) - 1) = true ∧ day < t.2 ∧ perfCode l task day = 5 ∧ perfR l task day = []) ∨
    (∃ (k : Nat) (t : Int × Int), task = k ∧ k < l.length ∧ l[k]? = some t ∧ planB l = true ∧ inB day 0 100000 = true ∧ inB task 0 ((l.length : Int) - 1) = true ∧ ¬ day < t.2 ∧ perfCode l task day = 0 ∧ perfR l task day = l.set k (t.1, day)) := by
  cases hp : planB l with
  | false => left; simp [perfCode, perfR, hp]
  | true =>
    cases hd : inB day 0 100000 with
    | false => right; left; simp [perfCode, perfR, hp, hd]
    | true =>
      cases hk : inB task 0 ((l.length : Int) - 1) with
      | false => right; right; left; simp [perfCode, perfR, hp, hd, hk]
      | true =>
        have h2 := hk
        simp only [inB, Bool.and_eq_true, decide_eq_true_eq] at h2
        obtain ⟨k, rfl⟩ : ∃ k : Nat, task = k := ⟨task.toNat, by omega⟩
        have hlt : k < l.length := by omega
        have hg := List.getElem?_eq_getElem hlt
        generalize l[k] = t at hg
        by_cases hdd : day < t.2
        · right; right; right; left
          exact ⟨k, t, rfl, hlt, hg, rfl, rfl, rfl, hdd, by simp [perfCode, hp, hd, hk, hg, hdd], by simp [perfR, perfCode, hp, hd, hk, hg, hdd]⟩
        · right; right; right; right
          exact ⟨k, t, rfl, hlt, hg, rfl, rfl, rfl, hdd, by simp [perfCode, hp, hd, hk, hg, hdd], by simp [perfR, perfCode, hp, hd, hk, hg, hdd]⟩
theorem eTask_one : ∀ t, ∀ u ∈ eTask t, u.oneCell' = true := by intro t u hu; simp [eTask] at hu; rcases hu with rfl | rfl <;> rfl
theorem eTask_set (x y : Int) : ∀ (l : List (Int × Int)) (k : Nat), k < l.length → (((l.flatMap eTask).set (k * 2) (.int .i64 x)).set (k * 2 + 1) (.int .i64 y)) = (l.set k (x, y)).flatMap eTask := by
  intro l
  induction l with
  | nil => intro k h; simp at h
  | cons a l ih =>
    intro k h
    cases k with
    | zero => rfl
    | succ k =>
      have := ih k (by simpa using h)
      rw [List.flatMap_cons, List.set_cons_succ, List.flatMap_cons, ← this, show (k + 1) * 2 = k * 2 + 1 + 1 from by omega]
      rfl
theorem eTask_set2 {l : List (Int × Int)} {k : Nat} {t : Int × Int} (h : l[k]? = some t) (y : Int) : ((l.flatMap eTask).set (k * 2 + 1) (.int .i64 y)) = (l.set k (t.1, y)).flatMap eTask := by
  have hl : k < l.length := (List.getElem?_eq_some_iff.1 h).1
  rw [← eTask_set t.1 y l k hl]
  congr 1
  have hg := flat_get eTask 2 eTask_len l k t 0 (.int .i64 t.1) h rfl
  simp only [Nat.add_zero] at hg
  have hlt : k * 2 < (l.flatMap eTask).length := by rw [flat_len eTask 2 eTask_len]; omega
  rw [List.getElem?_eq_getElem hlt] at hg
  have e : (l.flatMap eTask).set (k * 2) (.int .i64 t.1) = l.flatMap eTask := by rw [← Option.some.inj hg]; exact List.set_getElem_self hlt
  rw [e]
theorem lengthTask_any (l : Nat) (A : Option Addr) (c : Nat) (w : World) (hn : l ≤ 1048576) : Calls Try.prog 70 #[.slice A l c] w fun e w' => e = .returned (.int .i64 (l : Int)) ∧ w = w' := by
  go_enter Try.func70, Try.ntmps70
  go_wp2
  go_ret
  exact ⟨rfl, rfl⟩
theorem cloneTask_any (l : List (Int × Int)) (A : Option Addr) (B c : Nat) (w : World) (hr : Rd w B A (l.flatMap eTask)) (hB : B ≤ w.heap.size) (hn : l.length ≤ 1048576) :
   Calls Try.prog 71 #[.slice A l.length c] w fun e w' => ∃ A' c', e = .returned (.slice A' l.length c') ∧ w'.ownsRow w.heap.size 65 2 (.slice A' l.length c') l.length (l.flatMap eTask) ∧ Below w.heap.size w w' := by
  obtain ⟨i0, hi0, hz0, hz1, hz2⟩ := info_parts infoTask
  have heq := fun W n => Lib.run_eql_slice_nil (P := Try.prog) W 25 65 A n c 0 0 Try.underlying25
  cases A with
  | none =>
    have h0 : l.length = 0 := by
      rcases Nat.eq_zero_or_pos l.length with h | h
      · exact h
      · obtain ⟨b, o, e, _⟩ := hr (by rw [flat_len eTask 2 eTask_len]; omega)
        cases e
    have hl : l = [] := List.eq_nil_of_length_eq_zero h0
    subst hl
    go_enter Try.func71, Try.ntmps71
    go_wp2
    go_ret
    exact ⟨none, 0, rfl, World.ownsRow_nil _ _ _ _, Below.refl _ _⟩
  | some ad =>
    go_enter Try.func71, Try.ntmps71
    go_wp2_with (at_builtin; refine wpList_append_rd rfl (.tmp 5) (.tmp 6) 25 rfl w.heap.size 65 i0 _ 2 16 Try.underlying25 hi0 hz0 hz1 hz2 rfl (by decide) _ 0 [] rfl (World.ownsRow_made w #[] 0 (Nat.le_refl _) (by simp [maxLen]) rfl) B (some ad) l.length c (l.flatMap eTask) rfl (flat_len eTask 2 eTask_len l) (hr.alloc hB _) (flat_one _ eTask_one l) (by unfold maxLen; omega) (by omega) (by simp) ?_; intro v1 w1 own1 hb1 hz3; rw [Nat.zero_add, List.nil_append] at own1; obtain ⟨A1, c1, rfl⟩ := own_val own1; have O1 := Lib.hid own1; clear own1)
    go_ret
    exact ⟨A1, c1, rfl, O1.out, ((Below.refl _ _).alloc (Nat.le_refl _) _).trans hb1⟩
theorem planCode_r (l : List (Int × Int)) (day : Int) (A : Option Addr) (B c : Nat) (r : Int) (h : planCode l day = r) (w : World) (hr : Rd w B A (l.flatMap eTask)) (hB : B ≤ w.heap.size) (hn : l.length ≤ 1048576) :
   Calls Try.prog 69 #[.slice A l.length c, .int .i64 day] w fun e w' => e = .returned (.int .i64 r) ∧ Below w.heap.size w w' := h ▸ l29Code_any l day A B c w hr hB hn
theorem l01In_r (n lo hi : Int) (r : Bool) (h : inB n lo hi = r) (w : World) : Calls Try.prog 55 #[.int .i64 n, .int .i64 lo, .int .i64 hi] w fun e w' => e = .returned (.bool r) ∧ w = w' := h ▸ l01In_any n lo hi w
theorem within_r (n lo hi : Int) (r : Bool) (h : inB n lo hi = r) (w : World) : Calls Try.prog 59 #[.int .i64 n, .int .i64 lo, .int .i64 hi] w fun e w' => e = .returned (.bool r) ∧ w = w' := h ▸ within_any n lo hi w
theorem isDay_r (n : Int) (r : Bool) (h : inB n 0 100000 = r) (w : World) : Calls Try.prog 60 #[.int .i64 n] w fun e w' => e = .returned (.bool r) ∧ w = w' := h ▸ isDay_any n w
theorem perform_spec (l : List (Int × Int)) (task day : Int) (A : Option Addr) (B c : Nat) (w : World) (hr : Rd w B A (l.flatMap eTask)) (hB : B ≤ w.heap.size) (hn : l.length ≤ 1048576) :
   Calls Try.prog 27 #[.slice A l.length c, .int .i64 task, .int .i64 day] w fun e w' => ∃ A' c', e = .returned (.tuple #[.slice A' (perfR l task day).length c', .int .i64 (perfCode l task day)]) ∧ w'.ownsRow w.heap.size 65 2 (.slice A' (perfR l task day).length c') (perfR l task day).length ((perfR l task day).flatMap eTask) ∧ Below w.heap.size w w' := by
  obtain ⟨i0, hi0, hz0, hz1, hz2⟩ := info_parts infoTask
  rcases perf_cases l task day with ⟨hp, h1, h2⟩ | ⟨hp, hd, h1, h2⟩ | ⟨hp, hd, hk, h1, h2⟩ | ⟨k, t, rfl, hlt, ht, hp, hd, hk, hday, h1, h2⟩ | ⟨k, t, rfl, hlt, ht, hp, hd, hk, hday, h1, h2⟩
  · rw [h1, h2]
    have hc : planCode l day = 1 := by simp [planCode, hp]
    have Hc := Lib.hid hc
    clear h1 h2 hc hp
    go_enter Try.func27, Try.ntmps27
    go_wp2_with (first | (go_at_call 69; refine (planCode_r l day A B c 1 Hc.out w hr hB hn).mono ?_; rintro e w1 ⟨rfl, hb⟩))
    go_ret2
    exact ⟨none, 0, rfl, World.ownsRow_nil _ _ _ _, by repeat' (first | (with_reducible exact Below.refl _ _) | (with_reducible assumption) | (with_reducible refine Below.alloc ?_ ?_ _) | (with_reducible refine Below.drew ?_) | (with_reducible refine below_drewN ?_ _) | (with_reducible refine Below.setCell ?_ ?_ _) | (with_reducible refine Below.trans ?_ (Below.mono (by assumption) ?_)) | go_size | (exact Below.size (by assumption)))⟩
  · rw [h1, h2]
    have hc : planCode l day = 2 := by simp [planCode, hp, hd]
    have Hc := Lib.hid hc
    clear h1 h2 hc hp hd
    go_enter Try.func27, Try.ntmps27
    go_wp2_with (first | (go_at_call 69; refine (planCode_r l day A B c 2 Hc.out w hr hB hn).mono ?_; rintro e w1 ⟨rfl, hb⟩))
    go_ret2
    exact ⟨none, 0, rfl, World.ownsRow_nil _ _ _ _, by repeat' (first | (with_reducible exact Below.refl _ _) | (with_reducible assumption) | (with_reducible refine Below.alloc ?_ ?_ _) | (with_reducible refine Below.drew ?_) | (with_reducible refine below_drewN ?_ _) | (with_reducible refine Below.setCell ?_ ?_ _) | (with_reducible refine Below.trans ?_ (Below.mono (by assumption) ?_)) | go_size | (exact Below.size (by assumption)))⟩
  · rw [h1, h2]
    have hc : planCode l day = 0 := by simp [planCode, hp, hd]
    have Hc := Lib.hid hc
    have Hk := Lib.hid hk
    clear h1 h2 hc hp hd hk
    go_enter Try.func27, Try.ntmps27
    go_wp2_with (first | (go_at_call 69; refine (planCode_r l day A B c 0 Hc.out w hr hB hn).mono ?_; rintro e w1 ⟨rfl, hb⟩) | (go_at_call 55; refine (l01In_r _ _ _ false Hk.out _).mono ?_; rintro e w' ⟨rfl, rfl⟩))
    go_ret2
    exact ⟨none, 0, rfl, World.ownsRow_nil _ _ _ _, by repeat' (first | (with_reducible exact Below.refl _ _) | (with_reducible assumption) | (with_reducible refine Below.alloc ?_ ?_ _) | (with_reducible refine Below.drew ?_) | (with_reducible refine below_drewN ?_ _) | (with_reducible refine Below.setCell ?_ ?_ _) | (with_reducible refine Below.trans ?_ (Below.mono (by assumption) ?_)) | go_size | (exact Below.size (by assumption)))⟩
  · rw [h1, h2]
    have hc : planCode l day = 0 := by simp [planCode, hp, hd]
    have Hc := Lib.hid hc
    have Hk := Lib.hid hk
    clear h1 h2 hc hp hd hk
    go_enter Try.func27, Try.ntmps27
    go_wp2_with fail
    refine (planCode_r l day A B c 0 Hc.out w hr hB hn).mono ?_; rintro e w1 ⟨rfl, hb⟩
    obtain ⟨b, o, rfl, _, c0, c1⟩ := (hr.below hb hB).atTask ht
    clear hr ht
    go_wp2_with (first | (go_at_call 55; refine (l01In_r _ _ _ true Hk.out _).mono ?_; rintro e w' ⟨rfl, rfl⟩))
    go_ret2
    exact ⟨none, 0, rfl, World.ownsRow_nil _ _ _ _, by repeat' (first | (with_reducible exact Below.refl _ _) | (with_reducible assumption) | (with_reducible refine Below.alloc ?_ ?_ _) | (with_reducible refine Below.drew ?_) | (with_reducible refine below_drewN ?_ _) | (with_reducible refine Below.setCell ?_ ?_ _) | (with_reducible refine Below.trans ?_ (Below.mono (by assumption) ?_)) | go_size | (exact Below.size (by assumption)))⟩
  · rw [h1, h2]
    have hc : planCode l day = 0 := by simp [planCode, hp, hd]
    have Hc := Lib.hid hc
    have Hk := Lib.hid hk
    have Ht := Lib.hid ht
    clear h1 h2 hc hp hd hk
    go_enter Try.func27, Try.ntmps27
    go_wp2_with fail
    refine (planCode_r l day A B c 0 Hc.out w hr hB hn).mono ?_; rintro e w1 ⟨rfl, hb⟩
    have hz := hb.size
    have hr1 := hr.below hb hB
    obtain ⟨b, o, rfl, hbB, c0, c1⟩ := hr1.atTask ht
    have Hr := Lib.hid hr1
    clear hr ht hr1
    go_wp2_with (first | (go_at_call 55; refine (l01In_r _ _ _ true Hk.out _).mono ?_; rintro e w' ⟨rfl, rfl⟩) | (at_builtin; refine wpList_append_rd rfl (.tmp 37) (.tmp 38) 25 rfl w1.heap.size 65 i0 _ 2 16 Try.underlying25 hi0 hz0 hz1 hz2 rfl (by decide) _ 0 [] rfl (World.ownsRow_made w1 #[] 0 (Nat.le_refl _) (by simp [maxLen]) rfl) B (some ⟨b, o, none⟩) l.length c (l.flatMap eTask) rfl (flat_len eTask 2 eTask_len l) (Hr.out.alloc (by omega) _) (flat_one _ eTask_one l) (by unfold maxLen; omega) (by omega) (by simp) ?_; intro v1 w2 own1 hb1 hz3; rw [Nat.zero_add, List.nil_append] at own1; obtain ⟨A1, c1', rfl⟩ := own_val own1; obtain ⟨G, rfl, hG1, hG2⟩ := own_form own1 (by omega); obtain ⟨u0, d0⟩ := own_at own1 (k * 2) (by omega); obtain ⟨u1, d1⟩ := own_at own1 (k * 2 + 1) (by omega); have hfz := own1.frozenAt; have O1 := Lib.hid own1; have e0 := (hb1.cell (p := ⟨b, o + k * 2, none⟩) (show b < _ by omega)).trans ((World.cell?_alloc_lt w1 _ ⟨b, o + k * 2, none⟩ (show b < _ by omega)).trans c0); clear own1))
    have o1 := (O1.out.stored (k * 2) (.int .i64 t.1)).1.stored (k * 2 + 1) (.int .i64 day)
    have hset := eTask_set t.1 day l k hlt
    rw [hset] at o1
    have O2 := Lib.hid o1.1
    clear o1 hset
    go_wp2
    go_ret2
    have len_set : l.length = (l.set k (t.1, day)).length := by simp
    refine ⟨_, _, ?_, own_more (len_set ▸ O2.out) hz, ?_⟩
    · rw [List.length_set]; rfl
    · have hbb : Below w.heap.size w w2 := (hb.trans ((Below.refl _ _).alloc hz _)).trans (hb1.mono hz)
      repeat' (first | (with_reducible exact Below.refl _ _) | (with_reducible assumption) | (with_reducible refine Below.alloc ?_ ?_ _) | (with_reducible refine Below.drew ?_) | (with_reducible refine below_drewN ?_ _) | (with_reducible refine Below.setCell ?_ ?_ _) | (with_reducible refine Below.trans ?_ (Below.mono (by assumption) ?_)) | go_size | (exact Below.size (by assumption)))
theorem perform_impl (l : List (Int × Int)) (task day : Int) (A : Option Addr) (B c : Nat) (w : World) (hr : Rd w B A (l.flatMap eTask)) (hB : B ≤ w.heap.size) (hn : l.length ≤ 1048576) :
   Calls Try.prog 28 #[.slice A l.length c, .int .i64 task, .int .i64 day] w fun e w' => ∃ A' c', e = .returned (.tuple #[.slice A' (perfR l task day).length c', .int .i64 (perfCode l task day)]) ∧ w'.ownsRow w.heap.size 65 2 (.slice A' (perfR l task day).length c') (perfR l task day).length ((perfR l task day).flatMap eTask) ∧ Below w.heap.size w w' := by
  rcases perf_cases l task day with ⟨hp, h1, h2⟩ | ⟨hp, hd, h1, h2⟩ | ⟨hp, hd, hk, h1, h2⟩ | ⟨k, t, rfl, hlt, ht, hp, hd, hk, hday, h1, h2⟩ | ⟨k, t, rfl, hlt, ht, hp, hd, hk, hday, h1, h2⟩
  · rw [h1, h2]
    have Hp := Lib.hid hp
    clear h1 h2 hp
    go_enter Try.func28, Try.ntmps28
    go_wp2_with (first | (go_at_call 18; refine (isPlan_impl_r l A B c false Hp.out w hr hB hn).mono ?_; rintro e w1 ⟨rfl, hb⟩))
    go_ret2
    exact ⟨none, 0, rfl, World.ownsRow_nil _ _ _ _, by repeat' (first | (with_reducible exact Below.refl _ _) | (with_reducible assumption) | (with_reducible refine Below.alloc ?_ ?_ _) | (with_reducible refine Below.drew ?_) | (with_reducible refine below_drewN ?_ _) | (with_reducible refine Below.setCell ?_ ?_ _) | (with_reducible refine Below.trans ?_ (Below.mono (by assumption) ?_)) | go_size | (exact Below.size (by assumption)))⟩
  · rw [h1, h2]
    have Hp := Lib.hid hp
    have Hd := Lib.hid hd
    clear h1 h2 hp hd
    go_enter Try.func28, Try.ntmps28
    go_wp2_with (first | (go_at_call 18; refine (isPlan_impl_r l A B c true Hp.out w hr hB hn).mono ?_; rintro e w1 ⟨rfl, hb⟩) | (go_at_call 60; refine (isDay_r _ false Hd.out _).mono ?_; rintro e w' ⟨rfl, rfl⟩))
    go_ret2
    exact ⟨none, 0, rfl, World.ownsRow_nil _ _ _ _, by repeat' (first | (with_reducible exact Below.refl _ _) | (with_reducible assumption) | (with_reducible refine Below.alloc ?_ ?_ _) | (with_reducible refine Below.drew ?_) | (with_reducible refine below_drewN ?_ _) | (with_reducible refine Below.setCell ?_ ?_ _) | (with_reducible refine Below.trans ?_ (Below.mono (by assumption) ?_)) | go_size | (exact Below.size (by assumption)))⟩
  · rw [h1, h2]
    have Hp := Lib.hid hp
    have Hd := Lib.hid hd
    have Hk := Lib.hid hk
    clear h1 h2 hp hd hk
    go_enter Try.func28, Try.ntmps28
    go_wp2_with (first | (go_at_call 18; refine (isPlan_impl_r l A B c true Hp.out w hr hB hn).mono ?_; rintro e w1 ⟨rfl, hb⟩) | (go_at_call 60; refine (isDay_r _ true Hd.out _).mono ?_; rintro e w' ⟨rfl, rfl⟩) | (go_at_call 70; refine (lengthTask_any _ _ _ _ hn).mono ?_; rintro e w' ⟨rfl, rfl⟩) | (go_at_call 59; refine (within_r _ _ _ false Hk.out _).mono ?_; rintro e w' ⟨rfl, rfl⟩))
    go_ret2
    exact ⟨none, 0, rfl, World.ownsRow_nil _ _ _ _, by repeat' (first | (with_reducible exact Below.refl _ _) | (with_reducible assumption) | (with_reducible refine Below.alloc ?_ ?_ _) | (with_reducible refine Below.drew ?_) | (with_reducible refine below_drewN ?_ _) | (with_reducible refine Below.setCell ?_ ?_ _) | (with_reducible refine Below.trans ?_ (Below.mono (by assumption) ?_)) | go_size | (exact Below.size (by assumption)))⟩
  · rw [h1, h2]
    have Hp := Lib.hid hp
    have Hd := Lib.hid hd
    have Hk := Lib.hid hk
    clear h1 h2 hp hd hk
    go_enter Try.func28, Try.ntmps28
    go_wp2_with fail
    refine (isPlan_impl_r l A B c true Hp.out w hr hB hn).mono ?_; rintro e w1 ⟨rfl, hb⟩
    obtain ⟨b, o, rfl, _, c0, c1⟩ := (hr.below hb hB).atTask ht
    clear hr ht
    go_wp2_with (first | (go_at_call 60; refine (isDay_r _ true Hd.out _).mono ?_; rintro e w' ⟨rfl, rfl⟩) | (go_at_call 70; refine (lengthTask_any _ _ _ _ hn).mono ?_; rintro e w' ⟨rfl, rfl⟩) | (go_at_call 59; refine (within_r _ _ _ true Hk.out _).mono ?_; rintro e w' ⟨rfl, rfl⟩))
    go_ret2
    exact ⟨none, 0, rfl, World.ownsRow_nil _ _ _ _, by repeat' (first | (with_reducible exact Below.refl _ _) | (with_reducible assumption) | (with_reducible refine Below.alloc ?_ ?_ _) | (with_reducible refine Below.drew ?_) | (with_reducible refine below_drewN ?_ _) | (with_reducible refine Below.setCell ?_ ?_ _) | (with_reducible refine Below.trans ?_ (Below.mono (by assumption) ?_)) | go_size | (exact Below.size (by assumption)))⟩
  · rw [h1, h2]
    have Hp := Lib.hid hp
    have Hd := Lib.hid hd
    have Hk := Lib.hid hk
    have Ht := Lib.hid ht
    clear h1 h2 hp hd hk
    go_enter Try.func28, Try.ntmps28
    go_wp2_with fail
    refine (isPlan_impl_r l A B c true Hp.out w hr hB hn).mono ?_; rintro e w1 ⟨rfl, hb⟩
    have hz := hb.size
    have hr1 := hr.below hb hB
    obtain ⟨b, o, rfl, hbB, c0, c1⟩ := hr1.atTask ht
    have Hr := Lib.hid hr1
    clear hr ht hr1
    go_wp2_with (first | (go_at_call 60; refine (isDay_r _ true Hd.out _).mono ?_; rintro e w' ⟨rfl, rfl⟩) | (go_at_call 70; refine (lengthTask_any _ _ _ _ hn).mono ?_; rintro e w' ⟨rfl, rfl⟩) | (go_at_call 59; refine (within_r _ _ _ true Hk.out _).mono ?_; rintro e w' ⟨rfl, rfl⟩))
    refine (cloneTask_any l _ B c w1 Hr.out (by omega) hn).mono ?_; rintro e w2 ⟨A1, c1', rfl, own1, hb1⟩
    obtain ⟨G, rfl, hG1, hG2⟩ := own_form own1 (by omega)
    obtain ⟨u0, d0⟩ := own_at own1 (k * 2) (by omega)
    obtain ⟨u1, d1⟩ := own_at own1 (k * 2 + 1) (by omega)
    have hfz := own1.frozenAt
    have O1 := Lib.hid own1
    clear own1
    have o1 := O1.out.stored (k * 2 + 1) (.int .i64 day)
    have hset := eTask_set2 Ht.out day
    rw [hset] at o1
    have O2 := Lib.hid o1.1
    clear o1 hset
    go_wp2
    go_ret2
    have len_set : l.length = (l.set k (t.1, day)).length := by simp
    refine ⟨_, _, ?_, own_more (len_set ▸ O2.out) hz, ?_⟩
    · rw [List.length_set]; rfl
    · have hbb : Below w.heap.size w w2 := hb.trans (hb1.mono hz)
      repeat' (first | (with_reducible exact Below.refl _ _) | (with_reducible assumption) | (with_reducible refine Below.alloc ?_ ?_ _) | (with_reducible refine Below.drew ?_) | (with_reducible refine below_drewN ?_ _) | (with_reducible refine Below.setCell ?_ ?_ _) | (with_reducible refine Below.trans ?_ (Below.mono (by assumption) ?_)) | go_size | (exact Below.size (by assumption)))
end Go.Proofs.Ytmbchcenclfjoaa
