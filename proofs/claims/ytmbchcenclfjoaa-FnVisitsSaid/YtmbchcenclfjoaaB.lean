/- The helpers of the laws on lists of tasks and of locks. -/
import Derived.Test.YtmbchcenclfjoaaA
import Derived.Deep.RegionWith
namespace Go.Proofs.Ytmbchcenclfjoaa
open Go.ChangeShapes Go.WideShapes Go.ChangeAt Go.RowKit
set_option linter.unusedVariables false
set_option linter.unusedSimpArgs false
theorem infoTask : (Try.prog.info? 65).map (fun i => (i.zero, i.size, i.bytes)) = some (some (.agg #[.int .i64 0, .int .i64 0]), 2, 16) := by kernel_rfl
theorem toTaskS_any (l : List (Int × Int)) (A : Option Addr) (B c : Nat) (w : World) (hr : Rd w B A (l.flatMap eTask)) (hB : B ≤ w.heap.size) (hn : l.length ≤ 1048576) :
   Calls Try.prog 17 #[.slice A l.length c] w fun e w' => ∃ A' c', e = .returned (.slice A' l.length c') ∧ w'.ownsRow w.heap.size 65 2 (.slice A' l.length c') l.length (l.flatMap eTask) ∧ Below w.heap.size w w' := by
  obtain ⟨i0, hi0, hz0, hz1, hz2⟩ := info_parts infoTask
  obtain ⟨w1, xs, hmk, hown, hxs, hb1, hz⟩ := mk_own (P := Try.prog) 25 65 i0 _ 2 16 Try.underlying25 hi0 hz0 hz1 hz2 .i64 .i64 l.length (by omega) (by unfold maxLen; omega) w.heap.size w (Nat.le_refl _)
  clear hxs
  generalize hG : w.heap.size = G at *
  go_enter Try.func17, Try.ntmps17
  go_wp2_with fail
  go_loopw [4] (fun i wr => ∃ k : Nat, k ≤ l.length ∧ i = .int .i64 k ∧ Below G w wr ∧ G < wr.heap.size ∧ ∃ xs, wr.ownsRow G 65 2 (.slice (some ⟨G, 0, none⟩) l.length l.length) l.length xs ∧ ∀ j, j < k * 2 → xs[j]? = (l.flatMap eTask)[j]?) (fun i _ => l.length - (intOf i).toNat)
  case atStart => exact ⟨0, Nat.zero_le _, rfl, hb1, hz, xs, hown, fun j hj => by omega⟩
  case round =>
    clear hmk hown hb1
    obtain ⟨k, hk, rfl, hbw, hsz, ys, hown, hys⟩ := hrel
    by_cases hlt : k < l.length
    · have ht := List.getElem?_eq_getElem hlt
      generalize l[k] = t at ht
      have hr' := hr.below hbw (by omega)
      obtain ⟨b, o, rfl, _, c0, c1⟩ := hr'.atTask ht
      have hl2 := hown.1
      have d0 := hown.cellAt (k * 2) (by omega)
      rw [List.getElem?_eq_getElem (show k * 2 < ys.length by omega)] at d0
      generalize ys[k * 2] = u0 at d0
      have d1 := hown.cellAt (k * 2 + 1) (by omega)
      rw [List.getElem?_eq_getElem (show k * 2 + 1 < ys.length by omega)] at d1
      generalize ys[k * 2 + 1] = u1 at d1
      have hfz := hown.frozenAt
      have Ht := Lib.hid ht
      have Hr := Lib.hid hr
      have Hr' := Lib.hid hr'
      have Ho := Lib.hid hown
      have Hy := Lib.hid hys
      have Hl := Lib.hid hl2
      clear ht hr hr' hown hys hl2
      go_wp2_with (go_at_call 56; refine (toTask_any _ _ _).mono ?_; rintro e w2 ⟨rfl, hb⟩; obtain ⟨hc, hf, hz2⟩ := bstep (N := wr.heap.size) (Nat.le_refl _) hb)
      go_roundw
      case rel =>
        have o1 := World.ownsRow.stored (own_below Ho.out hb) (k * 2) (.int .i64 t.1)
        have o2 := World.ownsRow.stored o1.1 (k * 2 + 1) (.int .i64 t.2)
        have hl := Hl.out
        exact ⟨k + 1, by omega, by go_num, by repeat' (first | (with_reducible exact Below.refl _ _) | (with_reducible assumption) | (with_reducible refine Below.alloc ?_ ?_ _) | (with_reducible refine Below.drew ?_) | (with_reducible refine below_drewN ?_ _) | (with_reducible refine Below.setCell ?_ ?_ _) | (with_reducible refine Below.trans ?_ (Below.mono (by assumption) ?_)) | go_size | (exact Below.size (by assumption))), by simp; omega, _, o2.1, fun j hj => (set_one (set_one Hy.out (by first | omega | (simp; omega)) (flat_get eTask 2 eTask_len l k t 0 _ Ht.out rfl)) (by first | omega | (simp; omega)) (flat_get eTask 2 eTask_len l k t 1 _ Ht.out rfl)) j (by omega)⟩
      case measure => simp [intOf]; omega
    · have hk' : k = l.length := by omega
      subst hk'
      have hy : ys = l.flatMap eTask := eq_of_upto hys (by rw [hown.1, flat_len eTask 2 eTask_len]) (by rw [hown.1]; omega)
      have Ho := Lib.hid (hy ▸ hown)
      clear hown hys hy
      go_wp2
      go_ret
      exact ⟨_, _, rfl, Ho.out, by repeat' (first | (with_reducible exact Below.refl _ _) | (with_reducible assumption) | (with_reducible refine Below.alloc ?_ ?_ _) | (with_reducible refine Below.drew ?_) | (with_reducible refine below_drewN ?_ _) | (with_reducible refine Below.setCell ?_ ?_ _) | (with_reducible refine Below.trans ?_ (Below.mono (by assumption) ?_)) | go_size | (exact Below.size (by assumption)))⟩
set_option maxRecDepth 20000 in
theorem eqTaskS_same (l : List (Int × Int)) (A A' : Option Addr) (B c c' : Nat) (w : World) (hr : Rd w B A (l.flatMap eTask)) (hr2 : Rd w B A' (l.flatMap eTask)) (hB : B ≤ w.heap.size) (hn : l.length ≤ 1048576) :
   Calls Try.prog 19 #[.slice A l.length c, .slice A' l.length c'] w fun e w' => e = .returned (.bool true) ∧ Below w.heap.size w w' := by
  go_enter Try.func19, Try.ntmps19
  go_wp2_with fail
  go_loopw [5] (fun i wr => ∃ k : Nat, k ≤ l.length ∧ i = .int .i64 k ∧ Below w.heap.size w wr) (fun i _ => l.length - (intOf i).toNat)
  case atStart => exact ⟨0, Nat.zero_le _, rfl, Below.refl _ _⟩
  case round =>
    obtain ⟨k, hk, rfl, hbw⟩ := hrel
    by_cases hlt : k < l.length
    · have ht := List.getElem?_eq_getElem hlt
      generalize l[k] = t at ht
      have hsz := hbw.size
      have hr' := hr.below hbw hB
      have hr2' := hr2.below hbw hB
      obtain ⟨b, o, rfl, _, c0, c1⟩ := hr'.atTask ht
      obtain ⟨b2, o2, rfl, _, d0, d1⟩ := hr2'.atTask ht
      clear ht hr hr' hr2 hr2'
      go_wp2_with fail
      go_region_with ((go_at_call 61; refine (eqTask_same _ _ _).mono ?_; rintro e w2 ⟨rfl, hb⟩))
      all_goals go_wp2
      all_goals go_roundw
      all_goals first | exact ⟨k + 1, by omega, by go_num, by repeat' (first | (with_reducible exact Below.refl _ _) | (with_reducible assumption) | (with_reducible refine Below.alloc ?_ ?_ _) | (with_reducible refine Below.drew ?_) | (with_reducible refine below_drewN ?_ _) | (with_reducible refine Below.setCell ?_ ?_ _) | (with_reducible refine Below.trans ?_ (Below.mono (by assumption) ?_)) | go_size | (exact Below.size (by assumption)))⟩ | (simp [intOf]; omega)
    · have hk' : k = l.length := by omega
      subst hk'
      go_wp2
      go_ret
      exact ⟨rfl, hbw⟩
def marksTask (q : Int) (n : Nat) : List (Int × Int) := (List.range n).map fun i : Nat => (q + (i : Int) * 2, q + (i : Int) * 2 + 1)
theorem marksTask_length (q : Int) (n : Nat) : (marksTask q n).length = n := by simp [marksTask]
theorem marksTask_at (q : Int) {n k : Nat} (h : k < n) : (marksTask q n)[k]? = some ((fun i : Nat => (q + (i : Int) * 2, q + (i : Int) * 2 + 1)) k) := by simp [marksTask, h]
theorem markTaskS_any (m : Nat) (A : Option Addr) (base c : Nat) (xs : List Value) (q : Int) (w : World) (hown : w.ownsRow base 65 2 (.slice A m c) m xs) (hq : 0 ≤ q) (hq2 : q ≤ 16777216) (hn : m ≤ 1048576) :
   Calls Try.prog 29 #[.slice A m c, .int .i64 q] w fun e w' => e = .returned (.int .i64 (q + (m : Int) * 2)) ∧ w'.ownsRow base 65 2 (.slice A m c) m ((marksTask q m).flatMap eTask) ∧ w.grownBy w' (Value.slice A m c).ownBlock := by
  go_enter Try.func29, Try.ntmps29
  go_wp2_with fail
  go_loopw [1, 5] (fun qq i wr => ∃ k : Nat, k ≤ m ∧ i = .int .i64 k ∧ qq = .int .i64 (q + (k : Int) * 2) ∧ w.grownBy wr (Value.slice A m c).ownBlock ∧ ∃ xs, wr.ownsRow base 65 2 (.slice A m c) m xs ∧ ∀ j, j < k * 2 → xs[j]? = ((marksTask q m).flatMap eTask)[j]?) (fun _ i _ => m - (intOf i).toNat)
  case atStart => exact ⟨0, Nat.zero_le _, rfl, vint (by omega), World.grownBy.refl w _, xs, hown, fun j hj => by omega⟩
  case round =>
    clear hown
    obtain ⟨k, hk, rfl, rfl, hg, ys, hown, hys⟩ := hrel
    by_cases hlt : k < m
    · obtain ⟨G, rfl, hG1, hG2⟩ := own_form hown (by omega)
      have hl2 := hown.1
      have d0 := hown.cellAt (k * 2) (by omega)
      rw [List.getElem?_eq_getElem (show k * 2 < ys.length by omega)] at d0
      generalize ys[k * 2] = u0 at d0
      have d1 := hown.cellAt (k * 2 + 1) (by omega)
      rw [List.getElem?_eq_getElem (show k * 2 + 1 < ys.length by omega)] at d1
      generalize ys[k * 2 + 1] = u1 at d1
      have hfz := hown.frozenAt
      have Ho := Lib.hid hown
      have Hy := Lib.hid hys
      have Hl := Lib.hid hl2
      have Hg := Lib.hid hg
      clear hown hys hl2 hg
      go_wp2
      go_roundw
      case rel =>
        have o1 := World.ownsRow.stored Ho.out (k * 2) (.int .i64 (q + (k : Int) * 2))
        have o2 := World.ownsRow.stored o1.1 (k * 2 + 1) (.int .i64 (q + (k : Int) * 2 + 1))
        have hl := Hl.out
        exact ⟨k + 1, by omega, by go_num, vint (by omega), (grownBy_trans (grownBy_trans Hg.out o1.2) o2.2), _, o2.1, fun j hj => (set_one (set_one Hy.out (by first | omega | (simp; omega)) (flat_get eTask 2 eTask_len (marksTask q m) k _ 0 _ (marksTask_at q hlt) rfl)) (by first | omega | (simp; omega)) (flat_get eTask 2 eTask_len (marksTask q m) k _ 1 _ (marksTask_at q hlt) rfl)) j (by omega)⟩
      case measure => simp [intOf]; omega
    · have hk' : k = m := by omega
      subst hk'
      have hy : ys = (marksTask q k).flatMap eTask := eq_of_upto hys (by rw [hown.1, flat_len eTask 2 eTask_len, marksTask_length]) (by rw [hown.1]; omega)
      have Ho := Lib.hid (hy ▸ hown)
      have Hg := Lib.hid hg
      clear hown hys hy hg
      go_wp2
      go_ret
      exact ⟨rfl, Ho.out, Hg.out⟩
theorem heldTaskS_any (m : Nat) (A : Option Addr) (B c : Nat) (q : Int) (w : World) (hr : Rd w B A ((marksTask q m).flatMap eTask)) (hq : 0 ≤ q) (hq2 : q ≤ 16777216) (hn : m ≤ 1048576) :
   Calls Try.prog 30 #[.slice A m c, .int .i64 q] w fun e w' => e = .returned (.int .i64 (q + (m : Int) * 2)) ∧ w = w' := by
  go_enter Try.func30, Try.ntmps30
  go_wp2_with fail
  go_loop [1, 5] (fun qq i => ∃ k : Nat, k ≤ m ∧ i = .int .i64 k ∧ qq = .int .i64 (q + (k : Int) * 2)) (fun _ i => m - (intOf i).toNat)
  case atStart => exact ⟨0, Nat.zero_le _, rfl, vint (by omega)⟩
  case round =>
    obtain ⟨k, hk, rfl, rfl⟩ := hrel
    by_cases hlt : k < m
    · obtain ⟨b, o, rfl, _, c0, c1⟩ := hr.atTask (marksTask_at q hlt)
      clear hr
      go_wp2
      go_round
      case rel => exact ⟨k + 1, by omega, by go_num, vint (by omega)⟩
      case measure => simp [intOf]; omega
    · have hk' : k = m := by omega
      subst hk'
      go_wp2
      go_ret
      exact ⟨rfl, rfl⟩
theorem infoLock : (Try.prog.info? 75).map (fun i => (i.zero, i.size, i.bytes)) = some (some (.agg #[.int .i64 0, .int .i64 0]), 2, 16) := by kernel_rfl
theorem toLockS_any (l : List (Int × Int)) (A : Option Addr) (B c : Nat) (w : World) (hr : Rd w B A (l.flatMap eLock)) (hB : B ≤ w.heap.size) (hn : l.length ≤ 1048576) :
   Calls Try.prog 22 #[.slice A l.length c] w fun e w' => ∃ A' c', e = .returned (.slice A' l.length c') ∧ w'.ownsRow w.heap.size 75 2 (.slice A' l.length c') l.length (l.flatMap eLock) ∧ Below w.heap.size w w' := by
  obtain ⟨i0, hi0, hz0, hz1, hz2⟩ := info_parts infoLock
  obtain ⟨w1, xs, hmk, hown, hxs, hb1, hz⟩ := mk_own (P := Try.prog) 32 75 i0 _ 2 16 Try.underlying32 hi0 hz0 hz1 hz2 .i64 .i64 l.length (by omega) (by unfold maxLen; omega) w.heap.size w (Nat.le_refl _)
  clear hxs
  generalize hG : w.heap.size = G at *
  go_enter Try.func22, Try.ntmps22
  go_wp2_with fail
  go_loopw [4] (fun i wr => ∃ k : Nat, k ≤ l.length ∧ i = .int .i64 k ∧ Below G w wr ∧ G < wr.heap.size ∧ ∃ xs, wr.ownsRow G 75 2 (.slice (some ⟨G, 0, none⟩) l.length l.length) l.length xs ∧ ∀ j, j < k * 2 → xs[j]? = (l.flatMap eLock)[j]?) (fun i _ => l.length - (intOf i).toNat)
  case atStart => exact ⟨0, Nat.zero_le _, rfl, hb1, hz, xs, hown, fun j hj => by omega⟩
  case round =>
    clear hmk hown hb1
    obtain ⟨k, hk, rfl, hbw, hsz, ys, hown, hys⟩ := hrel
    by_cases hlt : k < l.length
    · have ht := List.getElem?_eq_getElem hlt
      generalize l[k] = t at ht
      have hr' := hr.below hbw (by omega)
      obtain ⟨b, o, rfl, _, c0, c1⟩ := hr'.atLock ht
      have hl2 := hown.1
      have d0 := hown.cellAt (k * 2) (by omega)
      rw [List.getElem?_eq_getElem (show k * 2 < ys.length by omega)] at d0
      generalize ys[k * 2] = u0 at d0
      have d1 := hown.cellAt (k * 2 + 1) (by omega)
      rw [List.getElem?_eq_getElem (show k * 2 + 1 < ys.length by omega)] at d1
      generalize ys[k * 2 + 1] = u1 at d1
      have hfz := hown.frozenAt
      have Ht := Lib.hid ht
      have Hr := Lib.hid hr
      have Hr' := Lib.hid hr'
      have Ho := Lib.hid hown
      have Hy := Lib.hid hys
      have Hl := Lib.hid hl2
      clear ht hr hr' hown hys hl2
      go_wp2_with (go_at_call 64; refine (toLock_any _ _ _).mono ?_; rintro e w2 ⟨rfl, hb⟩; obtain ⟨hc, hf, hz2⟩ := bstep (N := wr.heap.size) (Nat.le_refl _) hb)
      go_roundw
      case rel =>
        have o1 := World.ownsRow.stored (own_below Ho.out hb) (k * 2) (.int .i64 t.1)
        have o2 := World.ownsRow.stored o1.1 (k * 2 + 1) (.int .i64 t.2)
        have hl := Hl.out
        exact ⟨k + 1, by omega, by go_num, by repeat' (first | (with_reducible exact Below.refl _ _) | (with_reducible assumption) | (with_reducible refine Below.alloc ?_ ?_ _) | (with_reducible refine Below.drew ?_) | (with_reducible refine below_drewN ?_ _) | (with_reducible refine Below.setCell ?_ ?_ _) | (with_reducible refine Below.trans ?_ (Below.mono (by assumption) ?_)) | go_size | (exact Below.size (by assumption))), by simp; omega, _, o2.1, fun j hj => (set_one (set_one Hy.out (by first | omega | (simp; omega)) (flat_get eLock 2 eLock_len l k t 0 _ Ht.out rfl)) (by first | omega | (simp; omega)) (flat_get eLock 2 eLock_len l k t 1 _ Ht.out rfl)) j (by omega)⟩
      case measure => simp [intOf]; omega
    · have hk' : k = l.length := by omega
      subst hk'
      have hy : ys = l.flatMap eLock := eq_of_upto hys (by rw [hown.1, flat_len eLock 2 eLock_len]) (by rw [hown.1]; omega)
      have Ho := Lib.hid (hy ▸ hown)
      clear hown hys hy
      go_wp2
      go_ret
      exact ⟨_, _, rfl, Ho.out, by repeat' (first | (with_reducible exact Below.refl _ _) | (with_reducible assumption) | (with_reducible refine Below.alloc ?_ ?_ _) | (with_reducible refine Below.drew ?_) | (with_reducible refine below_drewN ?_ _) | (with_reducible refine Below.setCell ?_ ?_ _) | (with_reducible refine Below.trans ?_ (Below.mono (by assumption) ?_)) | go_size | (exact Below.size (by assumption)))⟩
set_option maxRecDepth 20000 in
theorem eqLockS_same (l : List (Int × Int)) (A A' : Option Addr) (B c c' : Nat) (w : World) (hr : Rd w B A (l.flatMap eLock)) (hr2 : Rd w B A' (l.flatMap eLock)) (hB : B ≤ w.heap.size) (hn : l.length ≤ 1048576) :
   Calls Try.prog 24 #[.slice A l.length c, .slice A' l.length c'] w fun e w' => e = .returned (.bool true) ∧ Below w.heap.size w w' := by
  go_enter Try.func24, Try.ntmps24
  go_wp2_with fail
  go_loopw [5] (fun i wr => ∃ k : Nat, k ≤ l.length ∧ i = .int .i64 k ∧ Below w.heap.size w wr) (fun i _ => l.length - (intOf i).toNat)
  case atStart => exact ⟨0, Nat.zero_le _, rfl, Below.refl _ _⟩
  case round =>
    obtain ⟨k, hk, rfl, hbw⟩ := hrel
    by_cases hlt : k < l.length
    · have ht := List.getElem?_eq_getElem hlt
      generalize l[k] = t at ht
      have hsz := hbw.size
      have hr' := hr.below hbw hB
      have hr2' := hr2.below hbw hB
      obtain ⟨b, o, rfl, _, c0, c1⟩ := hr'.atLock ht
      obtain ⟨b2, o2, rfl, _, d0, d1⟩ := hr2'.atLock ht
      clear ht hr hr' hr2 hr2'
      go_wp2_with fail
      go_region_with ((go_at_call 67; refine (eqLock_same _ _ _).mono ?_; rintro e w2 ⟨rfl, hb⟩))
      all_goals go_wp2
      all_goals go_roundw
      all_goals first | exact ⟨k + 1, by omega, by go_num, by repeat' (first | (with_reducible exact Below.refl _ _) | (with_reducible assumption) | (with_reducible refine Below.alloc ?_ ?_ _) | (with_reducible refine Below.drew ?_) | (with_reducible refine below_drewN ?_ _) | (with_reducible refine Below.setCell ?_ ?_ _) | (with_reducible refine Below.trans ?_ (Below.mono (by assumption) ?_)) | go_size | (exact Below.size (by assumption)))⟩ | (simp [intOf]; omega)
    · have hk' : k = l.length := by omega
      subst hk'
      go_wp2
      go_ret
      exact ⟨rfl, hbw⟩
def marksLock (q : Int) (n : Nat) : List (Int × Int) := (List.range n).map fun i : Nat => (q + (i : Int) * 2, q + (i : Int) * 2 + 1)
theorem marksLock_length (q : Int) (n : Nat) : (marksLock q n).length = n := by simp [marksLock]
theorem marksLock_at (q : Int) {n k : Nat} (h : k < n) : (marksLock q n)[k]? = some ((fun i : Nat => (q + (i : Int) * 2, q + (i : Int) * 2 + 1)) k) := by simp [marksLock, h]
theorem markLockS_any (m : Nat) (A : Option Addr) (base c : Nat) (xs : List Value) (q : Int) (w : World) (hown : w.ownsRow base 75 2 (.slice A m c) m xs) (hq : 0 ≤ q) (hq2 : q ≤ 16777216) (hn : m ≤ 1048576) :
   Calls Try.prog 38 #[.slice A m c, .int .i64 q] w fun e w' => e = .returned (.int .i64 (q + (m : Int) * 2)) ∧ w'.ownsRow base 75 2 (.slice A m c) m ((marksLock q m).flatMap eLock) ∧ w.grownBy w' (Value.slice A m c).ownBlock := by
  go_enter Try.func38, Try.ntmps38
  go_wp2_with fail
  go_loopw [1, 5] (fun qq i wr => ∃ k : Nat, k ≤ m ∧ i = .int .i64 k ∧ qq = .int .i64 (q + (k : Int) * 2) ∧ w.grownBy wr (Value.slice A m c).ownBlock ∧ ∃ xs, wr.ownsRow base 75 2 (.slice A m c) m xs ∧ ∀ j, j < k * 2 → xs[j]? = ((marksLock q m).flatMap eLock)[j]?) (fun _ i _ => m - (intOf i).toNat)
  case atStart => exact ⟨0, Nat.zero_le _, rfl, vint (by omega), World.grownBy.refl w _, xs, hown, fun j hj => by omega⟩
  case round =>
    clear hown
    obtain ⟨k, hk, rfl, rfl, hg, ys, hown, hys⟩ := hrel
    by_cases hlt : k < m
    · obtain ⟨G, rfl, hG1, hG2⟩ := own_form hown (by omega)
      have hl2 := hown.1
      have d0 := hown.cellAt (k * 2) (by omega)
      rw [List.getElem?_eq_getElem (show k * 2 < ys.length by omega)] at d0
      generalize ys[k * 2] = u0 at d0
      have d1 := hown.cellAt (k * 2 + 1) (by omega)
      rw [List.getElem?_eq_getElem (show k * 2 + 1 < ys.length by omega)] at d1
      generalize ys[k * 2 + 1] = u1 at d1
      have hfz := hown.frozenAt
      have Ho := Lib.hid hown
      have Hy := Lib.hid hys
      have Hl := Lib.hid hl2
      have Hg := Lib.hid hg
      clear hown hys hl2 hg
      go_wp2
      go_roundw
      case rel =>
        have o1 := World.ownsRow.stored Ho.out (k * 2) (.int .i64 (q + (k : Int) * 2))
        have o2 := World.ownsRow.stored o1.1 (k * 2 + 1) (.int .i64 (q + (k : Int) * 2 + 1))
        have hl := Hl.out
        exact ⟨k + 1, by omega, by go_num, vint (by omega), (grownBy_trans (grownBy_trans Hg.out o1.2) o2.2), _, o2.1, fun j hj => (set_one (set_one Hy.out (by first | omega | (simp; omega)) (flat_get eLock 2 eLock_len (marksLock q m) k _ 0 _ (marksLock_at q hlt) rfl)) (by first | omega | (simp; omega)) (flat_get eLock 2 eLock_len (marksLock q m) k _ 1 _ (marksLock_at q hlt) rfl)) j (by omega)⟩
      case measure => simp [intOf]; omega
    · have hk' : k = m := by omega
      subst hk'
      have hy : ys = (marksLock q k).flatMap eLock := eq_of_upto hys (by rw [hown.1, flat_len eLock 2 eLock_len, marksLock_length]) (by rw [hown.1]; omega)
      have Ho := Lib.hid (hy ▸ hown)
      have Hg := Lib.hid hg
      clear hown hys hy hg
      go_wp2
      go_ret
      exact ⟨rfl, Ho.out, Hg.out⟩
theorem heldLockS_any (m : Nat) (A : Option Addr) (B c : Nat) (q : Int) (w : World) (hr : Rd w B A ((marksLock q m).flatMap eLock)) (hq : 0 ≤ q) (hq2 : q ≤ 16777216) (hn : m ≤ 1048576) :
   Calls Try.prog 39 #[.slice A m c, .int .i64 q] w fun e w' => e = .returned (.int .i64 (q + (m : Int) * 2)) ∧ w = w' := by
  go_enter Try.func39, Try.ntmps39
  go_wp2_with fail
  go_loop [1, 5] (fun qq i => ∃ k : Nat, k ≤ m ∧ i = .int .i64 k ∧ qq = .int .i64 (q + (k : Int) * 2)) (fun _ i => m - (intOf i).toNat)
  case atStart => exact ⟨0, Nat.zero_le _, rfl, vint (by omega)⟩
  case round =>
    obtain ⟨k, hk, rfl, rfl⟩ := hrel
    by_cases hlt : k < m
    · obtain ⟨b, o, rfl, _, c0, c1⟩ := hr.atLock (marksLock_at q hlt)
      clear hr
      go_wp2
      go_round
      case rel => exact ⟨k + 1, by omega, by go_num, vint (by omega)⟩
      case measure => simp [intOf]; omega
    · have hk' : k = m := by omega
      subst hk'
      go_wp2
      go_ret
      exact ⟨rfl, rfl⟩
end Go.Proofs.Ytmbchcenclfjoaa
