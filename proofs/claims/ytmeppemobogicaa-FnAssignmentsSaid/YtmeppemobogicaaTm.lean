/- The times of stops: walks of the program and of the reference. -/
import Derived.Test.YtmeppemobogicaaC
import Derived.Test.YtmeppemobogicaaI
import Derived.Test.YtmeppemobogicaaFl
import Derived.Test.YtmeppemobogicaaStep
import Derived.Deep.RegionWith
namespace Go.Proofs.Ytmeppemobogicaa
open Go.ChangeShapes Go.WideShapes Go.ChangeAt Go.RowKit
set_option maxRecDepth 20000
set_option linter.unusedVariables false
set_option linter.unusedSimpArgs false
def timeT (t : Int × Int) : Int := t.1 * (120 + 60 * -((-t.2) / 5000))
def timesL (l : List (Int × Int)) : List Int := l.map timeT
theorem timesL_length (l : List (Int × Int)) : (timesL l).length = l.length := by simp [timesL]
theorem times_step {l : List (Int × Int)} {k : Nat} {t : Int × Int} (h : l[k]? = some t) : timesL (l.take (k + 1)) = timesL (l.take k) ++ [timeT t] := by
  have hl : k < l.length := (List.getElem?_eq_some_iff.1 h).1
  have : l[k] = t := by rw [List.getElem?_eq_getElem hl] at h; exact Option.some.inj h
  rw [timesL, List.take_succ_eq_append_getElem hl, List.map_append, this]; rfl
theorem timeT_bd {t : Int × Int} (h1 : 1 ≤ t.1) (h2 : t.1 ≤ 12) (h3 : 0 ≤ t.2) (h4 : t.2 ≤ 100000) : 0 ≤ timeT t ∧ timeT t ≤ 15840 := by
  unfold timeT
  have a1 : 120 ≤ 120 + 60 * -((-t.2) / 5000) := by omega
  have a2 : 120 + 60 * -((-t.2) / 5000) ≤ 1320 := by omega
  generalize 120 + 60 * -((-t.2) / 5000) = q at a1 a2
  constructor
  · exact Int.mul_nonneg (by omega) (by omega)
  · calc t.1 * q ≤ 12 * q := Int.mul_le_mul_of_nonneg_right h2 (by omega)
      _ ≤ 15840 := by omega
theorem time_wraps {t : Int × Int} (h1 : 1 ≤ t.1) (h2 : t.1 ≤ 12) (h3 : 0 ≤ t.2) (h4 : t.2 ≤ 100000) :
    IntKind.i64.wrap (60 * -(-t.2 / 5000)) = 60 * -(-t.2 / 5000) ∧ IntKind.i64.wrap (120 + 60 * -(-t.2 / 5000)) = 120 + 60 * -(-t.2 / 5000) ∧ IntKind.i64.wrap (t.1 * (120 + 60 * -(-t.2 / 5000))) = timeT t := by
  have hb := timeT_bd h1 h2 h3 h4
  refine ⟨IntWalk.i64_in _ (by omega), IntWalk.i64_in _ (by omega), ?_⟩
  have : t.1 * (120 + 60 * -(-t.2 / 5000)) = timeT t := rfl
  rw [this]
  exact IntWalk.i64_in _ (by omega)
theorem l30Times_any (l : List (Int × Int)) (hp : stopsB l = true) (A : Option Addr) (B c : Nat) (w : World) (hr : Rd w B A (l.flatMap eEvacuationStop)) (hB : B ≤ w.heap.size) :
   Calls Try.prog 52 #[.slice A l.length c] w fun e w' => ∃ A' c', e = .returned (.slice A' (timesL l).length c') ∧ w'.ownsRow w.heap.size 2 1 (.slice A' (timesL l).length c') (timesL l).length (ints (timesL l)) ∧ Below w.heap.size w w' := by
  obtain ⟨i0, hi0, hz0, hz1, hz2⟩ := info_parts infoInt64
  have hat := fun k t => @stops_at l hp k t
  have hn12 := stopsB_len hp
  have Hat := Lib.hid hat
  clear hat hp
  go_enter Try.func52, Try.ntmps52
  go_wp2_with fail
  go_loopw [3, 4] (fun v i wr => ∃ k : Nat, k ≤ l.length ∧ i = .int .i64 k ∧ wr.ownsRow w.heap.size 2 1 v k (ints (timesL (l.take k))) ∧ Below w.heap.size w wr) (fun _ i _ => l.length - (intOf i).toNat)
  case atStart => exact ⟨0, Nat.zero_le _, rfl, World.ownsRow_made w #[] 0 (Nat.le_refl _) (by simp [maxLen]) rfl, by repeat' (first | (with_reducible exact Below.refl _ _) | (with_reducible assumption) | (with_reducible refine Below.alloc ?_ ?_ _) | (with_reducible refine Below.drew ?_) | (with_reducible refine below_drewN ?_ _) | (with_reducible refine Below.setCell ?_ ?_ _) | (with_reducible refine Below.trans ?_ (Below.mono (by assumption) ?_)) | go_size | (exact Below.size (by assumption)))⟩
  case round =>
    obtain ⟨k, hk, rfl, hown, hbw⟩ := hrel
    have hsz := hbw.size
    by_cases hlt : k < l.length
    · have ht := List.getElem?_eq_getElem hlt
      generalize l[k] = t at ht
      obtain ⟨b, o, rfl, _, c0, c1⟩ := (hr.below hbw hB).atEvacuationStop ht
      have hBt := Hat.out k t ht
      have hq : -20 ≤ (-t.2) / 5000 ∧ (-t.2) / 5000 ≤ 0 := by omega
      have Hs := Lib.hid (times_step ht)
      have Ht := Lib.hid ht
      have Ho := Lib.hid hown
      have Hr := Lib.hid hr
      have hkn : k ≤ 1048576 := by omega
      have hc1 : -1000000000000000000 ≤ t.2 := by omega
      have hc2 : t.2 ≤ 1000000000000000000 := by omega
      obtain ⟨e1, e2, e3⟩ := time_wraps hBt.1 hBt.2.1 hBt.2.2.1 hBt.2.2.2
      have Hq := Lib.hid hq
      clear ht hown hr hq
      go_wp2_with fail
      go_region_law (first
        | (refine step_append_int (w := World.drew wr) rfl (.tmp 12) (.tmp 27) 29 rfl w.heap.size 2 i0 Try.underlying29 hi0 hz0 hz1 hz2 _ _ (timesL (l.take k)) (by rfl) (own_drew Ho.out) (timeT t) _ (by rfl) (by rfl) hkn hsz ?_; intro v1 w1 own1 hb1 hz3; have O1 := Lib.hid own1; clear own1)
        | (go_simp; go_at_call 73; refine (ceil_any _ _ (by decide) (by decide) hc1 hc2 _).mono ?_; rintro e w' ⟨rfl, rfl⟩))
      all_goals go_wp2
      all_goals go_roundw
      all_goals first | exact ⟨k + 1, by omega, by go_num, by rw [Hs.out]; exact O1.out, hbw.drew.trans hb1⟩ | (simp [intOf]; omega)
    · have hk' : k = l.length := by omega
      subst hk'
      rw [List.take_length] at hown
      obtain ⟨A', c', rfl⟩ := own_val hown
      have Ho := Lib.hid hown
      clear hown
      go_wp2
      go_ret
      rw [timesL_length]
      exact ⟨_, _, rfl, Ho.out, hbw⟩
theorem stopTimes_any (l : List (Int × Int)) (hp : stopsB l = true) (A : Option Addr) (B c : Nat) (w : World) (hr : Rd w B A (l.flatMap eEvacuationStop)) (hB : B ≤ w.heap.size) :
   Calls Try.prog 53 #[.slice A l.length c] w fun e w' => ∃ A' c', e = .returned (.slice A' (timesL l).length c') ∧ w'.ownsRow w.heap.size 2 1 (.slice A' (timesL l).length c') (timesL l).length (ints (timesL l)) ∧ Below w.heap.size w w' := by
  obtain ⟨i0, hi0, hz0, hz1, hz2⟩ := info_parts infoInt64
  have hat := fun k t => @stops_at l hp k t
  have hn12 := stopsB_len hp
  have Hat := Lib.hid hat
  clear hat hp
  go_enter Try.func53, Try.ntmps53
  go_wp2_with fail
  go_loopw [3, 8] (fun v i wr => ∃ k : Nat, k ≤ l.length ∧ i = .int .i64 k ∧ wr.ownsRow w.heap.size 2 1 v k (ints (timesL (l.take k))) ∧ Below w.heap.size w wr) (fun _ i _ => l.length - (intOf i).toNat)
  case atStart => exact ⟨0, Nat.zero_le _, rfl, World.ownsRow_nil _ _ _ _, by repeat' (first | (with_reducible exact Below.refl _ _) | (with_reducible assumption) | (with_reducible refine Below.alloc ?_ ?_ _) | (with_reducible refine Below.drew ?_) | (with_reducible refine below_drewN ?_ _) | (with_reducible refine Below.setCell ?_ ?_ _) | (with_reducible refine Below.trans ?_ (Below.mono (by assumption) ?_)) | go_size | (exact Below.size (by assumption)))⟩
  case round =>
    obtain ⟨k, hk, rfl, hown, hbw⟩ := hrel
    have hsz := hbw.size
    by_cases hlt : k < l.length
    · have ht := List.getElem?_eq_getElem hlt
      generalize l[k] = t at ht
      obtain ⟨b, o, rfl, _, c0, c1⟩ := (hr.below hbw hB).atEvacuationStop ht
      have hBt := Hat.out k t ht
      have hq : -20 ≤ (-t.2) / 5000 ∧ (-t.2) / 5000 ≤ 0 := by omega
      have Hs := Lib.hid (times_step ht)
      have Ht := Lib.hid ht
      have Ho := Lib.hid hown
      have Hr := Lib.hid hr
      have hkn : k ≤ 1048576 := by omega
      have hsz1 : w.heap.size ≤ (World.drew (wr.alloc (.cells #[.int .i64 t.1, .int .i64 t.2] 54))).heap.size := by simp; omega
      have hsz2 := Lib.hid hsz1
      have hc1 : -1000000000000000000 ≤ t.2 := by omega
      have hc2 : t.2 ≤ 1000000000000000000 := by omega
      obtain ⟨e1, e2, e3⟩ := time_wraps hBt.1 hBt.2.1 hBt.2.2.1 hBt.2.2.2
      have Hq := Lib.hid hq
      clear ht hown hr hq
      go_wp2_with fail
      go_region_law (first
        | (refine step_append_int (w := World.drew (wr.alloc (.cells #[.int .i64 t.1, .int .i64 t.2] 54))) rfl (.tmp 12) (.tmp 21) 29 rfl w.heap.size 2 i0 Try.underlying29 hi0 hz0 hz1 hz2 _ _ (timesL (l.take k)) (by rfl) (own_drew (Ho.out.alloc _)) (timeT t) (wr.heap.size + 1) (by simp) (by rfl) hkn hsz1 ?_; intro v1 w1 own1 hb1 hz3; have O1 := Lib.hid own1; clear own1)
        | (go_simp; go_at_call 74; refine (up_any _ _ (by decide) (by decide) hc1 hc2 _).mono ?_; rintro e w' ⟨rfl, rfl⟩))
      all_goals go_wp2
      all_goals go_roundw
      all_goals first | exact ⟨k + 1, by omega, by go_num, by rw [Hs.out]; exact O1.out, (hbw.trans ((Below.refl _ _).alloc hsz _)).drew.trans hb1⟩ | (simp [intOf]; omega)
    · have hk' : k = l.length := by omega
      subst hk'
      rw [List.take_length] at hown
      obtain ⟨A', c', rfl⟩ := own_val hown
      have Ho := Lib.hid hown
      clear hown
      go_wp2
      go_ret
      rw [timesL_length]
      exact ⟨_, _, rfl, Ho.out, hbw⟩
end Go.Proofs.Ytmeppemobogicaa
