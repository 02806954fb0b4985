/- The helpers of the laws on lists of commands. -/
import Derived.Test.YtakchdkoildkbaaDoorA
import Derived.Deep.RegionWith
namespace Go.Proofs.YtakchdkoildkbaaDoor
open Go.ChangeShapes Go.WideShapes Go.ChangeAt Go.RowKit
set_option linter.unusedVariables false
set_option linter.unusedSimpArgs false
theorem infoCommand : (Tryd.prog.info? 31).map (fun i => (i.zero, i.size, i.bytes)) = some (some (.agg #[.int .i64 0, .int .i64 0, .bool false]), 3, 24) := by kernel_rfl
theorem toCommandS_any (l : List (Int × Int × Bool)) (A : Option Addr) (B c : Nat) (w : World) (hr : Rd w B A (l.flatMap eCommand)) (hB : B ≤ w.heap.size) (hn : l.length ≤ 1048576) :
   Calls Tryd.prog 26 #[.slice A l.length c] w fun e w' => ∃ A' c', e = .returned (.slice A' l.length c') ∧ w'.ownsRow w.heap.size 31 3 (.slice A' l.length c') l.length (l.flatMap eCommand) ∧ Below w.heap.size w w' := by
  obtain ⟨i0, hi0, hz0, hz1, hz2⟩ := info_parts infoCommand
  obtain ⟨w1, xs, hmk, hown, hxs, hb1, hz⟩ := mk_own (P := Tryd.prog) 37 31 i0 _ 3 24 Tryd.underlying37 hi0 hz0 hz1 hz2 .i64 .i64 l.length (by omega) (by unfold maxLen; omega) w.heap.size w (Nat.le_refl _)
  clear hxs
  generalize hG : w.heap.size = G at *
  go_enter Tryd.func26, Tryd.ntmps26
  go_wp2_with fail
  go_loopw [4] (fun i wr => ∃ k : Nat, k ≤ l.length ∧ i = .int .i64 k ∧ Below G w wr ∧ G < wr.heap.size ∧ ∃ xs, wr.ownsRow G 31 3 (.slice (some ⟨G, 0, none⟩) l.length l.length) l.length xs ∧ ∀ j, j < k * 3 → xs[j]? = (l.flatMap eCommand)[j]?) (fun i _ => l.length - (intOf i).toNat)
  case atStart => exact ⟨0, Nat.zero_le _, rfl, hb1, hz, xs, hown, fun j hj => by omega⟩
  case round =>
    clear hmk hown hb1
    obtain ⟨k, hk, rfl, hbw, hsz, ys, hown, hys⟩ := hrel
    by_cases hlt : k < l.length
    · have ht := List.getElem?_eq_getElem hlt
      generalize l[k] = t at ht
      have hr' := hr.below hbw (by omega)
      obtain ⟨b, o, rfl, _, c0, c1, c2⟩ := hr'.atCommand ht
      have hl2 := hown.1
      have d0 := hown.cellAt (k * 3) (by omega)
      rw [List.getElem?_eq_getElem (show k * 3 < ys.length by omega)] at d0
      generalize ys[k * 3] = u0 at d0
      have d1 := hown.cellAt (k * 3 + 1) (by omega)
      rw [List.getElem?_eq_getElem (show k * 3 + 1 < ys.length by omega)] at d1
      generalize ys[k * 3 + 1] = u1 at d1
      have d2 := hown.cellAt (k * 3 + 2) (by omega)
      rw [List.getElem?_eq_getElem (show k * 3 + 2 < ys.length by omega)] at d2
      generalize ys[k * 3 + 2] = u2 at d2
      have hfz := hown.frozenAt
      have Ht := Lib.hid ht
      have Hr := Lib.hid hr
      have Hr' := Lib.hid hr'
      have Ho := Lib.hid hown
      have Hy := Lib.hid hys
      have Hl := Lib.hid hl2
      clear ht hr hr' hown hys hl2
      go_wp2_with (go_at_call 52; refine (toCommand_any _ _ _ _).mono ?_; rintro e w2 ⟨rfl, hb⟩; obtain ⟨hc, hf, hz2⟩ := bstep (N := wr.heap.size) (Nat.le_refl _) hb)
      go_roundw
      case rel =>
        have o1 := World.ownsRow.stored (own_below Ho.out hb) (k * 3) (.int .i64 t.1)
        have o2 := World.ownsRow.stored o1.1 (k * 3 + 1) (.int .i64 t.2.1)
        have o3 := World.ownsRow.stored o2.1 (k * 3 + 2) (.bool t.2.2)
        have hl := Hl.out
        exact ⟨k + 1, by omega, by go_num, by repeat' (first | (with_reducible exact Below.refl _ _) | (with_reducible assumption) | (with_reducible refine Below.alloc ?_ ?_ _) | (with_reducible refine Below.drew ?_) | (with_reducible refine below_drewN ?_ _) | (with_reducible refine Below.setCell ?_ ?_ _) | (with_reducible refine Below.trans ?_ (Below.mono (by assumption) ?_)) | go_size | (exact Below.size (by assumption))), by simp; omega, _, o3.1, fun j hj => (set_one (set_one (set_one Hy.out (by first | omega | (simp; omega)) (flat_get eCommand 3 eCommand_len l k t 0 _ Ht.out rfl)) (by first | omega | (simp; omega)) (flat_get eCommand 3 eCommand_len l k t 1 _ Ht.out rfl)) (by first | omega | (simp; omega)) (flat_get eCommand 3 eCommand_len l k t 2 _ Ht.out rfl)) j (by omega)⟩
      case measure => simp [intOf]; omega
    · have hk' : k = l.length := by omega
      subst hk'
      have hy : ys = l.flatMap eCommand := eq_of_upto hys (by rw [hown.1, flat_len eCommand 3 eCommand_len]) (by rw [hown.1]; omega)
      have Ho := Lib.hid (hy ▸ hown)
      clear hown hys hy
      go_wp2
      go_ret
      exact ⟨_, _, rfl, Ho.out, by repeat' (first | (with_reducible exact Below.refl _ _) | (with_reducible assumption) | (with_reducible refine Below.alloc ?_ ?_ _) | (with_reducible refine Below.drew ?_) | (with_reducible refine below_drewN ?_ _) | (with_reducible refine Below.setCell ?_ ?_ _) | (with_reducible refine Below.trans ?_ (Below.mono (by assumption) ?_)) | go_size | (exact Below.size (by assumption)))⟩
set_option maxRecDepth 20000 in
theorem eqCommandS_same (l : List (Int × Int × Bool)) (A A' : Option Addr) (B c c' : Nat) (w : World) (hr : Rd w B A (l.flatMap eCommand)) (hr2 : Rd w B A' (l.flatMap eCommand)) (hB : B ≤ w.heap.size) (hn : l.length ≤ 1048576) :
   Calls Tryd.prog 27 #[.slice A l.length c, .slice A' l.length c'] w fun e w' => e = .returned (.bool true) ∧ Below w.heap.size w w' := by
  go_enter Tryd.func27, Tryd.ntmps27
  go_wp2_with fail
  go_loopw [5] (fun i wr => ∃ k : Nat, k ≤ l.length ∧ i = .int .i64 k ∧ Below w.heap.size w wr) (fun i _ => l.length - (intOf i).toNat)
  case atStart => exact ⟨0, Nat.zero_le _, rfl, Below.refl _ _⟩
  case round =>
    obtain ⟨k, hk, rfl, hbw⟩ := hrel
    by_cases hlt : k < l.length
    · have ht := List.getElem?_eq_getElem hlt
      generalize l[k] = t at ht
      have hsz := hbw.size
      have hr' := hr.below hbw hB
      have hr2' := hr2.below hbw hB
      obtain ⟨b, o, rfl, _, c0, c1, c2⟩ := hr'.atCommand ht
      obtain ⟨b2, o2, rfl, _, d0, d1, d2⟩ := hr2'.atCommand ht
      clear ht hr hr' hr2 hr2'
      go_wp2_with fail
      go_region_with ((go_at_call 53; refine (eqCommand_same _ _ _ _).mono ?_; rintro e w2 ⟨rfl, hb⟩))
      all_goals go_wp2
      all_goals go_roundw
      all_goals first | exact ⟨k + 1, by omega, by go_num, by repeat' (first | (with_reducible exact Below.refl _ _) | (with_reducible assumption) | (with_reducible refine Below.alloc ?_ ?_ _) | (with_reducible refine Below.drew ?_) | (with_reducible refine below_drewN ?_ _) | (with_reducible refine Below.setCell ?_ ?_ _) | (with_reducible refine Below.trans ?_ (Below.mono (by assumption) ?_)) | go_size | (exact Below.size (by assumption)))⟩ | (simp [intOf]; omega)
    · have hk' : k = l.length := by omega
      subst hk'
      go_wp2
      go_ret
      exact ⟨rfl, hbw⟩
def marksCommand (q : Int) (n : Nat) : List (Int × Int × Bool) := (List.range n).map fun i : Nat => (q + (i : Int) * 3, q + (i : Int) * 3 + 1, (q + (i : Int) * 3 + 1 + 1) % 3 == 0)
theorem marksCommand_length (q : Int) (n : Nat) : (marksCommand q n).length = n := by simp [marksCommand]
theorem marksCommand_at (q : Int) {n k : Nat} (h : k < n) : (marksCommand q n)[k]? = some ((fun i : Nat => (q + (i : Int) * 3, q + (i : Int) * 3 + 1, (q + (i : Int) * 3 + 1 + 1) % 3 == 0)) k) := by simp [marksCommand, h]
theorem markCommandS_any (m : Nat) (A : Option Addr) (base c : Nat) (xs : List Value) (q : Int) (w : World) (hown : w.ownsRow base 31 3 (.slice A m c) m xs) (hq : 0 ≤ q) (hq2 : q ≤ 16777216) (hn : m ≤ 1048576) :
   Calls Tryd.prog 28 #[.slice A m c, .int .i64 q] w fun e w' => e = .returned (.int .i64 (q + (m : Int) * 3)) ∧ w'.ownsRow base 31 3 (.slice A m c) m ((marksCommand q m).flatMap eCommand) ∧ w.grownBy w' (Value.slice A m c).ownBlock := by
  go_enter Tryd.func28, Tryd.ntmps28
  go_wp2_with fail
  go_loopw [1, 5] (fun qq i wr => ∃ k : Nat, k ≤ m ∧ i = .int .i64 k ∧ qq = .int .i64 (q + (k : Int) * 3) ∧ w.grownBy wr (Value.slice A m c).ownBlock ∧ ∃ xs, wr.ownsRow base 31 3 (.slice A m c) m xs ∧ ∀ j, j < k * 3 → xs[j]? = ((marksCommand q m).flatMap eCommand)[j]?) (fun _ i _ => m - (intOf i).toNat)
  case atStart => exact ⟨0, Nat.zero_le _, rfl, vint (by omega), World.grownBy.refl w _, xs, hown, fun j hj => by omega⟩
  case round =>
    clear hown
    obtain ⟨k, hk, rfl, rfl, hg, ys, hown, hys⟩ := hrel
    by_cases hlt : k < m
    · obtain ⟨G, rfl, hG1, hG2⟩ := own_form hown (by omega)
      have hl2 := hown.1
      have d0 := hown.cellAt (k * 3) (by omega)
      rw [List.getElem?_eq_getElem (show k * 3 < ys.length by omega)] at d0
      generalize ys[k * 3] = u0 at d0
      have d1 := hown.cellAt (k * 3 + 1) (by omega)
      rw [List.getElem?_eq_getElem (show k * 3 + 1 < ys.length by omega)] at d1
      generalize ys[k * 3 + 1] = u1 at d1
      have d2 := hown.cellAt (k * 3 + 2) (by omega)
      rw [List.getElem?_eq_getElem (show k * 3 + 2 < ys.length by omega)] at d2
      generalize ys[k * 3 + 2] = u2 at d2
      have hfz := hown.frozenAt
      have Ho := Lib.hid hown
      have Hy := Lib.hid hys
      have Hl := Lib.hid hl2
      have Hg := Lib.hid hg
      clear hown hys hl2 hg
      go_wp2
      go_roundw
      case rel =>
        have o1 := World.ownsRow.stored Ho.out (k * 3) (.int .i64 (q + (k : Int) * 3))
        have o2 := World.ownsRow.stored o1.1 (k * 3 + 1) (.int .i64 (q + (k : Int) * 3 + 1))
        have o3 := World.ownsRow.stored o2.1 (k * 3 + 2) (.bool ((q + (k : Int) * 3 + 1 + 1) % 3 == 0))
        have hl := Hl.out
        exact ⟨k + 1, by omega, by go_num, vint (by omega), (grownBy_trans (grownBy_trans (grownBy_trans Hg.out o1.2) o2.2) o3.2), _, o3.1, fun j hj => (set_one (set_one (set_one Hy.out (by first | omega | (simp; omega)) (flat_get eCommand 3 eCommand_len (marksCommand q m) k _ 0 _ (marksCommand_at q hlt) rfl)) (by first | omega | (simp; omega)) (flat_get eCommand 3 eCommand_len (marksCommand q m) k _ 1 _ (marksCommand_at q hlt) rfl)) (by first | omega | (simp; omega)) (flat_get eCommand 3 eCommand_len (marksCommand q m) k _ 2 _ (marksCommand_at q hlt) rfl)) j (by omega)⟩
      case measure => simp [intOf]; omega
    · have hk' : k = m := by omega
      subst hk'
      have hy : ys = (marksCommand q k).flatMap eCommand := eq_of_upto hys (by rw [hown.1, flat_len eCommand 3 eCommand_len, marksCommand_length]) (by rw [hown.1]; omega)
      have Ho := Lib.hid (hy ▸ hown)
      have Hg := Lib.hid hg
      clear hown hys hy hg
      go_wp2
      go_ret
      exact ⟨rfl, Ho.out, Hg.out⟩
end Go.Proofs.YtakchdkoildkbaaDoor
