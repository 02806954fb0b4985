/- Lists of segments: the marks of the laws. -/
import Derived.Test.YtooifamckccadaaSg
import Derived.Test.YtooifamckccadaaRd
import Derived.Deep.RegionWith
namespace Go.Proofs.Ytooifamckccadaa
open Go.ChangeShapes Go.WideShapes Go.ChangeAt Go.RowKit
set_option linter.unusedVariables false
set_option linter.unusedSimpArgs false
set_option maxRecDepth 20000
set_option maxHeartbeats 1000000
def marksSegment (q : Int) (n : Nat) : List (Int × Int × Int × Int × Int × Int × Int) := (List.range n).map fun i : Nat => (q + (i : Int) * 7, q + (i : Int) * 7 + 1, q + (i : Int) * 7 + 1 + 1, q + (i : Int) * 7 + 1 + 1 + 1, q + (i : Int) * 7 + 1 + 1 + 1 + 1, q + (i : Int) * 7 + 1 + 1 + 1 + 1 + 1, q + (i : Int) * 7 + 1 + 1 + 1 + 1 + 1 + 1)
theorem marksSegment_length (q : Int) (n : Nat) : (marksSegment q n).length = n := by simp [marksSegment]
theorem marksSegment_at (q : Int) {n k : Nat} (h : k < n) : (marksSegment q n)[k]? = some ((fun i : Nat => (q + (i : Int) * 7, q + (i : Int) * 7 + 1, q + (i : Int) * 7 + 1 + 1, q + (i : Int) * 7 + 1 + 1 + 1, q + (i : Int) * 7 + 1 + 1 + 1 + 1, q + (i : Int) * 7 + 1 + 1 + 1 + 1 + 1, q + (i : Int) * 7 + 1 + 1 + 1 + 1 + 1 + 1)) k) := by simp [marksSegment, h]
theorem markSegmentS_any (m : Nat) (A : Option Addr) (base c : Nat) (xs : List Value) (q : Int) (w : World) (hown : w.ownsRow base 39 7 (.slice A m c) m xs) (hq : 0 ≤ q) (hq2 : q ≤ 16777216) (hn : m ≤ 1048576) :
   Calls Try.prog 114 #[.slice A m c, .int .i64 q] w fun e w' => e = .returned (.int .i64 (q + (m : Int) * 7)) ∧ w'.ownsRow base 39 7 (.slice A m c) m ((marksSegment q m).flatMap eSegment) ∧ w.grownBy w' (Value.slice A m c).ownBlock := by
  go_enter Try.func114, Try.ntmps114
  go_wp2_with fail
  go_loopw [1, 5] (fun qq i wr => ∃ k : Nat, k ≤ m ∧ i = .int .i64 k ∧ qq = .int .i64 (q + (k : Int) * 7) ∧ w.grownBy wr (Value.slice A m c).ownBlock ∧ ∃ xs, wr.ownsRow base 39 7 (.slice A m c) m xs ∧ ∀ j, j < k * 7 → xs[j]? = ((marksSegment q m).flatMap eSegment)[j]?) (fun _ i _ => m - (intOf i).toNat)
  case atStart => exact ⟨0, Nat.zero_le _, rfl, vint (by omega), World.grownBy.refl w _, xs, hown, fun j hj => by omega⟩
  case round =>
    clear hown
    obtain ⟨k, hk, rfl, rfl, hg, ys, hown, hys⟩ := hrel
    by_cases hlt : k < m
    · obtain ⟨G, rfl, hG1, hG2⟩ := own_form hown (by omega)
      have hl2 := hown.1
      have d0 := hown.cellAt (k * 7) (by omega)
      rw [List.getElem?_eq_getElem (show k * 7 < ys.length by omega)] at d0
      generalize ys[k * 7] = u0 at d0
      have d1 := hown.cellAt (k * 7 + 1) (by omega)
      rw [List.getElem?_eq_getElem (show k * 7 + 1 < ys.length by omega)] at d1
      generalize ys[k * 7 + 1] = u1 at d1
      have d2 := hown.cellAt (k * 7 + 2) (by omega)
      rw [List.getElem?_eq_getElem (show k * 7 + 2 < ys.length by omega)] at d2
      generalize ys[k * 7 + 2] = u2 at d2
      have d3 := hown.cellAt (k * 7 + 3) (by omega)
      rw [List.getElem?_eq_getElem (show k * 7 + 3 < ys.length by omega)] at d3
      generalize ys[k * 7 + 3] = u3 at d3
      have d4 := hown.cellAt (k * 7 + 4) (by omega)
      rw [List.getElem?_eq_getElem (show k * 7 + 4 < ys.length by omega)] at d4
      generalize ys[k * 7 + 4] = u4 at d4
      have d5 := hown.cellAt (k * 7 + 5) (by omega)
      rw [List.getElem?_eq_getElem (show k * 7 + 5 < ys.length by omega)] at d5
      generalize ys[k * 7 + 5] = u5 at d5
      have d6 := hown.cellAt (k * 7 + 6) (by omega)
      rw [List.getElem?_eq_getElem (show k * 7 + 6 < ys.length by omega)] at d6
      generalize ys[k * 7 + 6] = u6 at d6
      have hfz := hown.frozenAt
      have Ho := Lib.hid hown
      have Hy := Lib.hid hys
      have Hl := Lib.hid hl2
      have Hg := Lib.hid hg
      clear hown hys hl2 hg
      go_wp2
      go_roundw
      case rel =>
        have o1 := World.ownsRow.stored Ho.out (k * 7) (.int .i64 (q + (k : Int) * 7))
        have o2 := World.ownsRow.stored o1.1 (k * 7 + 1) (.int .i64 (q + (k : Int) * 7 + 1))
        have o3 := World.ownsRow.stored o2.1 (k * 7 + 2) (.int .i64 (q + (k : Int) * 7 + 1 + 1))
        have o4 := World.ownsRow.stored o3.1 (k * 7 + 3) (.int .i64 (q + (k : Int) * 7 + 1 + 1 + 1))
        have o5 := World.ownsRow.stored o4.1 (k * 7 + 4) (.int .i64 (q + (k : Int) * 7 + 1 + 1 + 1 + 1))
        have o6 := World.ownsRow.stored o5.1 (k * 7 + 5) (.int .i64 (q + (k : Int) * 7 + 1 + 1 + 1 + 1 + 1))
        have o7 := World.ownsRow.stored o6.1 (k * 7 + 6) (.int .i64 (q + (k : Int) * 7 + 1 + 1 + 1 + 1 + 1 + 1))
        have hl := Hl.out
        exact ⟨k + 1, by omega, by go_num, vint (by omega), (grownBy_trans (grownBy_trans (grownBy_trans (grownBy_trans (grownBy_trans (grownBy_trans (grownBy_trans Hg.out o1.2) o2.2) o3.2) o4.2) o5.2) o6.2) o7.2), _, o7.1, fun j hj => (set_one (set_one (set_one (set_one (set_one (set_one (set_one Hy.out (by first | omega | (simp; omega)) (flat_get eSegment 7 eSegment_len (marksSegment q m) k _ 0 _ (marksSegment_at q hlt) rfl)) (by first | omega | (simp; omega)) (flat_get eSegment 7 eSegment_len (marksSegment q m) k _ 1 _ (marksSegment_at q hlt) rfl)) (by first | omega | (simp; omega)) (flat_get eSegment 7 eSegment_len (marksSegment q m) k _ 2 _ (marksSegment_at q hlt) rfl)) (by first | omega | (simp; omega)) (flat_get eSegment 7 eSegment_len (marksSegment q m) k _ 3 _ (marksSegment_at q hlt) rfl)) (by first | omega | (simp; omega)) (flat_get eSegment 7 eSegment_len (marksSegment q m) k _ 4 _ (marksSegment_at q hlt) rfl)) (by first | omega | (simp; omega)) (flat_get eSegment 7 eSegment_len (marksSegment q m) k _ 5 _ (marksSegment_at q hlt) rfl)) (by first | omega | (simp; omega)) (flat_get eSegment 7 eSegment_len (marksSegment q m) k _ 6 _ (marksSegment_at q hlt) rfl)) j (by omega)⟩
      case measure => simp [intOf]; omega
    · have hk' : k = m := by omega
      subst hk'
      have hy : ys = (marksSegment q k).flatMap eSegment := eq_of_upto hys (by rw [hown.1, flat_len eSegment 7 eSegment_len, marksSegment_length]) (by rw [hown.1]; omega)
      have Ho := Lib.hid (hy ▸ hown)
      have Hg := Lib.hid hg
      clear hown hys hy hg
      go_wp2
      go_ret
      exact ⟨rfl, Ho.out, Hg.out⟩
end Go.Proofs.Ytooifamckccadaa
