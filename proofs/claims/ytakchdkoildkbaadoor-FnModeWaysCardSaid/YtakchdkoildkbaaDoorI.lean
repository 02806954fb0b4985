/- The helpers of the laws on lists of numbers. -/
import Derived.Test.YtakchdkoildkbaaDoorRows
import Derived.Test.YtakchdkoildkbaaDoorRd
namespace Go.Proofs.YtakchdkoildkbaaDoor
open Go.ChangeShapes Go.WideShapes Go.ChangeAt Go.RowKit
set_option linter.unusedVariables false
set_option linter.unusedSimpArgs false
theorem infoInt64 : (Tryd.prog.info? 2).map (fun i => (i.zero, i.size, i.bytes)) = some (some (.int .i64 0), 1, 8) := by kernel_rfl
theorem eqInt64S_same (l : List Int) (A A' : Option Addr) (B c c' : Nat) (w : World) (hr : Rd w B A (ints l)) (hr2 : Rd w B A' (ints l)) (hB : B ≤ w.heap.size) (hn : l.length ≤ 1048576) :
   Calls Tryd.prog 10 #[.slice A l.length c, .slice A' l.length c'] w fun e w' => e = .returned (.bool true) ∧ Below w.heap.size w w' := by
  go_enter Tryd.func10, Tryd.ntmps10
  go_wp2_with fail
  go_loopw [5] (fun i wr => ∃ k : Nat, k ≤ l.length ∧ i = .int .i64 k ∧ ∃ q, wr = w.drewN q) (fun i _ => l.length - (intOf i).toNat)
  case atStart => exact ⟨0, Nat.zero_le _, rfl, 0, rfl⟩
  case round =>
    obtain ⟨k, hk, rfl, q, rfl⟩ := hrel
    by_cases hlt : k < l.length
    · have ht := List.getElem?_eq_getElem hlt
      generalize l[k] = t at ht
      obtain ⟨b, o, rfl, _, c0⟩ := hr.int ht
      obtain ⟨b2, o2, rfl, _, d0⟩ := hr2.int ht
      clear ht hr hr2
      go_wp2_with fail
      go_quiet (fail)
      go_wp2
      go_roundw
      case rel => exact ⟨k + 1, by omega, by go_num, _, rfl⟩
      case measure => simp [intOf]; omega
    · have hk' : k = l.length := by omega
      subst hk'
      go_wp2
      go_ret
      exact ⟨rfl, by repeat' (first | (with_reducible exact Below.refl _ _) | (with_reducible assumption) | (with_reducible refine Below.alloc ?_ ?_ _) | (with_reducible refine Below.drew ?_) | (with_reducible refine below_drewN ?_ _) | (with_reducible refine Below.setCell ?_ ?_ _) | (with_reducible refine Below.trans ?_ (Below.mono (by assumption) ?_)) | go_size | (exact Below.size (by assumption)))⟩
def marksInt64 (q : Int) (n : Nat) : List Int := (List.range n).map fun i : Nat => q + (i : Int)
theorem marksInt64_length (q : Int) (n : Nat) : (marksInt64 q n).length = n := by simp [marksInt64]
theorem marksInt64_at (q : Int) {n k : Nat} (h : k < n) : (marksInt64 q n)[k]? = some (q + (k : Int)) := by simp [marksInt64, h]
theorem markInt64S_any (m : Nat) (A : Option Addr) (base c : Nat) (xs : List Value) (q : Int) (w : World) (hown : w.ownsRow base 2 1 (.slice A m c) m xs) (hq : 0 ≤ q) (hq2 : q ≤ 16777216) (hn : m ≤ 1048576) :
   Calls Tryd.prog 11 #[.slice A m c, .int .i64 q] w fun e w' => e = .returned (.int .i64 (q + (m : Int))) ∧ w'.ownsRow base 2 1 (.slice A m c) m (ints (marksInt64 q m)) ∧ w.grownBy w' (Value.slice A m c).ownBlock := by
  go_enter Tryd.func11, Tryd.ntmps11
  go_wp2_with fail
  go_loopw [1, 5] (fun qq i wr => ∃ k : Nat, k ≤ m ∧ i = .int .i64 k ∧ qq = .int .i64 (q + (k : Int)) ∧ w.grownBy wr (Value.slice A m c).ownBlock ∧ ∃ xs, wr.ownsRow base 2 1 (.slice A m c) m xs ∧ ∀ j, j < k → xs[j]? = (ints (marksInt64 q m))[j]?) (fun _ i _ => m - (intOf i).toNat)
  case atStart => exact ⟨0, Nat.zero_le _, rfl, vint (by omega), World.grownBy.refl w _, xs, hown, fun j hj => by omega⟩
  case round =>
    clear hown
    obtain ⟨k, hk, rfl, rfl, hg, ys, hown, hys⟩ := hrel
    by_cases hlt : k < m
    · obtain ⟨G, rfl, hG1, hG2⟩ := own_form hown (by omega)
      have hl2 := hown.1
      have d0 := hown.cellAt k (by omega)
      rw [List.getElem?_eq_getElem (show k < ys.length by omega)] at d0
      generalize ys[k] = u0 at d0
      have hfz := hown.frozenAt
      have hkk : (ints (marksInt64 q m))[k]? = some (.int .i64 (q + (k : Int))) := by rw [ints, List.getElem?_map, marksInt64_at q hlt]; rfl
      have Hk := Lib.hid hkk
      have Ho := Lib.hid hown
      have Hy := Lib.hid hys
      have Hl := Lib.hid hl2
      have Hg := Lib.hid hg
      clear hown hys hl2 hg hkk
      go_wp2
      go_roundw
      case rel =>
        have o1 := World.ownsRow.stored Ho.out k (.int .i64 (q + (k : Int)))
        have hl := Hl.out
        exact ⟨k + 1, by omega, by go_num, vint (by omega), grownBy_trans Hg.out o1.2, _, o1.1, fun j hj => set_one Hy.out (by omega) Hk.out j (by omega)⟩
      case measure => simp [intOf]; omega
    · have hk' : k = m := by omega
      subst hk'
      have hy : ys = ints (marksInt64 q k) := eq_of_upto hys (by rw [hown.1, ints_length, marksInt64_length]; omega) (by rw [hown.1]; omega)
      have Ho := Lib.hid (hy ▸ hown)
      have Hg := Lib.hid hg
      clear hown hys hy hg
      go_wp2
      go_ret
      exact ⟨rfl, Ho.out, Hg.out⟩
theorem heldInt64S_any (m : Nat) (A : Option Addr) (B c : Nat) (q : Int) (w : World) (hr : Rd w B A (ints (marksInt64 q m))) (hq : 0 ≤ q) (hq2 : q ≤ 16777216) (hn : m ≤ 1048576) :
   Calls Tryd.prog 12 #[.slice A m c, .int .i64 q] w fun e w' => e = .returned (.int .i64 (q + (m : Int))) ∧ w = w' := by
  go_enter Tryd.func12, Tryd.ntmps12
  go_wp2_with fail
  go_loop [1, 5] (fun qq i => ∃ k : Nat, k ≤ m ∧ i = .int .i64 k ∧ qq = .int .i64 (q + (k : Int))) (fun _ i => m - (intOf i).toNat)
  case atStart => exact ⟨0, Nat.zero_le _, rfl, vint (by omega)⟩
  case round =>
    obtain ⟨k, hk, rfl, rfl⟩ := hrel
    by_cases hlt : k < m
    · obtain ⟨b, o, rfl, _, c0⟩ := hr.int (marksInt64_at q hlt)
      clear hr
      go_wp2
      go_round
      case rel => exact ⟨k + 1, by omega, by go_num, vint (by omega)⟩
      case measure => simp [intOf]; omega
    · have hk' : k = m := by omega
      subst hk'
      go_wp2
      go_ret
      exact ⟨rfl, rfl⟩
end Go.Proofs.YtakchdkoildkbaaDoor
