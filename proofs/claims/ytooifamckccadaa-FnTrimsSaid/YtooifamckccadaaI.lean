/- The helpers of the laws on lists of numbers. -/
import Derived.Test.YtooifamckccadaaRows
import Derived.Test.YtooifamckccadaaRd
namespace Go.Proofs.Ytooifamckccadaa
open Go.ChangeShapes Go.WideShapes Go.ChangeAt Go.RowKit
set_option linter.unusedVariables false
set_option linter.unusedSimpArgs false
theorem infoInt64 : (Try.prog.info? 2).map (fun i => (i.zero, i.size, i.bytes)) = some (some (.int .i64 0), 1, 8) := by kernel_rfl
theorem toInt64S_any (l : List Int) (A : Option Addr) (B c : Nat) (w : World) (hr : Rd w B A (ints l)) (hB : B ≤ w.heap.size) (hn : l.length ≤ 1048576) :
   Calls Try.prog 49 #[.slice A l.length c] w fun e w' => ∃ A' c', e = .returned (.slice A' l.length c') ∧ w'.ownsRow w.heap.size 2 1 (.slice A' l.length c') l.length (ints l) ∧ Below w.heap.size w w' := by
  obtain ⟨i0, hi0, hz0, hz1, hz2⟩ := info_parts infoInt64
  obtain ⟨w1, xs, hmk, hown, hxs, hb1, hz⟩ := mk_own (P := Try.prog) 27 2 i0 _ 1 8 Try.underlying27 hi0 hz0 hz1 hz2 .i64 .i64 l.length (by omega) (by unfold maxLen; omega) w.heap.size w (Nat.le_refl _)
  clear hxs
  generalize hG : w.heap.size = G at *
  go_enter Try.func49, Try.ntmps49
  go_wp2_with fail
  go_loopw [4] (fun i wr => ∃ k : Nat, k ≤ l.length ∧ i = .int .i64 k ∧ Below G w wr ∧ G < wr.heap.size ∧ ∃ xs, wr.ownsRow G 2 1 (.slice (some ⟨G, 0, none⟩) l.length l.length) l.length xs ∧ ∀ j, j < k → xs[j]? = (ints l)[j]?) (fun i _ => l.length - (intOf i).toNat)
  case atStart => exact ⟨0, Nat.zero_le _, rfl, hb1, hz, xs, hown, fun j hj => by omega⟩
  case round =>
    clear hmk hown hb1
    obtain ⟨k, hk, rfl, hbw, hsz, ys, hown, hys⟩ := hrel
    by_cases hlt : k < l.length
    · have ht := List.getElem?_eq_getElem hlt
      generalize l[k] = t at ht
      have hr' := hr.below hbw (by omega)
      obtain ⟨b, o, rfl, hbB, c0⟩ := hr'.int ht
      have hl2 := hown.1
      have d0 := hown.cellAt k (by omega)
      rw [List.getElem?_eq_getElem (show k < ys.length by omega)] at d0
      generalize ys[k] = u0 at d0
      have hfz := hown.frozenAt
      have hkk : (ints l)[k]? = some (.int .i64 t) := by simp [ints, ht]
      have Ht := Lib.hid ht
      have Hk := Lib.hid hkk
      have Hr := Lib.hid hr
      have Hr' := Lib.hid hr'
      have Ho := Lib.hid hown
      have Hy := Lib.hid hys
      have Hl := Lib.hid hl2
      clear ht hkk hr hr' hown hys hl2
      go_wp2
      go_roundw
      case rel =>
        have o1 := World.ownsRow.stored Ho.out k (.int .i64 t)
        have hl := Hl.out
        exact ⟨k + 1, by omega, by go_num, by repeat' (first | (with_reducible exact Below.refl _ _) | (with_reducible assumption) | (with_reducible refine Below.alloc ?_ ?_ _) | (with_reducible refine Below.drew ?_) | (with_reducible refine below_drewN ?_ _) | (with_reducible refine Below.setCell ?_ ?_ _) | (with_reducible refine Below.trans ?_ (Below.mono (by assumption) ?_)) | go_size | (exact Below.size (by assumption))), by first | omega | (simp; omega), _, o1.1, fun j hj => set_one Hy.out (by omega) Hk.out j (by omega)⟩
      case measure => simp [intOf]; omega
    · have hk' : k = l.length := by omega
      subst hk'
      have hy : ys = ints l := eq_of_upto hys (by rw [hown.1, ints_length]; omega) (by rw [hown.1]; omega)
      have Ho := Lib.hid (hy ▸ hown)
      clear hown hys hy
      go_wp2
      go_ret
      exact ⟨_, _, rfl, Ho.out, by repeat' (first | (with_reducible exact Below.refl _ _) | (with_reducible assumption) | (with_reducible refine Below.alloc ?_ ?_ _) | (with_reducible refine Below.drew ?_) | (with_reducible refine below_drewN ?_ _) | (with_reducible refine Below.setCell ?_ ?_ _) | (with_reducible refine Below.trans ?_ (Below.mono (by assumption) ?_)) | go_size | (exact Below.size (by assumption)))⟩
theorem eqInt64S_same (l : List Int) (A A' : Option Addr) (B c c' : Nat) (w : World) (hr : Rd w B A (ints l)) (hr2 : Rd w B A' (ints l)) (hB : B ≤ w.heap.size) (hn : l.length ≤ 1048576) :
   Calls Try.prog 36 #[.slice A l.length c, .slice A' l.length c'] w fun e w' => e = .returned (.bool true) ∧ Below w.heap.size w w' := by
  go_enter Try.func36, Try.ntmps36
  go_wp2_with fail
  go_loopw [5] (fun i wr => ∃ k : Nat, k ≤ l.length ∧ i = .int .i64 k ∧ ∃ q, wr = w.drewN q) (fun i _ => l.length - (intOf i).toNat)
  case atStart => exact ⟨0, Nat.zero_le _, rfl, 0, rfl⟩
  case round =>
    obtain ⟨k, hk, rfl, q, rfl⟩ := hrel
    by_cases hlt : k < l.length
    · have ht := List.getElem?_eq_getElem hlt
      generalize l[k] = t at ht
      obtain ⟨b, o, rfl, _, c0⟩ := hr.int ht
      obtain ⟨b2, o2, rfl, _, d0⟩ := hr2.int ht
      clear ht hr hr2
      go_wp2_with fail
      go_quiet (fail)
      go_wp2
      go_roundw
      case rel => exact ⟨k + 1, by omega, by go_num, _, rfl⟩
      case measure => simp [intOf]; omega
    · have hk' : k = l.length := by omega
      subst hk'
      go_wp2
      go_ret
      exact ⟨rfl, by repeat' (first | (with_reducible exact Below.refl _ _) | (with_reducible assumption) | (with_reducible refine Below.alloc ?_ ?_ _) | (with_reducible refine Below.drew ?_) | (with_reducible refine below_drewN ?_ _) | (with_reducible refine Below.setCell ?_ ?_ _) | (with_reducible refine Below.trans ?_ (Below.mono (by assumption) ?_)) | go_size | (exact Below.size (by assumption)))⟩
def marksInt64 (q : Int) (n : Nat) : List Int := (List.range n).map fun i : Nat => q + (i : Int)
theorem marksInt64_length (q : Int) (n : Nat) : (marksInt64 q n).length = n := by simp [marksInt64]
theorem marksInt64_at (q : Int) {n k : Nat} (h : k < n) : (marksInt64 q n)[k]? = some (q + (k : Int)) := by simp [marksInt64, h]
theorem markInt64S_any (m : Nat) (A : Option Addr) (base c : Nat) (xs : List Value) (q : Int) (w : World) (hown : w.ownsRow base 2 1 (.slice A m c) m xs) (hq : 0 ≤ q) (hq2 : q ≤ 16777216) (hn : m ≤ 1048576) :
   Calls Try.prog 39 #[.slice A m c, .int .i64 q] w fun e w' => e = .returned (.int .i64 (q + (m : Int))) ∧ w'.ownsRow base 2 1 (.slice A m c) m (ints (marksInt64 q m)) ∧ w.grownBy w' (Value.slice A m c).ownBlock := by
  go_enter Try.func39, Try.ntmps39
  go_wp2_with fail
  go_loopw [1, 5] (fun qq i wr => ∃ k : Nat, k ≤ m ∧ i = .int .i64 k ∧ qq = .int .i64 (q + (k : Int)) ∧ w.grownBy wr (Value.slice A m c).ownBlock ∧ ∃ xs, wr.ownsRow base 2 1 (.slice A m c) m xs ∧ ∀ j, j < k → xs[j]? = (ints (marksInt64 q m))[j]?) (fun _ i _ => m - (intOf i).toNat)
  case atStart => exact ⟨0, Nat.zero_le _, rfl, vint (by omega), World.grownBy.refl w _, xs, hown, fun j hj => by omega⟩
  case round =>
    clear hown
    obtain ⟨k, hk, rfl, rfl, hg, ys, hown, hys⟩ := hrel
    by_cases hlt : k < m
    · obtain ⟨G, rfl, hG1, hG2⟩ := own_form hown (by omega)
      have hl2 := hown.1
      have d0 := hown.cellAt k (by omega)
      rw [List.getElem?_eq_getElem (show k < ys.length by omega)] at d0
      generalize ys[k] = u0 at d0
      have hfz := hown.frozenAt
      have hkk : (ints (marksInt64 q m))[k]? = some (.int .i64 (q + (k : Int))) := by rw [ints, List.getElem?_map, marksInt64_at q hlt]; rfl
      have Hk := Lib.hid hkk
      have Ho := Lib.hid hown
      have Hy := Lib.hid hys
      have Hl := Lib.hid hl2
      have Hg := Lib.hid hg
      clear hown hys hl2 hg hkk
      go_wp2
      go_roundw
      case rel =>
        have o1 := World.ownsRow.stored Ho.out k (.int .i64 (q + (k : Int)))
        have hl := Hl.out
        exact ⟨k + 1, by omega, by go_num, vint (by omega), grownBy_trans Hg.out o1.2, _, o1.1, fun j hj => set_one Hy.out (by omega) Hk.out j (by omega)⟩
      case measure => simp [intOf]; omega
    · have hk' : k = m := by omega
      subst hk'
      have hy : ys = ints (marksInt64 q k) := eq_of_upto hys (by rw [hown.1, ints_length, marksInt64_length]; omega) (by rw [hown.1]; omega)
      have Ho := Lib.hid (hy ▸ hown)
      have Hg := Lib.hid hg
      clear hown hys hy hg
      go_wp2
      go_ret
      exact ⟨rfl, Ho.out, Hg.out⟩
theorem heldInt64S_any (m : Nat) (A : Option Addr) (B c : Nat) (q : Int) (w : World) (hr : Rd w B A (ints (marksInt64 q m))) (hq : 0 ≤ q) (hq2 : q ≤ 16777216) (hn : m ≤ 1048576) :
   Calls Try.prog 40 #[.slice A m c, .int .i64 q] w fun e w' => e = .returned (.int .i64 (q + (m : Int))) ∧ w = w' := by
  go_enter Try.func40, Try.ntmps40
  go_wp2_with fail
  go_loop [1, 5] (fun qq i => ∃ k : Nat, k ≤ m ∧ i = .int .i64 k ∧ qq = .int .i64 (q + (k : Int))) (fun _ i => m - (intOf i).toNat)
  case atStart => exact ⟨0, Nat.zero_le _, rfl, vint (by omega)⟩
  case round =>
    obtain ⟨k, hk, rfl, rfl⟩ := hrel
    by_cases hlt : k < m
    · obtain ⟨b, o, rfl, _, c0⟩ := hr.int (marksInt64_at q hlt)
      clear hr
      go_wp2
      go_round
      case rel => exact ⟨k + 1, by omega, by go_num, vint (by omega)⟩
      case measure => simp [intOf]; omega
    · have hk' : k = m := by omega
      subst hk'
      go_wp2
      go_ret
      exact ⟨rfl, rfl⟩
theorem openInts {H : Type} {enc : TypeId × Value → H} {W : World} {n c : Nat} {A : Option Addr} {d : DataW H} {p : List MemPlace} {b0 : Nat} {sp : Nat → Bool} {hd : Bool} (h : DataW.Trod enc Try.prog W b0 sp hd 27 (.slice A n c) d p) :
    ∃ l : List Int, l.length = n ∧ Rd W W.heap.size A (ints l) ∧ n ≤ c ∧ c ≤ maxLen ∧ ∀ t ∈ l, (Lit.int .i64 t).wf = true := by
  obtain ⟨rows, hl, hk, hr, h1, h2⟩ := open_rows_flat (ks := [some .i64]) (C := 1) Try.underlying27 (by kernel_rfl) (by kernel_rfl) (by omega) h
  obtain ⟨l, he, hll, hok⟩ := rows_typed (fun x : Int => [Value.int .i64 x]) (fun x => (Lit.int .i64 x).wf = true) rows (fun r hr => by
    obtain ⟨_, _, rfl, ⟨x, rfl, wx⟩, rfl⟩ := (hk r hr).1
    exact ⟨x, rfl, wx⟩)
  exact ⟨l, by omega, ints_flat l ▸ he ▸ hr, h1, h2, hok⟩
end Go.Proofs.Ytooifamckccadaa
