/- Lists of intervals: the helpers of the laws. -/
import Derived.Test.YtooifamckccadaaA
import Derived.Test.YtooifamckccadaaRd
import Derived.Deep.RegionWith
namespace Go.Proofs.Ytooifamckccadaa
open Go.ChangeShapes Go.WideShapes Go.ChangeAt Go.RowKit
set_option linter.unusedVariables false
set_option linter.unusedSimpArgs false
set_option maxRecDepth 20000
def eInterval (t : Int × Int) : List Value := [.int .i64 t.1, .int .i64 t.2]
theorem eInterval_len (t : Int × Int) : (eInterval t).length = 2 := rfl
def okInterval (t : Int × Int) : Prop := (Lit.int .i64 t.1).wf = true ∧ (Lit.int .i64 t.2).wf = true
theorem kindsInterval {cs : List Value} (h : AreKinds [some .i64, some .i64] cs) : ∃ t, cs = eInterval t ∧ okInterval t := by
  obtain ⟨_, _, rfl, ⟨x0, rfl, wx0⟩, _, _, rfl, ⟨x1, rfl, wx1⟩, rfl⟩ := h
  exact ⟨(x0, x1), rfl, wx0, wx1⟩
theorem Rd.atInterval {w : World} {B : Nat} {A : Option Addr} {l : List (Int × Int)} (h : Rd w B A (l.flatMap eInterval)) {k : Nat} {t : Int × Int} (hk : l[k]? = some t) :
    ∃ b o, A = some ⟨b, o, none⟩ ∧ b < B ∧ w.cell? ⟨b, o + k * 2, none⟩ = some (.int .i64 t.1) ∧ w.cell? ⟨b, o + k * 2 + 1, none⟩ = some (.int .i64 t.2) := by
  obtain ⟨b, o, e, hb, hc⟩ := h.row 2 eInterval_len (by omega) hk
  exact ⟨b, o, e, hb, hc 0 _ rfl, hc 1 _ rfl⟩
set_option maxRecDepth 20000 in
theorem eqIntervalS_same (l : List (Int × Int)) (A A' : Option Addr) (B c c' : Nat) (w : World) (hr : Rd w B A (l.flatMap eInterval)) (hr2 : Rd w B A' (l.flatMap eInterval)) (hB : B ≤ w.heap.size) (hn : l.length ≤ 1048576) :
   Calls Try.prog 58 #[.slice A l.length c, .slice A' l.length c'] w fun e w' => e = .returned (.bool true) ∧ Below w.heap.size w w' := by
  go_enter Try.func58, Try.ntmps58
  go_wp2_with fail
  go_loopw [5] (fun i wr => ∃ k : Nat, k ≤ l.length ∧ i = .int .i64 k ∧ Below w.heap.size w wr) (fun i _ => l.length - (intOf i).toNat)
  case atStart => exact ⟨0, Nat.zero_le _, rfl, Below.refl _ _⟩
  case round =>
    obtain ⟨k, hk, rfl, hbw⟩ := hrel
    by_cases hlt : k < l.length
    · have ht := List.getElem?_eq_getElem hlt
      generalize l[k] = t at ht
      have hsz := hbw.size
      have hr' := hr.below hbw hB
      have hr2' := hr2.below hbw hB
      obtain ⟨b, o, rfl, _, c0, c1⟩ := hr'.atInterval ht
      obtain ⟨b2, o2, rfl, _, d0, d1⟩ := hr2'.atInterval ht
      clear ht hr hr' hr2 hr2'
      go_wp2_with fail
      go_region_with ((go_at_call 31; refine (eqInterval_same _ _ _).mono ?_; rintro e w2 ⟨rfl, hb⟩))
      all_goals go_wp2
      all_goals go_roundw
      all_goals first | exact ⟨k + 1, by omega, by go_num, by repeat' (first | (with_reducible exact Below.refl _ _) | (with_reducible assumption) | (with_reducible refine Below.alloc ?_ ?_ _) | (with_reducible refine Below.drew ?_) | (with_reducible refine below_drewN ?_ _) | (with_reducible refine Below.setCell ?_ ?_ _) | (with_reducible refine Below.trans ?_ (Below.mono (by assumption) ?_)) | go_size | (exact Below.size (by assumption)))⟩ | (simp [intOf]; omega)
    · have hk' : k = l.length := by omega
      subst hk'
      go_wp2
      go_ret
      exact ⟨rfl, hbw⟩
theorem infoInterval : (Try.prog.info? 29).map (fun i => (i.zero, i.size, i.bytes)) = some (some (.agg #[.int .i64 0, .int .i64 0]), 2, 16) := by kernel_rfl
def marksInterval (q : Int) (n : Nat) : List (Int × Int) := (List.range n).map fun i : Nat => (q + (i : Int) * 2, q + (i : Int) * 2 + 1)
theorem marksInterval_length (q : Int) (n : Nat) : (marksInterval q n).length = n := by simp [marksInterval]
theorem marksInterval_at (q : Int) {n k : Nat} (h : k < n) : (marksInterval q n)[k]? = some ((fun i : Nat => (q + (i : Int) * 2, q + (i : Int) * 2 + 1)) k) := by simp [marksInterval, h]
theorem markIntervalS_any (m : Nat) (A : Option Addr) (base c : Nat) (xs : List Value) (q : Int) (w : World) (hown : w.ownsRow base 29 2 (.slice A m c) m xs) (hq : 0 ≤ q) (hq2 : q ≤ 16777216) (hn : m ≤ 1048576) :
   Calls Try.prog 59 #[.slice A m c, .int .i64 q] w fun e w' => e = .returned (.int .i64 (q + (m : Int) * 2)) ∧ w'.ownsRow base 29 2 (.slice A m c) m ((marksInterval q m).flatMap eInterval) ∧ w.grownBy w' (Value.slice A m c).ownBlock := by
  go_enter Try.func59, Try.ntmps59
  go_wp2_with fail
  go_loopw [1, 5] (fun qq i wr => ∃ k : Nat, k ≤ m ∧ i = .int .i64 k ∧ qq = .int .i64 (q + (k : Int) * 2) ∧ w.grownBy wr (Value.slice A m c).ownBlock ∧ ∃ xs, wr.ownsRow base 29 2 (.slice A m c) m xs ∧ ∀ j, j < k * 2 → xs[j]? = ((marksInterval q m).flatMap eInterval)[j]?) (fun _ i _ => m - (intOf i).toNat)
  case atStart => exact ⟨0, Nat.zero_le _, rfl, vint (by omega), World.grownBy.refl w _, xs, hown, fun j hj => by omega⟩
  case round =>
    clear hown
    obtain ⟨k, hk, rfl, rfl, hg, ys, hown, hys⟩ := hrel
    by_cases hlt : k < m
    · obtain ⟨G, rfl, hG1, hG2⟩ := own_form hown (by omega)
      have hl2 := hown.1
      have d0 := hown.cellAt (k * 2) (by omega)
      rw [List.getElem?_eq_getElem (show k * 2 < ys.length by omega)] at d0
      generalize ys[k * 2] = u0 at d0
      have d1 := hown.cellAt (k * 2 + 1) (by omega)
      rw [List.getElem?_eq_getElem (show k * 2 + 1 < ys.length by omega)] at d1
      generalize ys[k * 2 + 1] = u1 at d1
      have hfz := hown.frozenAt
      have Ho := Lib.hid hown
      have Hy := Lib.hid hys
      have Hl := Lib.hid hl2
      have Hg := Lib.hid hg
      clear hown hys hl2 hg
      go_wp2
      go_roundw
      case rel =>
        have o1 := World.ownsRow.stored Ho.out (k * 2) (.int .i64 (q + (k : Int) * 2))
        have o2 := World.ownsRow.stored o1.1 (k * 2 + 1) (.int .i64 (q + (k : Int) * 2 + 1))
        have hl := Hl.out
        exact ⟨k + 1, by omega, by go_num, vint (by omega), (grownBy_trans (grownBy_trans Hg.out o1.2) o2.2), _, o2.1, fun j hj => (set_one (set_one Hy.out (by first | omega | (simp; omega)) (flat_get eInterval 2 eInterval_len (marksInterval q m) k _ 0 _ (marksInterval_at q hlt) rfl)) (by first | omega | (simp; omega)) (flat_get eInterval 2 eInterval_len (marksInterval q m) k _ 1 _ (marksInterval_at q hlt) rfl)) j (by omega)⟩
      case measure => simp [intOf]; omega
    · have hk' : k = m := by omega
      subst hk'
      have hy : ys = (marksInterval q k).flatMap eInterval := eq_of_upto hys (by rw [hown.1, flat_len eInterval 2 eInterval_len, marksInterval_length]) (by rw [hown.1]; omega)
      have Ho := Lib.hid (hy ▸ hown)
      have Hg := Lib.hid hg
      clear hown hys hy hg
      go_wp2
      go_ret
      exact ⟨rfl, Ho.out, Hg.out⟩
theorem heldIntervalS_any (m : Nat) (A : Option Addr) (B c : Nat) (q : Int) (w : World) (hr : Rd w B A ((marksInterval q m).flatMap eInterval)) (hq : 0 ≤ q) (hq2 : q ≤ 16777216) (hn : m ≤ 1048576) :
   Calls Try.prog 60 #[.slice A m c, .int .i64 q] w fun e w' => e = .returned (.int .i64 (q + (m : Int) * 2)) ∧ w = w' := by
  go_enter Try.func60, Try.ntmps60
  go_wp2_with fail
  go_loop [1, 5] (fun qq i => ∃ k : Nat, k ≤ m ∧ i = .int .i64 k ∧ qq = .int .i64 (q + (k : Int) * 2)) (fun _ i => m - (intOf i).toNat)
  case atStart => exact ⟨0, Nat.zero_le _, rfl, vint (by omega)⟩
  case round =>
    obtain ⟨k, hk, rfl, rfl⟩ := hrel
    by_cases hlt : k < m
    · obtain ⟨b, o, rfl, _, c0, c1⟩ := hr.atInterval (marksInterval_at q hlt)
      clear hr
      go_wp2
      go_round
      case rel => exact ⟨k + 1, by omega, by go_num, vint (by omega)⟩
      case measure => simp [intOf]; omega
    · have hk' : k = m := by omega
      subst hk'
      go_wp2
      go_ret
      exact ⟨rfl, rfl⟩
end Go.Proofs.Ytooifamckccadaa
