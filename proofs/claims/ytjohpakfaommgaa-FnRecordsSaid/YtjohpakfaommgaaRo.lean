/- The laws' dice: roll and below. -/
import Derived.Test.YtjohpakfaommgaaDr
namespace Go.Proofs.Ytjohpakfaommgaa
open Go.ChangeShapes Go.WideShapes Go.ChangeAt Go.RowKit
set_option maxRecDepth 20000
set_option linter.unusedVariables false
set_option linter.unusedSimpArgs false
def Di (w : World) (g : Nat) (C : Option Addr) (n cap : Nat) : Prop := ∃ at_ h : Int, 0 ≤ at_ ∧ at_ ≤ n ∧ w.heap[g]? = some (.cells #[.slice C n cap, .int .i64 at_, .int .u64 h] 86 (0, 0))
theorem di_cells {w : World} {g : Nat} {C : Option Addr} {n cap : Nat} {a s : Int} (h : w.heap[g]? = some (.cells #[.slice C n cap, .int .i64 a, .int .u64 s] 86 (0, 0))) :
    w.cell? ⟨g, 0, none⟩ = some (.slice C n cap) ∧ w.cell? ⟨g, 1, none⟩ = some (.int .i64 a) ∧ w.cell? ⟨g, 2, none⟩ = some (.int .u64 s) ∧ ∀ j, w.frozen? ⟨g, j, none⟩ = false := by
  refine ⟨?_, ?_, ?_, fun j => ?_⟩
  · rw [cell_of_row w g 0 _ _ _ h]; rfl
  · rw [cell_of_row w g 1 _ _ _ h]; rfl
  · rw [cell_of_row w g 2 _ _ _ h]; rfl
  · simp [World.frozen?, h]
theorem set2d {w : World} {g : Nat} {c0 c1 c2 : Value} {t : TypeId} (h : w.heap[g]? = some (.cells #[c0, c1, c2] t (0, 0))) (u : Value) : (w.setCell ⟨g, 2, none⟩ u).heap[g]? = some (.cells #[c0, c1, u] t (0, 0)) := by
  rw [heap_setCell_same w g 2 _ _ u h]; rfl
theorem and_bd (a : Int) : 0 ≤ bits .and .u64 a 16777215 ∧ bits .and .u64 a 16777215 ≤ 16777215 := by
  have e : bits .and .u64 a 16777215 = IntKind.u64.wrap (((BitVec.ofInt 64 a &&& BitVec.ofInt 64 16777215).toNat : Nat) : Int) := rfl
  have h : (BitVec.ofInt 64 a &&& BitVec.ofInt 64 16777215).toNat ≤ 16777215 := by
    rw [BitVec.toNat_and]
    exact Nat.le_trans Nat.and_le_right (by decide)
  have hw : ∀ n : Nat, n ≤ 16777215 → IntKind.u64.wrap (n : Int) = (n : Int) := fun n hn => by simp [IntKind.wrap, IntKind.signed, IntKind.bits]; omega
  rw [e, hw _ h]
  omega
set_option maxHeartbeats 1000000 in
theorem roll_any (bl : List Int) (hbl : isU8 bl) (hn : bl.length ≤ 4096) (seed : Int) (C : Option Addr) (B cap : Nat) (w : World) (hr : Rd w B C (bytesU bl)) (hB : B ≤ w.heap.size) :
   Calls Try.prog 43 #[.slice C bl.length cap, .int .u64 seed] w fun e w' => e = .returned (.pointer (some ⟨w.heap.size, 0, none⟩)) ∧ Di w' w.heap.size C bl.length cap ∧ Below w.heap.size w w' ∧ w.heap.size < w'.heap.size := by
  have Hbl := Lib.hid hbl
  clear hbl
  go_enter Try.func43, Try.ntmps43
  go_wp2_with fail
  go_loopw [6] (fun i wr => ∃ k : Nat, k ≤ bl.length ∧ i = .int .i64 k ∧ ∃ s : Int, wr.heap[w.heap.size]? = some (.cells #[.slice C bl.length cap, .int .i64 0, .int .u64 s] 86 (0, 0)) ∧ Below w.heap.size w wr ∧ w.heap.size < wr.heap.size) (fun i _ => bl.length - (intOf i).toNat)
  case atStart => exact ⟨0, Nat.zero_le _, rfl, _, heap_alloc_new w _, (Below.refl _ _).alloc (Nat.le_refl _) _, by simp⟩
  case round =>
    obtain ⟨k, hk, rfl, s, hg, hbw, hsz⟩ := hrel
    obtain ⟨c0, c1, c2, hf⟩ := di_cells hg
    by_cases hlt : k < bl.length
    · have ht := List.getElem?_eq_getElem hlt
      generalize bl[k] = x at ht
      obtain ⟨b, o, rfl, hbB, d0⟩ := (hr.below hbw hB).byte ht
      obtain ⟨x0, x1⟩ := Hbl.out k x ht
      have hne : b ≠ w.heap.size := by omega
      have hne2 : w.heap.size ≠ b := by omega
      have hi0 : (0 : Int) ≤ (k : Int) := by omega
      have hi1 : (k : Int) < (bl.length : Int) := by omega
      have Hg := Lib.hid hg
      have Hr := Lib.hid hr
      clear hg hr ht
      go_wp2_with fail
      go_region
      all_goals go_wp2
      all_goals go_roundw
      case rel => exact ⟨k + 1, by omega, by go_num, _, set2d Hg.out _, (hbw.setCell (Nat.le_refl _) _).drew, by simpa using hsz⟩
      case measure => simp [intOf]; omega
    · have Hg := Lib.hid hg
      have hk' : k = bl.length := by omega
      subst hk'
      clear hg hr
      go_wp2
      go_ret
      exact ⟨rfl, ⟨0, s, by omega, by omega, Hg.out⟩, hbw, hsz⟩
theorem set1d {w : World} {g : Nat} {c0 c1 c2 : Value} {t : TypeId} (h : w.heap[g]? = some (.cells #[c0, c1, c2] t (0, 0))) (u : Value) : (w.setCell ⟨g, 1, none⟩ u).heap[g]? = some (.cells #[c0, u, c2] t (0, 0)) := by
  rw [heap_setCell_same w g 1 _ _ u h]; rfl
theorem below_end {w w' : World} {g : Nat} {C : Option Addr} {n cap : Nat} {m v : Int} (hm : 1 ≤ m) (h0 : 0 ≤ v) (h1 : v ≤ 100000000) (hd : Di w' g C n cap) (hg : w.grownBy w' (some g)) : ∃ x : Int, Ending.returned (.int .i64 (v % m)) = .returned (.int .i64 x) ∧ 0 ≤ x ∧ x < m ∧ Di w' g C n cap ∧ w.grownBy w' (some g) :=
  ⟨v % m, rfl, Int.emod_nonneg _ (by omega), Int.emod_lt_of_pos _ (by omega), hd, hg⟩
set_option maxHeartbeats 1000000 in
theorem below_any (bl : List Int) (hbl : isU8 bl) (hn : bl.length ≤ 4096) (C : Option Addr) (B cap g : Nat) (m : Int) (hm : 1 ≤ m) (hm2 : m ≤ 1000000) (w : World) (hr : Rd w B C (bytesU bl)) (hBg : B ≤ g) (hs : Di w g C bl.length cap) :
   Calls Try.prog 44 #[.pointer (some ⟨g, 0, none⟩), .int .i64 m] w fun e w' => ∃ x : Int, e = .returned (.int .i64 x) ∧ 0 ≤ x ∧ x < m ∧ Di w' g C bl.length cap ∧ w.grownBy w' (some g) := by
  obtain ⟨at_, s, a0, a1, hg⟩ := hs
  obtain ⟨c0, c1, c2, hf⟩ := di_cells hg
  have Hg := Lib.hid hg
  have hmne : (m == 0) = false := by rw [beq_eq_false_iff_ne]; omega
  by_cases ha : at_ < bl.length
  · obtain ⟨p, rfl⟩ : ∃ p : Nat, at_ = p := ⟨at_.toNat, by omega⟩
    have hp : p < bl.length := by omega
    have ht := List.getElem?_eq_getElem hp
    generalize bl[p] = x at ht
    obtain ⟨b, o, rfl, hbB, d0⟩ := hr.byte ht
    obtain ⟨x0, x1⟩ := hbl p x ht
    have hne : b ≠ g := by omega
    have hne2 : g ≠ b := by omega
    have hi0 : (0 : Int) ≤ (p : Int) := by omega
    have hi1 : (p : Int) < (bl.length : Int) := by omega
    have hj0 : (0 : Int) ≤ (p : Int) + 1 := by omega
    clear hg hr ht hbl
    go_enter Try.func44, Try.ntmps44
    go_wp2
    generalize IntKind.u64.wrap (IntKind.u64.wrap (s * 6364136223846793005) + 1442695040888963407) = s'
    have hv := and_bd (s' / 8589934592)
    generalize bits .and .u64 (s' / 8589934592) 16777215 = v at hv ⊢
    obtain ⟨v0, v1⟩ := hv
    have hw1 : wrap64 v = v := IntWalk.wrap64_in _ (by omega)
    have hw2 : IntKind.i64.wrap v = v := IntWalk.i64_in _ (by omega)
    try simp only [hw1, hw2]
    have hw3 : wrap64 (v + x) = v + x := IntWalk.wrap64_in _ (by omega)
    have hw4 : IntKind.i64.wrap (v + x) = v + x := IntWalk.i64_in _ (by omega)
    go_quiet (fail)
    go_wp2
    go_quiet (fail)
    go_wp2
    go_ret
    exact below_end hm (by omega) (by omega) ⟨(p : Int) + 1, _, by omega, by omega, set1d (set2d Hg.out _) _⟩ (by repeat (first | (with_reducible exact World.grownBy.refl _ _) | (with_reducible refine grownBy_drewN ?_ _) | (with_reducible refine grownBy_drew ?_) | (with_reducible refine grownBy_trans ?_ (grownBy_set _ g _ _))))
  · have hd : decide (at_ < (bl.length : Int)) = false := by simpa using ha
    clear hg hr hbl
    go_enter Try.func44, Try.ntmps44
    go_wp2
    generalize IntKind.u64.wrap (IntKind.u64.wrap (s * 6364136223846793005) + 1442695040888963407) = s'
    have hv := and_bd (s' / 8589934592)
    generalize bits .and .u64 (s' / 8589934592) 16777215 = v at hv ⊢
    obtain ⟨v0, v1⟩ := hv
    have hw1 : wrap64 v = v := IntWalk.wrap64_in _ (by omega)
    have hw2 : IntKind.i64.wrap v = v := IntWalk.i64_in _ (by omega)
    try simp only [hw1, hw2]
    go_quiet (fail)
    go_wp2
    go_ret
    exact below_end hm v0 (by omega) ⟨at_, _, a0, a1, set2d Hg.out _⟩ (by repeat (first | (with_reducible exact World.grownBy.refl _ _) | (with_reducible refine grownBy_drewN ?_ _) | (with_reducible refine grownBy_drew ?_) | (with_reducible refine grownBy_trans ?_ (grownBy_set _ g _ _))))
end Go.Proofs.Ytjohpakfaommgaa
