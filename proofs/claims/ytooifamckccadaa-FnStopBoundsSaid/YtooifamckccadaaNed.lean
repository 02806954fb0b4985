/- The energy that a run of segments needs: a walk of the reference. -/
import Derived.Test.YtooifamckccadaaAm
import Derived.Test.YtooifamckccadaaSv
namespace Go.Proofs.Ytooifamckccadaa
open Go.ChangeShapes Go.WideShapes Go.ChangeAt Go.RowKit
set_option maxRecDepth 20000
set_option linter.unusedVariables false
set_option linter.unusedSimpArgs false
/-- what coasting over a segment changes at the least -/
def chLo (t : Seg) : Int := -19612 * t.2.2.1 - 2 * t.2.2.2.2.1 * t.2.1
/-- the sum of the least changes of k segments from the f-th -/
def nSum (ls : List Seg) (f : Nat) : Nat → Int
  | 0 => 0
  | k + 1 => nSum ls f k + (match ls[(f + k) % ls.length]? with | some t => chLo t | none => 0)
/-- the energy needed at the start of k segments -/
def nMax (ls : List Seg) (f : Nat) : Nat → Int
  | 0 => 0
  | k + 1 => if nMax ls f k < -nSum ls f (k + 1) then -nSum ls f (k + 1) else nMax ls f k
theorem nSum_step {ls : List Seg} {f k : Nat} {t : Seg} (h : ls[(f + k) % ls.length]? = some t) : nSum ls f (k + 1) = nSum ls f k + chLo t := by simp [nSum, h]
theorem chLo_bds {t : Seg} (h : segT t = true) : -10000000000 ≤ chLo t ∧ chLo t ≤ 10000000000 := by
  obtain ⟨⟨k0, k4⟩, ⟨l1, l2⟩, ⟨r1, r2⟩, ⟨a0, a1, a2⟩, f0, f1, f2⟩ := seg_bds h
  have p1 := prod_bds (f := t.2.2.2.2.1) (by omega) (by omega) l1 l2
  unfold chLo
  omega
theorem nSum_bds {ls : List Seg} (hl : layB ls = true) (f k : Nat) : -10000000000 * (k : Int) ≤ nSum ls f k ∧ nSum ls f k ≤ 10000000000 * (k : Int) := by
  induction k with
  | zero => simp [nSum]
  | succ k ih =>
    cases h : ls[(f + k) % ls.length]? with
    | none => simp only [nSum, h]; omega
    | some t =>
      rw [nSum_step h]
      have := chLo_bds (segT_at hl h)
      omega
theorem nMax_bds {ls : List Seg} (hl : layB ls = true) (f k : Nat) : 0 ≤ nMax ls f k ∧ nMax ls f k ≤ 10000000000 * (k : Int) := by
  induction k with
  | zero => simp [nMax]
  | succ k ih =>
    have := nSum_bds hl f (k + 1)
    simp only [nMax]
    split <;> omega
set_option maxHeartbeats 4000000 in
theorem l06Needed_any (ls : List Seg) (n f : Nat) (hlay : layB ls = true) (hn : n ≤ 24) (hf : f < ls.length) (A : Option Addr) (B c : Nat) (w : World) (hs : Rd w B A (ls.flatMap eSegment)) (hB : B ≤ w.heap.size) :
   Calls Try.prog 171 #[.agg #[.slice A ls.length c], .int .i64 f, .int .i64 n] w fun e w' => e = .returned (.int .i64 (nMax ls f n)) ∧ Below w.heap.size w w' := by
  obtain ⟨_, hlen3, hlen24⟩ := lay_all hlay
  have Hs := Lib.hid hs
  have Hlay := Lib.hid hlay
  have ef : IntKind.i64.wrap ((f : Int) + (n : Int)) = ((f + n : Nat) : Int) := by rw [Int.natCast_add]; exact IntWalk.i64_in _ (by omega)
  clear hs hlay
  go_enter Try.func171, Try.ntmps171
  go_wp2_with fail
  go_loopw [7, 8, 9] (fun m s i wr => ∃ k : Nat, k ≤ n ∧ i = .int .i64 ((f + k : Nat) : Int) ∧ m = .int .i64 (nMax ls f k) ∧ s = .int .i64 (nSum ls f k) ∧ Below w.heap.size w wr ∧ w.heap.size + 1 ≤ wr.heap.size ∧ wr.cell? ⟨w.heap.size, 0, none⟩ = some (.slice A ls.length c)) (fun _ _ i _ => f + n - (intOf i).toNat)
  case atStart => exact ⟨0, Nat.zero_le _, by first | rfl | simp, rfl, rfl, by repeat' (first | (with_reducible exact Below.refl _ _) | (with_reducible assumption) | (with_reducible refine Below.alloc ?_ ?_ _) | (with_reducible refine Below.drew ?_) | (with_reducible refine below_drewN ?_ _) | (with_reducible refine Below.setCell ?_ ?_ _) | (with_reducible refine Below.trans ?_ (Below.mono (by assumption) ?_)) | go_size | (exact Below.size (by assumption))), by simp, by go_cell⟩
  case round =>
    obtain ⟨k, hk, rfl, rfl, rfl, hbw, hsz, cL⟩ := hrel
    by_cases hlt : k < n
    · have hm := Nat.mod_lt (f + k) (show 0 < ls.length by omega)
      have ht := List.getElem?_eq_getElem hm
      generalize ls[(f + k) % ls.length] = t at ht
      have hst := segT_at Hlay.out ht
      have hsum := nSum_step ht
      have hb0 := nSum_bds Hlay.out f k
      have hb1 := nSum_bds Hlay.out f (k + 1)
      have hb2 := nMax_bds Hlay.out f k
      have HG := Lib.hid (fun w' h h2 => l06Segment_any ls (f + k) t (by omega) ht A B c w' h h2)
      have HCh := Lib.hid (fun w' => l06Change_any _ _ _ _ _ _ _ hst w')
      have hlt2 : ((f + k : Nat) : Int) < ((f + n : Nat) : Int) := by omega
      have HM := Lib.hid (show nMax ls f (k + 1) = if nMax ls f k < -nSum ls f (k + 1) then -nSum ls f (k + 1) else nMax ls f k from rfl)
      unfold chLo at hsum
      obtain ⟨tk, tl, tr, trl, trh, tfl, tfh⟩ := t
      dsimp only at *
      generalize -19612 * tr - 2 * trh * tl = c1 at *
      generalize -19612 * tr - 2 * trl * tl = c2 at *
      have e1 : IntKind.i64.wrap (nSum ls f k + c1) = nSum ls f (k + 1) := by rw [hsum]; exact IntWalk.i64_in _ (by omega)
      have e2 : IntKind.i64.wrap (-nSum ls f (k + 1)) = -nSum ls f (k + 1) := IntWalk.i64_in _ (by omega)
      clear hsum ht hst hb0 hb1 hb2
      have hF0 := field_iv0 c1 c2
      generalize nSum ls f k = S at *
      generalize hS1 : nSum ls f (k + 1) = S1 at *
      generalize nMax ls f k = M at *
      have g0 : w.heap.size < wr.heap.size := by omega
      by_cases hc : M < -S1
      · have HM1 := Lib.hid (HM.out.trans (if_pos hc))
        clear HM
        go_wp2_with (first | (go_at_call 150; refine (HG.out _ (by exact Hs.out.below hbw hB) (by omega)).mono ?_; rintro e w1 ⟨rfl, b1⟩; obtain ⟨hc1, hf1, hz1⟩ := bstep (Nat.le_refl _) b1; have y1 : w.heap.size < w1.heap.size := (by omega)) | (go_at_call 135; refine (HCh.out _).mono ?_; rintro e w2 ⟨rfl, b2⟩; obtain ⟨hc2, hf2, hz2⟩ := bstep (Nat.le_refl _) b2; have y2 : w.heap.size < w2.heap.size := (by omega)))
        go_roundw
        case rel => exact ⟨k + 1, by omega, by go_num, by rw [HM1.out], by rw [hS1], by repeat' (first | (with_reducible exact Below.refl _ _) | (with_reducible assumption) | (with_reducible refine Below.alloc ?_ ?_ _) | (with_reducible refine Below.drew ?_) | (with_reducible refine below_drewN ?_ _) | (with_reducible refine Below.setCell ?_ ?_ _) | (with_reducible refine Below.trans ?_ (Below.mono (by assumption) ?_)) | go_size | (exact Below.size (by assumption))), by omega, by go_cell⟩
        case measure => simp [intOf]; omega
      · have HM1 := Lib.hid (HM.out.trans (if_neg hc))
        clear HM
        go_wp2_with (first | (go_at_call 150; refine (HG.out _ (by exact Hs.out.below hbw hB) (by omega)).mono ?_; rintro e w1 ⟨rfl, b1⟩; obtain ⟨hc1, hf1, hz1⟩ := bstep (Nat.le_refl _) b1; have y1 : w.heap.size < w1.heap.size := (by omega)) | (go_at_call 135; refine (HCh.out _).mono ?_; rintro e w2 ⟨rfl, b2⟩; obtain ⟨hc2, hf2, hz2⟩ := bstep (Nat.le_refl _) b2; have y2 : w.heap.size < w2.heap.size := (by omega)))
        go_roundw
        case rel => exact ⟨k + 1, by omega, by go_num, by rw [HM1.out], by rw [hS1], by repeat' (first | (with_reducible exact Below.refl _ _) | (with_reducible assumption) | (with_reducible refine Below.alloc ?_ ?_ _) | (with_reducible refine Below.drew ?_) | (with_reducible refine below_drewN ?_ _) | (with_reducible refine Below.setCell ?_ ?_ _) | (with_reducible refine Below.trans ?_ (Below.mono (by assumption) ?_)) | go_size | (exact Below.size (by assumption))), by omega, by go_cell⟩
        case measure => simp [intOf]; omega
    · have hk' : k = n := by omega
      subst hk'
      have hlt2 : ¬ ((f + k : Nat) : Int) < ((f + k : Nat) : Int) := by omega
      clear Hs
      go_wp2_with fail
      go_ret
      exact ⟨rfl, by repeat' (first | (with_reducible exact Below.refl _ _) | (with_reducible assumption) | (with_reducible refine Below.alloc ?_ ?_ _) | (with_reducible refine Below.drew ?_) | (with_reducible refine below_drewN ?_ _) | (with_reducible refine Below.setCell ?_ ?_ _) | (with_reducible refine Below.trans ?_ (Below.mono (by assumption) ?_)) | go_size | (exact Below.size (by assumption)))⟩
end Go.Proofs.Ytooifamckccadaa
