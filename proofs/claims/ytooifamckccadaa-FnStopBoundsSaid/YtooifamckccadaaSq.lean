/- StopBound and BlockLength: walks. -/
import Derived.Test.YtooifamckccadaaRows
import Derived.Test.YtooifamckccadaaBase
import Derived.Test.YtooifamckccadaaQt
import Derived.Deep.RegionHeld3
import Derived.StillTailTactics
import Derived.Test.YtooifamckccadaaSp
import Derived.Test.YtooifamckccadaaHs
import Derived.Test.YtooifamckccadaaStep
namespace Go.Proofs.Ytooifamckccadaa
open Go.ChangeShapes Go.WideShapes Go.ChangeAt Go.RowKit
set_option maxRecDepth 20000
set_option linter.unusedVariables false
set_option linter.unusedSimpArgs false
theorem tdiv_neg_ediv (a b : Int) (ha : a < 0) (hb : 0 < b) : a.tdiv b = if a % b = 0 then a / b else a / b + 1 := by
  have h1 := Int.tdiv_eq_ediv (a := a) (b := b)
  rw [h1]
  by_cases h : a % b = 0
  · rw [if_pos h]
    have : b ∣ a := Int.dvd_of_emod_eq_zero h
    simp [this]
  · rw [if_neg h]
    have : ¬ b ∣ a := fun hd => h (Int.emod_eq_zero_of_dvd hd)
    have h3 : ¬ 0 ≤ a := by omega
    simp [this, h3, Int.sign_eq_one_of_pos hb]
theorem tmod_neg_zero (a b : Int) (hb : 0 < b) : (a.tmod b = 0) ↔ (a % b = 0) := by
  constructor
  · intro h
    exact Int.emod_eq_zero_of_dvd (Int.dvd_of_tmod_eq_zero h)
  · intro h
    exact Int.tmod_eq_zero_of_dvd (Int.dvd_of_emod_eq_zero h)
theorem ediv_bound (a b K : Int) (hb : 0 < b) (h1 : -K ≤ a) (h2 : a ≤ K) (hK : 0 ≤ K) : -K - 1 ≤ a / b ∧ a / b ≤ K := by
  constructor
  · have h := Int.ediv_le_ediv hb h1
    have h3 : -K ≤ -K / b ∨ -K - 1 ≤ -K / b := by
      left
      have := Int.le_ediv_of_mul_le (a := -K) (b := -K) hb (by
        have : K * 1 ≤ K * b := Int.mul_le_mul_of_nonneg_left (by omega) hK
        rw [Int.neg_mul]; omega)
      exact this
    omega
  · have h := Int.ediv_le_ediv hb h2
    have : K / b ≤ K := Int.ediv_le_self b hK
    omega
theorem floor_any (a b : Int) (hb : 0 < b) (hb2 : b ≤ 1000000000000000) (h1 : -1000000000000000000 ≤ a) (h2 : a ≤ 1000000000000000000) (w : World) :
   Calls Try.prog 170 #[.int .i64 a, .int .i64 b] w fun e w' => e = .returned (.int .i64 (a / b)) ∧ w = w' := by
  have hbd := ediv_bound a b 1000000000000000000 hb h1 h2 (by omega)
  have hbf : decide (b < 0) = false := by simp; omega
  have hdiv := Lib.hid (tdiv_neg_ediv a b)
  have hmod := tmod_neg_zero a b hb
  by_cases ha : 0 ≤ a
  · have haf : decide (a < 0) = false := by simp; omega
    have Hb := Lib.hid hbd
    clear hbd hmod
    by_cases hm : a % b = 0
    · have hm' : (a % b == 0) = true := by simpa using hm
      have hm2 : (a % b != 0) = false := by simpa using hm
      have Hm := Lib.hid hm
      clear hm
      go_enter Try.func170, Try.ntmps170
      go_wp2
      go_ret
      exact ⟨rfl, rfl⟩
    · have hm2 : (a % b != 0) = true := by simpa using hm
      have Hm := Lib.hid hm
      clear hm
      go_enter Try.func170, Try.ntmps170
      go_wp2
      go_ret
      exact ⟨rfl, rfl⟩
  · have haf : decide (a < 0) = true := by simp; omega
    by_cases hm : a % b = 0
    · have ht : a.tdiv b = a / b := by rw [hdiv.out (by omega) hb, if_pos hm]
      have hm2 : (a.tmod b != 0) = false := by simpa using hmod.2 hm
      have Hm := Lib.hid hm
      have Hb := Lib.hid hbd
      have Ht := Lib.hid ht
      clear hm hbd hmod ht
      go_enter Try.func170, Try.ntmps170
      go_wp2
      go_ret
      exact ⟨ret_int Ht.out, rfl⟩
    · have ht : a.tdiv b = a / b + 1 := by rw [hdiv.out (by omega) hb, if_neg hm]
      have hm2 : (a.tmod b != 0) = true := by simpa using (fun h => hm (hmod.1 h))
      have Hm := Lib.hid hm
      have Hb := Lib.hid hbd
      have Ht := Lib.hid ht
      clear hm hbd hmod ht
      go_enter Try.func170, Try.ntmps170
      go_wp2
      go_ret
      exact ⟨ret_int (by have h := Ht.out; have hb := Hb.out; rw [h, Int.add_sub_cancel]; exact IntWalk.wrap64_in _ (by omega)), rfl⟩
theorem down_any (a b : Int) (hb : 0 < b) (hb2 : b ≤ 1000000000000000) (h1 : -1000000000000000000 ≤ a) (h2 : a ≤ 1000000000000000000) (w : World) :
   Calls Try.prog 168 #[.int .i64 a, .int .i64 b] w fun e w' => e = .returned (.int .i64 (a / b)) ∧ w = w' := by
  have hbd := ediv_bound a b 1000000000000000000 hb h1 h2 (by omega)
  have hbf : decide (b < 0) = false := by simp; omega
  have hdiv := Lib.hid (tdiv_neg_ediv a b)
  have hmod := tmod_neg_zero a b hb
  by_cases ha : 0 ≤ a
  · have haf : decide (a < 0) = false := by simp; omega
    have Hb := Lib.hid hbd
    clear hbd hmod
    by_cases hm : a % b = 0
    · have hm' : (a % b == 0) = true := by simpa using hm
      have hm2 : (a % b != 0) = false := by simpa using hm
      have Hm := Lib.hid hm
      clear hm
      go_enter Try.func168, Try.ntmps168
      go_wp2
      go_ret
      exact ⟨rfl, rfl⟩
    · have hm2 : (a % b != 0) = true := by simpa using hm
      have Hm := Lib.hid hm
      clear hm
      go_enter Try.func168, Try.ntmps168
      go_wp2
      go_ret
      exact ⟨rfl, rfl⟩
  · have haf : decide (a < 0) = true := by simp; omega
    by_cases hm : a % b = 0
    · have ht : a.tdiv b = a / b := by rw [hdiv.out (by omega) hb, if_pos hm]
      have hm2 : (a.tmod b != 0) = false := by simpa using hmod.2 hm
      have Hm := Lib.hid hm
      have Hb := Lib.hid hbd
      have Ht := Lib.hid ht
      clear hm hbd hmod ht
      go_enter Try.func168, Try.ntmps168
      go_wp2
      go_ret
      exact ⟨ret_int Ht.out, rfl⟩
    · have ht : a.tdiv b = a / b + 1 := by rw [hdiv.out (by omega) hb, if_neg hm]
      have hm2 : (a.tmod b != 0) = true := by simpa using (fun h => hm (hmod.1 h))
      have Hm := Lib.hid hm
      have Hb := Lib.hid hbd
      have Ht := Lib.hid ht
      clear hm hbd hmod ht
      go_enter Try.func168, Try.ntmps168
      go_wp2
      go_ret
      exact ⟨ret_int (by have h := Ht.out; have hb := Hb.out; rw [h, Int.add_sub_cancel]; exact IntWalk.wrap64_in _ (by omega)), rfl⟩
theorem ceil_any (a b : Int) (hb : 0 < b) (hb2 : b ≤ 1000000000000000) (h1 : -1000000000000000000 ≤ a) (h2 : a ≤ 1000000000000000000) (w : World) :
   Calls Try.prog 137 #[.int .i64 a, .int .i64 b] w fun e w' => e = .returned (.int .i64 (-((-a) / b))) ∧ w = w' := by
  have hbd := ediv_bound (-a) b 1000000000000000000 hb (by omega) (by omega) (by omega)
  go_enter Try.func137, Try.ntmps137
  go_wp2_with (go_at_call 170; refine (floor_any (-a) b hb hb2 (by omega) (by omega) _).mono ?_; rintro e w' ⟨rfl, rfl⟩)
  go_ret
  exact ⟨rfl, rfl⟩
theorem up_any (a b : Int) (hb : 0 < b) (hb2 : b ≤ 1000000000000000) (h1 : -1000000000000000000 ≤ a) (h2 : a ≤ 1000000000000000000) (w : World) :
   Calls Try.prog 169 #[.int .i64 a, .int .i64 b] w fun e w' => e = .returned (.int .i64 (-((-a) / b))) ∧ w = w' := by
  have hbd := ediv_bound (-a) b 1000000000000000000 hb (by omega) (by omega) (by omega)
  go_enter Try.func169, Try.ntmps169
  go_wp2_with (go_at_call 168; refine (down_any (-a) b hb hb2 (by omega) (by omega) _).mono ?_; rintro e w' ⟨rfl, rfl⟩)
  go_ret
  exact ⟨rfl, rfl⟩
end Go.Proofs.Ytooifamckccadaa
namespace Go.Proofs.Ytooifamckccadaa
open Go.ChangeShapes Go.WideShapes Go.ChangeAt Go.RowKit
set_option maxRecDepth 20000
set_option linter.unusedVariables false
set_option linter.unusedSimpArgs false
set_option maxHeartbeats 4000000 in
theorem stopBound_spec_good (ls : List Seg) (fs : List Int) (b : Nat) (lo hi : Int) (h0 : enC ls fs b lo hi = 0) (hm : mayB ls fs b lo hi = true) (A : Option Addr) (B c : Nat) (A' : Option Addr) (c' : Nat) (w : World) (hs : Rd w B A (ls.flatMap eSegment)) (hr : Rd w B A' (ints fs)) (hB : B ≤ w.heap.size) (hn1 : ls.length ≤ 1048576) (hn2 : fs.length ≤ 1048576) :
   Calls Try.prog 69 #[.agg #[.slice A ls.length c], .slice A' fs.length c', .int .i64 b, .agg #[.int .i64 lo, .int .i64 hi]] w fun e w' => e = .returned (.tuple #[.int .i64 (sbP ls fs b hi), .int .i64 0]) ∧ Below w.heap.size w w' := by
  have HM := Lib.hid (fun (w' : World) (h : Rd w' B A (ls.flatMap eSegment)) (h2 : Rd w' B A' (ints fs)) (h3 : B ≤ w'.heap.size) => mayEnter_spec ls fs b lo hi A B c A' c' w' h h2 h3 hn1 hn2)
  rw [h0, hm] at HM
  obtain ⟨hlay, hblk, hen, b', hbb, hb'⟩ := enC_zero h0
  have hbe : b = b' := by omega
  subst hbe
  clear hbb
  obtain ⟨f, n, hfb, hend, hfn⟩ := blk_nat hblk hb'
  have ht := List.getElem?_eq_getElem hfn
  generalize ls[f + n] = t at ht
  rw [sbP_good hi hfb hend ht]
  obtain ⟨_, hlen3, hlen24⟩ := lay_all hlay
  obtain ⟨en0, en1, en2⟩ := wit_bds hen
  have hwb : brkB t.1 = true → 1 ≤ (workP t).1 := by
    intro hk
    rcases Int.lt_or_le (workP t).1 1 with h | h
    · exfalso
      have h5 := hm
      rw [mayB, h0, Int.toNat_natCast, entP_good hfb hend ht] at h5
      simp only [entM, hk, if_true, if_pos h, Bool.and_eq_true, decide_eq_true_eq] at h5
      omega
    · exact h
  have Hwb := Lib.hid hwb
  clear hwb
  generalize hE1 : sbV ls f n t hi = E1
  have HE1 := Lib.hid hE1
  clear hE1
  have Hs0 := Lib.hid hs
  have Hs := Lib.hid ((hs.alloc hB (.cells #[.slice A ls.length c] 26)).alloc (by simp; omega) (.cells #[.int .i64 lo, .int .i64 hi] 29))
  have Hr := Lib.hid ((hr.alloc hB (.cells #[.slice A ls.length c] 26)).alloc (by simp; omega) (.cells #[.int .i64 lo, .int .i64 hi] 29))
  have hS : B ≤ ((w.alloc (.cells #[.slice A ls.length c] 26)).alloc (.cells #[.int .i64 lo, .int .i64 hi] 29)).heap.size := by simp; omega
  have HL := Lib.hid (fun (w' : World) (h2 : Rd w' B A' (ints fs)) (h3 : B ≤ w'.heap.size) => blockEnd_spec ls fs b hb' _ hend A B c A' c' w' h2 h3 hn1 hn2)
  obtain ⟨bf, fo, hA', hbf, d0⟩ := Hr.out.int hfb
  subst hA'
  have Hlay := Lib.hid hlay
  have Ht := Lib.hid ht
  have e1 : IntKind.i64.wrap (((f + n + 1 : Nat) : Int) - 1) = ((f + n : Nat) : Int) := by rw [show ((f + n + 1 : Nat) : Int) - 1 = ((f + n : Nat) : Int) by omega]; exact IntWalk.i64_in _ (by omega)
  have i0 : (0 : Int) ≤ (b : Int) := by omega
  have i1 : (b : Int) < (fs.length : Int) := by omega
  have hbw : bf < w.heap.size + 2 := by omega
  have hbw' : bf < w.heap.size := by omega
  generalize hMm : ((f + n : Nat) : Int) = Mm at *
  generalize ((f + n + 1 : Nat) : Int) = Ee at *
  have HMm := Lib.hid hMm
  clear hs hr hlay hend hfb ht hMm h0 hm hblk hen
  go_enter Try.func69, Try.ntmps69
  go_wp2_with (first | (go_at_call 71; refine (HM.out _ (by exact Hs.out) (by exact Hr.out) hS).mono ?_; rintro e w1 ⟨rfl, hb1⟩; obtain ⟨hc1, hf1, hz1⟩ := bstep (N := w.heap.size + 2) (by go_size) hb1; have y1 : w.heap.size < w1.heap.size := (by omega); have x1 : w.heap.size + 1 < w1.heap.size := (by omega); have Hr1 := Lib.hid (Hr.out.below hb1 hS); have hS1 := Nat.le_trans hS hb1.size) | (go_at_call 85; refine (HL.out _ (by exact Hr1.out) hS1).mono ?_; rintro e w2 ⟨rfl, hb2⟩; obtain ⟨hc2, hf2, hz2⟩ := bstep (N := w.heap.size + 2) (by go_size) hb2; have y2 : w.heap.size < w2.heap.size := (by omega); have x2 : w.heap.size + 1 < w2.heap.size := (by omega)))
  have B2 : Below w.heap.size w w2 := by repeat' (first | (with_reducible exact Below.refl _ _) | (with_reducible assumption) | (with_reducible refine Below.alloc ?_ ?_ _) | (with_reducible refine Below.drew ?_) | (with_reducible refine below_drewN ?_ _) | (with_reducible refine Below.setCell ?_ ?_ _) | (with_reducible refine Below.trans ?_ (Below.mono (by assumption) ?_)) | go_size | (exact Below.size (by assumption)))
  have cL : w2.cell? ⟨w.heap.size, 0, none⟩ = some (.slice A ls.length c) := by go_cell
  have cE0 : w2.cell? ⟨w.heap.size + 1, 0, none⟩ = some (.int .i64 lo) := by go_cell
  have cE1 : w2.cell? ⟨w.heap.size + 1, 1, none⟩ = some (.int .i64 hi) := by go_cell
  have f0 : w2.frozen? ⟨w.heap.size + 1, 0, none⟩ = false := by go_cell
  have f1 : w2.frozen? ⟨w.heap.size + 1, 1, none⟩ = false := by go_cell
  clear hc1 hf1 hc2 hf2 hb1 hb2 HM HL Hr Hs Hr1 d0
  have hMm := HMm.out
  go_loopw [12, 14] (fun s i wr => ∃ k : Nat, k ≤ n ∧ i = .int .i64 ((f + k : Nat) : Int) ∧ s = .int .i64 (lSum ls f k) ∧ Below w.heap.size w wr ∧ w.heap.size + 2 ≤ wr.heap.size ∧ wr.cell? ⟨w.heap.size, 0, none⟩ = some (.slice A ls.length c) ∧ wr.cell? ⟨w.heap.size + 1, 0, none⟩ = some (.int .i64 (lo + gSum ls f k)) ∧ wr.cell? ⟨w.heap.size + 1, 1, none⟩ = some (.int .i64 (hi + hSum ls f k)) ∧ wr.frozen? ⟨w.heap.size + 1, 0, none⟩ = false ∧ wr.frozen? ⟨w.heap.size + 1, 1, none⟩ = false) (fun _ i _ => f + n - (intOf i).toNat)
  case atStart => exact ⟨0, Nat.zero_le _, by first | rfl | simp, rfl, B2, by omega, cL, by rw [cE0]; simp [gSum], by rw [cE1]; simp [hSum], f0, f1⟩
  case round =>
    clear B2 cL cE0 cE1 f0 f1
    obtain ⟨k, hk, rfl, rfl, hbw2, hsz, cL, cE0, cE1, f0, f1⟩ := hrel
    have hRd := Hs0.out.below hbw2 hB
    by_cases hlt : k < n
    · have ht := List.getElem?_eq_getElem (show f + k < ls.length by omega)
      generalize ls[f + k] = t2 at ht
      have hst := seg_at Hlay.out ht
      have hsum := hSum_step ht
      have gsum := gSum_step ht
      have lsum := lSum_step ht
      have hb0 := hSum_bds Hlay.out f (k + 1)
      have hb1 := gSum_bds Hlay.out f (k + 1)
      have hb2 := lSum_bds Hlay.out f (k + 1)
      have HCh := Lib.hid (fun w' => l06Change_any _ _ _ _ _ _ _ hst w')
      obtain ⟨bs, os, rfl, hbB, c0, c1, c2, c3, c4, c5, c6⟩ := hRd.atSegment ht
      have hlt2 : ((f + k : Nat) : Int) < Mm := by omega
      have j0 : (0 : Int) ≤ ((f + k : Nat) : Int) := by omega
      have j1 : ((f + k : Nat) : Int) < (ls.length : Int) := by omega
      unfold chHi at hsum
      unfold chLo at gsum
      obtain ⟨tk, tl, tr, trl, trh, tfl, tfh⟩ := t2
      dsimp only at *
      generalize -19612 * tr - 2 * trh * tl = x1 at *
      generalize -19612 * tr - 2 * trl * tl = x2 at *
      have e3 : IntKind.i64.wrap (lo + gSum ls f k + x1) = lo + gSum ls f (k + 1) := by rw [gsum, ← Int.add_assoc]; exact IntWalk.i64_in _ (by omega)
      have e4 : IntKind.i64.wrap (hi + hSum ls f k + x2) = hi + hSum ls f (k + 1) := by rw [hsum, ← Int.add_assoc]; exact IntWalk.i64_in _ (by omega)
      have e5 : IntKind.i64.wrap (lSum ls f k + tl) = lSum ls f (k + 1) := by rw [lsum]; exact IntWalk.i64_in _ (by omega)
      have e6 : wrap64 (lSum ls f k + tl) = lSum ls f (k + 1) := by rw [← IntWalk.i64_left]; exact e5
      have g3 : lo + gSum ls f k + x1 = lo + gSum ls f (k + 1) := by omega
      have g4 : hi + hSum ls f k + x2 = hi + hSum ls f (k + 1) := by omega
      have HSm := Lib.hid (fun w' => l06Sum_any (lo + gSum ls f k) (hi + hSum ls f k) x1 x2 (by rw [e3, g3]) (by rw [e4, g4]) w')
      rw [g3, g4] at HSm
      clear hsum gsum lsum ht hst hb0 hb1 hb2 hRd e3 e4 g3 g4
      have Hls := Lib.hid (show lSum ls f (k + 1) = lSum ls f (k + 1) from rfl)
      generalize lo + gSum ls f k = el at *
      generalize hi + hSum ls f k = eh at *
      generalize hX1 : lo + gSum ls f (k + 1) = X1 at *
      generalize hX2 : hi + hSum ls f (k + 1) = X2 at *
      have g0 : w.heap.size < wr.heap.size := by omega
      have g1 : w.heap.size + 1 < wr.heap.size := by omega
      have g2 : bs < wr.heap.size := by omega
      have n1 : bs ≠ w.heap.size + 1 := by omega
      have n2 : w.heap.size + 1 ≠ bs := by omega
      go_upto_region 11 with fail
      go_region_with (first | (go_at_call 135; refine (HCh.out _).mono ?_; rintro e w3 ⟨rfl, b3⟩; obtain ⟨hc3, hf3, hz3⟩ := bstep (Nat.le_refl _) b3; (try simp only [World.size_alloc, World.size_drew] at hc3 hf3 hz3); have hy3 : w.heap.size < w3.heap.size := (by omega); have hx3 : w.heap.size + 1 < w3.heap.size := (by omega); have hv3 : bs < w3.heap.size := (by omega)) | (go_at_call 134; refine (HSm.out _).mono ?_; rintro e w4 ⟨rfl, b4⟩; obtain ⟨hc4, hf4, hz4⟩ := bstep (Nat.le_refl _) b4; (try simp only [World.size_alloc, World.size_drew] at hc4 hf4 hz4); have hy4 : w.heap.size < w4.heap.size := (by omega); have hx4 : w.heap.size + 1 < w4.heap.size := (by omega); have hv4 : bs < w4.heap.size := (by omega)))
      all_goals (have qq : ((w4.setCell ⟨w.heap.size + 1, 0, none⟩ (.int .i64 X1)).setCell ⟨w.heap.size + 1, 1, none⟩ (.int .i64 X2)).cell? ⟨bs, os + (f + k) * 7 + 1, none⟩ = some (.int .i64 tl) := (by first | go_cell | (simp [*, World.cell?_setCell_far])); go_wp2_with fail; go_roundw; (case rel => exact ⟨k + 1, by omega, by go_num, by first | rfl | (rw [e6]; done) | (rw [e5]; done), by repeat' (first | (with_reducible exact Below.refl _ _) | (with_reducible assumption) | (with_reducible refine Below.alloc ?_ ?_ _) | (with_reducible refine Below.drew ?_) | (with_reducible refine below_drewN ?_ _) | (with_reducible refine Below.setCell ?_ ?_ _) | (with_reducible refine Below.trans ?_ (Below.mono (by assumption) ?_)) | go_size | (exact Below.size (by assumption))), by first | omega | go_size, by go_cell, by first | go_cell | (rw [hX1]; go_cell), by first | go_cell | (rw [hX2]; go_cell), by go_cell, by go_cell⟩); (case measure => simp [intOf]; omega))
    · have hk' : k = n := by omega
      subst hk'
      have hlt2 : ¬ ((f + k : Nat) : Int) < Mm := by omega
      have hst := seg_at Hlay.out Ht.out
      have hb0 := hSum_bds Hlay.out f k
      have hb2 := lSum_bds Hlay.out f k
      have hwk := work_bds hst
      have hsd := (seg_bds hst).2.1
      have HBr := Lib.hid (fun w' => isBrake_spec t.1 t.2.1 t.2.2.1 t.2.2.2.1 t.2.2.2.2.1 t.2.2.2.2.2.1 t.2.2.2.2.2.2 w')
      obtain ⟨W1, W2, hW⟩ : ∃ W1 W2, workP t = (W1, W2) := ⟨_, _, rfl⟩
      have HW := Lib.hid (fun w' => work_spec_t t.1 t.2.1 t.2.2.1 t.2.2.2.1 t.2.2.2.2.1 t.2.2.2.2.2.1 t.2.2.2.2.2.2 W1 W2 hW hst w')
      obtain ⟨bs, os, rfl, hbB, c0, c1, c2, c3, c4, c5, c6⟩ := hRd.atSegment Ht.out
      have h1 := HE1.out
      have hwb := Hwb.out
      unfold sbV at h1
      rw [hW] at hwk h1 hwb
      dsimp only at hwk h1 hwb
      have j0 : (0 : Int) ≤ Mm := by omega
      have j1 : Mm < (ls.length : Int) := by omega
      have j2 : Mm.toNat = f + k := by omega
      have g1 : w.heap.size < wr.heap.size := by omega
      have g2 : w.heap.size + 1 < wr.heap.size := by omega
      have g3 : bs < wr.heap.size := by omega
      have hmul := mul_bds (x := hi + hSum ls f k) (l := t.2.1) (by omega) (by omega) hsd.1 hsd.2
      clear hst hRd
      generalize hi + hSum ls f k = eh at *
      generalize lo + gSum ls f k = el at *
      generalize lSum ls f k = S at *
      obtain ⟨tk, tl, tr, trl, trh, tfl, tfh⟩ := t
      dsimp only at *
      cases hbk : brkB tk with
      | false =>
        rw [hbk] at h1 HBr
        simp only [if_false, Bool.false_eq_true] at h1
        have e7 : IntKind.i64.wrap (S + tl) = S + tl := IntWalk.i64_in _ (by omega)
        have e8 : wrap64 (S + tl) = S + tl := IntWalk.wrap64_in _ (by omega)
        have H1 := Lib.hid h1
        clear hbk h1 hmul
        go_wp2_with (go_at_call 136; refine (HBr.out _).mono ?_; rintro e w5 ⟨rfl, b5⟩; obtain ⟨hc5, hf5, hz5⟩ := bstep (Nat.le_refl _) b5; (try simp only [World.size_alloc, World.size_drew] at hc5 hf5 hz5); have y5 : w.heap.size < w5.heap.size := (by omega); have x5 : w.heap.size + 1 < w5.heap.size := (by omega))
        refine bodyPost_ret (v := .tuple #[.int .i64 (S + tl), .int .i64 0]) (by simp [results, Try.results69, go_sem, *]) rfl ?_
        exact ⟨by rw [H1.out], by repeat' (first | (with_reducible exact Below.refl _ _) | (with_reducible assumption) | (with_reducible refine Below.alloc ?_ ?_ _) | (with_reducible refine Below.drew ?_) | (with_reducible refine below_drewN ?_ _) | (with_reducible refine Below.setCell ?_ ?_ _) | (with_reducible refine Below.trans ?_ (Below.mono (by assumption) ?_)) | go_size | (exact Below.size (by assumption)))⟩
      | true =>
        have hw1 := hwb hbk
        rw [hbk] at h1 HBr
        simp only [if_true] at h1
        have HC := Lib.hid (fun w' => ceil_any (eh * tl) W1 (by omega) (by omega) (by omega) (by omega) w')
        have hq := ediv_bound (-(eh * tl)) W1 1000000000000000000 (by omega) (by omega) (by omega) (by omega)
        have e7 : IntKind.i64.wrap (eh * tl) = eh * tl := IntWalk.i64_in _ (by omega)
        have e9 : wrap64 (eh * tl) = eh * tl := IntWalk.wrap64_in _ (by omega)
        have hF0 := field_iv0 W1 W2
        have e10 : IntKind.i64.wrap (S + -(-(eh * tl) / W1)) = S + -(-(eh * tl) / W1) := IntWalk.i64_in _ (by omega)
        have e11 : wrap64 (S + -(-(eh * tl) / W1)) = S + -(-(eh * tl) / W1) := IntWalk.wrap64_in _ (by omega)
        generalize -(-(eh * tl) / W1) = Q at *
        clear hbk hwb
        have H1 := Lib.hid h1
        clear h1
        go_wp2_with (first | (go_at_call 136; refine (HBr.out _).mono ?_; rintro e w5 ⟨rfl, b5⟩; obtain ⟨hc5, hf5, hz5⟩ := bstep (Nat.le_refl _) b5; (try simp only [World.size_alloc, World.size_drew] at hc5 hf5 hz5); have y5 : w.heap.size < w5.heap.size := (by omega); have x5 : w.heap.size + 1 < w5.heap.size := (by omega); have v5 : wr.heap.size < w5.heap.size := (by omega)) | fail)
        have k1 : w5.cell? ⟨w.heap.size + 1, 1, none⟩ = some (.int .i64 eh) := by go_cell
        have m0 : w5.cell? ⟨wr.heap.size, 0, none⟩ = some (.int .i64 tk) := by go_cell
        have m1 : w5.cell? ⟨wr.heap.size, 1, none⟩ = some (.int .i64 tl) := by go_cell
        have m2 : w5.cell? ⟨wr.heap.size, 2, none⟩ = some (.int .i64 tr) := by go_cell
        have m3 : w5.cell? ⟨wr.heap.size, 3, none⟩ = some (.int .i64 trl) := by go_cell
        have m4 : w5.cell? ⟨wr.heap.size, 4, none⟩ = some (.int .i64 trh) := by go_cell
        have m5 : w5.cell? ⟨wr.heap.size, 5, none⟩ = some (.int .i64 tfl) := by go_cell
        have m6 : w5.cell? ⟨wr.heap.size, 6, none⟩ = some (.int .i64 tfh) := by go_cell
        have B5 : Hid (Below w.heap.size w w5) := Lib.hid (by repeat' (first | (with_reducible exact Below.refl _ _) | (with_reducible assumption) | (with_reducible refine Below.alloc ?_ ?_ _) | (with_reducible refine Below.drew ?_) | (with_reducible refine below_drewN ?_ _) | (with_reducible refine Below.setCell ?_ ?_ _) | (with_reducible refine Below.trans ?_ (Below.mono (by assumption) ?_)) | go_size | (exact Below.size (by assumption))))
        clear hc5 hf5 cL cE0 cE1 f0 f1 c0 c1 c2 c3 c4 c5 c6 b5 hbw2
        refine wp_region_cls (S := Below w5.heap.size w5) (by kernel_rfl) (by kernel_rfl) (below_drew1 _ _) ?_
        replace k1 := cls_cell k1 x5
        replace m0 := cls_cell m0 v5
        replace m1 := cls_cell m1 v5
        replace m2 := cls_cell m2 v5
        replace m3 := cls_cell m3 v5
        replace m4 := cls_cell m4 v5
        replace m5 := cls_cell m5 v5
        replace m6 := cls_cell m6 v5
        repeat (go_big_quiet_step ((first | (go_at_call 138; exact cls_call (Nat.le_refl _) (HW.out _)) | (go_at_call 137; exact cls_same (HC.out _)))))
        refine wpQuiet_nil ?_
        rintro _ ⟨⟨w6, b6⟩, rfl⟩
        (try dsimp only)
        go_wp2
        refine bodyPost_ret (v := .tuple #[.int .i64 (S + Q), .int .i64 0]) (by simp [results, Try.results69, go_sem, *]) rfl ?_
        exact ⟨by rw [H1.out], B5.out.trans (b6.mono (by omega))⟩
end Go.Proofs.Ytooifamckccadaa
namespace Go.Proofs.Ytooifamckccadaa
open Go.ChangeShapes Go.WideShapes Go.ChangeAt Go.RowKit
set_option maxRecDepth 20000
set_option linter.unusedVariables false
set_option linter.unusedSimpArgs false
theorem work_bds2 {t : Seg} (h : segT t = true) : (workP t).1 ≤ (workP t).2 ∧ (workP t).2 ≤ 20000000000 := by
  obtain ⟨⟨k0, k4⟩, ⟨l1, l2⟩, ⟨r1, r2⟩, ⟨a0, a1, a2⟩, f0, f1, f2⟩ := seg_bds h
  have p1 := prod_bds (f := t.2.2.2.2.2.2) (by omega) (by omega) l1 l2
  have p2 := prod_bds (f := t.2.2.2.2.1) (by omega) (by omega) l1 l2
  have m1 := prod_mono f1 l1
  have m2 := prod_mono a1 l1
  have e : (workP t).1 = 2 * t.2.2.2.2.2.1 * t.2.1 + 2 * t.2.2.2.1 * t.2.1 + 19612 * t.2.2.1 := by simp only [workP, Int.mul_add, Int.add_mul]; simp only [Int.mul_assoc]; omega
  have e2 : (workP t).2 = 2 * t.2.2.2.2.2.2 * t.2.1 + 2 * t.2.2.2.2.1 * t.2.1 + 19612 * t.2.2.1 := by simp only [workP, Int.mul_add, Int.add_mul]; simp only [Int.mul_assoc]; omega
  omega
set_option maxHeartbeats 4000000 in
theorem stops_impl (tk tl tr trl trh tfl tfh lo hi W1 W2 : Int) (hW : workP (tk, tl, tr, trl, trh, tfl, tfh) = (W1, W2)) (h : segB tk tl tr trl trh tfl tfh = true) (hw1 : 1 ≤ W1) (l1 : -1000000000000 ≤ lo) (l2 : lo ≤ 1000000000000) (h1 : -1000000000000 ≤ hi) (h2 : hi ≤ 1000000000000) (w : World) :
   Calls Try.prog 133 #[.agg #[.int .i64 tk, .int .i64 tl, .int .i64 tr, .int .i64 trl, .int .i64 trh, .int .i64 tfl, .int .i64 tfh], .agg #[.int .i64 lo, .int .i64 hi]] w fun e w' => e = .returned (.agg #[.int .i64 (lo * tl / W2), .int .i64 (-(-(hi * tl) / W1))]) ∧ Below w.heap.size w w' := by
  have hsd := (seg_bds h).2.1
  have hb2 := work_bds2 (t := (tk, tl, tr, trl, trh, tfl, tfh)) h
  rw [hW] at hb2
  dsimp only at hb2
  have m1 := mul_bds (x := lo) (l := tl) l1 l2 hsd.1 hsd.2
  have m2 := mul_bds (x := hi) (l := tl) h1 h2 hsd.1 hsd.2
  have HW := Lib.hid (fun w' => work_impl_t tk tl tr trl trh tfl tfh W1 W2 hW h w')
  have HD := Lib.hid (fun w' => down_any (lo * tl) W2 (by omega) (by omega) (by omega) (by omega) w')
  have HU := Lib.hid (fun w' => up_any (hi * tl) W1 (by omega) (by omega) (by omega) (by omega) w')
  have e1 : IntKind.i64.wrap (lo * tl) = lo * tl := IntWalk.i64_in _ (by omega)
  have e2 : IntKind.i64.wrap (hi * tl) = hi * tl := IntWalk.i64_in _ (by omega)
  generalize lo * tl / W2 = D at *
  generalize -(-(hi * tl) / W1) = U at *
  clear hsd hb2 m1 m2 hW h
  go_enter Try.func133, Try.ntmps133
  have T0 := Lib.hid (bk_alloc (bk_alloc (bk_new w #[.int .i64 tk, .int .i64 tl, .int .i64 tr, .int .i64 trl, .int .i64 trh, .int .i64 tfl, .int .i64 tfh] 39) (.cells #[.int .i64 lo, .int .i64 hi] 29)) (.cells #[.int .i64 0, .int .i64 0] 29))
  have T1 := Lib.hid (bk_alloc (bk_new (w.alloc (.cells #[.int .i64 tk, .int .i64 tl, .int .i64 tr, .int .i64 trl, .int .i64 trh, .int .i64 tfl, .int .i64 tfh] 39)) #[.int .i64 lo, .int .i64 hi] 29) (.cells #[.int .i64 0, .int .i64 0] 29))
  have T2 := Lib.hid (bk_new ((w.alloc (.cells #[.int .i64 tk, .int .i64 tl, .int .i64 tr, .int .i64 trl, .int .i64 trh, .int .i64 tfl, .int .i64 tfh] 39)).alloc (.cells #[.int .i64 lo, .int .i64 hi] 29)) #[.int .i64 0, .int .i64 0] 29)
  have q1 : (w.alloc (.cells #[.int .i64 tk, .int .i64 tl, .int .i64 tr, .int .i64 trl, .int .i64 trh, .int .i64 tfl, .int .i64 tfh] 39)).heap.size = w.heap.size + 1 := by simp
  have q2 : ((w.alloc (.cells #[.int .i64 tk, .int .i64 tl, .int .i64 tr, .int .i64 trl, .int .i64 trh, .int .i64 tfl, .int .i64 tfh] 39)).alloc (.cells #[.int .i64 lo, .int .i64 hi] 29)).heap.size = w.heap.size + 2 := by simp
  rw [q1] at T1
  rw [q2] at T2
  have B0 := Lib.hid (show Below w.heap.size w (((w.alloc (.cells #[.int .i64 tk, .int .i64 tl, .int .i64 tr, .int .i64 trl, .int .i64 trh, .int .i64 tfl, .int .i64 tfh] 39)).alloc (.cells #[.int .i64 lo, .int .i64 hi] 29)).alloc (.cells #[.int .i64 0, .int .i64 0] 29)) by repeat' (first | (with_reducible exact Below.refl _ _) | (with_reducible assumption) | (with_reducible refine Below.alloc ?_ ?_ _) | (with_reducible refine Below.drew ?_) | (with_reducible refine below_drewN ?_ _) | (with_reducible refine Below.setCell ?_ ?_ _) | (with_reducible refine Below.trans ?_ (Below.mono (by assumption) ?_)) | go_size | (exact Below.size (by assumption))))
  clear q1 q2
  go_wp2_with fail
  refine (HW.out _).mono ?_
  rintro e w1 ⟨rfl, b1⟩
  have z1 := b1.size
  simp only [World.size_alloc] at z1
  have S1 := Lib.hid (bk_alloc (bk_below T0.out b1 (by simp only [World.size_alloc]; omega)) (.cells #[.int .i64 W1, .int .i64 W2] 29))
  have I1 := Lib.hid (bk_alloc (bk_below T1.out b1 (by simp only [World.size_alloc]; omega)) (.cells #[.int .i64 W1, .int .i64 W2] 29))
  have R1 := Lib.hid (bk_alloc (bk_below T2.out b1 (by simp only [World.size_alloc]; omega)) (.cells #[.int .i64 W1, .int .i64 W2] 29))
  have V1 := Lib.hid (bk_new w1 #[.int .i64 W1, .int .i64 W2] 29)
  have B1 := Lib.hid ((B0.out.trans (b1.mono (by simp only [World.size_alloc]; omega))).alloc (by omega) (.cells #[.int .i64 W1, .int .i64 W2] 29))
  clear b1 T0 T1 T2 B0 HW
  go_wp2_with fail
  have g1 : w.heap.size + 2 < w1.heap.size := by omega
  generalize w1.alloc (.cells #[.int .i64 W1, .int .i64 W2] 29) = w2 at *
  generalize w1.heap.size = bv at *
  obtain ⟨x0, x1, x2, x3, x4, x5, x6, xf, xs⟩ := bk7 S1.out
  obtain ⟨i0, i1, jf, js⟩ := bk2 I1.out
  obtain ⟨r0, r1, rf, rs⟩ := bk2 R1.out
  obtain ⟨v0, v1, vf, vs⟩ := bk2 V1.out
  refine wp_region_still_tail 17 (by kernel_rfl) (by kernel_rfl) ?_
  simp only [List.take_succ_cons, List.take_zero, List.drop_succ_cons, List.drop_zero]
  repeat still_step
  still_call ((HD.out _).mono (fun e w' h => ⟨h.1, h.2.symm⟩))
  repeat still_step
  still_call ((HU.out _).mono (fun e w' h => ⟨h.1, h.2.symm⟩))
  repeat still_step
  refine wpStill_nil ?_
  change wpList _ _ _ _ _ w2.drew
  go_wp2
  refine ret_iv rfl rfl rfl (bk_fill2 (bk_drew R1.out) _ _) ?_
  exact ⟨rfl, by have := B1.out; repeat' (first | (with_reducible exact Below.refl _ _) | (with_reducible assumption) | (with_reducible refine Below.alloc ?_ ?_ _) | (with_reducible refine Below.drew ?_) | (with_reducible refine below_drewN ?_ _) | (with_reducible refine Below.setCell ?_ ?_ _) | (with_reducible refine Below.trans ?_ (Below.mono (by assumption) ?_)) | go_size | (exact Below.size (by assumption)))⟩
end Go.Proofs.Ytooifamckccadaa
namespace Go.Proofs.Ytooifamckccadaa
open Go.ChangeShapes Go.WideShapes Go.ChangeAt Go.RowKit
set_option maxRecDepth 20000
set_option linter.unusedVariables false
set_option linter.unusedSimpArgs false
theorem sub_get {ls : List Seg} {f n k : Nat} (hk : k < n) : ((ls.drop f).take n)[k]? = ls[f + k]? := by
  rw [List.getElem?_take, if_pos hk, List.getElem?_drop]
set_option maxHeartbeats 8000000 in
theorem stopBound_impl (ls : List Seg) (fs : List Int) (b lo hi : Int) (A : Option Addr) (B c : Nat) (A' : Option Addr) (c' : Nat) (w : World) (hs : Rd w B A (ls.flatMap eSegment)) (hr : Rd w B A' (ints fs)) (hB : B ≤ w.heap.size) (hn : ls.length ≤ 1048576) (hn2 : fs.length ≤ 1048576) (hc : ls.length ≤ c) (hcm : c ≤ 9223372036854775807) (hc2 : fs.length ≤ c') (hcm2 : c' ≤ 9223372036854775807) :
   Calls Try.prog 68 #[.agg #[.slice A ls.length c], .slice A' fs.length c', .int .i64 b, .agg #[.int .i64 lo, .int .i64 hi]] w fun e w' => e = .returned (.tuple #[.int .i64 (sbR ls fs b lo hi), .int .i64 (sbC ls fs b lo hi)]) ∧ Below w.heap.size w w' := by
  have Hs := Lib.hid ((hs.alloc hB (.cells #[.slice A ls.length c] 26)).alloc (by simp; omega) (.cells #[.int .i64 lo, .int .i64 hi] 29))
  have Hr := Lib.hid ((hr.alloc hB (.cells #[.slice A ls.length c] 26)).alloc (by simp; omega) (.cells #[.int .i64 lo, .int .i64 hi] 29))
  have hS : B ≤ ((w.alloc (.cells #[.slice A ls.length c] 26)).alloc (.cells #[.int .i64 lo, .int .i64 hi] 29)).heap.size := by simp; omega
  have HE := Lib.hid (fun (w' : World) (h : Rd w' B A (ls.flatMap eSegment)) (h2 : Rd w' B A' (ints fs)) (h3 : B ≤ w'.heap.size) => entryCode_any ls fs b lo hi A B c A' c' w' h h2 h3 hn hn2 hc2 hcm2)
  have L0 := Lib.hid (bk_alloc (bk_new w #[.slice A ls.length c] 26) (.cells #[.int .i64 lo, .int .i64 hi] 29))
  have I0 : Hid (Bk ((w.alloc (.cells #[.slice A ls.length c] 26)).alloc (.cells #[.int .i64 lo, .int .i64 hi] 29)) (w.heap.size + 1) #[.int .i64 lo, .int .i64 hi]) := Lib.hid (by simpa using bk_new (w.alloc (.cells #[.slice A ls.length c] 26)) #[.int .i64 lo, .int .i64 hi] 29)
  have B0 := Lib.hid (show Below w.heap.size w ((w.alloc (.cells #[.slice A ls.length c] 26)).alloc (.cells #[.int .i64 lo, .int .i64 hi] 29)) by repeat' (first | (with_reducible exact Below.refl _ _) | (with_reducible assumption) | (with_reducible refine Below.alloc ?_ ?_ _) | (with_reducible refine Below.drew ?_) | (with_reducible refine below_drewN ?_ _) | (with_reducible refine Below.setCell ?_ ?_ _) | (with_reducible refine Below.trans ?_ (Below.mono (by assumption) ?_)) | go_size | (exact Below.size (by assumption))))
  have hz0 : ((w.alloc (.cells #[.slice A ls.length c] 26)).alloc (.cells #[.int .i64 lo, .int .i64 hi] 29)).heap.size = w.heap.size + 2 := by simp
  have Hsw := Lib.hid hs
  clear hs hr
  by_cases h0 : enC ls fs b lo hi = 0
  rotate_left
  · have h1 : sbC ls fs b lo hi = enC ls fs b lo hi := by rw [sbC, if_neg h0]
    have h2 : sbR ls fs b lo hi = 0 := by rw [sbR, h1, if_neg h0]
    rw [h1, h2]
    clear h1 h2
    generalize enC ls fs b lo hi = C at *
    have hc9 : (C != 0) = true := by simpa using h0
    go_enter Try.func68, Try.ntmps68
    go_wp2_with fail
    refine (HE.out _ (by exact Hs.out) (by exact Hr.out) hS).mono ?_
    rintro e w1 ⟨rfl, b1⟩
    have B1 := Lib.hid (B0.out.trans (b1.mono (by omega)))
    clear b1
    go_wp2
    go_ret2
    exact ⟨rfl, B1.out⟩
  obtain ⟨hlay, hblk, hen, b', rfl, hb'⟩ := enC_zero h0
  have HM := Lib.hid (fun (w' : World) (h : Rd w' B A (ls.flatMap eSegment)) (h2 : Rd w' B A' (ints fs)) (h3 : B ≤ w'.heap.size) => mayEnterM_impl ls fs b' lo hi h0 A B c A' c' w' h h2 h3 hn hn2 hc hcm)
  rw [h0] at HE
  cases hm : mayB ls fs b' lo hi with
  | false =>
    have h1 : sbC ls fs b' lo hi = 5 := by rw [sbC, if_pos h0, hm]; rfl
    have h2 : sbR ls fs b' lo hi = 0 := by rw [sbR, h1]; rfl
    rw [h1, h2]
    rw [hm] at HM
    clear h1 h2 hm h0 hlay hblk hen
    go_enter Try.func68, Try.ntmps68
    go_wp2_with fail
    refine (HE.out _ (by exact Hs.out) (by exact Hr.out) hS).mono ?_
    rintro e w1 ⟨rfl, b1⟩
    have z1 := b1.size
    have Hs1 := Lib.hid (Hs.out.below b1 hS)
    have Hr1 := Lib.hid (Hr.out.below b1 hS)
    have L1 := Lib.hid (bk_below L0.out b1 (by omega))
    have I1 := Lib.hid (bk_below I0.out b1 (by omega))
    have B1 := Lib.hid (B0.out.trans (b1.mono (by omega)))
    clear b1
    obtain ⟨s0, sf, ss⟩ := bk1 L1.out
    obtain ⟨i0, i1, jf, js⟩ := bk2 I1.out
    go_wp2_with fail
    refine (HM.out _ (by exact Hs1.out) (by exact Hr1.out) (by omega)).mono ?_
    rintro e w2 ⟨rfl, b2⟩
    have B2 := Lib.hid (B1.out.trans (b2.mono (by omega)))
    clear b2 s0 sf ss i0 i1 jf js
    go_wp2
    go_ret2
    exact ⟨rfl, B2.out⟩
  | true =>
  have h1 : sbC ls fs b' lo hi = 0 := by rw [sbC, if_pos h0, hm]; rfl
  have h2 : sbR ls fs b' lo hi = sbP ls fs b' hi := by rw [sbR, h1, Int.toNat_natCast]; rfl
  rw [h1, h2]
  rw [hm] at HM
  obtain ⟨f, n, hfb, hend, hfn⟩ := blk_nat hblk hb'
  have ht := List.getElem?_eq_getElem hfn
  generalize ls[f + n] = t at ht
  rw [sbP_good hi hfb hend ht]
  obtain ⟨_, hlen3, hlen24⟩ := lay_all hlay
  obtain ⟨en0, en1, en2⟩ := wit_bds hen
  have hwb : brkB t.1 = true → 1 ≤ (workP t).1 := by
    intro hk
    rcases Int.lt_or_le (workP t).1 1 with h | h
    · exfalso
      have h5 := hm
      rw [mayB, h0, Int.toNat_natCast, entP_good hfb hend ht] at h5
      simp only [entM, hk, if_true, if_pos h, Bool.and_eq_true, decide_eq_true_eq] at h5
      omega
    · exact h
  have Hwb := Lib.hid hwb
  clear hwb h1 h2
  generalize hE1 : sbV ls f n t hi = E1
  have HE1 := Lib.hid hE1
  have HL := Lib.hid (fun (w' : World) (h2 : Rd w' B A' (ints fs)) (h3 : B ≤ w'.heap.size) => blockEnd_impl ls fs b' hb' _ hend A B c A' c' w' h2 h3 hn hn2)
  obtain ⟨bs, os, hA, hbB, _⟩ := Hs.out.atSegment ht
  subst hA
  obtain ⟨bf, fo, hA', hbf, _⟩ := Hr.out.int hfb
  subst hA'
  have Hlay := Lib.hid hlay
  have Ht := Lib.hid ht
  have Hfb := Lib.hid hfb
  have e1 : IntKind.i64.wrap (((f + n + 1 : Nat) : Int) - 1) = ((f + n : Nat) : Int) := by rw [show ((f + n + 1 : Nat) : Int) - 1 = ((f + n : Nat) : Int) by omega]; exact IntWalk.i64_in _ (by omega)
  have k0 : (0 : Int) ≤ (b' : Int) := by omega
  have k1 : (b' : Int) < (fs.length : Int) := by omega
  have q0 : (0 : Int) ≤ (f : Int) := by omega
  have q1 : (f : Int) ≤ ((f + n : Nat) : Int) := by omega
  have q2 : ((f + n : Nat) : Int) ≤ (c : Int) := by omega
  have q3 : ¬ f = c := by omega
  have q4 : (((f + n : Nat) : Int) - (f : Int)).toNat = n := by omega
  clear hE1 hlay hend hfb ht h0 hm hblk hen
  go_enter Try.func68, Try.ntmps68
  go_wp2_with fail
  refine (HE.out _ (by exact Hs.out) (by exact Hr.out) hS).mono ?_
  rintro e w1 ⟨rfl, b1⟩
  have z1 := b1.size
  have Hs1 := Lib.hid (Hs.out.below b1 hS)
  have Hr1 := Lib.hid (Hr.out.below b1 hS)
  have L1 := Lib.hid (bk_below L0.out b1 (by omega))
  have I1 := Lib.hid (bk_below I0.out b1 (by omega))
  have B1 := Lib.hid (B0.out.trans (b1.mono (by omega)))
  clear b1 Hs Hr L0 I0 B0 HE
  obtain ⟨s0, sf, ss⟩ := bk1 L1.out
  obtain ⟨i0, i1, jf, js⟩ := bk2 I1.out
  go_wp2_with fail
  refine (HM.out _ (by exact Hs1.out) (by exact Hr1.out) (by omega)).mono ?_
  rintro e w2 ⟨rfl, b2⟩
  have z2 := b2.size
  have Hs2 := Lib.hid (Hs1.out.below b2 (by omega))
  have Hr2 := Lib.hid (Hr1.out.below b2 (by omega))
  have L2 := Lib.hid (bk_below L1.out b2 (by omega))
  have I2 := Lib.hid (bk_below I1.out b2 (by omega))
  have B2 := Lib.hid (B1.out.trans (b2.mono (by omega)))
  clear b2 Hs1 Hr1 L1 I1 B1 HM s0 sf ss i0 i1 jf js
  obtain ⟨s0, sf, ss⟩ := bk1 L2.out
  go_wp2_with fail
  refine (HL.out _ (by exact Hr2.out) (by omega)).mono ?_
  rintro e w3 ⟨rfl, b3⟩
  have z3 := b3.size
  have Hs3 := Lib.hid (Hs2.out.below b3 (by omega))
  have Hr3 := Lib.hid (Hr2.out.below b3 (by omega))
  have L3 := Lib.hid (bk_below L2.out b3 (by omega))
  have I3 := Lib.hid (bk_below I2.out b3 (by omega))
  have B3 := Lib.hid (B2.out.trans (b3.mono (by omega)))
  clear b3 Hs2 Hr2 L2 I2 B2 HL s0 sf ss
  obtain ⟨cL, sf, ss⟩ := bk1 L3.out
  obtain ⟨bf', fo', hA', hbf', cF⟩ := Hr3.out.int Hfb.out
  injection hA' with hA'
  injection hA' with g5 g6
  subst g5 g6
  have g2 : bf < w3.heap.size := by omega
  go_wp2_with fail
  refine wp_region_cls (S := Below w3.heap.size w3) (by kernel_rfl) (by kernel_rfl) (below_drew1 _ _) ?_
  replace cL := cls_cell cL ss
  replace cF := cls_cell cF g2
  repeat (go_big_quiet_step (fail))
  refine wpQuiet_nil ?_
  rintro w4 ⟨⟨_, b4⟩, rfl⟩
  (try dsimp only)
  (try simp only [Nat.add_sub_cancel_left])
  have z4 := b4.size
  have L4 := Lib.hid (bk_below L3.out b4 (by omega))
  have I4 := Lib.hid (bk_below I3.out b4 (by omega))
  have B4 := Lib.hid (B3.out.trans (b4.mono (by omega)))
  clear b4 Hs3 Hr3 L3 I3 B3 cL cF sf ss g2 hbf'
  have hB4 : B ≤ w4.heap.size := by omega
  have hw4 : w.heap.size + 2 ≤ w4.heap.size := by omega
  clear z1 z2 z3 z4 hz0 hS
  go_wp2_with fail
  go_loopw [12, 44] (fun s i wr => ∃ k : Nat, k ≤ n ∧ i = .int .i64 (k : Int) ∧ s = .int .i64 (lSum ls f k) ∧ w.heap.size + 2 ≤ wr.heap.size ∧ Below w.heap.size w wr ∧ wr.cell? ⟨w.heap.size, 0, none⟩ = some (.slice (some ⟨bs, os, none⟩) ls.length c) ∧ wr.cell? ⟨w.heap.size + 1, 0, none⟩ = some (.int .i64 (lo + gSum ls f k)) ∧ wr.cell? ⟨w.heap.size + 1, 1, none⟩ = some (.int .i64 (hi + hSum ls f k)) ∧ wr.frozen? ⟨w.heap.size + 1, 0, none⟩ = false ∧ wr.frozen? ⟨w.heap.size + 1, 1, none⟩ = false) (fun _ i _ => n - (intOf i).toNat)
  case atStart =>
    obtain ⟨s0, sf, ss⟩ := bk1 L4.out
    obtain ⟨i0, i1, jf, js⟩ := bk2 I4.out
    exact ⟨0, Nat.zero_le _, rfl, rfl, hw4, B4.out, s0, by rw [i0]; simp [gSum], by rw [i1]; simp [hSum], jf 0, jf 1⟩
  case round =>
    clear L4 I4 B4
    obtain ⟨k, hk, rfl, rfl, hsz, hbw2, cL, cE0, cE1, f0, f1⟩ := hrel
    have hRw := Hsw.out.below hbw2 hB
    have hRs := rd_take (rd_dropT 7 eSegment_len hRw f (by omega)) n
    by_cases hlt : k < n
    · have ht := List.getElem?_eq_getElem (show f + k < ls.length by omega)
      generalize ls[f + k] = t2 at ht
      have hst := seg_at Hlay.out ht
      have hsum := hSum_step ht
      have gsum := gSum_step ht
      have lsum := lSum_step ht
      have hb0 := hSum_bds Hlay.out f (k + 1)
      have hb1 := gSum_bds Hlay.out f (k + 1)
      have hb2 := lSum_bds Hlay.out f (k + 1)
      have HCh := Lib.hid (fun w' => change_any _ _ _ _ _ _ _ hst w')
      obtain ⟨bx, ox, hA, hbx, c0, c1, c2, c3, c4, c5, c6⟩ := hRs.atSegment ((sub_get (ls := ls) (f := f) hlt).trans ht)
      injection hA with hA
      injection hA with g5 g6
      subst g5 g6
      have j0 : (0 : Int) ≤ (k : Int) := by omega
      have j1 : (k : Int) < (n : Int) := by omega
      unfold chHi at hsum
      unfold chLo at gsum
      obtain ⟨tk, tl, tr, trl, trh, tfl, tfh⟩ := t2
      dsimp only at *
      generalize -19612 * tr - 2 * trh * tl = x1 at *
      generalize -19612 * tr - 2 * trl * tl = x2 at *
      have e3 : IntKind.i64.wrap (lo + gSum ls f k + x1) = lo + gSum ls f (k + 1) := by rw [gsum, ← Int.add_assoc]; exact IntWalk.i64_in _ (by omega)
      have e4 : IntKind.i64.wrap (hi + hSum ls f k + x2) = hi + hSum ls f (k + 1) := by rw [hsum, ← Int.add_assoc]; exact IntWalk.i64_in _ (by omega)
      have e5 : IntKind.i64.wrap (lSum ls f k + tl) = lSum ls f (k + 1) := by rw [lsum]; exact IntWalk.i64_in _ (by omega)
      have e6 : wrap64 (lSum ls f k + tl) = lSum ls f (k + 1) := by rw [← IntWalk.i64_left]; exact e5
      have g3 : lo + gSum ls f k + x1 = lo + gSum ls f (k + 1) := by omega
      have g4 : hi + hSum ls f k + x2 = hi + hSum ls f (k + 1) := by omega
      have HSm := Lib.hid (fun w' => plus_any (lo + gSum ls f k) (hi + hSum ls f k) x1 x2 (by rw [e3, g3]) (by rw [e4, g4]) w')
      rw [g3, g4] at HSm
      clear hsum gsum lsum ht hst hb0 hb1 hb2 hRs hRw e3 e4 g3 g4
      generalize lo + gSum ls f k = el at *
      generalize hi + hSum ls f k = eh at *
      generalize hX1 : lo + gSum ls f (k + 1) = X1 at *
      generalize hX2 : hi + hSum ls f (k + 1) = X2 at *
      have HX1 := Lib.hid hX1
      have HX2 := Lib.hid hX2
      clear hX1 hX2
      have g0 : w.heap.size < wr.heap.size := by omega
      have g1 : w.heap.size + 1 < wr.heap.size := by omega
      have g2 : bs < wr.heap.size := by omega
      have n1 : bs ≠ w.heap.size + 1 := by omega
      have n2 : w.heap.size + 1 ≠ bs := by omega
      go_upto_region 12 with fail
      go_region_with (first | (go_at_call 132; refine (HCh.out _).mono ?_; rintro e w5 ⟨rfl, b5⟩; replace b5 : Below wr.heap.size wr w5 := (by repeat' (first | (with_reducible exact Below.refl _ _) | (with_reducible assumption) | (with_reducible refine Below.alloc ?_ ?_ _) | (with_reducible refine Below.drew ?_) | (with_reducible refine below_drewN ?_ _) | (with_reducible refine Below.setCell ?_ ?_ _) | (with_reducible refine Below.trans ?_ (Below.mono (by assumption) ?_)) | go_size | (exact Below.size (by assumption)))); obtain ⟨hc5, hf5, hz5⟩ := bstep (Nat.le_refl _) b5; (try simp only [World.size_alloc, World.size_drew] at hc5 hf5 hz5); have hy5 : w.heap.size + 1 < w5.heap.size := (by omega); have hv5 : w.heap.size < w5.heap.size := (by omega)) | (go_at_call 131; refine (HSm.out _).mono ?_; rintro e w6 ⟨rfl, b6⟩; obtain ⟨hc6, hf6, hz6⟩ := bstep (Nat.le_refl _) b6; (try simp only [World.size_alloc, World.size_drew] at hc6 hf6 hz6); have hy6 : w.heap.size + 1 < w6.heap.size := (by omega); have hv6 : w.heap.size < w6.heap.size := (by omega)))
      all_goals (go_wp2_with fail; go_roundw; (case rel => exact ⟨k + 1, by omega, by go_num, by first | rfl | (rw [e6]; done) | (rw [e5]; done), by first | omega | go_size, by repeat' (first | (with_reducible exact Below.refl _ _) | (with_reducible assumption) | (with_reducible refine Below.alloc ?_ ?_ _) | (with_reducible refine Below.drew ?_) | (with_reducible refine below_drewN ?_ _) | (with_reducible refine Below.setCell ?_ ?_ _) | (with_reducible refine Below.trans ?_ (Below.mono (by assumption) ?_)) | go_size | (exact Below.size (by assumption))), by first | go_cell | assumption, by first | go_cell | (rw [HX1.out]; go_cell), by first | go_cell | (rw [HX2.out]; go_cell), by go_cell, by go_cell⟩); (case measure => simp [intOf]; omega))
    · have hk' : k = n := by omega
      subst hk'
      have hst := seg_at Hlay.out Ht.out
      have hb0 := hSum_bds Hlay.out f k
      have hb1 := gSum_bds Hlay.out f k
      have hb2 := lSum_bds Hlay.out f k
      have hwk := work_bds hst
      have hsd := (seg_bds hst).2.1
      have HBr := Lib.hid (fun w' => isBrake_impl t.1 t.2.1 t.2.2.1 t.2.2.2.1 t.2.2.2.2.1 t.2.2.2.2.2.1 t.2.2.2.2.2.2 w')
      obtain ⟨W1, W2, hW⟩ : ∃ W1 W2, workP t = (W1, W2) := ⟨_, _, rfl⟩
      have hwb := Hwb.out
      rw [hW] at hwb
      dsimp only at hwb
      have HSt := Lib.hid (fun (hk : brkB t.1 = true) w' => stops_impl t.1 t.2.1 t.2.2.1 t.2.2.2.1 t.2.2.2.2.1 t.2.2.2.2.2.1 t.2.2.2.2.2.2 (lo + gSum ls f k) (hi + hSum ls f k) W1 W2 hW hst (hwb hk) (by omega) (by omega) (by omega) (by omega) w')
      obtain ⟨bx, ox, hA, hbx, c0, c1, c2, c3, c4, c5, c6⟩ := hRw.atSegment Ht.out
      injection hA with hA
      injection hA with g5 g6
      subst g5 g6
      have h1 := HE1.out
      unfold sbV at h1
      rw [hW] at h1 hwk
      dsimp only at h1 hwk
      have j0 : (0 : Int) ≤ ((f + k : Nat) : Int) := by omega
      have j1 : ((f + k : Nat) : Int) < (ls.length : Int) := by omega
      have g1 : w.heap.size < wr.heap.size := by omega
      have g2 : w.heap.size + 1 < wr.heap.size := by omega
      have g3 : bs < wr.heap.size := by omega
      have hmul := mul_bds (x := hi + hSum ls f k) (l := t.2.1) (by omega) (by omega) hsd.1 hsd.2
      clear hst hRs hRw
      generalize hi + hSum ls f k = eh at *
      generalize lo + gSum ls f k = el at *
      generalize lSum ls f k = S at *
      obtain ⟨tk, tl, tr, trl, trh, tfl, tfh⟩ := t
      dsimp only at *
      cases hbk : brkB tk with
      | false =>
        rw [hbk] at h1 HBr
        simp only [if_false, Bool.false_eq_true] at h1
        have e7 : IntKind.i64.wrap (S + tl) = S + tl := IntWalk.i64_in _ (by omega)
        have e8 : wrap64 (S + tl) = S + tl := IntWalk.wrap64_in _ (by omega)
        have H1 := Lib.hid h1
        clear hbk h1 hmul hwb HSt hW
        go_wp2_with (go_at_call 91; refine (HBr.out _).mono ?_; rintro e w5 ⟨rfl, b5⟩; obtain ⟨hc5, hf5, hz5⟩ := bstep (Nat.le_refl _) b5; (try simp only [World.size_alloc, World.size_drew] at hc5 hf5 hz5); have y5 : w.heap.size < w5.heap.size := (by omega); have x5 : w.heap.size + 1 < w5.heap.size := (by omega))
        go_ret2
        exact ⟨by rw [← H1.out]; rfl, by repeat' (first | (with_reducible exact Below.refl _ _) | (with_reducible assumption) | (with_reducible refine Below.alloc ?_ ?_ _) | (with_reducible refine Below.drew ?_) | (with_reducible refine below_drewN ?_ _) | (with_reducible refine Below.setCell ?_ ?_ _) | (with_reducible refine Below.trans ?_ (Below.mono (by assumption) ?_)) | go_size | (exact Below.size (by assumption)))⟩
      | true =>
        have hw1 := hwb hbk
        have HS2 := Lib.hid (HSt.out hbk)
        rw [hbk] at h1 HBr
        simp only [if_true] at h1
        have hq := ediv_bound (-(eh * tl)) W1 1000000000000000000 (by omega) (by omega) (by omega) (by omega)
        have e10 : IntKind.i64.wrap (S + -(-(eh * tl) / W1)) = S + -(-(eh * tl) / W1) := IntWalk.i64_in _ (by omega)
        have e11 : wrap64 (S + -(-(eh * tl) / W1)) = S + -(-(eh * tl) / W1) := IntWalk.wrap64_in _ (by omega)
        generalize -(-(eh * tl) / W1) = Q at *
        generalize el * tl / W2 = P at *
        have hF1 := field_iv1 P Q
        have H1 := Lib.hid h1
        clear hbk hwb h1 HSt hmul hW
        go_wp2_with (first | (go_at_call 91; refine (HBr.out _).mono ?_; rintro e w5 ⟨rfl, b5⟩; obtain ⟨hc5, hf5, hz5⟩ := bstep (Nat.le_refl _) b5; (try simp only [World.size_alloc, World.size_drew] at hc5 hf5 hz5); have y5 : w.heap.size < w5.heap.size := (by omega); have x5 : w.heap.size + 1 < w5.heap.size := (by omega); have v5 : wr.heap.size < w5.heap.size := (by omega)) | (go_at_call 133; refine (HS2.out _).mono ?_; rintro e w6 ⟨rfl, b6⟩))
        go_ret2
        exact ⟨by rw [← H1.out]; rfl, by repeat' (first | (with_reducible exact Below.refl _ _) | (with_reducible assumption) | (with_reducible refine Below.alloc ?_ ?_ _) | (with_reducible refine Below.drew ?_) | (with_reducible refine below_drewN ?_ _) | (with_reducible refine Below.setCell ?_ ?_ _) | (with_reducible refine Below.trans ?_ (Below.mono (by assumption) ?_)) | go_size | (exact Below.size (by assumption)))⟩
end Go.Proofs.Ytooifamckccadaa
namespace Go.Proofs.Ytooifamckccadaa
open Go.ChangeShapes Go.WideShapes Go.ChangeAt Go.RowKit
set_option maxRecDepth 20000
set_option linter.unusedVariables false
set_option linter.unusedSimpArgs false
/-- where segments begin -/
def stL (ls : List Seg) : Nat → List Int
  | 0 => [0]
  | k + 1 => stL ls k ++ [lSum ls 0 (k + 1)]
theorem stL_len (ls : List Seg) (k : Nat) : (stL ls k).length = k + 1 := by
  induction k with
  | zero => rfl
  | succ k ih => rw [stL, List.length_append, ih]; rfl
theorem stL_at (ls : List Seg) (k : Nat) : ∀ j, j ≤ k → (stL ls k)[j]? = some (lSum ls 0 j) := by
  induction k with
  | zero => intro j hj; have : j = 0 := by omega
            subst this; rfl
  | succ k ih =>
    intro j hj
    rw [stL]
    by_cases h : j ≤ k
    · rw [List.getElem?_append_left (by rw [stL_len]; omega)]; exact ih j h
    · have : j = k + 1 := by omega
      subst this
      rw [List.getElem?_append_right (by rw [stL_len]; omega), stL_len, Nat.sub_self]; rfl
theorem lSum_add (ls : List Seg) (f m : Nat) : lSum ls 0 (f + m) = lSum ls 0 f + lSum ls f m := by
  induction m with
  | zero => simp [lSum]
  | succ m ih =>
    show lSum ls 0 (f + m) + _ = lSum ls 0 f + (lSum ls f m + _)
    rw [ih, Nat.zero_add, Int.add_assoc]
    rfl
set_option maxHeartbeats 2000000 in
theorem starts_impl (ls : List Seg) (hlay : layB ls = true) (A : Option Addr) (B c : Nat) (w : World) (hs : Rd w B A (ls.flatMap eSegment)) (hB : B ≤ w.heap.size) :
   Calls Try.prog 172 #[.agg #[.slice A ls.length c]] w fun e w' => ∃ (A2 : Option Addr) (c2 : Nat), e = .returned (.slice A2 (ls.length + 1) c2) ∧ w'.ownsRow w.heap.size 2 1 (.slice A2 (ls.length + 1) c2) (ls.length + 1) (ints (stL ls ls.length)) ∧ Below w.heap.size w w' := by
  obtain ⟨i0, hi0, hz0, hz1, hz2⟩ := info_parts infoInt64
  obtain ⟨_, hlen3, hlen24⟩ := lay_all hlay
  have Hs := Lib.hid hs
  have Hlay := Lib.hid hlay
  have O0 : Hid (((w.alloc (.cells #[.slice A ls.length c] 26)).alloc (.cells #[.int .i64 0] 2)).ownsRow w.heap.size 2 1 (.slice (some ⟨w.heap.size + 1, 0, none⟩) 1 1) 1 (ints [0])) := Lib.hid (by
    have := World.ownsRow_lit (base := w.heap.size) (e := 2) (size := 1) (w.alloc (.cells #[.slice A ls.length c] 26)) #[.int .i64 0] 1 (by simp) (by unfold maxLen; omega) rfl
    simpa [ints] using this)
  have L0 := Lib.hid (bk_alloc (bk_new w #[.slice A ls.length c] 26) (.cells #[.int .i64 0] 2))
  have B0 := Lib.hid (show Below w.heap.size w ((w.alloc (.cells #[.slice A ls.length c] 26)).alloc (.cells #[.int .i64 0] 2)) by repeat' (first | (with_reducible exact Below.refl _ _) | (with_reducible assumption) | (with_reducible refine Below.alloc ?_ ?_ _) | (with_reducible refine Below.drew ?_) | (with_reducible refine below_drewN ?_ _) | (with_reducible refine Below.setCell ?_ ?_ _) | (with_reducible refine Below.trans ?_ (Below.mono (by assumption) ?_)) | go_size | (exact Below.size (by assumption))))
  clear hs hlay
  go_enter Try.func172, Try.ntmps172
  go_wp2_with fail
  go_loopw [3, 10] (fun v i wr => ∃ k : Nat, k ≤ ls.length ∧ i = .int .i64 k ∧ wr.ownsRow w.heap.size 2 1 v (k + 1) (ints (stL ls k)) ∧ Below w.heap.size w wr) (fun _ i _ => ls.length - (intOf i).toNat)
  case atStart => exact ⟨0, Nat.zero_le _, rfl, O0.out, B0.out⟩
  case round =>
    clear O0 L0 B0
    obtain ⟨k, hk, rfl, hown, hbw⟩ := hrel
    have hsz := hbw.size
    by_cases hlt : k < ls.length
    · have ht := List.getElem?_eq_getElem hlt
      generalize ls[k] = t at ht
      obtain ⟨bs, os, rfl, hbB, c0, c1, c2, c3, c4, c5, c6⟩ := (Hs.out.below hbw hB).atSegment ht
      have hls := lSum_step (f := 0) (k := k) (by rw [Nat.zero_add]; exact ht)
      have hb2 := lSum_bds Hlay.out 0 (k + 1)
      have hat := stL_at ls k k (Nat.le_refl _)
      obtain ⟨A3, c9, rfl⟩ := own_val hown
      obtain ⟨gb, rfl, hgb, hgb2⟩ := own_form hown (by omega)
      have cv : wr.cell? ⟨gb, k, none⟩ = some (.int .i64 (lSum ls 0 k)) := by
        rw [hown.cellAt k (by omega)]
        simp [ints, hat]
      obtain ⟨tk, tl, tr, trl, trh, tfl, tfh⟩ := t
      dsimp only at *
      have e5 : IntKind.i64.wrap (lSum ls 0 k + tl) = lSum ls 0 (k + 1) := by rw [hls]; exact IntWalk.i64_in _ (by omega)
      have e6 : wrap64 (lSum ls 0 k + tl) = lSum ls 0 (k + 1) := by rw [← IntWalk.i64_left]; exact e5
      have Ho := Lib.hid hown
      have Hb := Lib.hid hbw
      have Hst := Lib.hid (show stL ls (k + 1) = stL ls k ++ [lSum ls 0 (k + 1)] from rfl)
      clear ht hown hbw hat hls hb2
      generalize lSum ls 0 (k + 1) = X at *
      generalize lSum ls 0 k = Y at *
      have hkn : k + 1 ≤ 1048576 := by omega
      have hk0 : (0 : Int) ≤ (k : Int) := by omega
      have hk1 : (k : Int) < (k : Int) + 1 := by omega
      have hsz1 : w.heap.size ≤ (World.drew (wr.alloc (.cells #[.int .i64 tk, .int .i64 tl, .int .i64 tr, .int .i64 trl, .int .i64 trh, .int .i64 tfl, .int .i64 tfh] 39))).heap.size := by simp; omega
      have hsz2 := Lib.hid hsz1
      have gbs : bs < wr.heap.size := by omega
      go_wp2_with fail
      go_region_law (first | (refine step_append_int (w := World.drew (wr.alloc (.cells #[.int .i64 tk, .int .i64 tl, .int .i64 tr, .int .i64 trl, .int .i64 trh, .int .i64 tfl, .int .i64 tfh] 39))) rfl (.tmp 15) (.tmp 23) 27 rfl w.heap.size 2 i0 Try.underlying27 hi0 hz0 hz1 hz2 _ _ (stL ls k) (by rfl) (own_drew (Ho.out.alloc _)) X (wr.heap.size + 1) (by simp) (by rfl) hkn hsz1 ?_; intro v1 w1 own1 hb1 hz3; have O1 := Lib.hid own1; clear own1))
      all_goals go_wp2
      all_goals go_roundw
      all_goals first | exact ⟨k + 1, by omega, by go_num, by rw [Hst.out]; exact O1.out, (Hb.out.trans ((Below.refl _ _).alloc hsz _)).drew.trans hb1⟩ | (simp [intOf]; omega)
    · have hk' : k = ls.length := by omega
      subst hk'
      obtain ⟨A', c', rfl⟩ := own_val hown
      have Ho := Lib.hid hown
      clear hown
      go_wp2
      go_ret
      exact ⟨A', c', rfl, Ho.out, hbw⟩
set_option maxHeartbeats 2000000 in
theorem blockSpan_impl (ls : List Seg) (fs : List Int) (b f n : Nat) (hlay : layB ls = true) (hb : b < fs.length) (hfb : fs[b]? = some (f : Int)) (hend : endP ls fs b = ((f + n + 1 : Nat) : Int)) (hfn : f + n < ls.length) (A : Option Addr) (B c : Nat) (A' : Option Addr) (c' : Nat) (w : World) (hs : Rd w B A (ls.flatMap eSegment)) (hr : Rd w B A' (ints fs)) (hB : B ≤ w.heap.size) (hn1 : ls.length ≤ 1048576) (hn2 : fs.length ≤ 1048576) :
   Calls Try.prog 140 #[.agg #[.slice A ls.length c], .slice A' fs.length c', .int .i64 b] w fun e w' => e = .returned (.tuple #[.int .i64 (lSum ls 0 f), .int .i64 (lSum ls f (n + 1))]) ∧ Below w.heap.size w w' := by
  obtain ⟨_, hlen3, hlen24⟩ := lay_all hlay
  have Hs := Lib.hid (hs.alloc hB (.cells #[.slice A ls.length c] 26))
  have Hr := Lib.hid (hr.alloc hB (.cells #[.slice A ls.length c] 26))
  have HL := Lib.hid (fun (w' : World) (h2 : Rd w' B A' (ints fs)) (h3 : B ≤ w'.heap.size) => blockEnd_impl ls fs b hb _ hend A B c A' c' w' h2 h3 hn1 hn2)
  have L0 := Lib.hid (bk_new w #[.slice A ls.length c] 26)
  have B0 := Lib.hid (show Below w.heap.size w (w.alloc (.cells #[.slice A ls.length c] 26)) by repeat' (first | (with_reducible exact Below.refl _ _) | (with_reducible assumption) | (with_reducible refine Below.alloc ?_ ?_ _) | (with_reducible refine Below.drew ?_) | (with_reducible refine below_drewN ?_ _) | (with_reducible refine Below.setCell ?_ ?_ _) | (with_reducible refine Below.trans ?_ (Below.mono (by assumption) ?_)) | go_size | (exact Below.size (by assumption))))
  have hS : B ≤ (w.alloc (.cells #[.slice A ls.length c] 26)).heap.size := by simp; omega
  have HST := Lib.hid (starts_impl ls hlay A B c (w.alloc (.cells #[.slice A ls.length c] 26)) Hs.out hS)
  obtain ⟨bf, fo, hA', hbf, _⟩ := Hr.out.int hfb
  subst hA'
  have Hfb := Lib.hid hfb
  have hat1 := stL_at ls ls.length f (by omega)
  have hat2 := stL_at ls ls.length (f + n + 1) (by omega)
  have hb1 := lSum_bds hlay 0 f
  have hb2 := lSum_bds hlay 0 (f + n + 1)
  have hadd := lSum_add ls f (n + 1)
  rw [← Nat.add_assoc] at hadd
  have e1 : IntKind.i64.wrap (lSum ls 0 (f + n + 1) - lSum ls 0 f) = lSum ls f (n + 1) := by rw [show lSum ls 0 (f + n + 1) - lSum ls 0 f = lSum ls f (n + 1) by omega]; exact IntWalk.i64_in _ (by have := lSum_bds hlay f (n + 1); omega)
  have Hat1 := Lib.hid hat1
  have Hat2 := Lib.hid hat2
  have i0 : (0 : Int) ≤ (b : Int) := by omega
  have i1 : (b : Int) < (fs.length : Int) := by omega
  clear hs hr hlay hend hfb hat1 hat2 hadd hb1 hb2
  generalize lSum ls 0 (f + n + 1) = X at *
  generalize lSum ls 0 f = Y at *
  generalize lSum ls f (n + 1) = Z at *
  go_enter Try.func140, Try.ntmps140
  go_wp2_with fail
  refine HST.out.mono ?_
  rintro e w1 ⟨A2, c2, rfl, o1, b1⟩
  have z1 := b1.size
  simp only [World.size_alloc] at z1
  obtain ⟨gb, rfl, hgb, hgb2⟩ := own_form o1 (by omega)
  simp only [World.size_alloc] at hgb
  have cv1 : w1.cell? ⟨gb, f, none⟩ = some (.int .i64 Y) := by
    rw [o1.cellAt f (by omega)]
    simp [ints, Hat1.out]
  have cv2 : w1.cell? ⟨gb, f + n + 1, none⟩ = some (.int .i64 X) := by
    rw [o1.cellAt (f + n + 1) (by omega)]
    simp [ints, Hat2.out]
  have hr1 := Hr.out.below b1 hS
  have L1 := Lib.hid (bk_below L0.out b1 (by simp only [World.size_alloc]; omega))
  have B1 := Lib.hid (B0.out.trans (b1.mono (by simp only [World.size_alloc]; omega)))
  obtain ⟨bf', fo', hA', hbf', cF⟩ := hr1.int Hfb.out
  injection hA' with hA'
  injection hA' with g5 g6
  subst g5 g6
  have Hr1 := Lib.hid hr1
  clear b1 o1 hr1 HST Hs Hr L0 B0 hS Hat1 Hat2 Hfb
  obtain ⟨cL, sf, ss⟩ := bk1 L1.out
  have g2 : bf < w1.heap.size := by omega
  have j0 : (0 : Int) ≤ (f : Int) := by omega
  have j1 : (f : Int) < (ls.length : Int) + 1 := by omega
  have j2 : (0 : Int) ≤ ((f + n + 1 : Nat) : Int) := by omega
  have j3 : ((f + n + 1 : Nat) : Int) < (ls.length : Int) + 1 := by omega
  have j4 : (0 : Int) ≤ (f : Int) + (n : Int) + 1 := by omega
  have j5 : (f : Int) + (n : Int) + 1 < (ls.length : Int) + 1 := by omega
  have j6 : ((f : Int) + (n : Int) + 1).toNat = f + n + 1 := by omega
  go_wp2_with fail
  refine wp_region_cls (S := Below w1.heap.size w1) (by kernel_rfl) (by kernel_rfl) (below_drew1 _ _) ?_
  replace cL := cls_cell cL ss
  replace cv2 := cls_cell cv2 hgb2
  repeat (go_big_quiet_step ((go_at_call 79; exact cls_call (Nat.le_refl _) (HL.out _ (cls_rd _ Hr1.out (by omega)) (cls_le _ (by omega))))))
  refine wpQuiet_nil ?_
  rintro w4 ⟨⟨_, b4⟩, rfl⟩
  (try dsimp only)
  have B4 := Lib.hid (B1.out.trans (b4.mono (by omega)))
  clear b4
  go_wp2
  go_ret2
  exact ⟨by first | rfl | (rw [e1]), B4.out⟩
set_option maxHeartbeats 2000000 in
theorem blockLength_impl (ls : List Seg) (fs : List Int) (b f n : Nat) (h0 : bkC ls fs b = 0) (hlay : layB ls = true) (hb : b < fs.length) (hfb : fs[b]? = some (f : Int)) (hend : endP ls fs b = ((f + n + 1 : Nat) : Int)) (hfn : f + n < ls.length) (A : Option Addr) (B c : Nat) (A' : Option Addr) (c' : Nat) (w : World) (hs : Rd w B A (ls.flatMap eSegment)) (hr : Rd w B A' (ints fs)) (hB : B ≤ w.heap.size) (hn1 : ls.length ≤ 1048576) (hn2 : fs.length ≤ 1048576) (hc : fs.length ≤ c') (hcm : c' ≤ 9223372036854775807) :
   Calls Try.prog 72 #[.agg #[.slice A ls.length c], .slice A' fs.length c', .int .i64 b] w fun e w' => e = .returned (.tuple #[.int .i64 (lSum ls f (n + 1)), .int .i64 0]) ∧ Below w.heap.size w w' := by
  have Hs := Lib.hid (hs.alloc hB (.cells #[.slice A ls.length c] 26))
  have Hr := Lib.hid (hr.alloc hB (.cells #[.slice A ls.length c] 26))
  have HC := Lib.hid (fun (w' : World) (h : Rd w' B A (ls.flatMap eSegment)) (h2 : Rd w' B A' (ints fs)) (h3 : B ≤ w'.heap.size) => blockCode_any ls fs (b : Int) A B c A' c' w' h h2 h3 hn1 hn2 hc hcm)
  have HP := Lib.hid (fun (w' : World) (h : Rd w' B A (ls.flatMap eSegment)) (h2 : Rd w' B A' (ints fs)) (h3 : B ≤ w'.heap.size) => blockSpan_impl ls fs b f n hlay hb hfb hend hfn A B c A' c' w' h h2 h3 hn1 hn2)
  rw [h0] at HC
  clear hs hr hlay hfb hend h0
  generalize lSum ls f (n + 1) = Z at *
  generalize lSum ls 0 f = Y at *
  go_enter Try.func72, Try.ntmps72
  go_wp2_with (first | (go_at_call 87; refine (HC.out _ (by exact Hs.out) (by exact Hr.out) (by simp; omega)).mono ?_; rintro e w1 ⟨rfl, b1⟩; have Hs1 := Lib.hid (Hs.out.below b1 (by simp; omega)); have Hr1 := Lib.hid (Hr.out.below b1 (by simp; omega)); obtain ⟨hc1, hf1, hz1⟩ := bstep (N := w.heap.size + 1) (by go_size) b1; have hy1 : w.heap.size < w1.heap.size := (by omega)) | (go_at_call 140; refine (HP.out _ (by exact Hs1.out) (by exact Hr1.out) (by omega)).mono ?_; rintro e w2 ⟨rfl, b2⟩))
  go_ret2
  exact ⟨rfl, by repeat' (first | (with_reducible exact Below.refl _ _) | (with_reducible assumption) | (with_reducible refine Below.alloc ?_ ?_ _) | (with_reducible refine Below.drew ?_) | (with_reducible refine below_drewN ?_ _) | (with_reducible refine Below.setCell ?_ ?_ _) | (with_reducible refine Below.trans ?_ (Below.mono (by assumption) ?_)) | go_size | (exact Below.size (by assumption)))⟩
end Go.Proofs.Ytooifamckccadaa
