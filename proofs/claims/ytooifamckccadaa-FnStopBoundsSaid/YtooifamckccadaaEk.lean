/- The bounds of a block's entry: a walk of the reference. -/
import Derived.Test.YtooifamckccadaaNed
import Derived.Test.YtooifamckccadaaBkc
namespace Go.Proofs.Ytooifamckccadaa
open Go.ChangeShapes Go.WideShapes Go.ChangeAt Go.RowKit
set_option maxRecDepth 20000
set_option linter.unusedVariables false
set_option linter.unusedSimpArgs false
/-- what coasting over a segment changes at the most -/
def chHi (t : Seg) : Int := -19612 * t.2.2.1 - 2 * t.2.2.2.1 * t.2.1
/-- the sum of the greatest changes of k segments from the f-th -/
def hSum (ls : List Seg) (f : Nat) : Nat → Int
  | 0 => 0
  | k + 1 => hSum ls f k + (match ls[f + k]? with | some t => chHi t | none => 0)
/-- the greatest energy at the start of k segments -/
def hMost (ls : List Seg) (f : Nat) : Nat → Int
  | 0 => 10000000000
  | k + 1 => if 10000000000 - hSum ls f (k + 1) < hMost ls f k then 10000000000 - hSum ls f (k + 1) else hMost ls f k
theorem hSum_step {ls : List Seg} {f k : Nat} {t : Seg} (h : ls[f + k]? = some t) : hSum ls f (k + 1) = hSum ls f k + chHi t := by simp [hSum, h]
theorem chHi_bds {t : Seg} (h : segT t = true) : -10000000000 ≤ chHi t ∧ chHi t ≤ 10000000000 := by
  obtain ⟨⟨k0, k4⟩, ⟨l1, l2⟩, ⟨r1, r2⟩, ⟨a0, a1, a2⟩, f0, f1, f2⟩ := seg_bds h
  have p1 := prod_bds (f := t.2.2.2.1) (by omega) (by omega) l1 l2
  unfold chHi
  omega
theorem seg_at {ls : List Seg} (hl : layB ls = true) {k : Nat} {t : Seg} (h : ls[k]? = some t) : segT t = true := by
  have := (lay_all hl).1
  rw [List.all_eq_true] at this
  exact this t (List.mem_of_getElem? h)
theorem hSum_bds {ls : List Seg} (hl : layB ls = true) (f k : Nat) : -10000000000 * (k : Int) ≤ hSum ls f k ∧ hSum ls f k ≤ 10000000000 * (k : Int) := by
  induction k with
  | zero => simp [hSum]
  | succ k ih =>
    cases h : ls[f + k]? with
    | none => simp only [hSum, h]; omega
    | some t =>
      rw [hSum_step h]
      have := chHi_bds (seg_at hl h)
      omega
theorem hMost_bds {ls : List Seg} (hl : layB ls = true) (f k : Nat) : -10000000000 * (k : Int) ≤ hMost ls f k ∧ hMost ls f k ≤ 10000000000 := by
  induction k with
  | zero => simp [hMost]
  | succ k ih =>
    have := hSum_bds hl f (k + 1)
    simp only [hMost]
    split <;> omega
/-- the least energy that may enter, of a block of n segments and the last one, t -/
def entN (ls : List Seg) (f n : Nat) (t : Seg) : Int := if brkB t.1 then (if (workP t).1 < 1 then 0 else nMax ls f n) else nMax ls f n
/-- the greatest energy that may enter -/
def entM (ls : List Seg) (f n : Nat) (t : Seg) : Int := if brkB t.1 then (if (workP t).1 < 1 then -1 else if (workP t).1 - hSum ls f n < hMost ls f n then (workP t).1 - hSum ls f n else hMost ls f n) else hMost ls f n
theorem work_bds {t : Seg} (h : segT t = true) : -20000000000 ≤ (workP t).1 ∧ (workP t).1 ≤ 20000000000 := by
  obtain ⟨⟨k0, k4⟩, ⟨l1, l2⟩, ⟨r1, r2⟩, ⟨a0, a1, a2⟩, f0, f1, f2⟩ := seg_bds h
  have p1 := prod_bds (f := t.2.2.2.2.2.1) (by omega) (by omega) l1 l2
  have p2 := prod_bds (f := t.2.2.2.1) (by omega) (by omega) l1 l2
  have e : (workP t).1 = 2 * t.2.2.2.2.2.1 * t.2.1 + 2 * t.2.2.2.1 * t.2.1 + 19612 * t.2.2.1 := by simp only [workP, Int.mul_add, Int.add_mul]; simp only [Int.mul_assoc]; omega
  omega
set_option maxHeartbeats 4000000 in
theorem l07Entry_any (ls : List Seg) (fs : List Int) (b f n : Nat) (t : Seg) (hlay : layB ls = true) (hb : b < fs.length) (hfb : fs[b]? = some (f : Int)) (hend : endP ls fs b = ((f + n + 1 : Nat) : Int)) (hfn : f + n < ls.length) (ht : ls[f + n]? = some t) (A : Option Addr) (B c : Nat) (A' : Option Addr) (c' : Nat) (w : World) (hs : Rd w B A (ls.flatMap eSegment)) (hr : Rd w B A' (ints fs)) (hB : B ≤ w.heap.size) (hn1 : ls.length ≤ 1048576) (hn2 : fs.length ≤ 1048576) :
   Calls Try.prog 139 #[.agg #[.slice A ls.length c], .slice A' fs.length c', .int .i64 b] w fun e w' => e = .returned (.tuple #[.int .i64 (entN ls f n t), .int .i64 (entM ls f n t)]) ∧ Below w.heap.size w w' := by
  obtain ⟨_, hlen3, hlen24⟩ := lay_all hlay
  generalize hE1 : entN ls f n t = E1
  generalize hE2 : entM ls f n t = E2
  have HE1 := Lib.hid hE1
  have HE2 := Lib.hid hE2
  clear hE1 hE2
  have Hs := Lib.hid hs
  have Hr := Lib.hid (hr.alloc hB (.cells #[.slice A ls.length c] 26))
  have hS : B ≤ (w.alloc (.cells #[.slice A ls.length c] 26)).heap.size := by simp; omega
  have HL := Lib.hid (fun (w' : World) (h2 : Rd w' B A' (ints fs)) (h3 : B ≤ w'.heap.size) => blockEnd_spec ls fs b hb _ hend A B c A' c' w' h2 h3 hn1 hn2)
  have HN := Lib.hid (fun (w' : World) (h : Rd w' B A (ls.flatMap eSegment)) (h3 : B ≤ w'.heap.size) => l06Needed_any ls n f hlay (by omega) (by omega) A B c w' h h3)
  obtain ⟨bf, fo, hA', hbf, d0⟩ := Hr.out.int hfb
  subst hA'
  have Hlay := Lib.hid hlay
  have Ht := Lib.hid ht
  have e1 : IntKind.i64.wrap (((f + n + 1 : Nat) : Int) - 1) = ((f + n : Nat) : Int) := by rw [show ((f + n + 1 : Nat) : Int) - 1 = ((f + n : Nat) : Int) by omega]; exact IntWalk.i64_in _ (by omega)
  have e2 : IntKind.i64.wrap (((f + n : Nat) : Int) - (f : Int)) = (n : Int) := by rw [show ((f + n : Nat) : Int) - (f : Int) = (n : Int) by omega]; exact IntWalk.i64_in _ (by omega)
  have i0 : (0 : Int) ≤ (b : Int) := by omega
  have i1 : (b : Int) < (fs.length : Int) := by omega
  have hbw : bf < w.heap.size + 1 := by omega
  have hbw' : bf < w.heap.size := by omega
  generalize hMm : ((f + n : Nat) : Int) = Mm at *
  generalize ((f + n + 1 : Nat) : Int) = Ee at *
  have HMm := Lib.hid hMm
  clear hs hr hlay hend hfb ht hMm
  go_enter Try.func139, Try.ntmps139
  go_wp2_with fail
  go_cut [8, 9] (fun s1 s2 wx => s1 = .int .i64 f ∧ s2 = .int .i64 Mm ∧ Below w.heap.size w wx ∧ w.heap.size + 1 ≤ wx.heap.size ∧ wx.cell? ⟨w.heap.size, 0, none⟩ = some (.slice A ls.length c))
  case first =>
    go_region_held3 (fun w' => w'.cell? ⟨w.heap.size, 0, none⟩ = some (.slice A ls.length c) ∧ w'.cell? ⟨bf, fo + b, none⟩ = some (.int .i64 (f : Int))) (first | assumption | go_cell | (simp [*, World.cell?_alloc_past, World.cell?_setCell_far]))
      ((first | (go_at_call 85; refine (HL.out _ (by first | exact Hr.out | exact Hr.out.drew) (by first | exact hS | (simp; omega))).mono ?_; rintro e w7 ⟨rfl, b7⟩; replace b7 : Below (w.alloc (.cells #[.slice A ls.length c] 26)).heap.size (w.alloc (.cells #[.slice A ls.length c] 26)) w7 := (by first | exact b7 | exact Below.trans (Below.drew (Below.refl _ _)) b7); have z7 := b7.size; obtain ⟨hc7, hf7, hz7⟩ := bstep (N := w.heap.size + 1) (by go_size) b7; have y7 : w.heap.size < w7.heap.size := (by first | omega | go_size))))
    all_goals (go_wp2_with fail; go_meet; refine ⟨rfl, rfl, by repeat' (first | (with_reducible exact Below.refl _ _) | (with_reducible assumption) | (with_reducible refine Below.alloc ?_ ?_ _) | (with_reducible refine Below.drew ?_) | (with_reducible refine below_drewN ?_ _) | (with_reducible refine Below.setCell ?_ ?_ _) | (with_reducible refine Below.trans ?_ (Below.mono (by assumption) ?_)) | go_size | (exact Below.size (by assumption))), by first | omega | go_size, by go_cell⟩)
  case rest =>
  obtain ⟨rfl, rfl, hb1, hz1, cL⟩ := hcut
  clear Hr HL d0 hbf
  have g0 : w.heap.size < wc.heap.size := by omega
  go_wp2_with (go_at_call 171; refine (HN.out _ (by exact Hs.out.below hb1 hB) (by omega)).mono ?_; rintro e w2 ⟨rfl, b2⟩; obtain ⟨hc2, hf2, hz2⟩ := bstep (Nat.le_refl _) b2; have y2 : w.heap.size < w2.heap.size := (by omega))
  have hb2 : Below w.heap.size w w2 := by repeat' (first | (with_reducible exact Below.refl _ _) | (with_reducible assumption) | (with_reducible refine Below.alloc ?_ ?_ _) | (with_reducible refine Below.drew ?_) | (with_reducible refine below_drewN ?_ _) | (with_reducible refine Below.setCell ?_ ?_ _) | (with_reducible refine Below.trans ?_ (Below.mono (by assumption) ?_)) | go_size | (exact Below.size (by assumption)))
  have cL2 : w2.cell? ⟨w.heap.size, 0, none⟩ = some (.slice A ls.length c) := by go_cell
  clear hc2 hf2 b2 HN cL hb1
  have hMm := HMm.out
  go_loopw [11, 12, 13] (fun m s i wr => ∃ k : Nat, k ≤ n ∧ i = .int .i64 ((f + k : Nat) : Int) ∧ m = .int .i64 (hMost ls f k) ∧ s = .int .i64 (hSum ls f k) ∧ Below w.heap.size w wr ∧ w.heap.size + 1 ≤ wr.heap.size ∧ wr.cell? ⟨w.heap.size, 0, none⟩ = some (.slice A ls.length c)) (fun _ _ i _ => f + n - (intOf i).toNat)
  case atStart => exact ⟨0, Nat.zero_le _, by first | rfl | simp, rfl, rfl, hb2, by omega, cL2⟩
  case round =>
    clear hb2 cL2
    obtain ⟨k, hk, rfl, rfl, rfl, hbw2, hsz, cL⟩ := hrel
    have hRd := Hs.out.below hbw2 hB
    by_cases hlt : k < n
    · have ht := List.getElem?_eq_getElem (show f + k < ls.length by omega)
      generalize ls[f + k] = t2 at ht
      have hst := seg_at Hlay.out ht
      have hsum := hSum_step ht
      have hb0 := hSum_bds Hlay.out f k
      have hb1 := hSum_bds Hlay.out f (k + 1)
      have hb2 := hMost_bds Hlay.out f k
      have HCh := Lib.hid (fun w' => l06Change_any _ _ _ _ _ _ _ hst w')
      obtain ⟨bs, os, rfl, hbB, c0, c1, c2, c3, c4, c5, c6⟩ := hRd.atSegment ht
      have hlt2 : ((f + k : Nat) : Int) < Mm := by omega
      have j0 : (0 : Int) ≤ ((f + k : Nat) : Int) := by omega
      have j1 : ((f + k : Nat) : Int) < (ls.length : Int) := by omega
      unfold chHi at hsum
      obtain ⟨tk, tl, tr, trl, trh, tfl, tfh⟩ := t2
      dsimp only at *
      generalize -19612 * tr - 2 * trh * tl = x1 at *
      generalize -19612 * tr - 2 * trl * tl = x2 at *
      have e3 : IntKind.i64.wrap (hSum ls f k + x2) = hSum ls f (k + 1) := by rw [hsum]; exact IntWalk.i64_in _ (by omega)
      obtain ⟨S2, e4, hS2⟩ : ∃ S2, wrap64 (10000000000 - hSum ls f (k + 1)) = S2 ∧ 10000000000 - hSum ls f (k + 1) = S2 := ⟨_, IntWalk.wrap64_in _ (by omega), rfl⟩
      have HM := show hMost ls f (k + 1) = if 10000000000 - hSum ls f (k + 1) < hMost ls f k then 10000000000 - hSum ls f (k + 1) else hMost ls f k from rfl
      rw [hS2] at HM
      replace HM := Lib.hid HM
      clear hS2
      clear hsum ht hst hb0 hb1 hb2 hRd
      have hF1 := field_iv1 x1 x2
      generalize hSum ls f k = S at *
      generalize hS1 : hSum ls f (k + 1) = S1 at *
      have E4 := Lib.hid e4
      clear e4
      generalize hMost ls f k = M at *
      have g1 : w.heap.size < wr.heap.size := by omega
      by_cases hc : S2 < M
      · have HM1 := Lib.hid (HM.out.trans (if_pos hc))
        clear HM
        go_wp2_with (go_at_call 135; refine (HCh.out _).mono ?_; rintro e w3 ⟨rfl, b3⟩; obtain ⟨hc3, hf3, hz3⟩ := bstep (Nat.le_refl _) b3; have y3 : w.heap.size < w3.heap.size := (by omega))
        go_roundw
        case rel => exact ⟨k + 1, by omega, by go_num, by first | (rw [HM1.out]; done) | (rw [HM1.out, E4.out, if_pos hc]; done), by rw [hS1], by repeat' (first | (with_reducible exact Below.refl _ _) | (with_reducible assumption) | (with_reducible refine Below.alloc ?_ ?_ _) | (with_reducible refine Below.drew ?_) | (with_reducible refine below_drewN ?_ _) | (with_reducible refine Below.setCell ?_ ?_ _) | (with_reducible refine Below.trans ?_ (Below.mono (by assumption) ?_)) | go_size | (exact Below.size (by assumption))), by omega, by go_cell⟩
        case measure => simp [intOf]; omega
      · have HM1 := Lib.hid (HM.out.trans (if_neg hc))
        clear HM
        go_wp2_with (go_at_call 135; refine (HCh.out _).mono ?_; rintro e w3 ⟨rfl, b3⟩; obtain ⟨hc3, hf3, hz3⟩ := bstep (Nat.le_refl _) b3; have y3 : w.heap.size < w3.heap.size := (by omega))
        go_roundw
        case rel => exact ⟨k + 1, by omega, by go_num, by first | (rw [HM1.out]; done) | (rw [HM1.out, E4.out, if_neg (by omega)]; done), by rw [hS1], by repeat' (first | (with_reducible exact Below.refl _ _) | (with_reducible assumption) | (with_reducible refine Below.alloc ?_ ?_ _) | (with_reducible refine Below.drew ?_) | (with_reducible refine below_drewN ?_ _) | (with_reducible refine Below.setCell ?_ ?_ _) | (with_reducible refine Below.trans ?_ (Below.mono (by assumption) ?_)) | go_size | (exact Below.size (by assumption))), by omega, by go_cell⟩
        case measure => simp [intOf]; omega
    · have hk' : k = n := by omega
      subst hk'
      have hlt2 : ¬ ((f + k : Nat) : Int) < Mm := by omega
      have hst := seg_at Hlay.out Ht.out
      have hb0 := hSum_bds Hlay.out f k
      have hwk := work_bds hst
      have HBr := Lib.hid (fun w' => isBrake_spec t.1 t.2.1 t.2.2.1 t.2.2.2.1 t.2.2.2.2.1 t.2.2.2.2.2.1 t.2.2.2.2.2.2 w')
      obtain ⟨W1, W2, hW⟩ : ∃ W1 W2, workP t = (W1, W2) := ⟨_, _, rfl⟩
      have HW := Lib.hid (fun w' => work_spec_t t.1 t.2.1 t.2.2.1 t.2.2.2.1 t.2.2.2.2.1 t.2.2.2.2.2.1 t.2.2.2.2.2.2 W1 W2 hW hst w')
      obtain ⟨bs, os, rfl, hbB, c0, c1, c2, c3, c4, c5, c6⟩ := hRd.atSegment Ht.out
      have h1 := HE1.out
      have h2 := HE2.out
      unfold entN at h1
      unfold entM at h2
      rw [hW] at hwk h1 h2
      dsimp only at hwk h1 h2
      obtain ⟨D, e5, hD⟩ : ∃ D, wrap64 (W1 - hSum ls f k) = D ∧ W1 - hSum ls f k = D := ⟨_, IntWalk.wrap64_in _ (by omega), rfl⟩
      rw [hD] at h2
      have j0 : (0 : Int) ≤ Mm := by omega
      have j1 : Mm < (ls.length : Int) := by omega
      have j2 : Mm.toNat = f + k := by omega
      have g1 : w.heap.size < wr.heap.size := by omega
      have E5 := Lib.hid e5
      clear hD e5 hb0 hwk hst hRd
      generalize hMost ls f k = M at *
      generalize hSum ls f k = S at *
      generalize nMax ls f k = X at *
      obtain ⟨tk, tl, tr, trl, trh, tfl, tfh⟩ := t
      dsimp only at *
      cases hbk : brkB tk with
      | false =>
        rw [hbk] at h1 h2 HBr
        simp only [if_false, Bool.false_eq_true] at h1 h2
        have H1 := Lib.hid h1
        have H2 := Lib.hid h2
        clear hbk h1 h2
        go_wp2_with (go_at_call 136; refine (HBr.out _).mono ?_; rintro e w3 ⟨rfl, b3⟩; obtain ⟨hc3, hf3, hz3⟩ := bstep (Nat.le_refl _) b3; have y3 : w.heap.size < w3.heap.size := (by omega))
        refine bodyPost_ret (v := .tuple #[.int .i64 (X), .int .i64 (M)]) (by simp [results, Try.results139, go_sem, *]) rfl ?_
        exact ⟨by rw [H1.out, H2.out], by repeat' (first | (with_reducible exact Below.refl _ _) | (with_reducible assumption) | (with_reducible refine Below.alloc ?_ ?_ _) | (with_reducible refine Below.drew ?_) | (with_reducible refine below_drewN ?_ _) | (with_reducible refine Below.setCell ?_ ?_ _) | (with_reducible refine Below.trans ?_ (Below.mono (by assumption) ?_)) | go_size | (exact Below.size (by assumption)))⟩
      | true =>
        rw [hbk] at h1 h2 HBr
        simp only [if_true] at h1 h2
        clear hbk
        have hF0 := field_iv0 W1 W2
        have hbs : bs < wr.heap.size := by omega
        by_cases hw1 : W1 < 1
        · rw [if_pos hw1] at h1 h2
          have H1 := Lib.hid h1
          have H2 := Lib.hid h2
          clear h1 h2
          go_wp2_with (first | (go_at_call 136; refine (HBr.out _).mono ?_; rintro e w3 ⟨rfl, b3⟩; obtain ⟨hc3, hf3, hz3⟩ := bstep (Nat.le_refl _) b3; have y3 : w.heap.size < w3.heap.size := (by omega)) | (go_at_call 138; refine (HW.out _).mono ?_; rintro e w4 ⟨rfl, b4⟩; obtain ⟨hc4, hf4, hz4⟩ := bstep (Nat.le_refl _) b4; have y4 : w.heap.size < w4.heap.size := (by omega)))
          refine bodyPost_ret (v := .tuple #[.int .i64 (0), .int .i64 (-1)]) (by simp [results, Try.results139, go_sem, *]) rfl ?_
          exact ⟨by rw [← H1.out, ← H2.out], by repeat' (first | (with_reducible exact Below.refl _ _) | (with_reducible assumption) | (with_reducible refine Below.alloc ?_ ?_ _) | (with_reducible refine Below.drew ?_) | (with_reducible refine below_drewN ?_ _) | (with_reducible refine Below.setCell ?_ ?_ _) | (with_reducible refine Below.trans ?_ (Below.mono (by assumption) ?_)) | go_size | (exact Below.size (by assumption)))⟩
        · rw [if_neg hw1] at h1 h2
          have e5 := E5.out
          by_cases hdm : D < M
          · rw [if_pos hdm] at h2
            have H1 := Lib.hid h1
            have H2 := Lib.hid h2
            clear h1 h2
            go_wp2_with (first | (go_at_call 136; refine (HBr.out _).mono ?_; rintro e w3 ⟨rfl, b3⟩; obtain ⟨hc3, hf3, hz3⟩ := bstep (Nat.le_refl _) b3; have y3 : w.heap.size < w3.heap.size := (by omega)) | (go_at_call 138; refine (HW.out _).mono ?_; rintro e w4 ⟨rfl, b4⟩; obtain ⟨hc4, hf4, hz4⟩ := bstep (Nat.le_refl _) b4; have y4 : w.heap.size < w4.heap.size := (by omega)))
            refine bodyPost_ret (v := .tuple #[.int .i64 (X), .int .i64 (D)]) (by simp [results, Try.results139, go_sem, *]) rfl ?_
            exact ⟨by rw [H1.out, H2.out], by repeat' (first | (with_reducible exact Below.refl _ _) | (with_reducible assumption) | (with_reducible refine Below.alloc ?_ ?_ _) | (with_reducible refine Below.drew ?_) | (with_reducible refine below_drewN ?_ _) | (with_reducible refine Below.setCell ?_ ?_ _) | (with_reducible refine Below.trans ?_ (Below.mono (by assumption) ?_)) | go_size | (exact Below.size (by assumption)))⟩
          · rw [if_neg hdm] at h2
            have H1 := Lib.hid h1
            have H2 := Lib.hid h2
            clear h1 h2
            go_wp2_with (first | (go_at_call 136; refine (HBr.out _).mono ?_; rintro e w3 ⟨rfl, b3⟩; obtain ⟨hc3, hf3, hz3⟩ := bstep (Nat.le_refl _) b3; have y3 : w.heap.size < w3.heap.size := (by omega)) | (go_at_call 138; refine (HW.out _).mono ?_; rintro e w4 ⟨rfl, b4⟩; obtain ⟨hc4, hf4, hz4⟩ := bstep (Nat.le_refl _) b4; have y4 : w.heap.size < w4.heap.size := (by omega)))
            refine bodyPost_ret (v := .tuple #[.int .i64 (X), .int .i64 (M)]) (by simp [results, Try.results139, go_sem, *]) rfl ?_
            exact ⟨by rw [H1.out, H2.out], by repeat' (first | (with_reducible exact Below.refl _ _) | (with_reducible assumption) | (with_reducible refine Below.alloc ?_ ?_ _) | (with_reducible refine Below.drew ?_) | (with_reducible refine below_drewN ?_ _) | (with_reducible refine Below.setCell ?_ ?_ _) | (with_reducible refine Below.trans ?_ (Below.mono (by assumption) ?_)) | go_size | (exact Below.size (by assumption)))⟩
end Go.Proofs.Ytooifamckccadaa
