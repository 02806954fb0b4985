/- spec.MayEnter: a walk. -/
import Derived.Test.YtooifamckccadaaEk
namespace Go.Proofs.Ytooifamckccadaa
open Go.ChangeShapes Go.WideShapes Go.ChangeAt Go.RowKit
set_option maxRecDepth 20000
set_option linter.unusedVariables false
set_option linter.unusedSimpArgs false
/-- the bounds of what may enter block b -/
def entP (ls : List Seg) (fs : List Int) (b : Nat) : Int × Int :=
  match fs[b]? with
  | none => (0, -1)
  | some f => match ls[(endP ls fs b - 1).toNat]? with
    | none => (0, -1)
    | some t => (entN ls f.toNat (endP ls fs b - 1 - f).toNat t, entM ls f.toNat (endP ls fs b - 1 - f).toNat t)
theorem entP_good {ls : List Seg} {fs : List Int} {b f n : Nat} {t : Seg} (h1 : fs[b]? = some (f : Int)) (h2 : endP ls fs b = ((f + n + 1 : Nat) : Int)) (h3 : ls[f + n]? = some t) : entP ls fs b = (entN ls f n t, entM ls f n t) := by
  have e1 : (((f + n + 1 : Nat) : Int) - 1).toNat = f + n := by omega
  have e2 : (((f + n + 1 : Nat) : Int) - 1 - (f : Int)).toNat = n := by omega
  simp only [entP, h1, h2, e1, e2, h3, Int.toNat_natCast]
/-- may it enter -/
def mayB (ls : List Seg) (fs : List Int) (b lo hi : Int) : Bool := decide (enC ls fs b lo hi = 0) && (decide ((entP ls fs b.toNat).1 ≤ lo) && decide (hi ≤ (entP ls fs b.toNat).2))
set_option maxHeartbeats 4000000 in
theorem mayEnter_spec (ls : List Seg) (fs : List Int) (b lo hi : Int) (A : Option Addr) (B c : Nat) (A' : Option Addr) (c' : Nat) (w : World) (hs : Rd w B A (ls.flatMap eSegment)) (hr : Rd w B A' (ints fs)) (hB : B ≤ w.heap.size) (hn : ls.length ≤ 1048576) (hn2 : fs.length ≤ 1048576) :
   Calls Try.prog 71 #[.agg #[.slice A ls.length c], .slice A' fs.length c', .int .i64 b, .agg #[.int .i64 lo, .int .i64 hi]] w fun e w' => e = .returned (.tuple #[.bool (mayB ls fs b lo hi), .int .i64 (enC ls fs b lo hi)]) ∧ Below w.heap.size w w' := by
  have Hs := Lib.hid ((hs.alloc hB (.cells #[.slice A ls.length c] 26)).alloc (by simp; omega) (.cells #[.int .i64 lo, .int .i64 hi] 29))
  have Hr := Lib.hid ((hr.alloc hB (.cells #[.slice A ls.length c] 26)).alloc (by simp; omega) (.cells #[.int .i64 lo, .int .i64 hi] 29))
  have hS : B ≤ ((w.alloc (.cells #[.slice A ls.length c] 26)).alloc (.cells #[.int .i64 lo, .int .i64 hi] 29)).heap.size := by simp; omega
  have HB := Lib.hid (fun (w' : World) (h : Rd w' B A (ls.flatMap eSegment)) (h2 : Rd w' B A' (ints fs)) (h3 : B ≤ w'.heap.size) => areBlk_spec ls fs A B c A' c' w' h h2 h3 hn hn2)
  clear hs hr
  cases hq : abB ls fs with
  | false =>
    have h0 : enC ls fs b lo hi = 1 := by rw [enC, hq]; rfl
    have h1 : mayB ls fs b lo hi = false := by rw [mayB, h0]; rfl
    rw [h0, h1]
    rw [hq] at HB
    clear hq h0 h1
    go_enter Try.func71, Try.ntmps71
    go_wp2_with (go_at_call 80; refine (HB.out _ (by exact Hs.out) (by exact Hr.out) hS).mono ?_; rintro e w1 ⟨rfl, hb⟩; obtain ⟨hc1, hf1, hz1⟩ := bstep (N := w.heap.size + 2) (by go_size) hb; have y1 : w.heap.size < w1.heap.size := (by omega); have x1 : w.heap.size + 1 < w1.heap.size := (by omega); have Hs1 := Lib.hid (Hs.out.below hb hS); have Hr1 := Lib.hid (Hr.out.below hb hS); have hS1 := Nat.le_trans hS hb.size)
    refine bodyPost_ret (v := .tuple #[.bool false, .int .i64 (1)]) (by simp [results, Try.results71, go_sem, *]) rfl ?_
    exact ⟨rfl, by repeat' (first | (with_reducible exact Below.refl _ _) | (with_reducible assumption) | (with_reducible refine Below.alloc ?_ ?_ _) | (with_reducible refine Below.drew ?_) | (with_reducible refine below_drewN ?_ _) | (with_reducible refine Below.setCell ?_ ?_ _) | (with_reducible refine Below.trans ?_ (Below.mono (by assumption) ?_)) | go_size | (exact Below.size (by assumption)))⟩
  | true =>
  cases he : enB lo hi with
  | false =>
    have h0 : enC ls fs b lo hi = 1 := by rw [enC, hq, he]; rfl
    have h1 : mayB ls fs b lo hi = false := by rw [mayB, h0]; rfl
    have He := Lib.hid he
    rw [h0, h1]
    rw [hq] at HB
    clear hq h0 h1 he
    go_enter Try.func71, Try.ntmps71
    go_wp2_with (first | (go_at_call 80; refine (HB.out _ (by exact Hs.out) (by exact Hr.out) hS).mono ?_; rintro e w1 ⟨rfl, hb⟩; obtain ⟨hc1, hf1, hz1⟩ := bstep (N := w.heap.size + 2) (by go_size) hb; have y1 : w.heap.size < w1.heap.size := (by omega); have x1 : w.heap.size + 1 < w1.heap.size := (by omega); have Hs1 := Lib.hid (Hs.out.below hb hS); have Hr1 := Lib.hid (Hr.out.below hb hS); have hS1 := Nat.le_trans hS hb.size) | (go_at_call 81; refine (isEn_spec_r _ _ false He.out _).mono ?_; rintro e w2 ⟨rfl, hb2⟩; obtain ⟨hc2, hf2, hz2⟩ := bstep (N := w.heap.size + 2) (by go_size) hb2; have y2 : w.heap.size < w2.heap.size := (by omega); have x2 : w.heap.size + 1 < w2.heap.size := (by omega); have Hs2 := Lib.hid (Hs1.out.below hb2 hS1); have Hr2 := Lib.hid (Hr1.out.below hb2 hS1); have hS2 := Nat.le_trans hS1 hb2.size))
    refine bodyPost_ret (v := .tuple #[.bool false, .int .i64 (1)]) (by simp [results, Try.results71, go_sem, *]) rfl ?_
    exact ⟨rfl, by repeat' (first | (with_reducible exact Below.refl _ _) | (with_reducible assumption) | (with_reducible refine Below.alloc ?_ ?_ _) | (with_reducible refine Below.drew ?_) | (with_reducible refine below_drewN ?_ _) | (with_reducible refine Below.setCell ?_ ?_ _) | (with_reducible refine Below.trans ?_ (Below.mono (by assumption) ?_)) | go_size | (exact Below.size (by assumption)))⟩
  | true =>
  have HK := Lib.hid (fun (w' : World) (h : Rd w' B A (ls.flatMap eSegment)) (h2 : Rd w' B A' (ints fs)) (h3 : B ≤ w'.heap.size) => l04Block_any ls fs b A B c A' c' w' h h2 h3 hn hn2)
  have He := Lib.hid he
  cases h3 : inB b 0 ((fs.length : Int) - 1) with
  | false =>
    have h0 : enC ls fs b lo hi = 2 := by rw [enC, hq, he, h3]; rfl
    have h1 : mayB ls fs b lo hi = false := by rw [mayB, h0]; rfl
    have h2 : bkC ls fs b = 2 := by rw [bkC, hq, h3]; rfl
    rw [h0, h1]
    rw [hq] at HB
    rw [h2] at HK
    clear hq h0 h1 he h2 h3
    go_enter Try.func71, Try.ntmps71
    go_wp2_with (first | (go_at_call 80; refine (HB.out _ (by exact Hs.out) (by exact Hr.out) hS).mono ?_; rintro e w1 ⟨rfl, hb⟩; obtain ⟨hc1, hf1, hz1⟩ := bstep (N := w.heap.size + 2) (by go_size) hb; have y1 : w.heap.size < w1.heap.size := (by omega); have x1 : w.heap.size + 1 < w1.heap.size := (by omega); have Hs1 := Lib.hid (Hs.out.below hb hS); have Hr1 := Lib.hid (Hr.out.below hb hS); have hS1 := Nat.le_trans hS hb.size) | (go_at_call 81; refine (isEn_spec_r _ _ true He.out _).mono ?_; rintro e w2 ⟨rfl, hb2⟩; obtain ⟨hc2, hf2, hz2⟩ := bstep (N := w.heap.size + 2) (by go_size) hb2; have y2 : w.heap.size < w2.heap.size := (by omega); have x2 : w.heap.size + 1 < w2.heap.size := (by omega); have Hs2 := Lib.hid (Hs1.out.below hb2 hS1); have Hr2 := Lib.hid (Hr1.out.below hb2 hS1); have hS2 := Nat.le_trans hS1 hb2.size) | (go_at_call 88; refine (HK.out _ (by exact Hs2.out) (by exact Hr2.out) hS2).mono ?_; rintro e w3 ⟨rfl, hb3⟩; obtain ⟨hc3, hf3, hz3⟩ := bstep (N := w.heap.size + 2) (by go_size) hb3; have y3 : w.heap.size < w3.heap.size := (by omega); have x3 : w.heap.size + 1 < w3.heap.size := (by omega); have Hs3 := Lib.hid (Hs2.out.below hb3 hS2); have Hr3 := Lib.hid (Hr2.out.below hb3 hS2); have hS3 := Nat.le_trans hS2 hb3.size))
    refine bodyPost_ret (v := .tuple #[.bool false, .int .i64 (2)]) (by simp [results, Try.results71, go_sem, *]) rfl ?_
    exact ⟨rfl, by repeat' (first | (with_reducible exact Below.refl _ _) | (with_reducible assumption) | (with_reducible refine Below.alloc ?_ ?_ _) | (with_reducible refine Below.drew ?_) | (with_reducible refine below_drewN ?_ _) | (with_reducible refine Below.setCell ?_ ?_ _) | (with_reducible refine Below.trans ?_ (Below.mono (by assumption) ?_)) | go_size | (exact Below.size (by assumption)))⟩
  | true =>
    have h0 : enC ls fs b lo hi = 0 := by rw [enC, hq, he, h3]; rfl
    have h2 : bkC ls fs b = 0 := by rw [bkC, hq, h3]; rfl
    obtain ⟨hlay, hblk, _, b', rfl, hb'⟩ := enC_zero h0
    obtain ⟨f, n, hfb, hend, hfn⟩ := blk_nat hblk hb'
    have ht := List.getElem?_eq_getElem hfn
    generalize ls[f + n] = t at ht
    have h1 : mayB ls fs b' lo hi = (decide (entN ls f n t ≤ lo) && decide (hi ≤ entM ls f n t)) := by
      rw [mayB, h0, Int.toNat_natCast, entP_good hfb hend ht]; rfl
    have HT := Lib.hid (fun (w' : World) (h : Rd w' B A (ls.flatMap eSegment)) (h2 : Rd w' B A' (ints fs)) (h3 : B ≤ w'.heap.size) => l07Entry_any ls fs b' f n t hlay hb' hfb hend hfn ht A B c A' c' w' h h2 h3 hn hn2)
    rw [h0, h1]
    rw [hq] at HB
    rw [h2] at HK
    generalize entN ls f n t = N at *
    generalize entM ls f n t = M at *
    clear hq h0 h1 he h2 h3 hlay hblk hfb hend hfn ht
    by_cases q1 : N ≤ lo
    · by_cases q2 : hi ≤ M
      · rw [decide_eq_true q1, decide_eq_true q2]
        go_enter Try.func71, Try.ntmps71
        go_wp2_with (first | (go_at_call 80; refine (HB.out _ (by exact Hs.out) (by exact Hr.out) hS).mono ?_; rintro e w1 ⟨rfl, hb⟩; obtain ⟨hc1, hf1, hz1⟩ := bstep (N := w.heap.size + 2) (by go_size) hb; have y1 : w.heap.size < w1.heap.size := (by omega); have x1 : w.heap.size + 1 < w1.heap.size := (by omega); have Hs1 := Lib.hid (Hs.out.below hb hS); have Hr1 := Lib.hid (Hr.out.below hb hS); have hS1 := Nat.le_trans hS hb.size) | (go_at_call 81; refine (isEn_spec_r _ _ true He.out _).mono ?_; rintro e w2 ⟨rfl, hb2⟩; obtain ⟨hc2, hf2, hz2⟩ := bstep (N := w.heap.size + 2) (by go_size) hb2; have y2 : w.heap.size < w2.heap.size := (by omega); have x2 : w.heap.size + 1 < w2.heap.size := (by omega); have Hs2 := Lib.hid (Hs1.out.below hb2 hS1); have Hr2 := Lib.hid (Hr1.out.below hb2 hS1); have hS2 := Nat.le_trans hS1 hb2.size) | (go_at_call 88; refine (HK.out _ (by exact Hs2.out) (by exact Hr2.out) hS2).mono ?_; rintro e w3 ⟨rfl, hb3⟩; obtain ⟨hc3, hf3, hz3⟩ := bstep (N := w.heap.size + 2) (by go_size) hb3; have y3 : w.heap.size < w3.heap.size := (by omega); have x3 : w.heap.size + 1 < w3.heap.size := (by omega); have Hs3 := Lib.hid (Hs2.out.below hb3 hS2); have Hr3 := Lib.hid (Hr2.out.below hb3 hS2); have hS3 := Nat.le_trans hS2 hb3.size) | (go_at_call 139; refine (HT.out _ (by exact Hs3.out) (by exact Hr3.out) hS3).mono ?_; rintro e w4 ⟨rfl, hb4⟩; obtain ⟨hc4, hf4, hz4⟩ := bstep (N := w.heap.size + 2) (by go_size) hb4; have y4 : w.heap.size < w4.heap.size := (by omega); have x4 : w.heap.size + 1 < w4.heap.size := (by omega)))
        refine bodyPost_ret (v := .tuple #[.bool true, .int .i64 (0)]) (by simp [results, Try.results71, go_sem, *]) rfl ?_
        exact ⟨rfl, by repeat' (first | (with_reducible exact Below.refl _ _) | (with_reducible assumption) | (with_reducible refine Below.alloc ?_ ?_ _) | (with_reducible refine Below.drew ?_) | (with_reducible refine below_drewN ?_ _) | (with_reducible refine Below.setCell ?_ ?_ _) | (with_reducible refine Below.trans ?_ (Below.mono (by assumption) ?_)) | go_size | (exact Below.size (by assumption)))⟩
      · rw [decide_eq_true q1, decide_eq_false q2]
        go_enter Try.func71, Try.ntmps71
        go_wp2_with (first | (go_at_call 80; refine (HB.out _ (by exact Hs.out) (by exact Hr.out) hS).mono ?_; rintro e w1 ⟨rfl, hb⟩; obtain ⟨hc1, hf1, hz1⟩ := bstep (N := w.heap.size + 2) (by go_size) hb; have y1 : w.heap.size < w1.heap.size := (by omega); have x1 : w.heap.size + 1 < w1.heap.size := (by omega); have Hs1 := Lib.hid (Hs.out.below hb hS); have Hr1 := Lib.hid (Hr.out.below hb hS); have hS1 := Nat.le_trans hS hb.size) | (go_at_call 81; refine (isEn_spec_r _ _ true He.out _).mono ?_; rintro e w2 ⟨rfl, hb2⟩; obtain ⟨hc2, hf2, hz2⟩ := bstep (N := w.heap.size + 2) (by go_size) hb2; have y2 : w.heap.size < w2.heap.size := (by omega); have x2 : w.heap.size + 1 < w2.heap.size := (by omega); have Hs2 := Lib.hid (Hs1.out.below hb2 hS1); have Hr2 := Lib.hid (Hr1.out.below hb2 hS1); have hS2 := Nat.le_trans hS1 hb2.size) | (go_at_call 88; refine (HK.out _ (by exact Hs2.out) (by exact Hr2.out) hS2).mono ?_; rintro e w3 ⟨rfl, hb3⟩; obtain ⟨hc3, hf3, hz3⟩ := bstep (N := w.heap.size + 2) (by go_size) hb3; have y3 : w.heap.size < w3.heap.size := (by omega); have x3 : w.heap.size + 1 < w3.heap.size := (by omega); have Hs3 := Lib.hid (Hs2.out.below hb3 hS2); have Hr3 := Lib.hid (Hr2.out.below hb3 hS2); have hS3 := Nat.le_trans hS2 hb3.size) | (go_at_call 139; refine (HT.out _ (by exact Hs3.out) (by exact Hr3.out) hS3).mono ?_; rintro e w4 ⟨rfl, hb4⟩; obtain ⟨hc4, hf4, hz4⟩ := bstep (N := w.heap.size + 2) (by go_size) hb4; have y4 : w.heap.size < w4.heap.size := (by omega); have x4 : w.heap.size + 1 < w4.heap.size := (by omega)))
        refine bodyPost_ret (v := .tuple #[.bool false, .int .i64 (0)]) (by simp [results, Try.results71, go_sem, *]) rfl ?_
        exact ⟨rfl, by repeat' (first | (with_reducible exact Below.refl _ _) | (with_reducible assumption) | (with_reducible refine Below.alloc ?_ ?_ _) | (with_reducible refine Below.drew ?_) | (with_reducible refine below_drewN ?_ _) | (with_reducible refine Below.setCell ?_ ?_ _) | (with_reducible refine Below.trans ?_ (Below.mono (by assumption) ?_)) | go_size | (exact Below.size (by assumption)))⟩
    · rw [decide_eq_false q1, Bool.false_and]
      go_enter Try.func71, Try.ntmps71
      go_wp2_with (first | (go_at_call 80; refine (HB.out _ (by exact Hs.out) (by exact Hr.out) hS).mono ?_; rintro e w1 ⟨rfl, hb⟩; obtain ⟨hc1, hf1, hz1⟩ := bstep (N := w.heap.size + 2) (by go_size) hb; have y1 : w.heap.size < w1.heap.size := (by omega); have x1 : w.heap.size + 1 < w1.heap.size := (by omega); have Hs1 := Lib.hid (Hs.out.below hb hS); have Hr1 := Lib.hid (Hr.out.below hb hS); have hS1 := Nat.le_trans hS hb.size) | (go_at_call 81; refine (isEn_spec_r _ _ true He.out _).mono ?_; rintro e w2 ⟨rfl, hb2⟩; obtain ⟨hc2, hf2, hz2⟩ := bstep (N := w.heap.size + 2) (by go_size) hb2; have y2 : w.heap.size < w2.heap.size := (by omega); have x2 : w.heap.size + 1 < w2.heap.size := (by omega); have Hs2 := Lib.hid (Hs1.out.below hb2 hS1); have Hr2 := Lib.hid (Hr1.out.below hb2 hS1); have hS2 := Nat.le_trans hS1 hb2.size) | (go_at_call 88; refine (HK.out _ (by exact Hs2.out) (by exact Hr2.out) hS2).mono ?_; rintro e w3 ⟨rfl, hb3⟩; obtain ⟨hc3, hf3, hz3⟩ := bstep (N := w.heap.size + 2) (by go_size) hb3; have y3 : w.heap.size < w3.heap.size := (by omega); have x3 : w.heap.size + 1 < w3.heap.size := (by omega); have Hs3 := Lib.hid (Hs2.out.below hb3 hS2); have Hr3 := Lib.hid (Hr2.out.below hb3 hS2); have hS3 := Nat.le_trans hS2 hb3.size) | (go_at_call 139; refine (HT.out _ (by exact Hs3.out) (by exact Hr3.out) hS3).mono ?_; rintro e w4 ⟨rfl, hb4⟩; obtain ⟨hc4, hf4, hz4⟩ := bstep (N := w.heap.size + 2) (by go_size) hb4; have y4 : w.heap.size < w4.heap.size := (by omega); have x4 : w.heap.size + 1 < w4.heap.size := (by omega)))
      refine bodyPost_ret (v := .tuple #[.bool false, .int .i64 (0)]) (by simp [results, Try.results71, go_sem, *]) rfl ?_
      exact ⟨rfl, by repeat' (first | (with_reducible exact Below.refl _ _) | (with_reducible assumption) | (with_reducible refine Below.alloc ?_ ?_ _) | (with_reducible refine Below.drew ?_) | (with_reducible refine below_drewN ?_ _) | (with_reducible refine Below.setCell ?_ ?_ _) | (with_reducible refine Below.trans ?_ (Below.mono (by assumption) ?_)) | go_size | (exact Below.size (by assumption)))⟩
end Go.Proofs.Ytooifamckccadaa
