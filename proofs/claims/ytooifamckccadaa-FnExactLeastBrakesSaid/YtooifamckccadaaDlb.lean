/- The law on LeastBrakes. -/
import Derived.Test.YtooifamckccadaaLbj
import Derived.Test.YtooifamckccadaaLy2
import Derived.Test.YtooifamckccadaaLf
import Derived.Deep.DeepCutAuto
import Derived.Deep.RegionHeld3
namespace Go.Proofs.Ytooifamckccadaa
open Go.ChangeShapes Go.WideShapes Go.ChangeAt Go.RowKit
set_option linter.unusedVariables false
set_option linter.unusedSimpArgs false
set_option maxRecDepth 20000
set_option maxHeartbeats 4000000 in
theorem walkFnExactLeastBrakes (l : List Seg) (Al : Option Addr) (cl : Nat) (f : Int) (n : Int) (e1 e2 : Int) (m : Int) (w : World) (Rl : Rd w w.heap.size Al (l.flatMap eSegment)) (hlcl : l.length ≤ cl) (hml : cl ≤ maxLen) :
   Calls Try.prog 5 #[.agg #[.slice Al l.length cl], .int .i64 f, .int .i64 n, .agg #[.int .i64 e1, .int .i64 e2], .int .i64 m] w fun e w' => e = .returned (.bool true) ∧ Below w.heap.size w w' := by
  unfold maxLen at hml
  by_cases hnl : (l.length : Int) ≤ 1048576
  rotate_left
  · go_enter Try.func5, Try.ntmps5
    go_wp2_with (go_at_call 32; refine (szLayout_great _ _ _ _ (by omega) (by omega) (by omega) (by omega) _).mono ?_; rintro e w' ⟨rfl, b1⟩)
    go_ret
    exact ⟨rfl, by repeat' (first | (with_reducible exact Below.refl _ _) | (with_reducible assumption) | (with_reducible refine Below.alloc ?_ ?_ _) | (with_reducible refine Below.drew ?_) | (with_reducible refine below_drewN ?_ _) | (with_reducible refine Below.setCell ?_ ?_ _) | (with_reducible refine Below.trans ?_ (Below.mono (by assumption) ?_)) | go_size | (exact Below.size (by assumption)))⟩
  have hkl : l.length ≤ 1048576 := by omega
  have C0_0 : ((w.alloc (.cells #[.slice Al l.length cl] 50)).alloc (.cells #[.int .i64 e1, .int .i64 e2] 40)).cell? ⟨w.heap.size, 0, none⟩ = some (.slice Al l.length cl) := by first | go_cell | simp
  have C1_0 : ((w.alloc (.cells #[.slice Al l.length cl] 50)).alloc (.cells #[.int .i64 e1, .int .i64 e2] 40)).cell? ⟨w.heap.size + 1, 0, none⟩ = some (.int .i64 e1) := by first | go_cell | simp
  have C1_1 : ((w.alloc (.cells #[.slice Al l.length cl] 50)).alloc (.cells #[.int .i64 e1, .int .i64 e2] 40)).cell? ⟨w.heap.size + 1, 1, none⟩ = some (.int .i64 e2) := by first | go_cell | simp
  have b0 : Below w.heap.size w ((w.alloc (.cells #[.slice Al l.length cl] 50)).alloc (.cells #[.int .i64 e1, .int .i64 e2] 40)) := by repeat' (first | (with_reducible exact Below.refl _ _) | (with_reducible assumption) | (with_reducible refine Below.alloc ?_ ?_ _) | (with_reducible refine Below.drew ?_) | (with_reducible refine below_drewN ?_ _) | (with_reducible refine Below.setCell ?_ ?_ _) | (with_reducible refine Below.trans ?_ (Below.mono (by assumption) ?_)) | go_size | (exact Below.size (by assumption)))
  have z0 : w.heap.size + 2 ≤ ((w.alloc (.cells #[.slice Al l.length cl] 50)).alloc (.cells #[.int .i64 e1, .int .i64 e2] 40)).heap.size := by simp
  replace Rl := Rl.below b0 (Nat.le_refl _)
  go_enter Try.func5, Try.ntmps5
  go_wp2_with fail
  generalize ((w.alloc (.cells #[.slice Al l.length cl] 50)).alloc (.cells #[.int .i64 e1, .int .i64 e2] 40)) = w0 at *
  have y0 : w.heap.size < w0.heap.size := by omega
  have y1 : w.heap.size + 1 < w0.heap.size := by omega
  refine (szLayout_small _ _ _ _ (by omega) (by omega) _).mono ?_; rintro e w1 ⟨rfl, b1⟩
  have z1 := b1.size
  replace C0_0 := (b1.cell (p := ⟨w.heap.size, 0, none⟩) y0).trans C0_0
  replace C1_0 := (b1.cell (p := ⟨w.heap.size + 1, 0, none⟩) y1).trans C1_0
  replace C1_1 := (b1.cell (p := ⟨w.heap.size + 1, 1, none⟩) y1).trans C1_1
  replace Rl := Rl.below b1 (by omega)
  replace y0 : w.heap.size < w1.heap.size := by omega
  replace y1 : w.heap.size + 1 < w1.heap.size := by omega
  replace b0 := b0.trans (b1.mono (by omega))
  have RlH := Lib.hid Rl; clear Rl
  go_wp2_with fail
  go_cut [12, 13] (fun s12 s13 wx => ∃ (Aq2 : Option Addr) (cq2 : Nat), s12 = .slice Aq2 ((lbX l f n e1 e2 m).1).length cq2 ∧ s13 = .int .i64 ((lbX l f n e1 e2 m).2) ∧ wx.ownsRow w1.heap.size 2 1 (.slice Aq2 ((lbX l f n e1 e2 m).1).length cq2) ((lbX l f n e1 e2 m).1).length (ints (lbX l f n e1 e2 m).1) ∧ Below w1.heap.size w1 wx)
  case first =>
    go_region_held3 (fun w' => w'.cell? ⟨w.heap.size, 0, none⟩ = some (.slice Al l.length cl) ∧ w'.cell? ⟨w.heap.size + 1, 0, none⟩ = some (.int .i64 e1) ∧ w'.cell? ⟨w.heap.size + 1, 1, none⟩ = some (.int .i64 e2)) (simp [*, World.cell?_alloc_past, World.cell?_setCell_far])
      ((first | (go_at_call 34; refine (toLayout_any l Al _ _ _ (by exact RlH.out) (by first | omega | go_size | (simp only [World.size_alloc]; omega) | (simp; omega)) hkl).mono ?_; rintro e v5_1 ⟨Al1, cl1, rfl, ol1, c5_1⟩; have Ol1 := Lib.hid ol1; clear ol1; replace c5_1 : Below w1.heap.size w1 v5_1 := (by first | exact c5_1 | exact Below.trans (Below.drew (Below.refl _ _)) c5_1); have zz1 := c5_1.size; (try simp only [World.size_alloc, World.size_drew] at zz1); obtain ⟨hc1, hf1, hz1⟩ := bstep (Nat.le_refl _) c5_1; (try simp only [World.size_alloc, World.size_drew] at hc1 hf1 hz1); have hy0_1 : w.heap.size < v5_1.heap.size := (by omega); have hx0_1 : w.heap.size < v5_1.heap.size + 1 := (by omega); have hn0_1 : v5_1.heap.size ≠ w.heap.size := (by omega); have hy1_1 : w.heap.size + 1 < v5_1.heap.size := (by omega); have hx1_1 : w.heap.size + 1 < v5_1.heap.size + 1 := (by omega); have hn1_1 : v5_1.heap.size ≠ w.heap.size + 1 := (by omega)) | (go_at_call 29; refine (toInterval_any e1 e2 _).mono ?_; rintro e v5_2 ⟨rfl, c5_2⟩; replace c5_2 : Below v5_1.heap.size v5_1 v5_2 := (by first | exact c5_2 | exact Below.trans (Below.drew (Below.refl _ _)) c5_2); have zz2 := c5_2.size; (try simp only [World.size_alloc, World.size_drew] at zz2); obtain ⟨hc2, hf2, hz2⟩ := bstep (Nat.le_refl _) c5_2; (try simp only [World.size_alloc, World.size_drew] at hc2 hf2 hz2); have hy0_2 : w.heap.size < v5_2.heap.size := (by omega); have hx0_2 : w.heap.size < v5_2.heap.size + 1 := (by omega); have hn0_2 : v5_2.heap.size ≠ w.heap.size := (by omega); have hy1_2 : w.heap.size + 1 < v5_2.heap.size := (by omega); have hx1_2 : w.heap.size + 1 < v5_2.heap.size + 1 := (by omega); have hn1_2 : v5_2.heap.size ≠ w.heap.size + 1 := (by omega)) | (go_at_call 33; refine (leastBrakes_spec l f n e1 e2 m Al1 _ cl1 _ (by exact ((Rd.of_own (own_below Ol1.out c5_2))).more (by first | omega | go_size | (simp only [World.size_alloc]; omega) | (simp; omega))) (Nat.le_refl _) hkl).mono ?_; rintro e v5_3 ⟨Aq2, cq2, rfl, oq2, c5_3⟩; have Oq2 := Lib.hid oq2; clear oq2; replace c5_3 : Below v5_2.heap.size v5_2 v5_3 := (by first | exact c5_3 | exact Below.trans (Below.drew (Below.refl _ _)) c5_3); have zz3 := c5_3.size; (try simp only [World.size_alloc, World.size_drew] at zz3); obtain ⟨hc3, hf3, hz3⟩ := bstep (Nat.le_refl _) c5_3; (try simp only [World.size_alloc, World.size_drew] at hc3 hf3 hz3); have hy0_3 : w.heap.size < v5_3.heap.size := (by omega); have hx0_3 : w.heap.size < v5_3.heap.size + 1 := (by omega); have hn0_3 : v5_3.heap.size ≠ w.heap.size := (by omega); have hy1_3 : w.heap.size + 1 < v5_3.heap.size := (by omega); have hx1_3 : w.heap.size + 1 < v5_3.heap.size + 1 := (by omega); have hn1_3 : v5_3.heap.size ≠ w.heap.size + 1 := (by omega))))
    all_goals (go_wp2_with fail; go_meet; refine ⟨Aq2, cq2, rfl, rfl, own_more Oq2.out (by first | omega | go_size | (simp only [World.size_alloc]; omega) | (simp; omega)), by repeat' (first | (with_reducible exact Below.refl _ _) | (with_reducible assumption) | (with_reducible refine Below.alloc ?_ ?_ _) | (with_reducible refine Below.drew ?_) | (with_reducible refine below_drewN ?_ _) | (with_reducible refine Below.setCell ?_ ?_ _) | (with_reducible refine Below.trans ?_ (Below.mono (by assumption) ?_)) | go_size | (exact Below.size (by assumption)))⟩)
  case rest =>
  obtain ⟨Aq2, cq2, rfl, rfl, Oq2, b2⟩ := hcut
  obtain ⟨w2, hw2⟩ : ∃ x, x = wc := ⟨_, rfl⟩
  subst hw2
  have Rl := RlH.out; clear RlH
  have z2 := b2.size
  replace C0_0 := (b2.cell (p := ⟨w.heap.size, 0, none⟩) y0).trans C0_0
  replace C1_0 := (b2.cell (p := ⟨w.heap.size + 1, 0, none⟩) y1).trans C1_0
  replace C1_1 := (b2.cell (p := ⟨w.heap.size + 1, 1, none⟩) y1).trans C1_1
  replace Rl := Rl.below b2 (by omega)
  replace y0 : w.heap.size < w2.heap.size := by omega
  replace y1 : w.heap.size + 1 < w2.heap.size := by omega
  replace b0 := b0.trans (b2.mono (by omega))
  have Rq2 := Rd.of_own Oq2
  have Lq2 := own_lt Oq2
  clear Oq2 Lq2
  go_upto_region 6 with fail
  go_cut [14] (fun s14 wx => ∃ (Al3 : Option Addr) (cl3 Bl3 : Nat), s14 = .pointer (some ⟨Bl3, 0, none⟩) ∧ w2.heap.size ≤ Bl3 ∧ Bl3 < wx.heap.size ∧ wx.cell? ⟨Bl3, 0, none⟩ = some (.slice Al3 l.length cl3) ∧ wx.ownsRow w2.heap.size 39 7 (.slice Al3 l.length cl3) l.length (l.flatMap eSegment) ∧ (∀ k, (Value.slice Al3 l.length cl3).ownBlock = some k → w2.heap.size ≤ k ∧ k < Bl3) ∧ Below w2.heap.size w2 wx)
  case first =>
    go_wp2_with fail
    refine (toLayout_any l Al _ _ _ (by exact Rl) (by first | omega | go_size | (simp only [World.size_alloc]; omega) | (simp; omega)) hkl).mono ?_; rintro e v ⟨Al3, cl3, rfl, o, bb⟩
    have L := own_lt o; have O := Lib.hid o; clear o; have zz := bb.size
    go_wp2_with fail
    go_meet; refine ⟨_, _, _, rfl, by go_size, by go_size, by go_cell, own_below O.out (by repeat' (first | (with_reducible exact Below.refl _ _) | (with_reducible assumption) | (with_reducible refine Below.alloc ?_ ?_ _) | (with_reducible refine Below.drew ?_) | (with_reducible refine below_drewN ?_ _) | (with_reducible refine Below.setCell ?_ ?_ _) | (with_reducible refine Below.trans ?_ (Below.mono (by assumption) ?_)) | go_size | (exact Below.size (by assumption)))), fun k hk => (by have := L k hk; omega), by repeat' (first | (with_reducible exact Below.refl _ _) | (with_reducible assumption) | (with_reducible refine Below.alloc ?_ ?_ _) | (with_reducible refine Below.drew ?_) | (with_reducible refine below_drewN ?_ _) | (with_reducible refine Below.setCell ?_ ?_ _) | (with_reducible refine Below.trans ?_ (Below.mono (by assumption) ?_)) | go_size | (exact Below.size (by assumption)))⟩
  case rest =>
  obtain ⟨Al3, cl3, Bl3, rfl, xl3, yl3, Cl3_0, Ol3, Ll3, b3⟩ := hcut
  obtain ⟨w3, hw3⟩ : ∃ x, x = wc := ⟨_, rfl⟩
  subst hw3
  have z3 := b3.size
  have kyl3 := yl3
  replace C0_0 := (b3.cell (p := ⟨w.heap.size, 0, none⟩) y0).trans C0_0
  replace C1_0 := (b3.cell (p := ⟨w.heap.size + 1, 0, none⟩) y1).trans C1_0
  replace C1_1 := (b3.cell (p := ⟨w.heap.size + 1, 1, none⟩) y1).trans C1_1
  replace Rl := Rl.below b3 (by omega)
  replace Rq2 := Rq2.below b3 (by omega)
  replace y0 : w.heap.size < w3.heap.size := by omega
  replace y1 : w.heap.size + 1 < w3.heap.size := by omega
  replace b0 := b0.trans (b3.mono (by omega))
  have Rl3 := Rd.of_own Ol3
  have RlH := Lib.hid Rl; clear Rl
  have Rq2H := Lib.hid Rq2; clear Rq2
  have Rl3H := Lib.hid Rl3; clear Rl3
  have Ol3H := Lib.hid Ol3; clear Ol3
  go_wp2_with fail
  go_cut [15, 16] (fun s15 s16 wx => ∃ (Aq4 : Option Addr) (cq4 : Nat), s15 = .slice Aq4 ((lbX l f n e1 e2 m).1).length cq4 ∧ s16 = .int .i64 ((lbX l f n e1 e2 m).2) ∧ wx.ownsRow w3.heap.size 2 1 (.slice Aq4 ((lbX l f n e1 e2 m).1).length cq4) ((lbX l f n e1 e2 m).1).length (ints (lbX l f n e1 e2 m).1) ∧ Below w3.heap.size w3 wx)
  case first =>
    go_region_held3 (fun w' => w'.cell? ⟨w.heap.size + 1, 0, none⟩ = some (.int .i64 e1) ∧ w'.cell? ⟨w.heap.size + 1, 1, none⟩ = some (.int .i64 e2) ∧ w'.cell? ⟨Bl3, 0, none⟩ = some (.slice Al3 l.length cl3)) (simp [*, World.cell?_alloc_past, World.cell?_setCell_far])
      ((first | (go_at_call 29; refine (toInterval_any e1 e2 _).mono ?_; rintro e v7_1 ⟨rfl, c7_1⟩; replace c7_1 : Below w3.heap.size w3 v7_1 := (by first | exact c7_1 | exact Below.trans (Below.drew (Below.refl _ _)) c7_1); have zz1 := c7_1.size; (try simp only [World.size_alloc, World.size_drew] at zz1); obtain ⟨hc1, hf1, hz1⟩ := bstep (Nat.le_refl _) c7_1; (try simp only [World.size_alloc, World.size_drew] at hc1 hf1 hz1); have hy0_1 : w.heap.size < v7_1.heap.size := (by omega); have hx0_1 : w.heap.size < v7_1.heap.size + 1 := (by omega); have hn0_1 : v7_1.heap.size ≠ w.heap.size := (by omega); have hy1_1 : w.heap.size + 1 < v7_1.heap.size := (by omega); have hx1_1 : w.heap.size + 1 < v7_1.heap.size + 1 := (by omega); have hn1_1 : v7_1.heap.size ≠ w.heap.size + 1 := (by omega); have hyl3_1 : Bl3 < v7_1.heap.size := (by omega); have hxl3_1 : Bl3 < v7_1.heap.size + 1 := (by omega); have hnl3_1 : v7_1.heap.size ≠ Bl3 := (by omega)) | (go_at_call 35; refine (leastBrakes_impl l f n e1 e2 m Al3 _ cl3 _ (by exact ((Rl3H.out.below c7_1 (by first | omega | go_size | (simp only [World.size_alloc]; omega) | (simp; omega)))).more (by first | omega | go_size | (simp only [World.size_alloc]; omega) | (simp; omega))) (Nat.le_refl _) hkl).mono ?_; rintro e v7_2 ⟨Aq4, cq4, rfl, oq4, c7_2⟩; have Oq4 := Lib.hid oq4; clear oq4; replace c7_2 : Below v7_1.heap.size v7_1 v7_2 := (by first | exact c7_2 | exact Below.trans (Below.drew (Below.refl _ _)) c7_2); have zz2 := c7_2.size; (try simp only [World.size_alloc, World.size_drew] at zz2); obtain ⟨hc2, hf2, hz2⟩ := bstep (Nat.le_refl _) c7_2; (try simp only [World.size_alloc, World.size_drew] at hc2 hf2 hz2); have hy0_2 : w.heap.size < v7_2.heap.size := (by omega); have hx0_2 : w.heap.size < v7_2.heap.size + 1 := (by omega); have hn0_2 : v7_2.heap.size ≠ w.heap.size := (by omega); have hy1_2 : w.heap.size + 1 < v7_2.heap.size := (by omega); have hx1_2 : w.heap.size + 1 < v7_2.heap.size + 1 := (by omega); have hn1_2 : v7_2.heap.size ≠ w.heap.size + 1 := (by omega); have hyl3_2 : Bl3 < v7_2.heap.size := (by omega); have hxl3_2 : Bl3 < v7_2.heap.size + 1 := (by omega); have hnl3_2 : v7_2.heap.size ≠ Bl3 := (by omega))))
    all_goals (go_wp2_with fail; go_meet; refine ⟨Aq4, cq4, rfl, rfl, own_more Oq4.out (by first | omega | go_size | (simp only [World.size_alloc]; omega) | (simp; omega)), by repeat' (first | (with_reducible exact Below.refl _ _) | (with_reducible assumption) | (with_reducible refine Below.alloc ?_ ?_ _) | (with_reducible refine Below.drew ?_) | (with_reducible refine below_drewN ?_ _) | (with_reducible refine Below.setCell ?_ ?_ _) | (with_reducible refine Below.trans ?_ (Below.mono (by assumption) ?_)) | go_size | (exact Below.size (by assumption)))⟩)
  case rest =>
  obtain ⟨Aq4, cq4, rfl, rfl, Oq4, b4⟩ := hcut
  obtain ⟨w4, hw4⟩ : ∃ x, x = wc := ⟨_, rfl⟩
  subst hw4
  have Rl := RlH.out; clear RlH
  have Rq2 := Rq2H.out; clear Rq2H
  have Rl3 := Rl3H.out; clear Rl3H
  have Ol3 := Ol3H.out; clear Ol3H
  have z4 := b4.size
  replace C0_0 := (b4.cell (p := ⟨w.heap.size, 0, none⟩) y0).trans C0_0
  replace C1_0 := (b4.cell (p := ⟨w.heap.size + 1, 0, none⟩) y1).trans C1_0
  replace C1_1 := (b4.cell (p := ⟨w.heap.size + 1, 1, none⟩) y1).trans C1_1
  replace Rl := Rl.below b4 (by omega)
  replace Rq2 := Rq2.below b4 (by omega)
  replace Cl3_0 := (b4.cell (p := ⟨Bl3, 0, none⟩) yl3).trans Cl3_0
  replace Rl3 := Rl3.below b4 (by omega)
  replace Ol3 := own_below Ol3 b4
  replace y0 : w.heap.size < w4.heap.size := by omega
  replace y1 : w.heap.size + 1 < w4.heap.size := by omega
  replace yl3 : Bl3 < w4.heap.size := by omega
  replace b0 := b0.trans (b4.mono (by omega))
  have Rq4 := Rd.of_own Oq4
  have Lq4 := own_lt Oq4
  go_wp2_with fail
  refine (eqInt64S_same ((lbX l f n e1 e2 m).1) Aq4 Aq2 _ _ _ _ (Rq4.more (by omega)) (Rq2.more (by omega)) (Nat.le_refl _) (lbX_len _ _ _ _ _ _)).mono ?_; rintro e w5 ⟨rfl, b5⟩
  have z5 := b5.size
  replace C0_0 := (b5.cell (p := ⟨w.heap.size, 0, none⟩) y0).trans C0_0
  replace C1_0 := (b5.cell (p := ⟨w.heap.size + 1, 0, none⟩) y1).trans C1_0
  replace C1_1 := (b5.cell (p := ⟨w.heap.size + 1, 1, none⟩) y1).trans C1_1
  replace Rl := Rl.below b5 (by omega)
  replace Rq2 := Rq2.below b5 (by omega)
  replace Cl3_0 := (b5.cell (p := ⟨Bl3, 0, none⟩) yl3).trans Cl3_0
  replace Rl3 := Rl3.below b5 (by omega)
  replace Ol3 := own_below Ol3 b5
  replace Rq4 := Rq4.below b5 (by omega)
  replace Oq4 := own_below Oq4 b5
  replace y0 : w.heap.size < w5.heap.size := by omega
  replace y1 : w.heap.size + 1 < w5.heap.size := by omega
  replace yl3 : Bl3 < w5.heap.size := by omega
  replace b0 := b0.trans (b5.mono (by omega))
  have RlH := Lib.hid Rl; clear Rl
  have Rq2H := Lib.hid Rq2; clear Rq2
  have Rl3H := Lib.hid Rl3; clear Rl3
  have Ol3H := Lib.hid Ol3; clear Ol3
  have Rq4H := Lib.hid Rq4; clear Rq4
  have Oq4H := Lib.hid Oq4; clear Oq4
  go_wp2_with fail
  go_cut [63] (fun s63 wx => s63 = .bool false ∧ Below w5.heap.size w5 wx)
  case first =>
    go_region_held3 (fun w' => w'.cell? ⟨w.heap.size, 0, none⟩ = some (.slice Al l.length cl) ∧ w'.cell? ⟨Bl3, 0, none⟩ = some (.slice Al3 l.length cl3)) (simp [*, World.cell?_alloc_past, World.cell?_setCell_far])
      ((first | (go_at_call 34; refine (toLayout_any l Al _ _ _ (by exact RlH.out) (by first | omega | go_size | (simp only [World.size_alloc]; omega) | (simp; omega)) hkl).mono ?_; rintro e v10_1 ⟨Al5, cl5, rfl, ol5, c10_1⟩; have Ol5 := Lib.hid ol5; clear ol5; replace c10_1 : Below w5.heap.size w5 v10_1 := (by first | exact c10_1 | exact Below.trans (Below.drew (Below.refl _ _)) c10_1); have zz1 := c10_1.size; (try simp only [World.size_alloc, World.size_drew] at zz1); obtain ⟨hc1, hf1, hz1⟩ := bstep (Nat.le_refl _) c10_1; (try simp only [World.size_alloc, World.size_drew] at hc1 hf1 hz1); have hy0_1 : w.heap.size < v10_1.heap.size := (by omega); have hx0_1 : w.heap.size < v10_1.heap.size + 1 := (by omega); have hn0_1 : v10_1.heap.size ≠ w.heap.size := (by omega); have hy1_1 : w.heap.size + 1 < v10_1.heap.size := (by omega); have hx1_1 : w.heap.size + 1 < v10_1.heap.size + 1 := (by omega); have hn1_1 : v10_1.heap.size ≠ w.heap.size + 1 := (by omega); have hyl3_1 : Bl3 < v10_1.heap.size := (by omega); have hxl3_1 : Bl3 < v10_1.heap.size + 1 := (by omega); have hnl3_1 : v10_1.heap.size ≠ Bl3 := (by omega)) | (go_at_call 37; refine (eqLayout_same l Al3 Al5 _ _ _ _ (by exact ((Rl3H.out.below c10_1 (by first | omega | go_size | (simp only [World.size_alloc]; omega) | (simp; omega)))).more (by first | omega | go_size | (simp only [World.size_alloc]; omega) | (simp; omega))) (by exact ((Rd.of_own Ol5.out)).more (by first | omega | go_size | (simp only [World.size_alloc]; omega) | (simp; omega))) (Nat.le_refl _) hkl).mono ?_; rintro e v10_2 ⟨rfl, c10_2⟩; replace c10_2 : Below v10_1.heap.size v10_1 v10_2 := (by first | exact c10_2 | exact Below.trans (Below.drew (Below.refl _ _)) c10_2); have zz2 := c10_2.size; (try simp only [World.size_alloc, World.size_drew] at zz2); obtain ⟨hc2, hf2, hz2⟩ := bstep (Nat.le_refl _) c10_2; (try simp only [World.size_alloc, World.size_drew] at hc2 hf2 hz2); have hy0_2 : w.heap.size < v10_2.heap.size := (by omega); have hx0_2 : w.heap.size < v10_2.heap.size + 1 := (by omega); have hn0_2 : v10_2.heap.size ≠ w.heap.size := (by omega); have hy1_2 : w.heap.size + 1 < v10_2.heap.size := (by omega); have hx1_2 : w.heap.size + 1 < v10_2.heap.size + 1 := (by omega); have hn1_2 : v10_2.heap.size ≠ w.heap.size + 1 := (by omega); have hyl3_2 : Bl3 < v10_2.heap.size := (by omega); have hxl3_2 : Bl3 < v10_2.heap.size + 1 := (by omega); have hnl3_2 : v10_2.heap.size ≠ Bl3 := (by omega))))
    all_goals (go_wp2_with fail; go_meet; refine ⟨rfl, by repeat' (first | (with_reducible exact Below.refl _ _) | (with_reducible assumption) | (with_reducible refine Below.alloc ?_ ?_ _) | (with_reducible refine Below.drew ?_) | (with_reducible refine below_drewN ?_ _) | (with_reducible refine Below.setCell ?_ ?_ _) | (with_reducible refine Below.trans ?_ (Below.mono (by assumption) ?_)) | go_size | (exact Below.size (by assumption)))⟩)
  case rest =>
  obtain ⟨rfl, b6⟩ := hcut
  obtain ⟨w6, hw6⟩ : ∃ x, x = wc := ⟨_, rfl⟩
  subst hw6
  have Rl := RlH.out; clear RlH
  have Rq2 := Rq2H.out; clear Rq2H
  have Rl3 := Rl3H.out; clear Rl3H
  have Ol3 := Ol3H.out; clear Ol3H
  have Rq4 := Rq4H.out; clear Rq4H
  have Oq4 := Oq4H.out; clear Oq4H
  have z6 := b6.size
  replace C0_0 := (b6.cell (p := ⟨w.heap.size, 0, none⟩) y0).trans C0_0
  replace C1_0 := (b6.cell (p := ⟨w.heap.size + 1, 0, none⟩) y1).trans C1_0
  replace C1_1 := (b6.cell (p := ⟨w.heap.size + 1, 1, none⟩) y1).trans C1_1
  replace Rl := Rl.below b6 (by omega)
  replace Rq2 := Rq2.below b6 (by omega)
  replace Cl3_0 := (b6.cell (p := ⟨Bl3, 0, none⟩) yl3).trans Cl3_0
  replace Rl3 := Rl3.below b6 (by omega)
  replace Ol3 := own_below Ol3 b6
  replace Rq4 := Rq4.below b6 (by omega)
  replace Oq4 := own_below Oq4 b6
  replace y0 : w.heap.size < w6.heap.size := by omega
  replace y1 : w.heap.size + 1 < w6.heap.size := by omega
  replace yl3 : Bl3 < w6.heap.size := by omega
  replace b0 := b0.trans (b6.mono (by omega))
  go_wp2_with fail
  clear Rl3
  refine (markLayout_any (l.length) Al3 _ cl3 _ _ _ Ol3 (by omega) (by omega) (by omega)).mono ?_; rintro e w7 ⟨rfl, Ol3', g7⟩
  have z7 := g7.size
  replace C0_0 := grownBy_cell g7 C0_0 (fun k hk => by have := Ll3 k hk; omega)
  replace C1_0 := grownBy_cell g7 C1_0 (fun k hk => by have := Ll3 k hk; omega)
  replace C1_1 := grownBy_cell g7 C1_1 (fun k hk => by have := Ll3 k hk; omega)
  replace Rl := Rl.grown g7 (by omega) (fun k hk => by have := Ll3 k hk; omega)
  replace Rq2 := Rq2.grown g7 (by omega) (fun k hk => by have := Ll3 k hk; omega)
  replace Cl3_0 := grownBy_cell g7 Cl3_0 (fun k hk => by have := Ll3 k hk; omega)
  replace Oq4 := own_apart Oq4 g7 (fun k hk => by have := Ll3 k hk; omega)
  replace Rq4 := Rd.of_own Oq4
  replace b0 := b0.trans (below_of_grownBy (B := w.heap.size) g7 (by omega) (fun k hk => by have := Ll3 k hk; omega))
  replace y0 : w.heap.size < w7.heap.size := by omega
  replace y1 : w.heap.size + 1 < w7.heap.size := by omega
  replace yl3 : Bl3 < w7.heap.size := by omega
  clear Ol3 g7; have Ol3 := Ol3'; clear Ol3'
  clear Ol3
  go_wp2_with fail
  refine (eqInt64S_same ((lbX l f n e1 e2 m).1) Aq4 Aq2 _ _ _ _ (Rq4.more (by omega)) (Rq2.more (by omega)) (Nat.le_refl _) (lbX_len _ _ _ _ _ _)).mono ?_; rintro e w8 ⟨rfl, b8⟩
  have z8 := b8.size
  replace C0_0 := (b8.cell (p := ⟨w.heap.size, 0, none⟩) y0).trans C0_0
  replace C1_0 := (b8.cell (p := ⟨w.heap.size + 1, 0, none⟩) y1).trans C1_0
  replace C1_1 := (b8.cell (p := ⟨w.heap.size + 1, 1, none⟩) y1).trans C1_1
  replace Rl := Rl.below b8 (by omega)
  replace Rq2 := Rq2.below b8 (by omega)
  replace Cl3_0 := (b8.cell (p := ⟨Bl3, 0, none⟩) yl3).trans Cl3_0
  replace Rq4 := Rq4.below b8 (by omega)
  replace Oq4 := own_below Oq4 b8
  replace y0 : w.heap.size < w8.heap.size := by omega
  replace y1 : w.heap.size + 1 < w8.heap.size := by omega
  replace yl3 : Bl3 < w8.heap.size := by omega
  replace b0 := b0.trans (b8.mono (by omega))
  have hRn : ((lbX l f n e1 e2 m).1).length ≤ 1048576 := lbX_len _ _ _ _ _ _
  go_wp2_with fail
  clear Rq4
  refine (markInt64S_any (((lbX l f n e1 e2 m).1).length) Aq4 _ cq4 _ _ _ Oq4 (by omega) (by omega) (by omega)).mono ?_; rintro e w9 ⟨rfl, Oq4', g9⟩
  have z9 := g9.size
  replace C0_0 := grownBy_cell g9 C0_0 (fun k hk => by have := Lq4 k hk; omega)
  replace C1_0 := grownBy_cell g9 C1_0 (fun k hk => by have := Lq4 k hk; omega)
  replace C1_1 := grownBy_cell g9 C1_1 (fun k hk => by have := Lq4 k hk; omega)
  replace Rl := Rl.grown g9 (by omega) (fun k hk => by have := Lq4 k hk; omega)
  replace Rq2 := Rq2.grown g9 (by omega) (fun k hk => by have := Lq4 k hk; omega)
  replace Cl3_0 := grownBy_cell g9 Cl3_0 (fun k hk => by have := Lq4 k hk; omega)
  replace b0 := b0.trans (below_of_grownBy (B := w.heap.size) g9 (by omega) (fun k hk => by have := Lq4 k hk; omega))
  replace y0 : w.heap.size < w9.heap.size := by omega
  replace y1 : w.heap.size + 1 < w9.heap.size := by omega
  replace yl3 : Bl3 < w9.heap.size := by omega
  clear Oq4 g9; have Oq4 := Oq4'; clear Oq4'
  have Rq4 := Rd.of_own Oq4
  go_wp2_with fail
  refine (heldInt64S_any ((lbX l f n e1 e2 m).1).length Aq4 _ _ _ _ (Rq4.more (Nat.le_refl _)) (by omega) (by omega) (by omega)).mono ?_; rintro e wh ⟨rfl, he⟩
  subst he
  have RlH := Lib.hid Rl; clear Rl
  have Rq2H := Lib.hid Rq2; clear Rq2
  have Oq4H := Lib.hid Oq4; clear Oq4
  have Rq4H := Lib.hid Rq4; clear Rq4
  go_wp2_with fail
  go_cut [20, 21] (fun s20 s21 wx => ∃ (Aq7 : Option Addr) (cq7 : Nat), s20 = .slice Aq7 ((lbX l f n e1 e2 m).1).length cq7 ∧ s21 = .int .i64 ((lbX l f n e1 e2 m).2) ∧ wx.ownsRow w9.heap.size 2 1 (.slice Aq7 ((lbX l f n e1 e2 m).1).length cq7) ((lbX l f n e1 e2 m).1).length (ints (lbX l f n e1 e2 m).1) ∧ Below w9.heap.size w9 wx)
  case first =>
    go_region_held3 (fun w' => w'.cell? ⟨w.heap.size, 0, none⟩ = some (.slice Al l.length cl) ∧ w'.cell? ⟨w.heap.size + 1, 0, none⟩ = some (.int .i64 e1) ∧ w'.cell? ⟨w.heap.size + 1, 1, none⟩ = some (.int .i64 e2)) (simp [*, World.cell?_alloc_past, World.cell?_setCell_far])
      ((first | (go_at_call 34; refine (toLayout_any l Al _ _ _ (by exact RlH.out) (by first | omega | go_size | (simp only [World.size_alloc]; omega) | (simp; omega)) hkl).mono ?_; rintro e v24_1 ⟨Al6, cl6, rfl, ol6, c24_1⟩; have Ol6 := Lib.hid ol6; clear ol6; replace c24_1 : Below w9.heap.size w9 v24_1 := (by first | exact c24_1 | exact Below.trans (Below.drew (Below.refl _ _)) c24_1); have zz1 := c24_1.size; (try simp only [World.size_alloc, World.size_drew] at zz1); obtain ⟨hc1, hf1, hz1⟩ := bstep (Nat.le_refl _) c24_1; (try simp only [World.size_alloc, World.size_drew] at hc1 hf1 hz1); have hy0_1 : w.heap.size < v24_1.heap.size := (by omega); have hx0_1 : w.heap.size < v24_1.heap.size + 1 := (by omega); have hn0_1 : v24_1.heap.size ≠ w.heap.size := (by omega); have hy1_1 : w.heap.size + 1 < v24_1.heap.size := (by omega); have hx1_1 : w.heap.size + 1 < v24_1.heap.size + 1 := (by omega); have hn1_1 : v24_1.heap.size ≠ w.heap.size + 1 := (by omega); have hyl3_1 : Bl3 < v24_1.heap.size := (by omega); have hxl3_1 : Bl3 < v24_1.heap.size + 1 := (by omega); have hnl3_1 : v24_1.heap.size ≠ Bl3 := (by omega)) | (go_at_call 29; refine (toInterval_any e1 e2 _).mono ?_; rintro e v24_2 ⟨rfl, c24_2⟩; replace c24_2 : Below v24_1.heap.size v24_1 v24_2 := (by first | exact c24_2 | exact Below.trans (Below.drew (Below.refl _ _)) c24_2); have zz2 := c24_2.size; (try simp only [World.size_alloc, World.size_drew] at zz2); obtain ⟨hc2, hf2, hz2⟩ := bstep (Nat.le_refl _) c24_2; (try simp only [World.size_alloc, World.size_drew] at hc2 hf2 hz2); have hy0_2 : w.heap.size < v24_2.heap.size := (by omega); have hx0_2 : w.heap.size < v24_2.heap.size + 1 := (by omega); have hn0_2 : v24_2.heap.size ≠ w.heap.size := (by omega); have hy1_2 : w.heap.size + 1 < v24_2.heap.size := (by omega); have hx1_2 : w.heap.size + 1 < v24_2.heap.size + 1 := (by omega); have hn1_2 : v24_2.heap.size ≠ w.heap.size + 1 := (by omega); have hyl3_2 : Bl3 < v24_2.heap.size := (by omega); have hxl3_2 : Bl3 < v24_2.heap.size + 1 := (by omega); have hnl3_2 : v24_2.heap.size ≠ Bl3 := (by omega)) | (go_at_call 35; refine (leastBrakes_impl l f n e1 e2 m Al6 _ cl6 _ (by exact ((Rd.of_own (own_below Ol6.out c24_2))).more (by first | omega | go_size | (simp only [World.size_alloc]; omega) | (simp; omega))) (Nat.le_refl _) hkl).mono ?_; rintro e v24_3 ⟨Aq7, cq7, rfl, oq7, c24_3⟩; have Oq7 := Lib.hid oq7; clear oq7; replace c24_3 : Below v24_2.heap.size v24_2 v24_3 := (by first | exact c24_3 | exact Below.trans (Below.drew (Below.refl _ _)) c24_3); have zz3 := c24_3.size; (try simp only [World.size_alloc, World.size_drew] at zz3); obtain ⟨hc3, hf3, hz3⟩ := bstep (Nat.le_refl _) c24_3; (try simp only [World.size_alloc, World.size_drew] at hc3 hf3 hz3); have hy0_3 : w.heap.size < v24_3.heap.size := (by omega); have hx0_3 : w.heap.size < v24_3.heap.size + 1 := (by omega); have hn0_3 : v24_3.heap.size ≠ w.heap.size := (by omega); have hy1_3 : w.heap.size + 1 < v24_3.heap.size := (by omega); have hx1_3 : w.heap.size + 1 < v24_3.heap.size + 1 := (by omega); have hn1_3 : v24_3.heap.size ≠ w.heap.size + 1 := (by omega); have hyl3_3 : Bl3 < v24_3.heap.size := (by omega); have hxl3_3 : Bl3 < v24_3.heap.size + 1 := (by omega); have hnl3_3 : v24_3.heap.size ≠ Bl3 := (by omega))))
    all_goals (go_wp2_with fail; go_meet; refine ⟨Aq7, cq7, rfl, rfl, own_more Oq7.out (by first | omega | go_size | (simp only [World.size_alloc]; omega) | (simp; omega)), by repeat' (first | (with_reducible exact Below.refl _ _) | (with_reducible assumption) | (with_reducible refine Below.alloc ?_ ?_ _) | (with_reducible refine Below.drew ?_) | (with_reducible refine below_drewN ?_ _) | (with_reducible refine Below.setCell ?_ ?_ _) | (with_reducible refine Below.trans ?_ (Below.mono (by assumption) ?_)) | go_size | (exact Below.size (by assumption)))⟩)
  case rest =>
  obtain ⟨Aq7, cq7, rfl, rfl, Oq7, b10⟩ := hcut
  obtain ⟨w10, hw10⟩ : ∃ x, x = wc := ⟨_, rfl⟩
  subst hw10
  have Rl := RlH.out; clear RlH
  have Rq2 := Rq2H.out; clear Rq2H
  have Oq4 := Oq4H.out; clear Oq4H
  have Rq4 := Rq4H.out; clear Rq4H
  have z10 := b10.size
  replace C0_0 := (b10.cell (p := ⟨w.heap.size, 0, none⟩) y0).trans C0_0
  replace C1_0 := (b10.cell (p := ⟨w.heap.size + 1, 0, none⟩) y1).trans C1_0
  replace C1_1 := (b10.cell (p := ⟨w.heap.size + 1, 1, none⟩) y1).trans C1_1
  replace Rl := Rl.below b10 (by omega)
  replace Rq2 := Rq2.below b10 (by omega)
  replace Cl3_0 := (b10.cell (p := ⟨Bl3, 0, none⟩) yl3).trans Cl3_0
  replace Oq4 := own_below Oq4 b10
  replace Rq4 := Rq4.below b10 (by omega)
  replace y0 : w.heap.size < w10.heap.size := by omega
  replace y1 : w.heap.size + 1 < w10.heap.size := by omega
  replace yl3 : Bl3 < w10.heap.size := by omega
  replace b0 := b0.trans (b10.mono (by omega))
  have Rq7 := Rd.of_own Oq7
  have Lq7 := own_lt Oq7
  go_wp2_with fail
  refine (eqInt64S_same ((lbX l f n e1 e2 m).1) Aq7 Aq2 _ _ _ _ (Rq7.more (by omega)) (Rq2.more (by omega)) (Nat.le_refl _) (lbX_len _ _ _ _ _ _)).mono ?_; rintro e w11 ⟨rfl, b11⟩
  have z11 := b11.size
  replace C0_0 := (b11.cell (p := ⟨w.heap.size, 0, none⟩) y0).trans C0_0
  replace C1_0 := (b11.cell (p := ⟨w.heap.size + 1, 0, none⟩) y1).trans C1_0
  replace C1_1 := (b11.cell (p := ⟨w.heap.size + 1, 1, none⟩) y1).trans C1_1
  replace Rl := Rl.below b11 (by omega)
  replace Rq2 := Rq2.below b11 (by omega)
  replace Cl3_0 := (b11.cell (p := ⟨Bl3, 0, none⟩) yl3).trans Cl3_0
  replace Oq4 := own_below Oq4 b11
  replace Rq4 := Rq4.below b11 (by omega)
  replace Rq7 := Rq7.below b11 (by omega)
  replace Oq7 := own_below Oq7 b11
  replace y0 : w.heap.size < w11.heap.size := by omega
  replace y1 : w.heap.size + 1 < w11.heap.size := by omega
  replace yl3 : Bl3 < w11.heap.size := by omega
  replace b0 := b0.trans (b11.mono (by omega))
  go_wp2_with fail
  refine (heldInt64S_any ((lbX l f n e1 e2 m).1).length Aq4 _ _ _ _ (Rq4.more (Nat.le_refl _)) (by omega) (by omega) (by omega)).mono ?_; rintro e wh ⟨rfl, he⟩
  subst he
  go_wp2
  go_ret
  exact ⟨rfl, by repeat' (first | (with_reducible exact Below.refl _ _) | (with_reducible assumption) | (with_reducible refine Below.alloc ?_ ?_ _) | (with_reducible refine Below.drew ?_) | (with_reducible refine below_drewN ?_ _) | (with_reducible refine Below.setCell ?_ ?_ _) | (with_reducible refine Below.trans ?_ (Below.mono (by assumption) ?_)) | go_size | (exact Below.size (by assumption)))⟩
end Go.Proofs.Ytooifamckccadaa
