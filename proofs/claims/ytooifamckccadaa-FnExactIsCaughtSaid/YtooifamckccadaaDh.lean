/- The law on IsCaught. -/
import Derived.Test.YtooifamckccadaaIc
import Derived.Test.YtooifamckccadaaLy2
import Derived.Test.YtooifamckccadaaLf
import Derived.Deep.DeepCutAuto
import Derived.Deep.RegionHeld3
namespace Go.Proofs.Ytooifamckccadaa
open Go.ChangeShapes Go.WideShapes Go.ChangeAt Go.RowKit
set_option linter.unusedVariables false
set_option linter.unusedSimpArgs false
set_option maxRecDepth 20000
set_option maxHeartbeats 4000000 in
theorem walkFnExactIsCaught (l : List Seg) (Al : Option Addr) (cl : Nat) (fs : List Int) (Afs : Option Addr) (cfs : Nat) (b : Int) (e1 e2 : Int) (on : List Int) (Aon : Option Addr) (con : Nat) (w : World) (Rl : Rd w w.heap.size Al (l.flatMap eSegment)) (hlcl : l.length ≤ cl) (hml : cl ≤ maxLen) (Rfs : Rd w w.heap.size Afs (ints fs)) (hlcfs : fs.length ≤ cfs) (hmfs : cfs ≤ maxLen) (Ron : Rd w w.heap.size Aon (ints on)) (hlcon : on.length ≤ con) (hmon : con ≤ maxLen) :
   Calls Try.prog 15 #[.agg #[.slice Al l.length cl], .slice Afs fs.length cfs, .int .i64 b, .agg #[.int .i64 e1, .int .i64 e2], .slice Aon on.length con] w fun e w' => e = .returned (.bool true) ∧ Below w.heap.size w w' := by
  unfold maxLen at hmfs
  unfold maxLen at hmon
  unfold maxLen at hml
  by_cases hnfs : (fs.length : Int) ≤ 1048576
  rotate_left
  · go_enter Try.func15, Try.ntmps15
    go_wp2
    go_ret
    exact ⟨rfl, by repeat' (first | (with_reducible exact Below.refl _ _) | (with_reducible assumption) | (with_reducible refine Below.alloc ?_ ?_ _) | (with_reducible refine Below.drew ?_) | (with_reducible refine below_drewN ?_ _) | (with_reducible refine Below.setCell ?_ ?_ _) | (with_reducible refine Below.trans ?_ (Below.mono (by assumption) ?_)) | go_size | (exact Below.size (by assumption)))⟩
  by_cases hnon : (on.length : Int) ≤ 1048576
  rotate_left
  · go_enter Try.func15, Try.ntmps15
    go_wp2
    go_ret
    exact ⟨rfl, by repeat' (first | (with_reducible exact Below.refl _ _) | (with_reducible assumption) | (with_reducible refine Below.alloc ?_ ?_ _) | (with_reducible refine Below.drew ?_) | (with_reducible refine below_drewN ?_ _) | (with_reducible refine Below.setCell ?_ ?_ _) | (with_reducible refine Below.trans ?_ (Below.mono (by assumption) ?_)) | go_size | (exact Below.size (by assumption)))⟩
  by_cases hnl : (l.length : Int) ≤ 1048576
  rotate_left
  · go_enter Try.func15, Try.ntmps15
    go_wp2_with (go_at_call 32; refine (szLayout_great _ _ _ _ (by omega) (by omega) (by omega) (by omega) _).mono ?_; rintro e w' ⟨rfl, b1⟩)
    go_ret
    exact ⟨rfl, by repeat' (first | (with_reducible exact Below.refl _ _) | (with_reducible assumption) | (with_reducible refine Below.alloc ?_ ?_ _) | (with_reducible refine Below.drew ?_) | (with_reducible refine below_drewN ?_ _) | (with_reducible refine Below.setCell ?_ ?_ _) | (with_reducible refine Below.trans ?_ (Below.mono (by assumption) ?_)) | go_size | (exact Below.size (by assumption)))⟩
  have hkfs : fs.length ≤ 1048576 := by omega
  have hkon : on.length ≤ 1048576 := by omega
  have hkl : l.length ≤ 1048576 := by omega
  have C0_0 : ((w.alloc (.cells #[.slice Al l.length cl] 50)).alloc (.cells #[.int .i64 e1, .int .i64 e2] 40)).cell? ⟨w.heap.size, 0, none⟩ = some (.slice Al l.length cl) := by first | go_cell | simp
  have C1_0 : ((w.alloc (.cells #[.slice Al l.length cl] 50)).alloc (.cells #[.int .i64 e1, .int .i64 e2] 40)).cell? ⟨w.heap.size + 1, 0, none⟩ = some (.int .i64 e1) := by first | go_cell | simp
  have C1_1 : ((w.alloc (.cells #[.slice Al l.length cl] 50)).alloc (.cells #[.int .i64 e1, .int .i64 e2] 40)).cell? ⟨w.heap.size + 1, 1, none⟩ = some (.int .i64 e2) := by first | go_cell | simp
  have b0 : Below w.heap.size w ((w.alloc (.cells #[.slice Al l.length cl] 50)).alloc (.cells #[.int .i64 e1, .int .i64 e2] 40)) := by repeat' (first | (with_reducible exact Below.refl _ _) | (with_reducible assumption) | (with_reducible refine Below.alloc ?_ ?_ _) | (with_reducible refine Below.drew ?_) | (with_reducible refine below_drewN ?_ _) | (with_reducible refine Below.setCell ?_ ?_ _) | (with_reducible refine Below.trans ?_ (Below.mono (by assumption) ?_)) | go_size | (exact Below.size (by assumption)))
  have z0 : w.heap.size + 2 ≤ ((w.alloc (.cells #[.slice Al l.length cl] 50)).alloc (.cells #[.int .i64 e1, .int .i64 e2] 40)).heap.size := by simp
  replace Rfs := Rfs.below b0 (Nat.le_refl _)
  replace Ron := Ron.below b0 (Nat.le_refl _)
  replace Rl := Rl.below b0 (Nat.le_refl _)
  go_enter Try.func15, Try.ntmps15
  go_wp2_with fail
  generalize ((w.alloc (.cells #[.slice Al l.length cl] 50)).alloc (.cells #[.int .i64 e1, .int .i64 e2] 40)) = w0 at *
  have y0 : w.heap.size < w0.heap.size := by omega
  have y1 : w.heap.size + 1 < w0.heap.size := by omega
  refine (szLayout_small _ _ _ _ (by omega) (by omega) _).mono ?_; rintro e w1 ⟨rfl, b1⟩
  have z1 := b1.size
  replace C0_0 := (b1.cell (p := ⟨w.heap.size, 0, none⟩) y0).trans C0_0
  replace C1_0 := (b1.cell (p := ⟨w.heap.size + 1, 0, none⟩) y1).trans C1_0
  replace C1_1 := (b1.cell (p := ⟨w.heap.size + 1, 1, none⟩) y1).trans C1_1
  replace Rfs := Rfs.below b1 (by omega)
  replace Ron := Ron.below b1 (by omega)
  replace Rl := Rl.below b1 (by omega)
  replace y0 : w.heap.size < w1.heap.size := by omega
  replace y1 : w.heap.size + 1 < w1.heap.size := by omega
  replace b0 := b0.trans (b1.mono (by omega))
  have RfsH := Lib.hid Rfs; clear Rfs
  have RonH := Lib.hid Ron; clear Ron
  have RlH := Lib.hid Rl; clear Rl
  go_wp2_with fail
  go_cut [12] (fun s12 wx => s12 = .bool (icB l fs on b e1 e2) ∧ Below w1.heap.size w1 wx)
  case first =>
    go_region_held3 (fun w' => w'.cell? ⟨w.heap.size, 0, none⟩ = some (.slice Al l.length cl) ∧ w'.cell? ⟨w.heap.size + 1, 0, none⟩ = some (.int .i64 e1) ∧ w'.cell? ⟨w.heap.size + 1, 1, none⟩ = some (.int .i64 e2)) (simp [*, World.cell?_alloc_past, World.cell?_setCell_far])
      ((first | (go_at_call 34; refine (toLayout_any l Al _ _ _ (by exact RlH.out) (by first | omega | go_size | (simp only [World.size_alloc]; omega) | (simp; omega)) hkl).mono ?_; rintro e v9_1 ⟨Al1, cl1, rfl, ol1, c9_1⟩; have Ol1 := Lib.hid ol1; clear ol1; replace c9_1 : Below w1.heap.size w1 v9_1 := (by first | exact c9_1 | exact Below.trans (Below.drew (Below.refl _ _)) c9_1); have zz1 := c9_1.size; (try simp only [World.size_alloc, World.size_drew] at zz1); obtain ⟨hc1, hf1, hz1⟩ := bstep (Nat.le_refl _) c9_1; (try simp only [World.size_alloc, World.size_drew] at hc1 hf1 hz1); have hy0_1 : w.heap.size < v9_1.heap.size := (by omega); have hx0_1 : w.heap.size < v9_1.heap.size + 1 := (by omega); have hn0_1 : v9_1.heap.size ≠ w.heap.size := (by omega); have hy1_1 : w.heap.size + 1 < v9_1.heap.size := (by omega); have hx1_1 : w.heap.size + 1 < v9_1.heap.size + 1 := (by omega); have hn1_1 : v9_1.heap.size ≠ w.heap.size + 1 := (by omega)) | (go_at_call_of 49 (Value.slice Afs fs.length cfs); refine (toInt64S_any fs Afs _ _ _ (by exact (RfsH.out.below c9_1 (by first | omega | go_size | (simp only [World.size_alloc]; omega) | (simp; omega)))) (by first | omega | go_size | (simp only [World.size_alloc]; omega) | (simp; omega)) hkfs).mono ?_; rintro e v9_2 ⟨Afs2, cfs2, rfl, ofs2, c9_2⟩; have Ofs2 := Lib.hid ofs2; clear ofs2; replace c9_2 : Below v9_1.heap.size v9_1 v9_2 := (by first | exact c9_2 | exact Below.trans (Below.drew (Below.refl _ _)) c9_2); have zz2 := c9_2.size; (try simp only [World.size_alloc, World.size_drew] at zz2); obtain ⟨hc2, hf2, hz2⟩ := bstep (Nat.le_refl _) c9_2; (try simp only [World.size_alloc, World.size_drew] at hc2 hf2 hz2); have hy0_2 : w.heap.size < v9_2.heap.size := (by omega); have hx0_2 : w.heap.size < v9_2.heap.size + 1 := (by omega); have hn0_2 : v9_2.heap.size ≠ w.heap.size := (by omega); have hy1_2 : w.heap.size + 1 < v9_2.heap.size := (by omega); have hx1_2 : w.heap.size + 1 < v9_2.heap.size + 1 := (by omega); have hn1_2 : v9_2.heap.size ≠ w.heap.size + 1 := (by omega)) | (go_at_call 29; refine (toInterval_any e1 e2 _).mono ?_; rintro e v9_3 ⟨rfl, c9_3⟩; replace c9_3 : Below v9_2.heap.size v9_2 v9_3 := (by first | exact c9_3 | exact Below.trans (Below.drew (Below.refl _ _)) c9_3); have zz3 := c9_3.size; (try simp only [World.size_alloc, World.size_drew] at zz3); obtain ⟨hc3, hf3, hz3⟩ := bstep (Nat.le_refl _) c9_3; (try simp only [World.size_alloc, World.size_drew] at hc3 hf3 hz3); have hy0_3 : w.heap.size < v9_3.heap.size := (by omega); have hx0_3 : w.heap.size < v9_3.heap.size + 1 := (by omega); have hn0_3 : v9_3.heap.size ≠ w.heap.size := (by omega); have hy1_3 : w.heap.size + 1 < v9_3.heap.size := (by omega); have hx1_3 : w.heap.size + 1 < v9_3.heap.size + 1 := (by omega); have hn1_3 : v9_3.heap.size ≠ w.heap.size + 1 := (by omega)) | (go_at_call_of 49 (Value.slice Aon on.length con); refine (toInt64S_any on Aon _ _ _ (by exact (((RonH.out.below c9_1 (by first | omega | go_size | (simp only [World.size_alloc]; omega) | (simp; omega))).below c9_2 (by first | omega | go_size | (simp only [World.size_alloc]; omega) | (simp; omega))).below c9_3 (by first | omega | go_size | (simp only [World.size_alloc]; omega) | (simp; omega)))) (by first | omega | go_size | (simp only [World.size_alloc]; omega) | (simp; omega)) hkon).mono ?_; rintro e v9_4 ⟨Aon3, con3, rfl, oon3, c9_4⟩; have Oon3 := Lib.hid oon3; clear oon3; replace c9_4 : Below v9_3.heap.size v9_3 v9_4 := (by first | exact c9_4 | exact Below.trans (Below.drew (Below.refl _ _)) c9_4); have zz4 := c9_4.size; (try simp only [World.size_alloc, World.size_drew] at zz4); obtain ⟨hc4, hf4, hz4⟩ := bstep (Nat.le_refl _) c9_4; (try simp only [World.size_alloc, World.size_drew] at hc4 hf4 hz4); have hy0_4 : w.heap.size < v9_4.heap.size := (by omega); have hx0_4 : w.heap.size < v9_4.heap.size + 1 := (by omega); have hn0_4 : v9_4.heap.size ≠ w.heap.size := (by omega); have hy1_4 : w.heap.size + 1 < v9_4.heap.size := (by omega); have hx1_4 : w.heap.size + 1 < v9_4.heap.size + 1 := (by omega); have hn1_4 : v9_4.heap.size ≠ w.heap.size + 1 := (by omega)) | (go_at_call 23; refine (caught_spec l fs on b e1 e2 Al1 _ cl1 Afs2 cfs2 Aon3 con3 _ (by exact ((Rd.of_own (own_below (own_below (own_below Ol1.out c9_2) c9_3) c9_4))).more (by first | omega | go_size | (simp only [World.size_alloc]; omega) | (simp; omega))) (by exact ((Rd.of_own (own_below (own_below Ofs2.out c9_3) c9_4))).more (by first | omega | go_size | (simp only [World.size_alloc]; omega) | (simp; omega))) (by exact ((Rd.of_own Oon3.out)).more (by first | omega | go_size | (simp only [World.size_alloc]; omega) | (simp; omega))) (Nat.le_refl _) hkl hkfs hkon (own_cap Ofs2.out) (by have hq := own_capmax Ofs2.out; unfold maxLen at hq; exact hq)).mono ?_; rintro e v9_5 ⟨rfl, c9_5⟩; replace c9_5 : Below v9_4.heap.size v9_4 v9_5 := (by first | exact c9_5 | exact Below.trans (Below.drew (Below.refl _ _)) c9_5); have zz5 := c9_5.size; (try simp only [World.size_alloc, World.size_drew] at zz5); obtain ⟨hc5, hf5, hz5⟩ := bstep (Nat.le_refl _) c9_5; (try simp only [World.size_alloc, World.size_drew] at hc5 hf5 hz5); have hy0_5 : w.heap.size < v9_5.heap.size := (by omega); have hx0_5 : w.heap.size < v9_5.heap.size + 1 := (by omega); have hn0_5 : v9_5.heap.size ≠ w.heap.size := (by omega); have hy1_5 : w.heap.size + 1 < v9_5.heap.size := (by omega); have hx1_5 : w.heap.size + 1 < v9_5.heap.size + 1 := (by omega); have hn1_5 : v9_5.heap.size ≠ w.heap.size + 1 := (by omega))))
    all_goals (go_wp2_with fail; go_meet; refine ⟨rfl, by repeat' (first | (with_reducible exact Below.refl _ _) | (with_reducible assumption) | (with_reducible refine Below.alloc ?_ ?_ _) | (with_reducible refine Below.drew ?_) | (with_reducible refine below_drewN ?_ _) | (with_reducible refine Below.setCell ?_ ?_ _) | (with_reducible refine Below.trans ?_ (Below.mono (by assumption) ?_)) | go_size | (exact Below.size (by assumption)))⟩)
  case rest =>
  obtain ⟨rfl, b2⟩ := hcut
  obtain ⟨w2, hw2⟩ : ∃ x, x = wc := ⟨_, rfl⟩
  subst hw2
  have Rfs := RfsH.out; clear RfsH
  have Ron := RonH.out; clear RonH
  have Rl := RlH.out; clear RlH
  have z2 := b2.size
  replace C0_0 := (b2.cell (p := ⟨w.heap.size, 0, none⟩) y0).trans C0_0
  replace C1_0 := (b2.cell (p := ⟨w.heap.size + 1, 0, none⟩) y1).trans C1_0
  replace C1_1 := (b2.cell (p := ⟨w.heap.size + 1, 1, none⟩) y1).trans C1_1
  replace Rfs := Rfs.below b2 (by omega)
  replace Ron := Ron.below b2 (by omega)
  replace Rl := Rl.below b2 (by omega)
  replace y0 : w.heap.size < w2.heap.size := by omega
  replace y1 : w.heap.size + 1 < w2.heap.size := by omega
  replace b0 := b0.trans (b2.mono (by omega))
  go_upto_region 10 with fail
  go_cut [13] (fun s13 wx => ∃ (Al5 : Option Addr) (cl5 Bl5 : Nat), s13 = .pointer (some ⟨Bl5, 0, none⟩) ∧ w2.heap.size ≤ Bl5 ∧ Bl5 < wx.heap.size ∧ wx.cell? ⟨Bl5, 0, none⟩ = some (.slice Al5 l.length cl5) ∧ wx.ownsRow w2.heap.size 39 7 (.slice Al5 l.length cl5) l.length (l.flatMap eSegment) ∧ (∀ k, (Value.slice Al5 l.length cl5).ownBlock = some k → w2.heap.size ≤ k ∧ k < Bl5) ∧ Below w2.heap.size w2 wx)
  case first =>
    go_wp2_with fail
    refine (toLayout_any l Al _ _ _ (by exact Rl) (by first | omega | go_size | (simp only [World.size_alloc]; omega) | (simp; omega)) hkl).mono ?_; rintro e v ⟨Al5, cl5, rfl, o, bb⟩
    have L := own_lt o; have O := Lib.hid o; clear o; have zz := bb.size
    go_wp2_with fail
    go_meet; refine ⟨_, _, _, rfl, by go_size, by go_size, by go_cell, own_below O.out (by repeat' (first | (with_reducible exact Below.refl _ _) | (with_reducible assumption) | (with_reducible refine Below.alloc ?_ ?_ _) | (with_reducible refine Below.drew ?_) | (with_reducible refine below_drewN ?_ _) | (with_reducible refine Below.setCell ?_ ?_ _) | (with_reducible refine Below.trans ?_ (Below.mono (by assumption) ?_)) | go_size | (exact Below.size (by assumption)))), fun k hk => (by have := L k hk; omega), by repeat' (first | (with_reducible exact Below.refl _ _) | (with_reducible assumption) | (with_reducible refine Below.alloc ?_ ?_ _) | (with_reducible refine Below.drew ?_) | (with_reducible refine below_drewN ?_ _) | (with_reducible refine Below.setCell ?_ ?_ _) | (with_reducible refine Below.trans ?_ (Below.mono (by assumption) ?_)) | go_size | (exact Below.size (by assumption)))⟩
  case rest =>
  obtain ⟨Al5, cl5, Bl5, rfl, xl5, yl5, Cl5_0, Ol5, Ll5, b3⟩ := hcut
  obtain ⟨w3, hw3⟩ : ∃ x, x = wc := ⟨_, rfl⟩
  subst hw3
  have z3 := b3.size
  have kyl5 := yl5
  replace C0_0 := (b3.cell (p := ⟨w.heap.size, 0, none⟩) y0).trans C0_0
  replace C1_0 := (b3.cell (p := ⟨w.heap.size + 1, 0, none⟩) y1).trans C1_0
  replace C1_1 := (b3.cell (p := ⟨w.heap.size + 1, 1, none⟩) y1).trans C1_1
  replace Rfs := Rfs.below b3 (by omega)
  replace Ron := Ron.below b3 (by omega)
  replace Rl := Rl.below b3 (by omega)
  replace y0 : w.heap.size < w3.heap.size := by omega
  replace y1 : w.heap.size + 1 < w3.heap.size := by omega
  replace b0 := b0.trans (b3.mono (by omega))
  have Rl5 := Rd.of_own Ol5
  go_wp2_with fail
  refine (toInt64S_any fs Afs _ _ _ (by exact Rfs) (by first | omega | go_size | (simp only [World.size_alloc]; omega) | (simp; omega)) hkfs).mono ?_; rintro e w4 ⟨Afs6, cfs6, rfl, Ofs6, b4⟩
  have z4 := b4.size
  replace C0_0 := (b4.cell (p := ⟨w.heap.size, 0, none⟩) y0).trans C0_0
  replace C1_0 := (b4.cell (p := ⟨w.heap.size + 1, 0, none⟩) y1).trans C1_0
  replace C1_1 := (b4.cell (p := ⟨w.heap.size + 1, 1, none⟩) y1).trans C1_1
  replace Rfs := Rfs.below b4 (by omega)
  replace Ron := Ron.below b4 (by omega)
  replace Rl := Rl.below b4 (by omega)
  replace Cl5_0 := (b4.cell (p := ⟨Bl5, 0, none⟩) yl5).trans Cl5_0
  replace Rl5 := Rl5.below b4 (by omega)
  replace Ol5 := own_below Ol5 b4
  replace y0 : w.heap.size < w4.heap.size := by omega
  replace y1 : w.heap.size + 1 < w4.heap.size := by omega
  replace yl5 : Bl5 < w4.heap.size := by omega
  replace b0 := b0.trans (b4.mono (by omega))
  have Lfs6 := own_lt Ofs6
  have Rfs6 := Rd.of_own Ofs6
  go_wp2_with fail
  refine (toInt64S_any on Aon _ _ _ (by exact Ron) (by first | omega | go_size | (simp only [World.size_alloc]; omega) | (simp; omega)) hkon).mono ?_; rintro e w5 ⟨Aon7, con7, rfl, Oon7, b5⟩
  have z5 := b5.size
  replace C0_0 := (b5.cell (p := ⟨w.heap.size, 0, none⟩) y0).trans C0_0
  replace C1_0 := (b5.cell (p := ⟨w.heap.size + 1, 0, none⟩) y1).trans C1_0
  replace C1_1 := (b5.cell (p := ⟨w.heap.size + 1, 1, none⟩) y1).trans C1_1
  replace Rfs := Rfs.below b5 (by omega)
  replace Ron := Ron.below b5 (by omega)
  replace Rl := Rl.below b5 (by omega)
  replace Cl5_0 := (b5.cell (p := ⟨Bl5, 0, none⟩) yl5).trans Cl5_0
  replace Rl5 := Rl5.below b5 (by omega)
  replace Ol5 := own_below Ol5 b5
  replace Rfs6 := Rfs6.below b5 (by omega)
  replace Ofs6 := own_below Ofs6 b5
  replace y0 : w.heap.size < w5.heap.size := by omega
  replace y1 : w.heap.size + 1 < w5.heap.size := by omega
  replace yl5 : Bl5 < w5.heap.size := by omega
  replace b0 := b0.trans (b5.mono (by omega))
  have Lon7 := own_lt Oon7
  have Ron7 := Rd.of_own Oon7
  have RfsH := Lib.hid Rfs; clear Rfs
  have RonH := Lib.hid Ron; clear Ron
  have RlH := Lib.hid Rl; clear Rl
  have Rl5H := Lib.hid Rl5; clear Rl5
  have Ol5H := Lib.hid Ol5; clear Ol5
  have Rfs6H := Lib.hid Rfs6; clear Rfs6
  have Ofs6H := Lib.hid Ofs6; clear Ofs6
  have Ron7H := Lib.hid Ron7; clear Ron7
  have Oon7H := Lib.hid Oon7; clear Oon7
  go_wp2_with fail
  go_cut [16] (fun s16 wx => s16 = .bool (icB l fs on b e1 e2) ∧ Below w5.heap.size w5 wx)
  case first =>
    go_region_held3 (fun w' => w'.cell? ⟨w.heap.size + 1, 0, none⟩ = some (.int .i64 e1) ∧ w'.cell? ⟨w.heap.size + 1, 1, none⟩ = some (.int .i64 e2) ∧ w'.cell? ⟨Bl5, 0, none⟩ = some (.slice Al5 l.length cl5)) (simp [*, World.cell?_alloc_past, World.cell?_setCell_far])
      ((first | (go_at_call 29; refine (toInterval_any e1 e2 _).mono ?_; rintro e v13_1 ⟨rfl, c13_1⟩; replace c13_1 : Below w5.heap.size w5 v13_1 := (by first | exact c13_1 | exact Below.trans (Below.drew (Below.refl _ _)) c13_1); have zz1 := c13_1.size; (try simp only [World.size_alloc, World.size_drew] at zz1); obtain ⟨hc1, hf1, hz1⟩ := bstep (Nat.le_refl _) c13_1; (try simp only [World.size_alloc, World.size_drew] at hc1 hf1 hz1); have hy0_1 : w.heap.size < v13_1.heap.size := (by omega); have hx0_1 : w.heap.size < v13_1.heap.size + 1 := (by omega); have hn0_1 : v13_1.heap.size ≠ w.heap.size := (by omega); have hy1_1 : w.heap.size + 1 < v13_1.heap.size := (by omega); have hx1_1 : w.heap.size + 1 < v13_1.heap.size + 1 := (by omega); have hn1_1 : v13_1.heap.size ≠ w.heap.size + 1 := (by omega); have hyl5_1 : Bl5 < v13_1.heap.size := (by omega); have hxl5_1 : Bl5 < v13_1.heap.size + 1 := (by omega); have hnl5_1 : v13_1.heap.size ≠ Bl5 := (by omega)) | (go_at_call 22; refine (caught_impl l fs on b e1 e2 Al5 _ cl5 Afs6 cfs6 Aon7 con7 _ (by exact ((Rl5H.out.below c13_1 (by first | omega | go_size | (simp only [World.size_alloc]; omega) | (simp; omega)))).more (by first | omega | go_size | (simp only [World.size_alloc]; omega) | (simp; omega))) (by exact ((Rfs6H.out.below c13_1 (by first | omega | go_size | (simp only [World.size_alloc]; omega) | (simp; omega)))).more (by first | omega | go_size | (simp only [World.size_alloc]; omega) | (simp; omega))) (by exact ((Ron7H.out.below c13_1 (by first | omega | go_size | (simp only [World.size_alloc]; omega) | (simp; omega)))).more (by first | omega | go_size | (simp only [World.size_alloc]; omega) | (simp; omega))) (Nat.le_refl _) hkl hkfs hkon (own_cap Ofs6H.out) (by have hq := own_capmax Ofs6H.out; unfold maxLen at hq; exact hq)).mono ?_; rintro e v13_2 ⟨rfl, c13_2⟩; replace c13_2 : Below v13_1.heap.size v13_1 v13_2 := (by first | exact c13_2 | exact Below.trans (Below.drew (Below.refl _ _)) c13_2); have zz2 := c13_2.size; (try simp only [World.size_alloc, World.size_drew] at zz2); obtain ⟨hc2, hf2, hz2⟩ := bstep (Nat.le_refl _) c13_2; (try simp only [World.size_alloc, World.size_drew] at hc2 hf2 hz2); have hy0_2 : w.heap.size < v13_2.heap.size := (by omega); have hx0_2 : w.heap.size < v13_2.heap.size + 1 := (by omega); have hn0_2 : v13_2.heap.size ≠ w.heap.size := (by omega); have hy1_2 : w.heap.size + 1 < v13_2.heap.size := (by omega); have hx1_2 : w.heap.size + 1 < v13_2.heap.size + 1 := (by omega); have hn1_2 : v13_2.heap.size ≠ w.heap.size + 1 := (by omega); have hyl5_2 : Bl5 < v13_2.heap.size := (by omega); have hxl5_2 : Bl5 < v13_2.heap.size + 1 := (by omega); have hnl5_2 : v13_2.heap.size ≠ Bl5 := (by omega))))
    all_goals (go_wp2_with fail; go_meet; refine ⟨rfl, by repeat' (first | (with_reducible exact Below.refl _ _) | (with_reducible assumption) | (with_reducible refine Below.alloc ?_ ?_ _) | (with_reducible refine Below.drew ?_) | (with_reducible refine below_drewN ?_ _) | (with_reducible refine Below.setCell ?_ ?_ _) | (with_reducible refine Below.trans ?_ (Below.mono (by assumption) ?_)) | go_size | (exact Below.size (by assumption)))⟩)
  case rest =>
  obtain ⟨rfl, b6⟩ := hcut
  obtain ⟨w6, hw6⟩ : ∃ x, x = wc := ⟨_, rfl⟩
  subst hw6
  have Rfs := RfsH.out; clear RfsH
  have Ron := RonH.out; clear RonH
  have Rl := RlH.out; clear RlH
  have Rl5 := Rl5H.out; clear Rl5H
  have Ol5 := Ol5H.out; clear Ol5H
  have Rfs6 := Rfs6H.out; clear Rfs6H
  have Ofs6 := Ofs6H.out; clear Ofs6H
  have Ron7 := Ron7H.out; clear Ron7H
  have Oon7 := Oon7H.out; clear Oon7H
  have z6 := b6.size
  replace C0_0 := (b6.cell (p := ⟨w.heap.size, 0, none⟩) y0).trans C0_0
  replace C1_0 := (b6.cell (p := ⟨w.heap.size + 1, 0, none⟩) y1).trans C1_0
  replace C1_1 := (b6.cell (p := ⟨w.heap.size + 1, 1, none⟩) y1).trans C1_1
  replace Rfs := Rfs.below b6 (by omega)
  replace Ron := Ron.below b6 (by omega)
  replace Rl := Rl.below b6 (by omega)
  replace Cl5_0 := (b6.cell (p := ⟨Bl5, 0, none⟩) yl5).trans Cl5_0
  replace Rl5 := Rl5.below b6 (by omega)
  replace Ol5 := own_below Ol5 b6
  replace Rfs6 := Rfs6.below b6 (by omega)
  replace Ofs6 := own_below Ofs6 b6
  replace Ron7 := Ron7.below b6 (by omega)
  replace Oon7 := own_below Oon7 b6
  replace y0 : w.heap.size < w6.heap.size := by omega
  replace y1 : w.heap.size + 1 < w6.heap.size := by omega
  replace yl5 : Bl5 < w6.heap.size := by omega
  replace b0 := b0.trans (b6.mono (by omega))
  have RfsH := Lib.hid Rfs; clear Rfs
  have RonH := Lib.hid Ron; clear Ron
  have RlH := Lib.hid Rl; clear Rl
  have Rl5H := Lib.hid Rl5; clear Rl5
  have Ol5H := Lib.hid Ol5; clear Ol5
  have Rfs6H := Lib.hid Rfs6; clear Rfs6
  have Ofs6H := Lib.hid Ofs6; clear Ofs6
  have Ron7H := Lib.hid Ron7; clear Ron7
  have Oon7H := Lib.hid Oon7; clear Oon7
  go_wp2_with fail
  go_cut [58] (fun s58 wx => s58 = .bool false ∧ Below w6.heap.size w6 wx)
  case first =>
    go_region_held3 (fun w' => w'.cell? ⟨w.heap.size, 0, none⟩ = some (.slice Al l.length cl) ∧ w'.cell? ⟨Bl5, 0, none⟩ = some (.slice Al5 l.length cl5)) (simp [*, World.cell?_alloc_past, World.cell?_setCell_far])
      ((first | (go_at_call 34; refine (toLayout_any l Al _ _ _ (by exact RlH.out) (by first | omega | go_size | (simp only [World.size_alloc]; omega) | (simp; omega)) hkl).mono ?_; rintro e v16_1 ⟨Al9, cl9, rfl, ol9, c16_1⟩; have Ol9 := Lib.hid ol9; clear ol9; replace c16_1 : Below w6.heap.size w6 v16_1 := (by first | exact c16_1 | exact Below.trans (Below.drew (Below.refl _ _)) c16_1); have zz1 := c16_1.size; (try simp only [World.size_alloc, World.size_drew] at zz1); obtain ⟨hc1, hf1, hz1⟩ := bstep (Nat.le_refl _) c16_1; (try simp only [World.size_alloc, World.size_drew] at hc1 hf1 hz1); have hy0_1 : w.heap.size < v16_1.heap.size := (by omega); have hx0_1 : w.heap.size < v16_1.heap.size + 1 := (by omega); have hn0_1 : v16_1.heap.size ≠ w.heap.size := (by omega); have hy1_1 : w.heap.size + 1 < v16_1.heap.size := (by omega); have hx1_1 : w.heap.size + 1 < v16_1.heap.size + 1 := (by omega); have hn1_1 : v16_1.heap.size ≠ w.heap.size + 1 := (by omega); have hyl5_1 : Bl5 < v16_1.heap.size := (by omega); have hxl5_1 : Bl5 < v16_1.heap.size + 1 := (by omega); have hnl5_1 : v16_1.heap.size ≠ Bl5 := (by omega)) | (go_at_call 37; refine (eqLayout_same l Al5 Al9 _ _ _ _ (by exact ((Rl5H.out.below c16_1 (by first | omega | go_size | (simp only [World.size_alloc]; omega) | (simp; omega)))).more (by first | omega | go_size | (simp only [World.size_alloc]; omega) | (simp; omega))) (by exact ((Rd.of_own Ol9.out)).more (by first | omega | go_size | (simp only [World.size_alloc]; omega) | (simp; omega))) (Nat.le_refl _) hkl).mono ?_; rintro e v16_2 ⟨rfl, c16_2⟩; replace c16_2 : Below v16_1.heap.size v16_1 v16_2 := (by first | exact c16_2 | exact Below.trans (Below.drew (Below.refl _ _)) c16_2); have zz2 := c16_2.size; (try simp only [World.size_alloc, World.size_drew] at zz2); obtain ⟨hc2, hf2, hz2⟩ := bstep (Nat.le_refl _) c16_2; (try simp only [World.size_alloc, World.size_drew] at hc2 hf2 hz2); have hy0_2 : w.heap.size < v16_2.heap.size := (by omega); have hx0_2 : w.heap.size < v16_2.heap.size + 1 := (by omega); have hn0_2 : v16_2.heap.size ≠ w.heap.size := (by omega); have hy1_2 : w.heap.size + 1 < v16_2.heap.size := (by omega); have hx1_2 : w.heap.size + 1 < v16_2.heap.size + 1 := (by omega); have hn1_2 : v16_2.heap.size ≠ w.heap.size + 1 := (by omega); have hyl5_2 : Bl5 < v16_2.heap.size := (by omega); have hxl5_2 : Bl5 < v16_2.heap.size + 1 := (by omega); have hnl5_2 : v16_2.heap.size ≠ Bl5 := (by omega))))
    all_goals (go_wp2_with fail; go_meet; refine ⟨rfl, by repeat' (first | (with_reducible exact Below.refl _ _) | (with_reducible assumption) | (with_reducible refine Below.alloc ?_ ?_ _) | (with_reducible refine Below.drew ?_) | (with_reducible refine below_drewN ?_ _) | (with_reducible refine Below.setCell ?_ ?_ _) | (with_reducible refine Below.trans ?_ (Below.mono (by assumption) ?_)) | go_size | (exact Below.size (by assumption)))⟩)
  case rest =>
  obtain ⟨rfl, b7⟩ := hcut
  obtain ⟨w7, hw7⟩ : ∃ x, x = wc := ⟨_, rfl⟩
  subst hw7
  have Rfs := RfsH.out; clear RfsH
  have Ron := RonH.out; clear RonH
  have Rl := RlH.out; clear RlH
  have Rl5 := Rl5H.out; clear Rl5H
  have Ol5 := Ol5H.out; clear Ol5H
  have Rfs6 := Rfs6H.out; clear Rfs6H
  have Ofs6 := Ofs6H.out; clear Ofs6H
  have Ron7 := Ron7H.out; clear Ron7H
  have Oon7 := Oon7H.out; clear Oon7H
  have z7 := b7.size
  replace C0_0 := (b7.cell (p := ⟨w.heap.size, 0, none⟩) y0).trans C0_0
  replace C1_0 := (b7.cell (p := ⟨w.heap.size + 1, 0, none⟩) y1).trans C1_0
  replace C1_1 := (b7.cell (p := ⟨w.heap.size + 1, 1, none⟩) y1).trans C1_1
  replace Rfs := Rfs.below b7 (by omega)
  replace Ron := Ron.below b7 (by omega)
  replace Rl := Rl.below b7 (by omega)
  replace Cl5_0 := (b7.cell (p := ⟨Bl5, 0, none⟩) yl5).trans Cl5_0
  replace Rl5 := Rl5.below b7 (by omega)
  replace Ol5 := own_below Ol5 b7
  replace Rfs6 := Rfs6.below b7 (by omega)
  replace Ofs6 := own_below Ofs6 b7
  replace Ron7 := Ron7.below b7 (by omega)
  replace Oon7 := own_below Oon7 b7
  replace y0 : w.heap.size < w7.heap.size := by omega
  replace y1 : w.heap.size + 1 < w7.heap.size := by omega
  replace yl5 : Bl5 < w7.heap.size := by omega
  replace b0 := b0.trans (b7.mono (by omega))
  go_wp2_with fail
  refine (toInt64S_any fs Afs _ _ _ (by exact Rfs) (by first | omega | go_size | (simp only [World.size_alloc]; omega) | (simp; omega)) hkfs).mono ?_; rintro e w8 ⟨Afs10, cfs10, rfl, Ofs10, b8⟩
  have z8 := b8.size
  replace C0_0 := (b8.cell (p := ⟨w.heap.size, 0, none⟩) y0).trans C0_0
  replace C1_0 := (b8.cell (p := ⟨w.heap.size + 1, 0, none⟩) y1).trans C1_0
  replace C1_1 := (b8.cell (p := ⟨w.heap.size + 1, 1, none⟩) y1).trans C1_1
  replace Rfs := Rfs.below b8 (by omega)
  replace Ron := Ron.below b8 (by omega)
  replace Rl := Rl.below b8 (by omega)
  replace Cl5_0 := (b8.cell (p := ⟨Bl5, 0, none⟩) yl5).trans Cl5_0
  replace Rl5 := Rl5.below b8 (by omega)
  replace Ol5 := own_below Ol5 b8
  replace Rfs6 := Rfs6.below b8 (by omega)
  replace Ofs6 := own_below Ofs6 b8
  replace Ron7 := Ron7.below b8 (by omega)
  replace Oon7 := own_below Oon7 b8
  replace y0 : w.heap.size < w8.heap.size := by omega
  replace y1 : w.heap.size + 1 < w8.heap.size := by omega
  replace yl5 : Bl5 < w8.heap.size := by omega
  replace b0 := b0.trans (b8.mono (by omega))
  have Lfs10 := own_lt Ofs10
  have Rfs10 := Rd.of_own Ofs10
  go_wp2_with fail
  refine (eqInt64S_same fs Afs6 Afs10 _ _ _ _ (Rfs6.more (by omega)) (Rfs10.more (by omega)) (Nat.le_refl _) hkfs).mono ?_; rintro e w9 ⟨rfl, b9⟩
  have z9 := b9.size
  replace C0_0 := (b9.cell (p := ⟨w.heap.size, 0, none⟩) y0).trans C0_0
  replace C1_0 := (b9.cell (p := ⟨w.heap.size + 1, 0, none⟩) y1).trans C1_0
  replace C1_1 := (b9.cell (p := ⟨w.heap.size + 1, 1, none⟩) y1).trans C1_1
  replace Rfs := Rfs.below b9 (by omega)
  replace Ron := Ron.below b9 (by omega)
  replace Rl := Rl.below b9 (by omega)
  replace Cl5_0 := (b9.cell (p := ⟨Bl5, 0, none⟩) yl5).trans Cl5_0
  replace Rl5 := Rl5.below b9 (by omega)
  replace Ol5 := own_below Ol5 b9
  replace Rfs6 := Rfs6.below b9 (by omega)
  replace Ofs6 := own_below Ofs6 b9
  replace Ron7 := Ron7.below b9 (by omega)
  replace Oon7 := own_below Oon7 b9
  replace Rfs10 := Rfs10.below b9 (by omega)
  replace Ofs10 := own_below Ofs10 b9
  replace y0 : w.heap.size < w9.heap.size := by omega
  replace y1 : w.heap.size + 1 < w9.heap.size := by omega
  replace yl5 : Bl5 < w9.heap.size := by omega
  replace b0 := b0.trans (b9.mono (by omega))
  clear Rfs10
  clear Ofs10
  go_wp2_with fail
  refine (toInt64S_any on Aon _ _ _ (by exact Ron) (by first | omega | go_size | (simp only [World.size_alloc]; omega) | (simp; omega)) hkon).mono ?_; rintro e w10 ⟨Aon11, con11, rfl, Oon11, b10⟩
  have z10 := b10.size
  replace C0_0 := (b10.cell (p := ⟨w.heap.size, 0, none⟩) y0).trans C0_0
  replace C1_0 := (b10.cell (p := ⟨w.heap.size + 1, 0, none⟩) y1).trans C1_0
  replace C1_1 := (b10.cell (p := ⟨w.heap.size + 1, 1, none⟩) y1).trans C1_1
  replace Rfs := Rfs.below b10 (by omega)
  replace Ron := Ron.below b10 (by omega)
  replace Rl := Rl.below b10 (by omega)
  replace Cl5_0 := (b10.cell (p := ⟨Bl5, 0, none⟩) yl5).trans Cl5_0
  replace Rl5 := Rl5.below b10 (by omega)
  replace Ol5 := own_below Ol5 b10
  replace Rfs6 := Rfs6.below b10 (by omega)
  replace Ofs6 := own_below Ofs6 b10
  replace Ron7 := Ron7.below b10 (by omega)
  replace Oon7 := own_below Oon7 b10
  replace y0 : w.heap.size < w10.heap.size := by omega
  replace y1 : w.heap.size + 1 < w10.heap.size := by omega
  replace yl5 : Bl5 < w10.heap.size := by omega
  replace b0 := b0.trans (b10.mono (by omega))
  have Lon11 := own_lt Oon11
  have Ron11 := Rd.of_own Oon11
  go_wp2_with fail
  refine (eqInt64S_same on Aon7 Aon11 _ _ _ _ (Ron7.more (by omega)) (Ron11.more (by omega)) (Nat.le_refl _) hkon).mono ?_; rintro e w11 ⟨rfl, b11⟩
  have z11 := b11.size
  replace C0_0 := (b11.cell (p := ⟨w.heap.size, 0, none⟩) y0).trans C0_0
  replace C1_0 := (b11.cell (p := ⟨w.heap.size + 1, 0, none⟩) y1).trans C1_0
  replace C1_1 := (b11.cell (p := ⟨w.heap.size + 1, 1, none⟩) y1).trans C1_1
  replace Rfs := Rfs.below b11 (by omega)
  replace Ron := Ron.below b11 (by omega)
  replace Rl := Rl.below b11 (by omega)
  replace Cl5_0 := (b11.cell (p := ⟨Bl5, 0, none⟩) yl5).trans Cl5_0
  replace Rl5 := Rl5.below b11 (by omega)
  replace Ol5 := own_below Ol5 b11
  replace Rfs6 := Rfs6.below b11 (by omega)
  replace Ofs6 := own_below Ofs6 b11
  replace Ron7 := Ron7.below b11 (by omega)
  replace Oon7 := own_below Oon7 b11
  replace Ron11 := Ron11.below b11 (by omega)
  replace Oon11 := own_below Oon11 b11
  replace y0 : w.heap.size < w11.heap.size := by omega
  replace y1 : w.heap.size + 1 < w11.heap.size := by omega
  replace yl5 : Bl5 < w11.heap.size := by omega
  replace b0 := b0.trans (b11.mono (by omega))
  clear Ron11
  clear Oon11
  go_wp2
  go_ret
  exact ⟨rfl, by repeat' (first | (with_reducible exact Below.refl _ _) | (with_reducible assumption) | (with_reducible refine Below.alloc ?_ ?_ _) | (with_reducible refine Below.drew ?_) | (with_reducible refine below_drewN ?_ _) | (with_reducible refine Below.setCell ?_ ?_ _) | (with_reducible refine Below.trans ?_ (Below.mono (by assumption) ?_)) | go_size | (exact Below.size (by assumption)))⟩
end Go.Proofs.Ytooifamckccadaa
