/- The law on PeakEnergy. -/
import Derived.Test.YtooifamckccadaaTp
import Derived.Test.YtooifamckccadaaLy2
import Derived.Test.YtooifamckccadaaLf
import Derived.Deep.DeepCutAuto
import Derived.Deep.RegionHeld3
import Derived.Test.YtooifamckccadaaPk
namespace Go.Proofs.Ytooifamckccadaa
open Go.ChangeShapes Go.WideShapes Go.ChangeAt Go.RowKit
set_option linter.unusedVariables false
set_option linter.unusedSimpArgs false
set_option maxRecDepth 20000
set_option maxHeartbeats 4000000 in
theorem walkFnExactPeakEnergy (l : List Seg) (Al : Option Addr) (cl : Nat) (f : Int) (n : Int) (e1 e2 : Int) (on : List Int) (Aon : Option Addr) (con : Nat) (w : World) (Rl : Rd w w.heap.size Al (l.flatMap eSegment)) (hlcl : l.length ≤ cl) (hml : cl ≤ maxLen) (Ron : Rd w w.heap.size Aon (ints on)) (hlcon : on.length ≤ con) (hmon : con ≤ maxLen) :
   Calls Try.prog 9 #[.agg #[.slice Al l.length cl], .int .i64 f, .int .i64 n, .agg #[.int .i64 e1, .int .i64 e2], .slice Aon on.length con] w fun e w' => e = .returned (.bool true) ∧ Below w.heap.size w w' := by
  unfold maxLen at hmon
  unfold maxLen at hml
  by_cases hnon : (on.length : Int) ≤ 1048576
  rotate_left
  · go_enter Try.func9, Try.ntmps9
    go_wp2
    go_ret
    exact ⟨rfl, by repeat' (first | (with_reducible exact Below.refl _ _) | (with_reducible assumption) | (with_reducible refine Below.alloc ?_ ?_ _) | (with_reducible refine Below.drew ?_) | (with_reducible refine below_drewN ?_ _) | (with_reducible refine Below.setCell ?_ ?_ _) | (with_reducible refine Below.trans ?_ (Below.mono (by assumption) ?_)) | go_size | (exact Below.size (by assumption)))⟩
  by_cases hnl : (l.length : Int) ≤ 1048576
  rotate_left
  · go_enter Try.func9, Try.ntmps9
    go_wp2_with (go_at_call 32; refine (szLayout_great _ _ _ _ (by omega) (by omega) (by omega) (by omega) _).mono ?_; rintro e w' ⟨rfl, b1⟩)
    go_ret
    exact ⟨rfl, by repeat' (first | (with_reducible exact Below.refl _ _) | (with_reducible assumption) | (with_reducible refine Below.alloc ?_ ?_ _) | (with_reducible refine Below.drew ?_) | (with_reducible refine below_drewN ?_ _) | (with_reducible refine Below.setCell ?_ ?_ _) | (with_reducible refine Below.trans ?_ (Below.mono (by assumption) ?_)) | go_size | (exact Below.size (by assumption)))⟩
  have hkon : on.length ≤ 1048576 := by omega
  have hkl : l.length ≤ 1048576 := by omega
  have C0_0 : ((w.alloc (.cells #[.slice Al l.length cl] 50)).alloc (.cells #[.int .i64 e1, .int .i64 e2] 40)).cell? ⟨w.heap.size, 0, none⟩ = some (.slice Al l.length cl) := by first | go_cell | simp
  have C1_0 : ((w.alloc (.cells #[.slice Al l.length cl] 50)).alloc (.cells #[.int .i64 e1, .int .i64 e2] 40)).cell? ⟨w.heap.size + 1, 0, none⟩ = some (.int .i64 e1) := by first | go_cell | simp
  have C1_1 : ((w.alloc (.cells #[.slice Al l.length cl] 50)).alloc (.cells #[.int .i64 e1, .int .i64 e2] 40)).cell? ⟨w.heap.size + 1, 1, none⟩ = some (.int .i64 e2) := by first | go_cell | simp
  have b0 : Below w.heap.size w ((w.alloc (.cells #[.slice Al l.length cl] 50)).alloc (.cells #[.int .i64 e1, .int .i64 e2] 40)) := by repeat' (first | (with_reducible exact Below.refl _ _) | (with_reducible assumption) | (with_reducible refine Below.alloc ?_ ?_ _) | (with_reducible refine Below.drew ?_) | (with_reducible refine below_drewN ?_ _) | (with_reducible refine Below.setCell ?_ ?_ _) | (with_reducible refine Below.trans ?_ (Below.mono (by assumption) ?_)) | go_size | (exact Below.size (by assumption)))
  have z0 : w.heap.size + 2 ≤ ((w.alloc (.cells #[.slice Al l.length cl] 50)).alloc (.cells #[.int .i64 e1, .int .i64 e2] 40)).heap.size := by simp
  replace Ron := Ron.below b0 (Nat.le_refl _)
  replace Rl := Rl.below b0 (Nat.le_refl _)
  go_enter Try.func9, Try.ntmps9
  go_wp2_with fail
  generalize ((w.alloc (.cells #[.slice Al l.length cl] 50)).alloc (.cells #[.int .i64 e1, .int .i64 e2] 40)) = w0 at *
  have y0 : w.heap.size < w0.heap.size := by omega
  have y1 : w.heap.size + 1 < w0.heap.size := by omega
  refine (szLayout_small _ _ _ _ (by omega) (by omega) _).mono ?_; rintro e w1 ⟨rfl, b1⟩
  have z1 := b1.size
  replace C0_0 := (b1.cell (p := ⟨w.heap.size, 0, none⟩) y0).trans C0_0
  replace C1_0 := (b1.cell (p := ⟨w.heap.size + 1, 0, none⟩) y1).trans C1_0
  replace C1_1 := (b1.cell (p := ⟨w.heap.size + 1, 1, none⟩) y1).trans C1_1
  replace Ron := Ron.below b1 (by omega)
  replace Rl := Rl.below b1 (by omega)
  replace y0 : w.heap.size < w1.heap.size := by omega
  replace y1 : w.heap.size + 1 < w1.heap.size := by omega
  replace b0 := b0.trans (b1.mono (by omega))
  have RonH := Lib.hid Ron; clear Ron
  have RlH := Lib.hid Rl; clear Rl
  go_wp2_with fail
  go_cut [12, 13] (fun s12 s13 wx => s12 = .int .i64 (pkV l on f n e1 e2) ∧ s13 = .int .i64 (alC l on f n e1 e2) ∧ Below w1.heap.size w1 wx)
  case first =>
    go_region_held3 (fun w' => w'.cell? ⟨w.heap.size, 0, none⟩ = some (.slice Al l.length cl) ∧ w'.cell? ⟨w.heap.size + 1, 0, none⟩ = some (.int .i64 e1) ∧ w'.cell? ⟨w.heap.size + 1, 1, none⟩ = some (.int .i64 e2)) (simp [*, World.cell?_alloc_past, World.cell?_setCell_far])
      ((first | (go_at_call 34; refine (toLayout_any l Al _ _ _ (by exact RlH.out) (by first | omega | go_size | (simp only [World.size_alloc]; omega) | (simp; omega)) hkl).mono ?_; rintro e v7_1 ⟨Al1, cl1, rfl, ol1, c7_1⟩; have Ol1 := Lib.hid ol1; clear ol1; replace c7_1 : Below w1.heap.size w1 v7_1 := (by first | exact c7_1 | exact Below.trans (Below.drew (Below.refl _ _)) c7_1); have zz1 := c7_1.size; (try simp only [World.size_alloc, World.size_drew] at zz1); obtain ⟨hc1, hf1, hz1⟩ := bstep (Nat.le_refl _) c7_1; (try simp only [World.size_alloc, World.size_drew] at hc1 hf1 hz1); have hy0_1 : w.heap.size < v7_1.heap.size := (by omega); have hx0_1 : w.heap.size < v7_1.heap.size + 1 := (by omega); have hn0_1 : v7_1.heap.size ≠ w.heap.size := (by omega); have hy1_1 : w.heap.size + 1 < v7_1.heap.size := (by omega); have hx1_1 : w.heap.size + 1 < v7_1.heap.size + 1 := (by omega); have hn1_1 : v7_1.heap.size ≠ w.heap.size + 1 := (by omega)) | (go_at_call 29; refine (toInterval_any e1 e2 _).mono ?_; rintro e v7_2 ⟨rfl, c7_2⟩; replace c7_2 : Below v7_1.heap.size v7_1 v7_2 := (by first | exact c7_2 | exact Below.trans (Below.drew (Below.refl _ _)) c7_2); have zz2 := c7_2.size; (try simp only [World.size_alloc, World.size_drew] at zz2); obtain ⟨hc2, hf2, hz2⟩ := bstep (Nat.le_refl _) c7_2; (try simp only [World.size_alloc, World.size_drew] at hc2 hf2 hz2); have hy0_2 : w.heap.size < v7_2.heap.size := (by omega); have hx0_2 : w.heap.size < v7_2.heap.size + 1 := (by omega); have hn0_2 : v7_2.heap.size ≠ w.heap.size := (by omega); have hy1_2 : w.heap.size + 1 < v7_2.heap.size := (by omega); have hx1_2 : w.heap.size + 1 < v7_2.heap.size + 1 := (by omega); have hn1_2 : v7_2.heap.size ≠ w.heap.size + 1 := (by omega)) | (go_at_call 49; refine (toInt64S_any on Aon _ _ _ (by exact ((RonH.out.below c7_1 (by first | omega | go_size | (simp only [World.size_alloc]; omega) | (simp; omega))).below c7_2 (by first | omega | go_size | (simp only [World.size_alloc]; omega) | (simp; omega)))) (by first | omega | go_size | (simp only [World.size_alloc]; omega) | (simp; omega)) hkon).mono ?_; rintro e v7_3 ⟨Aon2, con2, rfl, oon2, c7_3⟩; have Oon2 := Lib.hid oon2; clear oon2; replace c7_3 : Below v7_2.heap.size v7_2 v7_3 := (by first | exact c7_3 | exact Below.trans (Below.drew (Below.refl _ _)) c7_3); have zz3 := c7_3.size; (try simp only [World.size_alloc, World.size_drew] at zz3); obtain ⟨hc3, hf3, hz3⟩ := bstep (Nat.le_refl _) c7_3; (try simp only [World.size_alloc, World.size_drew] at hc3 hf3 hz3); have hy0_3 : w.heap.size < v7_3.heap.size := (by omega); have hx0_3 : w.heap.size < v7_3.heap.size + 1 := (by omega); have hn0_3 : v7_3.heap.size ≠ w.heap.size := (by omega); have hy1_3 : w.heap.size + 1 < v7_3.heap.size := (by omega); have hx1_3 : w.heap.size + 1 < v7_3.heap.size + 1 := (by omega); have hn1_3 : v7_3.heap.size ≠ w.heap.size + 1 := (by omega)) | (go_at_call 51; refine (peak_spec l on f n e1 e2 Al1 _ cl1 Aon2 con2 _ (by exact ((Rd.of_own (own_below (own_below Ol1.out c7_2) c7_3))).more (by first | omega | go_size | (simp only [World.size_alloc]; omega) | (simp; omega))) (by exact ((Rd.of_own Oon2.out)).more (by first | omega | go_size | (simp only [World.size_alloc]; omega) | (simp; omega))) (Nat.le_refl _) hkl hkon).mono ?_; rintro e v7_4 ⟨rfl, c7_4⟩; replace c7_4 : Below v7_3.heap.size v7_3 v7_4 := (by first | exact c7_4 | exact Below.trans (Below.drew (Below.refl _ _)) c7_4); have zz4 := c7_4.size; (try simp only [World.size_alloc, World.size_drew] at zz4); obtain ⟨hc4, hf4, hz4⟩ := bstep (Nat.le_refl _) c7_4; (try simp only [World.size_alloc, World.size_drew] at hc4 hf4 hz4); have hy0_4 : w.heap.size < v7_4.heap.size := (by omega); have hx0_4 : w.heap.size < v7_4.heap.size + 1 := (by omega); have hn0_4 : v7_4.heap.size ≠ w.heap.size := (by omega); have hy1_4 : w.heap.size + 1 < v7_4.heap.size := (by omega); have hx1_4 : w.heap.size + 1 < v7_4.heap.size + 1 := (by omega); have hn1_4 : v7_4.heap.size ≠ w.heap.size + 1 := (by omega))))
    all_goals (go_wp2_with fail; go_meet; refine ⟨rfl, rfl, by repeat' (first | (with_reducible exact Below.refl _ _) | (with_reducible assumption) | (with_reducible refine Below.alloc ?_ ?_ _) | (with_reducible refine Below.drew ?_) | (with_reducible refine below_drewN ?_ _) | (with_reducible refine Below.setCell ?_ ?_ _) | (with_reducible refine Below.trans ?_ (Below.mono (by assumption) ?_)) | go_size | (exact Below.size (by assumption)))⟩)
  case rest =>
  obtain ⟨rfl, rfl, b2⟩ := hcut
  obtain ⟨w2, hw2⟩ : ∃ x, x = wc := ⟨_, rfl⟩
  subst hw2
  have Ron := RonH.out; clear RonH
  have Rl := RlH.out; clear RlH
  have z2 := b2.size
  replace C0_0 := (b2.cell (p := ⟨w.heap.size, 0, none⟩) y0).trans C0_0
  replace C1_0 := (b2.cell (p := ⟨w.heap.size + 1, 0, none⟩) y1).trans C1_0
  replace C1_1 := (b2.cell (p := ⟨w.heap.size + 1, 1, none⟩) y1).trans C1_1
  replace Ron := Ron.below b2 (by omega)
  replace Rl := Rl.below b2 (by omega)
  replace y0 : w.heap.size < w2.heap.size := by omega
  replace y1 : w.heap.size + 1 < w2.heap.size := by omega
  replace b0 := b0.trans (b2.mono (by omega))
  go_upto_region 8 with fail
  go_cut [14] (fun s14 wx => ∃ (Al4 : Option Addr) (cl4 Bl4 : Nat), s14 = .pointer (some ⟨Bl4, 0, none⟩) ∧ w2.heap.size ≤ Bl4 ∧ Bl4 < wx.heap.size ∧ wx.cell? ⟨Bl4, 0, none⟩ = some (.slice Al4 l.length cl4) ∧ wx.ownsRow w2.heap.size 39 7 (.slice Al4 l.length cl4) l.length (l.flatMap eSegment) ∧ (∀ k, (Value.slice Al4 l.length cl4).ownBlock = some k → w2.heap.size ≤ k ∧ k < Bl4) ∧ Below w2.heap.size w2 wx)
  case first =>
    go_wp2_with fail
    refine (toLayout_any l Al _ _ _ (by exact Rl) (by first | omega | go_size | (simp only [World.size_alloc]; omega) | (simp; omega)) hkl).mono ?_; rintro e v ⟨Al4, cl4, rfl, o, bb⟩
    have L := own_lt o; have O := Lib.hid o; clear o; have zz := bb.size
    go_wp2_with fail
    go_meet; refine ⟨_, _, _, rfl, by go_size, by go_size, by go_cell, own_below O.out (by repeat' (first | (with_reducible exact Below.refl _ _) | (with_reducible assumption) | (with_reducible refine Below.alloc ?_ ?_ _) | (with_reducible refine Below.drew ?_) | (with_reducible refine below_drewN ?_ _) | (with_reducible refine Below.setCell ?_ ?_ _) | (with_reducible refine Below.trans ?_ (Below.mono (by assumption) ?_)) | go_size | (exact Below.size (by assumption)))), fun k hk => (by have := L k hk; omega), by repeat' (first | (with_reducible exact Below.refl _ _) | (with_reducible assumption) | (with_reducible refine Below.alloc ?_ ?_ _) | (with_reducible refine Below.drew ?_) | (with_reducible refine below_drewN ?_ _) | (with_reducible refine Below.setCell ?_ ?_ _) | (with_reducible refine Below.trans ?_ (Below.mono (by assumption) ?_)) | go_size | (exact Below.size (by assumption)))⟩
  case rest =>
  obtain ⟨Al4, cl4, Bl4, rfl, xl4, yl4, Cl4_0, Ol4, Ll4, b3⟩ := hcut
  obtain ⟨w3, hw3⟩ : ∃ x, x = wc := ⟨_, rfl⟩
  subst hw3
  have z3 := b3.size
  have kyl4 := yl4
  replace C0_0 := (b3.cell (p := ⟨w.heap.size, 0, none⟩) y0).trans C0_0
  replace C1_0 := (b3.cell (p := ⟨w.heap.size + 1, 0, none⟩) y1).trans C1_0
  replace C1_1 := (b3.cell (p := ⟨w.heap.size + 1, 1, none⟩) y1).trans C1_1
  replace Ron := Ron.below b3 (by omega)
  replace Rl := Rl.below b3 (by omega)
  replace y0 : w.heap.size < w3.heap.size := by omega
  replace y1 : w.heap.size + 1 < w3.heap.size := by omega
  replace b0 := b0.trans (b3.mono (by omega))
  have Rl4 := Rd.of_own Ol4
  go_wp2_with fail
  refine (toInt64S_any on Aon _ _ _ (by exact Ron) (by first | omega | go_size | (simp only [World.size_alloc]; omega) | (simp; omega)) hkon).mono ?_; rintro e w4 ⟨Aon5, con5, rfl, Oon5, b4⟩
  have z4 := b4.size
  replace C0_0 := (b4.cell (p := ⟨w.heap.size, 0, none⟩) y0).trans C0_0
  replace C1_0 := (b4.cell (p := ⟨w.heap.size + 1, 0, none⟩) y1).trans C1_0
  replace C1_1 := (b4.cell (p := ⟨w.heap.size + 1, 1, none⟩) y1).trans C1_1
  replace Ron := Ron.below b4 (by omega)
  replace Rl := Rl.below b4 (by omega)
  replace Cl4_0 := (b4.cell (p := ⟨Bl4, 0, none⟩) yl4).trans Cl4_0
  replace Rl4 := Rl4.below b4 (by omega)
  replace Ol4 := own_below Ol4 b4
  replace y0 : w.heap.size < w4.heap.size := by omega
  replace y1 : w.heap.size + 1 < w4.heap.size := by omega
  replace yl4 : Bl4 < w4.heap.size := by omega
  replace b0 := b0.trans (b4.mono (by omega))
  have Lon5 := own_lt Oon5
  have Ron5 := Rd.of_own Oon5
  have RonH := Lib.hid Ron; clear Ron
  have RlH := Lib.hid Rl; clear Rl
  have Rl4H := Lib.hid Rl4; clear Rl4
  have Ol4H := Lib.hid Ol4; clear Ol4
  have Ron5H := Lib.hid Ron5; clear Ron5
  have Oon5H := Lib.hid Oon5; clear Oon5
  go_wp2_with fail
  go_cut [16, 17] (fun s16 s17 wx => s16 = .int .i64 (pkV l on f n e1 e2) ∧ s17 = .int .i64 (alC l on f n e1 e2) ∧ Below w4.heap.size w4 wx)
  case first =>
    go_region_held3 (fun w' => w'.cell? ⟨w.heap.size + 1, 0, none⟩ = some (.int .i64 e1) ∧ w'.cell? ⟨w.heap.size + 1, 1, none⟩ = some (.int .i64 e2) ∧ w'.cell? ⟨Bl4, 0, none⟩ = some (.slice Al4 l.length cl4)) (simp [*, World.cell?_alloc_past, World.cell?_setCell_far])
      ((first | (go_at_call 29; refine (toInterval_any e1 e2 _).mono ?_; rintro e v10_1 ⟨rfl, c10_1⟩; replace c10_1 : Below w4.heap.size w4 v10_1 := (by first | exact c10_1 | exact Below.trans (Below.drew (Below.refl _ _)) c10_1); have zz1 := c10_1.size; (try simp only [World.size_alloc, World.size_drew] at zz1); obtain ⟨hc1, hf1, hz1⟩ := bstep (Nat.le_refl _) c10_1; (try simp only [World.size_alloc, World.size_drew] at hc1 hf1 hz1); have hy0_1 : w.heap.size < v10_1.heap.size := (by omega); have hx0_1 : w.heap.size < v10_1.heap.size + 1 := (by omega); have hn0_1 : v10_1.heap.size ≠ w.heap.size := (by omega); have hy1_1 : w.heap.size + 1 < v10_1.heap.size := (by omega); have hx1_1 : w.heap.size + 1 < v10_1.heap.size + 1 := (by omega); have hn1_1 : v10_1.heap.size ≠ w.heap.size + 1 := (by omega); have hyl4_1 : Bl4 < v10_1.heap.size := (by omega); have hxl4_1 : Bl4 < v10_1.heap.size + 1 := (by omega); have hnl4_1 : v10_1.heap.size ≠ Bl4 := (by omega)) | (go_at_call 52; refine (peak_impl l on f n e1 e2 Al4 _ cl4 Aon5 con5 _ (by exact ((Rl4H.out.below c10_1 (by first | omega | go_size | (simp only [World.size_alloc]; omega) | (simp; omega)))).more (by first | omega | go_size | (simp only [World.size_alloc]; omega) | (simp; omega))) (by exact ((Ron5H.out.below c10_1 (by first | omega | go_size | (simp only [World.size_alloc]; omega) | (simp; omega)))).more (by first | omega | go_size | (simp only [World.size_alloc]; omega) | (simp; omega))) (Nat.le_refl _) hkl hkon).mono ?_; rintro e v10_2 ⟨rfl, c10_2⟩; replace c10_2 : Below v10_1.heap.size v10_1 v10_2 := (by first | exact c10_2 | exact Below.trans (Below.drew (Below.refl _ _)) c10_2); have zz2 := c10_2.size; (try simp only [World.size_alloc, World.size_drew] at zz2); obtain ⟨hc2, hf2, hz2⟩ := bstep (Nat.le_refl _) c10_2; (try simp only [World.size_alloc, World.size_drew] at hc2 hf2 hz2); have hy0_2 : w.heap.size < v10_2.heap.size := (by omega); have hx0_2 : w.heap.size < v10_2.heap.size + 1 := (by omega); have hn0_2 : v10_2.heap.size ≠ w.heap.size := (by omega); have hy1_2 : w.heap.size + 1 < v10_2.heap.size := (by omega); have hx1_2 : w.heap.size + 1 < v10_2.heap.size + 1 := (by omega); have hn1_2 : v10_2.heap.size ≠ w.heap.size + 1 := (by omega); have hyl4_2 : Bl4 < v10_2.heap.size := (by omega); have hxl4_2 : Bl4 < v10_2.heap.size + 1 := (by omega); have hnl4_2 : v10_2.heap.size ≠ Bl4 := (by omega))))
    all_goals (go_wp2_with fail; go_meet; refine ⟨rfl, rfl, by repeat' (first | (with_reducible exact Below.refl _ _) | (with_reducible assumption) | (with_reducible refine Below.alloc ?_ ?_ _) | (with_reducible refine Below.drew ?_) | (with_reducible refine below_drewN ?_ _) | (with_reducible refine Below.setCell ?_ ?_ _) | (with_reducible refine Below.trans ?_ (Below.mono (by assumption) ?_)) | go_size | (exact Below.size (by assumption)))⟩)
  case rest =>
  obtain ⟨rfl, rfl, b5⟩ := hcut
  obtain ⟨w5, hw5⟩ : ∃ x, x = wc := ⟨_, rfl⟩
  subst hw5
  have Ron := RonH.out; clear RonH
  have Rl := RlH.out; clear RlH
  have Rl4 := Rl4H.out; clear Rl4H
  have Ol4 := Ol4H.out; clear Ol4H
  have Ron5 := Ron5H.out; clear Ron5H
  have Oon5 := Oon5H.out; clear Oon5H
  have z5 := b5.size
  replace C0_0 := (b5.cell (p := ⟨w.heap.size, 0, none⟩) y0).trans C0_0
  replace C1_0 := (b5.cell (p := ⟨w.heap.size + 1, 0, none⟩) y1).trans C1_0
  replace C1_1 := (b5.cell (p := ⟨w.heap.size + 1, 1, none⟩) y1).trans C1_1
  replace Ron := Ron.below b5 (by omega)
  replace Rl := Rl.below b5 (by omega)
  replace Cl4_0 := (b5.cell (p := ⟨Bl4, 0, none⟩) yl4).trans Cl4_0
  replace Rl4 := Rl4.below b5 (by omega)
  replace Ol4 := own_below Ol4 b5
  replace Ron5 := Ron5.below b5 (by omega)
  replace Oon5 := own_below Oon5 b5
  replace y0 : w.heap.size < w5.heap.size := by omega
  replace y1 : w.heap.size + 1 < w5.heap.size := by omega
  replace yl4 : Bl4 < w5.heap.size := by omega
  replace b0 := b0.trans (b5.mono (by omega))
  have RonH := Lib.hid Ron; clear Ron
  have RlH := Lib.hid Rl; clear Rl
  have Rl4H := Lib.hid Rl4; clear Rl4
  have Ol4H := Lib.hid Ol4; clear Ol4
  have Ron5H := Lib.hid Ron5; clear Ron5
  have Oon5H := Lib.hid Oon5; clear Oon5
  go_wp2_with fail
  go_cut [64] (fun s64 wx => s64 = .bool false ∧ Below w5.heap.size w5 wx)
  case first =>
    go_region_held3 (fun w' => w'.cell? ⟨w.heap.size, 0, none⟩ = some (.slice Al l.length cl) ∧ w'.cell? ⟨Bl4, 0, none⟩ = some (.slice Al4 l.length cl4)) (simp [*, World.cell?_alloc_past, World.cell?_setCell_far])
      ((first | (go_at_call 34; refine (toLayout_any l Al _ _ _ (by exact RlH.out) (by first | omega | go_size | (simp only [World.size_alloc]; omega) | (simp; omega)) hkl).mono ?_; rintro e v13_1 ⟨Al7, cl7, rfl, ol7, c13_1⟩; have Ol7 := Lib.hid ol7; clear ol7; replace c13_1 : Below w5.heap.size w5 v13_1 := (by first | exact c13_1 | exact Below.trans (Below.drew (Below.refl _ _)) c13_1); have zz1 := c13_1.size; (try simp only [World.size_alloc, World.size_drew] at zz1); obtain ⟨hc1, hf1, hz1⟩ := bstep (Nat.le_refl _) c13_1; (try simp only [World.size_alloc, World.size_drew] at hc1 hf1 hz1); have hy0_1 : w.heap.size < v13_1.heap.size := (by omega); have hx0_1 : w.heap.size < v13_1.heap.size + 1 := (by omega); have hn0_1 : v13_1.heap.size ≠ w.heap.size := (by omega); have hy1_1 : w.heap.size + 1 < v13_1.heap.size := (by omega); have hx1_1 : w.heap.size + 1 < v13_1.heap.size + 1 := (by omega); have hn1_1 : v13_1.heap.size ≠ w.heap.size + 1 := (by omega); have hyl4_1 : Bl4 < v13_1.heap.size := (by omega); have hxl4_1 : Bl4 < v13_1.heap.size + 1 := (by omega); have hnl4_1 : v13_1.heap.size ≠ Bl4 := (by omega)) | (go_at_call 37; refine (eqLayout_same l Al4 Al7 _ _ _ _ (by exact ((Rl4H.out.below c13_1 (by first | omega | go_size | (simp only [World.size_alloc]; omega) | (simp; omega)))).more (by first | omega | go_size | (simp only [World.size_alloc]; omega) | (simp; omega))) (by exact ((Rd.of_own Ol7.out)).more (by first | omega | go_size | (simp only [World.size_alloc]; omega) | (simp; omega))) (Nat.le_refl _) hkl).mono ?_; rintro e v13_2 ⟨rfl, c13_2⟩; replace c13_2 : Below v13_1.heap.size v13_1 v13_2 := (by first | exact c13_2 | exact Below.trans (Below.drew (Below.refl _ _)) c13_2); have zz2 := c13_2.size; (try simp only [World.size_alloc, World.size_drew] at zz2); obtain ⟨hc2, hf2, hz2⟩ := bstep (Nat.le_refl _) c13_2; (try simp only [World.size_alloc, World.size_drew] at hc2 hf2 hz2); have hy0_2 : w.heap.size < v13_2.heap.size := (by omega); have hx0_2 : w.heap.size < v13_2.heap.size + 1 := (by omega); have hn0_2 : v13_2.heap.size ≠ w.heap.size := (by omega); have hy1_2 : w.heap.size + 1 < v13_2.heap.size := (by omega); have hx1_2 : w.heap.size + 1 < v13_2.heap.size + 1 := (by omega); have hn1_2 : v13_2.heap.size ≠ w.heap.size + 1 := (by omega); have hyl4_2 : Bl4 < v13_2.heap.size := (by omega); have hxl4_2 : Bl4 < v13_2.heap.size + 1 := (by omega); have hnl4_2 : v13_2.heap.size ≠ Bl4 := (by omega))))
    all_goals (go_wp2_with fail; go_meet; refine ⟨rfl, by repeat' (first | (with_reducible exact Below.refl _ _) | (with_reducible assumption) | (with_reducible refine Below.alloc ?_ ?_ _) | (with_reducible refine Below.drew ?_) | (with_reducible refine below_drewN ?_ _) | (with_reducible refine Below.setCell ?_ ?_ _) | (with_reducible refine Below.trans ?_ (Below.mono (by assumption) ?_)) | go_size | (exact Below.size (by assumption)))⟩)
  case rest =>
  obtain ⟨rfl, b6⟩ := hcut
  obtain ⟨w6, hw6⟩ : ∃ x, x = wc := ⟨_, rfl⟩
  subst hw6
  have Ron := RonH.out; clear RonH
  have Rl := RlH.out; clear RlH
  have Rl4 := Rl4H.out; clear Rl4H
  have Ol4 := Ol4H.out; clear Ol4H
  have Ron5 := Ron5H.out; clear Ron5H
  have Oon5 := Oon5H.out; clear Oon5H
  have z6 := b6.size
  replace C0_0 := (b6.cell (p := ⟨w.heap.size, 0, none⟩) y0).trans C0_0
  replace C1_0 := (b6.cell (p := ⟨w.heap.size + 1, 0, none⟩) y1).trans C1_0
  replace C1_1 := (b6.cell (p := ⟨w.heap.size + 1, 1, none⟩) y1).trans C1_1
  replace Ron := Ron.below b6 (by omega)
  replace Rl := Rl.below b6 (by omega)
  replace Cl4_0 := (b6.cell (p := ⟨Bl4, 0, none⟩) yl4).trans Cl4_0
  replace Rl4 := Rl4.below b6 (by omega)
  replace Ol4 := own_below Ol4 b6
  replace Ron5 := Ron5.below b6 (by omega)
  replace Oon5 := own_below Oon5 b6
  replace y0 : w.heap.size < w6.heap.size := by omega
  replace y1 : w.heap.size + 1 < w6.heap.size := by omega
  replace yl4 : Bl4 < w6.heap.size := by omega
  replace b0 := b0.trans (b6.mono (by omega))
  go_wp2_with fail
  refine (toInt64S_any on Aon _ _ _ (by exact Ron) (by first | omega | go_size | (simp only [World.size_alloc]; omega) | (simp; omega)) hkon).mono ?_; rintro e w7 ⟨Aon8, con8, rfl, Oon8, b7⟩
  have z7 := b7.size
  replace C0_0 := (b7.cell (p := ⟨w.heap.size, 0, none⟩) y0).trans C0_0
  replace C1_0 := (b7.cell (p := ⟨w.heap.size + 1, 0, none⟩) y1).trans C1_0
  replace C1_1 := (b7.cell (p := ⟨w.heap.size + 1, 1, none⟩) y1).trans C1_1
  replace Ron := Ron.below b7 (by omega)
  replace Rl := Rl.below b7 (by omega)
  replace Cl4_0 := (b7.cell (p := ⟨Bl4, 0, none⟩) yl4).trans Cl4_0
  replace Rl4 := Rl4.below b7 (by omega)
  replace Ol4 := own_below Ol4 b7
  replace Ron5 := Ron5.below b7 (by omega)
  replace Oon5 := own_below Oon5 b7
  replace y0 : w.heap.size < w7.heap.size := by omega
  replace y1 : w.heap.size + 1 < w7.heap.size := by omega
  replace yl4 : Bl4 < w7.heap.size := by omega
  replace b0 := b0.trans (b7.mono (by omega))
  have Lon8 := own_lt Oon8
  have Ron8 := Rd.of_own Oon8
  go_wp2_with fail
  refine (eqInt64S_same on Aon5 Aon8 _ _ _ _ (Ron5.more (by omega)) (Ron8.more (by omega)) (Nat.le_refl _) hkon).mono ?_; rintro e w8 ⟨rfl, b8⟩
  have z8 := b8.size
  replace C0_0 := (b8.cell (p := ⟨w.heap.size, 0, none⟩) y0).trans C0_0
  replace C1_0 := (b8.cell (p := ⟨w.heap.size + 1, 0, none⟩) y1).trans C1_0
  replace C1_1 := (b8.cell (p := ⟨w.heap.size + 1, 1, none⟩) y1).trans C1_1
  replace Ron := Ron.below b8 (by omega)
  replace Rl := Rl.below b8 (by omega)
  replace Cl4_0 := (b8.cell (p := ⟨Bl4, 0, none⟩) yl4).trans Cl4_0
  replace Rl4 := Rl4.below b8 (by omega)
  replace Ol4 := own_below Ol4 b8
  replace Ron5 := Ron5.below b8 (by omega)
  replace Oon5 := own_below Oon5 b8
  replace Ron8 := Ron8.below b8 (by omega)
  replace Oon8 := own_below Oon8 b8
  replace y0 : w.heap.size < w8.heap.size := by omega
  replace y1 : w.heap.size + 1 < w8.heap.size := by omega
  replace yl4 : Bl4 < w8.heap.size := by omega
  replace b0 := b0.trans (b8.mono (by omega))
  clear Ron8
  clear Oon8
  go_wp2
  go_ret
  exact ⟨rfl, by repeat' (first | (with_reducible exact Below.refl _ _) | (with_reducible assumption) | (with_reducible refine Below.alloc ?_ ?_ _) | (with_reducible refine Below.drew ?_) | (with_reducible refine below_drewN ?_ _) | (with_reducible refine Below.setCell ?_ ?_ _) | (with_reducible refine Below.trans ?_ (Below.mono (by assumption) ?_)) | go_size | (exact Below.size (by assumption)))⟩
end Go.Proofs.Ytooifamckccadaa
