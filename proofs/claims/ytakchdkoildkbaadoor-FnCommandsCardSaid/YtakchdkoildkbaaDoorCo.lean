/- The law on commands: the verdict, the mode behind, and the stop. -/
import Derived.Test.YtakchdkoildkbaaDoorCd
import Derived.Deep.RegionWith
import Derived.Deep.RegionHeld3
namespace Go.Proofs.YtakchdkoildkbaaDoor
open Go.ChangeShapes Go.WideShapes Go.ChangeAt Go.RowKit
set_option maxRecDepth 20000
set_option linter.unusedVariables false
set_option linter.unusedSimpArgs false
theorem cmd_role {a r : Int} (h : cmdB a r = true) : 0 ≤ r := by
  unfold cmdB inB at h
  simp only [Bool.and_eq_true, decide_eq_true_eq] at h
  omega
theorem cmd_law (k : Nat) (hk : k < 10) (m r : Int) (b : Bool) (hr : 0 ≤ r) (h0 : 0 ≤ m) (h5 : m ≤ 5) :
    ((verd k m r b == 0) = true ∨ ((verd k m r b == 0) = false ∧ (nextK k m r b == m) = true)) ∧ (((m == 0) = true ∧ (nextK 3 m r b == m) = true) ∨ ((m == 0) = false ∧ (nextK 3 m r b == 4) = true)) := by
  constructor
  · by_cases h : verd k m r b = 0
    · left; simp [h]
    · right; simp [nextK, h]
  · rcases m_cases h0 h5 with rfl | rfl | rfl | rfl | rfl | rfl <;> simp [nextK, verd, fromK, leastK, keyK, toK] <;> omega
set_option maxHeartbeats 2000000 in
theorem walkFnCommands (bl : List Int) (hbl : isU8 bl) (C : Option Addr) (cap : Nat) (w : World) (hr : Rd w w.heap.size C (bytesU bl)) (hlc : bl.length ≤ cap) (hm : cap ≤ maxLen) (T : Rd w w.heap.size (some ⟨0, 0, none⟩) tabL) :
   Calls Tryd.prog 4 #[.slice C bl.length cap] w fun e w' => e = .returned (.bool true) ∧ Below w.heap.size w w' := by
  unfold maxLen at hm
  by_cases hn : bl.length ≤ 4096
  rotate_left
  · have hd : decide ((4096 : Int) < (bl.length : Int)) = true := by simp; omega
    clear T hr
    go_enter Tryd.func4, Tryd.ntmps4
    go_wp2_with (go_at_call 13; refine (big_any _ _ _ _ (by omega)).mono ?_; rintro e w' ⟨rfl, rfl⟩)
    go_ret
    exact ⟨rfl, Below.refl _ _⟩
  have hd : decide ((4096 : Int) < (bl.length : Int)) = false := by simp; omega
  have HT := Lib.hid T
  clear T
  go_enter Tryd.func4, Tryd.ntmps4
  go_wp2_with fail
  refine (big_any _ _ _ _ (by omega)).mono ?_; rintro e w' ⟨rfl, rfl⟩
  go_wp2_with fail
  refine (drawVerdict_any bl hbl hn C cap _ hr).mono ?_
  rintro e w0 ⟨m, a, r, b, rfl, hmm, ha, hrr, b0⟩
  have T0 := Lib.hid (HT.out.below b0 (Nat.le_refl _))
  have z0 := b0.size
  clear hr hbl hd HT hmm ha hrr
  go_wp2_with fail
  refine (cmdVerdict_impl a r b m _ w.heap.size (T0.out.alloc z0 _) (by simp; omega)).mono ?_
  rintro e w1 ⟨rfl, b1⟩
  have z1 := b1.size
  simp only [World.size_alloc] at z1
  have T1 := Lib.hid ((T0.out.alloc z0 (.cells #[.int .i64 a, .int .i64 r, .bool b] 31)).below b1 (by simp; omega))
  have Q1 := (b1.block w0.heap.size (by simp)).trans (heap_alloc_new w0 _)
  have h01 := Below.trans b0 (Below.mono (Below.trans ((Below.refl w0.heap.size _).alloc (Nat.le_refl _) _) (b1.mono (by simp))) z0)
  have H01 := Lib.hid h01
  obtain ⟨c0, c1, c2, cf, cs⟩ := row3_cells Q1
  replace Q1 := Lib.hid Q1
  clear b1 h01 b0
  go_wp2_with fail
  refine (cmdVerdict_spec a r b m _ 0).mono ?_
  rintro e w2 ⟨rfl, b2⟩
  have z2 := b2.size
  have T2 := Lib.hid (T1.out.below b2 (by first | omega | (simp; omega)))
  have Q2 := (b2.block w0.heap.size (by omega)).trans Q1.out
  clear c0 c1 c2 cf cs
  have h02 := Below.trans H01.out (b2.mono (by omega))
  have H02 := Lib.hid h02
  obtain ⟨c0, c1, c2, cf, cs⟩ := row3_cells Q2
  replace Q2 := Lib.hid Q2
  clear b2 h02
  go_wp2_with fail
  refine (nextMode_impl a r b m _ w.heap.size (T2.out.more (by omega)) (by omega)).mono ?_
  rintro e w3 ⟨rfl, b3⟩
  have z3 := b3.size
  have T3 := Lib.hid (T2.out.below b3 (by first | omega | (simp; omega)))
  have Q3 := (b3.block w0.heap.size (by omega)).trans Q2.out
  clear c0 c1 c2 cf cs
  have h03 := Below.trans H02.out (b3.mono (by omega))
  have H03 := Lib.hid h03
  obtain ⟨c0, c1, c2, cf, cs⟩ := row3_cells Q3
  replace Q3 := Lib.hid Q3
  clear b3 h03
  go_wp2_with fail
  refine (nextMode_spec a r b m _ 0).mono ?_
  rintro e w4 ⟨rfl, b4⟩
  have z4 := b4.size
  have T4 := Lib.hid (T3.out.below b4 (by first | omega | (simp; omega)))
  have Q4 := (b4.block w0.heap.size (by omega)).trans Q3.out
  clear c0 c1 c2 cf cs
  have h04 := Below.trans H03.out (b4.mono (by omega))
  have H04 := Lib.hid h04
  obtain ⟨c0, c1, c2, cf, cs⟩ := row3_cells Q4
  replace Q4 := Lib.hid Q4
  clear b4 h04
  rcases cv_cases a r b m with ⟨h1, h2, h3, h4⟩ | ⟨h1, h5, h2, h3, h4⟩ | ⟨h1, h5, h2, k, hk, rfl, h3, h4⟩
  · rw [h2, h3, h4]
    have H1 := Lib.hid h1
    clear h1 h2 h3 h4
    go_wp2_with fail
    go_region_held3 (fun w' => w'.cell? ⟨w0.heap.size, 0, none⟩ = some (.int .i64 a) ∧ w'.cell? ⟨w0.heap.size, 1, none⟩ = some (.int .i64 r) ∧ w'.cell? ⟨w0.heap.size, 2, none⟩ = some (.bool b)) (simp [*])
      ((first | (go_at_call 19; refine (isCmd_impl_r a r b false H1.out _).mono ?_; rintro e w5 ⟨rfl, b5⟩; obtain ⟨hc5, hf5, hz5⟩ := bstep (N := w4.heap.size) (by first | omega | go_size) b5; have y5 : w0.heap.size < w5.heap.size := (by omega); have T5 := Lib.hid (Rd.below (by exact T4.out) b5 (by first | omega | go_size))) | (go_at_call 20; refine (isCmd_spec_r a r b false H1.out _).mono ?_; rintro e w6 ⟨rfl, b6⟩; obtain ⟨hc6, hf6, hz6⟩ := bstep (N := w4.heap.size) (by first | omega | go_size) b6; have y6 : w0.heap.size < w6.heap.size := (by omega); have T6 := Lib.hid (Rd.below (by exact T5.out) b6 (by first | omega | go_size)))))
    all_goals go_wp2
    all_goals go_ret
    all_goals exact ⟨rfl, by have h04 := H04.out; repeat' (first | (with_reducible exact Below.refl _ _) | (with_reducible assumption) | (with_reducible refine Below.alloc ?_ ?_ _) | (with_reducible refine Below.drew ?_) | (with_reducible refine below_drewN ?_ _) | (with_reducible refine Below.setCell ?_ ?_ _) | (with_reducible refine Below.trans ?_ (Below.mono (by assumption) ?_)) | go_size | (exact Below.size (by assumption)))⟩
  · rw [h2, h3, h4]
    have H1 := Lib.hid h1
    clear h1 h2 h3 h4 h5
    go_wp2_with fail
    go_region_held3 (fun w' => w'.cell? ⟨w0.heap.size, 0, none⟩ = some (.int .i64 a) ∧ w'.cell? ⟨w0.heap.size, 1, none⟩ = some (.int .i64 r) ∧ w'.cell? ⟨w0.heap.size, 2, none⟩ = some (.bool b)) (simp [*])
      ((first | (go_at_call 19; refine (isCmd_impl_r a r b true H1.out _).mono ?_; rintro e w5 ⟨rfl, b5⟩; obtain ⟨hc5, hf5, hz5⟩ := bstep (N := w4.heap.size) (by first | omega | go_size) b5; have y5 : w0.heap.size < w5.heap.size := (by omega); have T5 := Lib.hid (Rd.below (by exact T4.out) b5 (by first | omega | go_size))) | (go_at_call 20; refine (isCmd_spec_r a r b true H1.out _).mono ?_; rintro e w6 ⟨rfl, b6⟩; obtain ⟨hc6, hf6, hz6⟩ := bstep (N := w4.heap.size) (by first | omega | go_size) b6; have y6 : w0.heap.size < w6.heap.size := (by omega); have T6 := Lib.hid (Rd.below (by exact T5.out) b6 (by first | omega | go_size)))))
    all_goals go_wp2
    all_goals go_ret
    all_goals exact ⟨rfl, by have h04 := H04.out; repeat' (first | (with_reducible exact Below.refl _ _) | (with_reducible assumption) | (with_reducible refine Below.alloc ?_ ?_ _) | (with_reducible refine Below.drew ?_) | (with_reducible refine below_drewN ?_ _) | (with_reducible refine Below.setCell ?_ ?_ _) | (with_reducible refine Below.trans ?_ (Below.mono (by assumption) ?_)) | go_size | (exact Below.size (by assumption)))⟩
  · rw [h2, h3, h4]
    have H1 := Lib.hid h1
    obtain ⟨m0, m5⟩ := mode_bds h5
    have LAW := Lib.hid (cmd_law k hk m r b (cmd_role h1) m0 m5)
    have HNX := Lib.hid (show ∀ (w' : World) (B : Nat), Rd w' B (some ⟨0, 0, none⟩) tabL → B ≤ w'.heap.size → _ from nextMode_impl 3 r b m)
    have hv3 : cvC 3 r m = 0 := by unfold cvC cmdB at *; simp_all [inB]
    have hm3 : cvM 3 r b m = nextK 3 m r b := by unfold cvM; rw [hv3]; rfl
    rw [hv3, hm3] at HNX
    clear hv3 hm3
    clear h1 h2 h3 h4 h5
    generalize verd k m r b = v at *
    generalize nextK k m r b = x at *
    generalize nextK 3 m r b = y at *
    go_wp2_with fail
    go_region_held3 (fun w' => w'.cell? ⟨w0.heap.size, 0, none⟩ = some (.int .i64 (k : Int)) ∧ w'.cell? ⟨w0.heap.size, 1, none⟩ = some (.int .i64 r) ∧ w'.cell? ⟨w0.heap.size, 2, none⟩ = some (.bool b)) (simp [*])
      ((first | (go_at_call 19; refine (isCmd_impl_r (k : Int) r b true H1.out _).mono ?_; rintro e w5 ⟨rfl, b5⟩; obtain ⟨hc5, hf5, hz5⟩ := bstep (N := w4.heap.size) (by first | omega | go_size) b5; have y5 : w0.heap.size < w5.heap.size := (by omega); have T5 := Lib.hid (Rd.below (by exact T4.out) b5 (by first | omega | go_size))) | (go_at_call 20; refine (isCmd_spec_r (k : Int) r b true H1.out _).mono ?_; rintro e w6 ⟨rfl, b6⟩; obtain ⟨hc6, hf6, hz6⟩ := bstep (N := w4.heap.size) (by first | omega | go_size) b6; have y6 : w0.heap.size < w6.heap.size := (by omega); have T6 := Lib.hid (Rd.below (by exact T5.out) b6 (by first | omega | go_size)))))
    all_goals (
      have h04 := H04.out
      have z6 := b6.size
      have h06 : Below w.heap.size w w6 := (by repeat' (first | (with_reducible exact Below.refl _ _) | (with_reducible assumption) | (with_reducible refine Below.alloc ?_ ?_ _) | (with_reducible refine Below.drew ?_) | (with_reducible refine below_drewN ?_ _) | (with_reducible refine Below.setCell ?_ ?_ _) | (with_reducible refine Below.trans ?_ (Below.mono (by assumption) ?_)) | go_size | (exact Below.size (by assumption))))
      have H06 := Lib.hid h06
      clear h04 h06 b5 b6 hc5 hf5 hc6 hf6 T0 T1 T2 T3 T4 T5
      go_wp2_with fail
      refine (HNX.out _ w.heap.size (by exact T6.out) (by first | omega | go_size)).mono ?_
      rintro e w7 ⟨rfl, b7⟩
      have h07 := Below.trans H06.out (Below.mono (by exact b7) (by first | omega | go_size))
      have H07 := Lib.hid h07
      clear b7 h07
      rcases LAW.out with ⟨g1 | ⟨g1, g2⟩, ⟨g3, g4⟩ | ⟨g3, g4⟩⟩
      all_goals go_wp2
      all_goals go_ret
      all_goals exact ⟨rfl, H07.out⟩)
end Go.Proofs.YtakchdkoildkbaaDoor
