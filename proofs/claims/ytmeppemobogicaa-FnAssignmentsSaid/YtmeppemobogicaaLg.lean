/- The law on greedy assignments. -/
import Derived.Test.YtmeppemobogicaaDs2
import Derived.Test.YtmeppemobogicaaBe3
namespace Go.Proofs.Ytmeppemobogicaa
open Go.ChangeShapes Go.WideShapes Go.ChangeAt Go.RowKit
set_option maxRecDepth 20000
set_option linter.unusedVariables false
set_option linter.unusedSimpArgs false
theorem asg_good {l : List (Int × Int)} {m : Nat} {a : List Int} (h0 : crewC l m = 0) (hl : a.length = l.length) (ha : ∀ (i : Nat) (c : Int), a[i]? = some c → 0 ≤ c ∧ c < m) : clC l m a = 0 ∧ mostL (clR l m a) = finP (timesL l) m a := by
  have hok : crewOk m a = true := by
    simp only [crewOk, List.all_eq_true]
    intro x hx
    obtain ⟨i, hi, e⟩ := List.getElem_of_mem hx
    have := ha i x (by rw [List.getElem?_eq_getElem hi, e])
    simp only [inB, Bool.and_eq_true, decide_eq_true_eq]
    omega
  have hC : clC l m a = 0 := by rw [clC, if_pos h0, if_pos hl, hok]; rfl
  refine ⟨hC, ?_⟩
  rw [clR, if_pos hC, finP]
  simp only [Int.toNat_natCast]
theorem fin_bd {T a : List Int} {m : Nat} (hT : T.length ≤ 6) (ht : ∀ (k : Nat) (x : Int), T[k]? = some x → 0 ≤ x ∧ x ≤ 1000000) (hl : a.length ≤ 6) : finP T m a ≤ 6000000 := by
  refine most_le (by omega) (fun k x hx => ?_) _
  have := ldsUp_bd ht a.length k x hx
  omega
theorem bst_le {T a : List Int} {m : Nat} (hm : 1 ≤ m) (hl : a.length = T.length) (ha : ∀ (i : Nat) (c : Int), a[i]? = some c → 0 ≤ c ∧ c < m) : finP T m (bstL T m T.length) ≤ finP T m a := by
  obtain ⟨k, hk, e⟩ := digL_onto m a (fun x hx => by
    obtain ⟨i, hi, e⟩ := List.getElem_of_mem hx
    exact ha i x (by rw [List.getElem?_eq_getElem hi, e]))
  rw [hl] at hk e
  have := bestUp_le (finP T m) m T.length (m ^ T.length) k hk
  rw [e] at this
  exact this
theorem greedy_law {l : List (Int × Int)} {m : Nat} (h0 : crewC l m = 0) : clC l m (grR l m) = 0 ∧ mostL (clR l m (grR l m)) = finP (timesL l) m (greedyL (timesL l) m) ∧ leV l m = finP (timesL l) m (bstL (timesL l) m (timesL l).length) ∧ 0 ≤ leV l m ∧ finP (timesL l) m (greedyL (timesL l) m) ≤ 6000000 ∧ leV l m ≤ finP (timesL l) m (greedyL (timesL l) m) ∧ 3 * (m : Int) * finP (timesL l) m (greedyL (timesL l) m) ≤ (4 * m - 1) * leV l m := by
  obtain ⟨hst, hc1, hc3⟩ := crewC_zero h0
  have hn6 := stopsB_len hst
  have hta := timesL_at hst
  have hR : grR l m = greedyL (timesL l) m := by rw [grR, if_pos h0]; simp
  have hle : leV l m = finP (timesL l) m (bstL (timesL l) m (timesL l).length) := by rw [leV, if_pos h0]; simp
  have hga := greedyL_at (times := timesL l) (m := m) (by omega)
  obtain ⟨g1, g2⟩ := asg_good (a := grR l m) h0 (by rw [hR, greedyL_length, timesL_length]) (by rw [hR]; exact hga)
  rw [hR] at g2
  refine ⟨g1, by rw [hR]; exact g2, hle, by rw [hle]; exact finP_nonneg _ _ _, ?_, ?_, ?_⟩
  · exact fin_bd (by rw [timesL_length]; exact hn6) hta (by rw [greedyL_length, timesL_length]; exact hn6)
  · rw [hle]; exact bst_le (by omega) (greedyL_length _ _) hga
  · rw [hle]; exact greedy_bound (by omega) (by omega) (fun k x h => (hta k x h).1) (bstL_at _ (by omega)) (bstL_length _ (by omega))
theorem greedy_lawI {l : List (Int × Int)} {n : Int} (h0 : crewC l n = 0) : ∃ f : Int, clC l n (grR l n) = 0 ∧ mostL (clR l n (grR l n)) = f ∧ 0 ≤ leV l n ∧ f ≤ 6000000 ∧ leV l n ≤ f ∧ 3 * n * f ≤ (4 * n - 1) * leV l n := by
  obtain ⟨_, hc1, hc3⟩ := crewC_zero h0
  obtain ⟨m, rfl⟩ : ∃ m : Nat, n = m := ⟨n.toNat, by omega⟩
  obtain ⟨g1, g2, g3, g4, g5, g6, g7⟩ := greedy_law h0
  exact ⟨_, g1, g2, g4, g5, g6, g7⟩
set_option maxHeartbeats 4000000 in
theorem walkFnGreedy (bl : List Int) (hbl : isU8 bl) (C : Option Addr) (cap : Nat) (w : World) (hr : Rd w w.heap.size C (bytesU bl)) (hlc : bl.length ≤ cap) (hm : cap ≤ maxLen) :
   Calls Try.prog 13 #[.slice C bl.length cap] w fun e w' => e = .returned (.bool true) ∧ Below w.heap.size w w' := by
  unfold maxLen at hm
  by_cases hn : bl.length ≤ 4096
  rotate_left
  · have hd : decide ((4096 : Int) < (bl.length : Int)) = true := by simp; omega
    go_enter Try.func13, Try.ntmps13
    go_wp2_with (go_at_call 34; refine (big_any _ _ _ _ (by omega)).mono ?_; rintro e w' ⟨rfl, rfl⟩)
    go_ret
    exact ⟨rfl, Below.refl _ _⟩
  have hd : decide ((4096 : Int) < (bl.length : Int)) = false := by simp; omega
  go_enter Try.func13, Try.ntmps13
  go_wp2_with fail
  refine (big_any _ _ _ _ (by omega)).mono ?_; rintro e w' ⟨rfl, rfl⟩
  go_wp2_with fail
  refine (drawGreedy_any bl hbl hn C cap _ hr).mono ?_
  rintro e w0 ⟨l, A, c, n, rfl, hl, n0, n1, Rl, b0⟩
  clear hr hbl hd
  have hn2 : l.length ≤ 1048576 := by omega
  have hgl := grR_len l n hn2
  have z0 := b0.size
  go_wp2_with fail
  refine (greedy_impl l n A _ c w0 Rl (Nat.le_refl _) hn2).mono ?_; rintro e w1 ⟨A1, c1, rfl, o1, b1⟩
  have z1 := b1.size
  replace Rl := Rl.step b1
  have Rx := Rd.of_own o1
  clear o1
  go_wp2_with fail
  refine (greedy_spec l n A _ c w1 Rl (Nat.le_refl _) hn2).mono ?_; rintro e w2 ⟨A2, c2, rfl, o2, b2⟩
  have z2 := b2.size
  replace Rl := Rl.step b2
  replace Rx := Rx.step b2
  have Ry := Rd.of_own o2
  clear o2
  have hLK := Lib.hid (likeInts_same (grR l n) A1 A2 _ _ c1 c2 w2 Rx Ry hgl)
  clear Ry
  by_cases hC : crewC l n = 0
  rotate_left
  · have h5 : (crewC l n != 0) = true := by simpa using hC
    generalize crewC l n = K at *
    generalize grR l n = R at *
    clear Rl Rx
    go_wp2_with (go_at_call 36; refine hLK.out.mono ?_; rintro e w3 ⟨rfl, b3⟩)
    go_ret
    exact ⟨rfl, by repeat' (first | (with_reducible exact Below.refl _ _) | (with_reducible assumption) | (with_reducible refine Below.alloc ?_ ?_ _) | (with_reducible refine Below.drew ?_) | (with_reducible refine below_drewN ?_ _) | (with_reducible refine Below.setCell ?_ ?_ _) | (with_reducible refine Below.trans ?_ (Below.mono (by assumption) ?_)) | go_size | (exact Below.size (by assumption)))⟩
  · obtain ⟨hst, hc1, hc3⟩ := crewC_zero hC
    obtain ⟨f, g1, g2, g4, g5, g6, g7⟩ := greedy_lawI hC
    have HF := Lib.hid (fun (w' : World) (h1 : Rd w' w'.heap.size A (l.flatMap eEvacuationStop)) (h2 : Rd w' w'.heap.size A1 (ints (grR l n))) => finish_impl l n (grR l n) A A1 w'.heap.size c c1 w' h1 h2 (Nat.le_refl _) hn2 hgl)
    have HL := Lib.hid (fun (w' : World) (h1 : Rd w' w'.heap.size A (l.flatMap eEvacuationStop)) => least_impl l n A w'.heap.size c w' h1 (Nat.le_refl _) hn2)
    rw [g1, g2] at HF
    rw [hC] at HL
    have hCb : (crewC l n != 0) = false := by rw [hC]; rfl
    generalize crewC l n = K at *
    generalize leV l n = V at *
    have HRl := Lib.hid Rl
    have HRx := Lib.hid Rx
    clear g1 g2 hst Rl Rx hC n0 n1
    generalize grR l n = R at *
    have hm3 : n = 1 ∨ n = 2 ∨ n = 3 := by omega
    clear hc1 hc3
    rcases hm3 with rfl | rfl | rfl
    · have q7 : 3 * f ≤ 3 * V := by omega
      have q6 : decide (V ≤ f) = true := by simpa using g6
      have q8 : decide (3 * f ≤ 3 * V) = true := by simpa using q7
      have f0 : 0 ≤ f := by omega
      clear g7
      go_wp2_with fail
      refine hLK.out.mono ?_; rintro e w3 ⟨rfl, b3⟩
      have z3 := b3.size
      have R3 := Lib.hid (HRl.out.step b3)
      have X3 := Lib.hid (HRx.out.step b3)
      go_wp2_with fail
      refine (HF.out w3 R3.out X3.out).mono ?_; rintro e w4 ⟨rfl, b4⟩
      have z4 := b4.size
      have R4 := Lib.hid (R3.out.step b4)
      go_wp2_with fail
      refine (HL.out w4 R4.out).mono ?_; rintro e w5 ⟨rfl, b5⟩
      have z5 := b5.size
      go_wp2
      go_ret
      exact ⟨by first | rfl | (simp; omega), by repeat' (first | (with_reducible exact Below.refl _ _) | (with_reducible assumption) | (with_reducible refine Below.alloc ?_ ?_ _) | (with_reducible refine Below.drew ?_) | (with_reducible refine below_drewN ?_ _) | (with_reducible refine Below.setCell ?_ ?_ _) | (with_reducible refine Below.trans ?_ (Below.mono (by assumption) ?_)) | go_size | (exact Below.size (by assumption)))⟩
    · have q7 : 6 * f ≤ 7 * V := by omega
      have q6 : decide (V ≤ f) = true := by simpa using g6
      have q8 : decide (6 * f ≤ 7 * V) = true := by simpa using q7
      have f0 : 0 ≤ f := by omega
      clear g7
      go_wp2_with fail
      refine hLK.out.mono ?_; rintro e w3 ⟨rfl, b3⟩
      have z3 := b3.size
      have R3 := Lib.hid (HRl.out.step b3)
      have X3 := Lib.hid (HRx.out.step b3)
      go_wp2_with fail
      refine (HF.out w3 R3.out X3.out).mono ?_; rintro e w4 ⟨rfl, b4⟩
      have z4 := b4.size
      have R4 := Lib.hid (R3.out.step b4)
      go_wp2_with fail
      refine (HL.out w4 R4.out).mono ?_; rintro e w5 ⟨rfl, b5⟩
      have z5 := b5.size
      go_wp2
      go_ret
      exact ⟨by first | rfl | (simp; omega), by repeat' (first | (with_reducible exact Below.refl _ _) | (with_reducible assumption) | (with_reducible refine Below.alloc ?_ ?_ _) | (with_reducible refine Below.drew ?_) | (with_reducible refine below_drewN ?_ _) | (with_reducible refine Below.setCell ?_ ?_ _) | (with_reducible refine Below.trans ?_ (Below.mono (by assumption) ?_)) | go_size | (exact Below.size (by assumption)))⟩
    · have q7 : 9 * f ≤ 11 * V := by omega
      have q6 : decide (V ≤ f) = true := by simpa using g6
      have q8 : decide (9 * f ≤ 11 * V) = true := by simpa using q7
      have f0 : 0 ≤ f := by omega
      clear g7
      go_wp2_with fail
      refine hLK.out.mono ?_; rintro e w3 ⟨rfl, b3⟩
      have z3 := b3.size
      have R3 := Lib.hid (HRl.out.step b3)
      have X3 := Lib.hid (HRx.out.step b3)
      go_wp2_with fail
      refine (HF.out w3 R3.out X3.out).mono ?_; rintro e w4 ⟨rfl, b4⟩
      have z4 := b4.size
      have R4 := Lib.hid (R3.out.step b4)
      go_wp2_with fail
      refine (HL.out w4 R4.out).mono ?_; rintro e w5 ⟨rfl, b5⟩
      have z5 := b5.size
      go_wp2
      go_ret
      exact ⟨by first | rfl | (simp; omega), by repeat' (first | (with_reducible exact Below.refl _ _) | (with_reducible assumption) | (with_reducible refine Below.alloc ?_ ?_ _) | (with_reducible refine Below.drew ?_) | (with_reducible refine below_drewN ?_ _) | (with_reducible refine Below.setCell ?_ ?_ _) | (with_reducible refine Below.trans ?_ (Below.mono (by assumption) ?_)) | go_size | (exact Below.size (by assumption)))⟩
end Go.Proofs.Ytmeppemobogicaa
