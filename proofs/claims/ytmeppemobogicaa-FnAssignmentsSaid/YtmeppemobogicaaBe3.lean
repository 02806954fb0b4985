/- BestAssignment and LeastFinish: walks of the program and of the reference. -/
import Derived.Test.YtmeppemobogicaaBe2
import Derived.Test.YtmeppemobogicaaFo
namespace Go.Proofs.Ytmeppemobogicaa
open Go.ChangeShapes Go.WideShapes Go.ChangeAt Go.RowKit
set_option maxRecDepth 20000
set_option linter.unusedVariables false
set_option linter.unusedSimpArgs false
def bstL (T : List Int) (m n : Nat) : List Int := bestUp (finP T m) m n (m ^ n)
theorem bstL_length (T : List Int) {m n : Nat} (hm : 1 ≤ m) : (bstL T m n).length = n := bestUp_len (Nat.pow_pos hm)
theorem bstL_at (T : List Int) {m n : Nat} (hm : 1 ≤ m) : ∀ (i : Nat) (c : Int), (bstL T m n)[i]? = some c → 0 ≤ c ∧ c < m := bestUp_at hm (Nat.pow_pos hm)
set_option maxHeartbeats 2000000 in
theorem best_any (T : List Int) (n m : Nat) (hnT : T.length = n) (hm1 : 1 ≤ m) (hm : m ≤ 3) (hn : n ≤ 6) (ht : ∀ (k : Nat) (x : Int), T[k]? = some x → 0 ≤ x ∧ x ≤ 1000000) (At : Option Addr) (ct : Nat) (w : World) (hr : Rd w w.heap.size At (ints T)) :
   Calls Try.prog 62 #[.slice At n ct, .int .i64 m] w fun e w' => ∃ A' c', e = .returned (.tuple #[.slice A' n c', .int .i64 (finP T m (bstL T m n))]) ∧ w'.ownsRow w.heap.size 2 1 (.slice A' n c') n (ints (bstL T m n)) ∧ Below w.heap.size w w' := by
  have hwb := walkA_best (fin := finP T m) (fun a => finP_nonneg T m a) (m := m) (n := n) hm1
  have HW := Lib.hid (fun (w' : World) (hI : InvB w.heap.size At ct T n m w' ([], -1)) => hwb ▸ walk_any w.heap.size At ct T n m hnT hm1 hm hn ht n [] 0 rfl (by omega) (by simp) ([], -1) none 0 w' hI (World.ownsRow_nil _ _ _ _))
  have Hr := Lib.hid hr
  clear hr hwb hnT ht
  go_enter Try.func62, Try.ntmps62
  go_wp2_with fail
  refine (HW.out _ ?cI).mono ?_
  case cI =>
    refine ⟨by go_cell, by go_cell, by go_cell, by go_cell, by go_cell, by go_cell, ?_, by first | omega | go_size, none, 0, by go_cell, World.ownsRow_nil _ _ _ _⟩
    exact Hr.out.keep fun b o hlt => Below.cell (B := w.heap.size) (by repeat' (first | (with_reducible exact Below.refl _ _) | (with_reducible assumption) | (with_reducible refine Below.alloc ?_ ?_ _) | (with_reducible refine Below.drew ?_) | (with_reducible refine below_drewN ?_ _) | (with_reducible refine Below.setCell ?_ ?_ _) | (with_reducible refine Below.trans ?_ (Below.mono (by assumption) ?_)) | go_size | (exact Below.size (by assumption)))) (p := ⟨b, o, none⟩) hlt
  rintro e w1 ⟨rfl, i1, k1⟩
  have hb : Below w.heap.size w w1 := by
    have h2 := (k1.below (by first | omega | go_size)).mono (show w.heap.size ≤ w.heap.size + 2 by omega)
    refine Below.trans ?_ h2
    repeat' (first | (with_reducible exact Below.refl _ _) | (with_reducible assumption) | (with_reducible refine Below.alloc ?_ ?_ _) | (with_reducible refine Below.drew ?_) | (with_reducible refine below_drewN ?_ _) | (with_reducible refine Below.setCell ?_ ?_ _) | (with_reducible refine Below.trans ?_ (Below.mono (by assumption) ?_)) | go_size | (exact Below.size (by assumption)))
  obtain ⟨_, _, _, d3, _, _, _, _, A1, c1, d2, ho⟩ := i1
  have hl : (bestUp (finP T m) m n (m ^ n)).length = n := bstL_length T hm1
  dsimp only at d3 d2 ho
  rw [hl] at d2 ho
  have Ho := Lib.hid (own_more ho (show w.heap.size ≤ w.heap.size + 5 by omega))
  clear ho hl k1
  go_wp2_with fail
  go_quiet (fail)
  go_wp2
  go_ret2
  exact ⟨A1, c1, rfl, Ho.out, below_drewN hb _⟩
def beR (l : List (Int × Int)) (crews : Int) : List Int := if crewC l crews = 0 then bstL (timesL l) crews.toNat (timesL l).length else []
def leV (l : List (Int × Int)) (crews : Int) : Int := if crewC l crews = 0 then finP (timesL l) crews.toNat (bstL (timesL l) crews.toNat (timesL l).length) else 0
theorem beR_len (l : List (Int × Int)) (crews : Int) (hn : l.length ≤ 1048576) : (beR l crews).length ≤ 1048576 := by
  unfold beR
  split
  · rename_i h
    have := crewC_zero h
    rw [bstL_length _ (by omega), timesL_length]; exact hn
  · simp
theorem best_impl (l : List (Int × Int)) (crews : Int) (A : Option Addr) (B c : Nat) (w : World) (hr : Rd w B A (l.flatMap eEvacuationStop)) (hB : B ≤ w.heap.size) (hn : l.length ≤ 1048576) :
   Calls Try.prog 33 #[.slice A l.length c, .int .i64 crews] w fun e w' => ∃ A' c', e = .returned (.tuple #[.slice A' (beR l crews).length c', .int .i64 (crewC l crews)]) ∧ w'.ownsRow w.heap.size 2 1 (.slice A' (beR l crews).length c') (beR l crews).length (ints (beR l crews)) ∧ Below w.heap.size w w' := by
  by_cases h0 : crewC l crews = 0
  · obtain ⟨hst, hc1, hc3⟩ := crewC_zero h0
    obtain ⟨m, rfl⟩ : ∃ m : Nat, crews = m := ⟨crews.toNat, by omega⟩
    have hR : beR l m = bstL (timesL l) m (timesL l).length := by rw [beR, if_pos h0]; simp
    have hlen : (beR l m).length = (timesL l).length := by rw [hR, bstL_length _ (by omega)]
    rw [hlen, hR, h0]
    have H0 := Lib.hid h0
    have hn6 := stopsB_len hst
    have HTS := Lib.hid (fun (w' : World) (h : Rd w' B A (l.flatMap eEvacuationStop)) (hb : B ≤ w'.heap.size) => stopTimes_any l hst A B c w' h hb)
    have HB := Lib.hid (fun (At : Option Addr) (ct : Nat) (w' : World) (h : Rd w' w'.heap.size At (ints (timesL l))) => best_any (timesL l) (timesL l).length m rfl (by omega) (by omega) (by rw [timesL_length]; exact hn6) (timesL_at hst) At ct w' h)
    clear h0 hst hR hlen
    generalize timesL l = T at *
    go_enter Try.func33, Try.ntmps33
    go_wp2_with fail
    refine (crewCode_r l m 0 H0.out A B c w hr hB hn).mono ?_; rintro e w1 ⟨rfl, b1⟩
    have z1 := b1.size
    have Hr1 := Lib.hid (hr.below b1 hB)
    clear hr
    go_wp2_with fail
    refine (HTS.out w1 Hr1.out (by omega)).mono ?_; rintro e w2 ⟨At, ct, rfl, o2, b2⟩
    have z2 := b2.size
    have R2 := Lib.hid (Rd.of_own o2)
    clear o2
    go_wp2_with fail
    refine (HB.out At ct w2 R2.out).mono ?_; rintro e w3 ⟨A3, c3, rfl, o3, b3⟩
    have O3 := Lib.hid o3
    clear o3
    go_wp2
    go_ret2
    exact ⟨A3, c3, rfl, own_more O3.out (by omega), by repeat' (first | (with_reducible exact Below.refl _ _) | (with_reducible assumption) | (with_reducible refine Below.alloc ?_ ?_ _) | (with_reducible refine Below.drew ?_) | (with_reducible refine below_drewN ?_ _) | (with_reducible refine Below.setCell ?_ ?_ _) | (with_reducible refine Below.trans ?_ (Below.mono (by assumption) ?_)) | go_size | (exact Below.size (by assumption)))⟩
  · have hR : beR l crews = [] := by rw [beR, if_neg h0]
    rw [hR]
    have hb1 : (crewC l crews != 0) = true := by simpa using h0
    generalize hC : crewC l crews = C at *
    have HC := Lib.hid hC
    clear h0 hC
    go_enter Try.func33, Try.ntmps33
    go_wp2_with (go_at_call 56; refine (crewCode_r l crews C HC.out A B c w hr hB hn).mono ?_; rintro e w1 ⟨rfl, b1⟩)
    go_ret2
    exact ⟨none, 0, rfl, World.ownsRow_nil _ _ _ _, b1⟩
theorem least_impl (l : List (Int × Int)) (crews : Int) (A : Option Addr) (B c : Nat) (w : World) (hr : Rd w B A (l.flatMap eEvacuationStop)) (hB : B ≤ w.heap.size) (hn : l.length ≤ 1048576) :
   Calls Try.prog 31 #[.slice A l.length c, .int .i64 crews] w fun e w' => e = .returned (.tuple #[.int .i64 (leV l crews), .int .i64 (crewC l crews)]) ∧ Below w.heap.size w w' := by
  by_cases h0 : crewC l crews = 0
  · obtain ⟨hst, hc1, hc3⟩ := crewC_zero h0
    obtain ⟨m, rfl⟩ : ∃ m : Nat, crews = m := ⟨crews.toNat, by omega⟩
    have hR : leV l m = finP (timesL l) m (bstL (timesL l) m (timesL l).length) := by rw [leV, if_pos h0]; simp
    rw [hR, h0]
    have H0 := Lib.hid h0
    have hn6 := stopsB_len hst
    have HTS := Lib.hid (fun (w' : World) (h : Rd w' B A (l.flatMap eEvacuationStop)) (hb : B ≤ w'.heap.size) => stopTimes_any l hst A B c w' h hb)
    have HB := Lib.hid (fun (At : Option Addr) (ct : Nat) (w' : World) (h : Rd w' w'.heap.size At (ints (timesL l))) => best_any (timesL l) (timesL l).length m rfl (by omega) (by omega) (by rw [timesL_length]; exact hn6) (timesL_at hst) At ct w' h)
    clear h0 hst hR
    generalize timesL l = T at *
    go_enter Try.func31, Try.ntmps31
    go_wp2_with fail
    refine (crewCode_r l m 0 H0.out A B c w hr hB hn).mono ?_; rintro e w1 ⟨rfl, b1⟩
    have z1 := b1.size
    have Hr1 := Lib.hid (hr.below b1 hB)
    clear hr
    go_wp2_with fail
    refine (HTS.out w1 Hr1.out (by omega)).mono ?_; rintro e w2 ⟨At, ct, rfl, o2, b2⟩
    have z2 := b2.size
    have R2 := Lib.hid (Rd.of_own o2)
    clear o2
    go_wp2_with fail
    refine (HB.out At ct w2 R2.out).mono ?_; rintro e w3 ⟨A3, c3, rfl, o3, b3⟩
    clear o3
    go_wp2
    go_ret2
    exact ⟨rfl, by repeat' (first | (with_reducible exact Below.refl _ _) | (with_reducible assumption) | (with_reducible refine Below.alloc ?_ ?_ _) | (with_reducible refine Below.drew ?_) | (with_reducible refine below_drewN ?_ _) | (with_reducible refine Below.setCell ?_ ?_ _) | (with_reducible refine Below.trans ?_ (Below.mono (by assumption) ?_)) | go_size | (exact Below.size (by assumption)))⟩
  · have hR : leV l crews = 0 := by rw [leV, if_neg h0]
    rw [hR]
    have hb1 : (crewC l crews != 0) = true := by simpa using h0
    generalize hC : crewC l crews = C at *
    have HC := Lib.hid hC
    clear h0 hC
    go_enter Try.func31, Try.ntmps31
    go_wp2_with (go_at_call 56; refine (crewCode_r l crews C HC.out A B c w hr hB hn).mono ?_; rintro e w1 ⟨rfl, b1⟩)
    go_ret2
    exact ⟨rfl, b1⟩
theorem best_spec (l : List (Int × Int)) (crews : Int) (A : Option Addr) (B c : Nat) (w : World) (hr : Rd w B A (l.flatMap eEvacuationStop)) (hB : B ≤ w.heap.size) (hn : l.length ≤ 1048576) :
   Calls Try.prog 32 #[.slice A l.length c, .int .i64 crews] w fun e w' => ∃ A' c', e = .returned (.tuple #[.slice A' (beR l crews).length c', .int .i64 (crewC l crews)]) ∧ w'.ownsRow w.heap.size 2 1 (.slice A' (beR l crews).length c') (beR l crews).length (ints (beR l crews)) ∧ Below w.heap.size w w' := by
  by_cases h0 : crewC l crews = 0
  · obtain ⟨hst, hc1, hc3⟩ := crewC_zero h0
    obtain ⟨m, rfl⟩ : ∃ m : Nat, crews = m := ⟨crews.toNat, by omega⟩
    have hR : beR l m = bstL (timesL l) m (timesL l).length := by rw [beR, if_pos h0]; simp
    have hlen : (beR l m).length = (timesL l).length := by rw [hR, bstL_length _ (by omega)]
    rw [hlen, hR, h0]
    have H0 := Lib.hid h0
    have hn6 := stopsB_len hst
    have HTS := Lib.hid (fun (w' : World) (h : Rd w' B A (l.flatMap eEvacuationStop)) (hb : B ≤ w'.heap.size) => l30Times_any l hst A B c w' h hb)
    have HB := Lib.hid (fun (At : Option Addr) (ct : Nat) (w' : World) (h : Rd w' w'.heap.size At (ints (timesL l))) => l30Best_any (timesL l) (timesL l).length m rfl (by omega) (by omega) (by rw [timesL_length]; exact hn6) (timesL_at hst) At w'.heap.size ct w' h (Nat.le_refl _))
    clear h0 hst hR hlen
    generalize timesL l = T at *
    go_enter Try.func32, Try.ntmps32
    go_wp2_with fail
    refine (l30Code_r l m 0 H0.out A B c w hr hB hn).mono ?_; rintro e w1 ⟨rfl, b1⟩
    have z1 := b1.size
    have Hr1 := Lib.hid (hr.below b1 hB)
    clear hr
    go_wp2_with fail
    refine (HTS.out w1 Hr1.out (by omega)).mono ?_; rintro e w2 ⟨At, ct, rfl, o2, b2⟩
    have z2 := b2.size
    have R2 := Lib.hid (Rd.of_own o2)
    clear o2
    go_wp2_with fail
    refine (HB.out At ct w2 R2.out).mono ?_; rintro e w3 ⟨A3, c3, rfl, o3, b3⟩
    have O3 := Lib.hid o3
    clear o3
    go_wp2
    go_ret2
    exact ⟨A3, c3, rfl, own_more O3.out (by omega), by repeat' (first | (with_reducible exact Below.refl _ _) | (with_reducible assumption) | (with_reducible refine Below.alloc ?_ ?_ _) | (with_reducible refine Below.drew ?_) | (with_reducible refine below_drewN ?_ _) | (with_reducible refine Below.setCell ?_ ?_ _) | (with_reducible refine Below.trans ?_ (Below.mono (by assumption) ?_)) | go_size | (exact Below.size (by assumption)))⟩
  · have hR : beR l crews = [] := by rw [beR, if_neg h0]
    rw [hR]
    have hb1 : (crewC l crews != 0) = true := by simpa using h0
    generalize hC : crewC l crews = C at *
    have HC := Lib.hid hC
    clear h0 hC
    go_enter Try.func32, Try.ntmps32
    go_wp2_with (go_at_call 54; refine (l30Code_r l crews C HC.out A B c w hr hB hn).mono ?_; rintro e w1 ⟨rfl, b1⟩)
    go_ret2
    exact ⟨none, 0, rfl, World.ownsRow_nil _ _ _ _, b1⟩
theorem beR_good {l : List (Int × Int)} {m : Nat} (h0 : crewC l m = 0) : clC l m (beR l m) = 0 ∧ mostL (clR l m (beR l m)) = leV l m ∧ (beR l m).length = l.length := by
  obtain ⟨hst, hc1, hc3⟩ := crewC_zero h0
  have hR : beR l m = bstL (timesL l) m (timesL l).length := by rw [beR, if_pos h0]; simp
  have hlen : (beR l m).length = (timesL l).length := by rw [hR, bstL_length _ (by omega)]
  have hok : crewOk m (beR l m) = true := by
    simp only [crewOk, List.all_eq_true]
    intro x hx
    obtain ⟨i, hi, e⟩ := List.getElem_of_mem hx
    have h2 : (beR l m)[i]? = some x := by rw [List.getElem?_eq_getElem hi, e]
    rw [hR] at h2
    have := bstL_at (timesL l) (show 1 ≤ m by omega) i x h2
    simp only [inB, Bool.and_eq_true, decide_eq_true_eq]
    omega
  have hC : clC l m (beR l m) = 0 := by rw [clC, if_pos h0, if_pos (by rw [hlen, timesL_length]), hok]; rfl
  refine ⟨hC, ?_, by rw [hlen, timesL_length]⟩
  rw [clR, if_pos hC, leV, if_pos h0, finP]
  simp only [Int.toNat_natCast]
  rw [hR]
theorem least_spec (l : List (Int × Int)) (crews : Int) (A : Option Addr) (B c : Nat) (w : World) (hr : Rd w B A (l.flatMap eEvacuationStop)) (hB : B ≤ w.heap.size) (hn : l.length ≤ 1048576) :
   Calls Try.prog 30 #[.slice A l.length c, .int .i64 crews] w fun e w' => e = .returned (.tuple #[.int .i64 (leV l crews), .int .i64 (crewC l crews)]) ∧ Below w.heap.size w w' := by
  have HB := Lib.hid (best_spec l crews A B c w hr hB hn)
  have hbl := beR_len l crews hn
  by_cases h0 : crewC l crews = 0
  · obtain ⟨hst, hc1, hc3⟩ := crewC_zero h0
    obtain ⟨m, rfl⟩ : ∃ m : Nat, crews = m := ⟨crews.toNat, by omega⟩
    obtain ⟨g1, g2, g3⟩ := beR_good h0
    have HF := Lib.hid (fun (A' : Option Addr) (c' : Nat) (w' : World) (h1 : Rd w' w'.heap.size A (l.flatMap eEvacuationStop)) (h2 : Rd w' w'.heap.size A' (ints (beR l m))) => finish_spec l m (beR l m) A A' w'.heap.size c c' w' h1 h2 (Nat.le_refl _) hn hbl)
    rw [g1, g2] at HF
    rw [h0] at HB ⊢
    have Hr := Lib.hid hr
    clear h0 hst g1 g2 g3 hr
    generalize leV l m = V at *
    generalize beR l m = R at *
    go_enter Try.func30, Try.ntmps30
    go_wp2_with fail
    refine HB.out.mono ?_; rintro e w1 ⟨A1, c1, rfl, o1, b1⟩
    have z1 := b1.size
    have R1 := Lib.hid (Rd.of_own o1)
    have Hr1 := Lib.hid ((Hr.out.below b1 hB).more (show B ≤ w1.heap.size by omega))
    clear o1
    go_wp2_with fail
    refine (HF.out A1 c1 w1 Hr1.out R1.out).mono ?_; rintro e w2 ⟨rfl, b2⟩
    go_wp2
    go_ret2
    exact ⟨rfl, by repeat' (first | (with_reducible exact Below.refl _ _) | (with_reducible assumption) | (with_reducible refine Below.alloc ?_ ?_ _) | (with_reducible refine Below.drew ?_) | (with_reducible refine below_drewN ?_ _) | (with_reducible refine Below.setCell ?_ ?_ _) | (with_reducible refine Below.trans ?_ (Below.mono (by assumption) ?_)) | go_size | (exact Below.size (by assumption)))⟩
  · have hR : leV l crews = 0 := by rw [leV, if_neg h0]
    rw [hR]
    have hb1 : (crewC l crews != 0) = true := by simpa using h0
    generalize crewC l crews = C at *
    generalize beR l crews = R at *
    clear h0 hR
    go_enter Try.func30, Try.ntmps30
    go_wp2_with (go_at_call 32; refine HB.out.mono ?_; rintro e w1 ⟨A1, c1, rfl, o1, b1⟩; clear o1)
    go_ret2
    exact ⟨rfl, b1⟩
end Go.Proofs.Ytmeppemobogicaa
