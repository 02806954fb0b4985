/- The loads of crews of the program. -/
import Derived.Test.YtmeppemobogicaaCw
namespace Go.Proofs.Ytmeppemobogicaa
open Go.ChangeShapes Go.WideShapes Go.ChangeAt Go.RowKit
set_option linter.unusedVariables false
set_option linter.unusedSimpArgs false
theorem crewLoads_impl (l : List (Int × Int)) (crews : Int) (asg : List Int) (A A' : Option Addr) (B c c' : Nat) (w : World) (hr : Rd w B A (l.flatMap eEvacuationStop)) (hr2 : Rd w B A' (ints asg)) (hB : B ≤ w.heap.size) (hn : l.length ≤ 1048576) (hn2 : asg.length ≤ 1048576) :
   Calls Try.prog 27 #[.slice A l.length c, .int .i64 crews, .slice A' asg.length c'] w fun e w' => ∃ A2 c2, e = .returned (.tuple #[.slice A2 (clR l crews asg).length c2, .int .i64 (clC l crews asg)]) ∧ w'.ownsRow w.heap.size 2 1 (.slice A2 (clR l crews asg).length c2) (clR l crews asg).length (ints (clR l crews asg)) ∧ Below w.heap.size w w' := by
  have HR1 : Hid (∀ W, Below w.heap.size w W → Rd W B A (l.flatMap eEvacuationStop) ∧ B ≤ W.heap.size) := fun W hW => ⟨hr.below hW hB, Nat.le_trans hB hW.size⟩
  have HR2 : Hid (∀ W, Below w.heap.size w W → Rd W B A' (ints asg) ∧ B ≤ W.heap.size) := fun W hW => ⟨hr2.below hW hB, Nat.le_trans hB hW.size⟩
  clear hr hr2
  by_cases h0 : crewC l crews = 0
  · obtain ⟨hst, hc1, hc3⟩ := crewC_zero h0
    obtain ⟨m, rfl⟩ : ∃ m : Nat, crews = m := ⟨crews.toNat, by omega⟩
    have H0 := Lib.hid h0
    have Hst := Lib.hid hst
    by_cases hlen : asg.length = l.length
    · have hne : ((asg.length : Int) != (l.length : Int)) = false := by rw [hlen]; simp
      have Hlen := Lib.hid hlen
      cases hok : asg.all fun x => inB x 0 ((m : Int) - 1) with
      | false =>
        have q2 : clC l m asg = 2 := by simp [clC, h0, hlen, crewOk, hok]
        have q1 : clR l m asg = [] := by simp [clR, q2]
        rw [q1, q2]
        have hany : (asg.any fun x => !inB x 0 ((m : Int) - 1)) = true := by rw [any_not_all, hok]; rfl
        have Ha := Lib.hid hany
        clear h0 hst hlen hok q1 q2 hany
        go_enter Try.func27, Try.ntmps27
        go_wp2_with fail
        refine (crewCode_r l m 0 H0.out A B c _ (HR1.out _ (by repeat' (first | (with_reducible exact Below.refl _ _) | (with_reducible assumption) | (with_reducible refine Below.alloc ?_ ?_ _) | (with_reducible refine Below.drew ?_) | (with_reducible refine below_drewN ?_ _) | (with_reducible refine Below.setCell ?_ ?_ _) | (with_reducible refine Below.trans ?_ (Below.mono (by assumption) ?_)) | go_size | (exact Below.size (by assumption))))).1 (HR1.out _ (by repeat' (first | (with_reducible exact Below.refl _ _) | (with_reducible assumption) | (with_reducible refine Below.alloc ?_ ?_ _) | (with_reducible refine Below.drew ?_) | (with_reducible refine below_drewN ?_ _) | (with_reducible refine Below.setCell ?_ ?_ _) | (with_reducible refine Below.trans ?_ (Below.mono (by assumption) ?_)) | go_size | (exact Below.size (by assumption))))).2 hn).mono ?_; rintro e w1 ⟨rfl, b1⟩
        obtain ⟨f1, f2, f3⟩ := bstep (N := w.heap.size + 1) (by go_size) b1
        have b2 : Below w.heap.size w w1 := by repeat' (first | (with_reducible exact Below.refl _ _) | (with_reducible assumption) | (with_reducible refine Below.alloc ?_ ?_ _) | (with_reducible refine Below.drew ?_) | (with_reducible refine below_drewN ?_ _) | (with_reducible refine Below.setCell ?_ ?_ _) | (with_reducible refine Below.trans ?_ (Below.mono (by assumption) ?_)) | go_size | (exact Below.size (by assumption)))
        go_wp2_with (go_at_call 57; refine (conCrew1 asg A' B c' m w.heap.size _ (HR2.out _ (by repeat' (first | (with_reducible exact Below.refl _ _) | (with_reducible assumption) | (with_reducible refine Below.alloc ?_ ?_ _) | (with_reducible refine Below.drew ?_) | (with_reducible refine below_drewN ?_ _) | (with_reducible refine Below.setCell ?_ ?_ _) | (with_reducible refine Below.trans ?_ (Below.mono (by assumption) ?_)) | go_size | (exact Below.size (by assumption))))).1 (HR2.out _ (by repeat' (first | (with_reducible exact Below.refl _ _) | (with_reducible assumption) | (with_reducible refine Below.alloc ?_ ?_ _) | (with_reducible refine Below.drew ?_) | (with_reducible refine below_drewN ?_ _) | (with_reducible refine Below.setCell ?_ ?_ _) | (with_reducible refine Below.trans ?_ (Below.mono (by assumption) ?_)) | go_size | (exact Below.size (by assumption))))).2 hn2 (by omega) (by omega) (by go_cell) (by go_size)).mono ?_; rw [Ha.out]; rintro e w3 ⟨rfl, b3⟩)
        go_ret2
        exact ⟨none, 0, rfl, World.ownsRow_nil _ _ _ _, by repeat' (first | (with_reducible exact Below.refl _ _) | (with_reducible assumption) | (with_reducible refine Below.alloc ?_ ?_ _) | (with_reducible refine Below.drew ?_) | (with_reducible refine below_drewN ?_ _) | (with_reducible refine Below.setCell ?_ ?_ _) | (with_reducible refine Below.trans ?_ (Below.mono (by assumption) ?_)) | go_size | (exact Below.size (by assumption)))⟩
      | true =>
        have q2 : clC l m asg = 0 := by simp [clC, h0, hlen, crewOk, hok]
        have q1 : clR l m asg = ldsUp (timesL l) asg m asg.length := by simp [clR, q2]
        rw [q1, q2]
        have hany : (asg.any fun x => !inB x 0 ((m : Int) - 1)) = false := by rw [any_not_all, hok]; rfl
        have Ha := Lib.hid hany
        have Hle := Lib.hid hlen
        have Hok := Lib.hid hok
        clear h0 hst hlen hok q1 q2 hany
        go_enter Try.func27, Try.ntmps27
        go_wp2_with fail
        refine (crewCode_r l m 0 H0.out A B c _ (HR1.out _ (by repeat' (first | (with_reducible exact Below.refl _ _) | (with_reducible assumption) | (with_reducible refine Below.alloc ?_ ?_ _) | (with_reducible refine Below.drew ?_) | (with_reducible refine below_drewN ?_ _) | (with_reducible refine Below.setCell ?_ ?_ _) | (with_reducible refine Below.trans ?_ (Below.mono (by assumption) ?_)) | go_size | (exact Below.size (by assumption))))).1 (HR1.out _ (by repeat' (first | (with_reducible exact Below.refl _ _) | (with_reducible assumption) | (with_reducible refine Below.alloc ?_ ?_ _) | (with_reducible refine Below.drew ?_) | (with_reducible refine below_drewN ?_ _) | (with_reducible refine Below.setCell ?_ ?_ _) | (with_reducible refine Below.trans ?_ (Below.mono (by assumption) ?_)) | go_size | (exact Below.size (by assumption))))).2 hn).mono ?_; rintro e w1 ⟨rfl, b1⟩
        obtain ⟨f1, f2, f3⟩ := bstep (N := w.heap.size + 1) (by go_size) b1
        have b2 : Below w.heap.size w w1 := by repeat' (first | (with_reducible exact Below.refl _ _) | (with_reducible assumption) | (with_reducible refine Below.alloc ?_ ?_ _) | (with_reducible refine Below.drew ?_) | (with_reducible refine below_drewN ?_ _) | (with_reducible refine Below.setCell ?_ ?_ _) | (with_reducible refine Below.trans ?_ (Below.mono (by assumption) ?_)) | go_size | (exact Below.size (by assumption)))
        go_wp2_with fail
        refine (conCrew1 asg A' B c' m w.heap.size _ (HR2.out _ (by repeat' (first | (with_reducible exact Below.refl _ _) | (with_reducible assumption) | (with_reducible refine Below.alloc ?_ ?_ _) | (with_reducible refine Below.drew ?_) | (with_reducible refine below_drewN ?_ _) | (with_reducible refine Below.setCell ?_ ?_ _) | (with_reducible refine Below.trans ?_ (Below.mono (by assumption) ?_)) | go_size | (exact Below.size (by assumption))))).1 (HR2.out _ (by repeat' (first | (with_reducible exact Below.refl _ _) | (with_reducible assumption) | (with_reducible refine Below.alloc ?_ ?_ _) | (with_reducible refine Below.drew ?_) | (with_reducible refine below_drewN ?_ _) | (with_reducible refine Below.setCell ?_ ?_ _) | (with_reducible refine Below.trans ?_ (Below.mono (by assumption) ?_)) | go_size | (exact Below.size (by assumption))))).2 hn2 (by omega) (by omega) (by go_cell) (by go_size)).mono ?_; rw [Ha.out]; rintro e w3 ⟨rfl, b3⟩
        obtain ⟨g1, g2, g3⟩ := bstep (N := w.heap.size + 1) (by go_size) b3
        have b4 : Below w.heap.size w w3 := by repeat' (first | (with_reducible exact Below.refl _ _) | (with_reducible assumption) | (with_reducible refine Below.alloc ?_ ?_ _) | (with_reducible refine Below.drew ?_) | (with_reducible refine below_drewN ?_ _) | (with_reducible refine Below.setCell ?_ ?_ _) | (with_reducible refine Below.trans ?_ (Below.mono (by assumption) ?_)) | go_size | (exact Below.size (by assumption)))
        have lt := timesL_length l
        have h12 := stopsB_len Hst.out
        have Hlt := Lib.hid lt
        clear lt
        go_wp2_with fail
        go_region_with ((first | (go_at_call 53; refine (stopTimes_any l Hst.out A B c _ (HR1.out _ (by repeat' (first | (with_reducible exact Below.refl _ _) | (with_reducible assumption) | (with_reducible refine Below.alloc ?_ ?_ _) | (with_reducible refine Below.drew ?_) | (with_reducible refine below_drewN ?_ _) | (with_reducible refine Below.setCell ?_ ?_ _) | (with_reducible refine Below.trans ?_ (Below.mono (by assumption) ?_)) | go_size | (exact Below.size (by assumption))))).1 (HR1.out _ (by repeat' (first | (with_reducible exact Below.refl _ _) | (with_reducible assumption) | (with_reducible refine Below.alloc ?_ ?_ _) | (with_reducible refine Below.drew ?_) | (with_reducible refine below_drewN ?_ _) | (with_reducible refine Below.setCell ?_ ?_ _) | (with_reducible refine Below.trans ?_ (Below.mono (by assumption) ?_)) | go_size | (exact Below.size (by assumption))))).2).mono ?_; rintro e w5 ⟨At, ct, rfl, ot, b5⟩; obtain ⟨k1, k2, k3⟩ := bstep (N := w.heap.size + 1) (by go_size) b5; have rt := Lib.hid (Rd.of_own ot); clear ot) | (go_at_call 59; refine (loadsOf_any (timesL l) asg m (by omega) (by rw [Hlt.out, Hle.out]; exact Nat.le_refl _) (by rw [Hlt.out]; omega) (timesL_at Hst.out) (fun k c hk => crewOk_at (crews := m) Hok.out hk) _ _ _ _ _ _ rt.out ((HR2.out _ (by repeat' (first | (with_reducible exact Below.refl _ _) | (with_reducible assumption) | (with_reducible refine Below.alloc ?_ ?_ _) | (with_reducible refine Below.drew ?_) | (with_reducible refine below_drewN ?_ _) | (with_reducible refine Below.setCell ?_ ?_ _) | (with_reducible refine Below.trans ?_ (Below.mono (by assumption) ?_)) | go_size | (exact Below.size (by assumption))))).1.more (by go_size)) (by go_size)).mono ?_; rintro e w7 ⟨A3, c3, rfl, o3, b7⟩; have O3 := Lib.hid o3; clear o3)))
        all_goals go_wp2
        all_goals go_ret2
        all_goals rw [ldsUp_length]
        all_goals exact ⟨A3, c3, rfl, own_more O3.out (by go_size), by repeat' (first | (with_reducible exact Below.refl _ _) | (with_reducible assumption) | (with_reducible refine Below.alloc ?_ ?_ _) | (with_reducible refine Below.drew ?_) | (with_reducible refine below_drewN ?_ _) | (with_reducible refine Below.setCell ?_ ?_ _) | (with_reducible refine Below.trans ?_ (Below.mono (by assumption) ?_)) | go_size | (exact Below.size (by assumption)))⟩
    · have hne : ((asg.length : Int) != (l.length : Int)) = true := by simp; omega
      have q2 : clC l m asg = 2 := by simp [clC, h0, hlen]
      have q1 : clR l m asg = [] := by simp [clR, q2]
      rw [q1, q2]
      clear h0 hst hlen q1 q2
      go_enter Try.func27, Try.ntmps27
      go_wp2_with (go_at_call 56; refine (crewCode_r l m 0 H0.out A B c _ (HR1.out _ (by repeat' (first | (with_reducible exact Below.refl _ _) | (with_reducible assumption) | (with_reducible refine Below.alloc ?_ ?_ _) | (with_reducible refine Below.drew ?_) | (with_reducible refine below_drewN ?_ _) | (with_reducible refine Below.setCell ?_ ?_ _) | (with_reducible refine Below.trans ?_ (Below.mono (by assumption) ?_)) | go_size | (exact Below.size (by assumption))))).1 (HR1.out _ (by repeat' (first | (with_reducible exact Below.refl _ _) | (with_reducible assumption) | (with_reducible refine Below.alloc ?_ ?_ _) | (with_reducible refine Below.drew ?_) | (with_reducible refine below_drewN ?_ _) | (with_reducible refine Below.setCell ?_ ?_ _) | (with_reducible refine Below.trans ?_ (Below.mono (by assumption) ?_)) | go_size | (exact Below.size (by assumption))))).2 hn).mono ?_; rintro e w1 ⟨rfl, b1⟩)
      go_ret2
      exact ⟨none, 0, rfl, World.ownsRow_nil _ _ _ _, by repeat' (first | (with_reducible exact Below.refl _ _) | (with_reducible assumption) | (with_reducible refine Below.alloc ?_ ?_ _) | (with_reducible refine Below.drew ?_) | (with_reducible refine below_drewN ?_ _) | (with_reducible refine Below.setCell ?_ ?_ _) | (with_reducible refine Below.trans ?_ (Below.mono (by assumption) ?_)) | go_size | (exact Below.size (by assumption)))⟩
  · have q2 : clC l crews asg = crewC l crews := by simp [clC, h0]
    have q1 : clR l crews asg = [] := by simp [clR, q2, h0]
    rw [q1, q2]
    have hb1 : (crewC l crews != 0) = true := by simpa using h0
    clear h0 q1 q2
    go_enter Try.func27, Try.ntmps27
    go_wp2_with (go_at_call 56; refine (crewCode_any l crews A B c _ (HR1.out _ (by repeat' (first | (with_reducible exact Below.refl _ _) | (with_reducible assumption) | (with_reducible refine Below.alloc ?_ ?_ _) | (with_reducible refine Below.drew ?_) | (with_reducible refine below_drewN ?_ _) | (with_reducible refine Below.setCell ?_ ?_ _) | (with_reducible refine Below.trans ?_ (Below.mono (by assumption) ?_)) | go_size | (exact Below.size (by assumption))))).1 (HR1.out _ (by repeat' (first | (with_reducible exact Below.refl _ _) | (with_reducible assumption) | (with_reducible refine Below.alloc ?_ ?_ _) | (with_reducible refine Below.drew ?_) | (with_reducible refine below_drewN ?_ _) | (with_reducible refine Below.setCell ?_ ?_ _) | (with_reducible refine Below.trans ?_ (Below.mono (by assumption) ?_)) | go_size | (exact Below.size (by assumption))))).2 hn).mono ?_; rintro e w1 ⟨rfl, b1⟩)
    go_ret2
    exact ⟨none, 0, rfl, World.ownsRow_nil _ _ _ _, by repeat' (first | (with_reducible exact Below.refl _ _) | (with_reducible assumption) | (with_reducible refine Below.alloc ?_ ?_ _) | (with_reducible refine Below.drew ?_) | (with_reducible refine below_drewN ?_ _) | (with_reducible refine Below.setCell ?_ ?_ _) | (with_reducible refine Below.trans ?_ (Below.mono (by assumption) ?_)) | go_size | (exact Below.size (by assumption)))⟩

end Go.Proofs.Ytmeppemobogicaa
