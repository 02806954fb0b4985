/- AreLocks of the program: a walk. -/
import Derived.Test.YtmbchcenclfjoaaLk
namespace Go.Proofs.Ytmbchcenclfjoaa
open Go.ChangeShapes Go.WideShapes Go.ChangeAt Go.RowKit
set_option linter.unusedVariables false
set_option linter.unusedSimpArgs false
theorem containsLock_k (l : List (Int × Int)) (A : Option Addr) (B c : Nat) (v : Int × Int) (k : Nat) (w : World) (hr : Rd w B A ((l.take k).flatMap eLock)) (hB : B ≤ w.heap.size) (hn : l.length ≤ 1048576) (hl : (l.take k).length = k) (hk : k ≤ l.length) :
   Calls Try.prog 66 #[.slice A k c, .agg #[.int .i64 v.1, .int .i64 v.2]] w fun e w' => e = .returned (.bool ((l.take k).any (· == v))) ∧ Below w.heap.size w w' := by
  have h := containsLock_any (l.take k) A B c v w hr hB (by omega)
  rw [hl] at h
  exact h
theorem isLock_r (a b : Int) (r : Bool) (h : lockB (a, b) = r) (w : World) : Calls Try.prog 65 #[.agg #[.int .i64 a, .int .i64 b]] w fun e w' => e = .returned (.bool r) ∧ Below w.heap.size w w' := h ▸ isLock_any a b w
set_option maxHeartbeats 2000000 in
theorem areLocks_impl (l : List (Int × Int)) (A : Option Addr) (B c : Nat) (w : World) (hr : Rd w B A (l.flatMap eLock)) (hB : B ≤ w.heap.size) (hlc : l.length ≤ c) (hn : l.length ≤ 1048576) :
   Calls Try.prog 23 #[.slice A l.length c] w fun e w' => e = .returned (.bool (locksB l)) ∧ Below w.heap.size w w' := by
  go_enter Try.func23, Try.ntmps23
  go_wp2_with fail
  go_loopw [7] (fun i wr => ∃ k : Nat, k ≤ l.length ∧ i = .int .i64 k ∧ locksUp l k = true ∧ Below w.heap.size w wr) (fun i _ => l.length - (intOf i).toNat)
  case atStart => exact ⟨0, Nat.zero_le _, rfl, rfl, Below.refl _ _⟩
  case round =>
    obtain ⟨k, hk, rfl, hall, hbw⟩ := hrel
    have hsz := hbw.size
    by_cases hlt : k < l.length
    · have ht := List.getElem?_eq_getElem hlt
      generalize l[k] = t at ht
      have hr' := hr.below hbw hB
      obtain ⟨b, o, rfl, hbB, c0, c1⟩ := hr'.atLock ht
      have Ht := Lib.hid ht
      have Ha := Lib.hid hall
      have Hr := Lib.hid hr
      have Hr' := Lib.hid hr'
      clear ht hall hr hr'
      cases hg : lockB (t.1, t.2) with
      | false =>
        have Hg := Lib.hid hg
        clear hg
        go_wp2_with fail
        (first | go_region_with ((go_at_call 65; refine (isLock_r _ _ false Hg.out _).mono ?_; rintro e w2 ⟨rfl, hb⟩; obtain ⟨hc, hf, hz2⟩ := bstep (N := wr.heap.size + 1) (by go_size) hb)) | (fail))
        all_goals go_wp2
        all_goals go_ret
        all_goals exact ⟨ret_bool (locksB_false Ht.out (by rw [okLk, Hg.out, Bool.false_and])).symm, by repeat' (first | (with_reducible exact Below.refl _ _) | (with_reducible assumption) | (with_reducible refine Below.alloc ?_ ?_ _) | (with_reducible refine Below.drew ?_) | (with_reducible refine below_drewN ?_ _) | (with_reducible refine Below.setCell ?_ ?_ _) | (with_reducible refine Below.trans ?_ (Below.mono (by assumption) ?_)) | go_size | (exact Below.size (by assumption)))⟩
      | true =>
        have Hg := Lib.hid hg
        clear hg
        go_wp2_with fail
        have Hr2 : Hid (∀ W, Below wr.heap.size wr W → Rd W B (some ⟨b, o, none⟩) ((l.take k).flatMap eLock)) := fun W hW => rd_take (Hr'.out.below hW (by omega)) k
        have hlt2 : (l.take k).length = k := by simp; omega
        have Hl := Lib.hid hlt2
        clear hlt2
        (first | go_region_with ((first | (go_at_call 65; refine (isLock_r _ _ true Hg.out _).mono ?_; rintro e w2 ⟨rfl, hb⟩; obtain ⟨hc, hf, hz2⟩ := bstep (N := wr.heap.size + 1) (by go_size) hb) | (go_at_call 66; refine (containsLock_k l _ B c t k _ (Hr2.out _ (by repeat' (first | (with_reducible exact Below.refl _ _) | (with_reducible assumption) | (with_reducible refine Below.alloc ?_ ?_ _) | (with_reducible refine Below.drew ?_) | (with_reducible refine below_drewN ?_ _) | (with_reducible refine Below.setCell ?_ ?_ _) | (with_reducible refine Below.trans ?_ (Below.mono (by assumption) ?_)) | go_size | (exact Below.size (by assumption))))) (by omega) hn Hl.out hk).mono ?_; rintro e w3 ⟨rfl, hb3⟩))) | (fail))
        all_goals cases ha : (l.take k).any (· == t)
        all_goals go_wp2
        · go_roundw
          case rel => exact ⟨k + 1, by omega, by go_num, by rw [locksUp_step Ht.out, Ha.out, okLk, ha, Hg.out]; rfl, by repeat' (first | (with_reducible exact Below.refl _ _) | (with_reducible assumption) | (with_reducible refine Below.alloc ?_ ?_ _) | (with_reducible refine Below.drew ?_) | (with_reducible refine below_drewN ?_ _) | (with_reducible refine Below.setCell ?_ ?_ _) | (with_reducible refine Below.trans ?_ (Below.mono (by assumption) ?_)) | go_size | (exact Below.size (by assumption)))⟩
          case measure => simp [intOf]; omega
        · go_ret
          exact ⟨ret_bool (locksB_false Ht.out (by rw [okLk, ha]; simp)).symm, by repeat' (first | (with_reducible exact Below.refl _ _) | (with_reducible assumption) | (with_reducible refine Below.alloc ?_ ?_ _) | (with_reducible refine Below.drew ?_) | (with_reducible refine below_drewN ?_ _) | (with_reducible refine Below.setCell ?_ ?_ _) | (with_reducible refine Below.trans ?_ (Below.mono (by assumption) ?_)) | go_size | (exact Below.size (by assumption)))⟩
        · go_roundw
          case rel => exact ⟨k + 1, by omega, by go_num, by rw [locksUp_step Ht.out, Ha.out, okLk, ha, Hg.out]; rfl, by repeat' (first | (with_reducible exact Below.refl _ _) | (with_reducible assumption) | (with_reducible refine Below.alloc ?_ ?_ _) | (with_reducible refine Below.drew ?_) | (with_reducible refine below_drewN ?_ _) | (with_reducible refine Below.setCell ?_ ?_ _) | (with_reducible refine Below.trans ?_ (Below.mono (by assumption) ?_)) | go_size | (exact Below.size (by assumption)))⟩
          case measure => simp [intOf]; omega
        · go_ret
          exact ⟨ret_bool (locksB_false Ht.out (by rw [okLk, ha]; simp)).symm, by repeat' (first | (with_reducible exact Below.refl _ _) | (with_reducible assumption) | (with_reducible refine Below.alloc ?_ ?_ _) | (with_reducible refine Below.drew ?_) | (with_reducible refine below_drewN ?_ _) | (with_reducible refine Below.setCell ?_ ?_ _) | (with_reducible refine Below.trans ?_ (Below.mono (by assumption) ?_)) | go_size | (exact Below.size (by assumption)))⟩
    · have hk' : k = l.length := by omega
      subst hk'
      have Ha := Lib.hid hall
      clear hall
      go_wp2
      go_ret
      exact ⟨ret_bool (by rw [locksB, Ha.out, Bool.true_and]; exact decide_eq_decide.2 (by omega)), by repeat' (first | (with_reducible exact Below.refl _ _) | (with_reducible assumption) | (with_reducible refine Below.alloc ?_ ?_ _) | (with_reducible refine Below.drew ?_) | (with_reducible refine below_drewN ?_ _) | (with_reducible refine Below.setCell ?_ ?_ _) | (with_reducible refine Below.trans ?_ (Below.mono (by assumption) ?_)) | go_size | (exact Below.size (by assumption)))⟩
end Go.Proofs.Ytmbchcenclfjoaa
