/- FirstOverspeed and IsWithinLimits: walks of the program and of the reference. -/
import Derived.Test.YtooifamckccadaaLm
namespace Go.Proofs.Ytooifamckccadaa
open Go.ChangeShapes Go.WideShapes Go.ChangeAt Go.RowKit
set_option maxRecDepth 20000
set_option linter.unusedVariables false
set_option linter.unusedSimpArgs false
theorem foC_bad {ls : List Seg} {on lim : List Int} {f n lo hi : Int} (h : rcC ls f n lo hi on ≠ 0) : foC ls on lim f n lo hi = rcC ls f n lo hi on := by
  unfold foC alC
  rw [if_neg h]
  unfold rcC at h ⊢
  by_cases h1 : (layB ls && enB lo hi) = true
  · simp only [h1, if_true] at h ⊢
    by_cases h2 : (runB ls f n && devB ls on) = true
    · simp [h2] at h
    · simp [h2]
  · simp [h1]
theorem foC_lim {ls : List Seg} {on lim : List Int} {f n lo hi : Int} (h : (layB ls && enB lo hi) = true) (hl : limB ls lim = false) : foC ls on lim f n lo hi = 2 := by
  simp [foC, h, hl]
theorem foC_al {ls : List Seg} {on lim : List Int} {f n lo hi : Int} (h : (layB ls && enB lo hi) = true) (hl : limB ls lim = true) : foC ls on lim f n lo hi = alC ls on f n lo hi := by
  simp [foC, h, hl]
theorem rc_and {ls : List Seg} {on : List Int} {f n lo hi : Int} (h : rcC ls f n lo hi on = 0) : (layB ls && enB lo hi) = true := by
  rw [(rcC_zero h).1, (rcC_zero h).2.1]; rfl
theorem ov_step {lim : List Int} {f : Nat} {l : List Ivl} {k : Nat} (h : ∀ j, j < k → ovT lim f l j = false) (hk : ovT lim f l k = false) : ∀ j, j < k + 1 → ovT lim f l j = false := by
  intro j hj
  rcases Nat.lt_or_ge j k with h1 | h1
  · exact h j h1
  · rw [show j = k by omega]; exact hk
set_option maxHeartbeats 2000000 in
theorem over_impl (ls : List Seg) (on lim : List Int) (f n lo hi : Int) (A : Option Addr) (B c : Nat) (A' : Option Addr) (c' : Nat) (A3 : Option Addr) (c3 : Nat) (w : World) (hs : Rd w B A (ls.flatMap eSegment)) (hr : Rd w B A' (ints on)) (hl : Rd w B A3 (ints lim)) (hB : B ≤ w.heap.size) (hn : ls.length ≤ 1048576) (hn2 : on.length ≤ 1048576) (hn3 : lim.length ≤ 1048576) :
   Calls Try.prog 54 #[.agg #[.slice A ls.length c], .slice A3 lim.length c3, .int .i64 f, .int .i64 n, .agg #[.int .i64 lo, .int .i64 hi], .slice A' on.length c'] w fun e w' => e = .returned (.tuple #[.int .i64 (foV ls on lim f n lo hi), .int .i64 (foC ls on lim f n lo hi)]) ∧ Below w.heap.size w w' := by
  have Hs := Lib.hid ((hs.alloc hB (.cells #[.slice A ls.length c] 26)).alloc (by simp; omega) (.cells #[.int .i64 lo, .int .i64 hi] 29))
  have Hr := Lib.hid ((hr.alloc hB (.cells #[.slice A ls.length c] 26)).alloc (by simp; omega) (.cells #[.int .i64 lo, .int .i64 hi] 29))
  have Hl := Lib.hid ((hl.alloc hB (.cells #[.slice A ls.length c] 26)).alloc (by simp; omega) (.cells #[.int .i64 lo, .int .i64 hi] 29))
  have hS : B ≤ ((w.alloc (.cells #[.slice A ls.length c] 26)).alloc (.cells #[.int .i64 lo, .int .i64 hi] 29)).heap.size := by simp; omega
  clear hs hr hl
  have HC := Lib.hid (fun (w' : World) (h : Rd w' B A (ls.flatMap eSegment)) (h2 : Rd w' B A' (ints on)) (h3 : B ≤ w'.heap.size) => runCode_impl ls on f n lo hi A B c A' c' w' h h2 h3 hn hn2)
  have HL := Lib.hid (fun (w' : World) (h : Rd w' B A3 (ints lim)) (h3 : B ≤ w'.heap.size) => areLimits_any ls lim A B c A3 c3 w' h h3 hn hn3)
  by_cases h0 : rcC ls f n lo hi on = 0
  · have hla := rc_and h0
    cases hlm : limB ls lim with
    | false =>
      have q1 := foC_lim (on := on) (f := f) (n := n) hla hlm
      have q2 : foV ls on lim f n lo hi = 0 := by rw [foV, q1]; rfl
      rw [q1, q2]
      rw [h0] at HC
      rw [hlm] at HL
      clear h0 hla hlm q1 q2
      go_enter Try.func54, Try.ntmps54
      go_wp2_with (first | (go_at_call 119; refine (HC.out _ (by exact Hs.out) (by exact Hr.out) (by exact hS)).mono ?_; rintro e w1 ⟨rfl, b1⟩; have Hs1 := Lib.hid (Hs.out.below b1 hS); have Hr1 := Lib.hid (Hr.out.below b1 hS); have Hl1 := Lib.hid (Hl.out.below b1 hS); have hS1 := Nat.le_trans hS b1.size; obtain ⟨hc1, hf1, hz1⟩ := bstep (N := w.heap.size + 2) (by go_size) b1; have hy1 : w.heap.size < w1.heap.size := (by omega); have hx1 : w.heap.size + 1 < w1.heap.size := (by omega)) | (go_at_call 125; refine (HL.out _ (by exact Hl1.out) (by exact hS1)).mono ?_; rintro e w2 ⟨rfl, b2⟩; have Hs2 := Lib.hid (Hs1.out.below b2 hS1); have Hr2 := Lib.hid (Hr1.out.below b2 hS1); have Hl2 := Lib.hid (Hl1.out.below b2 hS1); have hS2 := Nat.le_trans hS1 b2.size; obtain ⟨hc2, hf2, hz2⟩ := bstep (N := w.heap.size + 2) (by go_size) b2; have hy2 : w.heap.size < w2.heap.size := (by omega); have hx2 : w.heap.size + 1 < w2.heap.size := (by omega)))
      refine bodyPost_ret (v := .tuple #[.int .i64 0, .int .i64 2]) (by simp [results, Try.results54, go_sem, *]) rfl ?_
      exact ⟨rfl, by repeat' (first | (with_reducible exact Below.refl _ _) | (with_reducible assumption) | (with_reducible refine Below.alloc ?_ ?_ _) | (with_reducible refine Below.drew ?_) | (with_reducible refine below_drewN ?_ _) | (with_reducible refine Below.setCell ?_ ?_ _) | (with_reducible refine Below.trans ?_ (Below.mono (by assumption) ?_)) | go_size | (exact Below.size (by assumption)))⟩
    | true =>
      have hat := fun (j : Nat) (m : Int) (h : lim[j]? = some m) => lim_at hlm h
      have hll := lim_len hlm
      have Hat := Lib.hid hat
      obtain ⟨hl, he, hrun, hd⟩ := rcC_zero h0
      obtain ⟨_, hlen3, hlen24⟩ := lay_all hl
      have hlp : 0 < lim.length := by omega
      clear hll
      obtain ⟨f', n', rfl, rfl, h24, hf⟩ := run_nat hrun
      have HA := Lib.hid (fun (w' : World) (h : Rd w' B A (ls.flatMap eSegment)) (h2 : Rd w' B A' (ints on)) (h3 : B ≤ w'.heap.size) => activeAlong_any ls on n' f' lo hi hl he h24 hf A A' B c c' w' h h2 h3 hn2)
      have hlen : (runP ls on n' f' (lo, hi)).1.length ≤ 24 := by have := runP_len ls on n' f' (lo, hi); omega
      have hrn : rnP ls on (f' : Int) (n' : Int) lo hi = runP ls on n' f' (lo, hi) := by simp [rnP]
      have q0 := foC_al (on := on) (f := (f' : Int)) (n := (n' : Int)) hla hlm
      rw [alC, if_pos h0, hrn] at q0
      have q2 : foV ls on lim (f' : Int) (n' : Int) lo hi = if (runP ls on n' f' (lo, hi)).2 = 0 then ovF lim f' (runP ls on n' f' (lo, hi)).1 else 0 := by
        rw [foV, q0]
        by_cases h5 : (runP ls on n' f' (lo, hi)).2 = 0
        · rw [if_pos h5, if_pos h5, alR, alC, if_pos h0, hrn, if_pos h5, Int.toNat_natCast]
        · rw [if_neg h5, if_neg h5]
      rw [q0, q2]
      rw [h0] at HC
      rw [hlm] at HL
      clear h0 hla hlm q0 q2 hrn hat hl he hrun hd
      generalize runP ls on n' f' (lo, hi) = R at *
      obtain ⟨L, C⟩ := R
      dsimp only at *
      by_cases h5 : C = 0
      · subst h5
        rw [if_pos rfl]
        go_enter Try.func54, Try.ntmps54
        go_wp2_with (first | (go_at_call 119; refine (HC.out _ (by exact Hs.out) (by exact Hr.out) (by exact hS)).mono ?_; rintro e w1 ⟨rfl, b1⟩; have Hs1 := Lib.hid (Hs.out.below b1 hS); have Hr1 := Lib.hid (Hr.out.below b1 hS); have Hl1 := Lib.hid (Hl.out.below b1 hS); have hS1 := Nat.le_trans hS b1.size; obtain ⟨hc1, hf1, hz1⟩ := bstep (N := w.heap.size + 2) (by go_size) b1; have hy1 : w.heap.size < w1.heap.size := (by omega); have hx1 : w.heap.size + 1 < w1.heap.size := (by omega)) | (go_at_call 125; refine (HL.out _ (by exact Hl1.out) (by exact hS1)).mono ?_; rintro e w2 ⟨rfl, b2⟩; have Hs2 := Lib.hid (Hs1.out.below b2 hS1); have Hr2 := Lib.hid (Hr1.out.below b2 hS1); have Hl2 := Lib.hid (Hl1.out.below b2 hS1); have hS2 := Nat.le_trans hS1 b2.size; obtain ⟨hc2, hf2, hz2⟩ := bstep (N := w.heap.size + 2) (by go_size) b2; have hy2 : w.heap.size < w2.heap.size := (by omega); have hx2 : w.heap.size + 1 < w2.heap.size := (by omega)) | (go_at_call 78; refine (HA.out _ (by exact Hs2.out) (by exact Hr2.out) (by exact hS2)).mono ?_; rintro e w3 ⟨A2, c2, rfl, o2, b3⟩; have R2 := Lib.hid (Rd.of_own o2); clear o2; have Hs3 := Lib.hid (Hs2.out.below b3 hS2); have Hr3 := Lib.hid (Hr2.out.below b3 hS2); have Hl3 := Lib.hid (Hl2.out.below b3 hS2); have hS3 := Nat.le_trans hS2 b3.size; obtain ⟨hc3, hf3, hz3⟩ := bstep (N := w.heap.size + 2) (by go_size) b3; have hy3 : w.heap.size < w3.heap.size := (by omega); have hx3 : w.heap.size + 1 < w3.heap.size := (by omega)))
        have Hlx := Hl3
        have hSx : B ≤ w3.heap.size := hS3
        clear HA HC HL hc1 hf1 hc2 hf2 hc3 hf3
        have hbw : Below w.heap.size w w3 := by repeat' (first | (with_reducible exact Below.refl _ _) | (with_reducible assumption) | (with_reducible refine Below.alloc ?_ ?_ _) | (with_reducible refine Below.drew ?_) | (with_reducible refine below_drewN ?_ _) | (with_reducible refine Below.setCell ?_ ?_ _) | (with_reducible refine Below.trans ?_ (Below.mono (by assumption) ?_)) | go_size | (exact Below.size (by assumption)))
        have Hlm := Hlx
        go_loopw [48] (fun i wr => ∃ k : Nat, k ≤ L.length ∧ i = .int .i64 k ∧ (∀ j, j < k → ovT lim f' L j = false) ∧ Below w3.heap.size w3 wr) (fun i _ => L.length - (intOf i).toNat)
        case atStart => exact ⟨0, Nat.zero_le _, rfl, fun j hj => by omega, Below.refl _ _⟩
        case round =>
          obtain ⟨k, hk, rfl, hov, hb9⟩ := hrel
          have hz9 := hb9.size
          by_cases hlt : k < L.length
          · have ht := List.getElem?_eq_getElem hlt
            generalize L[k] = t at ht
            have hm := Nat.mod_lt (f' + k) (show 0 < lim.length by omega)
            have e2 := tmod_nat (f' + k) lim.length
            have hu := List.getElem?_eq_getElem hm
            generalize lim[(f' + k) % lim.length] = m at hu
            have hov1 := ovT_at ht hu
            obtain ⟨b, o, rfl, hbB, d0, d1⟩ := (R2.out.below hb9 (Nat.le_refl _)).atInterval ht
            have hmb := Hat.out _ _ hu
            generalize (f' + k) % lim.length = j at hm e2 hu
            obtain ⟨bL, oL, rfl, hbLB, d3⟩ := (Hlm.out.below hb9 hSx).int hu
            have e3 : ((f' : Int) + (k : Int)) % (lim.length : Int) = (j : Int) := by rw [← e2, ← Int.natCast_add]; exact (Int.tmod_eq_emod_of_nonneg (by omega)).symm
            have hbLw : bL < wr.heap.size := by omega
            have hbLn : bL ≠ wr.heap.size := by omega
            have e4 := sq_wrap hmb.1 hmb.2
            have hi0 : (0 : Int) ≤ (k : Int) := by omega
            have hi1 : (k : Int) < (L.length : Int) := by omega
            have hj0 : (0 : Int) ≤ (j : Int) := by omega
            have hj1 : (j : Int) < (lim.length : Int) := by omega
            have hne : ((lim.length : Int) == 0) = false := by rw [beq_eq_false_iff_ne]; omega
            have Hov := Lib.hid hov
            have Hov1 := Lib.hid hov1
            clear ht hu hov hov1 e2 hmb
            by_cases hc : m * m < t.2
            · have Hc := Lib.hid hc
              go_wp2_with (go_at_call 126; refine (length_i64 _ _ _ (by omega) _).mono ?_; rintro e w' ⟨rfl, rfl⟩)
              refine bodyPost_ret (v := .tuple #[.int .i64 (k : Int), .int .i64 0]) (by simp [results, Try.results54, go_sem, *]) rfl ?_
              rw [ovF_here hlt Hov.out (by rw [Hov1.out]; exact decide_eq_true Hc.out)]
              exact ⟨rfl, by repeat' (first | (with_reducible exact Below.refl _ _) | (with_reducible assumption) | (with_reducible refine Below.alloc ?_ ?_ _) | (with_reducible refine Below.drew ?_) | (with_reducible refine below_drewN ?_ _) | (with_reducible refine Below.setCell ?_ ?_ _) | (with_reducible refine Below.trans ?_ (Below.mono (by assumption) ?_)) | go_size | (exact Below.size (by assumption)))⟩
            · have Hc := Lib.hid (decide_eq_false hc)
              go_wp2_with (go_at_call 126; refine (length_i64 _ _ _ (by omega) _).mono ?_; rintro e w' ⟨rfl, rfl⟩)
              go_roundw
              case rel => exact ⟨k + 1, by omega, by go_num, ov_step Hov.out (by rw [Hov1.out]; exact Hc.out), by repeat' (first | (with_reducible exact Below.refl _ _) | (with_reducible assumption) | (with_reducible refine Below.alloc ?_ ?_ _) | (with_reducible refine Below.drew ?_) | (with_reducible refine below_drewN ?_ _) | (with_reducible refine Below.setCell ?_ ?_ _) | (with_reducible refine Below.trans ?_ (Below.mono (by assumption) ?_)) | go_size | (exact Below.size (by assumption)))⟩
              case measure => simp [intOf]; omega
          · have hk' : k = L.length := by omega
            subst hk'
            have hnone := ovF_none hov
            have Hnone := Lib.hid hnone
            clear hov hnone R2
            go_wp2
            refine bodyPost_ret (v := .tuple #[.int .i64 (-1), .int .i64 0]) (by simp [results, Try.results54, go_sem, *]) rfl ?_
            rw [Hnone.out]
            exact ⟨rfl, by repeat' (first | (with_reducible exact Below.refl _ _) | (with_reducible assumption) | (with_reducible refine Below.alloc ?_ ?_ _) | (with_reducible refine Below.drew ?_) | (with_reducible refine below_drewN ?_ _) | (with_reducible refine Below.setCell ?_ ?_ _) | (with_reducible refine Below.trans ?_ (Below.mono (by assumption) ?_)) | go_size | (exact Below.size (by assumption)))⟩
      · rw [if_neg h5]
        have h5b : (C != 0) = true := by simpa using h5
        go_enter Try.func54, Try.ntmps54
        go_wp2_with (first | (go_at_call 119; refine (HC.out _ (by exact Hs.out) (by exact Hr.out) (by exact hS)).mono ?_; rintro e w1 ⟨rfl, b1⟩; have Hs1 := Lib.hid (Hs.out.below b1 hS); have Hr1 := Lib.hid (Hr.out.below b1 hS); have Hl1 := Lib.hid (Hl.out.below b1 hS); have hS1 := Nat.le_trans hS b1.size; obtain ⟨hc1, hf1, hz1⟩ := bstep (N := w.heap.size + 2) (by go_size) b1; have hy1 : w.heap.size < w1.heap.size := (by omega); have hx1 : w.heap.size + 1 < w1.heap.size := (by omega)) | (go_at_call 125; refine (HL.out _ (by exact Hl1.out) (by exact hS1)).mono ?_; rintro e w2 ⟨rfl, b2⟩; have Hs2 := Lib.hid (Hs1.out.below b2 hS1); have Hr2 := Lib.hid (Hr1.out.below b2 hS1); have Hl2 := Lib.hid (Hl1.out.below b2 hS1); have hS2 := Nat.le_trans hS1 b2.size; obtain ⟨hc2, hf2, hz2⟩ := bstep (N := w.heap.size + 2) (by go_size) b2; have hy2 : w.heap.size < w2.heap.size := (by omega); have hx2 : w.heap.size + 1 < w2.heap.size := (by omega)) | (go_at_call 78; refine (HA.out _ (by exact Hs2.out) (by exact Hr2.out) (by exact hS2)).mono ?_; rintro e w3 ⟨A2, c2, rfl, o2, b3⟩; have R2 := Lib.hid (Rd.of_own o2); clear o2; have Hs3 := Lib.hid (Hs2.out.below b3 hS2); have Hr3 := Lib.hid (Hr2.out.below b3 hS2); have Hl3 := Lib.hid (Hl2.out.below b3 hS2); have hS3 := Nat.le_trans hS2 b3.size; obtain ⟨hc3, hf3, hz3⟩ := bstep (N := w.heap.size + 2) (by go_size) b3; have hy3 : w.heap.size < w3.heap.size := (by omega); have hx3 : w.heap.size + 1 < w3.heap.size := (by omega)))
        refine bodyPost_ret (v := .tuple #[.int .i64 0, .int .i64 C]) (by simp [results, Try.results54, go_sem, *]) rfl ?_
        exact ⟨rfl, by repeat' (first | (with_reducible exact Below.refl _ _) | (with_reducible assumption) | (with_reducible refine Below.alloc ?_ ?_ _) | (with_reducible refine Below.drew ?_) | (with_reducible refine below_drewN ?_ _) | (with_reducible refine Below.setCell ?_ ?_ _) | (with_reducible refine Below.trans ?_ (Below.mono (by assumption) ?_)) | go_size | (exact Below.size (by assumption)))⟩
  · have q1 := foC_bad (lim := lim) h0
    have q2 : foV ls on lim f n lo hi = 0 := by rw [foV, q1, if_neg h0]
    rw [q1, q2]
    generalize rcC ls f n lo hi on = R at *
    have h5b : (R != 0) = true := by simpa using h0
    clear q1 q2
    go_enter Try.func54, Try.ntmps54
    go_wp2_with (first | (go_at_call 119; refine (HC.out _ (by exact Hs.out) (by exact Hr.out) (by exact hS)).mono ?_; rintro e w1 ⟨rfl, b1⟩; have Hs1 := Lib.hid (Hs.out.below b1 hS); have Hr1 := Lib.hid (Hr.out.below b1 hS); have Hl1 := Lib.hid (Hl.out.below b1 hS); have hS1 := Nat.le_trans hS b1.size; obtain ⟨hc1, hf1, hz1⟩ := bstep (N := w.heap.size + 2) (by go_size) b1; have hy1 : w.heap.size < w1.heap.size := (by omega); have hx1 : w.heap.size + 1 < w1.heap.size := (by omega)))
    refine bodyPost_ret (v := .tuple #[.int .i64 0, .int .i64 R]) (by simp [results, Try.results54, go_sem, *]) rfl ?_
    exact ⟨rfl, by repeat' (first | (with_reducible exact Below.refl _ _) | (with_reducible assumption) | (with_reducible refine Below.alloc ?_ ?_ _) | (with_reducible refine Below.drew ?_) | (with_reducible refine below_drewN ?_ _) | (with_reducible refine Below.setCell ?_ ?_ _) | (with_reducible refine Below.trans ?_ (Below.mono (by assumption) ?_)) | go_size | (exact Below.size (by assumption)))⟩
set_option maxHeartbeats 2000000 in
theorem over_spec (ls : List Seg) (on lim : List Int) (f n lo hi : Int) (A : Option Addr) (B c : Nat) (A' : Option Addr) (c' : Nat) (A3 : Option Addr) (c3 : Nat) (w : World) (hs : Rd w B A (ls.flatMap eSegment)) (hr : Rd w B A' (ints on)) (hl : Rd w B A3 (ints lim)) (hB : B ≤ w.heap.size) (hn : ls.length ≤ 1048576) (hn2 : on.length ≤ 1048576) (hn3 : lim.length ≤ 1048576) :
   Calls Try.prog 53 #[.agg #[.slice A ls.length c], .slice A3 lim.length c3, .int .i64 f, .int .i64 n, .agg #[.int .i64 lo, .int .i64 hi], .slice A' on.length c'] w fun e w' => e = .returned (.tuple #[.int .i64 (foV ls on lim f n lo hi), .int .i64 (foC ls on lim f n lo hi)]) ∧ Below w.heap.size w w' := by
  have Hs := Lib.hid ((hs.alloc hB (.cells #[.slice A ls.length c] 26)).alloc (by simp; omega) (.cells #[.int .i64 lo, .int .i64 hi] 29))
  have Hr := Lib.hid ((hr.alloc hB (.cells #[.slice A ls.length c] 26)).alloc (by simp; omega) (.cells #[.int .i64 lo, .int .i64 hi] 29))
  have Hl := Lib.hid ((hl.alloc hB (.cells #[.slice A ls.length c] 26)).alloc (by simp; omega) (.cells #[.int .i64 lo, .int .i64 hi] 29))
  have hS : B ≤ ((w.alloc (.cells #[.slice A ls.length c] 26)).alloc (.cells #[.int .i64 lo, .int .i64 hi] 29)).heap.size := by simp; omega
  clear hs hr hl
  have HY := Lib.hid (fun (w' : World) (h : Rd w' B A (ls.flatMap eSegment)) (h2 : B ≤ w'.heap.size) => isLayout_spec ls A B c w' h h2 hn)
  have HL := Lib.hid (fun (w' : World) (h : Rd w' B A3 (ints lim)) (h3 : B ≤ w'.heap.size) => l09Limits_any ls lim A B c A3 c3 w' h h3 hn hn3)
  have HA := Lib.hid (fun (w' : World) (h : Rd w' B A (ls.flatMap eSegment)) (h2 : Rd w' B A' (ints on)) (h3 : B ≤ w'.heap.size) => activeAlong_spec ls on f n lo hi A B c A' c' w' h h2 h3 hn hn2)
  cases h1 : layB ls with
  | false =>
    have q1 : foC ls on lim f n lo hi = 1 := by simp [foC, h1]
    have q2 : foV ls on lim f n lo hi = 0 := by rw [foV, q1]; rfl
    rw [q1, q2]
    rw [h1] at HY
    clear h1 q1 q2
    go_enter Try.func53, Try.ntmps53
    go_wp2_with (first | (go_at_call 99; refine (HY.out _ (by exact Hs.out) (by exact hS)).mono ?_; rintro e w1 ⟨rfl, b1⟩; have Hs1 := Lib.hid (Hs.out.below b1 hS); have Hr1 := Lib.hid (Hr.out.below b1 hS); have Hl1 := Lib.hid (Hl.out.below b1 hS); have hS1 := Nat.le_trans hS b1.size; obtain ⟨hc1, hf1, hz1⟩ := bstep (N := w.heap.size + 2) (by go_size) b1; have hy1 : w.heap.size < w1.heap.size := (by omega); have hx1 : w.heap.size + 1 < w1.heap.size := (by omega)))
    refine bodyPost_ret (v := .tuple #[.int .i64 0, .int .i64 1]) (by simp [results, Try.results53, go_sem, *]) rfl ?_
    exact ⟨rfl, by repeat' (first | (with_reducible exact Below.refl _ _) | (with_reducible assumption) | (with_reducible refine Below.alloc ?_ ?_ _) | (with_reducible refine Below.drew ?_) | (with_reducible refine below_drewN ?_ _) | (with_reducible refine Below.setCell ?_ ?_ _) | (with_reducible refine Below.trans ?_ (Below.mono (by assumption) ?_)) | go_size | (exact Below.size (by assumption)))⟩
  | true =>
    cases h2 : enB lo hi with
    | false =>
      have q1 : foC ls on lim f n lo hi = 1 := by simp [foC, h2]
      have q2 : foV ls on lim f n lo hi = 0 := by rw [foV, q1]; rfl
      rw [q1, q2]
      rw [h1] at HY
      have HE := Lib.hid h2
      clear h1 h2 q1 q2
      go_enter Try.func53, Try.ntmps53
      go_wp2_with (first | (go_at_call 99; refine (HY.out _ (by exact Hs.out) (by exact hS)).mono ?_; rintro e w1 ⟨rfl, b1⟩; have Hs1 := Lib.hid (Hs.out.below b1 hS); have Hr1 := Lib.hid (Hr.out.below b1 hS); have Hl1 := Lib.hid (Hl.out.below b1 hS); have hS1 := Nat.le_trans hS b1.size; obtain ⟨hc1, hf1, hz1⟩ := bstep (N := w.heap.size + 2) (by go_size) b1; have hy1 : w.heap.size < w1.heap.size := (by omega); have hx1 : w.heap.size + 1 < w1.heap.size := (by omega)) | (go_at_call 81; refine (isEn_spec_r _ _ false HE.out _).mono ?_; rintro e w2 ⟨rfl, b2⟩; have Hs2 := Lib.hid (Hs1.out.below b2 hS1); have Hr2 := Lib.hid (Hr1.out.below b2 hS1); have Hl2 := Lib.hid (Hl1.out.below b2 hS1); have hS2 := Nat.le_trans hS1 b2.size; obtain ⟨hc2, hf2, hz2⟩ := bstep (N := w.heap.size + 2) (by go_size) b2; have hy2 : w.heap.size < w2.heap.size := (by omega); have hx2 : w.heap.size + 1 < w2.heap.size := (by omega)))
      refine bodyPost_ret (v := .tuple #[.int .i64 0, .int .i64 1]) (by simp [results, Try.results53, go_sem, *]) rfl ?_
      exact ⟨rfl, by repeat' (first | (with_reducible exact Below.refl _ _) | (with_reducible assumption) | (with_reducible refine Below.alloc ?_ ?_ _) | (with_reducible refine Below.drew ?_) | (with_reducible refine below_drewN ?_ _) | (with_reducible refine Below.setCell ?_ ?_ _) | (with_reducible refine Below.trans ?_ (Below.mono (by assumption) ?_)) | go_size | (exact Below.size (by assumption)))⟩
    | true =>
      have hla : (layB ls && enB lo hi) = true := by rw [h1, h2]; rfl
      rw [h1] at HY
      have HE := Lib.hid h2
      clear h2
      cases hlm : limB ls lim with
      | false =>
        have q1 := foC_lim (on := on) (f := f) (n := n) hla hlm
        have q2 : foV ls on lim f n lo hi = 0 := by rw [foV, q1]; rfl
        rw [q1, q2]
        rw [hlm] at HL
        clear h1 hla hlm q1 q2
        go_enter Try.func53, Try.ntmps53
        go_wp2_with (first | (go_at_call 99; refine (HY.out _ (by exact Hs.out) (by exact hS)).mono ?_; rintro e w1 ⟨rfl, b1⟩; have Hs1 := Lib.hid (Hs.out.below b1 hS); have Hr1 := Lib.hid (Hr.out.below b1 hS); have Hl1 := Lib.hid (Hl.out.below b1 hS); have hS1 := Nat.le_trans hS b1.size; obtain ⟨hc1, hf1, hz1⟩ := bstep (N := w.heap.size + 2) (by go_size) b1; have hy1 : w.heap.size < w1.heap.size := (by omega); have hx1 : w.heap.size + 1 < w1.heap.size := (by omega)) | (go_at_call 81; refine (isEn_spec_r _ _ true HE.out _).mono ?_; rintro e w2 ⟨rfl, b2⟩; have Hs2 := Lib.hid (Hs1.out.below b2 hS1); have Hr2 := Lib.hid (Hr1.out.below b2 hS1); have Hl2 := Lib.hid (Hl1.out.below b2 hS1); have hS2 := Nat.le_trans hS1 b2.size; obtain ⟨hc2, hf2, hz2⟩ := bstep (N := w.heap.size + 2) (by go_size) b2; have hy2 : w.heap.size < w2.heap.size := (by omega); have hx2 : w.heap.size + 1 < w2.heap.size := (by omega)) | (go_at_call 124; refine (HL.out _ (by exact Hl2.out) (by exact hS2)).mono ?_; rintro e w3 ⟨rfl, b3⟩; have Hs3 := Lib.hid (Hs2.out.below b3 hS2); have Hr3 := Lib.hid (Hr2.out.below b3 hS2); have Hl3 := Lib.hid (Hl2.out.below b3 hS2); have hS3 := Nat.le_trans hS2 b3.size; obtain ⟨hc3, hf3, hz3⟩ := bstep (N := w.heap.size + 2) (by go_size) b3; have hy3 : w.heap.size < w3.heap.size := (by omega); have hx3 : w.heap.size + 1 < w3.heap.size := (by omega)))
        refine bodyPost_ret (v := .tuple #[.int .i64 0, .int .i64 2]) (by simp [results, Try.results53, go_sem, *]) rfl ?_
        exact ⟨rfl, by repeat' (first | (with_reducible exact Below.refl _ _) | (with_reducible assumption) | (with_reducible refine Below.alloc ?_ ?_ _) | (with_reducible refine Below.drew ?_) | (with_reducible refine below_drewN ?_ _) | (with_reducible refine Below.setCell ?_ ?_ _) | (with_reducible refine Below.trans ?_ (Below.mono (by assumption) ?_)) | go_size | (exact Below.size (by assumption)))⟩
      | true =>
        have hat := fun (j : Nat) (m : Int) (h : lim[j]? = some m) => lim_at hlm h
        have Hll := Lib.hid (lim_len hlm)
        have Hat := Lib.hid hat
        have q0 := foC_al (on := on) (f := f) (n := n) hla hlm
        have hfull := fun h => alR_full (ls := ls) (on := on) (f := f) (n := n) (lo := lo) (hi := hi) h
        have hln := alR_len ls on f n lo hi
        unfold foV
        rw [q0]
        rw [hlm] at HL
        clear h1 hla hlm q0 hat
        generalize alR ls on f n lo hi = L at *
        generalize alC ls on f n lo hi = C at *
        by_cases h5 : C = 0
        · obtain ⟨hfl, hf0, hfl2, h24, hl0, hl24⟩ := hfull h5
          subst h5
          rw [if_pos rfl]
          clear hfull
          have hlp : 0 < lim.length := by have := Hll.out; omega
          obtain ⟨f', rfl⟩ : ∃ f' : Nat, f = f' := ⟨f.toNat, by omega⟩
          subst hfl
          rw [Int.toNat_natCast]
          go_enter Try.func53, Try.ntmps53
          go_wp2_with (first | (go_at_call 99; refine (HY.out _ (by exact Hs.out) (by exact hS)).mono ?_; rintro e w1 ⟨rfl, b1⟩; have Hs1 := Lib.hid (Hs.out.below b1 hS); have Hr1 := Lib.hid (Hr.out.below b1 hS); have Hl1 := Lib.hid (Hl.out.below b1 hS); have hS1 := Nat.le_trans hS b1.size; obtain ⟨hc1, hf1, hz1⟩ := bstep (N := w.heap.size + 2) (by go_size) b1; have hy1 : w.heap.size < w1.heap.size := (by omega); have hx1 : w.heap.size + 1 < w1.heap.size := (by omega)) | (go_at_call 81; refine (isEn_spec_r _ _ true HE.out _).mono ?_; rintro e w2 ⟨rfl, b2⟩; have Hs2 := Lib.hid (Hs1.out.below b2 hS1); have Hr2 := Lib.hid (Hr1.out.below b2 hS1); have Hl2 := Lib.hid (Hl1.out.below b2 hS1); have hS2 := Nat.le_trans hS1 b2.size; obtain ⟨hc2, hf2, hz2⟩ := bstep (N := w.heap.size + 2) (by go_size) b2; have hy2 : w.heap.size < w2.heap.size := (by omega); have hx2 : w.heap.size + 1 < w2.heap.size := (by omega)) | (go_at_call 124; refine (HL.out _ (by exact Hl2.out) (by exact hS2)).mono ?_; rintro e w3 ⟨rfl, b3⟩; have Hs3 := Lib.hid (Hs2.out.below b3 hS2); have Hr3 := Lib.hid (Hr2.out.below b3 hS2); have Hl3 := Lib.hid (Hl2.out.below b3 hS2); have hS3 := Nat.le_trans hS2 b3.size; obtain ⟨hc3, hf3, hz3⟩ := bstep (N := w.heap.size + 2) (by go_size) b3; have hy3 : w.heap.size < w3.heap.size := (by omega); have hx3 : w.heap.size + 1 < w3.heap.size := (by omega)) | (go_at_call 57; refine (HA.out _ (by exact Hs3.out) (by exact Hr3.out) (by exact hS3)).mono ?_; rintro e w4 ⟨A2, c2, rfl, o2, b4⟩; have R2 := Lib.hid (Rd.of_own o2); clear o2; have Hs4 := Lib.hid (Hs3.out.below b4 hS3); have Hr4 := Lib.hid (Hr3.out.below b4 hS3); have Hl4 := Lib.hid (Hl3.out.below b4 hS3); have hS4 := Nat.le_trans hS3 b4.size; obtain ⟨hc4, hf4, hz4⟩ := bstep (N := w.heap.size + 2) (by go_size) b4; have hy4 : w.heap.size < w4.heap.size := (by omega); have hx4 : w.heap.size + 1 < w4.heap.size := (by omega)))
          have Hlx := Hl4
          have hSx : B ≤ w4.heap.size := hS4
          clear HA HY HL hc1 hf1 hc2 hf2 hc3 hf3 hc4 hf4
          have hbw : Below w.heap.size w w4 := by repeat' (first | (with_reducible exact Below.refl _ _) | (with_reducible assumption) | (with_reducible refine Below.alloc ?_ ?_ _) | (with_reducible refine Below.drew ?_) | (with_reducible refine below_drewN ?_ _) | (with_reducible refine Below.setCell ?_ ?_ _) | (with_reducible refine Below.trans ?_ (Below.mono (by assumption) ?_)) | go_size | (exact Below.size (by assumption)))
          have Hlm := Hlx
          go_loopw [16] (fun i wr => ∃ k : Nat, k ≤ L.length ∧ i = .int .i64 k ∧ (∀ j, j < k → ovT lim f' L j = false) ∧ Below w4.heap.size w4 wr) (fun i _ => L.length - (intOf i).toNat)
          case atStart => exact ⟨0, Nat.zero_le _, rfl, fun j hj => by omega, Below.refl _ _⟩
          case round =>
            obtain ⟨k, hk, rfl, hov, hb9⟩ := hrel
            have hz9 := hb9.size
            by_cases hlt : k < L.length
            · have ht := List.getElem?_eq_getElem hlt
              generalize L[k] = t at ht
              have hm := Nat.mod_lt (f' + k) (show 0 < lim.length by omega)
              have e2 := tmod_nat (f' + k) lim.length
              have hu := List.getElem?_eq_getElem hm
              generalize lim[(f' + k) % lim.length] = m at hu
              have hov1 := ovT_at ht hu
              obtain ⟨b, o, rfl, hbB, d0, d1⟩ := (R2.out.below hb9 (Nat.le_refl _)).atInterval ht
              have hmb := Hat.out _ _ hu
              generalize (f' + k) % lim.length = j at hm e2 hu
              obtain ⟨bL, oL, rfl, hbLB, d3⟩ := (Hlm.out.below hb9 hSx).int hu
              have e3 : ((f' : Int) + (k : Int)) % (lim.length : Int) = (j : Int) := by rw [← e2, ← Int.natCast_add]; exact (Int.tmod_eq_emod_of_nonneg (by omega)).symm
              have hbLw : bL < wr.heap.size := by omega
              have hbLn : bL ≠ wr.heap.size := by omega
              have e4 := sq_wrap hmb.1 hmb.2
              have hi0 : (0 : Int) ≤ (k : Int) := by omega
              have hi1 : (k : Int) < (L.length : Int) := by omega
              have hj0 : (0 : Int) ≤ (j : Int) := by omega
              have hj1 : (j : Int) < (lim.length : Int) := by omega
              have hne : ((lim.length : Int) == 0) = false := by rw [beq_eq_false_iff_ne]; omega
              have Hov := Lib.hid hov
              have Hov1 := Lib.hid hov1
              clear ht hu hov hov1 e2 hmb
              by_cases hc : m * m < t.2
              · have Hc := Lib.hid hc
                go_wp2
                refine bodyPost_ret (v := .tuple #[.int .i64 (k : Int), .int .i64 0]) (by simp [results, Try.results53, go_sem, *]) rfl ?_
                rw [ovF_here hlt Hov.out (by rw [Hov1.out]; exact decide_eq_true Hc.out)]
                exact ⟨rfl, by repeat' (first | (with_reducible exact Below.refl _ _) | (with_reducible assumption) | (with_reducible refine Below.alloc ?_ ?_ _) | (with_reducible refine Below.drew ?_) | (with_reducible refine below_drewN ?_ _) | (with_reducible refine Below.setCell ?_ ?_ _) | (with_reducible refine Below.trans ?_ (Below.mono (by assumption) ?_)) | go_size | (exact Below.size (by assumption)))⟩
              · have Hc := Lib.hid (decide_eq_false hc)
                go_wp2
                go_roundw
                case rel => exact ⟨k + 1, by omega, by go_num, ov_step Hov.out (by rw [Hov1.out]; exact Hc.out), by repeat' (first | (with_reducible exact Below.refl _ _) | (with_reducible assumption) | (with_reducible refine Below.alloc ?_ ?_ _) | (with_reducible refine Below.drew ?_) | (with_reducible refine below_drewN ?_ _) | (with_reducible refine Below.setCell ?_ ?_ _) | (with_reducible refine Below.trans ?_ (Below.mono (by assumption) ?_)) | go_size | (exact Below.size (by assumption)))⟩
                case measure => simp [intOf]; omega
            · have hk' : k = L.length := by omega
              subst hk'
              have hnone := ovF_none hov
              have Hnone := Lib.hid hnone
              clear hov hnone R2
              go_wp2
              refine bodyPost_ret (v := .tuple #[.int .i64 (-1), .int .i64 0]) (by simp [results, Try.results53, go_sem, *]) rfl ?_
              rw [Hnone.out]
              exact ⟨rfl, by repeat' (first | (with_reducible exact Below.refl _ _) | (with_reducible assumption) | (with_reducible refine Below.alloc ?_ ?_ _) | (with_reducible refine Below.drew ?_) | (with_reducible refine below_drewN ?_ _) | (with_reducible refine Below.setCell ?_ ?_ _) | (with_reducible refine Below.trans ?_ (Below.mono (by assumption) ?_)) | go_size | (exact Below.size (by assumption)))⟩
        · rw [if_neg h5]
          have h5b : (C != 0) = true := by simpa using h5
          clear hfull
          go_enter Try.func53, Try.ntmps53
          go_wp2_with (first | (go_at_call 99; refine (HY.out _ (by exact Hs.out) (by exact hS)).mono ?_; rintro e w1 ⟨rfl, b1⟩; have Hs1 := Lib.hid (Hs.out.below b1 hS); have Hr1 := Lib.hid (Hr.out.below b1 hS); have Hl1 := Lib.hid (Hl.out.below b1 hS); have hS1 := Nat.le_trans hS b1.size; obtain ⟨hc1, hf1, hz1⟩ := bstep (N := w.heap.size + 2) (by go_size) b1; have hy1 : w.heap.size < w1.heap.size := (by omega); have hx1 : w.heap.size + 1 < w1.heap.size := (by omega)) | (go_at_call 81; refine (isEn_spec_r _ _ true HE.out _).mono ?_; rintro e w2 ⟨rfl, b2⟩; have Hs2 := Lib.hid (Hs1.out.below b2 hS1); have Hr2 := Lib.hid (Hr1.out.below b2 hS1); have Hl2 := Lib.hid (Hl1.out.below b2 hS1); have hS2 := Nat.le_trans hS1 b2.size; obtain ⟨hc2, hf2, hz2⟩ := bstep (N := w.heap.size + 2) (by go_size) b2; have hy2 : w.heap.size < w2.heap.size := (by omega); have hx2 : w.heap.size + 1 < w2.heap.size := (by omega)) | (go_at_call 124; refine (HL.out _ (by exact Hl2.out) (by exact hS2)).mono ?_; rintro e w3 ⟨rfl, b3⟩; have Hs3 := Lib.hid (Hs2.out.below b3 hS2); have Hr3 := Lib.hid (Hr2.out.below b3 hS2); have Hl3 := Lib.hid (Hl2.out.below b3 hS2); have hS3 := Nat.le_trans hS2 b3.size; obtain ⟨hc3, hf3, hz3⟩ := bstep (N := w.heap.size + 2) (by go_size) b3; have hy3 : w.heap.size < w3.heap.size := (by omega); have hx3 : w.heap.size + 1 < w3.heap.size := (by omega)) | (go_at_call 57; refine (HA.out _ (by exact Hs3.out) (by exact Hr3.out) (by exact hS3)).mono ?_; rintro e w4 ⟨A2, c2, rfl, o2, b4⟩; have R2 := Lib.hid (Rd.of_own o2); clear o2; have Hs4 := Lib.hid (Hs3.out.below b4 hS3); have Hr4 := Lib.hid (Hr3.out.below b4 hS3); have Hl4 := Lib.hid (Hl3.out.below b4 hS3); have hS4 := Nat.le_trans hS3 b4.size; obtain ⟨hc4, hf4, hz4⟩ := bstep (N := w.heap.size + 2) (by go_size) b4; have hy4 : w.heap.size < w4.heap.size := (by omega); have hx4 : w.heap.size + 1 < w4.heap.size := (by omega)))
          refine bodyPost_ret (v := .tuple #[.int .i64 0, .int .i64 C]) (by simp [results, Try.results53, go_sem, *]) rfl ?_
          exact ⟨rfl, by repeat' (first | (with_reducible exact Below.refl _ _) | (with_reducible assumption) | (with_reducible refine Below.alloc ?_ ?_ _) | (with_reducible refine Below.drew ?_) | (with_reducible refine below_drewN ?_ _) | (with_reducible refine Below.setCell ?_ ?_ _) | (with_reducible refine Below.trans ?_ (Below.mono (by assumption) ?_)) | go_size | (exact Below.size (by assumption)))⟩
set_option maxHeartbeats 2000000 in
theorem within_impl (ls : List Seg) (on lim : List Int) (f n lo hi : Int) (A : Option Addr) (B c : Nat) (A' : Option Addr) (c' : Nat) (A3 : Option Addr) (c3 : Nat) (w : World) (hs : Rd w B A (ls.flatMap eSegment)) (hr : Rd w B A' (ints on)) (hl : Rd w B A3 (ints lim)) (hB : B ≤ w.heap.size) (hn : ls.length ≤ 1048576) (hn2 : on.length ≤ 1048576) (hn3 : lim.length ≤ 1048576) :
   Calls Try.prog 56 #[.agg #[.slice A ls.length c], .slice A3 lim.length c3, .int .i64 f, .int .i64 n, .agg #[.int .i64 lo, .int .i64 hi], .slice A' on.length c'] w fun e w' => e = .returned (.bool (wlB ls on lim f n lo hi)) ∧ Below w.heap.size w w' := by
  have Hs := Lib.hid ((hs.alloc hB (.cells #[.slice A ls.length c] 26)).alloc (by simp; omega) (.cells #[.int .i64 lo, .int .i64 hi] 29))
  have Hr := Lib.hid ((hr.alloc hB (.cells #[.slice A ls.length c] 26)).alloc (by simp; omega) (.cells #[.int .i64 lo, .int .i64 hi] 29))
  have Hl := Lib.hid ((hl.alloc hB (.cells #[.slice A ls.length c] 26)).alloc (by simp; omega) (.cells #[.int .i64 lo, .int .i64 hi] 29))
  have hS : B ≤ ((w.alloc (.cells #[.slice A ls.length c] 26)).alloc (.cells #[.int .i64 lo, .int .i64 hi] 29)).heap.size := by simp; omega
  clear hs hr hl
  have HO := Lib.hid (fun (w' : World) (h : Rd w' B A (ls.flatMap eSegment)) (h2 : Rd w' B A' (ints on)) (h3 : Rd w' B A3 (ints lim)) (h4 : B ≤ w'.heap.size) => over_impl ls on lim f n lo hi A B c A' c' A3 c3 w' h h2 h3 h4 hn hn2 hn3)
  have hge : foC ls on lim f n lo hi = 0 → -1 ≤ foV ls on lim f n lo hi := fun h => by rw [foV, if_pos h]; exact ovF_ge _ _ _
  unfold wlB
  generalize foV ls on lim f n lo hi = V at *
  generalize foC ls on lim f n lo hi = C at *
  have oarm := 0
  clear oarm
  by_cases h5 : C = 0
  · have hge1 := hge h5
    subst h5
    clear hge
    by_cases h6 : V = -1
    · subst h6
      go_enter Try.func56, Try.ntmps56
      go_wp2_with (go_at_call 54; refine (HO.out _ (by exact Hs.out) (by exact Hr.out) (by exact Hl.out) (by exact hS)).mono ?_; rintro e w1 ⟨rfl, b1⟩)
      go_ret
      exact ⟨rfl, by repeat' (first | (with_reducible exact Below.refl _ _) | (with_reducible assumption) | (with_reducible refine Below.alloc ?_ ?_ _) | (with_reducible refine Below.drew ?_) | (with_reducible refine below_drewN ?_ _) | (with_reducible refine Below.setCell ?_ ?_ _) | (with_reducible refine Below.trans ?_ (Below.mono (by assumption) ?_)) | go_size | (exact Below.size (by assumption)))⟩
    · have h7 : (V == -1) = false := by rw [beq_eq_false_iff_ne]; exact h6
      have h8 : decide (V < 0) = false := by rw [decide_eq_false_iff_not]; omega
      rw [h7]
      go_enter Try.func56, Try.ntmps56
      go_wp2_with (go_at_call 54; refine (HO.out _ (by exact Hs.out) (by exact Hr.out) (by exact Hl.out) (by exact hS)).mono ?_; rintro e w1 ⟨rfl, b1⟩)
      all_goals go_ret
      all_goals exact ⟨by first | rfl | (simp [*]; done), by repeat' (first | (with_reducible exact Below.refl _ _) | (with_reducible assumption) | (with_reducible refine Below.alloc ?_ ?_ _) | (with_reducible refine Below.drew ?_) | (with_reducible refine below_drewN ?_ _) | (with_reducible refine Below.setCell ?_ ?_ _) | (with_reducible refine Below.trans ?_ (Below.mono (by assumption) ?_)) | go_size | (exact Below.size (by assumption)))⟩
  · have h7 : (C == 0) = false := by rw [beq_eq_false_iff_ne]; exact h5
    rw [h7]
    go_enter Try.func56, Try.ntmps56
    go_wp2_with (go_at_call 54; refine (HO.out _ (by exact Hs.out) (by exact Hr.out) (by exact Hl.out) (by exact hS)).mono ?_; rintro e w1 ⟨rfl, b1⟩)
    go_ret
    exact ⟨rfl, by repeat' (first | (with_reducible exact Below.refl _ _) | (with_reducible assumption) | (with_reducible refine Below.alloc ?_ ?_ _) | (with_reducible refine Below.drew ?_) | (with_reducible refine below_drewN ?_ _) | (with_reducible refine Below.setCell ?_ ?_ _) | (with_reducible refine Below.trans ?_ (Below.mono (by assumption) ?_)) | go_size | (exact Below.size (by assumption)))⟩
set_option maxHeartbeats 2000000 in
theorem within_spec (ls : List Seg) (on lim : List Int) (f n lo hi : Int) (A : Option Addr) (B c : Nat) (A' : Option Addr) (c' : Nat) (A3 : Option Addr) (c3 : Nat) (w : World) (hs : Rd w B A (ls.flatMap eSegment)) (hr : Rd w B A' (ints on)) (hl : Rd w B A3 (ints lim)) (hB : B ≤ w.heap.size) (hn : ls.length ≤ 1048576) (hn2 : on.length ≤ 1048576) (hn3 : lim.length ≤ 1048576) :
   Calls Try.prog 55 #[.agg #[.slice A ls.length c], .slice A3 lim.length c3, .int .i64 f, .int .i64 n, .agg #[.int .i64 lo, .int .i64 hi], .slice A' on.length c'] w fun e w' => e = .returned (.bool (wlB ls on lim f n lo hi)) ∧ Below w.heap.size w w' := by
  have Hs := Lib.hid ((hs.alloc hB (.cells #[.slice A ls.length c] 26)).alloc (by simp; omega) (.cells #[.int .i64 lo, .int .i64 hi] 29))
  have Hr := Lib.hid ((hr.alloc hB (.cells #[.slice A ls.length c] 26)).alloc (by simp; omega) (.cells #[.int .i64 lo, .int .i64 hi] 29))
  have Hl := Lib.hid ((hl.alloc hB (.cells #[.slice A ls.length c] 26)).alloc (by simp; omega) (.cells #[.int .i64 lo, .int .i64 hi] 29))
  have hS : B ≤ ((w.alloc (.cells #[.slice A ls.length c] 26)).alloc (.cells #[.int .i64 lo, .int .i64 hi] 29)).heap.size := by simp; omega
  clear hs hr hl
  have HO := Lib.hid (fun (w' : World) (h : Rd w' B A (ls.flatMap eSegment)) (h2 : Rd w' B A' (ints on)) (h3 : Rd w' B A3 (ints lim)) (h4 : B ≤ w'.heap.size) => over_spec ls on lim f n lo hi A B c A' c' A3 c3 w' h h2 h3 h4 hn hn2 hn3)
  have hge : foC ls on lim f n lo hi = 0 → -1 ≤ foV ls on lim f n lo hi := fun h => by rw [foV, if_pos h]; exact ovF_ge _ _ _
  unfold wlB
  generalize foV ls on lim f n lo hi = V at *
  generalize foC ls on lim f n lo hi = C at *
  have oarm := 0
  clear oarm
  by_cases h5 : C = 0
  · have hge1 := hge h5
    subst h5
    clear hge
    by_cases h6 : V = -1
    · subst h6
      go_enter Try.func55, Try.ntmps55
      go_wp2_with (go_at_call 53; refine (HO.out _ (by exact Hs.out) (by exact Hr.out) (by exact Hl.out) (by exact hS)).mono ?_; rintro e w1 ⟨rfl, b1⟩)
      go_ret
      exact ⟨rfl, by repeat' (first | (with_reducible exact Below.refl _ _) | (with_reducible assumption) | (with_reducible refine Below.alloc ?_ ?_ _) | (with_reducible refine Below.drew ?_) | (with_reducible refine below_drewN ?_ _) | (with_reducible refine Below.setCell ?_ ?_ _) | (with_reducible refine Below.trans ?_ (Below.mono (by assumption) ?_)) | go_size | (exact Below.size (by assumption)))⟩
    · have h7 : (V == -1) = false := by rw [beq_eq_false_iff_ne]; exact h6
      have h8 : decide (V < 0) = false := by rw [decide_eq_false_iff_not]; omega
      rw [h7]
      go_enter Try.func55, Try.ntmps55
      go_wp2_with (go_at_call 53; refine (HO.out _ (by exact Hs.out) (by exact Hr.out) (by exact Hl.out) (by exact hS)).mono ?_; rintro e w1 ⟨rfl, b1⟩)
      all_goals go_ret
      all_goals exact ⟨by first | rfl | (simp [*]; done), by repeat' (first | (with_reducible exact Below.refl _ _) | (with_reducible assumption) | (with_reducible refine Below.alloc ?_ ?_ _) | (with_reducible refine Below.drew ?_) | (with_reducible refine below_drewN ?_ _) | (with_reducible refine Below.setCell ?_ ?_ _) | (with_reducible refine Below.trans ?_ (Below.mono (by assumption) ?_)) | go_size | (exact Below.size (by assumption)))⟩
  · have h7 : (C == 0) = false := by rw [beq_eq_false_iff_ne]; exact h5
    rw [h7]
    go_enter Try.func55, Try.ntmps55
    go_wp2_with (go_at_call 53; refine (HO.out _ (by exact Hs.out) (by exact Hr.out) (by exact Hl.out) (by exact hS)).mono ?_; rintro e w1 ⟨rfl, b1⟩)
    go_ret
    exact ⟨rfl, by repeat' (first | (with_reducible exact Below.refl _ _) | (with_reducible assumption) | (with_reducible refine Below.alloc ?_ ?_ _) | (with_reducible refine Below.drew ?_) | (with_reducible refine below_drewN ?_ _) | (with_reducible refine Below.setCell ?_ ?_ _) | (with_reducible refine Below.trans ?_ (Below.mono (by assumption) ?_)) | go_size | (exact Below.size (by assumption)))⟩
end Go.Proofs.Ytooifamckccadaa
