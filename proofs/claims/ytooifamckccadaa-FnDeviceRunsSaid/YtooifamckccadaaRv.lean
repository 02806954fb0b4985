/- Runs of segments, part by part, and equal lists of intervals. -/
import Derived.Test.YtooifamckccadaaDp
import Derived.Test.YtooifamckccadaaTp
namespace Go.Proofs.Ytooifamckccadaa
open Go.ChangeShapes Go.WideShapes Go.ChangeAt Go.RowKit
set_option maxRecDepth 20000
set_option linter.unusedVariables false
set_option linter.unusedSimpArgs false
theorem runP_pre (ls : List Seg) (on : List Int) : ∀ (n k : Nat) (e : Ivl), runP ls on (runP ls on n k e).1.length k e = ((runP ls on n k e).1, 0)
  | 0, k, e => by simp [runP]
  | n + 1, k, e => by
    have ih := fun x => runP_pre ls on n (k + 1) x
    cases ht : ls[k % ls.length]? with
    | none =>
      have e1 : runP ls on (n + 1) k e = ([], 0) := by rw [runP, ht]
      rw [e1]; simp [runP]
    | some t =>
      by_cases hb : badP (nextP on (k % ls.length) t e) = 0
      · have e1 : runP ls on (n + 1) k e = (nextP on (k % ls.length) t e :: (runP ls on n (k + 1) (nextP on (k % ls.length) t e)).1, (runP ls on n (k + 1) (nextP on (k % ls.length) t e)).2) := by rw [runP, ht]; simp only; rw [if_pos hb]
        rw [e1]
        have e2 := ih (nextP on (k % ls.length) t e)
        simp only [List.length_cons]
        rw [runP, ht]
        simp only
        rw [if_pos hb, e2]
      · have e1 : runP ls on (n + 1) k e = ([], badP (nextP on (k % ls.length) t e)) := by rw [runP, ht]; simp only; rw [if_neg hb]
        rw [e1]; simp [runP]
theorem devB_nil (ls : List Seg) : devB ls [] = true := by simp [devB, risB]
theorem dr_law {ls : List Seg} {on : List Int} {f n lo hi : Int} (h : fdC ls on f n lo hi = 0) :
    rcC ls f n lo hi [] = 0 ∧ ((fdV ls on f n lo hi < 0 ∧ alC ls on f n lo hi = 0) ∨ (¬ fdV ls on f n lo hi < 0 ∧ alC ls on f n lo hi ≠ 0 ∧ alC ls on f (fdV ls on f n lo hi) lo hi = 0 ∧ ((alR ls on f (fdV ls on f n lo hi) lo hi).length : Int) = fdV ls on f n lo hi)) := by
  have h0 : rcC ls f n lo hi on = 0 := h
  have hle : (layB ls && enB lo hi) = true := by
    unfold rcC at h0; split at h0
    · assumption
    · omega
  have hrd : (runB ls f n && devB ls on) = true := by
    unfold rcC at h0; rw [if_pos hle] at h0; split at h0
    · assumption
    · omega
  have hal : alC ls on f n lo hi = (rnP ls on f n lo hi).2 := by rw [alC, if_pos h0]
  have hfd : fdV ls on f n lo hi = if (rnP ls on f n lo hi).2 = 0 then -1 else ((rnP ls on f n lo hi).1.length : Int) := by rw [fdV, if_pos h0]
  refine ⟨?_, ?_⟩
  · rw [rcC, if_pos hle, devB_nil]
    rw [Bool.and_eq_true] at hrd
    rw [hrd.1]; simp
  · by_cases hz : (rnP ls on f n lo hi).2 = 0
    · left
      rw [hfd, if_pos hz, hal]
      exact ⟨by omega, hz⟩
    · right
      rw [hfd, if_neg hz, hal]
      have hlen := runP_len ls on n.toNat f.toNat (lo, hi)
      have hpre := runP_pre ls on n.toNat f.toNat (lo, hi)
      have hl2 : (rnP ls on f n lo hi).1.length ≤ n.toNat := hlen
      have hrun : runB ls f ((rnP ls on f n lo hi).1.length : Int) = true := by
        rw [Bool.and_eq_true] at hrd
        have h1 := hrd.1
        simp only [runB, inB, Bool.and_eq_true, decide_eq_true_eq] at h1 ⊢
        omega
      have hrc : rcC ls f ((rnP ls on f n lo hi).1.length : Int) lo hi on = 0 := by
        rw [rcC, if_pos hle, hrun]
        rw [Bool.and_eq_true] at hrd
        rw [hrd.2]; simp
      have hrn : rnP ls on f ((rnP ls on f n lo hi).1.length : Int) lo hi = ((rnP ls on f n lo hi).1, 0) := by
        unfold rnP
        rw [Int.toNat_natCast]
        exact hpre
      have hc : alC ls on f ((rnP ls on f n lo hi).1.length : Int) lo hi = 0 := by rw [alC, if_pos hrc, hrn]
      refine ⟨by omega, hz, hc, ?_⟩
      rw [alR, if_pos hc, hrn]
theorem likeIntervals_same (l : List Ivl) (A A' : Option Addr) (B B' c c' : Nat) (w : World) (hr : Rd w B A (l.flatMap eInterval)) (hr2 : Rd w B' A' (l.flatMap eInterval)) (hn : l.length ≤ 1048576) :
   Calls Try.prog 62 #[.slice A l.length c, .slice A' l.length c'] w fun e w' => e = .returned (.bool true) ∧ Below w.heap.size w w' := by
  go_enter Try.func62, Try.ntmps62
  go_wp2_with fail
  go_loopw [5] (fun i wr => ∃ k : Nat, k ≤ l.length ∧ i = .int .i64 k ∧ ∃ q, wr = w.drewN q) (fun i _ => l.length - (intOf i).toNat)
  case atStart => exact ⟨0, Nat.zero_le _, rfl, 0, rfl⟩
  case round =>
    obtain ⟨k, hk, rfl, q, rfl⟩ := hrel
    by_cases hlt : k < l.length
    · have ht := List.getElem?_eq_getElem hlt
      generalize l[k] = t at ht
      obtain ⟨b, o, rfl, _, c0, c1⟩ := hr.atInterval ht
      obtain ⟨b2, o2, rfl, _, d0, d1⟩ := hr2.atInterval ht
      clear ht hr hr2
      go_wp2_with fail
      go_quiet (fail)
      go_wp2
      go_roundw
      case rel => exact ⟨k + 1, by omega, by go_num, _, rfl⟩
      case measure => simp [intOf]; omega
    · have hk' : k = l.length := by omega
      subst hk'
      clear hr hr2
      go_wp2
      go_ret
      exact ⟨rfl, by repeat' (first | (with_reducible exact Below.refl _ _) | (with_reducible assumption) | (with_reducible refine Below.alloc ?_ ?_ _) | (with_reducible refine Below.drew ?_) | (with_reducible refine below_drewN ?_ _) | (with_reducible refine Below.setCell ?_ ?_ _) | (with_reducible refine Below.trans ?_ (Below.mono (by assumption) ?_)) | go_size | (exact Below.size (by assumption)))⟩
end Go.Proofs.Ytooifamckccadaa
