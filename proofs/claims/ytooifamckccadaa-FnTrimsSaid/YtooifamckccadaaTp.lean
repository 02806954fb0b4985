/- ActiveAlong and FirstDoubt: walks of the program and of the reference. -/
import Derived.Test.YtooifamckccadaaAl
import Derived.Test.YtooifamckccadaaAm
import Derived.Test.YtooifamckccadaaRc7
namespace Go.Proofs.Ytooifamckccadaa
open Go.ChangeShapes Go.WideShapes Go.ChangeAt Go.RowKit
set_option maxRecDepth 20000
set_option linter.unusedVariables false
set_option linter.unusedSimpArgs false
def rnP (ls : List Seg) (on : List Int) (f n lo hi : Int) : List Ivl × Int := runP ls on n.toNat f.toNat (lo, hi)
def alC (ls : List Seg) (on : List Int) (f n lo hi : Int) : Int := if rcC ls f n lo hi on = 0 then (rnP ls on f n lo hi).2 else rcC ls f n lo hi on
def alR (ls : List Seg) (on : List Int) (f n lo hi : Int) : List Ivl := if alC ls on f n lo hi = 0 then (rnP ls on f n lo hi).1 else []
def fdC (ls : List Seg) (on : List Int) (f n lo hi : Int) : Int := rcC ls f n lo hi on
def fdV (ls : List Seg) (on : List Int) (f n lo hi : Int) : Int := if rcC ls f n lo hi on = 0 then (if (rnP ls on f n lo hi).2 = 0 then -1 else (rnP ls on f n lo hi).1.length) else 0
theorem run_nat {ls : List Seg} {f n : Int} (h : runB ls f n = true) : ∃ f' n' : Nat, f = f' ∧ n = n' ∧ n' ≤ 24 ∧ f' < ls.length := by
  simp only [runB, inB, Bool.and_eq_true, decide_eq_true_eq] at h
  exact ⟨f.toNat, n.toNat, by omega, by omega, by omega, by omega⟩
theorem alR_len (ls : List Seg) (on : List Int) (f n lo hi : Int) : (alR ls on f n lo hi).length ≤ 1048576 := by
  unfold alR
  by_cases h : alC ls on f n lo hi = 0
  · rw [if_pos h]
    by_cases h0 : rcC ls f n lo hi on = 0
    · obtain ⟨f', n', rfl, rfl, h24, _⟩ := run_nat (rcC_zero h0).2.2.1
      have := runP_len ls on ((n' : Int)).toNat ((f' : Int)).toNat (lo, hi)
      rw [rnP]
      simp only [Int.toNat_natCast] at this ⊢
      omega
    · exact absurd (by rw [alC, if_neg h0] at h; exact h) h0
  · rw [if_neg h]; simp
theorem length_iv (A : Option Addr) (n c : Nat) (hn : n ≤ 1048576) (w : World) : Calls Try.prog 123 #[.slice A n c] w fun e w' => e = .returned (.int .i64 n) ∧ w = w' := by
  go_enter Try.func123, Try.ntmps123
  go_wp2
  go_ret
  exact ⟨rfl, rfl⟩
set_option maxHeartbeats 1000000 in
theorem activeAlong_impl (ls : List Seg) (on : List Int) (f n lo hi : Int) (A : Option Addr) (B c : Nat) (A' : Option Addr) (c' : Nat) (w : World) (hs : Rd w B A (ls.flatMap eSegment)) (hr : Rd w B A' (ints on)) (hB : B ≤ w.heap.size) (hn : ls.length ≤ 1048576) (hn2 : on.length ≤ 1048576) :
   Calls Try.prog 45 #[.agg #[.slice A ls.length c], .int .i64 f, .int .i64 n, .agg #[.int .i64 lo, .int .i64 hi], .slice A' on.length c'] w fun e w' => ∃ A2 c2, e = .returned (.tuple #[.slice A2 (alR ls on f n lo hi).length c2, .int .i64 (alC ls on f n lo hi)]) ∧ w'.ownsRow w.heap.size 29 2 (.slice A2 (alR ls on f n lo hi).length c2) (alR ls on f n lo hi).length ((alR ls on f n lo hi).flatMap eInterval) ∧ Below w.heap.size w w' := by
  have Hs := Lib.hid ((hs.alloc hB (.cells #[.slice A ls.length c] 26)).alloc (by simp; omega) (.cells #[.int .i64 lo, .int .i64 hi] 29))
  have Hr := Lib.hid ((hr.alloc hB (.cells #[.slice A ls.length c] 26)).alloc (by simp; omega) (.cells #[.int .i64 lo, .int .i64 hi] 29))
  have hS : B ≤ ((w.alloc (.cells #[.slice A ls.length c] 26)).alloc (.cells #[.int .i64 lo, .int .i64 hi] 29)).heap.size := by simp; omega
  have HC := Lib.hid (fun (w' : World) (h : Rd w' B A (ls.flatMap eSegment)) (h2 : Rd w' B A' (ints on)) (h3 : B ≤ w'.heap.size) => runCode_impl ls on f n lo hi A B c A' c' w' h h2 h3 hn hn2)
  clear hs hr
  by_cases h0 : rcC ls f n lo hi on = 0
  · obtain ⟨hl, he, hrun, hd⟩ := rcC_zero h0
    obtain ⟨f', n', rfl, rfl, h24, hf⟩ := run_nat hrun
    have HA := Lib.hid (fun (w' : World) (h : Rd w' B A (ls.flatMap eSegment)) (h2 : Rd w' B A' (ints on)) (h3 : B ≤ w'.heap.size) => activeAlong_any ls on n' f' lo hi hl he h24 hf A A' B c c' w' h h2 h3 hn2)
    have hlen : (runP ls on n' f' (lo, hi)).1.length ≤ 1048576 := by have := runP_len ls on n' f' (lo, hi); omega
    rw [h0] at HC
    have hrn : rnP ls on (f' : Int) (n' : Int) lo hi = runP ls on n' f' (lo, hi) := by simp [rnP]
    by_cases h5 : (runP ls on n' f' (lo, hi)).2 = 0
    · skip
      have q1 : alC ls on (f' : Int) (n' : Int) lo hi = (runP ls on n' f' (lo, hi)).2 := by rw [alC, if_pos h0, hrn]
      have q2 : alR ls on (f' : Int) (n' : Int) lo hi = (runP ls on n' f' (lo, hi)).1 := by rw [alR, q1, if_pos h5]; exact congrArg Prod.fst hrn
      rw [h5] at q1
      rw [q1, q2]
      generalize runP ls on n' f' (lo, hi) = R at *
      obtain ⟨R1, R2⟩ := R
      dsimp only at *
      subst h5
      clear h0 hl he hrun hd q1 q2 hrn
      go_enter Try.func45, Try.ntmps45
      go_wp2_with (first | (go_at_call 119; refine (HC.out _ (by exact Hs.out) (by exact Hr.out) (by exact hS)).mono ?_; rintro e w1 ⟨rfl, b1⟩; have Hs1 := Lib.hid (Hs.out.below b1 hS); have Hr1 := Lib.hid (Hr.out.below b1 hS); have hS1 := Nat.le_trans hS b1.size; obtain ⟨hc1, hf1, hz1⟩ := bstep (N := w.heap.size + 2) (by go_size) b1; have hy1 : w.heap.size < w1.heap.size := (by omega); have hx1 : w.heap.size + 1 < w1.heap.size := (by omega)) | (go_at_call 78; refine (HA.out _ (by exact Hs1.out) (by exact Hr1.out) (by exact hS1)).mono ?_; rintro e w2 ⟨A2, c2, rfl, o2, b2⟩; have O2 := Lib.hid (own_more o2 (show w.heap.size ≤ w1.heap.size by omega)); clear o2; have hz2 := b2.size))
      refine bodyPost_ret (v := .tuple #[.slice A2 R1.length c2, .int .i64 0]) (by simp [results, Try.results45, go_sem, *]) rfl ?_
      exact ⟨A2, c2, rfl, O2.out, by repeat' (first | (with_reducible exact Below.refl _ _) | (with_reducible assumption) | (with_reducible refine Below.alloc ?_ ?_ _) | (with_reducible refine Below.drew ?_) | (with_reducible refine below_drewN ?_ _) | (with_reducible refine Below.setCell ?_ ?_ _) | (with_reducible refine Below.trans ?_ (Below.mono (by assumption) ?_)) | go_size | (exact Below.size (by assumption)))⟩
    · skip
      have q1 : alC ls on (f' : Int) (n' : Int) lo hi = (runP ls on n' f' (lo, hi)).2 := by rw [alC, if_pos h0, hrn]
      have q2 : alR ls on (f' : Int) (n' : Int) lo hi = [] := by rw [alR, q1, if_neg h5]
      rw [q1, q2]
      generalize runP ls on n' f' (lo, hi) = R at *
      obtain ⟨R1, R2⟩ := R
      dsimp only at *
      have h5b : (R2 != 0) = true := by simpa using h5
      have h5c : (R2 == 0) = false := by simpa using h5
      clear h0 hl he hrun hd q1 q2 hrn
      go_enter Try.func45, Try.ntmps45
      go_wp2_with (first | (go_at_call 119; refine (HC.out _ (by exact Hs.out) (by exact Hr.out) (by exact hS)).mono ?_; rintro e w1 ⟨rfl, b1⟩; have Hs1 := Lib.hid (Hs.out.below b1 hS); have Hr1 := Lib.hid (Hr.out.below b1 hS); have hS1 := Nat.le_trans hS b1.size; obtain ⟨hc1, hf1, hz1⟩ := bstep (N := w.heap.size + 2) (by go_size) b1; have hy1 : w.heap.size < w1.heap.size := (by omega); have hx1 : w.heap.size + 1 < w1.heap.size := (by omega)) | (go_at_call 78; refine (HA.out _ (by exact Hs1.out) (by exact Hr1.out) (by exact hS1)).mono ?_; rintro e w2 ⟨A2, c2, rfl, o2, b2⟩; have O2 := Lib.hid (own_more o2 (show w.heap.size ≤ w1.heap.size by omega)); clear o2; have hz2 := b2.size))
      refine bodyPost_ret (v := .tuple #[.slice none 0 0, .int .i64 R2]) (by simp [results, Try.results45, go_sem, *]) rfl ?_
      exact ⟨none, 0, rfl, World.ownsRow_nil _ _ _ _, by repeat' (first | (with_reducible exact Below.refl _ _) | (with_reducible assumption) | (with_reducible refine Below.alloc ?_ ?_ _) | (with_reducible refine Below.drew ?_) | (with_reducible refine below_drewN ?_ _) | (with_reducible refine Below.setCell ?_ ?_ _) | (with_reducible refine Below.trans ?_ (Below.mono (by assumption) ?_)) | go_size | (exact Below.size (by assumption)))⟩
  · skip
    have q1 : alC ls on f n lo hi = rcC ls f n lo hi on := by rw [alC, if_neg h0]
    have q2 : alR ls on f n lo hi = [] := by rw [alR, q1, if_neg h0]
    rw [q1, q2]
    generalize rcC ls f n lo hi on = R at *
    have h5b : (R != 0) = true := by simpa using h0
    clear q1 q2
    go_enter Try.func45, Try.ntmps45
    go_wp2_with (first | (go_at_call 119; refine (HC.out _ (by exact Hs.out) (by exact Hr.out) (by exact hS)).mono ?_; rintro e w1 ⟨rfl, b1⟩; have Hs1 := Lib.hid (Hs.out.below b1 hS); have Hr1 := Lib.hid (Hr.out.below b1 hS); have hS1 := Nat.le_trans hS b1.size; obtain ⟨hc1, hf1, hz1⟩ := bstep (N := w.heap.size + 2) (by go_size) b1; have hy1 : w.heap.size < w1.heap.size := (by omega); have hx1 : w.heap.size + 1 < w1.heap.size := (by omega)))
    refine bodyPost_ret (v := .tuple #[.slice none 0 0, .int .i64 R]) (by simp [results, Try.results45, go_sem, *]) rfl ?_
    exact ⟨none, 0, rfl, World.ownsRow_nil _ _ _ _, by repeat' (first | (with_reducible exact Below.refl _ _) | (with_reducible assumption) | (with_reducible refine Below.alloc ?_ ?_ _) | (with_reducible refine Below.drew ?_) | (with_reducible refine below_drewN ?_ _) | (with_reducible refine Below.setCell ?_ ?_ _) | (with_reducible refine Below.trans ?_ (Below.mono (by assumption) ?_)) | go_size | (exact Below.size (by assumption)))⟩
set_option maxHeartbeats 1000000 in
theorem firstDoubt_impl (ls : List Seg) (on : List Int) (f n lo hi : Int) (A : Option Addr) (B c : Nat) (A' : Option Addr) (c' : Nat) (w : World) (hs : Rd w B A (ls.flatMap eSegment)) (hr : Rd w B A' (ints on)) (hB : B ≤ w.heap.size) (hn : ls.length ≤ 1048576) (hn2 : on.length ≤ 1048576) :
   Calls Try.prog 50 #[.agg #[.slice A ls.length c], .int .i64 f, .int .i64 n, .agg #[.int .i64 lo, .int .i64 hi], .slice A' on.length c'] w fun e w' => e = .returned (.tuple #[.int .i64 (fdV ls on f n lo hi), .int .i64 (fdC ls on f n lo hi)]) ∧ Below w.heap.size w w' := by
  have Hs := Lib.hid ((hs.alloc hB (.cells #[.slice A ls.length c] 26)).alloc (by simp; omega) (.cells #[.int .i64 lo, .int .i64 hi] 29))
  have Hr := Lib.hid ((hr.alloc hB (.cells #[.slice A ls.length c] 26)).alloc (by simp; omega) (.cells #[.int .i64 lo, .int .i64 hi] 29))
  have hS : B ≤ ((w.alloc (.cells #[.slice A ls.length c] 26)).alloc (.cells #[.int .i64 lo, .int .i64 hi] 29)).heap.size := by simp; omega
  have HC := Lib.hid (fun (w' : World) (h : Rd w' B A (ls.flatMap eSegment)) (h2 : Rd w' B A' (ints on)) (h3 : B ≤ w'.heap.size) => runCode_impl ls on f n lo hi A B c A' c' w' h h2 h3 hn hn2)
  clear hs hr
  by_cases h0 : rcC ls f n lo hi on = 0
  · obtain ⟨hl, he, hrun, hd⟩ := rcC_zero h0
    obtain ⟨f', n', rfl, rfl, h24, hf⟩ := run_nat hrun
    have HA := Lib.hid (fun (w' : World) (h : Rd w' B A (ls.flatMap eSegment)) (h2 : Rd w' B A' (ints on)) (h3 : B ≤ w'.heap.size) => activeAlong_any ls on n' f' lo hi hl he h24 hf A A' B c c' w' h h2 h3 hn2)
    have hlen : (runP ls on n' f' (lo, hi)).1.length ≤ 1048576 := by have := runP_len ls on n' f' (lo, hi); omega
    rw [h0] at HC
    have hrn : rnP ls on (f' : Int) (n' : Int) lo hi = runP ls on n' f' (lo, hi) := by simp [rnP]
    by_cases h5 : (runP ls on n' f' (lo, hi)).2 = 0
    · skip
      have q1 : fdC ls on (f' : Int) (n' : Int) lo hi = 0 := h0
      have q2 : fdV ls on (f' : Int) (n' : Int) lo hi = -1 := by rw [fdV, if_pos h0, hrn, if_pos h5]
      rw [q1, q2]
      generalize runP ls on n' f' (lo, hi) = R at *
      obtain ⟨R1, R2⟩ := R
      dsimp only at *
      subst h5
      clear h0 hl he hrun hd q1 q2 hrn
      go_enter Try.func50, Try.ntmps50
      go_wp2_with (first | (go_at_call 119; refine (HC.out _ (by exact Hs.out) (by exact Hr.out) (by exact hS)).mono ?_; rintro e w1 ⟨rfl, b1⟩; have Hs1 := Lib.hid (Hs.out.below b1 hS); have Hr1 := Lib.hid (Hr.out.below b1 hS); have hS1 := Nat.le_trans hS b1.size; obtain ⟨hc1, hf1, hz1⟩ := bstep (N := w.heap.size + 2) (by go_size) b1; have hy1 : w.heap.size < w1.heap.size := (by omega); have hx1 : w.heap.size + 1 < w1.heap.size := (by omega)) | (go_at_call 78; refine (HA.out _ (by exact Hs1.out) (by exact Hr1.out) (by exact hS1)).mono ?_; rintro e w2 ⟨A2, c2, rfl, o2, b2⟩; have O2 := Lib.hid (own_more o2 (show w.heap.size ≤ w1.heap.size by omega)); clear o2; have hz2 := b2.size))
      refine bodyPost_ret (v := .tuple #[.int .i64 (-1), .int .i64 0]) (by simp [results, Try.results50, go_sem, *]) rfl ?_
      exact ⟨rfl, by repeat' (first | (with_reducible exact Below.refl _ _) | (with_reducible assumption) | (with_reducible refine Below.alloc ?_ ?_ _) | (with_reducible refine Below.drew ?_) | (with_reducible refine below_drewN ?_ _) | (with_reducible refine Below.setCell ?_ ?_ _) | (with_reducible refine Below.trans ?_ (Below.mono (by assumption) ?_)) | go_size | (exact Below.size (by assumption)))⟩
    · skip
      have q1 : fdC ls on (f' : Int) (n' : Int) lo hi = 0 := h0
      have q2 : fdV ls on (f' : Int) (n' : Int) lo hi = (runP ls on n' f' (lo, hi)).1.length := by rw [fdV, if_pos h0, hrn, if_neg h5]
      rw [q1, q2]
      generalize runP ls on n' f' (lo, hi) = R at *
      obtain ⟨R1, R2⟩ := R
      dsimp only at *
      have h5b : (R2 != 0) = true := by simpa using h5
      have h5c : (R2 == 0) = false := by simpa using h5
      clear h0 hl he hrun hd q1 q2 hrn
      go_enter Try.func50, Try.ntmps50
      go_wp2_with (first | (go_at_call 119; refine (HC.out _ (by exact Hs.out) (by exact Hr.out) (by exact hS)).mono ?_; rintro e w1 ⟨rfl, b1⟩; have Hs1 := Lib.hid (Hs.out.below b1 hS); have Hr1 := Lib.hid (Hr.out.below b1 hS); have hS1 := Nat.le_trans hS b1.size; obtain ⟨hc1, hf1, hz1⟩ := bstep (N := w.heap.size + 2) (by go_size) b1; have hy1 : w.heap.size < w1.heap.size := (by omega); have hx1 : w.heap.size + 1 < w1.heap.size := (by omega)) | (go_at_call 78; refine (HA.out _ (by exact Hs1.out) (by exact Hr1.out) (by exact hS1)).mono ?_; rintro e w2 ⟨A2, c2, rfl, o2, b2⟩; have O2 := Lib.hid (own_more o2 (show w.heap.size ≤ w1.heap.size by omega)); clear o2; have hz2 := b2.size) | (go_at_call 123; refine (length_iv _ _ _ hlen _).mono ?_; rintro e w' ⟨rfl, rfl⟩))
      refine bodyPost_ret (v := .tuple #[.int .i64 (R1.length : Int), .int .i64 0]) (by simp [results, Try.results50, go_sem, *]) rfl ?_
      exact ⟨rfl, by repeat' (first | (with_reducible exact Below.refl _ _) | (with_reducible assumption) | (with_reducible refine Below.alloc ?_ ?_ _) | (with_reducible refine Below.drew ?_) | (with_reducible refine below_drewN ?_ _) | (with_reducible refine Below.setCell ?_ ?_ _) | (with_reducible refine Below.trans ?_ (Below.mono (by assumption) ?_)) | go_size | (exact Below.size (by assumption)))⟩
  · skip
    have q1 : fdC ls on f n lo hi = rcC ls f n lo hi on := rfl
    have q2 : fdV ls on f n lo hi = 0 := by rw [fdV, if_neg h0]
    rw [q1, q2]
    generalize rcC ls f n lo hi on = R at *
    have h5b : (R != 0) = true := by simpa using h0
    clear q1 q2
    go_enter Try.func50, Try.ntmps50
    go_wp2_with (first | (go_at_call 119; refine (HC.out _ (by exact Hs.out) (by exact Hr.out) (by exact hS)).mono ?_; rintro e w1 ⟨rfl, b1⟩; have Hs1 := Lib.hid (Hs.out.below b1 hS); have Hr1 := Lib.hid (Hr.out.below b1 hS); have hS1 := Nat.le_trans hS b1.size; obtain ⟨hc1, hf1, hz1⟩ := bstep (N := w.heap.size + 2) (by go_size) b1; have hy1 : w.heap.size < w1.heap.size := (by omega); have hx1 : w.heap.size + 1 < w1.heap.size := (by omega)))
    refine bodyPost_ret (v := .tuple #[.int .i64 0, .int .i64 R]) (by simp [results, Try.results50, go_sem, *]) rfl ?_
    exact ⟨rfl, by repeat' (first | (with_reducible exact Below.refl _ _) | (with_reducible assumption) | (with_reducible refine Below.alloc ?_ ?_ _) | (with_reducible refine Below.drew ?_) | (with_reducible refine below_drewN ?_ _) | (with_reducible refine Below.setCell ?_ ?_ _) | (with_reducible refine Below.trans ?_ (Below.mono (by assumption) ?_)) | go_size | (exact Below.size (by assumption)))⟩
set_option maxHeartbeats 1000000 in
theorem activeAlong_spec (ls : List Seg) (on : List Int) (f n lo hi : Int) (A : Option Addr) (B c : Nat) (A' : Option Addr) (c' : Nat) (w : World) (hs : Rd w B A (ls.flatMap eSegment)) (hr : Rd w B A' (ints on)) (hB : B ≤ w.heap.size) (hn : ls.length ≤ 1048576) (hn2 : on.length ≤ 1048576) :
   Calls Try.prog 57 #[.agg #[.slice A ls.length c], .int .i64 f, .int .i64 n, .agg #[.int .i64 lo, .int .i64 hi], .slice A' on.length c'] w fun e w' => ∃ A2 c2, e = .returned (.tuple #[.slice A2 (alR ls on f n lo hi).length c2, .int .i64 (alC ls on f n lo hi)]) ∧ w'.ownsRow w.heap.size 29 2 (.slice A2 (alR ls on f n lo hi).length c2) (alR ls on f n lo hi).length ((alR ls on f n lo hi).flatMap eInterval) ∧ Below w.heap.size w w' := by
  have Hs := Lib.hid ((hs.alloc hB (.cells #[.slice A ls.length c] 26)).alloc (by simp; omega) (.cells #[.int .i64 lo, .int .i64 hi] 29))
  have Hr := Lib.hid ((hr.alloc hB (.cells #[.slice A ls.length c] 26)).alloc (by simp; omega) (.cells #[.int .i64 lo, .int .i64 hi] 29))
  have hS : B ≤ ((w.alloc (.cells #[.slice A ls.length c] 26)).alloc (.cells #[.int .i64 lo, .int .i64 hi] 29)).heap.size := by simp; omega
  have HC := Lib.hid (fun (w' : World) (h : Rd w' B A (ls.flatMap eSegment)) (h2 : Rd w' B A' (ints on)) (h3 : B ≤ w'.heap.size) => runCode_spec ls on f n lo hi A B c A' c' w' h h2 h3 hn hn2)
  clear hs hr
  by_cases h0 : rcC ls f n lo hi on = 0
  · obtain ⟨hl, he, hrun, hd⟩ := rcC_zero h0
    obtain ⟨f', n', rfl, rfl, h24, hf⟩ := run_nat hrun
    have HA := Lib.hid (fun (w' : World) (h : Rd w' B A (ls.flatMap eSegment)) (h2 : Rd w' B A' (ints on)) (h3 : B ≤ w'.heap.size) => l08Run_any ls on n' f' lo hi hl he h24 hf A A' B c c' w' h h2 h3 hn2)
    have hlen : (runP ls on n' f' (lo, hi)).1.length ≤ 1048576 := by have := runP_len ls on n' f' (lo, hi); omega
    rw [h0] at HC
    have hrn : rnP ls on (f' : Int) (n' : Int) lo hi = runP ls on n' f' (lo, hi) := by simp [rnP]
    by_cases h5 : (runP ls on n' f' (lo, hi)).2 = 0
    · skip
      have q1 : alC ls on (f' : Int) (n' : Int) lo hi = (runP ls on n' f' (lo, hi)).2 := by rw [alC, if_pos h0, hrn]
      have q2 : alR ls on (f' : Int) (n' : Int) lo hi = (runP ls on n' f' (lo, hi)).1 := by rw [alR, q1, if_pos h5]; exact congrArg Prod.fst hrn
      rw [h5] at q1
      rw [q1, q2]
      generalize runP ls on n' f' (lo, hi) = R at *
      obtain ⟨R1, R2⟩ := R
      dsimp only at *
      subst h5
      clear h0 hl he hrun hd q1 q2 hrn
      go_enter Try.func57, Try.ntmps57
      go_wp2_with (first | (go_at_call 122; refine (HC.out _ (by exact Hs.out) (by exact Hr.out) (by exact hS)).mono ?_; rintro e w1 ⟨rfl, b1⟩; have Hs1 := Lib.hid (Hs.out.below b1 hS); have Hr1 := Lib.hid (Hr.out.below b1 hS); have hS1 := Nat.le_trans hS b1.size; obtain ⟨hc1, hf1, hz1⟩ := bstep (N := w.heap.size + 2) (by go_size) b1; have hy1 : w.heap.size < w1.heap.size := (by omega); have hx1 : w.heap.size + 1 < w1.heap.size := (by omega)) | (go_at_call 84; refine (HA.out _ (by exact Hs1.out) (by exact Hr1.out) (by exact hS1)).mono ?_; rintro e w2 ⟨A2, c2, rfl, o2, b2⟩; have O2 := Lib.hid (own_more o2 (show w.heap.size ≤ w1.heap.size by omega)); clear o2; have hz2 := b2.size))
      refine bodyPost_ret (v := .tuple #[.slice A2 R1.length c2, .int .i64 0]) (by simp [results, Try.results57, go_sem, *]) rfl ?_
      exact ⟨A2, c2, rfl, O2.out, by repeat' (first | (with_reducible exact Below.refl _ _) | (with_reducible assumption) | (with_reducible refine Below.alloc ?_ ?_ _) | (with_reducible refine Below.drew ?_) | (with_reducible refine below_drewN ?_ _) | (with_reducible refine Below.setCell ?_ ?_ _) | (with_reducible refine Below.trans ?_ (Below.mono (by assumption) ?_)) | go_size | (exact Below.size (by assumption)))⟩
    · skip
      have q1 : alC ls on (f' : Int) (n' : Int) lo hi = (runP ls on n' f' (lo, hi)).2 := by rw [alC, if_pos h0, hrn]
      have q2 : alR ls on (f' : Int) (n' : Int) lo hi = [] := by rw [alR, q1, if_neg h5]
      rw [q1, q2]
      generalize runP ls on n' f' (lo, hi) = R at *
      obtain ⟨R1, R2⟩ := R
      dsimp only at *
      have h5b : (R2 != 0) = true := by simpa using h5
      have h5c : (R2 == 0) = false := by simpa using h5
      clear h0 hl he hrun hd q1 q2 hrn
      go_enter Try.func57, Try.ntmps57
      go_wp2_with (first | (go_at_call 122; refine (HC.out _ (by exact Hs.out) (by exact Hr.out) (by exact hS)).mono ?_; rintro e w1 ⟨rfl, b1⟩; have Hs1 := Lib.hid (Hs.out.below b1 hS); have Hr1 := Lib.hid (Hr.out.below b1 hS); have hS1 := Nat.le_trans hS b1.size; obtain ⟨hc1, hf1, hz1⟩ := bstep (N := w.heap.size + 2) (by go_size) b1; have hy1 : w.heap.size < w1.heap.size := (by omega); have hx1 : w.heap.size + 1 < w1.heap.size := (by omega)) | (go_at_call 84; refine (HA.out _ (by exact Hs1.out) (by exact Hr1.out) (by exact hS1)).mono ?_; rintro e w2 ⟨A2, c2, rfl, o2, b2⟩; have O2 := Lib.hid (own_more o2 (show w.heap.size ≤ w1.heap.size by omega)); clear o2; have hz2 := b2.size))
      refine bodyPost_ret (v := .tuple #[.slice none 0 0, .int .i64 R2]) (by simp [results, Try.results57, go_sem, *]) rfl ?_
      exact ⟨none, 0, rfl, World.ownsRow_nil _ _ _ _, by repeat' (first | (with_reducible exact Below.refl _ _) | (with_reducible assumption) | (with_reducible refine Below.alloc ?_ ?_ _) | (with_reducible refine Below.drew ?_) | (with_reducible refine below_drewN ?_ _) | (with_reducible refine Below.setCell ?_ ?_ _) | (with_reducible refine Below.trans ?_ (Below.mono (by assumption) ?_)) | go_size | (exact Below.size (by assumption)))⟩
  · skip
    have q1 : alC ls on f n lo hi = rcC ls f n lo hi on := by rw [alC, if_neg h0]
    have q2 : alR ls on f n lo hi = [] := by rw [alR, q1, if_neg h0]
    rw [q1, q2]
    generalize rcC ls f n lo hi on = R at *
    have h5b : (R != 0) = true := by simpa using h0
    clear q1 q2
    go_enter Try.func57, Try.ntmps57
    go_wp2_with (first | (go_at_call 122; refine (HC.out _ (by exact Hs.out) (by exact Hr.out) (by exact hS)).mono ?_; rintro e w1 ⟨rfl, b1⟩; have Hs1 := Lib.hid (Hs.out.below b1 hS); have Hr1 := Lib.hid (Hr.out.below b1 hS); have hS1 := Nat.le_trans hS b1.size; obtain ⟨hc1, hf1, hz1⟩ := bstep (N := w.heap.size + 2) (by go_size) b1; have hy1 : w.heap.size < w1.heap.size := (by omega); have hx1 : w.heap.size + 1 < w1.heap.size := (by omega)))
    refine bodyPost_ret (v := .tuple #[.slice none 0 0, .int .i64 R]) (by simp [results, Try.results57, go_sem, *]) rfl ?_
    exact ⟨none, 0, rfl, World.ownsRow_nil _ _ _ _, by repeat' (first | (with_reducible exact Below.refl _ _) | (with_reducible assumption) | (with_reducible refine Below.alloc ?_ ?_ _) | (with_reducible refine Below.drew ?_) | (with_reducible refine below_drewN ?_ _) | (with_reducible refine Below.setCell ?_ ?_ _) | (with_reducible refine Below.trans ?_ (Below.mono (by assumption) ?_)) | go_size | (exact Below.size (by assumption)))⟩
set_option maxHeartbeats 1000000 in
theorem firstDoubt_spec (ls : List Seg) (on : List Int) (f n lo hi : Int) (A : Option Addr) (B c : Nat) (A' : Option Addr) (c' : Nat) (w : World) (hs : Rd w B A (ls.flatMap eSegment)) (hr : Rd w B A' (ints on)) (hB : B ≤ w.heap.size) (hn : ls.length ≤ 1048576) (hn2 : on.length ≤ 1048576) :
   Calls Try.prog 48 #[.agg #[.slice A ls.length c], .int .i64 f, .int .i64 n, .agg #[.int .i64 lo, .int .i64 hi], .slice A' on.length c'] w fun e w' => e = .returned (.tuple #[.int .i64 (fdV ls on f n lo hi), .int .i64 (fdC ls on f n lo hi)]) ∧ Below w.heap.size w w' := by
  have Hs := Lib.hid ((hs.alloc hB (.cells #[.slice A ls.length c] 26)).alloc (by simp; omega) (.cells #[.int .i64 lo, .int .i64 hi] 29))
  have Hr := Lib.hid ((hr.alloc hB (.cells #[.slice A ls.length c] 26)).alloc (by simp; omega) (.cells #[.int .i64 lo, .int .i64 hi] 29))
  have hS : B ≤ ((w.alloc (.cells #[.slice A ls.length c] 26)).alloc (.cells #[.int .i64 lo, .int .i64 hi] 29)).heap.size := by simp; omega
  have HC := Lib.hid (fun (w' : World) (h : Rd w' B A (ls.flatMap eSegment)) (h2 : Rd w' B A' (ints on)) (h3 : B ≤ w'.heap.size) => runCode_spec ls on f n lo hi A B c A' c' w' h h2 h3 hn hn2)
  clear hs hr
  by_cases h0 : rcC ls f n lo hi on = 0
  · obtain ⟨hl, he, hrun, hd⟩ := rcC_zero h0
    obtain ⟨f', n', rfl, rfl, h24, hf⟩ := run_nat hrun
    have HA := Lib.hid (fun (w' : World) (h : Rd w' B A (ls.flatMap eSegment)) (h2 : Rd w' B A' (ints on)) (h3 : B ≤ w'.heap.size) => l08Run_any ls on n' f' lo hi hl he h24 hf A A' B c c' w' h h2 h3 hn2)
    have hlen : (runP ls on n' f' (lo, hi)).1.length ≤ 1048576 := by have := runP_len ls on n' f' (lo, hi); omega
    rw [h0] at HC
    have hrn : rnP ls on (f' : Int) (n' : Int) lo hi = runP ls on n' f' (lo, hi) := by simp [rnP]
    by_cases h5 : (runP ls on n' f' (lo, hi)).2 = 0
    · skip
      have q1 : fdC ls on (f' : Int) (n' : Int) lo hi = 0 := h0
      have q2 : fdV ls on (f' : Int) (n' : Int) lo hi = -1 := by rw [fdV, if_pos h0, hrn, if_pos h5]
      rw [q1, q2]
      generalize runP ls on n' f' (lo, hi) = R at *
      obtain ⟨R1, R2⟩ := R
      dsimp only at *
      subst h5
      clear h0 hl he hrun hd q1 q2 hrn
      go_enter Try.func48, Try.ntmps48
      go_wp2_with (first | (go_at_call 122; refine (HC.out _ (by exact Hs.out) (by exact Hr.out) (by exact hS)).mono ?_; rintro e w1 ⟨rfl, b1⟩; have Hs1 := Lib.hid (Hs.out.below b1 hS); have Hr1 := Lib.hid (Hr.out.below b1 hS); have hS1 := Nat.le_trans hS b1.size; obtain ⟨hc1, hf1, hz1⟩ := bstep (N := w.heap.size + 2) (by go_size) b1; have hy1 : w.heap.size < w1.heap.size := (by omega); have hx1 : w.heap.size + 1 < w1.heap.size := (by omega)) | (go_at_call 84; refine (HA.out _ (by exact Hs1.out) (by exact Hr1.out) (by exact hS1)).mono ?_; rintro e w2 ⟨A2, c2, rfl, o2, b2⟩; have O2 := Lib.hid (own_more o2 (show w.heap.size ≤ w1.heap.size by omega)); clear o2; have hz2 := b2.size))
      refine bodyPost_ret (v := .tuple #[.int .i64 (-1), .int .i64 0]) (by simp [results, Try.results48, go_sem, *]) rfl ?_
      exact ⟨rfl, by repeat' (first | (with_reducible exact Below.refl _ _) | (with_reducible assumption) | (with_reducible refine Below.alloc ?_ ?_ _) | (with_reducible refine Below.drew ?_) | (with_reducible refine below_drewN ?_ _) | (with_reducible refine Below.setCell ?_ ?_ _) | (with_reducible refine Below.trans ?_ (Below.mono (by assumption) ?_)) | go_size | (exact Below.size (by assumption)))⟩
    · skip
      have q1 : fdC ls on (f' : Int) (n' : Int) lo hi = 0 := h0
      have q2 : fdV ls on (f' : Int) (n' : Int) lo hi = (runP ls on n' f' (lo, hi)).1.length := by rw [fdV, if_pos h0, hrn, if_neg h5]
      rw [q1, q2]
      generalize runP ls on n' f' (lo, hi) = R at *
      obtain ⟨R1, R2⟩ := R
      dsimp only at *
      have h5b : (R2 != 0) = true := by simpa using h5
      have h5c : (R2 == 0) = false := by simpa using h5
      clear h0 hl he hrun hd q1 q2 hrn
      go_enter Try.func48, Try.ntmps48
      go_wp2_with (first | (go_at_call 122; refine (HC.out _ (by exact Hs.out) (by exact Hr.out) (by exact hS)).mono ?_; rintro e w1 ⟨rfl, b1⟩; have Hs1 := Lib.hid (Hs.out.below b1 hS); have Hr1 := Lib.hid (Hr.out.below b1 hS); have hS1 := Nat.le_trans hS b1.size; obtain ⟨hc1, hf1, hz1⟩ := bstep (N := w.heap.size + 2) (by go_size) b1; have hy1 : w.heap.size < w1.heap.size := (by omega); have hx1 : w.heap.size + 1 < w1.heap.size := (by omega)) | (go_at_call 84; refine (HA.out _ (by exact Hs1.out) (by exact Hr1.out) (by exact hS1)).mono ?_; rintro e w2 ⟨A2, c2, rfl, o2, b2⟩; have O2 := Lib.hid (own_more o2 (show w.heap.size ≤ w1.heap.size by omega)); clear o2; have hz2 := b2.size))
      refine bodyPost_ret (v := .tuple #[.int .i64 (R1.length : Int), .int .i64 0]) (by simp [results, Try.results48, go_sem, *]) rfl ?_
      exact ⟨rfl, by repeat' (first | (with_reducible exact Below.refl _ _) | (with_reducible assumption) | (with_reducible refine Below.alloc ?_ ?_ _) | (with_reducible refine Below.drew ?_) | (with_reducible refine below_drewN ?_ _) | (with_reducible refine Below.setCell ?_ ?_ _) | (with_reducible refine Below.trans ?_ (Below.mono (by assumption) ?_)) | go_size | (exact Below.size (by assumption)))⟩
  · skip
    have q1 : fdC ls on f n lo hi = rcC ls f n lo hi on := rfl
    have q2 : fdV ls on f n lo hi = 0 := by rw [fdV, if_neg h0]
    rw [q1, q2]
    generalize rcC ls f n lo hi on = R at *
    have h5b : (R != 0) = true := by simpa using h0
    clear q1 q2
    go_enter Try.func48, Try.ntmps48
    go_wp2_with (first | (go_at_call 122; refine (HC.out _ (by exact Hs.out) (by exact Hr.out) (by exact hS)).mono ?_; rintro e w1 ⟨rfl, b1⟩; have Hs1 := Lib.hid (Hs.out.below b1 hS); have Hr1 := Lib.hid (Hr.out.below b1 hS); have hS1 := Nat.le_trans hS b1.size; obtain ⟨hc1, hf1, hz1⟩ := bstep (N := w.heap.size + 2) (by go_size) b1; have hy1 : w.heap.size < w1.heap.size := (by omega); have hx1 : w.heap.size + 1 < w1.heap.size := (by omega)))
    refine bodyPost_ret (v := .tuple #[.int .i64 0, .int .i64 R]) (by simp [results, Try.results48, go_sem, *]) rfl ?_
    exact ⟨rfl, by repeat' (first | (with_reducible exact Below.refl _ _) | (with_reducible assumption) | (with_reducible refine Below.alloc ?_ ?_ _) | (with_reducible refine Below.drew ?_) | (with_reducible refine below_drewN ?_ _) | (with_reducible refine Below.setCell ?_ ?_ _) | (with_reducible refine Below.trans ?_ (Below.mono (by assumption) ?_)) | go_size | (exact Below.size (by assumption)))⟩
end Go.Proofs.Ytooifamckccadaa
