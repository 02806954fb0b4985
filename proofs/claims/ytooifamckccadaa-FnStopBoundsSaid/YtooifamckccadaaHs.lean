/- HoldingSegment: walks of the program and of the reference. -/
import Derived.Test.YtooifamckccadaaBkc
import Derived.Test.YtooifamckccadaaEc
import Derived.Test.YtooifamckccadaaIc
namespace Go.Proofs.Ytooifamckccadaa
open Go.ChangeShapes Go.WideShapes Go.ChangeAt Go.RowKit
set_option maxRecDepth 20000
set_option linter.unusedVariables false
set_option linter.unusedSimpArgs false
theorem bkC_of_en {ls : List Seg} {fs : List Int} {b lo hi : Int} (h : enC ls fs b lo hi = 0) : bkC ls fs b = 0 := by
  unfold enC at h
  unfold bkC
  split at h
  · rename_i h1
    rw [Bool.and_eq_true] at h1
    rw [if_pos h1.1]
    exact h
  · omega
theorem enC_of_ae {ls : List Seg} {fs on : List Int} {b lo hi : Int} (h : aeC ls fs on b lo hi = 0) : enC ls fs b lo hi = 0 := by
  by_cases h1 : enC ls fs b lo hi = 0
  · exact h1
  · rw [(ae_bad1 h1).1] at h; exact h
theorem holdSeg_impl (ls : List Seg) (fs : List Int) (b q : Nat) (h0 : bkC ls fs b = 0) (hb : b < fs.length) (hq : endP ls fs b = ((q + 1 : Nat) : Int)) (hql : q < ls.length) (A : Option Addr) (B c : Nat) (A' : Option Addr) (c' : Nat) (w : World) (hs : Rd w B A (ls.flatMap eSegment)) (hr : Rd w B A' (ints fs)) (hB : B ≤ w.heap.size) (hn : ls.length ≤ 1048576) (hn2 : fs.length ≤ 1048576) (hc : fs.length ≤ c') (hcm : c' ≤ 9223372036854775807) :
   Calls Try.prog 24 #[.agg #[.slice A ls.length c], .slice A' fs.length c', .int .i64 b] w fun e w' => e = .returned (.tuple #[.int .i64 q, .int .i64 0]) ∧ Below w.heap.size w w' := by
  have Hs := Lib.hid (hs.alloc hB (.cells #[.slice A ls.length c] 26))
  have Hr := Lib.hid (hr.alloc hB (.cells #[.slice A ls.length c] 26))
  have HC := Lib.hid (fun (w' : World) (h : Rd w' B A (ls.flatMap eSegment)) (h2 : Rd w' B A' (ints fs)) (h3 : B ≤ w'.heap.size) => blockCode_any ls fs (b : Int) A B c A' c' w' h h2 h3 hn hn2 hc hcm)
  have HE := Lib.hid (fun (w' : World) (h2 : Rd w' B A' (ints fs)) (h3 : B ≤ w'.heap.size) => blockEnd_impl ls fs b hb _ hq A B c A' c' w' h2 h3 hn hn2)
  rw [h0] at HC
  have e1 : IntKind.i64.wrap (((q + 1 : Nat) : Int) - 1) = (q : Int) := by rw [show ((q + 1 : Nat) : Int) - 1 = (q : Int) by omega]; exact IntWalk.i64_in _ (by omega)
  generalize ((q + 1 : Nat) : Int) = Q at *
  clear hs hr
  go_enter Try.func24, Try.ntmps24
  go_wp2_with (first | (go_at_call 87; refine (HC.out _ (by exact Hs.out) (by exact Hr.out) (by simp; omega)).mono ?_; rintro e w1 ⟨rfl, b1⟩; have Hs1 := Lib.hid (Hs.out.below b1 (by simp; omega)); have Hr1 := Lib.hid (Hr.out.below b1 (by simp; omega)); obtain ⟨hc1, hf1, hz1⟩ := bstep (N := w.heap.size + 1) (by go_size) b1; have hy1 : w.heap.size < w1.heap.size := (by omega)) | (go_at_call 79; refine (HE.out _ (by exact Hr1.out) (by omega)).mono ?_; rintro e w2 ⟨rfl, b2⟩))
  go_ret2
  exact ⟨rfl, by repeat' (first | (with_reducible exact Below.refl _ _) | (with_reducible assumption) | (with_reducible refine Below.alloc ?_ ?_ _) | (with_reducible refine Below.drew ?_) | (with_reducible refine below_drewN ?_ _) | (with_reducible refine Below.setCell ?_ ?_ _) | (with_reducible refine Below.trans ?_ (Below.mono (by assumption) ?_)) | go_size | (exact Below.size (by assumption)))⟩
theorem holdSeg_spec (ls : List Seg) (fs : List Int) (b q : Nat) (h0 : bkC ls fs b = 0) (hb : b < fs.length) (hq : endP ls fs b = ((q + 1 : Nat) : Int)) (hql : q < ls.length) (A : Option Addr) (B c : Nat) (A' : Option Addr) (c' : Nat) (w : World) (hs : Rd w B A (ls.flatMap eSegment)) (hr : Rd w B A' (ints fs)) (hB : B ≤ w.heap.size) (hn : ls.length ≤ 1048576) (hn2 : fs.length ≤ 1048576) (hc : fs.length ≤ c') (hcm : c' ≤ 9223372036854775807) :
   Calls Try.prog 25 #[.agg #[.slice A ls.length c], .slice A' fs.length c', .int .i64 b] w fun e w' => e = .returned (.tuple #[.int .i64 q, .int .i64 0]) ∧ Below w.heap.size w w' := by
  have Hs := Lib.hid (hs.alloc hB (.cells #[.slice A ls.length c] 26))
  have Hr := Lib.hid (hr.alloc hB (.cells #[.slice A ls.length c] 26))
  have HC := Lib.hid (fun (w' : World) (h : Rd w' B A (ls.flatMap eSegment)) (h2 : Rd w' B A' (ints fs)) (h3 : B ≤ w'.heap.size) => l04Block_any ls fs (b : Int) A B c A' c' w' h h2 h3 hn hn2)
  have HE := Lib.hid (fun (w' : World) (h2 : Rd w' B A' (ints fs)) (h3 : B ≤ w'.heap.size) => blockEnd_spec ls fs b hb _ hq A B c A' c' w' h2 h3 hn hn2)
  rw [h0] at HC
  have e1 : IntKind.i64.wrap (((q + 1 : Nat) : Int) - 1) = (q : Int) := by rw [show ((q + 1 : Nat) : Int) - 1 = (q : Int) by omega]; exact IntWalk.i64_in _ (by omega)
  generalize ((q + 1 : Nat) : Int) = Q at *
  clear hs hr
  go_enter Try.func25, Try.ntmps25
  go_wp2_with (first | (go_at_call 88; refine (HC.out _ (by exact Hs.out) (by exact Hr.out) (by simp; omega)).mono ?_; rintro e w1 ⟨rfl, b1⟩; have Hs1 := Lib.hid (Hs.out.below b1 (by simp; omega)); have Hr1 := Lib.hid (Hr.out.below b1 (by simp; omega)); obtain ⟨hc1, hf1, hz1⟩ := bstep (N := w.heap.size + 1) (by go_size) b1; have hy1 : w.heap.size < w1.heap.size := (by omega)) | (go_at_call 85; refine (HE.out _ (by exact Hr1.out) (by omega)).mono ?_; rintro e w2 ⟨rfl, b2⟩))
  go_ret2
  exact ⟨rfl, by repeat' (first | (with_reducible exact Below.refl _ _) | (with_reducible assumption) | (with_reducible refine Below.alloc ?_ ?_ _) | (with_reducible refine Below.drew ?_) | (with_reducible refine below_drewN ?_ _) | (with_reducible refine Below.setCell ?_ ?_ _) | (with_reducible refine Below.trans ?_ (Below.mono (by assumption) ?_)) | go_size | (exact Below.size (by assumption)))⟩
def ArrP (w0 : World) (e : Ending) (w' : World) : Prop :=
  ∃ (l : List Seg) (A : Option Addr) (c : Nat) (fs : List Int) (A2 : Option Addr) (c2 : Nat) (b x y : Int) (on : List Int) (A3 : Option Addr) (c3 : Nat), e = .returned (.tuple #[.agg #[.slice A l.length c], .slice A2 fs.length c2, .int .i64 b, .agg #[.int .i64 x, .int .i64 y], .slice A3 on.length c3]) ∧ l.length ≤ 25 ∧ fs.length ≤ 60 ∧ on.length ≤ 26 ∧ fs.length ≤ c2 ∧ c2 ≤ 9223372036854775807 ∧ Rd w' w'.heap.size A (l.flatMap eSegment) ∧ Rd w' w'.heap.size A2 (ints fs) ∧ Rd w' w'.heap.size A3 (ints on) ∧ Below w0.heap.size w0 w'

end Go.Proofs.Ytooifamckccadaa
