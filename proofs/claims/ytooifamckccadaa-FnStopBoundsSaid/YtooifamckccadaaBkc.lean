/- Codes of blocks, both sides: walks. -/
import Derived.Test.YtooifamckccadaaEc
namespace Go.Proofs.Ytooifamckccadaa
open Go.ChangeShapes Go.WideShapes Go.ChangeAt Go.RowKit
set_option maxRecDepth 20000
set_option linter.unusedVariables false
set_option linter.unusedSimpArgs false
/-- the error of a block -/
def bkC (ls : List Seg) (fs : List Int) (b : Int) : Int := if abB ls fs then (if inB b 0 ((fs.length : Int) - 1) then 0 else 2) else 1
set_option maxHeartbeats 1000000 in
theorem blockCode_any (ls : List Seg) (fs : List Int) (b : Int) (A : Option Addr) (B c : Nat) (A' : Option Addr) (c' : Nat) (w : World) (hs : Rd w B A (ls.flatMap eSegment)) (hr : Rd w B A' (ints fs)) (hB : B ≤ w.heap.size) (hn : ls.length ≤ 1048576) (hn2 : fs.length ≤ 1048576) (hc : fs.length ≤ c') (hcm : c' ≤ 9223372036854775807) :
   Calls Try.prog 87 #[.agg #[.slice A ls.length c], .slice A' fs.length c', .int .i64 b] w fun e w' => e = .returned (.int .i64 (bkC ls fs b)) ∧ Below w.heap.size w w' := by
  have Hs := Lib.hid (hs.alloc hB (.cells #[.slice A ls.length c] 26))
  have Hr := Lib.hid (hr.alloc hB (.cells #[.slice A ls.length c] 26))
  have hS : B ≤ (w.alloc (.cells #[.slice A ls.length c] 26)).heap.size := by simp; omega
  have HB := Lib.hid (fun (w' : World) (h : Rd w' B A (ls.flatMap eSegment)) (h2 : Rd w' B A' (ints fs)) (h3 : B ≤ w'.heap.size) => areBlk_impl ls fs A B c A' c' w' h h2 h3 hn hn2 hc hcm)
  clear hs hr
  unfold bkC
  cases hq : abB ls fs with
  | false =>
    rw [hq] at HB
    clear hq
    go_enter Try.func87, Try.ntmps87
    go_wp2_with (go_at_call 142; refine (HB.out _ (by exact Hs.out) (by exact Hr.out) hS).mono ?_; rintro e w1 ⟨rfl, hb⟩; obtain ⟨hc1, hf1, hz1⟩ := bstep (N := w.heap.size + 1) (by go_size) hb)
    go_ret
    exact ⟨rfl, by repeat' (first | (with_reducible exact Below.refl _ _) | (with_reducible assumption) | (with_reducible refine Below.alloc ?_ ?_ _) | (with_reducible refine Below.drew ?_) | (with_reducible refine below_drewN ?_ _) | (with_reducible refine Below.setCell ?_ ?_ _) | (with_reducible refine Below.trans ?_ (Below.mono (by assumption) ?_)) | go_size | (exact Below.size (by assumption)))⟩
  | true =>
    rw [hq] at HB
    clear hq
    generalize hbq : inB b 0 ((fs.length : Int) - 1) = q
    have Hbq := Lib.hid hbq
    have ew : IntKind.i64.wrap ((fs.length : Int) - 1) = (fs.length : Int) - 1 := IntWalk.i64_in _ (by omega)
    clear hbq
    cases q with
    | false =>
      go_enter Try.func87, Try.ntmps87
      go_wp2_with (first | (go_at_call 142; refine (HB.out _ (by exact Hs.out) (by exact Hr.out) hS).mono ?_; rintro e w1 ⟨rfl, hb⟩; obtain ⟨hc1, hf1, hz1⟩ := bstep (N := w.heap.size + 1) (by go_size) hb) | (go_at_call 126; refine (length_i64 _ _ _ hn2 _).mono ?_; rintro e w' ⟨rfl, rfl⟩) | (go_at_call 109; refine (within_r _ _ _ false Hbq.out _).mono ?_; rintro e w' ⟨rfl, rfl⟩))
      go_ret
      exact ⟨rfl, by repeat' (first | (with_reducible exact Below.refl _ _) | (with_reducible assumption) | (with_reducible refine Below.alloc ?_ ?_ _) | (with_reducible refine Below.drew ?_) | (with_reducible refine below_drewN ?_ _) | (with_reducible refine Below.setCell ?_ ?_ _) | (with_reducible refine Below.trans ?_ (Below.mono (by assumption) ?_)) | go_size | (exact Below.size (by assumption)))⟩
    | true =>
      go_enter Try.func87, Try.ntmps87
      go_wp2_with (first | (go_at_call 142; refine (HB.out _ (by exact Hs.out) (by exact Hr.out) hS).mono ?_; rintro e w1 ⟨rfl, hb⟩; obtain ⟨hc1, hf1, hz1⟩ := bstep (N := w.heap.size + 1) (by go_size) hb) | (go_at_call 126; refine (length_i64 _ _ _ hn2 _).mono ?_; rintro e w' ⟨rfl, rfl⟩) | (go_at_call 109; refine (within_r _ _ _ true Hbq.out _).mono ?_; rintro e w' ⟨rfl, rfl⟩))
      go_ret
      exact ⟨rfl, by repeat' (first | (with_reducible exact Below.refl _ _) | (with_reducible assumption) | (with_reducible refine Below.alloc ?_ ?_ _) | (with_reducible refine Below.drew ?_) | (with_reducible refine below_drewN ?_ _) | (with_reducible refine Below.setCell ?_ ?_ _) | (with_reducible refine Below.trans ?_ (Below.mono (by assumption) ?_)) | go_size | (exact Below.size (by assumption)))⟩
set_option maxHeartbeats 1000000 in
theorem l04Block_any (ls : List Seg) (fs : List Int) (b : Int) (A : Option Addr) (B c : Nat) (A' : Option Addr) (c' : Nat) (w : World) (hs : Rd w B A (ls.flatMap eSegment)) (hr : Rd w B A' (ints fs)) (hB : B ≤ w.heap.size) (hn : ls.length ≤ 1048576) (hn2 : fs.length ≤ 1048576) :
   Calls Try.prog 88 #[.agg #[.slice A ls.length c], .slice A' fs.length c', .int .i64 b] w fun e w' => e = .returned (.int .i64 (bkC ls fs b)) ∧ Below w.heap.size w w' := by
  have Hs := Lib.hid (hs.alloc hB (.cells #[.slice A ls.length c] 26))
  have Hr := Lib.hid (hr.alloc hB (.cells #[.slice A ls.length c] 26))
  have hS : B ≤ (w.alloc (.cells #[.slice A ls.length c] 26)).heap.size := by simp; omega
  have HB := Lib.hid (fun (w' : World) (h : Rd w' B A (ls.flatMap eSegment)) (h2 : Rd w' B A' (ints fs)) (h3 : B ≤ w'.heap.size) => areBlk_spec ls fs A B c A' c' w' h h2 h3 hn hn2)
  clear hs hr
  unfold bkC
  cases hq : abB ls fs with
  | false =>
    rw [hq] at HB
    clear hq
    go_enter Try.func88, Try.ntmps88
    go_wp2_with (go_at_call 80; refine (HB.out _ (by exact Hs.out) (by exact Hr.out) hS).mono ?_; rintro e w1 ⟨rfl, hb⟩; obtain ⟨hc1, hf1, hz1⟩ := bstep (N := w.heap.size + 1) (by go_size) hb)
    go_ret
    exact ⟨rfl, by repeat' (first | (with_reducible exact Below.refl _ _) | (with_reducible assumption) | (with_reducible refine Below.alloc ?_ ?_ _) | (with_reducible refine Below.drew ?_) | (with_reducible refine below_drewN ?_ _) | (with_reducible refine Below.setCell ?_ ?_ _) | (with_reducible refine Below.trans ?_ (Below.mono (by assumption) ?_)) | go_size | (exact Below.size (by assumption)))⟩
  | true =>
    rw [hq] at HB
    clear hq
    generalize hbq : inB b 0 ((fs.length : Int) - 1) = q
    have Hbq := Lib.hid hbq
    have ew : IntKind.i64.wrap ((fs.length : Int) - 1) = (fs.length : Int) - 1 := IntWalk.i64_in _ (by omega)
    clear hbq
    cases q with
    | false =>
      go_enter Try.func88, Try.ntmps88
      go_wp2_with (first | (go_at_call 80; refine (HB.out _ (by exact Hs.out) (by exact Hr.out) hS).mono ?_; rintro e w1 ⟨rfl, hb⟩; obtain ⟨hc1, hf1, hz1⟩ := bstep (N := w.heap.size + 1) (by go_size) hb) | (go_at_call 82; refine (l01In_r _ _ _ false Hbq.out _).mono ?_; rintro e w' ⟨rfl, rfl⟩))
      go_ret
      exact ⟨rfl, by repeat' (first | (with_reducible exact Below.refl _ _) | (with_reducible assumption) | (with_reducible refine Below.alloc ?_ ?_ _) | (with_reducible refine Below.drew ?_) | (with_reducible refine below_drewN ?_ _) | (with_reducible refine Below.setCell ?_ ?_ _) | (with_reducible refine Below.trans ?_ (Below.mono (by assumption) ?_)) | go_size | (exact Below.size (by assumption)))⟩
    | true =>
      go_enter Try.func88, Try.ntmps88
      go_wp2_with (first | (go_at_call 80; refine (HB.out _ (by exact Hs.out) (by exact Hr.out) hS).mono ?_; rintro e w1 ⟨rfl, hb⟩; obtain ⟨hc1, hf1, hz1⟩ := bstep (N := w.heap.size + 1) (by go_size) hb) | (go_at_call 82; refine (l01In_r _ _ _ true Hbq.out _).mono ?_; rintro e w' ⟨rfl, rfl⟩))
      go_ret
      exact ⟨rfl, by repeat' (first | (with_reducible exact Below.refl _ _) | (with_reducible assumption) | (with_reducible refine Below.alloc ?_ ?_ _) | (with_reducible refine Below.drew ?_) | (with_reducible refine below_drewN ?_ _) | (with_reducible refine Below.setCell ?_ ?_ _) | (with_reducible refine Below.trans ?_ (Below.mono (by assumption) ?_)) | go_size | (exact Below.size (by assumption)))⟩
end Go.Proofs.Ytooifamckccadaa
