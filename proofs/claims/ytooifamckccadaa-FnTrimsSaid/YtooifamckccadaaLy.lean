/- Layouts: the helpers of the laws. -/
import Derived.Test.YtooifamckccadaaSm
import Derived.Test.YtooifamckccadaaIv
import Derived.Test.YtooifamckccadaaI
import Derived.Test.YtooifamckccadaaB
namespace Go.Proofs.Ytooifamckccadaa
open Go.ChangeShapes Go.WideShapes Go.ChangeAt Go.RowKit
set_option linter.unusedVariables false
set_option linter.unusedSimpArgs false
set_option maxRecDepth 20000
theorem own_setCell {w : World} {base : Nat} {e : TypeId} {size n : Nat} {v : Value} {xs : List Value} (h : w.ownsRow base e size v n xs) (g j : Nat) (u : Value) (hg : g < base) : (w.setCell ⟨g, j, none⟩ u).ownsRow base e size v n xs :=
  own_apart h (show w.grownBy _ (some g) from ⟨rfl, rfl, rfl, by simp, fun k _ hk => heap_setCell_other w ⟨g, j, none⟩ k u (fun e => hk (by simp [e]))⟩) (fun k hk => by injection hk with hk; omega)
abbrev Seg := Int × Int × Int × Int × Int × Int × Int
theorem szLayout_small (A : Option Addr) (n c : Nat) (q : Int) (h1 : (n : Int) ≤ q) (h2 : q ≤ 1048576) (w : World) : Calls Try.prog 32 #[.agg #[.slice A n c], .int .i64 q] w fun e w' => e = .returned (.int .i64 (q - (n : Int))) ∧ Below w.heap.size w w' := by
  have hb : decide (q - (n : Int) < 0) = false := by simp; omega
  go_enter Try.func32, Try.ntmps32
  go_wp2_with (go_at_call 98; refine (szSegmentS_small _ _ _ _ h1 h2 _).mono ?_; rintro e w' ⟨rfl, rfl⟩)
  go_ret
  exact ⟨rfl, by repeat' (first | (with_reducible exact Below.refl _ _) | (with_reducible assumption) | (with_reducible refine Below.alloc ?_ ?_ _) | (with_reducible refine Below.drew ?_) | (with_reducible refine below_drewN ?_ _) | (with_reducible refine Below.setCell ?_ ?_ _) | (with_reducible refine Below.trans ?_ (Below.mono (by assumption) ?_)) | go_size | (exact Below.size (by assumption)))⟩
theorem szLayout_great (A : Option Addr) (n c : Nat) (q : Int) (h0 : 0 ≤ q) (h1 : q < (n : Int)) (h2 : q ≤ 1048576) (hn : n ≤ 9223372036854775807) (w : World) : Calls Try.prog 32 #[.agg #[.slice A n c], .int .i64 q] w fun e w' => e = .returned (.int .i64 (-1)) ∧ Below w.heap.size w w' := by
  go_enter Try.func32, Try.ntmps32
  go_wp2_with (go_at_call 98; refine (szSegmentS_great _ _ _ _ h0 h1 h2 hn _).mono ?_; rintro e w' ⟨rfl, rfl⟩)
  go_ret
  exact ⟨rfl, by repeat' (first | (with_reducible exact Below.refl _ _) | (with_reducible assumption) | (with_reducible refine Below.alloc ?_ ?_ _) | (with_reducible refine Below.drew ?_) | (with_reducible refine below_drewN ?_ _) | (with_reducible refine Below.setCell ?_ ?_ _) | (with_reducible refine Below.trans ?_ (Below.mono (by assumption) ?_)) | go_size | (exact Below.size (by assumption)))⟩
theorem toLayout_any (l : List Seg) (A : Option Addr) (B c : Nat) (w : World) (hr : Rd w B A (l.flatMap eSegment)) (hB : B ≤ w.heap.size) (hn : l.length ≤ 1048576) :
   Calls Try.prog 34 #[.agg #[.slice A l.length c]] w fun e w' => ∃ A' c', e = .returned (.agg #[.slice A' l.length c']) ∧ w'.ownsRow w.heap.size 39 7 (.slice A' l.length c') l.length (l.flatMap eSegment) ∧ Below w.heap.size w w' := by
  have Hr := Lib.hid hr
  clear hr
  go_enter Try.func34, Try.ntmps34
  go_wp2_with (go_at_call 105; refine (toSegmentS_any l A B c _ (by first | exact ((Hr.out.alloc hB _).alloc (by simp; omega) _).alloc (by simp; omega) _) (by simp; omega) hn).mono ?_; rintro e w1 ⟨A1, c1, rfl, o1, hb⟩; have O1 := Lib.hid o1; clear o1; obtain ⟨hc, hf, hz⟩ := bstep (N := w.heap.size + 3) (by go_size) hb; have hb1 := Below.trans (show Below w.heap.size w _ by repeat' (first | (with_reducible exact Below.refl _ _) | (with_reducible assumption) | (with_reducible refine Below.alloc ?_ ?_ _) | (with_reducible refine Below.drew ?_) | (with_reducible refine below_drewN ?_ _) | (with_reducible refine Below.setCell ?_ ?_ _) | (with_reducible refine Below.trans ?_ (Below.mono (by assumption) ?_)) | go_size | (exact Below.size (by assumption)))) (hb.mono (by go_size)))
  refine bodyPost_ret (v := .agg #[.slice A1 l.length c1]) (by simp [results, Try.results34, go_sem, *]) rfl ?_
  exact ⟨A1, c1, rfl, by first | exact own_more (own_setCell (own_setCell O1.out _ _ _ (by simp)) _ _ _ (by simp)) (by simp; omega) | exact own_more (own_setCell O1.out _ _ _ (by simp)) (by simp; omega), by repeat' (first | (with_reducible exact Below.refl _ _) | (with_reducible assumption) | (with_reducible refine Below.alloc ?_ ?_ _) | (with_reducible refine Below.drew ?_) | (with_reducible refine below_drewN ?_ _) | (with_reducible refine Below.setCell ?_ ?_ _) | (with_reducible refine Below.trans ?_ (Below.mono (by assumption) ?_)) | go_size | (exact Below.size (by assumption)))⟩
theorem eqLayout_same (l : List Seg) (A A' : Option Addr) (B c c' : Nat) (w : World) (hr : Rd w B A (l.flatMap eSegment)) (hr2 : Rd w B A' (l.flatMap eSegment)) (hB : B ≤ w.heap.size) (hn : l.length ≤ 1048576) :
   Calls Try.prog 37 #[.agg #[.slice A l.length c], .agg #[.slice A' l.length c']] w fun e w' => e = .returned (.bool true) ∧ Below w.heap.size w w' := by
  have Hr := Lib.hid hr
  have Hr2 := Lib.hid hr2
  clear hr hr2
  go_enter Try.func37, Try.ntmps37
  go_wp2_with (go_at_call 113; refine (eqSegmentS_same l A A' B c c' _ (by first | exact (Hr.out.alloc hB _).alloc (by simp; omega) _) (by first | exact (Hr2.out.alloc hB _).alloc (by simp; omega) _) (by simp; omega) hn).mono ?_; rintro e w1 ⟨rfl, hb⟩)
  go_ret
  exact ⟨rfl, by repeat' (first | (with_reducible exact Below.refl _ _) | (with_reducible assumption) | (with_reducible refine Below.alloc ?_ ?_ _) | (with_reducible refine Below.drew ?_) | (with_reducible refine below_drewN ?_ _) | (with_reducible refine Below.setCell ?_ ?_ _) | (with_reducible refine Below.trans ?_ (Below.mono (by assumption) ?_)) | go_size | (exact Below.size (by assumption)))⟩
end Go.Proofs.Ytooifamckccadaa
