/- Records as triples of numbers; small functions. -/
import Derived.Test.YtjohpakfaommgaaRows
import Derived.Test.YtjohpakfaommgaaRd
namespace Go.Proofs.Ytjohpakfaommgaa
open Go.ChangeShapes Go.WideShapes Go.ChangeAt Go.RowKit
set_option linter.unusedVariables false
set_option linter.unusedSimpArgs false
theorem l01In_any (n lo hi : Int) (w : World) : Calls Try.prog 75 #[.int .i64 n, .int .i64 lo, .int .i64 hi] w fun e w' => e = .returned (.bool (inB n lo hi)) ∧ w = w' := by
  unfold inB
  go_enter Try.func75, Try.ntmps75
  go_wp2
  · go_ret
    have h : lo ≤ n := by assumption
    exact ⟨by simp [h], rfl⟩
  · go_ret
    have h : ¬ lo ≤ n := by omega
    exact ⟨by simp [h], rfl⟩
theorem l01In_r (n lo hi : Int) (r : Bool) (h : inB n lo hi = r) (w : World) : Calls Try.prog 75 #[.int .i64 n, .int .i64 lo, .int .i64 hi] w fun e w' => e = .returned (.bool r) ∧ w = w' := h ▸ l01In_any n lo hi w
theorem within_any (n lo hi : Int) (w : World) : Calls Try.prog 73 #[.int .i64 n, .int .i64 lo, .int .i64 hi] w fun e w' => e = .returned (.bool (inB n lo hi)) ∧ w = w' := by
  unfold inB
  go_enter Try.func73, Try.ntmps73
  go_wp2
  · go_ret
    have h : lo ≤ n := by assumption
    exact ⟨by simp [h], rfl⟩
  · go_ret
    have h : ¬ lo ≤ n := by omega
    exact ⟨by simp [h], rfl⟩
theorem within_r (n lo hi : Int) (r : Bool) (h : inB n lo hi = r) (w : World) : Calls Try.prog 73 #[.int .i64 n, .int .i64 lo, .int .i64 hi] w fun e w' => e = .returned (.bool r) ∧ w = w' := h ▸ within_any n lo hi w
def eEventRecord (t : Int × Int × Int) : List Value := [.int .i64 t.1, .int .i64 t.2.1, .int .i64 t.2.2]
theorem eEventRecord_len (t : Int × Int × Int) : (eEventRecord t).length = 3 := rfl
def okEventRecord (t : Int × Int × Int) : Prop := (Lit.int .i64 t.1).wf = true ∧ (Lit.int .i64 t.2.1).wf = true ∧ (Lit.int .i64 t.2.2).wf = true
theorem kindsEventRecord {cs : List Value} (h : AreKinds [some .i64, some .i64, some .i64] cs) : ∃ t, cs = eEventRecord t ∧ okEventRecord t := by
  obtain ⟨_, _, rfl, ⟨x0, rfl, wx0⟩, _, _, rfl, ⟨x1, rfl, wx1⟩, _, _, rfl, ⟨x2, rfl, wx2⟩, rfl⟩ := h
  exact ⟨(x0, x1, x2), rfl, wx0, wx1, wx2⟩
theorem Rd.atEventRecord {w : World} {B : Nat} {A : Option Addr} {l : List (Int × Int × Int)} (h : Rd w B A (l.flatMap eEventRecord)) {k : Nat} {t : Int × Int × Int} (hk : l[k]? = some t) :
    ∃ b o, A = some ⟨b, o, none⟩ ∧ b < B ∧ w.cell? ⟨b, o + k * 3, none⟩ = some (.int .i64 t.1) ∧ w.cell? ⟨b, o + k * 3 + 1, none⟩ = some (.int .i64 t.2.1) ∧ w.cell? ⟨b, o + k * 3 + 2, none⟩ = some (.int .i64 t.2.2) := by
  obtain ⟨b, o, e, hb, hc⟩ := h.row 3 eEventRecord_len (by omega) hk
  exact ⟨b, o, e, hb, hc 0 _ rfl, hc 1 _ rfl, hc 2 _ rfl⟩
theorem openlawsEventRecordS {H : Type} {enc : TypeId × Value → H} {W : World} {n c : Nat} {A : Option Addr} {d : DataW H} {p : List MemPlace} {b0 : Nat} {sp : Nat → Bool} {hd : Bool} (h : DataW.Trod enc Try.prog W b0 sp hd 41 (.slice A n c) d p) :
    ∃ l : List (Int × Int × Int), l.length = n ∧ Rd W W.heap.size A (l.flatMap eEventRecord) ∧ n ≤ c ∧ c ≤ maxLen ∧ ∀ t ∈ l, okEventRecord t := by
  obtain ⟨rows, hl, hk, hr, h1, h2⟩ := open_rows_flat (ks := [some .i64, some .i64, some .i64]) (C := 3) Try.underlying41 (by kernel_rfl) (by kernel_rfl) (by omega) h
  obtain ⟨l, he, hll, hok⟩ := rows_typed eEventRecord okEventRecord rows (fun r hr => kindsEventRecord (hk r hr).1)
  exact ⟨l, by omega, he ▸ hr, h1, h2, hok⟩
theorem szEventRecordS_small (A : Option Addr) (n c : Nat) (q : Int) (h1 : (n : Int) ≤ q) (h2 : q ≤ 1048576) (w : World) : Calls Try.prog 26 #[.slice A n c, .int .i64 q] w fun e w' => e = .returned (.int .i64 (q - (n : Int))) ∧ w = w' := by
  go_enter Try.func26, Try.ntmps26
  go_wp2
  go_ret
  exact ⟨rfl, rfl⟩
theorem szEventRecordS_great (A : Option Addr) (n c : Nat) (q : Int) (h0 : 0 ≤ q) (h1 : q < (n : Int)) (h2 : q ≤ 1048576) (hn : n ≤ 9223372036854775807) (w : World) : Calls Try.prog 26 #[.slice A n c, .int .i64 q] w fun e w' => e = .returned (.int .i64 (-1)) ∧ w = w' := by
  go_enter Try.func26, Try.ntmps26
  go_wp2
  go_ret
  exact ⟨rfl, rfl⟩
theorem toEventRecord_any (x0 : Int) (x1 : Int) (x2 : Int) (w : World) : Calls Try.prog 21 #[.agg #[.int .i64 x0, .int .i64 x1, .int .i64 x2]] w fun e w' => e = .returned (.agg #[.int .i64 x0, .int .i64 x1, .int .i64 x2]) ∧ Below w.heap.size w w' := by
  go_enter Try.func21, Try.ntmps21
  go_wp2
  all_goals go_returns
  all_goals exact ⟨by first | rfl | (simp [*]; done) | (simp_all []; done) | (simp_all []; omega) | (simp_all []; intros; exfalso; omega), by repeat' (first | (with_reducible exact Below.refl _ _) | (with_reducible assumption) | (with_reducible refine Below.alloc ?_ ?_ _) | (with_reducible refine Below.drew ?_) | (with_reducible refine below_drewN ?_ _) | (with_reducible refine Below.setCell ?_ ?_ _) | (with_reducible refine Below.trans ?_ (Below.mono (by assumption) ?_)) | go_size | (exact Below.size (by assumption)))⟩
theorem eqEventRecord_same (x0 : Int) (x1 : Int) (x2 : Int) (w : World) : Calls Try.prog 25 #[.agg #[.int .i64 x0, .int .i64 x1, .int .i64 x2], .agg #[.int .i64 x0, .int .i64 x1, .int .i64 x2]] w fun e w' => e = .returned (.bool true) ∧ Below w.heap.size w w' := by
  go_enter Try.func25, Try.ntmps25
  go_wp2
  all_goals go_ret
  all_goals exact ⟨by first | rfl | (simp [*]; done) | (simp_all []; done) | (simp_all []; omega) | (simp_all []; intros; exfalso; omega), by repeat' (first | (with_reducible exact Below.refl _ _) | (with_reducible assumption) | (with_reducible refine Below.alloc ?_ ?_ _) | (with_reducible refine Below.drew ?_) | (with_reducible refine below_drewN ?_ _) | (with_reducible refine Below.setCell ?_ ?_ _) | (with_reducible refine Below.trans ?_ (Below.mono (by assumption) ?_)) | go_size | (exact Below.size (by assumption)))⟩
theorem openInts {H : Type} {enc : TypeId × Value → H} {W : World} {n c : Nat} {A : Option Addr} {d : DataW H} {p : List MemPlace} {b0 : Nat} {sp : Nat → Bool} {hd : Bool} (h : DataW.Trod enc Try.prog W b0 sp hd 22 (.slice A n c) d p) :
    ∃ l : List Int, l.length = n ∧ Rd W W.heap.size A (ints l) ∧ n ≤ c ∧ c ≤ maxLen ∧ ∀ t ∈ l, (Lit.int .i64 t).wf = true := by
  obtain ⟨rows, hl, hk, hr, h1, h2⟩ := open_rows_flat (ks := [some .i64]) (C := 1) Try.underlying22 (by kernel_rfl) (by kernel_rfl) (by omega) h
  obtain ⟨l, he, hll, hok⟩ := rows_typed (fun x : Int => [Value.int .i64 x]) (fun x => (Lit.int .i64 x).wf = true) rows (fun r hr => by
    obtain ⟨_, _, rfl, ⟨x, rfl, wx⟩, rfl⟩ := (hk r hr).1
    exact ⟨x, rfl, wx⟩)
  exact ⟨l, by omega, ints_flat l ▸ he ▸ hr, h1, h2, hok⟩
end Go.Proofs.Ytjohpakfaommgaa
