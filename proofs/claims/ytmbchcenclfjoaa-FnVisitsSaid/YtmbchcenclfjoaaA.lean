/- Tasks and locks as pairs of numbers; small functions. -/
import Derived.Test.YtmbchcenclfjoaaRows
import Derived.Test.YtmbchcenclfjoaaRd
namespace Go.Proofs.Ytmbchcenclfjoaa
open Go.ChangeShapes Go.WideShapes Go.ChangeAt Go.RowKit
set_option linter.unusedVariables false
set_option linter.unusedSimpArgs false
theorem l01In_any (n lo hi : Int) (w : World) : Calls Try.prog 55 #[.int .i64 n, .int .i64 lo, .int .i64 hi] w fun e w' => e = .returned (.bool (inB n lo hi)) ∧ w = w' := by
  unfold inB
  go_enter Try.func55, Try.ntmps55
  go_wp2
  · go_ret
    have h : lo ≤ n := by assumption
    exact ⟨by simp [h], rfl⟩
  · go_ret
    have h : ¬ lo ≤ n := by omega
    exact ⟨by simp [h], rfl⟩
theorem within_any (n lo hi : Int) (w : World) : Calls Try.prog 59 #[.int .i64 n, .int .i64 lo, .int .i64 hi] w fun e w' => e = .returned (.bool (inB n lo hi)) ∧ w = w' := by
  unfold inB
  go_enter Try.func59, Try.ntmps59
  go_wp2
  · go_ret
    have h : lo ≤ n := by assumption
    exact ⟨by simp [h], rfl⟩
  · go_ret
    have h : ¬ lo ≤ n := by omega
    exact ⟨by simp [h], rfl⟩
def eTask (t : Int × Int) : List Value := [.int .i64 t.1, .int .i64 t.2]
theorem eTask_len (t : Int × Int) : (eTask t).length = 2 := rfl
def okTask (t : Int × Int) : Prop := (Lit.int .i64 t.1).wf = true ∧ (Lit.int .i64 t.2).wf = true
theorem kindsTask {cs : List Value} (h : AreKinds [some .i64, some .i64] cs) : ∃ t, cs = eTask t ∧ okTask t := by
  obtain ⟨_, _, rfl, ⟨x0, rfl, wx0⟩, _, _, rfl, ⟨x1, rfl, wx1⟩, rfl⟩ := h
  exact ⟨(x0, x1), rfl, wx0, wx1⟩
theorem Rd.atTask {w : World} {B : Nat} {A : Option Addr} {l : List (Int × Int)} (h : Rd w B A (l.flatMap eTask)) {k : Nat} {t : Int × Int} (hk : l[k]? = some t) :
    ∃ b o, A = some ⟨b, o, none⟩ ∧ b < B ∧ w.cell? ⟨b, o + k * 2, none⟩ = some (.int .i64 t.1) ∧ w.cell? ⟨b, o + k * 2 + 1, none⟩ = some (.int .i64 t.2) := by
  obtain ⟨b, o, e, hb, hc⟩ := h.row 2 eTask_len (by omega) hk
  exact ⟨b, o, e, hb, hc 0 _ rfl, hc 1 _ rfl⟩
theorem openlawsTaskS {H : Type} {enc : TypeId × Value → H} {W : World} {n c : Nat} {A : Option Addr} {d : DataW H} {p : List MemPlace} {b0 : Nat} {sp : Nat → Bool} {hd : Bool} (h : DataW.Trod enc Try.prog W b0 sp hd 22 (.slice A n c) d p) :
    ∃ l : List (Int × Int), l.length = n ∧ Rd W W.heap.size A (l.flatMap eTask) ∧ n ≤ c ∧ c ≤ maxLen ∧ ∀ t ∈ l, okTask t := by
  obtain ⟨rows, hl, hk, hr, h1, h2⟩ := open_rows_flat (ks := [some .i64, some .i64]) (C := 2) Try.underlying22 (by kernel_rfl) (by kernel_rfl) (by omega) h
  obtain ⟨l, he, hll, hok⟩ := rows_typed eTask okTask rows (fun r hr => kindsTask (hk r hr).1)
  exact ⟨l, by omega, he ▸ hr, h1, h2, hok⟩
theorem szTaskS_small (A : Option Addr) (n c : Nat) (q : Int) (h1 : (n : Int) ≤ q) (h2 : q ≤ 1048576) (w : World) : Calls Try.prog 15 #[.slice A n c, .int .i64 q] w fun e w' => e = .returned (.int .i64 (q - (n : Int))) ∧ w = w' := by
  go_enter Try.func15, Try.ntmps15
  go_wp2
  go_ret
  exact ⟨rfl, rfl⟩
theorem szTaskS_great (A : Option Addr) (n c : Nat) (q : Int) (h0 : 0 ≤ q) (h1 : q < (n : Int)) (h2 : q ≤ 1048576) (hn : n ≤ 9223372036854775807) (w : World) : Calls Try.prog 15 #[.slice A n c, .int .i64 q] w fun e w' => e = .returned (.int .i64 (-1)) ∧ w = w' := by
  go_enter Try.func15, Try.ntmps15
  go_wp2
  go_ret
  exact ⟨rfl, rfl⟩
theorem toTask_any (x0 : Int) (x1 : Int) (w : World) : Calls Try.prog 56 #[.agg #[.int .i64 x0, .int .i64 x1]] w fun e w' => e = .returned (.agg #[.int .i64 x0, .int .i64 x1]) ∧ Below w.heap.size w w' := by
  go_enter Try.func56, Try.ntmps56
  go_wp2
  all_goals go_returns
  all_goals exact ⟨by first | rfl | (simp [*]; done) | (simp_all []; done) | (simp_all []; omega) | (simp_all []; intros; exfalso; omega), by repeat' (first | (with_reducible exact Below.refl _ _) | (with_reducible assumption) | (with_reducible refine Below.alloc ?_ ?_ _) | (with_reducible refine Below.drew ?_) | (with_reducible refine below_drewN ?_ _) | (with_reducible refine Below.setCell ?_ ?_ _) | (with_reducible refine Below.trans ?_ (Below.mono (by assumption) ?_)) | go_size | (exact Below.size (by assumption)))⟩
theorem eqTask_same (x0 : Int) (x1 : Int) (w : World) : Calls Try.prog 61 #[.agg #[.int .i64 x0, .int .i64 x1], .agg #[.int .i64 x0, .int .i64 x1]] w fun e w' => e = .returned (.bool true) ∧ Below w.heap.size w w' := by
  go_enter Try.func61, Try.ntmps61
  go_wp2
  all_goals go_ret
  all_goals exact ⟨by first | rfl | (simp [*]; done) | (simp_all []; done) | (simp_all []; omega) | (simp_all []; intros; exfalso; omega), by repeat' (first | (with_reducible exact Below.refl _ _) | (with_reducible assumption) | (with_reducible refine Below.alloc ?_ ?_ _) | (with_reducible refine Below.drew ?_) | (with_reducible refine below_drewN ?_ _) | (with_reducible refine Below.setCell ?_ ?_ _) | (with_reducible refine Below.trans ?_ (Below.mono (by assumption) ?_)) | go_size | (exact Below.size (by assumption)))⟩
def eLock (t : Int × Int) : List Value := [.int .i64 t.1, .int .i64 t.2]
theorem eLock_len (t : Int × Int) : (eLock t).length = 2 := rfl
def okLock (t : Int × Int) : Prop := (Lit.int .i64 t.1).wf = true ∧ (Lit.int .i64 t.2).wf = true
theorem kindsLock {cs : List Value} (h : AreKinds [some .i64, some .i64] cs) : ∃ t, cs = eLock t ∧ okLock t := by
  obtain ⟨_, _, rfl, ⟨x0, rfl, wx0⟩, _, _, rfl, ⟨x1, rfl, wx1⟩, rfl⟩ := h
  exact ⟨(x0, x1), rfl, wx0, wx1⟩
theorem Rd.atLock {w : World} {B : Nat} {A : Option Addr} {l : List (Int × Int)} (h : Rd w B A (l.flatMap eLock)) {k : Nat} {t : Int × Int} (hk : l[k]? = some t) :
    ∃ b o, A = some ⟨b, o, none⟩ ∧ b < B ∧ w.cell? ⟨b, o + k * 2, none⟩ = some (.int .i64 t.1) ∧ w.cell? ⟨b, o + k * 2 + 1, none⟩ = some (.int .i64 t.2) := by
  obtain ⟨b, o, e, hb, hc⟩ := h.row 2 eLock_len (by omega) hk
  exact ⟨b, o, e, hb, hc 0 _ rfl, hc 1 _ rfl⟩
theorem openlawsLockS {H : Type} {enc : TypeId × Value → H} {W : World} {n c : Nat} {A : Option Addr} {d : DataW H} {p : List MemPlace} {b0 : Nat} {sp : Nat → Bool} {hd : Bool} (h : DataW.Trod enc Try.prog W b0 sp hd 29 (.slice A n c) d p) :
    ∃ l : List (Int × Int), l.length = n ∧ Rd W W.heap.size A (l.flatMap eLock) ∧ n ≤ c ∧ c ≤ maxLen ∧ ∀ t ∈ l, okLock t := by
  obtain ⟨rows, hl, hk, hr, h1, h2⟩ := open_rows_flat (ks := [some .i64, some .i64]) (C := 2) Try.underlying29 (by kernel_rfl) (by kernel_rfl) (by omega) h
  obtain ⟨l, he, hll, hok⟩ := rows_typed eLock okLock rows (fun r hr => kindsLock (hk r hr).1)
  exact ⟨l, by omega, he ▸ hr, h1, h2, hok⟩
theorem szLockS_small (A : Option Addr) (n c : Nat) (q : Int) (h1 : (n : Int) ≤ q) (h2 : q ≤ 1048576) (w : World) : Calls Try.prog 20 #[.slice A n c, .int .i64 q] w fun e w' => e = .returned (.int .i64 (q - (n : Int))) ∧ w = w' := by
  go_enter Try.func20, Try.ntmps20
  go_wp2
  go_ret
  exact ⟨rfl, rfl⟩
theorem szLockS_great (A : Option Addr) (n c : Nat) (q : Int) (h0 : 0 ≤ q) (h1 : q < (n : Int)) (h2 : q ≤ 1048576) (hn : n ≤ 9223372036854775807) (w : World) : Calls Try.prog 20 #[.slice A n c, .int .i64 q] w fun e w' => e = .returned (.int .i64 (-1)) ∧ w = w' := by
  go_enter Try.func20, Try.ntmps20
  go_wp2
  go_ret
  exact ⟨rfl, rfl⟩
theorem toLock_any (x0 : Int) (x1 : Int) (w : World) : Calls Try.prog 64 #[.agg #[.int .i64 x0, .int .i64 x1]] w fun e w' => e = .returned (.agg #[.int .i64 x0, .int .i64 x1]) ∧ Below w.heap.size w w' := by
  go_enter Try.func64, Try.ntmps64
  go_wp2
  all_goals go_returns
  all_goals exact ⟨by first | rfl | (simp [*]; done) | (simp_all []; done) | (simp_all []; omega) | (simp_all []; intros; exfalso; omega), by repeat' (first | (with_reducible exact Below.refl _ _) | (with_reducible assumption) | (with_reducible refine Below.alloc ?_ ?_ _) | (with_reducible refine Below.drew ?_) | (with_reducible refine below_drewN ?_ _) | (with_reducible refine Below.setCell ?_ ?_ _) | (with_reducible refine Below.trans ?_ (Below.mono (by assumption) ?_)) | go_size | (exact Below.size (by assumption)))⟩
theorem eqLock_same (x0 : Int) (x1 : Int) (w : World) : Calls Try.prog 67 #[.agg #[.int .i64 x0, .int .i64 x1], .agg #[.int .i64 x0, .int .i64 x1]] w fun e w' => e = .returned (.bool true) ∧ Below w.heap.size w w' := by
  go_enter Try.func67, Try.ntmps67
  go_wp2
  all_goals go_ret
  all_goals exact ⟨by first | rfl | (simp [*]; done) | (simp_all []; done) | (simp_all []; omega) | (simp_all []; intros; exfalso; omega), by repeat' (first | (with_reducible exact Below.refl _ _) | (with_reducible assumption) | (with_reducible refine Below.alloc ?_ ?_ _) | (with_reducible refine Below.drew ?_) | (with_reducible refine below_drewN ?_ _) | (with_reducible refine Below.setCell ?_ ?_ _) | (with_reducible refine Below.trans ?_ (Below.mono (by assumption) ?_)) | go_size | (exact Below.size (by assumption)))⟩
end Go.Proofs.Ytmbchcenclfjoaa
