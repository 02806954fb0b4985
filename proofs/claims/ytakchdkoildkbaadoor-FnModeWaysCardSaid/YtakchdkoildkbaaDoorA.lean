/- Modes and commands: small functions. -/
import Derived.Test.YtakchdkoildkbaaDoorRows
import Derived.Test.YtakchdkoildkbaaDoorRd
namespace Go.Proofs.YtakchdkoildkbaaDoor
open Go.ChangeShapes Go.WideShapes Go.ChangeAt Go.RowKit
set_option linter.unusedVariables false
set_option linter.unusedSimpArgs false
theorem l01In_any (n lo hi : Int) (w : World) : Calls Tryd.prog 50 #[.int .i64 n, .int .i64 lo, .int .i64 hi] w fun e w' => e = .returned (.bool (inB n lo hi)) ∧ w = w' := by
  unfold inB
  go_enter Tryd.func50, Tryd.ntmps50
  go_wp2
  · go_ret
    have h : lo ≤ n := by assumption
    exact ⟨by simp [h], rfl⟩
  · go_ret
    have h : ¬ lo ≤ n := by omega
    exact ⟨by simp [h], rfl⟩
theorem l01In_r (n lo hi : Int) (r : Bool) (h : inB n lo hi = r) (w : World) : Calls Tryd.prog 50 #[.int .i64 n, .int .i64 lo, .int .i64 hi] w fun e w' => e = .returned (.bool r) ∧ w = w' := h ▸ l01In_any n lo hi w
theorem within_any (n lo hi : Int) (w : World) : Calls Tryd.prog 49 #[.int .i64 n, .int .i64 lo, .int .i64 hi] w fun e w' => e = .returned (.bool (inB n lo hi)) ∧ w = w' := by
  unfold inB
  go_enter Tryd.func49, Tryd.ntmps49
  go_wp2
  · go_ret
    have h : lo ≤ n := by assumption
    exact ⟨by simp [h], rfl⟩
  · go_ret
    have h : ¬ lo ≤ n := by omega
    exact ⟨by simp [h], rfl⟩
theorem within_r (n lo hi : Int) (r : Bool) (h : inB n lo hi = r) (w : World) : Calls Tryd.prog 49 #[.int .i64 n, .int .i64 lo, .int .i64 hi] w fun e w' => e = .returned (.bool r) ∧ w = w' := h ▸ within_any n lo hi w
theorem isMode_any (n : Int) (w : World) : Calls Tryd.prog 37 #[.int .i64 n] w fun e w' => e = .returned (.bool (inB n 0 5)) ∧ w = w' := by
  go_enter Tryd.func37, Tryd.ntmps37
  go_wp2_with (first
    | (go_at_call 49; refine (within_any _ _ _ _).mono ?_; rintro e w' ⟨rfl, rfl⟩))
  all_goals go_ret
  all_goals exact ⟨by first | rfl | (simp [*]; done) | (simp_all []; done) | (simp_all []; omega) | (simp_all []; intros; exfalso; omega), rfl⟩
theorem isRole_any (n : Int) (w : World) : Calls Tryd.prog 38 #[.int .i64 n] w fun e w' => e = .returned (.bool (inB n 0 3)) ∧ w = w' := by
  go_enter Tryd.func38, Tryd.ntmps38
  go_wp2_with (first
    | (go_at_call 49; refine (within_any _ _ _ _).mono ?_; rintro e w' ⟨rfl, rfl⟩))
  all_goals go_ret
  all_goals exact ⟨by first | rfl | (simp [*]; done) | (simp_all []; done) | (simp_all []; omega) | (simp_all []; intros; exfalso; omega), rfl⟩
theorem l27Mode_any (n : Int) (w : World) : Calls Tryd.prog 34 #[.int .i64 n] w fun e w' => e = .returned (.bool (inB n 0 5)) ∧ w = w' := by
  go_enter Tryd.func34, Tryd.ntmps34
  go_wp2_with (first
    | (go_at_call 50; refine (l01In_any _ _ _ _).mono ?_; rintro e w' ⟨rfl, rfl⟩))
  all_goals go_ret
  all_goals exact ⟨by first | rfl | (simp [*]; done) | (simp_all []; done) | (simp_all []; omega) | (simp_all []; intros; exfalso; omega), rfl⟩
theorem l27Role_any (n : Int) (w : World) : Calls Tryd.prog 35 #[.int .i64 n] w fun e w' => e = .returned (.bool (inB n 0 3)) ∧ w = w' := by
  go_enter Tryd.func35, Tryd.ntmps35
  go_wp2_with (first
    | (go_at_call 50; refine (l01In_any _ _ _ _).mono ?_; rintro e w' ⟨rfl, rfl⟩))
  all_goals go_ret
  all_goals exact ⟨by first | rfl | (simp [*]; done) | (simp_all []; done) | (simp_all []; omega) | (simp_all []; intros; exfalso; omega), rfl⟩
def cmdB (a r : Int) : Bool := inB a 0 9 && inB r 0 3
theorem isCmd_impl (a r : Int) (b : Bool) (w : World) : Calls Tryd.prog 19 #[.agg #[.int .i64 a, .int .i64 r, .bool b]] w fun e w' => e = .returned (.bool (cmdB a r)) ∧ Below w.heap.size w w' := by
  go_enter Tryd.func19, Tryd.ntmps19
  go_wp2_with (first
    | (go_at_call 49; refine (within_any _ _ _ _).mono ?_; rintro e w' ⟨rfl, rfl⟩)
    | (go_at_call 38; refine (isRole_any _ _).mono ?_; rintro e w' ⟨rfl, rfl⟩))
  all_goals go_ret
  all_goals exact ⟨by first | rfl | (simp [cmdB, *]; done) | (simp_all [cmdB]; done) | (simp_all [cmdB]; omega) | (simp_all [cmdB]; intros; exfalso; omega), by repeat' (first | (with_reducible exact Below.refl _ _) | (with_reducible assumption) | (with_reducible refine Below.alloc ?_ ?_ _) | (with_reducible refine Below.drew ?_) | (with_reducible refine below_drewN ?_ _) | (with_reducible refine Below.setCell ?_ ?_ _) | (with_reducible refine Below.trans ?_ (Below.mono (by assumption) ?_)) | go_size | (exact Below.size (by assumption)))⟩
theorem isCmd_spec (a r : Int) (b : Bool) (w : World) : Calls Tryd.prog 20 #[.agg #[.int .i64 a, .int .i64 r, .bool b]] w fun e w' => e = .returned (.bool (cmdB a r)) ∧ Below w.heap.size w w' := by
  go_enter Tryd.func20, Tryd.ntmps20
  go_wp2_with (first
    | (go_at_call 50; refine (l01In_any _ _ _ _).mono ?_; rintro e w' ⟨rfl, rfl⟩)
    | (go_at_call 35; refine (l27Role_any _ _).mono ?_; rintro e w' ⟨rfl, rfl⟩))
  all_goals go_ret
  all_goals exact ⟨by first | rfl | (simp [cmdB, *]; done) | (simp_all [cmdB]; done) | (simp_all [cmdB]; omega) | (simp_all [cmdB]; intros; exfalso; omega), by repeat' (first | (with_reducible exact Below.refl _ _) | (with_reducible assumption) | (with_reducible refine Below.alloc ?_ ?_ _) | (with_reducible refine Below.drew ?_) | (with_reducible refine below_drewN ?_ _) | (with_reducible refine Below.setCell ?_ ?_ _) | (with_reducible refine Below.trans ?_ (Below.mono (by assumption) ?_)) | go_size | (exact Below.size (by assumption)))⟩
def eCommand (t : Int × Int × Bool) : List Value := [.int .i64 t.1, .int .i64 t.2.1, .bool t.2.2]
theorem eCommand_len (t : Int × Int × Bool) : (eCommand t).length = 3 := rfl
def okCommand (t : Int × Int × Bool) : Prop := (Lit.int .i64 t.1).wf = true ∧ (Lit.int .i64 t.2.1).wf = true
theorem kindsCommand {cs : List Value} (h : AreKinds [some .i64, some .i64, none] cs) : ∃ t, cs = eCommand t ∧ okCommand t := by
  obtain ⟨_, _, rfl, ⟨x0, rfl, wx0⟩, _, _, rfl, ⟨x1, rfl, wx1⟩, _, _, rfl, ⟨x2, rfl⟩, rfl⟩ := h
  exact ⟨(x0, x1, x2), rfl, wx0, wx1⟩
theorem Rd.atCommand {w : World} {B : Nat} {A : Option Addr} {l : List (Int × Int × Bool)} (h : Rd w B A (l.flatMap eCommand)) {k : Nat} {t : Int × Int × Bool} (hk : l[k]? = some t) :
    ∃ b o, A = some ⟨b, o, none⟩ ∧ b < B ∧ w.cell? ⟨b, o + k * 3, none⟩ = some (.int .i64 t.1) ∧ w.cell? ⟨b, o + k * 3 + 1, none⟩ = some (.int .i64 t.2.1) ∧ w.cell? ⟨b, o + k * 3 + 2, none⟩ = some (.bool t.2.2) := by
  obtain ⟨b, o, e, hb, hc⟩ := h.row 3 eCommand_len (by omega) hk
  exact ⟨b, o, e, hb, hc 0 _ rfl, hc 1 _ rfl, hc 2 _ rfl⟩
theorem openlawsCommandS {H : Type} {enc : TypeId × Value → H} {W : World} {n c : Nat} {A : Option Addr} {d : DataW H} {p : List MemPlace} {b0 : Nat} {sp : Nat → Bool} {hd : Bool} (h : DataW.Trod enc Tryd.prog W b0 sp hd 42 (.slice A n c) d p) :
    ∃ l : List (Int × Int × Bool), l.length = n ∧ Rd W W.heap.size A (l.flatMap eCommand) ∧ n ≤ c ∧ c ≤ maxLen ∧ ∀ t ∈ l, okCommand t := by
  obtain ⟨rows, hl, hk, hr, h1, h2⟩ := open_rows_flat (ks := [some .i64, some .i64, none]) (C := 3) Tryd.underlying42 (by kernel_rfl) (by kernel_rfl) (by omega) h
  obtain ⟨l, he, hll, hok⟩ := rows_typed eCommand okCommand rows (fun r hr => kindsCommand (hk r hr).1)
  exact ⟨l, by omega, he ▸ hr, h1, h2, hok⟩
theorem szCommandS_small (A : Option Addr) (n c : Nat) (q : Int) (h1 : (n : Int) ≤ q) (h2 : q ≤ 1048576) (w : World) : Calls Tryd.prog 25 #[.slice A n c, .int .i64 q] w fun e w' => e = .returned (.int .i64 (q - (n : Int))) ∧ w = w' := by
  go_enter Tryd.func25, Tryd.ntmps25
  go_wp2
  go_ret
  exact ⟨rfl, rfl⟩
theorem szCommandS_great (A : Option Addr) (n c : Nat) (q : Int) (h0 : 0 ≤ q) (h1 : q < (n : Int)) (h2 : q ≤ 1048576) (hn : n ≤ 9223372036854775807) (w : World) : Calls Tryd.prog 25 #[.slice A n c, .int .i64 q] w fun e w' => e = .returned (.int .i64 (-1)) ∧ w = w' := by
  go_enter Tryd.func25, Tryd.ntmps25
  go_wp2
  go_ret
  exact ⟨rfl, rfl⟩
theorem toCommand_any (x0 : Int) (x1 : Int) (x2 : Bool) (w : World) : Calls Tryd.prog 52 #[.agg #[.int .i64 x0, .int .i64 x1, .bool x2]] w fun e w' => e = .returned (.agg #[.int .i64 x0, .int .i64 x1, .bool x2]) ∧ Below w.heap.size w w' := by
  go_enter Tryd.func52, Tryd.ntmps52
  go_wp2
  all_goals go_returns
  all_goals exact ⟨by first | rfl | (simp [*]; done) | (simp_all []; done) | (simp_all []; omega) | (simp_all []; intros; exfalso; omega), by repeat' (first | (with_reducible exact Below.refl _ _) | (with_reducible assumption) | (with_reducible refine Below.alloc ?_ ?_ _) | (with_reducible refine Below.drew ?_) | (with_reducible refine below_drewN ?_ _) | (with_reducible refine Below.setCell ?_ ?_ _) | (with_reducible refine Below.trans ?_ (Below.mono (by assumption) ?_)) | go_size | (exact Below.size (by assumption)))⟩
theorem eqCommand_same (x0 : Int) (x1 : Int) (x2 : Bool) (w : World) : Calls Tryd.prog 53 #[.agg #[.int .i64 x0, .int .i64 x1, .bool x2], .agg #[.int .i64 x0, .int .i64 x1, .bool x2]] w fun e w' => e = .returned (.bool true) ∧ Below w.heap.size w w' := by
  go_enter Tryd.func53, Tryd.ntmps53
  go_wp2
  all_goals go_ret
  all_goals exact ⟨by first | rfl | (simp [*]; done) | (simp_all []; done) | (simp_all []; omega) | (simp_all []; intros; exfalso; omega), by repeat' (first | (with_reducible exact Below.refl _ _) | (with_reducible assumption) | (with_reducible refine Below.alloc ?_ ?_ _) | (with_reducible refine Below.drew ?_) | (with_reducible refine below_drewN ?_ _) | (with_reducible refine Below.setCell ?_ ?_ _) | (with_reducible refine Below.trans ?_ (Below.mono (by assumption) ?_)) | go_size | (exact Below.size (by assumption)))⟩
theorem openInts {H : Type} {enc : TypeId × Value → H} {W : World} {n c : Nat} {A : Option Addr} {d : DataW H} {p : List MemPlace} {b0 : Nat} {sp : Nat → Bool} {hd : Bool} (h : DataW.Trod enc Tryd.prog W b0 sp hd 22 (.slice A n c) d p) :
    ∃ l : List Int, l.length = n ∧ Rd W W.heap.size A (ints l) ∧ n ≤ c ∧ c ≤ maxLen ∧ ∀ t ∈ l, (Lit.int .i64 t).wf = true := by
  obtain ⟨rows, hl, hk, hr, h1, h2⟩ := open_rows_flat (ks := [some .i64]) (C := 1) Tryd.underlying22 (by kernel_rfl) (by kernel_rfl) (by omega) h
  obtain ⟨l, he, hll, hok⟩ := rows_typed (fun x : Int => [Value.int .i64 x]) (fun x => (Lit.int .i64 x).wf = true) rows (fun r hr => by
    obtain ⟨_, _, rfl, ⟨x, rfl, wx⟩, rfl⟩ := (hk r hr).1
    exact ⟨x, rfl, wx⟩)
  exact ⟨l, by omega, ints_flat l ▸ he ▸ hr, h1, h2, hok⟩
end Go.Proofs.YtakchdkoildkbaaDoor
