/- Sorting in place, at any length: comparison, exchange, the sort by insertion. -/
import Derived.Test.YtmbchcenclfjoaaSq0
import Derived.Test.YtmbchcenclfjoaaRd
import Derived.RegionTactic
import Derived.BigRegion
import Derived.Deep.QuietTactic
import Derived.BigQuiet
namespace Go.Proofs.Ytmbchcenclfjoaa
open Go.ChangeShapes Go.WideShapes Go.ChangeAt Go.RowKit
set_option maxRecDepth 20000
set_option linter.unusedVariables false
set_option linter.unusedSimpArgs false
theorem isNaN_anyS (x : Int) (w : World) : Calls Try.prog 109 #[.int .i64 x] w fun e w' => e = .returned (.bool false) ∧ w = w' := by
  go_enter Try.func109, Try.ntmps109
  go_wp2
  go_ret
  exact ⟨by simp, rfl⟩
theorem less_any (x y : Int) (w : World) : Calls Try.prog 99 #[.int .i64 x, .int .i64 y] w fun e w' => e = .returned (.bool (decide (x < y))) ∧ w = w' := by
  go_enter Try.func99, Try.ntmps99
  go_wp2_with (go_at_call 109; refine (isNaN_anyS _ _).mono ?_; rintro e w' ⟨rfl, rfl⟩)
  go_ret
  exact ⟨rfl, rfl⟩
theorem less_q (x y : Int) (w : World) : Calls Try.prog 99 #[.int .i64 x, .int .i64 y] w fun e w' => e = .returned (.bool (decide (x < y))) ∧ w' = w := (less_any x y w).mono fun _ _ h => ⟨h.1, h.2.symm⟩
/-- the row d lies at block g -/
def Row (w : World) (base g n c : Nat) (d : List Int) : Prop := w.ownsRow base 2 1 (.slice (some ⟨g, 0, none⟩) n c) n (ints d)
theorem Row.cell {w : World} {base g n c : Nat} {d : List Int} (h : Row w base g n c d) {p : Nat} (hp : p < n) : w.cell? ⟨g, p, none⟩ = some (.int .i64 (nth d p)) := by
  have h2 : d.length = n := by have := h.1; simpa [ints] using this
  rw [h.cellAt p (by omega)]
  simp [ints, nth_some (show p < d.length by omega)]
theorem Row.len {w : World} {base g n c : Nat} {d : List Int} (h : Row w base g n c d) : d.length = n := by have := h.1; simpa [ints] using this
theorem Row.drewN {w : World} {base g n c : Nat} {d : List Int} (h : Row w base g n c d) (k : Nat) : Row (w.drewN k) base g n c d := own_drewN h k
theorem Row.ex {w : World} {base g n c : Nat} {d : List Int} (h : Row w base g n c d) (i j : Nat) : Row ((w.setCell ⟨g, i, none⟩ (.int .i64 (nth d j))).setCell ⟨g, j, none⟩ (.int .i64 (nth d i))) base g n c (swp d i j) := by
  have := ((World.ownsRow.stored h i (.int .i64 (nth d j))).1.stored j (.int .i64 (nth d i))).1
  simpa [Row, swp, ints, List.map_set] using this
theorem grown_swp (w : World) (g i j : Nat) (u v : Value) : w.grownBy ((w.setCell ⟨g, i, none⟩ u).setCell ⟨g, j, none⟩ v) (some g) :=
  grownBy_trans (b := w.setCell ⟨g, i, none⟩ u) ⟨rfl, rfl, rfl, by simp, fun k _ hk => heap_setCell_other w ⟨g, i, none⟩ k u (fun e => hk (by simp [e]))⟩ ⟨rfl, rfl, rfl, by simp, fun k _ hk => heap_setCell_other _ ⟨g, j, none⟩ k v (fun e => hk (by simp [e]))⟩
theorem grown_drewNS {w w' : World} {row : Option Nat} (h : w.grownBy w' row) (n : Nat) : w.grownBy (w'.drewN n) row := ⟨h.os, h.tape, h.output, h.size, h.block⟩
theorem grown_drewS {w w' : World} {row : Option Nat} (h : w.grownBy w' row) : w.grownBy w'.drew row := ⟨h.os, h.tape, h.output, h.size, h.block⟩
/-- what an own row is behind a call that writes only it -/
def RowP (base g n c : Nat) (w : World) (Q : List Int → Prop) (e : Ending) (w' : World) : Prop := ∃ d' : List Int, e = .returned (.tuple #[]) ∧ Q d' ∧ Row w' base g n c d' ∧ w.grownBy w' (some g)
set_option maxHeartbeats 4000000 in
theorem insertion_anyS (base g n c a b : Nat) (d0 : List Int) (w : World) (hn : n ≤ 1073741824) (hab : a ≤ b) (hb : b ≤ n) (h : Row w base g n c d0) :
   Calls Try.prog 93 #[.slice (some ⟨g, 0, none⟩) n c, .int .i64 a, .int .i64 b] w (RowP base g n c w (fun d => Sw a b d0 d ∧ SrtTo a b d)) := by
  have H := Lib.hid h
  have hlen := h.len
  have Hlen := Lib.hid hlen
  clear h hlen
  go_enter Try.func93, Try.ntmps93
  go_wp2_with fail
  go_loopw [6] (fun v wr => ∃ (i : Nat) (d : List Int), a < i ∧ (i ≤ b ∨ i = a + 1) ∧ v = .int .i64 i ∧ Sw a b d0 d ∧ SrtTo a i d ∧ Row wr base g n c d ∧ w.grownBy wr (some g)) (fun v _ => b - (intOf v).toNat)
  case atStart => exact ⟨a + 1, d0, by omega, .inr rfl, by go_num, Sw.refl, fun p q h1 h2 h3 => by omega, H.out, World.grownBy.refl _ _⟩
  case round =>
    obtain ⟨i, d, hai, hib, rfl, hp, hs, hr, hg⟩ := hrel
    have Hp := Lib.hid hp
    have Hs := Lib.hid hs
    have Hr := Lib.hid hr
    have Hg := Lib.hid hg
    generalize hwo : wr = wo at *
    clear hp hs hr hg hwo wr
    by_cases hlt : i < b
    · have hlt2 : (i : Int) < (b : Int) := by omega
      go_wp2_with fail
      go_loopw [7] (fun v wr => ∃ (j : Nat) (d' : List Int), a ≤ j ∧ j ≤ i ∧ v = .int .i64 j ∧ Sw a b d0 d' ∧ Hole a i j d' ∧ Row wr base g n c d' ∧ w.grownBy wr (some g)) (fun v _ => (intOf v).toNat - a)
      case atStart => exact ⟨i, d, by omega, Nat.le_refl _, rfl, Hp.out, Hole.start Hs.out, Hr.out, Hg.out⟩
      case round =>
        clear Hp Hs Hr Hg
        obtain ⟨j, d', haj, hji, rfl, hp, hs, hr, hg⟩ := hrel
        have Hp := Lib.hid hp
        have Hs := Lib.hid hs
        have Hr := Lib.hid hr
        have Hg := Lib.hid hg
        have hfz := hr.frozenAt
        have hdl : i < d'.length := by have := hr.len; omega
        by_cases hjp : a < j
        · have c0 := hr.cell (show j < n by omega)
          have c1 := hr.cell (show j - 1 < n by omega)
          have q0 : (0 : Int) ≤ (j : Int) := by omega
          have q1 : (j : Int) < (n : Int) := by omega
          have q2 : (0 : Int) ≤ ((j - 1 : Nat) : Int) := by omega
          have q3 : ((j - 1 : Nat) : Int) < (n : Int) := by omega
          have q4 : (a : Int) < (j : Int) := by omega
          have e1 : IntKind.i64.wrap ((j : Int) - 1) = ((j - 1 : Nat) : Int) := by rw [show (j : Int) - 1 = ((j - 1 : Nat) : Int) by omega]; exact IntWalk.i64_in _ (by omega)
          have hst := Lib.hid (fun hx => Hole.step hs hjp hji hdl hx)
          have hen := Lib.hid (fun hx => Hole.ends hs hjp hji hx)
          have HR2 := Lib.hid (fun k => (hr.drewN k).ex j (j - 1))
          have HP2 := Lib.hid (hp.ex (i := j) (j := j - 1) (by omega) (by omega) (by omega) (by omega))
          have HG2 := Lib.hid (fun k u v => grownBy_trans (grown_drewNS hg k) (grown_swp (wr.drewN k) g j (j - 1) u v))
          clear hp hs hr hg
          generalize swp d' j (j - 1) = D at *
          generalize nth d' j = x at *
          generalize nth d' (j - 1) = y at *
          by_cases hx : x < y
          · have hd : decide (x < y) = true := decide_eq_true hx
            have Hx := Lib.hid (hst.out hx)
            clear hst hen hx
            go_wp2
            go_quiet ((go_at_call 99; exact Calls.quiet_of_same (less_q x y _)))
            go_wp2_with fail
            go_region
            all_goals go_wp2
            all_goals go_roundw
            all_goals first | exact ⟨j - 1, D, by omega, by omega, by go_num, HP2.out, Hx.out, HR2.out _, HG2.out _ _ _⟩ | (simp [intOf]; omega)
          · have hd : decide (x < y) = false := decide_eq_false hx
            have Hx := Lib.hid (hen.out hx)
            clear hst hen hx HR2 HP2 HG2
            go_wp2
            go_quiet ((go_at_call 99; exact Calls.quiet_of_same (less_q x y _)))
            go_wp2
            go_roundw
            case rel => exact ⟨i + 1, d', by omega, .inl (by omega), by go_num, Hp.out, Hx.out, Hr.out.drewN _, grown_drewNS Hg.out _⟩
            case measure => simp [intOf]; omega
        · have hja : j = a := by omega
          subst hja
          have q4 : decide ((j : Int) < (j : Int)) = false := by simp
          have Hx := Lib.hid (Hole.bottom hs)
          clear hp hs hr hg
          go_wp2
          go_quiet (fail)
          go_wp2
          go_roundw
          case rel => exact ⟨i + 1, d', by omega, .inl (by omega), by go_num, Hp.out, Hx.out, Hr.out.drewN _, grown_drewNS Hg.out _⟩
          case measure => simp [intOf]; omega
    · have hlt2 : ¬ (i : Int) < (b : Int) := by omega
      go_wp2
      go_end0
      refine ⟨d, rfl, ⟨Hp.out, fun p q h1 h2 h3 => ?_⟩, Hr.out, Hg.out⟩
      exact Hs.out p q h1 h2 (by omega)
end Go.Proofs.Ytmbchcenclfjoaa
