/- StopVerdict: walks of the program and of the reference. -/
import Derived.Test.YtooifamckccadaaAe
import Derived.Deep.RegionHeld3
namespace Go.Proofs.Ytooifamckccadaa
open Go.ChangeShapes Go.WideShapes Go.ChangeAt Go.RowKit
set_option maxRecDepth 20000
set_option linter.unusedVariables false
set_option linter.unusedSimpArgs false
def svC (t : Seg) : Int := if brkB t.1 then 0 else 5
def svV (t : Seg) (e : Ivl) : Int := if brkB t.1 then (if 1 ≤ (workP t).1 ∧ e.2 ≤ (workP t).1 then 2 else if (workP t).2 < e.1 then 0 else 1) else 0
def slwB (t : Seg) : Bool := brkB t.1 && decide (1 ≤ (workP t).1)
theorem work_impl_t (k len rise rl rh fl fh : Int) (W1 W2 : Int) (hW : workP (k, len, rise, rl, rh, fl, fh) = (W1, W2)) (h : segB k len rise rl rh fl fh = true) (w : World) : Calls Try.prog 93 #[.agg #[.int .i64 k, .int .i64 len, .int .i64 rise, .int .i64 rl, .int .i64 rh, .int .i64 fl, .int .i64 fh]] w fun e w' => e = .returned (.agg #[.int .i64 W1, .int .i64 W2]) ∧ Below w.heap.size w w' := by
  have := work_impl k len rise rl rh fl fh h w
  have h1 : W1 = 2 * ((fl + rl) * len + 9806 * rise) := (congrArg Prod.fst hW).symm
  have h2 : W2 = 2 * ((fh + rh) * len + 9806 * rise) := (congrArg Prod.snd hW).symm
  rw [h1, h2]
  exact this
theorem work_spec_t (k len rise rl rh fl fh : Int) (W1 W2 : Int) (hW : workP (k, len, rise, rl, rh, fl, fh) = (W1, W2)) (h : segB k len rise rl rh fl fh = true) (w : World) : Calls Try.prog 138 #[.agg #[.int .i64 k, .int .i64 len, .int .i64 rise, .int .i64 rl, .int .i64 rh, .int .i64 fl, .int .i64 fh]] w fun e w' => e = .returned (.agg #[.int .i64 W1, .int .i64 W2]) ∧ Below w.heap.size w w' := by
  have := work_spec k len rise rl rh fl fh h w
  have h1 : W1 = 2 * ((fl + rl) * len + 9806 * rise) := (congrArg Prod.fst hW).symm
  have h2 : W2 = 2 * ((fh + rh) * len + 9806 * rise) := (congrArg Prod.snd hW).symm
  rw [h1, h2]
  exact this
theorem field_iv0 (x y : Int) : ∀ w : World, (Instr.field 29 (.agg #[.int .i64 x, .int .i64 y]) 0).run Try.prog w = .ok (.int .i64 x) w := fun _ => by kernel_rfl
theorem field_iv1 (x y : Int) : ∀ w : World, (Instr.field 29 (.agg #[.int .i64 x, .int .i64 y]) 1).run Try.prog w = .ok (.int .i64 y) w := fun _ => by kernel_rfl
theorem slows_any (k len rise rl rh fl fh : Int) (W1 W2 : Int) (hW : workP (k, len, rise, rl, rh, fl, fh) = (W1, W2)) (h : segB k len rise rl rh fl fh = true) (r : Bool) (hr : (brkB k && decide (1 ≤ W1)) = r) (w : World) : Calls Try.prog 92 #[.agg #[.int .i64 k, .int .i64 len, .int .i64 rise, .int .i64 rl, .int .i64 rh, .int .i64 fl, .int .i64 fh]] w fun e w' => e = .returned (.bool r) ∧ Below w.heap.size w w' := by
  subst hr
  have HW := Lib.hid (fun w' => work_impl_t k len rise rl rh fl fh W1 W2 hW h w')
  have HB := Lib.hid (fun w' => isBrake_impl k len rise rl rh fl fh w')
  have hF0 := field_iv0 W1 W2
  clear hW h
  cases hb : brkB k with
  | false =>
    rw [hb] at HB
    clear hb
    go_enter Try.func92, Try.ntmps92
    go_wp2_with (go_at_call 91; refine (HB.out _).mono ?_; rintro e w1 ⟨rfl, b1⟩)
    go_ret
    exact ⟨rfl, by repeat' (first | (with_reducible exact Below.refl _ _) | (with_reducible assumption) | (with_reducible refine Below.alloc ?_ ?_ _) | (with_reducible refine Below.drew ?_) | (with_reducible refine below_drewN ?_ _) | (with_reducible refine Below.setCell ?_ ?_ _) | (with_reducible refine Below.trans ?_ (Below.mono (by assumption) ?_)) | go_size | (exact Below.size (by assumption)))⟩
  | true =>
    rw [hb] at HB
    clear hb
    go_enter Try.func92, Try.ntmps92
    go_wp2_with (first | (go_at_call 91; refine (HB.out _).mono ?_; rintro e w1 ⟨rfl, b1⟩; obtain ⟨hc1, hf1, hz1⟩ := bstep (N := w.heap.size + 1) (by go_size) b1) | (go_at_call 93; refine (HW.out _).mono ?_; rintro e w2 ⟨rfl, b2⟩))
    go_ret
    exact ⟨by simp, by repeat' (first | (with_reducible exact Below.refl _ _) | (with_reducible assumption) | (with_reducible refine Below.alloc ?_ ?_ _) | (with_reducible refine Below.drew ?_) | (with_reducible refine below_drewN ?_ _) | (with_reducible refine Below.setCell ?_ ?_ _) | (with_reducible refine Below.trans ?_ (Below.mono (by assumption) ?_)) | go_size | (exact Below.size (by assumption)))⟩
set_option maxHeartbeats 2000000 in
theorem stopV_impl (k len rise rl rh fl fh : Int) (lo hi : Int) (h : segB k len rise rl rh fl fh = true) (he : enB lo hi = true) (w : World) :
   Calls Try.prog 26 #[.agg #[.int .i64 k, .int .i64 len, .int .i64 rise, .int .i64 rl, .int .i64 rh, .int .i64 fl, .int .i64 fh], .agg #[.int .i64 lo, .int .i64 hi]] w fun e w' => e = .returned (.tuple #[.int .i64 (svV (k, len, rise, rl, rh, fl, fh) (lo, hi)), .int .i64 (svC (k, len, rise, rl, rh, fl, fh))]) ∧ Below w.heap.size w w' := by
  have H1 := Lib.hid (fun w' => isSeg_impl_r k len rise rl rh fl fh true h w')
  have H2 := Lib.hid (fun w' => isEn_impl_r lo hi true he w')
  have H3 := Lib.hid (fun w' => isBrake_impl k len rise rl rh fl fh w')
  obtain ⟨W1, W2, hW⟩ : ∃ W1 W2, workP (k, len, rise, rl, rh, fl, fh) = (W1, W2) := ⟨_, _, rfl⟩
  have HW := Lib.hid (fun w' => work_impl_t k len rise rl rh fl fh W1 W2 hW h w')
  have HS := Lib.hid (fun (r : Bool) (hr : (brkB k && decide (1 ≤ W1)) = r) w' => slows_any k len rise rl rh fl fh W1 W2 hW h r hr w')
  unfold svV svC
  rw [hW]
  dsimp only
  have hF0 := field_iv0 W1 W2
  have hF1 := field_iv1 W1 W2
  clear h he hW
  cases hb : brkB k with
  | false =>
    rw [hb] at H3
    clear hb
    go_enter Try.func26, Try.ntmps26
    go_wp2_with (first | (go_at_call 89; refine (H1.out _).mono ?_; rintro e w1 ⟨rfl, b1⟩; obtain ⟨hc1, hf1, hz1⟩ := bstep (N := w.heap.size + 2) (by go_size) b1; have y1 : w.heap.size < w1.heap.size := (by omega); have x1 : w.heap.size + 1 < w1.heap.size := (by omega)) | (go_at_call 90; refine (H2.out _).mono ?_; rintro e w2 ⟨rfl, b2⟩; obtain ⟨hc2, hf2, hz2⟩ := bstep (N := w.heap.size + 2) (by go_size) b2; have y2 : w.heap.size < w2.heap.size := (by omega); have x2 : w.heap.size + 1 < w2.heap.size := (by omega)) | (go_at_call 91; refine (H3.out _).mono ?_; rintro e w3 ⟨rfl, b3⟩; obtain ⟨hc3, hf3, hz3⟩ := bstep (N := w.heap.size + 2) (by go_size) b3; have y3 : w.heap.size < w3.heap.size := (by omega); have x3 : w.heap.size + 1 < w3.heap.size := (by omega)))
    go_ret2
    exact ⟨rfl, by repeat' (first | (with_reducible exact Below.refl _ _) | (with_reducible assumption) | (with_reducible refine Below.alloc ?_ ?_ _) | (with_reducible refine Below.drew ?_) | (with_reducible refine below_drewN ?_ _) | (with_reducible refine Below.setCell ?_ ?_ _) | (with_reducible refine Below.trans ?_ (Below.mono (by assumption) ?_)) | go_size | (exact Below.size (by assumption)))⟩
  | true =>
    rw [hb] at H3 HS
    clear hb
    have e0 : ((true = true) = True) := by simp
    clear e0
    by_cases q1 : 1 ≤ W1
    · by_cases q2 : hi ≤ W1
      · have e1 : (if (true = true) then (if 1 ≤ W1 ∧ hi ≤ W1 then (2 : Int) else if W2 < lo then 0 else 1) else 0) = 2 := by simp [q1, q2]
        rw [e1]
        clear e1
        have HS2 := Lib.hid (fun w' => HS.out true (by simp; omega) w')
        clear HS
        go_enter Try.func26, Try.ntmps26
        go_wp2_with (first | (go_at_call 89; refine (H1.out _).mono ?_; rintro e w1 ⟨rfl, b1⟩; obtain ⟨hc1, hf1, hz1⟩ := bstep (N := w.heap.size + 2) (by go_size) b1; have y1 : w.heap.size < w1.heap.size := (by omega); have x1 : w.heap.size + 1 < w1.heap.size := (by omega)) | (go_at_call 90; refine (H2.out _).mono ?_; rintro e w2 ⟨rfl, b2⟩; obtain ⟨hc2, hf2, hz2⟩ := bstep (N := w.heap.size + 2) (by go_size) b2; have y2 : w.heap.size < w2.heap.size := (by omega); have x2 : w.heap.size + 1 < w2.heap.size := (by omega)) | (go_at_call 91; refine (H3.out _).mono ?_; rintro e w3 ⟨rfl, b3⟩; obtain ⟨hc3, hf3, hz3⟩ := bstep (N := w.heap.size + 2) (by go_size) b3; have y3 : w.heap.size < w3.heap.size := (by omega); have x3 : w.heap.size + 1 < w3.heap.size := (by omega)))
        have B3 : Below w.heap.size w w3 := by repeat' (first | (with_reducible exact Below.refl _ _) | (with_reducible assumption) | (with_reducible refine Below.alloc ?_ ?_ _) | (with_reducible refine Below.drew ?_) | (with_reducible refine below_drewN ?_ _) | (with_reducible refine Below.setCell ?_ ?_ _) | (with_reducible refine Below.trans ?_ (Below.mono (by assumption) ?_)) | go_size | (exact Below.size (by assumption)))
        have c00 : w3.cell? ⟨w.heap.size, 0, none⟩ = some (.int .i64 k) := by go_cell
        have c01 : w3.cell? ⟨w.heap.size, 1, none⟩ = some (.int .i64 len) := by go_cell
        have c02 : w3.cell? ⟨w.heap.size, 2, none⟩ = some (.int .i64 rise) := by go_cell
        have c03 : w3.cell? ⟨w.heap.size, 3, none⟩ = some (.int .i64 rl) := by go_cell
        have c04 : w3.cell? ⟨w.heap.size, 4, none⟩ = some (.int .i64 rh) := by go_cell
        have c05 : w3.cell? ⟨w.heap.size, 5, none⟩ = some (.int .i64 fl) := by go_cell
        have c06 : w3.cell? ⟨w.heap.size, 6, none⟩ = some (.int .i64 fh) := by go_cell
        have c10 : w3.cell? ⟨w.heap.size + 1, 0, none⟩ = some (.int .i64 lo) := by go_cell
        have c11 : w3.cell? ⟨w.heap.size + 1, 1, none⟩ = some (.int .i64 hi) := by go_cell
        clear hc1 hf1 hc2 hf2 hc3 hf3 b1 b2 b3 y1 x1 y2 x2 hz1 hz2 hz3
        go_wp2_with fail
        go_cut [19] (fun s wx => s = .bool true ∧ Below w3.heap.size w3 wx)
        case first =>
          go_region_held3 (fun w' => w'.cell? ⟨w.heap.size, 0, none⟩ = some (.int .i64 k) ∧ w'.cell? ⟨w.heap.size, 1, none⟩ = some (.int .i64 len) ∧ w'.cell? ⟨w.heap.size, 2, none⟩ = some (.int .i64 rise) ∧ w'.cell? ⟨w.heap.size, 3, none⟩ = some (.int .i64 rl) ∧ w'.cell? ⟨w.heap.size, 4, none⟩ = some (.int .i64 rh) ∧ w'.cell? ⟨w.heap.size, 5, none⟩ = some (.int .i64 fl) ∧ w'.cell? ⟨w.heap.size, 6, none⟩ = some (.int .i64 fh) ∧ w'.cell? ⟨w.heap.size + 1, 0, none⟩ = some (.int .i64 lo) ∧ w'.cell? ⟨w.heap.size + 1, 1, none⟩ = some (.int .i64 hi)) (simp [*, World.cell?_alloc_past, World.cell?_setCell_far])
            ((first | (go_at_call 92; refine (HS2.out _).mono ?_; rintro e w5 ⟨rfl, b5⟩; replace b5 : Below w3.heap.size w3 w5 := (by first | exact b5 | exact Below.trans (Below.drew (Below.refl _ _)) b5); have z5 := b5.size; (try simp only [World.size_alloc, World.size_drew] at z5); obtain ⟨hc5, hf5, hz5⟩ := bstep (Nat.le_refl _) b5; have y5 : w.heap.size < w5.heap.size := (by omega); have x5 : w.heap.size + 1 < w5.heap.size := (by omega)) | (go_at_call 93; refine (HW.out _).mono ?_; rintro e w6 ⟨rfl, b6⟩; replace b6 : Below w5.heap.size w5 w6 := (by first | exact b6 | exact Below.trans (Below.drew (Below.refl _ _)) b6); have z6 := b6.size; (try simp only [World.size_alloc, World.size_drew] at z6); obtain ⟨hc6, hf6, hz6⟩ := bstep (Nat.le_refl _) b6; have y6 : w.heap.size < w6.heap.size := (by omega); have x6 : w.heap.size + 1 < w6.heap.size := (by omega))))
          all_goals (go_wp2_with fail; go_meet; refine ⟨rfl, by repeat' (first | (with_reducible exact Below.refl _ _) | (with_reducible assumption) | (with_reducible refine Below.alloc ?_ ?_ _) | (with_reducible refine Below.drew ?_) | (with_reducible refine below_drewN ?_ _) | (with_reducible refine Below.setCell ?_ ?_ _) | (with_reducible refine Below.trans ?_ (Below.mono (by assumption) ?_)) | go_size | (exact Below.size (by assumption)))⟩)
        case rest =>
          obtain ⟨rfl, b7⟩ := hcut
          have B7 : Below w.heap.size w wc := B3.trans (b7.mono (by omega))
          replace c00 := (b7.cell (p := ⟨w.heap.size, 0, none⟩) (by simp; omega)).trans c00
          replace c01 := (b7.cell (p := ⟨w.heap.size, 1, none⟩) (by simp; omega)).trans c01
          replace c02 := (b7.cell (p := ⟨w.heap.size, 2, none⟩) (by simp; omega)).trans c02
          replace c03 := (b7.cell (p := ⟨w.heap.size, 3, none⟩) (by simp; omega)).trans c03
          replace c04 := (b7.cell (p := ⟨w.heap.size, 4, none⟩) (by simp; omega)).trans c04
          replace c05 := (b7.cell (p := ⟨w.heap.size, 5, none⟩) (by simp; omega)).trans c05
          replace c06 := (b7.cell (p := ⟨w.heap.size, 6, none⟩) (by simp; omega)).trans c06
          replace c10 := (b7.cell (p := ⟨w.heap.size + 1, 0, none⟩) (by simp; omega)).trans c10
          replace c11 := (b7.cell (p := ⟨w.heap.size + 1, 1, none⟩) (by simp; omega)).trans c11
          have y7 : w.heap.size < wc.heap.size := by have := b7.size; omega
          have x7 : w.heap.size + 1 < wc.heap.size := by have := b7.size; omega
          clear b7 B3 y3 x3
          go_wp2
          go_ret2
          exact ⟨rfl, by repeat' (first | (with_reducible exact Below.refl _ _) | (with_reducible assumption) | (with_reducible refine Below.alloc ?_ ?_ _) | (with_reducible refine Below.drew ?_) | (with_reducible refine below_drewN ?_ _) | (with_reducible refine Below.setCell ?_ ?_ _) | (with_reducible refine Below.trans ?_ (Below.mono (by assumption) ?_)) | go_size | (exact Below.size (by assumption)))⟩
      · have e1 : (if (true = true) then (if 1 ≤ W1 ∧ hi ≤ W1 then (2 : Int) else if W2 < lo then 0 else 1) else 0) = if W2 < lo then 0 else 1 := by simp [q1, q2]
        rw [e1]
        clear e1
        generalize hV : (if W2 < lo then (0 : Int) else 1) = V
        have HV := Lib.hid hV
        clear hV
        have q2b : decide (hi ≤ W1) = false := by simpa using q2
        have HS2 := Lib.hid (fun w' => HS.out true (by simp; omega) w')
        clear HS
        go_enter Try.func26, Try.ntmps26
        go_wp2_with (first | (go_at_call 89; refine (H1.out _).mono ?_; rintro e w1 ⟨rfl, b1⟩; obtain ⟨hc1, hf1, hz1⟩ := bstep (N := w.heap.size + 2) (by go_size) b1; have y1 : w.heap.size < w1.heap.size := (by omega); have x1 : w.heap.size + 1 < w1.heap.size := (by omega)) | (go_at_call 90; refine (H2.out _).mono ?_; rintro e w2 ⟨rfl, b2⟩; obtain ⟨hc2, hf2, hz2⟩ := bstep (N := w.heap.size + 2) (by go_size) b2; have y2 : w.heap.size < w2.heap.size := (by omega); have x2 : w.heap.size + 1 < w2.heap.size := (by omega)) | (go_at_call 91; refine (H3.out _).mono ?_; rintro e w3 ⟨rfl, b3⟩; obtain ⟨hc3, hf3, hz3⟩ := bstep (N := w.heap.size + 2) (by go_size) b3; have y3 : w.heap.size < w3.heap.size := (by omega); have x3 : w.heap.size + 1 < w3.heap.size := (by omega)))
        have B3 : Below w.heap.size w w3 := by repeat' (first | (with_reducible exact Below.refl _ _) | (with_reducible assumption) | (with_reducible refine Below.alloc ?_ ?_ _) | (with_reducible refine Below.drew ?_) | (with_reducible refine below_drewN ?_ _) | (with_reducible refine Below.setCell ?_ ?_ _) | (with_reducible refine Below.trans ?_ (Below.mono (by assumption) ?_)) | go_size | (exact Below.size (by assumption)))
        have c00 : w3.cell? ⟨w.heap.size, 0, none⟩ = some (.int .i64 k) := by go_cell
        have c01 : w3.cell? ⟨w.heap.size, 1, none⟩ = some (.int .i64 len) := by go_cell
        have c02 : w3.cell? ⟨w.heap.size, 2, none⟩ = some (.int .i64 rise) := by go_cell
        have c03 : w3.cell? ⟨w.heap.size, 3, none⟩ = some (.int .i64 rl) := by go_cell
        have c04 : w3.cell? ⟨w.heap.size, 4, none⟩ = some (.int .i64 rh) := by go_cell
        have c05 : w3.cell? ⟨w.heap.size, 5, none⟩ = some (.int .i64 fl) := by go_cell
        have c06 : w3.cell? ⟨w.heap.size, 6, none⟩ = some (.int .i64 fh) := by go_cell
        have c10 : w3.cell? ⟨w.heap.size + 1, 0, none⟩ = some (.int .i64 lo) := by go_cell
        have c11 : w3.cell? ⟨w.heap.size + 1, 1, none⟩ = some (.int .i64 hi) := by go_cell
        clear hc1 hf1 hc2 hf2 hc3 hf3 b1 b2 b3 y1 x1 y2 x2 hz1 hz2 hz3
        go_wp2_with fail
        go_cut [19] (fun s wx => s = .bool false ∧ Below w3.heap.size w3 wx)
        case first =>
          go_region_held3 (fun w' => w'.cell? ⟨w.heap.size, 0, none⟩ = some (.int .i64 k) ∧ w'.cell? ⟨w.heap.size, 1, none⟩ = some (.int .i64 len) ∧ w'.cell? ⟨w.heap.size, 2, none⟩ = some (.int .i64 rise) ∧ w'.cell? ⟨w.heap.size, 3, none⟩ = some (.int .i64 rl) ∧ w'.cell? ⟨w.heap.size, 4, none⟩ = some (.int .i64 rh) ∧ w'.cell? ⟨w.heap.size, 5, none⟩ = some (.int .i64 fl) ∧ w'.cell? ⟨w.heap.size, 6, none⟩ = some (.int .i64 fh) ∧ w'.cell? ⟨w.heap.size + 1, 0, none⟩ = some (.int .i64 lo) ∧ w'.cell? ⟨w.heap.size + 1, 1, none⟩ = some (.int .i64 hi)) (simp [*, World.cell?_alloc_past, World.cell?_setCell_far])
            ((first | (go_at_call 92; refine (HS2.out _).mono ?_; rintro e w5 ⟨rfl, b5⟩; replace b5 : Below w3.heap.size w3 w5 := (by first | exact b5 | exact Below.trans (Below.drew (Below.refl _ _)) b5); have z5 := b5.size; (try simp only [World.size_alloc, World.size_drew] at z5); obtain ⟨hc5, hf5, hz5⟩ := bstep (Nat.le_refl _) b5; have y5 : w.heap.size < w5.heap.size := (by omega); have x5 : w.heap.size + 1 < w5.heap.size := (by omega)) | (go_at_call 93; refine (HW.out _).mono ?_; rintro e w6 ⟨rfl, b6⟩; replace b6 : Below w5.heap.size w5 w6 := (by first | exact b6 | exact Below.trans (Below.drew (Below.refl _ _)) b6); have z6 := b6.size; (try simp only [World.size_alloc, World.size_drew] at z6); obtain ⟨hc6, hf6, hz6⟩ := bstep (Nat.le_refl _) b6; have y6 : w.heap.size < w6.heap.size := (by omega); have x6 : w.heap.size + 1 < w6.heap.size := (by omega))))
          all_goals (go_wp2_with fail; go_meet; refine ⟨rfl, by repeat' (first | (with_reducible exact Below.refl _ _) | (with_reducible assumption) | (with_reducible refine Below.alloc ?_ ?_ _) | (with_reducible refine Below.drew ?_) | (with_reducible refine below_drewN ?_ _) | (with_reducible refine Below.setCell ?_ ?_ _) | (with_reducible refine Below.trans ?_ (Below.mono (by assumption) ?_)) | go_size | (exact Below.size (by assumption)))⟩)
        case rest =>
          obtain ⟨rfl, b7⟩ := hcut
          have B7 : Below w.heap.size w wc := B3.trans (b7.mono (by omega))
          replace c00 := (b7.cell (p := ⟨w.heap.size, 0, none⟩) (by simp; omega)).trans c00
          replace c01 := (b7.cell (p := ⟨w.heap.size, 1, none⟩) (by simp; omega)).trans c01
          replace c02 := (b7.cell (p := ⟨w.heap.size, 2, none⟩) (by simp; omega)).trans c02
          replace c03 := (b7.cell (p := ⟨w.heap.size, 3, none⟩) (by simp; omega)).trans c03
          replace c04 := (b7.cell (p := ⟨w.heap.size, 4, none⟩) (by simp; omega)).trans c04
          replace c05 := (b7.cell (p := ⟨w.heap.size, 5, none⟩) (by simp; omega)).trans c05
          replace c06 := (b7.cell (p := ⟨w.heap.size, 6, none⟩) (by simp; omega)).trans c06
          replace c10 := (b7.cell (p := ⟨w.heap.size + 1, 0, none⟩) (by simp; omega)).trans c10
          replace c11 := (b7.cell (p := ⟨w.heap.size + 1, 1, none⟩) (by simp; omega)).trans c11
          have y7 : w.heap.size < wc.heap.size := by have := b7.size; omega
          have x7 : w.heap.size + 1 < wc.heap.size := by have := b7.size; omega
          clear b7 B3 y3 x3
          by_cases q3 : W2 < lo
          · have hv0 : V = 0 := by rw [← HV.out, if_pos q3]
            have HV0 := Lib.hid hv0
            clear hv0
            go_wp2_with fail
            go_region_held3 (fun w' => w'.cell? ⟨w.heap.size, 0, none⟩ = some (.int .i64 k) ∧ w'.cell? ⟨w.heap.size, 1, none⟩ = some (.int .i64 len) ∧ w'.cell? ⟨w.heap.size, 2, none⟩ = some (.int .i64 rise) ∧ w'.cell? ⟨w.heap.size, 3, none⟩ = some (.int .i64 rl) ∧ w'.cell? ⟨w.heap.size, 4, none⟩ = some (.int .i64 rh) ∧ w'.cell? ⟨w.heap.size, 5, none⟩ = some (.int .i64 fl) ∧ w'.cell? ⟨w.heap.size, 6, none⟩ = some (.int .i64 fh) ∧ w'.cell? ⟨w.heap.size + 1, 0, none⟩ = some (.int .i64 lo) ∧ w'.cell? ⟨w.heap.size + 1, 1, none⟩ = some (.int .i64 hi)) (simp [*, World.cell?_alloc_past, World.cell?_setCell_far])
              ((go_at_call 93; refine (HW.out _).mono ?_; rintro e w9 ⟨rfl, b9⟩; replace b9 : Below wc.heap.size wc w9 := (by first | exact b9 | exact Below.trans (Below.drew (Below.refl _ _)) b9); have z9 := b9.size; (try simp only [World.size_alloc, World.size_drew] at z9); obtain ⟨hc9, hf9, hz9⟩ := bstep (Nat.le_refl _) b9; have y9 : w.heap.size < w9.heap.size := (by omega); have x9 : w.heap.size + 1 < w9.heap.size := (by omega)))
            all_goals go_wp2
            all_goals go_ret2
            all_goals exact ⟨by rw [HV0.out]; rfl, by repeat' (first | (with_reducible exact Below.refl _ _) | (with_reducible assumption) | (with_reducible refine Below.alloc ?_ ?_ _) | (with_reducible refine Below.drew ?_) | (with_reducible refine below_drewN ?_ _) | (with_reducible refine Below.setCell ?_ ?_ _) | (with_reducible refine Below.trans ?_ (Below.mono (by assumption) ?_)) | go_size | (exact Below.size (by assumption)))⟩
          · have hv0 : V = 1 := by rw [← HV.out, if_neg q3]
            have HV0 := Lib.hid hv0
            clear hv0
            go_wp2_with fail
            go_region_held3 (fun w' => w'.cell? ⟨w.heap.size, 0, none⟩ = some (.int .i64 k) ∧ w'.cell? ⟨w.heap.size, 1, none⟩ = some (.int .i64 len) ∧ w'.cell? ⟨w.heap.size, 2, none⟩ = some (.int .i64 rise) ∧ w'.cell? ⟨w.heap.size, 3, none⟩ = some (.int .i64 rl) ∧ w'.cell? ⟨w.heap.size, 4, none⟩ = some (.int .i64 rh) ∧ w'.cell? ⟨w.heap.size, 5, none⟩ = some (.int .i64 fl) ∧ w'.cell? ⟨w.heap.size, 6, none⟩ = some (.int .i64 fh) ∧ w'.cell? ⟨w.heap.size + 1, 0, none⟩ = some (.int .i64 lo) ∧ w'.cell? ⟨w.heap.size + 1, 1, none⟩ = some (.int .i64 hi)) (simp [*, World.cell?_alloc_past, World.cell?_setCell_far])
              ((go_at_call 93; refine (HW.out _).mono ?_; rintro e w9 ⟨rfl, b9⟩; replace b9 : Below wc.heap.size wc w9 := (by first | exact b9 | exact Below.trans (Below.drew (Below.refl _ _)) b9); have z9 := b9.size; (try simp only [World.size_alloc, World.size_drew] at z9); obtain ⟨hc9, hf9, hz9⟩ := bstep (Nat.le_refl _) b9; have y9 : w.heap.size < w9.heap.size := (by omega); have x9 : w.heap.size + 1 < w9.heap.size := (by omega)))
            all_goals go_wp2
            all_goals go_ret2
            all_goals exact ⟨by rw [HV0.out]; rfl, by repeat' (first | (with_reducible exact Below.refl _ _) | (with_reducible assumption) | (with_reducible refine Below.alloc ?_ ?_ _) | (with_reducible refine Below.drew ?_) | (with_reducible refine below_drewN ?_ _) | (with_reducible refine Below.setCell ?_ ?_ _) | (with_reducible refine Below.trans ?_ (Below.mono (by assumption) ?_)) | go_size | (exact Below.size (by assumption)))⟩
    · have e1 : (if (true = true) then (if 1 ≤ W1 ∧ hi ≤ W1 then (2 : Int) else if W2 < lo then 0 else 1) else 0) = if W2 < lo then 0 else 1 := by simp [q1]
      rw [e1]
      clear e1
      generalize hV : (if W2 < lo then (0 : Int) else 1) = V
      have HV := Lib.hid hV
      clear hV
      have HS2 := Lib.hid (fun w' => HS.out false (by simp; omega) w')
      clear HS
      go_enter Try.func26, Try.ntmps26
      go_wp2_with (first | (go_at_call 89; refine (H1.out _).mono ?_; rintro e w1 ⟨rfl, b1⟩; obtain ⟨hc1, hf1, hz1⟩ := bstep (N := w.heap.size + 2) (by go_size) b1; have y1 : w.heap.size < w1.heap.size := (by omega); have x1 : w.heap.size + 1 < w1.heap.size := (by omega)) | (go_at_call 90; refine (H2.out _).mono ?_; rintro e w2 ⟨rfl, b2⟩; obtain ⟨hc2, hf2, hz2⟩ := bstep (N := w.heap.size + 2) (by go_size) b2; have y2 : w.heap.size < w2.heap.size := (by omega); have x2 : w.heap.size + 1 < w2.heap.size := (by omega)) | (go_at_call 91; refine (H3.out _).mono ?_; rintro e w3 ⟨rfl, b3⟩; obtain ⟨hc3, hf3, hz3⟩ := bstep (N := w.heap.size + 2) (by go_size) b3; have y3 : w.heap.size < w3.heap.size := (by omega); have x3 : w.heap.size + 1 < w3.heap.size := (by omega)))
      have B3 : Below w.heap.size w w3 := by repeat' (first | (with_reducible exact Below.refl _ _) | (with_reducible assumption) | (with_reducible refine Below.alloc ?_ ?_ _) | (with_reducible refine Below.drew ?_) | (with_reducible refine below_drewN ?_ _) | (with_reducible refine Below.setCell ?_ ?_ _) | (with_reducible refine Below.trans ?_ (Below.mono (by assumption) ?_)) | go_size | (exact Below.size (by assumption)))
      have c00 : w3.cell? ⟨w.heap.size, 0, none⟩ = some (.int .i64 k) := by go_cell
      have c01 : w3.cell? ⟨w.heap.size, 1, none⟩ = some (.int .i64 len) := by go_cell
      have c02 : w3.cell? ⟨w.heap.size, 2, none⟩ = some (.int .i64 rise) := by go_cell
      have c03 : w3.cell? ⟨w.heap.size, 3, none⟩ = some (.int .i64 rl) := by go_cell
      have c04 : w3.cell? ⟨w.heap.size, 4, none⟩ = some (.int .i64 rh) := by go_cell
      have c05 : w3.cell? ⟨w.heap.size, 5, none⟩ = some (.int .i64 fl) := by go_cell
      have c06 : w3.cell? ⟨w.heap.size, 6, none⟩ = some (.int .i64 fh) := by go_cell
      have c10 : w3.cell? ⟨w.heap.size + 1, 0, none⟩ = some (.int .i64 lo) := by go_cell
      have c11 : w3.cell? ⟨w.heap.size + 1, 1, none⟩ = some (.int .i64 hi) := by go_cell
      clear hc1 hf1 hc2 hf2 hc3 hf3 b1 b2 b3 y1 x1 y2 x2 hz1 hz2 hz3
      go_wp2_with fail
      go_cut [19] (fun s wx => s = .bool false ∧ Below w3.heap.size w3 wx)
      case first =>
        first | (go_region_with ((first | (go_at_call 92; refine (HS2.out _).mono ?_; rintro e w5 ⟨rfl, b5⟩; replace b5 : Below w3.heap.size w3 w5 := (by first | exact b5 | exact Below.trans (Below.drew (Below.refl _ _)) b5); have z5 := b5.size; (try simp only [World.size_alloc, World.size_drew] at z5); obtain ⟨hc5, hf5, hz5⟩ := bstep (Nat.le_refl _) b5; have y5 : w.heap.size < w5.heap.size := (by omega); have x5 : w.heap.size + 1 < w5.heap.size := (by omega)) | (go_at_call 93; refine (HW.out _).mono ?_; rintro e w6 ⟨rfl, b6⟩; replace b6 : Below w5.heap.size w5 w6 := (by first | exact b6 | exact Below.trans (Below.drew (Below.refl _ _)) b6); have z6 := b6.size; (try simp only [World.size_alloc, World.size_drew] at z6); obtain ⟨hc6, hf6, hz6⟩ := bstep (Nat.le_refl _) b6; have y6 : w.heap.size < w6.heap.size := (by omega); have x6 : w.heap.size + 1 < w6.heap.size := (by omega))))) | fail
        all_goals (go_wp2_with fail; go_meet; refine ⟨rfl, by repeat' (first | (with_reducible exact Below.refl _ _) | (with_reducible assumption) | (with_reducible refine Below.alloc ?_ ?_ _) | (with_reducible refine Below.drew ?_) | (with_reducible refine below_drewN ?_ _) | (with_reducible refine Below.setCell ?_ ?_ _) | (with_reducible refine Below.trans ?_ (Below.mono (by assumption) ?_)) | go_size | (exact Below.size (by assumption)))⟩)
      case rest =>
        obtain ⟨rfl, b7⟩ := hcut
        have B7 : Below w.heap.size w wc := B3.trans (b7.mono (by omega))
        replace c00 := (b7.cell (p := ⟨w.heap.size, 0, none⟩) (by simp; omega)).trans c00
        replace c01 := (b7.cell (p := ⟨w.heap.size, 1, none⟩) (by simp; omega)).trans c01
        replace c02 := (b7.cell (p := ⟨w.heap.size, 2, none⟩) (by simp; omega)).trans c02
        replace c03 := (b7.cell (p := ⟨w.heap.size, 3, none⟩) (by simp; omega)).trans c03
        replace c04 := (b7.cell (p := ⟨w.heap.size, 4, none⟩) (by simp; omega)).trans c04
        replace c05 := (b7.cell (p := ⟨w.heap.size, 5, none⟩) (by simp; omega)).trans c05
        replace c06 := (b7.cell (p := ⟨w.heap.size, 6, none⟩) (by simp; omega)).trans c06
        replace c10 := (b7.cell (p := ⟨w.heap.size + 1, 0, none⟩) (by simp; omega)).trans c10
        replace c11 := (b7.cell (p := ⟨w.heap.size + 1, 1, none⟩) (by simp; omega)).trans c11
        have y7 : w.heap.size < wc.heap.size := by have := b7.size; omega
        have x7 : w.heap.size + 1 < wc.heap.size := by have := b7.size; omega
        clear b7 B3 y3 x3
        by_cases q3 : W2 < lo
        · have hv0 : V = 0 := by rw [← HV.out, if_pos q3]
          have HV0 := Lib.hid hv0
          clear hv0
          go_wp2_with fail
          go_region_held3 (fun w' => w'.cell? ⟨w.heap.size, 0, none⟩ = some (.int .i64 k) ∧ w'.cell? ⟨w.heap.size, 1, none⟩ = some (.int .i64 len) ∧ w'.cell? ⟨w.heap.size, 2, none⟩ = some (.int .i64 rise) ∧ w'.cell? ⟨w.heap.size, 3, none⟩ = some (.int .i64 rl) ∧ w'.cell? ⟨w.heap.size, 4, none⟩ = some (.int .i64 rh) ∧ w'.cell? ⟨w.heap.size, 5, none⟩ = some (.int .i64 fl) ∧ w'.cell? ⟨w.heap.size, 6, none⟩ = some (.int .i64 fh) ∧ w'.cell? ⟨w.heap.size + 1, 0, none⟩ = some (.int .i64 lo) ∧ w'.cell? ⟨w.heap.size + 1, 1, none⟩ = some (.int .i64 hi)) (simp [*, World.cell?_alloc_past, World.cell?_setCell_far])
            ((go_at_call 93; refine (HW.out _).mono ?_; rintro e w9 ⟨rfl, b9⟩; replace b9 : Below wc.heap.size wc w9 := (by first | exact b9 | exact Below.trans (Below.drew (Below.refl _ _)) b9); have z9 := b9.size; (try simp only [World.size_alloc, World.size_drew] at z9); obtain ⟨hc9, hf9, hz9⟩ := bstep (Nat.le_refl _) b9; have y9 : w.heap.size < w9.heap.size := (by omega); have x9 : w.heap.size + 1 < w9.heap.size := (by omega)))
          all_goals go_wp2
          all_goals go_ret2
          all_goals exact ⟨by rw [HV0.out]; rfl, by repeat' (first | (with_reducible exact Below.refl _ _) | (with_reducible assumption) | (with_reducible refine Below.alloc ?_ ?_ _) | (with_reducible refine Below.drew ?_) | (with_reducible refine below_drewN ?_ _) | (with_reducible refine Below.setCell ?_ ?_ _) | (with_reducible refine Below.trans ?_ (Below.mono (by assumption) ?_)) | go_size | (exact Below.size (by assumption)))⟩
        · have hv0 : V = 1 := by rw [← HV.out, if_neg q3]
          have HV0 := Lib.hid hv0
          clear hv0
          go_wp2_with fail
          go_region_held3 (fun w' => w'.cell? ⟨w.heap.size, 0, none⟩ = some (.int .i64 k) ∧ w'.cell? ⟨w.heap.size, 1, none⟩ = some (.int .i64 len) ∧ w'.cell? ⟨w.heap.size, 2, none⟩ = some (.int .i64 rise) ∧ w'.cell? ⟨w.heap.size, 3, none⟩ = some (.int .i64 rl) ∧ w'.cell? ⟨w.heap.size, 4, none⟩ = some (.int .i64 rh) ∧ w'.cell? ⟨w.heap.size, 5, none⟩ = some (.int .i64 fl) ∧ w'.cell? ⟨w.heap.size, 6, none⟩ = some (.int .i64 fh) ∧ w'.cell? ⟨w.heap.size + 1, 0, none⟩ = some (.int .i64 lo) ∧ w'.cell? ⟨w.heap.size + 1, 1, none⟩ = some (.int .i64 hi)) (simp [*, World.cell?_alloc_past, World.cell?_setCell_far])
            ((go_at_call 93; refine (HW.out _).mono ?_; rintro e w9 ⟨rfl, b9⟩; replace b9 : Below wc.heap.size wc w9 := (by first | exact b9 | exact Below.trans (Below.drew (Below.refl _ _)) b9); have z9 := b9.size; (try simp only [World.size_alloc, World.size_drew] at z9); obtain ⟨hc9, hf9, hz9⟩ := bstep (Nat.le_refl _) b9; have y9 : w.heap.size < w9.heap.size := (by omega); have x9 : w.heap.size + 1 < w9.heap.size := (by omega)))
          all_goals go_wp2
          all_goals go_ret2
          all_goals exact ⟨by rw [HV0.out]; rfl, by repeat' (first | (with_reducible exact Below.refl _ _) | (with_reducible assumption) | (with_reducible refine Below.alloc ?_ ?_ _) | (with_reducible refine Below.drew ?_) | (with_reducible refine below_drewN ?_ _) | (with_reducible refine Below.setCell ?_ ?_ _) | (with_reducible refine Below.trans ?_ (Below.mono (by assumption) ?_)) | go_size | (exact Below.size (by assumption)))⟩
set_option maxHeartbeats 2000000 in
theorem stopV_spec (k len rise rl rh fl fh : Int) (lo hi : Int) (h : segB k len rise rl rh fl fh = true) (he : enB lo hi = true) (w : World) :
   Calls Try.prog 86 #[.agg #[.int .i64 k, .int .i64 len, .int .i64 rise, .int .i64 rl, .int .i64 rh, .int .i64 fl, .int .i64 fh], .agg #[.int .i64 lo, .int .i64 hi]] w fun e w' => e = .returned (.tuple #[.int .i64 (svV (k, len, rise, rl, rh, fl, fh) (lo, hi)), .int .i64 (svC (k, len, rise, rl, rh, fl, fh))]) ∧ Below w.heap.size w w' := by
  have H1 := Lib.hid (fun w' => isSeg_spec_r k len rise rl rh fl fh true h w')
  have H2 := Lib.hid (fun w' => isEn_spec_r lo hi true he w')
  have H3 := Lib.hid (fun w' => isBrake_spec k len rise rl rh fl fh w')
  obtain ⟨W1, W2, hW⟩ : ∃ W1 W2, workP (k, len, rise, rl, rh, fl, fh) = (W1, W2) := ⟨_, _, rfl⟩
  have HW := Lib.hid (fun w' => work_spec_t k len rise rl rh fl fh W1 W2 hW h w')
  skip
  unfold svV svC
  rw [hW]
  dsimp only
  have hF0 := field_iv0 W1 W2
  have hF1 := field_iv1 W1 W2
  clear h he hW
  cases hb : brkB k with
  | false =>
    rw [hb] at H3
    clear hb
    go_enter Try.func86, Try.ntmps86
    go_wp2_with (first | (go_at_call 94; refine (H1.out _).mono ?_; rintro e w1 ⟨rfl, b1⟩; obtain ⟨hc1, hf1, hz1⟩ := bstep (N := w.heap.size + 2) (by go_size) b1; have y1 : w.heap.size < w1.heap.size := (by omega); have x1 : w.heap.size + 1 < w1.heap.size := (by omega)) | (go_at_call 81; refine (H2.out _).mono ?_; rintro e w2 ⟨rfl, b2⟩; obtain ⟨hc2, hf2, hz2⟩ := bstep (N := w.heap.size + 2) (by go_size) b2; have y2 : w.heap.size < w2.heap.size := (by omega); have x2 : w.heap.size + 1 < w2.heap.size := (by omega)) | (go_at_call 138; refine (HW.out _).mono ?_; rintro e w4 ⟨rfl, b4⟩; obtain ⟨hc4, hf4, hz4⟩ := bstep (N := w.heap.size + 2) (by go_size) b4; have y4 : w.heap.size < w4.heap.size := (by omega); have x4 : w.heap.size + 1 < w4.heap.size := (by omega)) | (go_at_call 136; refine (H3.out _).mono ?_; rintro e w3 ⟨rfl, b3⟩; obtain ⟨hc3, hf3, hz3⟩ := bstep (N := w4.heap.size + 1) (by go_size) b3; have u1 : w.heap.size < w4.heap.size + 1 := (by omega); have u2 : w.heap.size + 1 < w4.heap.size + 1 := (by omega); have u3 : w4.heap.size < w4.heap.size + 1 := (by omega); have u4 : w4.heap.size < w3.heap.size := (by omega)))
    all_goals go_ret2
    all_goals exact ⟨rfl, by repeat' (first | (with_reducible exact Below.refl _ _) | (with_reducible assumption) | (with_reducible refine Below.alloc ?_ ?_ _) | (with_reducible refine Below.drew ?_) | (with_reducible refine below_drewN ?_ _) | (with_reducible refine Below.setCell ?_ ?_ _) | (with_reducible refine Below.trans ?_ (Below.mono (by assumption) ?_)) | go_size | (exact Below.size (by assumption)))⟩
  | true =>
    rw [hb] at H3
    clear hb
    generalize hV : (if (true = true) then (if 1 ≤ W1 ∧ hi ≤ W1 then (2 : Int) else if W2 < lo then 0 else 1) else 0) = V
    have HV := Lib.hid hV
    clear hV
    by_cases q1 : 1 ≤ W1
    · by_cases q2 : hi ≤ W1
      · skip
        have hv0 : V = 2 := by rw [← HV.out]; simp [q1, q2]
        have HV0 := Lib.hid hv0
        clear hv0
        have d1 : decide (1 ≤ W1) = true := by simpa using q1
        have d2 : decide (hi ≤ W1) = true := by simpa using q2
        go_enter Try.func86, Try.ntmps86
        go_wp2_with (first | (go_at_call 94; refine (H1.out _).mono ?_; rintro e w1 ⟨rfl, b1⟩; obtain ⟨hc1, hf1, hz1⟩ := bstep (N := w.heap.size + 2) (by go_size) b1; have y1 : w.heap.size < w1.heap.size := (by omega); have x1 : w.heap.size + 1 < w1.heap.size := (by omega)) | (go_at_call 81; refine (H2.out _).mono ?_; rintro e w2 ⟨rfl, b2⟩; obtain ⟨hc2, hf2, hz2⟩ := bstep (N := w.heap.size + 2) (by go_size) b2; have y2 : w.heap.size < w2.heap.size := (by omega); have x2 : w.heap.size + 1 < w2.heap.size := (by omega)) | (go_at_call 138; refine (HW.out _).mono ?_; rintro e w4 ⟨rfl, b4⟩; obtain ⟨hc4, hf4, hz4⟩ := bstep (N := w.heap.size + 2) (by go_size) b4; have y4 : w.heap.size < w4.heap.size := (by omega); have x4 : w.heap.size + 1 < w4.heap.size := (by omega)) | (go_at_call 136; refine (H3.out _).mono ?_; rintro e w3 ⟨rfl, b3⟩; obtain ⟨hc3, hf3, hz3⟩ := bstep (N := w4.heap.size + 1) (by go_size) b3; have u1 : w.heap.size < w4.heap.size + 1 := (by omega); have u2 : w.heap.size + 1 < w4.heap.size + 1 := (by omega); have u3 : w4.heap.size < w4.heap.size + 1 := (by omega); have u4 : w4.heap.size < w3.heap.size := (by omega)))
        all_goals go_ret2
        all_goals exact ⟨by rw [HV0.out]; rfl, by repeat' (first | (with_reducible exact Below.refl _ _) | (with_reducible assumption) | (with_reducible refine Below.alloc ?_ ?_ _) | (with_reducible refine Below.drew ?_) | (with_reducible refine below_drewN ?_ _) | (with_reducible refine Below.setCell ?_ ?_ _) | (with_reducible refine Below.trans ?_ (Below.mono (by assumption) ?_)) | go_size | (exact Below.size (by assumption)))⟩
      · skip
        by_cases q3 : W2 < lo
        · skip
          have hv0 : V = 0 := by rw [← HV.out]; simp [q1, q2, q3]
          have HV0 := Lib.hid hv0
          clear hv0
          have d1 : decide (1 ≤ W1) = true := by simpa using q1
          have d2 : decide (hi ≤ W1) = false := by simpa using q2
          have d3 : decide (W2 < lo) = true := by simpa using q3
          go_enter Try.func86, Try.ntmps86
          go_wp2_with (first | (go_at_call 94; refine (H1.out _).mono ?_; rintro e w1 ⟨rfl, b1⟩; obtain ⟨hc1, hf1, hz1⟩ := bstep (N := w.heap.size + 2) (by go_size) b1; have y1 : w.heap.size < w1.heap.size := (by omega); have x1 : w.heap.size + 1 < w1.heap.size := (by omega)) | (go_at_call 81; refine (H2.out _).mono ?_; rintro e w2 ⟨rfl, b2⟩; obtain ⟨hc2, hf2, hz2⟩ := bstep (N := w.heap.size + 2) (by go_size) b2; have y2 : w.heap.size < w2.heap.size := (by omega); have x2 : w.heap.size + 1 < w2.heap.size := (by omega)) | (go_at_call 138; refine (HW.out _).mono ?_; rintro e w4 ⟨rfl, b4⟩; obtain ⟨hc4, hf4, hz4⟩ := bstep (N := w.heap.size + 2) (by go_size) b4; have y4 : w.heap.size < w4.heap.size := (by omega); have x4 : w.heap.size + 1 < w4.heap.size := (by omega)) | (go_at_call 136; refine (H3.out _).mono ?_; rintro e w3 ⟨rfl, b3⟩; obtain ⟨hc3, hf3, hz3⟩ := bstep (N := w4.heap.size + 1) (by go_size) b3; have u1 : w.heap.size < w4.heap.size + 1 := (by omega); have u2 : w.heap.size + 1 < w4.heap.size + 1 := (by omega); have u3 : w4.heap.size < w4.heap.size + 1 := (by omega); have u4 : w4.heap.size < w3.heap.size := (by omega)))
          all_goals go_ret2
          all_goals exact ⟨by rw [HV0.out]; rfl, by repeat' (first | (with_reducible exact Below.refl _ _) | (with_reducible assumption) | (with_reducible refine Below.alloc ?_ ?_ _) | (with_reducible refine Below.drew ?_) | (with_reducible refine below_drewN ?_ _) | (with_reducible refine Below.setCell ?_ ?_ _) | (with_reducible refine Below.trans ?_ (Below.mono (by assumption) ?_)) | go_size | (exact Below.size (by assumption)))⟩
        · skip
          have hv0 : V = 1 := by rw [← HV.out]; simp [q1, q2, q3]
          have HV0 := Lib.hid hv0
          clear hv0
          have d1 : decide (1 ≤ W1) = true := by simpa using q1
          have d2 : decide (hi ≤ W1) = false := by simpa using q2
          have d3 : decide (W2 < lo) = false := by simpa using q3
          go_enter Try.func86, Try.ntmps86
          go_wp2_with (first | (go_at_call 94; refine (H1.out _).mono ?_; rintro e w1 ⟨rfl, b1⟩; obtain ⟨hc1, hf1, hz1⟩ := bstep (N := w.heap.size + 2) (by go_size) b1; have y1 : w.heap.size < w1.heap.size := (by omega); have x1 : w.heap.size + 1 < w1.heap.size := (by omega)) | (go_at_call 81; refine (H2.out _).mono ?_; rintro e w2 ⟨rfl, b2⟩; obtain ⟨hc2, hf2, hz2⟩ := bstep (N := w.heap.size + 2) (by go_size) b2; have y2 : w.heap.size < w2.heap.size := (by omega); have x2 : w.heap.size + 1 < w2.heap.size := (by omega)) | (go_at_call 138; refine (HW.out _).mono ?_; rintro e w4 ⟨rfl, b4⟩; obtain ⟨hc4, hf4, hz4⟩ := bstep (N := w.heap.size + 2) (by go_size) b4; have y4 : w.heap.size < w4.heap.size := (by omega); have x4 : w.heap.size + 1 < w4.heap.size := (by omega)) | (go_at_call 136; refine (H3.out _).mono ?_; rintro e w3 ⟨rfl, b3⟩; obtain ⟨hc3, hf3, hz3⟩ := bstep (N := w4.heap.size + 1) (by go_size) b3; have u1 : w.heap.size < w4.heap.size + 1 := (by omega); have u2 : w.heap.size + 1 < w4.heap.size + 1 := (by omega); have u3 : w4.heap.size < w4.heap.size + 1 := (by omega); have u4 : w4.heap.size < w3.heap.size := (by omega)))
          all_goals go_ret2
          all_goals exact ⟨by rw [HV0.out]; rfl, by repeat' (first | (with_reducible exact Below.refl _ _) | (with_reducible assumption) | (with_reducible refine Below.alloc ?_ ?_ _) | (with_reducible refine Below.drew ?_) | (with_reducible refine below_drewN ?_ _) | (with_reducible refine Below.setCell ?_ ?_ _) | (with_reducible refine Below.trans ?_ (Below.mono (by assumption) ?_)) | go_size | (exact Below.size (by assumption)))⟩
    · skip
      by_cases q3 : W2 < lo
      · skip
        have hv0 : V = 0 := by rw [← HV.out]; simp [q1, q3]
        have HV0 := Lib.hid hv0
        clear hv0
        have d1 : decide (1 ≤ W1) = false := by simpa using q1
        have d3 : decide (W2 < lo) = true := by simpa using q3
        go_enter Try.func86, Try.ntmps86
        go_wp2_with (first | (go_at_call 94; refine (H1.out _).mono ?_; rintro e w1 ⟨rfl, b1⟩; obtain ⟨hc1, hf1, hz1⟩ := bstep (N := w.heap.size + 2) (by go_size) b1; have y1 : w.heap.size < w1.heap.size := (by omega); have x1 : w.heap.size + 1 < w1.heap.size := (by omega)) | (go_at_call 81; refine (H2.out _).mono ?_; rintro e w2 ⟨rfl, b2⟩; obtain ⟨hc2, hf2, hz2⟩ := bstep (N := w.heap.size + 2) (by go_size) b2; have y2 : w.heap.size < w2.heap.size := (by omega); have x2 : w.heap.size + 1 < w2.heap.size := (by omega)) | (go_at_call 138; refine (HW.out _).mono ?_; rintro e w4 ⟨rfl, b4⟩; obtain ⟨hc4, hf4, hz4⟩ := bstep (N := w.heap.size + 2) (by go_size) b4; have y4 : w.heap.size < w4.heap.size := (by omega); have x4 : w.heap.size + 1 < w4.heap.size := (by omega)) | (go_at_call 136; refine (H3.out _).mono ?_; rintro e w3 ⟨rfl, b3⟩; obtain ⟨hc3, hf3, hz3⟩ := bstep (N := w4.heap.size + 1) (by go_size) b3; have u1 : w.heap.size < w4.heap.size + 1 := (by omega); have u2 : w.heap.size + 1 < w4.heap.size + 1 := (by omega); have u3 : w4.heap.size < w4.heap.size + 1 := (by omega); have u4 : w4.heap.size < w3.heap.size := (by omega)))
        all_goals go_ret2
        all_goals exact ⟨by rw [HV0.out]; rfl, by repeat' (first | (with_reducible exact Below.refl _ _) | (with_reducible assumption) | (with_reducible refine Below.alloc ?_ ?_ _) | (with_reducible refine Below.drew ?_) | (with_reducible refine below_drewN ?_ _) | (with_reducible refine Below.setCell ?_ ?_ _) | (with_reducible refine Below.trans ?_ (Below.mono (by assumption) ?_)) | go_size | (exact Below.size (by assumption)))⟩
      · skip
        have hv0 : V = 1 := by rw [← HV.out]; simp [q1, q3]
        have HV0 := Lib.hid hv0
        clear hv0
        have d1 : decide (1 ≤ W1) = false := by simpa using q1
        have d3 : decide (W2 < lo) = false := by simpa using q3
        go_enter Try.func86, Try.ntmps86
        go_wp2_with (first | (go_at_call 94; refine (H1.out _).mono ?_; rintro e w1 ⟨rfl, b1⟩; obtain ⟨hc1, hf1, hz1⟩ := bstep (N := w.heap.size + 2) (by go_size) b1; have y1 : w.heap.size < w1.heap.size := (by omega); have x1 : w.heap.size + 1 < w1.heap.size := (by omega)) | (go_at_call 81; refine (H2.out _).mono ?_; rintro e w2 ⟨rfl, b2⟩; obtain ⟨hc2, hf2, hz2⟩ := bstep (N := w.heap.size + 2) (by go_size) b2; have y2 : w.heap.size < w2.heap.size := (by omega); have x2 : w.heap.size + 1 < w2.heap.size := (by omega)) | (go_at_call 138; refine (HW.out _).mono ?_; rintro e w4 ⟨rfl, b4⟩; obtain ⟨hc4, hf4, hz4⟩ := bstep (N := w.heap.size + 2) (by go_size) b4; have y4 : w.heap.size < w4.heap.size := (by omega); have x4 : w.heap.size + 1 < w4.heap.size := (by omega)) | (go_at_call 136; refine (H3.out _).mono ?_; rintro e w3 ⟨rfl, b3⟩; obtain ⟨hc3, hf3, hz3⟩ := bstep (N := w4.heap.size + 1) (by go_size) b3; have u1 : w.heap.size < w4.heap.size + 1 := (by omega); have u2 : w.heap.size + 1 < w4.heap.size + 1 := (by omega); have u3 : w4.heap.size < w4.heap.size + 1 := (by omega); have u4 : w4.heap.size < w3.heap.size := (by omega)))
        all_goals go_ret2
        all_goals exact ⟨by rw [HV0.out]; rfl, by repeat' (first | (with_reducible exact Below.refl _ _) | (with_reducible assumption) | (with_reducible refine Below.alloc ?_ ?_ _) | (with_reducible refine Below.drew ?_) | (with_reducible refine below_drewN ?_ _) | (with_reducible refine Below.setCell ?_ ?_ _) | (with_reducible refine Below.trans ?_ (Below.mono (by assumption) ?_)) | go_size | (exact Below.size (by assumption)))⟩
end Go.Proofs.Ytooifamckccadaa
