/- Draws of modes and commands: walks. -/
import Derived.Test.YtakchdkoildkbaaDoorCv
namespace Go.Proofs.YtakchdkoildkbaaDoor
open Go.ChangeShapes Go.WideShapes Go.ChangeAt Go.RowKit
set_option maxRecDepth 20000
set_option linter.unusedVariables false
set_option linter.unusedSimpArgs false
theorem row3_cells {w : World} {g : Nat} {x y z : Value} {t : TypeId} (h : w.heap[g]? = some (.cells #[x, y, z] t (0, 0))) :
    w.cell? ⟨g, 0, none⟩ = some x ∧ w.cell? ⟨g, 1, none⟩ = some y ∧ w.cell? ⟨g, 2, none⟩ = some z ∧ (∀ j, w.frozen? ⟨g, j, none⟩ = false) ∧ g < w.heap.size := by
  refine ⟨?_, ?_, ?_, fun j => ?_, ?_⟩
  · rw [cell_of_row w g 0 _ _ _ h]; rfl
  · rw [cell_of_row w g 1 _ _ _ h]; rfl
  · rw [cell_of_row w g 2 _ _ _ h]; rfl
  · simp [World.frozen?, h]
  · rcases Nat.lt_or_ge g w.heap.size with h1 | h1
    · exact h1
    · rw [Array.getElem?_eq_none h1] at h; cases h
def ModeP (w0 : World) (g B : Nat) (C : Option Addr) (cap : Nat) (bl : List Int) (e : Ending) (w' : World) : Prop :=
  ∃ x : Int, e = .returned (.int .i64 x) ∧ -1 ≤ x ∧ x ≤ 6 ∧ DS w0 w' g B C cap bl
theorem l27DrawMode_any (w0 : World) (g B : Nat) (C : Option Addr) (cap : Nat) (bl : List Int) (h : DS w0 w0 g B C cap bl) :
   Calls Tryd.prog 41 #[.pointer (some ⟨g, 0, none⟩)] w0 (ModeP w0 g B C cap bl) := by
  have hg0 := h.size.2
  have H := Lib.hid h
  clear h
  go_enter Tryd.func41, Tryd.ntmps41
  go_wp2_with fail
  refine (next_ds H.out 30).mono ?_
  rintro e w1 ⟨x, rfl, x0, x1, d1, g1⟩
  have D1 := Lib.hid d1
  clear d1 g1 x1
  by_cases hx : x = 0
  · subst hx
    go_wp2_with fail
    refine (pick_ds D1.out [-1, 6] 2 _ (by rfl) _ (by rfl) rfl (by omega) (by omega)).mono ?_
    rintro e w2 ⟨y, rfl, hy, d2, g2⟩
    have hyb : -1 ≤ y ∧ y ≤ 6 := by
      simp only [List.mem_cons, List.not_mem_nil, or_false] at hy
      omega
    have D2 := Lib.hid d2
    clear d2 g2 hy
    go_wp2
    go_ret
    exact ⟨y, rfl, hyb.1, hyb.2, D2.out⟩
  · have hb : (x == 0) = false := by rw [beq_eq_false_iff_ne]; exact hx
    go_wp2_with fail
    refine (next_ds D1.out 6).mono ?_
    rintro e w2 ⟨y, rfl, y0, y1, d2, g2⟩
    have D2 := Lib.hid d2
    clear d2 g2
    go_wp2
    go_ret
    exact ⟨y, rfl, by omega, by omega, D2.out⟩
def CmdP (w0 : World) (g B : Nat) (C : Option Addr) (cap : Nat) (bl : List Int) (e : Ending) (w' : World) : Prop :=
  ∃ (a r : Int) (b : Bool), e = .returned (.agg #[.int .i64 a, .int .i64 r, .bool b]) ∧ (-1 ≤ a ∧ a ≤ 10) ∧ (-1 ≤ r ∧ r ≤ 4) ∧ DS w0 w' g B C cap bl
set_option maxHeartbeats 1000000 in
theorem l27Draw_any (w0 : World) (g B : Nat) (C : Option Addr) (cap : Nat) (bl : List Int) (h : DS w0 w0 g B C cap bl) :
   Calls Tryd.prog 42 #[.pointer (some ⟨g, 0, none⟩)] w0 (CmdP w0 g B C cap bl) := by
  have hg0 := h.size.2
  have H := Lib.hid h
  clear h
  go_enter Tryd.func42, Tryd.ntmps42
  go_wp2_with fail
  refine (next_ds (H.out.alloc (.cells #[.int .i64 0, .int .i64 0, .bool false] 31)) 10).mono ?_
  rintro e w1 ⟨x, rfl, x0, x1, d1, g1⟩
  have x2 : x ≤ 9 := by omega
  have R1 := (g1.block w0.heap.size (by simp) (by simp; omega)).trans (heap_alloc_new w0 _)
  have D1 := Lib.hid d1
  have R1' := Lib.hid R1
  clear d1 g1 R1 x1
  go_wp2_with fail
  refine (pick_ds D1.out [0, 1, 2, 3, 3] 5 _ (by rfl) _ (by rfl) rfl (by omega) (by omega)).mono ?_
  rintro e w2 ⟨y, rfl, hy, d2, g2⟩
  have hyb : 0 ≤ y ∧ y ≤ 3 := by
    simp only [List.mem_cons, List.not_mem_nil, or_false] at hy
    omega
  have hs1 := (row3_cells R1'.out).2.2.2.2
  have R2 := (g2.block w0.heap.size (by simp; omega) (by simp; omega)).trans ((Below.heap_alloc _ _ _ hs1).trans R1'.out)
  have D2 := Lib.hid d2
  have R2' := Lib.hid R2
  clear d2 g2 R2 hy
  go_wp2_with fail
  refine (next_ds D2.out 3).mono ?_
  rintro e w3 ⟨z, rfl, z0, z1, d3, g3⟩
  have hs2 := (row3_cells R2'.out).2.2.2.2
  have R3 := (g3.block w0.heap.size (by omega) (by simp; omega)).trans R2'.out
  have hs3 := (row3_cells R3).2.2.2.2
  have D3 := Lib.hid d3
  have R3' := Lib.hid R3
  have hgs := src_lt d3.2.1
  clear d3 g3 R3 z1
  generalize hz : decide (0 < z) = b
  have Hz := Lib.hid hz
  clear hz
  have hzz : decide (0 < z) = b := Hz.out
  go_wp2_with fail
  refine (next_ds (D3.out.alloc (.cells #[.int .i64 x, .int .i64 y, .bool b] 31)) 60).mono ?_
  rintro e w4 ⟨t, rfl, t0, t1, d4, g4⟩
  clear hzz
  have Q4 := (g4.block w3.heap.size (by simp) (by simp; omega)).trans (heap_alloc_new w3 _)
  have R4 := (g4.block w0.heap.size (by simp; omega) (by simp; omega)).trans ((Below.heap_alloc _ _ _ hs3).trans R3'.out)
  have D4 := Lib.hid d4
  have R4' := Lib.hid R4
  have Q4' := Lib.hid Q4
  clear d4 g4 R4 Q4 t1
  by_cases ht0 : t = 0
  · subst ht0
    go_wp2_with fail
    refine (pick_ds D4.out [-1, 10] 2 _ (by rfl) _ (by rfl) rfl (by omega) (by omega)).mono ?_
    rintro e w5 ⟨u, rfl, hu, d5, g5⟩
    have hub : -1 ≤ u ∧ u ≤ 10 := by
      simp only [List.mem_cons, List.not_mem_nil, or_false] at hu
      omega
    have hq4 := (row3_cells Q4'.out).2.2.2.2
    have hs4 := (row3_cells R4'.out).2.2.2.2
    have R5 := (g5.block w0.heap.size (by simp; omega) (by simp; omega)).trans ((Below.heap_alloc _ _ _ hs4).trans R4'.out)
    have Q5 := (g5.block w3.heap.size (by simp; omega) (by simp; omega)).trans ((Below.heap_alloc _ _ _ hq4).trans Q4'.out)
    obtain ⟨r0, r1, r2, rf, rs⟩ := row3_cells R5
    obtain ⟨q0, q1, q2, qf, qs⟩ := row3_cells Q5
    have hne : w0.heap.size ≠ w3.heap.size := by omega
    have hne2 : w3.heap.size ≠ w0.heap.size := by omega
    have D5 := Lib.hid d5
    clear d5 g5 hu R5 Q5
    go_wp2
    refine bodyPost_ret (v := .agg #[.int .i64 u, .int .i64 y, .bool b]) (by simp [results, Tryd.results42, go_sem, *]) rfl ?_
    exact ⟨u, y, b, rfl, by omega, by omega, D5.out.below (by repeat' (first | (with_reducible exact Below.refl _ _) | (with_reducible assumption) | (with_reducible refine Below.alloc ?_ ?_ _) | (with_reducible refine Below.drew ?_) | (with_reducible refine below_drewN ?_ _) | (with_reducible refine Below.setCell ?_ ?_ _) | (with_reducible refine Below.trans ?_ (Below.mono (by assumption) ?_)) | go_size | (exact Below.size (by assumption))))⟩
  · have hb : (t == 0) = false := by rw [beq_eq_false_iff_ne]; exact ht0
    by_cases ht1 : t = 1
    · subst ht1
      go_wp2_with fail
      refine (pick_ds D4.out [-1, 4] 2 _ (by rfl) _ (by rfl) rfl (by omega) (by omega)).mono ?_
      rintro e w5 ⟨u, rfl, hu, d5, g5⟩
      have hub : -1 ≤ u ∧ u ≤ 4 := by
        simp only [List.mem_cons, List.not_mem_nil, or_false] at hu
        omega
      have hq4 := (row3_cells Q4'.out).2.2.2.2
      have hs4 := (row3_cells R4'.out).2.2.2.2
      have R5 := (g5.block w0.heap.size (by simp; omega) (by simp; omega)).trans ((Below.heap_alloc _ _ _ hs4).trans R4'.out)
      have Q5 := (g5.block w3.heap.size (by simp; omega) (by simp; omega)).trans ((Below.heap_alloc _ _ _ hq4).trans Q4'.out)
      obtain ⟨r0, r1, r2, rf, rs⟩ := row3_cells R5
      obtain ⟨q0, q1, q2, qf, qs⟩ := row3_cells Q5
      have hne : w0.heap.size ≠ w3.heap.size := by omega
      have hne2 : w3.heap.size ≠ w0.heap.size := by omega
      have D5 := Lib.hid d5
      clear d5 g5 hu R5 Q5
      go_wp2
      refine bodyPost_ret (v := .agg #[.int .i64 x, .int .i64 u, .bool b]) (by simp [results, Tryd.results42, go_sem, *]) rfl ?_
      exact ⟨x, u, b, rfl, by omega, by omega, D5.out.below (by repeat' (first | (with_reducible exact Below.refl _ _) | (with_reducible assumption) | (with_reducible refine Below.alloc ?_ ?_ _) | (with_reducible refine Below.drew ?_) | (with_reducible refine below_drewN ?_ _) | (with_reducible refine Below.setCell ?_ ?_ _) | (with_reducible refine Below.trans ?_ (Below.mono (by assumption) ?_)) | go_size | (exact Below.size (by assumption))))⟩
    · have hb1 : (t == 1) = false := by rw [beq_eq_false_iff_ne]; exact ht1
      obtain ⟨r0, r1, r2, rf, rs⟩ := row3_cells R4'.out
      obtain ⟨q0, q1, q2, qf, qs⟩ := row3_cells Q4'.out
      have hne : w0.heap.size ≠ w3.heap.size := by omega
      have hne2 : w3.heap.size ≠ w0.heap.size := by omega
      go_wp2
      refine bodyPost_ret (v := .agg #[.int .i64 x, .int .i64 y, .bool b]) (by simp [results, Tryd.results42, go_sem, *]) rfl ?_
      exact ⟨x, y, b, rfl, by omega, by omega, D4.out.below (by repeat' (first | (with_reducible exact Below.refl _ _) | (with_reducible assumption) | (with_reducible refine Below.alloc ?_ ?_ _) | (with_reducible refine Below.drew ?_) | (with_reducible refine below_drewN ?_ _) | (with_reducible refine Below.setCell ?_ ?_ _) | (with_reducible refine Below.trans ?_ (Below.mono (by assumption) ?_)) | go_size | (exact Below.size (by assumption))))⟩
def VerdP (w0 : World) (e : Ending) (w' : World) : Prop :=
  ∃ (m a r : Int) (b : Bool), e = .returned (.tuple #[.int .i64 m, .agg #[.int .i64 a, .int .i64 r, .bool b]]) ∧ (-1 ≤ m ∧ m ≤ 6) ∧ (-1 ≤ a ∧ a ≤ 10) ∧ (-1 ≤ r ∧ r ≤ 4) ∧ Below w0.heap.size w0 w'
theorem drawVerdict_any (bl : List Int) (hbl : isU8 bl) (hn : bl.length ≤ 4096) (C : Option Addr) (cap : Nat) (w0 : World) (hr : Rd w0 w0.heap.size C (bytesU bl)) :
   Calls Tryd.prog 14 #[.slice C bl.length cap] w0 (VerdP w0) := by
  have Hr := Lib.hid hr
  clear hr
  go_enter Tryd.func14, Tryd.ntmps14
  go_wp2_with fail
  refine (l01From_any bl hbl hn C w0.heap.size cap _ (Hr.out.alloc (Nat.le_refl _) _) (by simp)).mono ?_
  rintro e w1 ⟨rfl, hs1, hb1, hz1⟩
  have hz2 : w0.heap.size + 1 < w1.heap.size := by simpa using hz1
  have hr1 := (Hr.out.alloc (Nat.le_refl _) (.cells #[.int .i64 0, .int .i64 0, .bool false] 31)).below hb1 (by simp)
  simp only [World.size_alloc] at hs1
  have d1 := DS.start hr1 hs1 (by omega) hbl hn
  have R1 := (hb1.block w0.heap.size (by simp)).trans (heap_alloc_new w0 _)
  have hb0 : Below w0.heap.size w0 w1 := ((Below.refl _ _).alloc (Nat.le_refl _) _).trans (hb1.mono (by simp))
  have Hb0 := Lib.hid hb0
  have R1' := Lib.hid R1
  clear hb1 hb0 R1 hr1 hs1 hbl hz1
  go_wp2_with fail
  refine (l27DrawMode_any w1 _ _ _ _ _ d1).mono ?_
  rintro e w2 ⟨m, rfl, m0, m1, d2⟩
  have hs2 := d2.size.1
  have R2 := (d2.2.2.1.block w0.heap.size (by omega) (by simp)).trans R1'.out
  have R2' := Lib.hid R2
  clear d1 R2
  go_wp2_with fail
  refine (l27Draw_any w2 _ _ _ _ _ d2.again).mono ?_
  rintro e w3 ⟨a, r, b, rfl, ha, hr, d3⟩
  have hs3 := d3.size.1
  have R3 := (d3.2.2.1.block w0.heap.size (by omega) (by simp)).trans R2'.out
  obtain ⟨r0, r1, r2, rf, rs⟩ := row3_cells R3
  have d4 := d2.join d3
  have hb6 := below_of_grownBy (B := w0.heap.size) d4.2.2.1 (by omega) (fun k hk => by injection hk with hk; omega)
  have Hb6 := Lib.hid (Hb0.out.trans hb6)
  clear d2 d3 d4 R3 hb6
  go_wp2
  refine bodyPost_ret (v := .tuple #[.int .i64 m, .agg #[.int .i64 a, .int .i64 r, .bool b]]) (by simp [results, Tryd.results14, go_sem, *]) rfl ?_
  exact ⟨m, a, r, b, rfl, ⟨m0, m1⟩, ha, hr, by have hb6 := Hb6.out; repeat' (first | (with_reducible exact Below.refl _ _) | (with_reducible assumption) | (with_reducible refine Below.alloc ?_ ?_ _) | (with_reducible refine Below.drew ?_) | (with_reducible refine below_drewN ?_ _) | (with_reducible refine Below.setCell ?_ ?_ _) | (with_reducible refine Below.trans ?_ (Below.mono (by assumption) ?_)) | go_size | (exact Below.size (by assumption)))⟩
theorem big_any (n cap : Nat) (C : Option Addr) (w : World) (hn : n ≤ 9223372036854775807) : Calls Tryd.prog 13 #[.slice C n cap] w fun e w' => e = .returned (.bool (decide (4096 < (n : Int)))) ∧ w = w' := by
  go_enter Tryd.func13, Tryd.ntmps13
  go_wp2
  go_ret
  exact ⟨rfl, rfl⟩
end Go.Proofs.YtakchdkoildkbaaDoor
