/- Draws of runs of segments. -/
import Derived.Test.YtooifamckccadaaDl
import Derived.Deep.RegionHeld3
namespace Go.Proofs.Ytooifamckccadaa
open Go.ChangeShapes Go.WideShapes Go.ChangeAt Go.RowKit
set_option maxRecDepth 20000
set_option linter.unusedVariables false
set_option linter.unusedSimpArgs false
def RunP (w0 : World) (g B : Nat) (C : Option Addr) (cap : Nat) (bl : List Int) (e : Ending) (w' : World) : Prop :=
  ∃ (l : List Seg) (A : Option Addr) (c : Nat) (f n : Int), e = .returned (.tuple #[.agg #[.slice A l.length c], .int .i64 f, .int .i64 n]) ∧ l.length ≤ 25 ∧ w'.ownsRow (w0.heap.size + 1) 39 7 (.slice A l.length c) l.length (l.flatMap eSegment) ∧ DS w0 w' g B C cap bl
theorem ret_run {fn : Func} {t u v : Tmp} {a : Act} {w : World} {R : Ending → World → Prop} {b : Nat} {x : Value} {f n : Int} (hres : fn.results = #[.cell t 26, .tmp u, .tmp v]) (ha : a.tmps.getD t undef = .pointer (some ⟨b, 0, none⟩)) (hu : a.tmps.getD u undef = .int .i64 f) (hv : a.tmps.getD v undef = .int .i64 n) (hd : a.defers = []) (h : Bk w b #[x]) (h1 : ∃ A n c, x = .slice A n c) (hR : R (.returned (.tuple #[.agg #[x], .int .i64 f, .int .i64 n])) w) : bodyPost Try.prog fn R .ret a w := by
  obtain ⟨A, n, c, rfl⟩ := h1
  refine bodyPost_ret ?_ hd hR
  obtain ⟨k1, k2⟩ := bk_at h
  have c0 : w.cell? ⟨b, 0, none⟩ = some (.slice A n c) := k1 0
  simp only [Array.getD_eq_getD_getElem?] at ha hu hv
  simp [results, hres, ha, hu, hv, go_sem, *]
theorem bk1 {w : World} {b : Nat} {x : Value} (h : Bk w b #[x]) : w.cell? ⟨b, 0, none⟩ = some x ∧ (∀ j, w.frozen? ⟨b, j, none⟩ = false) ∧ b < w.heap.size := by
  obtain ⟨h1, h2⟩ := bk_at h
  exact ⟨h1 0, h2, bk_lt h⟩
set_option maxHeartbeats 2000000 in
theorem l06DrawRun_any (w0 : World) (g B : Nat) (C : Option Addr) (cap : Nat) (bl : List Int) (h : DS w0 w0 g B C cap bl) :
   Calls Try.prog 160 #[.pointer (some ⟨g, 0, none⟩)] w0 (RunP w0 g B C cap bl) := by
  have hg0 := h.size.2
  have H := Lib.hid h
  clear h
  have K0 := Lib.hid (bk_new w0 #[.slice none 0 0] 26)
  go_enter Try.func160, Try.ntmps160
  go_wp2_with fail
  refine (l03Draw_any (w0.alloc (.cells #[.slice none 0 0] 26)) g B C cap bl (H.out.alloc _).again).mono ?_
  rintro e w1 ⟨l, A, c, rfl, hl, o1, d1⟩
  have O1 := Lib.hid (own_more o1 (show w0.heap.size + 1 ≤ (w0.alloc (.cells #[.slice none 0 0] 26)).heap.size + 1 by simp))
  have K1 := Lib.hid (bk_keep K0.out d1.2.2.1 hg0)
  have D1 := Lib.hid ((H.out.alloc _).join d1)
  have hz1 := bk_lt K1.out
  clear o1 d1 K0 H
  have hlw : (l.length : Int) ≤ 25 := by omega
  go_wp2_with fail
  refine (next_ds (D1.out.alloc (.cells #[.slice A l.length c] 26)) _).mono ?_
  rintro e w2 ⟨f, rfl, f0, f1, d2, g2⟩
  have O2 := Lib.hid (DS.own (O1.out.alloc _) g2 (by omega))
  have K2 := Lib.hid (bk_keep (bk_alloc K1.out _) g2 hg0)
  have L2 := Lib.hid (bk_keep (bk_new w1 #[.slice A l.length c] 26) g2 (by omega))
  have D2 := Lib.hid d2
  have hne : w1.heap.size ≠ w0.heap.size := by omega
  have hne2 : w0.heap.size ≠ w1.heap.size := by omega
  have hgb : g < w1.heap.size := by omega
  have hoN := Lib.hid (fun k hk => own_lt O1.out k hk)
  clear d2 g2 O1 K1 D1 f0 f1
  generalize w1.heap.size = bb at *
  go_wp2_with fail
  refine (next_ds D2.out 24).mono ?_
  rintro e w3 ⟨y, rfl, y0, y1, d3, g3⟩
  have O3 := Lib.hid (DS.own O2.out g3 (by omega))
  have K3 := Lib.hid (bk_keep K2.out g3 hg0)
  have L3 := Lib.hid (bk_keep L2.out g3 hgb)
  have D3 := Lib.hid d3
  clear d3 g3 O2 K2 L2 D2 y0 y1
  have FIN : ∀ (w' : World) (f n : Int), w'.ownsRow (w0.heap.size + 1) 39 7 (.slice A l.length c) l.length (l.flatMap eSegment) → DS w0 w' g B C cap bl → RunP w0 g B C cap bl (.returned (.tuple #[.agg #[.slice A l.length c], .int .i64 f, .int .i64 n])) (w'.setCell ⟨w0.heap.size, 0, none⟩ (.slice A l.length c)) := fun w' f n h2 h3 => ⟨l, A, c, f, n, rfl, hl, own_set h2 (fun e => by have := (own_lt h2 _ e).1; omega) 0 _, h3.set (Nat.le_refl _) 0 _⟩
  have Fin := Lib.hid FIN
  clear FIN
  rcases (show y = 0 ∨ y = 1 ∨ (y ≠ 0 ∧ y ≠ 1) by omega) with rfl | rfl | ⟨n0, n1⟩
  · obtain ⟨r0, rf, rs⟩ := bk1 K3.out
    obtain ⟨s0, sf, ss⟩ := bk1 L3.out
    go_wp2_with fail
    refine (pick_ds D3.out [-1, (l.length : Int)] 2 _ (by rfl) _ (by rfl) rfl (by omega) (by omega)).mono ?_
    rintro e w4 ⟨f', rfl, hf', d4, g4⟩
    have O4 := Lib.hid (DS.own (O3.out.alloc _) g4 (by omega))
    have K4 := Lib.hid (bk_keep (bk_alloc K3.out _) g4 hg0)
    have L4 := Lib.hid (bk_keep (bk_alloc L3.out _) g4 hgb)
    have D4 := Lib.hid d4
    clear d4 g4 hf' O3 K3 L3 D3 r0 rf rs s0 sf ss
    obtain ⟨r0, rf, rs⟩ := bk1 K4.out
    obtain ⟨s0, sf, ss⟩ := bk1 L4.out
    go_wp2_with fail
    go_region_held3 (fun w' => w'.cell? ⟨bb, 0, none⟩ = some (.slice A l.length c)) (first | assumption | (simp [*, World.cell?_alloc_past, World.cell?_setCell_far])) (first | (go_at_call 117; refine (next_ds D4.out.drew 7).mono ?_; rintro e w9 ⟨n, rfl, n0', n1', d9, g9⟩; have g9' : w4.grownBy w9 (some g) := (by exact ⟨g9.os, g9.tape, g9.output, g9.size, g9.block⟩); have O9 := Lib.hid (DS.own O4.out g9' (by omega)); have K9 := Lib.hid (bk_keep K4.out g9' hg0); have L9 := Lib.hid (bk_keep L4.out g9' hgb); have D9 := Lib.hid d9; clear d9 g9 g9' n0' n1'; obtain ⟨r0, rf, rs⟩ := bk1 K9.out; obtain ⟨s0, sf, ss⟩ := bk1 L9.out))
    all_goals (
      go_wp2
      (try simp only [Exit.inBlock, Exit.then])
      refine ret_run rfl rfl rfl rfl rfl (bk_set K9.out 0 _ _ rfl) ⟨_, _, _, rfl⟩ ?_
      exact Fin.out _ _ _ O9.out D9.out)
  · obtain ⟨r0, rf, rs⟩ := bk1 K3.out
    obtain ⟨s0, sf, ss⟩ := bk1 L3.out
    go_wp2_with fail
    go_region_held3 (fun w' => w'.cell? ⟨bb, 0, none⟩ = some (.slice A l.length c)) (first | assumption | (simp [*, World.cell?_alloc_past, World.cell?_setCell_far])) (first | (go_at_call 118; refine (pick_ds D3.out.drew [-1, 24, 25] 3 _ (by rfl) _ (by rfl) rfl (by omega) (by omega)).mono ?_; rintro e w9 ⟨n, rfl, n0', d9, g9⟩; have O9 := Lib.hid (DS.own (own_drew O3.out |>.alloc _) g9 (by omega)); have K9 := Lib.hid (bk_keep (bk_alloc (bk_drew K3.out) _) g9 hg0); have L9 := Lib.hid (bk_keep (bk_alloc (bk_drew L3.out) _) g9 hgb); have D9 := Lib.hid d9; clear d9 g9 n0'; obtain ⟨r0, rf, rs⟩ := bk1 K9.out; obtain ⟨s0, sf, ss⟩ := bk1 L9.out))
    all_goals (
      go_wp2
      (try simp only [Exit.inBlock, Exit.then])
      refine ret_run rfl rfl rfl rfl rfl (bk_set K9.out 0 _ _ rfl) ⟨_, _, _, rfl⟩ ?_
      exact Fin.out _ _ _ O9.out D9.out)
  · have m0 : (y == 0) = false := by rw [beq_eq_false_iff_ne]; exact n0
    have m1 : (y == 1) = false := by rw [beq_eq_false_iff_ne]; exact n1
    obtain ⟨r0, rf, rs⟩ := bk1 K3.out
    obtain ⟨s0, sf, ss⟩ := bk1 L3.out
    go_wp2_with fail
    go_region_held3 (fun w' => w'.cell? ⟨bb, 0, none⟩ = some (.slice A l.length c)) (first | assumption | (simp [*, World.cell?_alloc_past, World.cell?_setCell_far])) (first | (go_at_call 117; refine (next_ds D3.out.drew 7).mono ?_; rintro e w9 ⟨n, rfl, n0', n1', d9, g9⟩; have g9' : w3.grownBy w9 (some g) := (by exact ⟨g9.os, g9.tape, g9.output, g9.size, g9.block⟩); have O9 := Lib.hid (DS.own O3.out g9' (by omega)); have K9 := Lib.hid (bk_keep K3.out g9' hg0); have L9 := Lib.hid (bk_keep L3.out g9' hgb); have D9 := Lib.hid d9; clear d9 g9 g9' n0' n1'; obtain ⟨r0, rf, rs⟩ := bk1 K9.out; obtain ⟨s0, sf, ss⟩ := bk1 L9.out))
    all_goals (
      go_wp2
      (try simp only [Exit.inBlock, Exit.then])
      refine ret_run rfl rfl rfl rfl rfl (bk_set K9.out 0 _ _ rfl) ⟨_, _, _, rfl⟩ ?_
      exact Fin.out _ _ _ O9.out D9.out)
end Go.Proofs.Ytooifamckccadaa
