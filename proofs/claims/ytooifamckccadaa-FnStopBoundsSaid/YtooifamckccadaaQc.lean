/- The draw of a layout, of its blocks and of one of them: a walk. -/
import Derived.Test.YtooifamckccadaaQb
namespace Go.Proofs.Ytooifamckccadaa
open Go.ChangeShapes Go.WideShapes Go.ChangeAt Go.RowKit
set_option maxRecDepth 20000
set_option linter.unusedVariables false
set_option linter.unusedSimpArgs false
def LbbP (w0 : World) (g B : Nat) (C : Option Addr) (cap : Nat) (bl : List Int) (e : Ending) (w' : World) : Prop :=
  ∃ (l : List Seg) (A : Option Addr) (c : Nat) (fs : List Int) (A2 : Option Addr) (c2 : Nat) (x : Int), e = .returned (.tuple #[.agg #[.slice A l.length c], .slice A2 fs.length c2, .int .i64 x]) ∧ l.length ≤ 25 ∧ fs.length ≤ 60 ∧ w'.ownsRow (w0.heap.size + 1) 39 7 (.slice A l.length c) l.length (l.flatMap eSegment) ∧ w'.ownsRow (w0.heap.size + 1) 2 1 (.slice A2 fs.length c2) fs.length (ints fs) ∧ DS w0 w' g B C cap bl
theorem ret_lb3 {fn : Func} {t u v : Tmp} {a : Act} {w : World} {R : Ending → World → Prop} {b : Nat} {x y z : Value} (hres : fn.results = #[.cell t 26, .tmp u, .tmp v]) (ha : a.tmps.getD t undef = .pointer (some ⟨b, 0, none⟩)) (hu : a.tmps.getD u undef = y) (hv : a.tmps.getD v undef = z) (hd : a.defers = []) (h : Bk w b #[x]) (h1 : ∃ A n c, x = .slice A n c) (h2 : ∃ A n c, y = .slice A n c) (h3 : ∃ n, z = .int .i64 n) (hR : R (.returned (.tuple #[.agg #[x], y, z])) w) : bodyPost Try.prog fn R .ret a w := by
  obtain ⟨A, n, c, rfl⟩ := h1
  obtain ⟨A2, n2, c2, rfl⟩ := h2
  obtain ⟨m, rfl⟩ := h3
  refine bodyPost_ret ?_ hd hR
  obtain ⟨k1, k2⟩ := bk_at h
  have c0 : w.cell? ⟨b, 0, none⟩ = some (.slice A n c) := k1 0
  simp only [Array.getD_eq_getD_getElem?] at ha hu hv
  simp [results, hres, ha, hu, hv, go_sem, *]
set_option maxHeartbeats 1000000 in
theorem l04DrawBlock_any (w0 : World) (g B : Nat) (C : Option Addr) (cap : Nat) (bl : List Int) (h : DS w0 w0 g B C cap bl) :
   Calls Try.prog 141 #[.pointer (some ⟨g, 0, none⟩)] w0 (LbbP w0 g B C cap bl) := by
  have hg0 := h.size.2
  have H := Lib.hid h
  clear h
  have K0 := Lib.hid (bk_new w0 #[.slice none 0 0] 26)
  go_enter Try.func141, Try.ntmps141
  go_wp2_with fail
  refine (l04Draw_any (w0.alloc (.cells #[.slice none 0 0] 26)) g B C cap bl (H.out.alloc _).again).mono ?_
  rintro e w1 ⟨l, A, c, fs, A2, c2, rfl, hl, hfs, o1, f1, d1⟩
  have O1 := Lib.hid ((own_more o1 (show w0.heap.size + 1 ≤ (w0.alloc (.cells #[.slice none 0 0] 26)).heap.size + 1 by simp)).alloc (.cells #[.slice A l.length c] 26))
  have F1 := Lib.hid ((own_more f1 (show w0.heap.size + 1 ≤ (w0.alloc (.cells #[.slice none 0 0] 26)).heap.size + 1 by simp)).alloc (.cells #[.slice A l.length c] 26))
  have k1 := bk_keep K0.out d1.2.2.1 hg0
  have hbb0 := bk_lt k1
  have K1 := Lib.hid (bk_alloc k1 (.cells #[.slice A l.length c] 26))
  have L1 := Lib.hid (bk_new w1 #[.slice A l.length c] 26)
  have dd1 := (H.out.alloc (.cells #[.slice none 0 0] 26)).join d1
  have D1 := Lib.hid (dd1.alloc (.cells #[.slice A l.length c] 26))
  have hgb : g < w1.heap.size := by omega
  have hsz1 := dd1.size.1
  clear o1 f1 d1 K0 H k1 dd1
  generalize hbv : w1.heap.size = bv at *
  have hne : bv ≠ w0.heap.size := by omega
  have hne2 : w0.heap.size ≠ bv := by omega
  go_wp2_with fail
  refine (next_ds D1.out 16).mono ?_
  rintro e w2 ⟨z, rfl, z0, z1, d2, g2⟩
  have O2 := Lib.hid (DS.own O1.out g2 (by omega))
  have F2 := Lib.hid (DS.own F1.out g2 (by omega))
  have K2 := Lib.hid (bk_keep K1.out g2 hg0)
  have L2 := Lib.hid (bk_keep L1.out g2 hgb)
  have D2 := Lib.hid d2
  clear d2 g2 O1 F1 K1 L1 D1
  obtain ⟨s0, sf, ss⟩ := bk1 L2.out
  obtain ⟨r0, rf, rs⟩ := bk1 K2.out
  by_cases hz : z = 0
  · subst hz
    go_wp2_with fail
    go_region_held3 (fun w' => w'.cell? ⟨bv, 0, none⟩ = some (.slice A l.length c)) (first | assumption | (simp [*, World.cell?_alloc_past, World.cell?_setCell_far])) (first | (go_at_call 118; refine (pick_ds D2.out.drew [-1, (fs.length : Int)] 2 _ (by rfl) _ (by rfl) rfl (by omega) (by omega)).mono ?_; rintro e w3 ⟨n, rfl, n0', d3, g3⟩; have O3 := Lib.hid (DS.own (own_drew O2.out |>.alloc _) g3 (by omega)); have F3 := Lib.hid (DS.own (own_drew F2.out |>.alloc _) g3 (by omega)); have K3 := Lib.hid (bk_keep (bk_alloc (bk_drew K2.out) _) g3 hg0); have L3 := Lib.hid (bk_keep (bk_alloc (bk_drew L2.out) _) g3 hgb); have D3 := Lib.hid d3; clear d3 g3 n0'; obtain ⟨r0, rf, rs⟩ := bk1 K3.out; obtain ⟨s0, sf, ss⟩ := bk1 L3.out))
    all_goals (
      go_wp2
      (try simp only [Exit.inBlock, Exit.then])
      refine ret_lb3 rfl rfl rfl rfl rfl (bk_set K3.out 0 _ _ rfl) ⟨_, _, _, rfl⟩ ⟨_, _, _, rfl⟩ ⟨_, rfl⟩ ?_
      exact ⟨l, A, c, fs, A2, c2, n, rfl, hl, hfs, ownsRow_setCell_below O3.out (by simp) _, ownsRow_setCell_below F3.out (by simp) _, D3.out.set (Nat.le_refl _) _ _⟩)
  · have hz0 : (z == 0) = false := by rw [beq_eq_false_iff_ne]; exact hz
    go_wp2_with fail
    go_region_held3 (fun w' => w'.cell? ⟨bv, 0, none⟩ = some (.slice A l.length c)) (first | assumption | (simp [*, World.cell?_alloc_past, World.cell?_setCell_far])) (first | (go_at_call 117; refine (next_al D2.out.drew (fs.length : Int)).mono ?_; rintro e w3 ⟨n, rfl, d3, g3⟩; have O3 := Lib.hid (DS.own (own_drew O2.out) g3 (by omega)); have F3 := Lib.hid (DS.own (own_drew F2.out) g3 (by omega)); have K3 := Lib.hid (bk_keep (bk_drew K2.out) g3 hg0); have L3 := Lib.hid (bk_keep (bk_drew L2.out) g3 hgb); have D3 := Lib.hid d3; clear d3 g3; obtain ⟨r0, rf, rs⟩ := bk1 K3.out; obtain ⟨s0, sf, ss⟩ := bk1 L3.out))
    all_goals (
      go_wp2
      (try simp only [Exit.inBlock, Exit.then])
      refine ret_lb3 rfl rfl rfl rfl rfl (bk_set K3.out 0 _ _ rfl) ⟨_, _, _, rfl⟩ ⟨_, _, _, rfl⟩ ⟨_, rfl⟩ ?_
      exact ⟨l, A, c, fs, A2, c2, n, rfl, hl, hfs, ownsRow_setCell_below O3.out (by simp) _, ownsRow_setCell_below F3.out (by simp) _, D3.out.set (Nat.le_refl _) _ _⟩)
end Go.Proofs.Ytooifamckccadaa
