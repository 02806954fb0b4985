/- Draws of segments and of intervals. -/
import Derived.Test.YtooifamckccadaaDr
import Derived.Test.YtooifamckccadaaB
import Derived.Deep.RegionWith
namespace Go.Proofs.Ytooifamckccadaa
open Go.ChangeShapes Go.WideShapes Go.ChangeAt Go.RowKit
set_option maxRecDepth 20000
set_option linter.unusedVariables false
set_option linter.unusedSimpArgs false
/-- the block b holds these cells -/
def Bk (w : World) (b : Nat) (cs : Array Value) : Prop := ∃ t, w.heap[b]? = some (.cells cs t (0, 0))
theorem bk_lt {w : World} {b : Nat} {cs : Array Value} (h : Bk w b cs) : b < w.heap.size := by
  obtain ⟨t, h⟩ := h
  rcases Nat.lt_or_ge b w.heap.size with h1 | h1
  · exact h1
  · rw [Array.getElem?_eq_none h1] at h; cases h
theorem bk_new (w : World) (cs : Array Value) (t : TypeId) : Bk (w.alloc (.cells cs t)) w.heap.size cs := ⟨t, heap_alloc_new w _⟩
theorem bk_alloc {w : World} {b : Nat} {cs : Array Value} (h : Bk w b cs) (o : Obj) : Bk (w.alloc o) b cs := by
  obtain ⟨t, e⟩ := h
  exact ⟨t, (Below.heap_alloc w o b (bk_lt ⟨t, e⟩)).trans e⟩
theorem bk_keep {w w' : World} {g b : Nat} {cs : Array Value} (h : Bk w b cs) (hg : w.grownBy w' (some g)) (hne : g < b) : Bk w' b cs := by
  obtain ⟨t, e⟩ := h
  exact ⟨t, (hg.block b (bk_lt ⟨t, e⟩) (fun e => by injection e with e; omega)).trans e⟩
theorem bk_drew {w : World} {b : Nat} {cs : Array Value} (h : Bk w b cs) : Bk w.drew b cs := h
theorem bk_below {w w' : World} {b N : Nat} {cs : Array Value} (h : Bk w b cs) (hb : Below N w w') (hN : b < N) : Bk w' b cs := by
  obtain ⟨t, e⟩ := h
  exact ⟨t, (hb.block b hN).trans e⟩
theorem bk_set {w : World} {b : Nat} {cs : Array Value} (h : Bk w b cs) (j : Nat) (u : Value) (cs' : Array Value) (hc : cs' = cs.setIfInBounds j u) : Bk (w.setCell ⟨b, j, none⟩ u) b cs' := by
  obtain ⟨t, e⟩ := h
  subst hc
  exact ⟨t, by rw [heap_setCell_same w b j _ _ u e]⟩
theorem bk_other {w : World} {b b' : Nat} {cs : Array Value} (h : Bk w b cs) (hne : b' ≠ b) (j : Nat) (u : Value) : Bk (w.setCell ⟨b', j, none⟩ u) b cs := by
  obtain ⟨t, e⟩ := h
  exact ⟨t, by rw [heap_setCell_other w ⟨b', j, none⟩ b u (fun q => hne q.symm)]; exact e⟩
theorem bk_at {w : World} {b : Nat} {cs : Array Value} (h : Bk w b cs) : (∀ j, w.cell? ⟨b, j, none⟩ = cs[j]?) ∧ (∀ j, w.frozen? ⟨b, j, none⟩ = false) := by
  obtain ⟨t, e⟩ := h
  exact ⟨fun j => cell_of_row w b j _ _ _ e, fun j => by simp [World.frozen?, e]⟩
theorem bk2 {w : World} {b : Nat} {x y : Value} (h : Bk w b #[x, y]) : w.cell? ⟨b, 0, none⟩ = some x ∧ w.cell? ⟨b, 1, none⟩ = some y ∧ (∀ j, w.frozen? ⟨b, j, none⟩ = false) ∧ b < w.heap.size := by
  obtain ⟨h1, h2⟩ := bk_at h
  exact ⟨h1 0, h1 1, h2, bk_lt h⟩
theorem bk7 {w : World} {b : Nat} {c0 c1 c2 c3 c4 c5 c6 : Value} (h : Bk w b #[c0, c1, c2, c3, c4, c5, c6]) : w.cell? ⟨b, 0, none⟩ = some c0 ∧ w.cell? ⟨b, 1, none⟩ = some c1 ∧ w.cell? ⟨b, 2, none⟩ = some c2 ∧ w.cell? ⟨b, 3, none⟩ = some c3 ∧ w.cell? ⟨b, 4, none⟩ = some c4 ∧ w.cell? ⟨b, 5, none⟩ = some c5 ∧ w.cell? ⟨b, 6, none⟩ = some c6 ∧ (∀ j, w.frozen? ⟨b, j, none⟩ = false) ∧ b < w.heap.size := by
  obtain ⟨h1, h2⟩ := bk_at h
  exact ⟨h1 0, h1 1, h1 2, h1 3, h1 4, h1 5, h1 6, h2, bk_lt h⟩
theorem bk_fill7 {w : World} {b : Nat} {c0 c1 c2 c3 c4 c5 c6 : Value} (h : Bk w b #[c0, c1, c2, c3, c4, c5, c6]) (v0 v1 v2 v3 v4 v5 v6 : Value) : Bk (((((((w.setCell ⟨b, 0, none⟩ v0).setCell ⟨b, 1, none⟩ v1).setCell ⟨b, 2, none⟩ v2).setCell ⟨b, 3, none⟩ v3).setCell ⟨b, 4, none⟩ v4).setCell ⟨b, 5, none⟩ v5).setCell ⟨b, 6, none⟩ v6) b #[v0, v1, v2, v3, v4, v5, v6] := by
  replace h := bk_set h 0 v0 #[v0, c1, c2, c3, c4, c5, c6] rfl
  replace h := bk_set h 1 v1 #[v0, v1, c2, c3, c4, c5, c6] rfl
  replace h := bk_set h 2 v2 #[v0, v1, v2, c3, c4, c5, c6] rfl
  replace h := bk_set h 3 v3 #[v0, v1, v2, v3, c4, c5, c6] rfl
  replace h := bk_set h 4 v4 #[v0, v1, v2, v3, v4, c5, c6] rfl
  replace h := bk_set h 5 v5 #[v0, v1, v2, v3, v4, v5, c6] rfl
  replace h := bk_set h 6 v6 #[v0, v1, v2, v3, v4, v5, v6] rfl
  exact h
theorem bk_fill2 {w : World} {b : Nat} {c0 c1 : Value} (h : Bk w b #[c0, c1]) (v0 v1 : Value) : Bk ((w.setCell ⟨b, 0, none⟩ v0).setCell ⟨b, 1, none⟩ v1) b #[v0, v1] := bk_set (bk_set h 0 v0 _ rfl) 1 v1 _ rfl
section
variable {w0 w w' : World} {g B : Nat} {C : Option Addr} {cap : Nat} {bl : List Int}
theorem DS.set (h : DS w0 w g B C cap bl) {b : Nat} (hb : w0.heap.size ≤ b) (j : Nat) (u : Value) : DS w0 (w.setCell ⟨b, j, none⟩ u) g B C cap bl := h.below (by repeat' (first | (with_reducible exact Below.refl _ _) | (with_reducible assumption) | (with_reducible refine Below.alloc ?_ ?_ _) | (with_reducible refine Below.drew ?_) | (with_reducible refine below_drewN ?_ _) | (with_reducible refine Below.setCell ?_ ?_ _) | (with_reducible refine Below.trans ?_ (Below.mono (by assumption) ?_)) | go_size | (exact Below.size (by assumption))))
theorem DS.fill7 (h : DS w0 w g B C cap bl) {b : Nat} (hb : w0.heap.size ≤ b) (v0 v1 v2 v3 v4 v5 v6 : Value) : DS w0 (((((((w.setCell ⟨b, 0, none⟩ v0).setCell ⟨b, 1, none⟩ v1).setCell ⟨b, 2, none⟩ v2).setCell ⟨b, 3, none⟩ v3).setCell ⟨b, 4, none⟩ v4).setCell ⟨b, 5, none⟩ v5).setCell ⟨b, 6, none⟩ v6) g B C cap bl :=
  (((((((h.set hb _ _).set hb _ _).set hb _ _).set hb _ _).set hb _ _).set hb _ _).set hb _ _)
theorem DS.fill2 (h : DS w0 w g B C cap bl) {b : Nat} (hb : w0.heap.size ≤ b) (v0 v1 : Value) : DS w0 ((w.setCell ⟨b, 0, none⟩ v0).setCell ⟨b, 1, none⟩ v1) g B C cap bl := (h.set hb _ _).set hb _ _
theorem next_al (h : DS w0 w g B C cap bl) (m : Int) :
   Calls Try.prog 117 #[.pointer (some ⟨g, 0, none⟩), .int .i64 m] w fun e w' => ∃ x : Int, e = .returned (.int .i64 x) ∧ DS w0 w' g B C cap bl ∧ w.grownBy w' (some g) :=
  (next_ds h m).mono (fun e w' ⟨x, e1, _, _, d, gr⟩ => ⟨x, e1, d, gr⟩)
theorem pick_al (h : DS w0 w g B C cap bl) (l : List Int) (k q : Nat) (hq : q = w.heap.size) (cs : Array Value) (hcs : cs = (ints l).toArray) (hk : l.length = k) (h0 : 0 < k) (hk2 : k ≤ 1000) :
   Calls Try.prog 118 #[.pointer (some ⟨g, 0, none⟩), .slice (some ⟨q, 0, none⟩) k k] (w.alloc (.cells cs 2)) (fun e w' => ∃ x : Int, e = .returned (.int .i64 x) ∧ DS w0 w' g B C cap bl ∧ (w.alloc (.cells cs 2)).grownBy w' (some g)) :=
  (pick_ds h l k q hq cs hcs hk h0 hk2).mono (fun e w' ⟨x, e1, _, d, gr⟩ => ⟨x, e1, d, gr⟩)
end
def iv (a b : Int) : Value := .agg #[.int .i64 a, .int .i64 b]
def IvP (w0 : World) (g B : Nat) (C : Option Addr) (cap : Nat) (bl : List Int) (e : Ending) (w' : World) : Prop :=
  ∃ lo hi : Int, e = .returned (.agg #[.int .i64 lo, .int .i64 hi]) ∧ DS w0 w' g B C cap bl
def SegP (w0 : World) (g B : Nat) (C : Option Addr) (cap : Nat) (bl : List Int) (e : Ending) (w' : World) : Prop :=
  ∃ k len rise rl rh fl fh : Int, e = .returned (.agg #[.int .i64 k, .int .i64 len, .int .i64 rise, .int .i64 rl, .int .i64 rh, .int .i64 fl, .int .i64 fh]) ∧ DS w0 w' g B C cap bl
theorem load_iv {w : World} {b : Nat} {x y : Int} (h : Bk w b #[.int .i64 x, .int .i64 y]) : (loadVar 29 ⟨b, 0, none⟩).run Try.prog w = .ok (.agg #[.int .i64 x, .int .i64 y]) w := by
  obtain ⟨c0, c1, cf, cs⟩ := bk2 h
  simp [go_sem, *]
theorem load_seg {w : World} {b : Nat} {k len rise rl rh fl fh : Int} (h : Bk w b #[.int .i64 k, .int .i64 len, .int .i64 rise, .int .i64 rl, .int .i64 rh, .int .i64 fl, .int .i64 fh]) : (loadVar 39 ⟨b, 0, none⟩).run Try.prog w = .ok (.agg #[.int .i64 k, .int .i64 len, .int .i64 rise, .int .i64 rl, .int .i64 rh, .int .i64 fl, .int .i64 fh]) w := by
  obtain ⟨c0, c1, c2, c3, c4, c5, c6, cf, cs⟩ := bk7 h
  simp [go_sem, *]
theorem ret_iv {fn : Func} {t : Tmp} {a : Act} {w : World} {R : Ending → World → Prop} {b : Nat} {x y : Int} (hres : fn.results = #[.cell t 29]) (ha : a.tmps.getD t undef = .pointer (some ⟨b, 0, none⟩)) (hd : a.defers = []) (h : Bk w b #[.int .i64 x, .int .i64 y]) (hR : R (.returned (.agg #[.int .i64 x, .int .i64 y])) w) : bodyPost Try.prog fn R .ret a w := by
  refine bodyPost_ret ?_ hd hR
  obtain ⟨c0, c1, cf, cs⟩ := bk2 h
  simp only [Array.getD_eq_getD_getElem?] at ha
  simp [results, hres, ha, go_sem, *]
theorem ret_seg {fn : Func} {t : Tmp} {a : Act} {w : World} {R : Ending → World → Prop} {b : Nat} {k len rise rl rh fl fh : Int} (hres : fn.results = #[.cell t 39]) (ha : a.tmps.getD t undef = .pointer (some ⟨b, 0, none⟩)) (hd : a.defers = []) (h : Bk w b #[.int .i64 k, .int .i64 len, .int .i64 rise, .int .i64 rl, .int .i64 rh, .int .i64 fl, .int .i64 fh]) (hR : R (.returned (.agg #[.int .i64 k, .int .i64 len, .int .i64 rise, .int .i64 rl, .int .i64 rh, .int .i64 fl, .int .i64 fh])) w) : bodyPost Try.prog fn R .ret a w := by
  refine bodyPost_ret ?_ hd hR
  obtain ⟨c0, c1, c2, c3, c4, c5, c6, cf, cs⟩ := bk7 h
  simp only [Array.getD_eq_getD_getElem?] at ha
  simp [results, hres, ha, go_sem, *]
theorem ret_both {fn : Func} {t u : Tmp} {a : Act} {w : World} {R : Ending → World → Prop} {b c : Nat} {k len rise rl rh fl fh x y : Int} (hres : fn.results = #[.cell t 39, .cell u 29]) (ha : a.tmps.getD t undef = .pointer (some ⟨b, 0, none⟩)) (ha2 : a.tmps.getD u undef = .pointer (some ⟨c, 0, none⟩)) (hd : a.defers = []) (h : Bk w b #[.int .i64 k, .int .i64 len, .int .i64 rise, .int .i64 rl, .int .i64 rh, .int .i64 fl, .int .i64 fh]) (h2 : Bk w c #[.int .i64 x, .int .i64 y]) (hR : R (.returned (.tuple #[.agg #[.int .i64 k, .int .i64 len, .int .i64 rise, .int .i64 rl, .int .i64 rh, .int .i64 fl, .int .i64 fh], .agg #[.int .i64 x, .int .i64 y]])) w) : bodyPost Try.prog fn R .ret a w := by
  refine bodyPost_ret ?_ hd hR
  obtain ⟨c0, c1, c2, c3, c4, c5, c6, cf, cs⟩ := bk7 h
  obtain ⟨e0, e1, ef, es⟩ := bk2 h2
  simp only [Array.getD_eq_getD_getElem?] at ha ha2
  simp [results, hres, ha, ha2, go_sem, *]
set_option maxHeartbeats 1000000 in
theorem l03DrawInterval_any (w0 : World) (g B : Nat) (C : Option Addr) (cap : Nat) (bl : List Int) (lo hi : Int) (h : DS w0 w0 g B C cap bl) :
   Calls Try.prog 162 #[.pointer (some ⟨g, 0, none⟩), .int .i64 lo, .int .i64 hi] w0 (IvP w0 g B C cap bl) := by
  have hg0 := h.size.2
  have H := Lib.hid h
  clear h
  go_enter Try.func162, Try.ntmps162
  go_wp2_with fail
  refine (next_al (H.out.alloc _) _).mono ?_
  rintro e w1 ⟨x, rfl, d1, g1⟩
  have D1 := Lib.hid d1
  have K1 := Lib.hid (bk_keep (bk_new w0 _ _) g1 hg0)
  clear d1 g1
  go_wp2_with fail
  refine (next_al D1.out _).mono ?_
  rintro e w2 ⟨y, rfl, d2, g2⟩
  have D2 := Lib.hid d2
  have K2 := Lib.hid (bk_keep K1.out g2 hg0)
  obtain ⟨c0, c1, cf, cs⟩ := bk2 K2.out
  clear d2 g2
  go_wp2
  all_goals (try simp only [Exit.inBlock, Exit.then])
  all_goals refine ret_iv rfl rfl rfl (bk_set (bk_set K2.out 0 _ _ rfl) 1 _ _ rfl) ?_
  all_goals exact ⟨_, _, rfl, (D2.out.set (Nat.le_refl _) _ _).set (Nat.le_refl _) _ _⟩
set_option maxHeartbeats 1000000 in
theorem l03DrawSegment_any (w0 : World) (g B : Nat) (C : Option Addr) (cap : Nat) (bl : List Int) (k : Int) (h : DS w0 w0 g B C cap bl) :
   Calls Try.prog 184 #[.pointer (some ⟨g, 0, none⟩), .int .i64 k] w0 (SegP w0 g B C cap bl) := by
  have hg0 := h.size.2
  have H := Lib.hid h
  clear h
  go_enter Try.func184, Try.ntmps184
  go_wp2_with fail
  refine (next_al (H.out.alloc _) _).mono ?_
  rintro e w1 ⟨x, rfl, d1, g1⟩
  have D1 := Lib.hid d1
  have K1 := Lib.hid (bk_keep (bk_new w0 _ _) g1 hg0)
  clear d1 g1
  go_wp2_with fail
  refine (l03DrawInterval_any w1 g B C cap bl _ _ D1.out.again).mono ?_
  rintro e w2 ⟨lo, hi, rfl, d2⟩
  have D2 := Lib.hid (D1.out.join d2)
  have K2 := Lib.hid (bk_keep K1.out d2.2.2.1 hg0)
  have z2 := D2.out.size.1
  have hg2 : g < w2.heap.size := by omega
  have hb2 := bk_lt K2.out
  clear d2
  go_wp2_with fail
  go_region_with ((go_at_call 117; refine (next_al (D2.out.alloc _).drew _).mono ?_; rintro e w3 ⟨z, rfl, d3, g3⟩; have D3 := Lib.hid d3; have K3 := Lib.hid (bk_keep (bk_drew (bk_alloc K2.out _)) g3 hg0); have L3 := Lib.hid (bk_keep (bk_drew (bk_new w2 _ _)) g3 hg2); obtain ⟨q0, q1, q2, q3, q4, q5, q6, qf, qs⟩ := bk7 K3.out; obtain ⟨c0, c1, c2, c3, c4, c5, c6, cf, cs⟩ := bk7 L3.out; clear d3 g3))
  all_goals (
    have hne : w2.heap.size ≠ w0.heap.size := by omega
    have hne2 : w0.heap.size ≠ w2.heap.size := by omega
    by_cases hk : k = 0
    · subst hk
      go_wp2
      (try simp only [Exit.inBlock, Exit.then])
      refine ret_seg rfl rfl rfl (bk_fill7 (bk_other K3.out hne _ _) _ _ _ _ _ _ _) ?_
      exact ⟨_, _, _, _, _, _, _, rfl, (D3.out.set z2 _ _).fill7 (Nat.le_refl _) _ _ _ _ _ _ _⟩
    · have hkb : (k == 0) = false := by rw [beq_eq_false_iff_ne]; exact hk
      have hkn : (k != 0) = true := by simpa using hk
      go_wp2_with fail
      refine (l03DrawInterval_any _ g B C cap bl _ _ (D3.out.set z2 _ _).again).mono ?_
      rintro e w4 ⟨lo2, hi2, rfl, d4⟩
      have D4 := Lib.hid ((D3.out.set z2 _ _).join d4)
      have K4 := Lib.hid (bk_keep (bk_other K3.out hne _ _) d4.2.2.1 hg0)
      have L4 := Lib.hid (bk_keep (bk_set L3.out 2 _ _ rfl) d4.2.2.1 hg2)
      clear d4 q0 q1 q2 q3 q4 q5 q6 qf qs c0 c1 c2 c3 c4 c5 c6 cf cs
      obtain ⟨q0, q1, q2, q3, q4, q5, q6, qf, qs⟩ := bk7 K4.out
      obtain ⟨c0, c1, c2, c3, c4, c5, c6, cf, cs⟩ := bk7 L4.out
      go_wp2
      (try simp only [Exit.inBlock, Exit.then])
      refine ret_seg rfl rfl rfl (bk_fill7 (bk_other (bk_other (bk_other K4.out hne _ _) hne _ _) hne _ _) _ _ _ _ _ _ _) ?_
      exact ⟨_, _, _, _, _, _, _, rfl, (((D4.out.set z2 _ _).set z2 _ _).set z2 _ _).fill7 (Nat.le_refl _) _ _ _ _ _ _ _⟩)
set_option maxHeartbeats 1000000 in
theorem l06Draw_any (w0 : World) (g B : Nat) (C : Option Addr) (cap : Nat) (bl : List Int) (h : DS w0 w0 g B C cap bl) :
   Calls Try.prog 116 #[.pointer (some ⟨g, 0, none⟩)] w0 (IvP w0 g B C cap bl) := by
  have hg0 := h.size.2
  have H := Lib.hid h
  clear h
  go_enter Try.func116, Try.ntmps116
  go_wp2_with fail
  refine (next_al (H.out.alloc _) _).mono ?_
  rintro e w1 ⟨x, rfl, d1, g1⟩
  have D1 := Lib.hid (d1)
  have K1 := Lib.hid (bk_keep (bk_new w0 _ _) g1 hg0)
  clear d1 g1
  obtain ⟨q0, q1, qf, qs⟩ := bk2 K1.out
  go_wp2_with fail
  refine (next_al D1.out _).mono ?_
  rintro e w2 ⟨y, rfl, d2, g2⟩
  have D2 := Lib.hid (d2)
  have K2 := Lib.hid (bk_keep (K1.out) g2 hg0)
  clear d2 g2 q0 q1 qf qs
  obtain ⟨q0, q1, qf, qs⟩ := bk2 K2.out
  have z2 := D2.out.size.1
  have hb2 := bk_lt K2.out
  have hg2 : g < w2.heap.size := by omega
  go_wp2_with fail
  refine (next_al (D2.out.alloc _) _).mono ?_
  rintro e w3 ⟨c, rfl, d3, g3⟩
  have D3 := Lib.hid (d3)
  have K3 := Lib.hid (bk_keep (bk_alloc K2.out _) g3 hg0)
  have L3 := Lib.hid (bk_keep (bk_new w2 _ _) g3 hg2)
  clear d3 g3 q0 q1 qf qs
  obtain ⟨q0, q1, qf, qs⟩ := bk2 K3.out
  obtain ⟨c0, c1, cf, cs⟩ := bk2 L3.out
  have hne : w2.heap.size ≠ w0.heap.size := by omega
  have hne2 : w0.heap.size ≠ w2.heap.size := by omega
  have FIN : ∀ (w4 : World) (a b : Int), DS w0 w4 g B C cap bl → IvP w0 g B C cap bl (.returned (.agg #[.int .i64 a, .int .i64 b])) ((w4.setCell ⟨w0.heap.size, 0, none⟩ (.int .i64 a)).setCell ⟨w0.heap.size, 1, none⟩ (.int .i64 b)) := fun w4 a b d => ⟨_, _, rfl, d.fill2 (Nat.le_refl _) _ _⟩
  have Fin := Lib.hid FIN
  clear FIN
  rcases (show c = 0 ∨ c = 1 ∨ c = 2 ∨ (c ≠ 0 ∧ c ≠ 1 ∧ c ≠ 2) by omega) with rfl | rfl | rfl | ⟨n0, n1, n2⟩
  · skip
    go_wp2_with fail
    refine (pick_al D3.out [-1, 0, _, _] 4 _ (by rfl) _ (by rfl) rfl (by omega) (by omega)).mono ?_
    rintro e w4 ⟨z, rfl, d4, g4⟩
    have D4 := Lib.hid (d4)
    have K4 := Lib.hid (bk_keep (bk_alloc K3.out _) g4 hg0)
    have L4 := Lib.hid (bk_keep (bk_alloc L3.out _) g4 hg2)
    clear d4 g4 q0 q1 qf qs c0 c1 cf cs
    obtain ⟨q0, q1, qf, qs⟩ := bk2 K4.out
    obtain ⟨c0, c1, cf, cs⟩ := bk2 L4.out
    go_wp2
    (try simp only [Exit.inBlock, Exit.then])
    refine ret_iv rfl rfl rfl (bk_fill2 (bk_other K4.out hne _ _) _ _) ?_
    exact Fin.out _ _ _ (D4.out.set z2 _ _)
  · skip
    go_wp2_with fail
    refine (pick_al D3.out [10000000000, 10000000001] 2 _ (by rfl) _ (by rfl) rfl (by omega) (by omega)).mono ?_
    rintro e w4 ⟨z, rfl, d4, g4⟩
    have D4 := Lib.hid (d4)
    have K4 := Lib.hid (bk_keep (bk_alloc K3.out _) g4 hg0)
    have L4 := Lib.hid (bk_keep (bk_alloc L3.out _) g4 hg2)
    clear d4 g4 q0 q1 qf qs c0 c1 cf cs
    obtain ⟨q0, q1, qf, qs⟩ := bk2 K4.out
    obtain ⟨c0, c1, cf, cs⟩ := bk2 L4.out
    go_wp2
    (try simp only [Exit.inBlock, Exit.then])
    refine ret_iv rfl rfl rfl (bk_fill2 (bk_other K4.out hne _ _) _ _) ?_
    exact Fin.out _ _ _ (D4.out.set z2 _ _)
  · go_wp2
    (try simp only [Exit.inBlock, Exit.then])
    refine ret_iv rfl rfl rfl (bk_fill2 (bk_other (bk_other K3.out hne _ _) hne _ _) _ _) ?_
    exact Fin.out _ _ _ ((D3.out.set z2 _ _).set z2 _ _)
  · have m0 : (c == 0) = false := by rw [beq_eq_false_iff_ne]; exact n0
    have m1 : (c == 1) = false := by rw [beq_eq_false_iff_ne]; exact n1
    have m2 : (c == 2) = false := by rw [beq_eq_false_iff_ne]; exact n2
    go_wp2
    (try simp only [Exit.inBlock, Exit.then])
    refine ret_iv rfl rfl rfl (bk_fill2 K3.out _ _) ?_
    exact Fin.out _ _ _ D3.out
set_option maxHeartbeats 2000000 in
theorem l03DrawAny_any (w0 : World) (g B : Nat) (C : Option Addr) (cap : Nat) (bl : List Int) (h : DS w0 w0 g B C cap bl) :
   Calls Try.prog 164 #[.pointer (some ⟨g, 0, none⟩)] w0 (SegP w0 g B C cap bl) := by
  have hg0 := h.size.2
  have H := Lib.hid h
  clear h
  go_enter Try.func164, Try.ntmps164
  go_wp2_with fail
  refine (next_al (H.out.alloc _) _).mono ?_
  rintro e w1 ⟨x, rfl, d1, g1⟩
  have D1 := Lib.hid (d1)
  have K1 := Lib.hid (bk_keep (bk_new w0 _ _) g1 hg0)
  clear d1 g1
  obtain ⟨q0, q1, q2, q3, q4, q5, q6, qf, qs⟩ := bk7 K1.out
  go_wp2_with fail
  refine (l03DrawSegment_any w1 g B C cap bl _ D1.out.again).mono ?_
  rintro e w2 ⟨k, len, rise, rl, rh, fl, fh, rfl, d2⟩
  have D2 := Lib.hid (D1.out.join d2)
  have K2 := Lib.hid (bk_keep (K1.out) d2.2.2.1 hg0)
  clear d2 q0 q1 q2 q3 q4 q5 q6 qf qs
  obtain ⟨q0, q1, q2, q3, q4, q5, q6, qf, qs⟩ := bk7 K2.out
  have z2 := D2.out.size.1
  have hb2 := bk_lt K2.out
  have hg2 : g < w2.heap.size := by omega
  go_wp2_with fail
  refine (next_al (D2.out.alloc _) _).mono ?_
  rintro e w3 ⟨c, rfl, d3, g3⟩
  have D3 := Lib.hid (d3)
  have K3 := Lib.hid (bk_keep (bk_alloc K2.out _) g3 hg0)
  have L3 := Lib.hid (bk_keep (bk_new w2 _ _) g3 hg2)
  clear d3 g3 q0 q1 q2 q3 q4 q5 q6 qf qs
  obtain ⟨q0, q1, q2, q3, q4, q5, q6, qf, qs⟩ := bk7 K3.out
  obtain ⟨c0, c1, c2, c3, c4, c5, c6, cf, cs⟩ := bk7 L3.out
  have hne : w2.heap.size ≠ w0.heap.size := by omega
  have hne2 : w0.heap.size ≠ w2.heap.size := by omega
  have FIN : ∀ (w4 : World) (a0 a1 a2 a3 a4 a5 a6 : Int), DS w0 w4 g B C cap bl → SegP w0 g B C cap bl (.returned (.agg #[.int .i64 a0, .int .i64 a1, .int .i64 a2, .int .i64 a3, .int .i64 a4, .int .i64 a5, .int .i64 a6])) (((((((w4.setCell ⟨w0.heap.size, 0, none⟩ (.int .i64 a0)).setCell ⟨w0.heap.size, 1, none⟩ (.int .i64 a1)).setCell ⟨w0.heap.size, 2, none⟩ (.int .i64 a2)).setCell ⟨w0.heap.size, 3, none⟩ (.int .i64 a3)).setCell ⟨w0.heap.size, 4, none⟩ (.int .i64 a4)).setCell ⟨w0.heap.size, 5, none⟩ (.int .i64 a5)).setCell ⟨w0.heap.size, 6, none⟩ (.int .i64 a6)) := fun w4 _ _ _ _ _ _ _ d => ⟨_, _, _, _, _, _, _, rfl, d.fill7 (Nat.le_refl _) _ _ _ _ _ _ _⟩
  have Fin := Lib.hid FIN
  clear FIN
  rcases (show c = 0 ∨ c = 1 ∨ c = 2 ∨ c = 3 ∨ c = 4 ∨ (c ≠ 0 ∧ c ≠ 1 ∧ c ≠ 2 ∧ c ≠ 3 ∧ c ≠ 4) by omega) with rfl | rfl | rfl | rfl | rfl | ⟨n0, n1, n2, n3, n4⟩
  · skip
    go_wp2_with fail
    refine (pick_al D3.out [-1, 5, 0, 1] 4 _ (by rfl) _ (by rfl) rfl (by omega) (by omega)).mono ?_
    rintro e w4 ⟨z, rfl, d4, g4⟩
    have D4 := Lib.hid (d4)
    have K4 := Lib.hid (bk_keep (bk_alloc K3.out _) g4 hg0)
    have L4 := Lib.hid (bk_keep (bk_alloc L3.out _) g4 hg2)
    clear d4 g4 q0 q1 q2 q3 q4 q5 q6 qf qs c0 c1 c2 c3 c4 c5 c6 cf cs
    obtain ⟨q0, q1, q2, q3, q4, q5, q6, qf, qs⟩ := bk7 K4.out
    obtain ⟨c0, c1, c2, c3, c4, c5, c6, cf, cs⟩ := bk7 L4.out
    go_wp2
    (try simp only [Exit.inBlock, Exit.then])
    refine ret_seg rfl rfl rfl (bk_fill7 (bk_other K4.out hne _ _) _ _ _ _ _ _ _) ?_
    exact Fin.out _ _ _ _ _ _ _ _ (D4.out.set z2 _ _)
  · skip
    go_wp2_with fail
    refine (pick_al D3.out [0, 1, 200000, 200001] 4 _ (by rfl) _ (by rfl) rfl (by omega) (by omega)).mono ?_
    rintro e w4 ⟨z, rfl, d4, g4⟩
    have D4 := Lib.hid (d4)
    have K4 := Lib.hid (bk_keep (bk_alloc K3.out _) g4 hg0)
    have L4 := Lib.hid (bk_keep (bk_alloc L3.out _) g4 hg2)
    clear d4 g4 q0 q1 q2 q3 q4 q5 q6 qf qs c0 c1 c2 c3 c4 c5 c6 cf cs
    obtain ⟨q0, q1, q2, q3, q4, q5, q6, qf, qs⟩ := bk7 K4.out
    obtain ⟨c0, c1, c2, c3, c4, c5, c6, cf, cs⟩ := bk7 L4.out
    go_wp2
    (try simp only [Exit.inBlock, Exit.then])
    refine ret_seg rfl rfl rfl (bk_fill7 (bk_other K4.out hne _ _) _ _ _ _ _ _ _) ?_
    exact Fin.out _ _ _ _ _ _ _ _ (D4.out.set z2 _ _)
  · skip
    go_wp2_with fail
    refine (pick_al D3.out [_, _, _, _, 100001] 5 _ (by rfl) _ (by rfl) rfl (by omega) (by omega)).mono ?_
    rintro e w4 ⟨z, rfl, d4, g4⟩
    have D4 := Lib.hid (d4)
    have K4 := Lib.hid (bk_keep (bk_alloc K3.out _) g4 hg0)
    have L4 := Lib.hid (bk_keep (bk_alloc L3.out _) g4 hg2)
    clear d4 g4 q0 q1 q2 q3 q4 q5 q6 qf qs c0 c1 c2 c3 c4 c5 c6 cf cs
    obtain ⟨q0, q1, q2, q3, q4, q5, q6, qf, qs⟩ := bk7 K4.out
    obtain ⟨c0, c1, c2, c3, c4, c5, c6, cf, cs⟩ := bk7 L4.out
    go_wp2
    (try simp only [Exit.inBlock, Exit.then])
    refine ret_seg rfl rfl rfl (bk_fill7 (bk_other K4.out hne _ _) _ _ _ _ _ _ _) ?_
    exact Fin.out _ _ _ _ _ _ _ _ (D4.out.set z2 _ _)
  · skip
    go_wp2_with fail
    refine (pick_al D3.out [-1, 0, 5] 3 _ (by rfl) _ (by rfl) rfl (by omega) (by omega)).mono ?_
    rintro e w4 ⟨z, rfl, d4, g4⟩
    have D4 := Lib.hid (d4)
    have K4 := Lib.hid (bk_keep (bk_alloc K3.out _) g4 hg0)
    have L4 := Lib.hid (bk_keep (bk_alloc L3.out _) g4 hg2)
    clear d4 g4 q0 q1 q2 q3 q4 q5 q6 qf qs c0 c1 c2 c3 c4 c5 c6 cf cs
    obtain ⟨q0, q1, q2, q3, q4, q5, q6, qf, qs⟩ := bk7 K4.out
    obtain ⟨c0, c1, c2, c3, c4, c5, c6, cf, cs⟩ := bk7 L4.out
    go_wp2_with fail
    refine (pick_al D4.out [4, 20000, 20001] 3 _ (by rfl) _ (by rfl) rfl (by omega) (by omega)).mono ?_
    rintro e w5 ⟨y, rfl, d5, g5⟩
    have D5 := Lib.hid (d5)
    have K5 := Lib.hid (bk_keep (bk_alloc K4.out _) g5 hg0)
    have L5 := Lib.hid (bk_keep (bk_alloc L4.out _) g5 hg2)
    clear d5 g5 q0 q1 q2 q3 q4 q5 q6 qf qs c0 c1 c2 c3 c4 c5 c6 cf cs
    obtain ⟨q0, q1, q2, q3, q4, q5, q6, qf, qs⟩ := bk7 K5.out
    obtain ⟨c0, c1, c2, c3, c4, c5, c6, cf, cs⟩ := bk7 L5.out
    go_wp2
    (try simp only [Exit.inBlock, Exit.then])
    refine ret_seg rfl rfl rfl (bk_fill7 (bk_other (bk_other K5.out hne _ _) hne _ _) _ _ _ _ _ _ _) ?_
    exact Fin.out _ _ _ _ _ _ _ _ ((D5.out.set z2 _ _).set z2 _ _)
  · skip
    go_wp2_with fail
    refine (next_al D3.out _).mono ?_
    rintro e w4 ⟨z, rfl, d4, g4⟩
    have D4 := Lib.hid (d4)
    have K4 := Lib.hid (bk_keep (K3.out) g4 hg0)
    have L4 := Lib.hid (bk_keep (L3.out) g4 hg2)
    clear d4 g4 q0 q1 q2 q3 q4 q5 q6 qf qs c0 c1 c2 c3 c4 c5 c6 cf cs
    obtain ⟨q0, q1, q2, q3, q4, q5, q6, qf, qs⟩ := bk7 K4.out
    obtain ⟨c0, c1, c2, c3, c4, c5, c6, cf, cs⟩ := bk7 L4.out
    go_wp2_with fail
    refine (pick_al D4.out [1, 20000, 20001] 3 _ (by rfl) _ (by rfl) rfl (by omega) (by omega)).mono ?_
    rintro e w5 ⟨y, rfl, d5, g5⟩
    have D5 := Lib.hid (d5)
    have K5 := Lib.hid (bk_keep (bk_alloc K4.out _) g5 hg0)
    have L5 := Lib.hid (bk_keep (bk_alloc L4.out _) g5 hg2)
    clear d5 g5 q0 q1 q2 q3 q4 q5 q6 qf qs c0 c1 c2 c3 c4 c5 c6 cf cs
    obtain ⟨q0, q1, q2, q3, q4, q5, q6, qf, qs⟩ := bk7 K5.out
    obtain ⟨c0, c1, c2, c3, c4, c5, c6, cf, cs⟩ := bk7 L5.out
    go_wp2
    (try simp only [Exit.inBlock, Exit.then])
    refine ret_seg rfl rfl rfl (bk_fill7 (bk_other (bk_other K5.out hne _ _) hne _ _) _ _ _ _ _ _ _) ?_
    exact Fin.out _ _ _ _ _ _ _ _ ((D5.out.set z2 _ _).set z2 _ _)
  · have m0 : (c == 0) = false := by rw [beq_eq_false_iff_ne]; exact n0
    have m1 : (c == 1) = false := by rw [beq_eq_false_iff_ne]; exact n1
    have m2 : (c == 2) = false := by rw [beq_eq_false_iff_ne]; exact n2
    have m3 : (c == 3) = false := by rw [beq_eq_false_iff_ne]; exact n3
    have m4 : (c == 4) = false := by rw [beq_eq_false_iff_ne]; exact n4
    go_wp2
    (try simp only [Exit.inBlock, Exit.then])
    refine ret_seg rfl rfl rfl (bk_fill7 K3.out _ _ _ _ _ _ _) ?_
    exact Fin.out _ _ _ _ _ _ _ _ D3.out
end Go.Proofs.Ytooifamckccadaa
