/- Draws of runs with devices. -/
import Derived.Test.YtooifamckccadaaDn
namespace Go.Proofs.Ytooifamckccadaa
open Go.ChangeShapes Go.WideShapes Go.ChangeAt Go.RowKit
set_option maxRecDepth 20000
set_option linter.unusedVariables false
set_option linter.unusedSimpArgs false
theorem bk_apart {w w' : World} {g b : Nat} {cs : Array Value} (h : Bk w b cs) (hg : w.grownBy w' (some g)) (hne : b ≠ g) : Bk w' b cs := by
  obtain ⟨t, e⟩ := h
  exact ⟨t, (hg.block b (bk_lt ⟨t, e⟩) (fun e => by injection e with e; exact hne e)).trans e⟩
def RunDP (w0 : World) (g B : Nat) (C : Option Addr) (cap : Nat) (bl : List Int) (e : Ending) (w' : World) : Prop :=
  ∃ (l : List Seg) (A : Option Addr) (c : Nat) (f n x y : Int) (on : List Int) (Ao : Option Addr) (co : Nat), e = .returned (.tuple #[.agg #[.slice A l.length c], .int .i64 f, .int .i64 n, .agg #[.int .i64 x, .int .i64 y], .slice Ao on.length co]) ∧ l.length ≤ 25 ∧ on.length ≤ 26 ∧ w'.ownsRow (w0.heap.size + 2) 39 7 (.slice A l.length c) l.length (l.flatMap eSegment) ∧ w'.ownsRow (w0.heap.size + 2) 2 1 (.slice Ao on.length co) on.length (ints on) ∧ DS w0 w' g B C cap bl
theorem ret_rund {fn : Func} {t u v s p : Tmp} {a : Act} {w : World} {R : Ending → World → Prop} {b d : Nat} {A Ao : Option Addr} {k c ko co : Nat} {f n x y : Int} (hres : fn.results = #[.cell t 26, .tmp u, .tmp v, .cell s 29, .tmp p]) (ha : a.tmps.getD t undef = .pointer (some ⟨b, 0, none⟩)) (hu : a.tmps.getD u undef = .int .i64 f) (hv : a.tmps.getD v undef = .int .i64 n) (hs : a.tmps.getD s undef = .pointer (some ⟨d, 0, none⟩)) (hp : a.tmps.getD p undef = .slice Ao ko co) (hd : a.defers = []) (h : Bk w b #[.slice A k c]) (h2 : Bk w d #[.int .i64 x, .int .i64 y]) (hR : R (.returned (.tuple #[.agg #[.slice A k c], .int .i64 f, .int .i64 n, .agg #[.int .i64 x, .int .i64 y], .slice Ao ko co])) w) : bodyPost Try.prog fn R .ret a w := by
  refine bodyPost_ret ?_ hd hR
  obtain ⟨c0, _, _⟩ := bk1 h
  obtain ⟨e0, e1, ef, es⟩ := bk2 h2
  simp only [Array.getD_eq_getD_getElem?] at ha hu hv hs hp
  simp [results, hres, ha, hu, hv, hs, hp, go_sem, *]
set_option maxHeartbeats 2000000 in
theorem l08DrawRun_any (w0 : World) (g B : Nat) (C : Option Addr) (cap : Nat) (bl : List Int) (h : DS w0 w0 g B C cap bl) :
   Calls Try.prog 127 #[.pointer (some ⟨g, 0, none⟩)] w0 (RunDP w0 g B C cap bl) := by
  have hg0 := h.size.2
  have H := Lib.hid ((h.alloc (.cells #[.slice none 0 0] 26)).alloc (.cells #[.int .i64 0, .int .i64 0] 29))
  have K0 := Lib.hid (bk_alloc (bk_new w0 #[.slice none 0 0] 26) (.cells #[.int .i64 0, .int .i64 0] 29))
  have I0 : Hid (Bk ((w0.alloc (.cells #[.slice none 0 0] 26)).alloc (.cells #[.int .i64 0, .int .i64 0] 29)) (w0.heap.size + 1) #[.int .i64 0, .int .i64 0]) := Lib.hid (by simpa using bk_new (w0.alloc (.cells #[.slice none 0 0] 26)) #[.int .i64 0, .int .i64 0] 29)
  clear h
  go_enter Try.func127, Try.ntmps127
  go_wp2_with fail
  refine (l06DrawRun_any _ g B C cap bl H.out.again).mono ?_
  rintro e w1 ⟨l, A, c, f, n, rfl, hl, o1, d1⟩
  have O1 := Lib.hid (own_more o1 (show w0.heap.size + 2 ≤ ((w0.alloc (.cells #[.slice none 0 0] 26)).alloc (.cells #[.int .i64 0, .int .i64 0] 29)).heap.size + 1 by simp))
  have K1 := Lib.hid (bk_keep K0.out d1.2.2.1 hg0)
  have I1 := Lib.hid (bk_keep I0.out d1.2.2.1 (by omega))
  have D1 := Lib.hid (H.out.join d1)
  have hz1 := bk_lt I1.out
  clear o1 d1 K0 I0 H
  have O2 := Lib.hid (O1.out.alloc (.cells #[.slice A l.length c] 26))
  have K2 := Lib.hid (bk_alloc K1.out (.cells #[.slice A l.length c] 26))
  have I2 := Lib.hid (bk_alloc I1.out (.cells #[.slice A l.length c] 26))
  have L2 := Lib.hid (bk_new w1 #[.slice A l.length c] 26)
  have D2 := Lib.hid (D1.out.alloc (.cells #[.slice A l.length c] 26))
  clear O1 K1 I1 D1
  go_wp2_with fail
  have hzz : w1.heap.size < (w1.alloc (.cells #[.slice A l.length c] 26)).heap.size := by simp
  generalize hW : w1.alloc (.cells #[.slice A l.length c] 26) = W at *
  clear hW
  have hne : w1.heap.size ≠ w0.heap.size := by omega
  have hne2 : w0.heap.size ≠ w1.heap.size := by omega
  have hne3 : w1.heap.size ≠ w0.heap.size + 1 := by omega
  have hne4 : w0.heap.size + 1 ≠ w1.heap.size := by omega
  have hne5 : w0.heap.size + 1 ≠ w0.heap.size := by omega
  have hne6 : w0.heap.size ≠ w0.heap.size + 1 := by omega
  have hgb : g < w1.heap.size := by omega
  generalize w1.heap.size = bb at *
  obtain ⟨s0, sf, ss⟩ := bk1 L2.out
  obtain ⟨r0, rf, rs⟩ := bk1 K2.out
  obtain ⟨q0, q1, qf, qs⟩ := bk2 I2.out
  go_region_held3 (fun w' => w'.cell? ⟨bb, 0, none⟩ = some (.slice A l.length c)) (first | assumption | (simp [*, World.cell?_alloc_past, World.cell?_setCell_far])) (first | (go_at_call 116; refine (l06Draw_any _ g B C cap bl D2.out.drew.again).mono ?_; rintro e w3 ⟨x, y, rfl, d3⟩; have g3 : W.grownBy w3 (some g) := (by exact ⟨d3.2.2.1.os, d3.2.2.1.tape, d3.2.2.1.output, d3.2.2.1.size, d3.2.2.1.block⟩); have O3 := Lib.hid (DS.own O2.out g3 (by omega)); have K3 := Lib.hid (bk_keep K2.out g3 hg0); have I3 := Lib.hid (bk_keep I2.out g3 (by omega)); have L3 := Lib.hid (bk_keep L2.out g3 hgb); have D3 := Lib.hid (D2.out.drew.join d3); clear d3 g3; obtain ⟨s0, sf, ss⟩ := bk1 L3.out; obtain ⟨r0, rf, rs⟩ := bk1 K3.out; obtain ⟨q0, q1, qf, qs⟩ := bk2 I3.out) | (go_at_call 75; refine (l08DrawDevices_any w3 g B C cap bl l hl A c (w0.heap.size + 2) (by omega) O3.out D3.out.again).mono ?_; rintro e w4 ⟨on, Ao, co, rfl, hon, o4, d4⟩; have hz3 := D3.out.size.1; have O4 := Lib.hid (DS.own O3.out d4.2.2.1 (by omega)); have K4 := Lib.hid (bk_keep K3.out d4.2.2.1 hg0); have I4 := Lib.hid (bk_keep I3.out d4.2.2.1 (by omega)); have L4 := Lib.hid (bk_keep L3.out d4.2.2.1 hgb); have P4 := Lib.hid (own_more o4 (show w0.heap.size + 2 ≤ w3.heap.size + 1 by have := bk_lt I3.out; omega)); have D4 := Lib.hid (D3.out.join d4); clear d4 o4; obtain ⟨s0, sf, ss⟩ := bk1 L4.out; obtain ⟨r0, rf, rs⟩ := bk1 K4.out; obtain ⟨q0, q1, qf, qs⟩ := bk2 I4.out))
  all_goals (
    go_wp2
    (try simp only [Exit.inBlock, Exit.then])
    refine ret_rund rfl rfl rfl rfl rfl rfl rfl (bk_other (bk_other (bk_set K4.out 0 _ _ rfl) hne5 0 _) hne5 1 _) (bk_fill2 (bk_other I4.out hne6 0 _) _ _) ?_
    have e1 : ∀ q, (Value.slice A l.length c).ownBlock = some q → w0.heap.size + 2 ≤ q := fun q hq => (own_lt O4.out q hq).1
    have e2 : ∀ q, (Value.slice Ao on.length co).ownBlock = some q → w0.heap.size + 2 ≤ q := fun q hq => (own_lt P4.out q hq).1
    exact ⟨l, A, c, f, n, x, y, on, Ao, co, rfl, hl, hon,
      own_set (own_set (own_set O4.out (fun q => by have := e1 _ q; omega) 0 _) (fun q => by have := e1 _ q; omega) 0 _) (fun q => by have := e1 _ q; omega) 1 _,
      own_set (own_set (own_set P4.out (fun q => by have := e2 _ q; omega) 0 _) (fun q => by have := e2 _ q; omega) 0 _) (fun q => by have := e2 _ q; omega) 1 _,
      ((D4.out.set (Nat.le_refl _) 0 _).set (by omega) 0 _).set (by omega) 1 _⟩)
def AlongP (w0 : World) (e : Ending) (w' : World) : Prop :=
  ∃ (l : List Seg) (A : Option Addr) (c : Nat) (f n x y : Int) (on : List Int) (Ao : Option Addr) (co : Nat), e = .returned (.tuple #[.agg #[.slice A l.length c], .int .i64 f, .int .i64 n, .agg #[.int .i64 x, .int .i64 y], .slice Ao on.length co]) ∧ l.length ≤ 25 ∧ on.length ≤ 26 ∧ l.length ≤ c ∧ on.length ≤ co ∧ Rd w' w'.heap.size A (l.flatMap eSegment) ∧ Rd w' w'.heap.size Ao (ints on) ∧ Below w0.heap.size w0 w'
set_option maxHeartbeats 1000000 in
theorem drawAlong_any (bl : List Int) (hbl : isU8 bl) (hn : bl.length ≤ 4096) (C : Option Addr) (cap : Nat) (w0 : World) (hr : Rd w0 w0.heap.size C (bytesU bl)) :
   Calls Try.prog 61 #[.slice C bl.length cap] w0 (AlongP w0) := by
  have hra := (hr.alloc (Nat.le_refl _) (.cells #[.slice none 0 0] 26)).alloc (by simp) (.cells #[.int .i64 0, .int .i64 0] 29)
  have HF : Hid (Calls Try.prog 73 #[.slice C bl.length cap] ((w0.alloc (.cells #[.slice none 0 0] 26)).alloc (.cells #[.int .i64 0, .int .i64 0] 29)) (fun e w' => ∃ g : Nat, w0.heap.size + 2 ≤ g ∧ e = .returned (.pointer (some ⟨g, 0, none⟩)) ∧ Src w' g C bl.length cap ∧ Below (w0.heap.size + 2) ((w0.alloc (.cells #[.slice none 0 0] 26)).alloc (.cells #[.int .i64 0, .int .i64 0] 29)) w' ∧ g < w'.heap.size)) := Lib.hid
    ((l01From_any bl hbl hn C w0.heap.size cap _ hra (by simp; omega)).mono fun e w' ⟨a, b, c, d⟩ => ⟨_, by simp, a, b, by simpa using c, d⟩)
  have Hr := Lib.hid hra
  have K0 := Lib.hid (bk_alloc (bk_new w0 #[.slice none 0 0] 26) (.cells #[.int .i64 0, .int .i64 0] 29))
  have I0 : Hid (Bk ((w0.alloc (.cells #[.slice none 0 0] 26)).alloc (.cells #[.int .i64 0, .int .i64 0] 29)) (w0.heap.size + 1) #[.int .i64 0, .int .i64 0]) := Lib.hid (by simpa using bk_new (w0.alloc (.cells #[.slice none 0 0] 26)) #[.int .i64 0, .int .i64 0] 29)
  have Ba := Lib.hid (((Below.refl w0.heap.size w0).alloc (Nat.le_refl _) (.cells #[.slice none 0 0] 26)).alloc (by simp) (.cells #[.int .i64 0, .int .i64 0] 29))
  have Hbl := Lib.hid hbl
  clear hr hbl hra
  go_enter Try.func61, Try.ntmps61
  go_wp2_with fail
  refine HF.out.mono ?_
  rintro e w1 ⟨g, hg, rfl, hs, hb, hz⟩
  have D1 := Lib.hid (DS.start (Hr.out.below hb (by omega)) hs (by omega) Hbl.out hn)
  have K1 := Lib.hid (bk_below K0.out hb (by omega))
  have I1 := Lib.hid (bk_below I0.out hb (by omega))
  have B1 := Lib.hid (Ba.out.trans (hb.mono (by omega)))
  clear hs HF Hr hb K0 I0 Ba
  go_wp2_with fail
  refine (l08DrawRun_any w1 g _ C cap bl D1.out).mono ?_
  rintro e w2 ⟨l, A, c, f, n, x, y, on, Ao, co, rfl, hl, hon, ol, oo, d2⟩
  have hne0 : w0.heap.size ≠ g := by omega
  have hne1 : w0.heap.size + 1 ≠ g := by omega
  have hne5 : w0.heap.size + 1 ≠ w0.heap.size := by omega
  have hne6 : w0.heap.size ≠ w0.heap.size + 1 := by omega
  have K2 := Lib.hid (bk_apart K1.out d2.2.2.1 hne0)
  have I2 := Lib.hid (bk_apart I1.out d2.2.2.1 hne1)
  have hcl := own_cap ol
  have hco := own_cap oo
  have O2 := Lib.hid ol
  have P2 := Lib.hid oo
  have hz1 := bk_lt I1.out
  have B2 := Lib.hid (B1.out.trans (below_of_grownBy (B := w0.heap.size) d2.2.2.1 (by omega) (fun k hk => by injection hk with hk; omega)))
  clear ol oo d2 K1 I1 B1 D1
  obtain ⟨r0, rf, rs⟩ := bk1 K2.out
  obtain ⟨q0, q1, qf, qs⟩ := bk2 I2.out
  go_wp2
  (try simp only [Exit.inBlock, Exit.then])
  refine ret_rund rfl rfl rfl rfl rfl rfl rfl (bk_other (bk_other (bk_set K2.out 0 _ _ rfl) hne5 0 _) hne5 1 _) (bk_fill2 (bk_other I2.out hne6 0 _) _ _) ?_
  have e1 : ∀ q, (Value.slice A l.length c).ownBlock = some q → w1.heap.size + 2 ≤ q := fun q hq => (own_lt O2.out q hq).1
  have e2 : ∀ q, (Value.slice Ao on.length co).ownBlock = some q → w1.heap.size + 2 ≤ q := fun q hq => (own_lt P2.out q hq).1
  exact ⟨l, A, c, f, n, x, y, on, Ao, co, rfl, hl, hon, hcl, hco,
    Rd.of_own (own_set (own_set (own_set O2.out (fun q => by have := e1 _ q; omega) 0 _) (fun q => by have := e1 _ q; omega) 0 _) (fun q => by have := e1 _ q; omega) 1 _),
    Rd.of_own (own_set (own_set (own_set P2.out (fun q => by have := e2 _ q; omega) 0 _) (fun q => by have := e2 _ q; omega) 0 _) (fun q => by have := e2 _ q; omega) 1 _),
    ((B2.out.setCell (Nat.le_refl _) _).setCell (show w0.heap.size ≤ w0.heap.size + 1 by omega) _).setCell (show w0.heap.size ≤ w0.heap.size + 1 by omega) _⟩
end Go.Proofs.Ytooifamckccadaa
