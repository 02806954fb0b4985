/- The draw of the law on trains that are caught. -/
import Derived.Test.YtooifamckccadaaQd
import Derived.Test.YtooifamckccadaaHs
import Derived.Test.YtooifamckccadaaDo
namespace Go.Proofs.Ytooifamckccadaa
open Go.ChangeShapes Go.WideShapes Go.ChangeAt Go.RowKit
set_option maxRecDepth 20000
set_option linter.unusedVariables false
set_option linter.unusedSimpArgs false
theorem ret_arr5 {fn : Func} {t m u s p : Tmp} {a : Act} {w : World} {R : Ending → World → Prop} {b d : Nat} {A Ao Am : Option Addr} {k c ko co km cm : Nat} {f x y : Int} (hres : fn.results = #[.cell t 26, .tmp m, .tmp u, .cell s 29, .tmp p]) (ha : a.tmps.getD t undef = .pointer (some ⟨b, 0, none⟩)) (hm : a.tmps.getD m undef = .slice Am km cm) (hu : a.tmps.getD u undef = .int .i64 f) (hs : a.tmps.getD s undef = .pointer (some ⟨d, 0, none⟩)) (hp : a.tmps.getD p undef = .slice Ao ko co) (hd : a.defers = []) (h : Bk w b #[.slice A k c]) (h2 : Bk w d #[.int .i64 x, .int .i64 y]) (hR : R (.returned (.tuple #[.agg #[.slice A k c], .slice Am km cm, .int .i64 f, .agg #[.int .i64 x, .int .i64 y], .slice Ao ko co])) w) : bodyPost Try.prog fn R .ret a w := by
  refine bodyPost_ret ?_ hd hR
  obtain ⟨c0, _, _⟩ := bk1 h
  obtain ⟨e0, e1, ef, es⟩ := bk2 h2
  simp only [Array.getD_eq_getD_getElem?] at ha hu hs hp hm
  simp [results, hres, ha, hu, hs, hp, hm, go_sem, *]
set_option maxHeartbeats 2000000 in
theorem drawArr_any (bl : List Int) (hbl : isU8 bl) (hn : bl.length ≤ 4096) (C : Option Addr) (cap : Nat) (w0 : World) (hr : Rd w0 w0.heap.size C (bytesU bl)) :
   Calls Try.prog 19 #[.slice C bl.length cap] w0 (ArrP w0) := by
  have hra := (hr.alloc (Nat.le_refl _) (.cells #[.slice none 0 0] 26)).alloc (by simp) (.cells #[.int .i64 0, .int .i64 0] 29)
  have HF : Hid (Calls Try.prog 73 #[.slice C bl.length cap] ((w0.alloc (.cells #[.slice none 0 0] 26)).alloc (.cells #[.int .i64 0, .int .i64 0] 29)) (fun e w' => ∃ g : Nat, w0.heap.size + 2 ≤ g ∧ e = .returned (.pointer (some ⟨g, 0, none⟩)) ∧ Src w' g C bl.length cap ∧ Below (w0.heap.size + 2) ((w0.alloc (.cells #[.slice none 0 0] 26)).alloc (.cells #[.int .i64 0, .int .i64 0] 29)) w' ∧ g < w'.heap.size)) := Lib.hid
    ((l01From_any bl hbl hn C w0.heap.size cap _ hra (by simp; omega)).mono fun e w' ⟨a, b, c, d⟩ => ⟨_, by simp, a, b, by simpa using c, d⟩)
  have Hr := Lib.hid hra
  have K0 := Lib.hid (bk_alloc (bk_new w0 #[.slice none 0 0] 26) (.cells #[.int .i64 0, .int .i64 0] 29))
  have I0 : Hid (Bk ((w0.alloc (.cells #[.slice none 0 0] 26)).alloc (.cells #[.int .i64 0, .int .i64 0] 29)) (w0.heap.size + 1) #[.int .i64 0, .int .i64 0]) := Lib.hid (by simpa using bk_new (w0.alloc (.cells #[.slice none 0 0] 26)) #[.int .i64 0, .int .i64 0] 29)
  have Ba := Lib.hid (((Below.refl w0.heap.size w0).alloc (Nat.le_refl _) (.cells #[.slice none 0 0] 26)).alloc (by simp) (.cells #[.int .i64 0, .int .i64 0] 29))
  have Hbl := Lib.hid hbl
  clear hr hbl hra
  go_enter Try.func19, Try.ntmps19
  go_wp2_with fail
  refine HF.out.mono ?_
  rintro e w1 ⟨g, hg, rfl, hs, hb, hz⟩
  have D1 := Lib.hid (DS.start (Hr.out.below hb (by omega)) hs (by omega) Hbl.out hn)
  have K1 := Lib.hid (bk_below K0.out hb (by omega))
  have I1 := Lib.hid (bk_below I0.out hb (by omega))
  have B1 := Lib.hid (Ba.out.trans (hb.mono (by omega)))
  clear hs HF Hr hb K0 I0 Ba
  go_wp2_with fail
  refine (l07DrawEntry_any w1 g _ C cap bl D1.out).mono ?_
  rintro e w2 ⟨l, A, c, fs, Ao, co, f, x, y, rfl, hl, hfs, ol, oo, d2⟩
  have hne0 : w0.heap.size ≠ g := by omega
  have hne1 : w0.heap.size + 1 ≠ g := by omega
  have hne5 : w0.heap.size + 1 ≠ w0.heap.size := by omega
  have hne6 : w0.heap.size ≠ w0.heap.size + 1 := by omega
  have hz1 := bk_lt I1.out
  have z12 := d2.size.1
  have K3 := Lib.hid (bk_alloc (bk_alloc (bk_apart K1.out d2.2.2.1 hne0) (.cells #[.slice A l.length c] 26)) (.cells #[.int .i64 x, .int .i64 y] 29))
  have I3 := Lib.hid (bk_alloc (bk_alloc (bk_apart I1.out d2.2.2.1 hne1) (.cells #[.slice A l.length c] 26)) (.cells #[.int .i64 x, .int .i64 y] 29))
  have L3 := Lib.hid (bk_alloc (bk_new w2 #[.slice A l.length c] 26) (.cells #[.int .i64 x, .int .i64 y] 29))
  have M3 : Hid (Bk ((w2.alloc (.cells #[.slice A l.length c] 26)).alloc (.cells #[.int .i64 x, .int .i64 y] 29)) (w2.heap.size + 1) #[.int .i64 x, .int .i64 y]) := Lib.hid (by simpa using bk_new (w2.alloc (.cells #[.slice A l.length c] 26)) #[.int .i64 x, .int .i64 y] 29)
  have O3 := Lib.hid ((ol.alloc (.cells #[.slice A l.length c] 26)).alloc (.cells #[.int .i64 x, .int .i64 y] 29))
  have P3 := Lib.hid ((oo.alloc (.cells #[.slice A l.length c] 26)).alloc (.cells #[.int .i64 x, .int .i64 y] 29))
  have D3 := Lib.hid ((d2.alloc (.cells #[.slice A l.length c] 26)).alloc (.cells #[.int .i64 x, .int .i64 y] 29))
  have hwz : w2.heap.size + 1 < ((w2.alloc (.cells #[.slice A l.length c] 26)).alloc (.cells #[.int .i64 x, .int .i64 y] 29)).heap.size := by simp
  clear ol oo d2 K1 I1 D1
  go_wp2_with fail
  generalize hW : (w2.alloc (.cells #[.slice A l.length c] 26)).alloc (.cells #[.int .i64 x, .int .i64 y] 29) = W at *
  clear hW
  have hb0 : w2.heap.size ≠ w0.heap.size := by omega
  have hb1 : w0.heap.size ≠ w2.heap.size := by omega
  have hb2 : w2.heap.size ≠ w0.heap.size + 1 := by omega
  have hb3 : w0.heap.size + 1 ≠ w2.heap.size := by omega
  have hb4 : w2.heap.size + 1 ≠ w0.heap.size := by omega
  have hb5 : w0.heap.size ≠ w2.heap.size + 1 := by omega
  have hgb : g < w2.heap.size := by omega
  have hgc : g < w2.heap.size + 1 := by omega
  have hbw : w1.heap.size + 2 ≤ W.heap.size := by omega
  generalize w2.heap.size = bb at *
  obtain ⟨s0, sf, ss⟩ := bk1 L3.out
  obtain ⟨r0, rf, rs⟩ := bk1 K3.out
  obtain ⟨q0, q1, qf, qs⟩ := bk2 I3.out
  obtain ⟨p0, p1, pf, ps⟩ := bk2 M3.out
  go_region_held3 (fun w' => w'.cell? ⟨bb, 0, none⟩ = some (.slice A l.length c) ∧ w'.cell? ⟨bb + 1, 0, none⟩ = some (.int .i64 x) ∧ w'.cell? ⟨bb + 1, 1, none⟩ = some (.int .i64 y)) (first | assumption | (simp [*, World.cell?_alloc_past, World.cell?_setCell_far])) (first | (go_at_call 75; refine (l08DrawDevices_any _ g _ C cap bl l hl A c (w1.heap.size + 2) (by omega) (by exact own_drew O3.out) (by exact D3.out.drew.again)).mono ?_; rintro e w4 ⟨on, Am, cm, rfl, hon, om, d4⟩; have g4 : W.grownBy w4 (some g) := (by exact ⟨d4.2.2.1.os, d4.2.2.1.tape, d4.2.2.1.output, d4.2.2.1.size, d4.2.2.1.block⟩); have Q4 := Lib.hid (show w4.ownsRow (w1.heap.size + 2) 2 1 (.slice Am on.length cm) on.length (ints on) from own_more om (by show w1.heap.size + 2 ≤ W.heap.size + 1; omega)); have O4 := Lib.hid (DS.own O3.out g4 (by omega)); have P4 := Lib.hid (DS.own P3.out g4 (by omega)); have K4 := Lib.hid (bk_apart K3.out g4 hne0); have I4 := Lib.hid (bk_apart I3.out g4 hne1); have L4 := Lib.hid (bk_keep L3.out g4 hgb); have M4 := Lib.hid (bk_keep M3.out g4 hgc); have D4 := Lib.hid (D3.out.drew.join d4); clear d4 om g4; obtain ⟨s0, sf, ss⟩ := bk1 L4.out; obtain ⟨r0, rf, rs⟩ := bk1 K4.out; obtain ⟨q0, q1, qf, qs⟩ := bk2 I4.out; obtain ⟨p0, p1, pf, ps⟩ := bk2 M4.out))
  all_goals (
    go_wp2
    (try simp only [Exit.inBlock, Exit.then])
    refine ret_arr5 rfl rfl rfl rfl rfl rfl rfl (bk_other (bk_other (bk_set K4.out 0 _ _ rfl) hne5 0 _) hne5 1 _) (bk_fill2 (bk_other I4.out hne6 0 _) _ _) ?_
    have e1 : ∀ q, (Value.slice A l.length c).ownBlock = some q → w1.heap.size + 2 ≤ q := fun q hq => (own_lt O4.out q hq).1
    have e2 : ∀ q, (Value.slice Ao fs.length co).ownBlock = some q → w1.heap.size + 2 ≤ q := fun q hq => (own_lt P4.out q hq).1
    have e3 : ∀ q, (Value.slice Am on.length cm).ownBlock = some q → w1.heap.size + 2 ≤ q := fun q hq => (own_lt Q4.out q hq).1
    have B4 := B1.out.trans (below_of_grownBy (B := w0.heap.size) D4.out.2.2.1 (by omega) (fun k hk => by injection hk with hk; omega))
    exact ⟨l, A, c, fs, Ao, co, f, x, y, on, Am, cm, rfl, hl, hfs, hon, own_cap P4.out, by have := own_capmax P4.out; unfold maxLen at this; omega,
      Rd.of_own (own_set (own_set (own_set O4.out (fun q => by have := e1 _ q; omega) 0 _) (fun q => by have := e1 _ q; omega) 0 _) (fun q => by have := e1 _ q; omega) 1 _),
      Rd.of_own (own_set (own_set (own_set P4.out (fun q => by have := e2 _ q; omega) 0 _) (fun q => by have := e2 _ q; omega) 0 _) (fun q => by have := e2 _ q; omega) 1 _),
      Rd.of_own (own_set (own_set (own_set Q4.out (fun q => by have := e3 _ q; omega) 0 _) (fun q => by have := e3 _ q; omega) 0 _) (fun q => by have := e3 _ q; omega) 1 _),
      ((B4.setCell (Nat.le_refl _) _).setCell (show w0.heap.size ≤ w0.heap.size + 1 by omega) _).setCell (show w0.heap.size ≤ w0.heap.size + 1 by omega) _⟩)
end Go.Proofs.Ytooifamckccadaa
