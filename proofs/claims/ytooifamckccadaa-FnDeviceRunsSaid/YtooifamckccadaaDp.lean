/- Draws of limits. -/
import Derived.Test.YtooifamckccadaaDo
namespace Go.Proofs.Ytooifamckccadaa
open Go.ChangeShapes Go.WideShapes Go.ChangeAt Go.RowKit
set_option maxRecDepth 20000
set_option linter.unusedVariables false
set_option linter.unusedSimpArgs false
set_option maxHeartbeats 2000000 in
theorem l09DrawLimits_any (w0 : World) (g B : Nat) (C : Option Addr) (cap : Nat) (bl : List Int) (k0 : Nat) (hl : k0 ≤ 25) (Al : Option Addr) (cl : Nat) (h : DS w0 w0 g B C cap bl) :
   Calls Try.prog 129 #[.pointer (some ⟨g, 0, none⟩), .agg #[.slice Al k0 cl]] w0 (DevP w0 g B C cap bl) := by
  obtain ⟨i0, hi0, hz0, hz1, hz2⟩ := info_parts infoInt64
  have hg0 := h.size.2
  have H := Lib.hid ((h.alloc (.cells #[.slice Al k0 cl] 26)).alloc (.cells #[] 2))
  have K0 := Lib.hid (bk_alloc (bk_new w0 #[.slice Al k0 cl] 26) (.cells #[] 2))
  have O0 : Hid (((w0.alloc (.cells #[.slice Al k0 cl] 26)).alloc (.cells #[] 2)).ownsRow (w0.heap.size + 1) 2 1 (.slice (some ⟨w0.heap.size + 1, 0, none⟩) 0 0) 0 []) := Lib.hid (by
    have := World.ownsRow_made (base := w0.heap.size + 1) (e := 2) (size := 1) (w0.alloc (.cells #[.slice Al k0 cl] 26)) #[] 0 (by simp) (by simp [maxLen]) rfl
    simpa using this)
  clear h
  go_enter Try.func129, Try.ntmps129
  go_wp2_with fail
  go_loopw [5, 6] (fun v i wr => ∃ (on : List Int) (k : Nat), k ≤ k0 ∧ i = .int .i64 k ∧ on.length ≤ k ∧ wr.ownsRow (w0.heap.size + 1) 2 1 v on.length (ints on) ∧ Bk wr w0.heap.size #[.slice Al k0 cl] ∧ DS w0 wr g B C cap bl) (fun _ i _ => k0 - (intOf i).toNat)
  case atStart => exact ⟨[], 0, Nat.zero_le _, rfl, by simp, O0.out, K0.out, H.out⟩
  case round =>
    clear O0 K0 H
    obtain ⟨on, k, hk, rfl, hon, ho, hbk, hd⟩ := hrel
    have hsz := hd.size.1
    have Ho := Lib.hid ho
    have Hk := Lib.hid hbk
    have Hd := Lib.hid hd
    have hbz := bk_lt hbk
    obtain ⟨r0, rf, rs⟩ := bk1 hbk
    clear ho hbk hd
    have hln : on.length ≤ 1048576 := by omega
    by_cases hlt : k < k0
    · go_wp2_with fail
      refine (next_ds Hd.out 20000).mono ?_
      rintro e w2 ⟨x, rfl, x0, x1, d2, g2⟩
      have O2 := Lib.hid (DS.own Ho.out g2 (by omega))
      have K2 := Lib.hid (bk_keep Hk.out g2 hg0)
      have D2 := Lib.hid d2
      have hs2 := d2.size.1
      have hb2 := bk_lt K2.out
      clear d2 g2 r0 rf rs Ho Hk Hd
      have hx : x ≤ 20000 := by omega
      clear x1
      have hw : IntKind.i64.wrap (15000 + x) = 15000 + x := IntWalk.i64_in _ (by omega)
      go_wp2_with (at_builtin; refine wpList_append_int rfl (.tmp 15) (.tmp 19) 27 rfl (w0.heap.size + 1) 2 i0 Try.underlying27 hi0 hz0 hz1 hz2 _ _ on (by rfl) O2.out (15000 + x) (by rfl) hln (by omega) ?_; intro v5 w5 own5 hb5 hz5; have O5 := Lib.hid own5; have K5 := Lib.hid (bk_below K2.out hb5 (by omega)); have D5 := Lib.hid (D2.out.below (hb5.mono (by omega))); clear own5)
      go_roundw
      case rel => exact ⟨on ++ [15000 + x], k + 1, by omega, by go_num, by simp; omega, by simpa using O5.out, K5.out, D5.out⟩
      case measure => simp [intOf]; omega
    · have hon2 : on.length ≤ 25 := by omega
      go_wp2_with fail
      refine (next_ds Hd.out 30).mono ?_
      rintro e w2 ⟨x, rfl, x0, x1, d2, g2⟩
      have O2 := Lib.hid (DS.own Ho.out g2 (by omega))
      have K2 := Lib.hid (bk_keep Hk.out g2 hg0)
      have D2 := Lib.hid d2
      have hs2 := d2.size.1
      have hb2 := bk_lt K2.out
      clear d2 g2 r0 rf rs Ho Hk Hd x1
      rcases (show x = 0 ∨ x = 1 ∨ (x ≠ 0 ∧ x ≠ 1) by omega) with rfl | rfl | ⟨n0, n1⟩
      · go_wp2_with (at_builtin; refine wpList_append_int rfl (.tmp 25) (.tmp 26) 27 rfl (w0.heap.size + 1) 2 i0 Try.underlying27 hi0 hz0 hz1 hz2 _ _ on (by rfl) O2.out 0 (by rfl) hln (by omega) ?_; intro v5 w5 own5 hb5 hz5; have O5 := Lib.hid own5; have D5 := Lib.hid (D2.out.below (hb5.mono (by omega))); clear own5)
        obtain ⟨A5, c5, rfl⟩ := own_val O5.out
        go_ret
        exact ⟨on ++ [0], A5, c5, by simp, by simp; omega, by simpa using O5.out, D5.out⟩
      · obtain ⟨A5, c5, rfl⟩ := own_val O2.out
        by_cases hp : 0 < on.length
        · have hpi : (0 : Int) < (on.length : Int) := by omega
          go_wp2_with fail
          refine (pick_ds D2.out [-1, 0, 100000, 100001] 4 _ (by rfl) _ (by rfl) rfl (by omega) (by omega)).mono ?_
          rintro e w3 ⟨v, rfl, hv, d3, g3⟩
          have O3 := Lib.hid (DS.own (O2.out.alloc _) g3 (by omega))
          have D3 := Lib.hid d3
          clear d3 g3 hv O2 K2 D2
          obtain ⟨gb, rfl, hgb, hgb2⟩ := own_form O3.out hp
          have ht := List.getElem?_eq_getElem hp
          generalize on[0] = u at ht
          have cv : w3.cell? ⟨gb, 0, none⟩ = some (.int .i64 u) := by
            rw [O3.out.cellAt 0 (by omega)]
            simp [ints, ht]
          have fv := O3.out.frozenAt
          clear ht
          go_wp2
          go_ret
          have o7 := World.ownsRow.stored O3.out 0 (.int .i64 v)
          have hset : (ints on).set 0 (.int .i64 v) = ints (on.set 0 v) := by simp [ints, List.map_set]
          have o8 := o7.1
          rw [hset] at o8
          exact ⟨on.set 0 v, some ⟨gb, 0, none⟩, c5, by rw [List.length_set]; rfl, by rw [List.length_set]; omega, by rw [List.length_set]; exact o8, D3.out.below (below_of_grownBy (B := w0.heap.size) o7.2 D3.out.size.1 (fun k e => by injection e with e; omega))⟩
        · have hpd : decide (0 < on.length) = false := by simpa using hp
          have hpi : ¬ (0 : Int) < (on.length : Int) := by omega
          go_wp2
          go_ret
          exact ⟨on, A5, c5, rfl, by omega, O2.out, D2.out⟩
      · have m0 : (x == 0) = false := by rw [beq_eq_false_iff_ne]; exact n0
        have m1 : (x == 1) = false := by rw [beq_eq_false_iff_ne]; exact n1
        obtain ⟨A5, c5, rfl⟩ := own_val O2.out
        go_wp2
        go_ret
        exact ⟨on, A5, c5, rfl, by omega, O2.out, D2.out⟩
def OverP (w0 : World) (e : Ending) (w' : World) : Prop :=
  ∃ (l : List Seg) (A : Option Addr) (c : Nat) (lim : List Int) (Am : Option Addr) (cm : Nat) (f n x y : Int) (on : List Int) (Ao : Option Addr) (co : Nat), e = .returned (.tuple #[.agg #[.slice A l.length c], .slice Am lim.length cm, .int .i64 f, .int .i64 n, .agg #[.int .i64 x, .int .i64 y], .slice Ao on.length co]) ∧ l.length ≤ 25 ∧ lim.length ≤ 26 ∧ on.length ≤ 26 ∧ Rd w' w'.heap.size A (l.flatMap eSegment) ∧ Rd w' w'.heap.size Am (ints lim) ∧ Rd w' w'.heap.size Ao (ints on) ∧ Below w0.heap.size w0 w'
theorem ret_over {fn : Func} {t m u v s p : Tmp} {a : Act} {w : World} {R : Ending → World → Prop} {b d : Nat} {A Ao Am : Option Addr} {k c ko co km cm : Nat} {f n x y : Int} (hres : fn.results = #[.cell t 26, .tmp m, .tmp u, .tmp v, .cell s 29, .tmp p]) (ha : a.tmps.getD t undef = .pointer (some ⟨b, 0, none⟩)) (hm : a.tmps.getD m undef = .slice Am km cm) (hu : a.tmps.getD u undef = .int .i64 f) (hv : a.tmps.getD v undef = .int .i64 n) (hs : a.tmps.getD s undef = .pointer (some ⟨d, 0, none⟩)) (hp : a.tmps.getD p undef = .slice Ao ko co) (hd : a.defers = []) (h : Bk w b #[.slice A k c]) (h2 : Bk w d #[.int .i64 x, .int .i64 y]) (hR : R (.returned (.tuple #[.agg #[.slice A k c], .slice Am km cm, .int .i64 f, .int .i64 n, .agg #[.int .i64 x, .int .i64 y], .slice Ao ko co])) w) : bodyPost Try.prog fn R .ret a w := by
  refine bodyPost_ret ?_ hd hR
  obtain ⟨c0, _, _⟩ := bk1 h
  obtain ⟨e0, e1, ef, es⟩ := bk2 h2
  simp only [Array.getD_eq_getD_getElem?] at ha hu hv hs hp hm
  simp [results, hres, ha, hu, hv, hs, hp, hm, go_sem, *]
set_option maxHeartbeats 2000000 in
theorem drawOver_any (bl : List Int) (hbl : isU8 bl) (hn : bl.length ≤ 4096) (C : Option Addr) (cap : Nat) (w0 : World) (hr : Rd w0 w0.heap.size C (bytesU bl)) :
   Calls Try.prog 66 #[.slice C bl.length cap] w0 (OverP w0) := by
  have hra := (hr.alloc (Nat.le_refl _) (.cells #[.slice none 0 0] 26)).alloc (by simp) (.cells #[.int .i64 0, .int .i64 0] 29)
  have HF : Hid (Calls Try.prog 73 #[.slice C bl.length cap] ((w0.alloc (.cells #[.slice none 0 0] 26)).alloc (.cells #[.int .i64 0, .int .i64 0] 29)) (fun e w' => ∃ g : Nat, w0.heap.size + 2 ≤ g ∧ e = .returned (.pointer (some ⟨g, 0, none⟩)) ∧ Src w' g C bl.length cap ∧ Below (w0.heap.size + 2) ((w0.alloc (.cells #[.slice none 0 0] 26)).alloc (.cells #[.int .i64 0, .int .i64 0] 29)) w' ∧ g < w'.heap.size)) := Lib.hid
    ((l01From_any bl hbl hn C w0.heap.size cap _ hra (by simp; omega)).mono fun e w' ⟨a, b, c, d⟩ => ⟨_, by simp, a, b, by simpa using c, d⟩)
  have Hr := Lib.hid hra
  have K0 := Lib.hid (bk_alloc (bk_new w0 #[.slice none 0 0] 26) (.cells #[.int .i64 0, .int .i64 0] 29))
  have I0 : Hid (Bk ((w0.alloc (.cells #[.slice none 0 0] 26)).alloc (.cells #[.int .i64 0, .int .i64 0] 29)) (w0.heap.size + 1) #[.int .i64 0, .int .i64 0]) := Lib.hid (by simpa using bk_new (w0.alloc (.cells #[.slice none 0 0] 26)) #[.int .i64 0, .int .i64 0] 29)
  have Ba := Lib.hid (((Below.refl w0.heap.size w0).alloc (Nat.le_refl _) (.cells #[.slice none 0 0] 26)).alloc (by simp) (.cells #[.int .i64 0, .int .i64 0] 29))
  have Hbl := Lib.hid hbl
  clear hr hbl hra
  go_enter Try.func66, Try.ntmps66
  go_wp2_with fail
  refine HF.out.mono ?_
  rintro e w1 ⟨g, hg, rfl, hs, hb, hz⟩
  have D1 := Lib.hid (DS.start (Hr.out.below hb (by omega)) hs (by omega) Hbl.out hn)
  have K1 := Lib.hid (bk_below K0.out hb (by omega))
  have I1 := Lib.hid (bk_below I0.out hb (by omega))
  have B1 := Lib.hid (Ba.out.trans (hb.mono (by omega)))
  clear hs HF Hr hb K0 I0 Ba
  go_wp2_with fail
  refine (l08DrawRun_any w1 g _ C cap bl D1.out).mono ?_
  rintro e w2 ⟨l, A, c, f, n, x, y, on, Ao, co, rfl, hl, hon, ol, oo, d2⟩
  have hne0 : w0.heap.size ≠ g := by omega
  have hne1 : w0.heap.size + 1 ≠ g := by omega
  have hne5 : w0.heap.size + 1 ≠ w0.heap.size := by omega
  have hne6 : w0.heap.size ≠ w0.heap.size + 1 := by omega
  have hz1 := bk_lt I1.out
  have z12 := d2.size.1
  have K3 := Lib.hid (bk_alloc (bk_alloc (bk_apart K1.out d2.2.2.1 hne0) (.cells #[.slice A l.length c] 26)) (.cells #[.int .i64 x, .int .i64 y] 29))
  have I3 := Lib.hid (bk_alloc (bk_alloc (bk_apart I1.out d2.2.2.1 hne1) (.cells #[.slice A l.length c] 26)) (.cells #[.int .i64 x, .int .i64 y] 29))
  have L3 := Lib.hid (bk_alloc (bk_new w2 #[.slice A l.length c] 26) (.cells #[.int .i64 x, .int .i64 y] 29))
  have M3 : Hid (Bk ((w2.alloc (.cells #[.slice A l.length c] 26)).alloc (.cells #[.int .i64 x, .int .i64 y] 29)) (w2.heap.size + 1) #[.int .i64 x, .int .i64 y]) := Lib.hid (by simpa using bk_new (w2.alloc (.cells #[.slice A l.length c] 26)) #[.int .i64 x, .int .i64 y] 29)
  have O3 := Lib.hid ((ol.alloc (.cells #[.slice A l.length c] 26)).alloc (.cells #[.int .i64 x, .int .i64 y] 29))
  have P3 := Lib.hid ((oo.alloc (.cells #[.slice A l.length c] 26)).alloc (.cells #[.int .i64 x, .int .i64 y] 29))
  have D3 := Lib.hid ((d2.alloc (.cells #[.slice A l.length c] 26)).alloc (.cells #[.int .i64 x, .int .i64 y] 29))
  have hwz : w2.heap.size + 1 < ((w2.alloc (.cells #[.slice A l.length c] 26)).alloc (.cells #[.int .i64 x, .int .i64 y] 29)).heap.size := by simp
  clear ol oo d2 K1 I1 D1
  go_wp2_with fail
  generalize hW : (w2.alloc (.cells #[.slice A l.length c] 26)).alloc (.cells #[.int .i64 x, .int .i64 y] 29) = W at *
  clear hW
  have hb0 : w2.heap.size ≠ w0.heap.size := by omega
  have hb1 : w0.heap.size ≠ w2.heap.size := by omega
  have hb2 : w2.heap.size ≠ w0.heap.size + 1 := by omega
  have hb3 : w0.heap.size + 1 ≠ w2.heap.size := by omega
  have hb4 : w2.heap.size + 1 ≠ w0.heap.size := by omega
  have hb5 : w0.heap.size ≠ w2.heap.size + 1 := by omega
  have hgb : g < w2.heap.size := by omega
  have hgc : g < w2.heap.size + 1 := by omega
  have hbw : w1.heap.size + 2 ≤ W.heap.size := by omega
  generalize w2.heap.size = bb at *
  obtain ⟨s0, sf, ss⟩ := bk1 L3.out
  obtain ⟨r0, rf, rs⟩ := bk1 K3.out
  obtain ⟨q0, q1, qf, qs⟩ := bk2 I3.out
  obtain ⟨p0, p1, pf, ps⟩ := bk2 M3.out
  go_region_held3 (fun w' => w'.cell? ⟨bb, 0, none⟩ = some (.slice A l.length c) ∧ w'.cell? ⟨bb + 1, 0, none⟩ = some (.int .i64 x) ∧ w'.cell? ⟨bb + 1, 1, none⟩ = some (.int .i64 y)) (first | assumption | (simp [*, World.cell?_alloc_past, World.cell?_setCell_far])) (first | (go_at_call 129; refine (l09DrawLimits_any _ g _ C cap bl l.length hl A c D3.out.drew.again).mono ?_; rintro e w4 ⟨lim, Am, cm, rfl, hlim, om, d4⟩; have g4 : W.grownBy w4 (some g) := (by exact ⟨d4.2.2.1.os, d4.2.2.1.tape, d4.2.2.1.output, d4.2.2.1.size, d4.2.2.1.block⟩); have Q4 := Lib.hid (show w4.ownsRow (w1.heap.size + 2) 2 1 (.slice Am lim.length cm) lim.length (ints lim) from own_more om (by show w1.heap.size + 2 ≤ W.heap.size + 1; omega)); have O4 := Lib.hid (DS.own O3.out g4 (by omega)); have P4 := Lib.hid (DS.own P3.out g4 (by omega)); have K4 := Lib.hid (bk_apart K3.out g4 hne0); have I4 := Lib.hid (bk_apart I3.out g4 hne1); have L4 := Lib.hid (bk_keep L3.out g4 hgb); have M4 := Lib.hid (bk_keep M3.out g4 hgc); have D4 := Lib.hid (D3.out.drew.join d4); clear d4 om g4; obtain ⟨s0, sf, ss⟩ := bk1 L4.out; obtain ⟨r0, rf, rs⟩ := bk1 K4.out; obtain ⟨q0, q1, qf, qs⟩ := bk2 I4.out; obtain ⟨p0, p1, pf, ps⟩ := bk2 M4.out))
  all_goals (
    go_wp2
    (try simp only [Exit.inBlock, Exit.then])
    refine ret_over rfl rfl rfl rfl rfl rfl rfl rfl (bk_other (bk_other (bk_set K4.out 0 _ _ rfl) hne5 0 _) hne5 1 _) (bk_fill2 (bk_other I4.out hne6 0 _) _ _) ?_
    have e1 : ∀ q, (Value.slice A l.length c).ownBlock = some q → w1.heap.size + 2 ≤ q := fun q hq => (own_lt O4.out q hq).1
    have e2 : ∀ q, (Value.slice Ao on.length co).ownBlock = some q → w1.heap.size + 2 ≤ q := fun q hq => (own_lt P4.out q hq).1
    have e3 : ∀ q, (Value.slice Am lim.length cm).ownBlock = some q → w1.heap.size + 2 ≤ q := fun q hq => (own_lt Q4.out q hq).1
    have B4 := B1.out.trans (below_of_grownBy (B := w0.heap.size) D4.out.2.2.1 (by omega) (fun k hk => by injection hk with hk; omega))
    exact ⟨l, A, c, lim, Am, cm, f, n, x, y, on, Ao, co, rfl, hl, hlim, hon,
      Rd.of_own (own_set (own_set (own_set O4.out (fun q => by have := e1 _ q; omega) 0 _) (fun q => by have := e1 _ q; omega) 0 _) (fun q => by have := e1 _ q; omega) 1 _),
      Rd.of_own (own_set (own_set (own_set Q4.out (fun q => by have := e3 _ q; omega) 0 _) (fun q => by have := e3 _ q; omega) 0 _) (fun q => by have := e3 _ q; omega) 1 _),
      Rd.of_own (own_set (own_set (own_set P4.out (fun q => by have := e2 _ q; omega) 0 _) (fun q => by have := e2 _ q; omega) 0 _) (fun q => by have := e2 _ q; omega) 1 _),
      ((B4.setCell (Nat.le_refl _) _).setCell (show w0.heap.size ≤ w0.heap.size + 1 by omega) _).setCell (show w0.heap.size ≤ w0.heap.size + 1 by omega) _⟩)
end Go.Proofs.Ytooifamckccadaa
