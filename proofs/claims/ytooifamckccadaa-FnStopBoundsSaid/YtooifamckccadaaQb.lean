/- Draws of layouts with blocks. -/
import Derived.Test.YtooifamckccadaaQa
import Derived.Test.YtooifamckccadaaStep
import Derived.Deep.DeepCutAuto
import Derived.Deep.RegionHeld3
import Derived.StillTailTactics
namespace Go.Proofs.Ytooifamckccadaa
open Go.ChangeShapes Go.WideShapes Go.ChangeAt Go.RowKit
set_option maxRecDepth 20000
set_option linter.unusedVariables false
set_option linter.unusedSimpArgs false
def LbP (w0 : World) (g B : Nat) (C : Option Addr) (cap : Nat) (bl : List Int) (e : Ending) (w' : World) : Prop :=
  ∃ (l : List Seg) (A : Option Addr) (c : Nat) (fs : List Int) (A2 : Option Addr) (c2 : Nat), e = .returned (.tuple #[.agg #[.slice A l.length c], .slice A2 fs.length c2]) ∧ l.length ≤ 25 ∧ fs.length ≤ 60 ∧ w'.ownsRow (w0.heap.size + 1) 39 7 (.slice A l.length c) l.length (l.flatMap eSegment) ∧ w'.ownsRow (w0.heap.size + 1) 2 1 (.slice A2 fs.length c2) fs.length (ints fs) ∧ DS w0 w' g B C cap bl
theorem ret_lb {fn : Func} {t u : Tmp} {a : Act} {w : World} {R : Ending → World → Prop} {b : Nat} {x y : Value} (hres : fn.results = #[.cell t 26, .tmp u]) (ha : a.tmps.getD t undef = .pointer (some ⟨b, 0, none⟩)) (hu : a.tmps.getD u undef = y) (hd : a.defers = []) (h : Bk w b #[x]) (h1 : ∃ A n c, x = .slice A n c) (h2 : ∃ A n c, y = .slice A n c) (hR : R (.returned (.tuple #[.agg #[x], y])) w) : bodyPost Try.prog fn R .ret a w := by
  obtain ⟨A, n, c, rfl⟩ := h1
  obtain ⟨A2, n2, c2, rfl⟩ := h2
  refine bodyPost_ret ?_ hd hR
  obtain ⟨k1, k2⟩ := bk_at h
  have c0 : w.cell? ⟨b, 0, none⟩ = some (.slice A n c) := k1 0
  simp only [Array.getD_eq_getD_getElem?] at ha hu
  simp [results, hres, ha, hu, go_sem, *]
theorem ints_take (l : List Int) (k : Nat) : (ints l).take (k * 1) = ints (l.take k) := by simp [ints]
theorem rd_drop {w : World} {B b o : Nat} {l : List Int} (h : Rd w B (some ⟨b, o, none⟩) (ints l)) (k : Nat) : Rd w B (some ⟨b, o + k, none⟩) (ints (l.drop k)) := fun hn => by
  have hl : k < l.length := by simp [ints] at hn; omega
  obtain ⟨b', o', e, hb, hc⟩ := h (by simp [ints]; omega)
  injection e with e
  injection e with e1 e2
  subst e1 e2
  refine ⟨b, o + k, rfl, hb, fun j u hu => ?_⟩
  have := hc (k + j) u (by simpa [ints, List.getElem?_drop] using hu)
  rw [Nat.add_assoc]
  exact this
theorem l01Abs_val (n : Int) : ∃ a : Int, ∀ w : World, Calls Try.prog 153 #[.int .i64 n] w fun e w' => e = .returned (.int .i64 a) ∧ w = w' := by
  by_cases h : n < wrap64 (-n)
  · refine ⟨wrap64 (-n), fun w => ?_⟩
    go_enter Try.func153, Try.ntmps153
    go_wp2
    go_ret
    exact ⟨rfl, rfl⟩
  · refine ⟨n, fun w => ?_⟩
    go_enter Try.func153, Try.ntmps153
    go_wp2
    go_ret
    exact ⟨rfl, rfl⟩
theorem rd_dropI {w : World} {B b c q : Nat} {l : List Int} (hr : Rd w B (some ⟨b, 0, none⟩) (ints l)) (hlc : l.length ≤ c) (hq : q < l.length) :
    ∃ ad : Addr, (if c = q + 1 then some (⟨b, 0, none⟩ : Addr) else some ⟨b, q + 1, none⟩) = some ad ∧ Rd w B (some ad) (ints (l.drop (q + 1))) := by
  by_cases h : c = q + 1
  · refine ⟨⟨b, 0, none⟩, by simp [h], fun hn => ?_⟩
    rw [ints_length, List.length_drop] at hn
    omega
  · refine ⟨⟨b, q + 1, none⟩, by simp [h], ?_⟩
    have := rd_drop hr (q + 1)
    rw [Nat.zero_add] at this
    exact this
set_option maxHeartbeats 4000000 in
theorem l04Draw_any (w0 : World) (g B : Nat) (C : Option Addr) (cap : Nat) (bl : List Int) (h : DS w0 w0 g B C cap bl) :
   Calls Try.prog 173 #[.pointer (some ⟨g, 0, none⟩)] w0 (LbP w0 g B C cap bl) := by
  obtain ⟨i0, hi0, hz0, hz1, hz2⟩ := info_parts infoInt64
  have hg0 := h.size.2
  have H := Lib.hid h
  clear h
  have K0 := Lib.hid (bk_new w0 #[.slice none 0 0] 26)
  go_enter Try.func173, Try.ntmps173
  go_wp2_with fail
  refine (l03Draw_any (w0.alloc (.cells #[.slice none 0 0] 26)) g B C cap bl (H.out.alloc _).again).mono ?_
  rintro e w1 ⟨l, A, c, rfl, hl, o1, d1⟩
  have O1 := Lib.hid (own_more o1 (show w0.heap.size + 1 ≤ (w0.alloc (.cells #[.slice none 0 0] 26)).heap.size + 1 by simp))
  have K1 := Lib.hid (bk_keep K0.out d1.2.2.1 hg0)
  have D1 := Lib.hid ((H.out.alloc _).join d1)
  have hbb0 := bk_lt K1.out
  have hgb : g < w1.heap.size := by omega
  have Hlt := Lib.hid (fun k hk => (own_lt O1.out k hk).2)
  have hsz1 := D1.out.size.1
  clear o1 d1 K0 H
  go_wp2_with fail
  refine (defBlocks_weak l hl A w1.heap.size c (w1.alloc (.cells #[.slice A l.length c] 26)) ((Rd.of_own O1.out).alloc (Nat.le_refl _) _) (by simp)).mono ?_
  rintro e w2 ⟨fs, A2, c2, ⟨q, rfl⟩, hfs, o2, b2⟩
  have F2 := Lib.hid (own_more o2 (show w1.heap.size + 1 ≤ (w1.alloc (.cells #[.slice A l.length c] 26)).heap.size by simp))
  have O2 := Lib.hid (own_below (O1.out.alloc (.cells #[.slice A l.length c] 26)) b2)
  have K2 := Lib.hid (bk_below (bk_alloc K1.out (.cells #[.slice A l.length c] 26)) b2 (by simp; omega))
  have L2 := Lib.hid (bk_below (bk_new w1 #[.slice A l.length c] 26) b2 (by simp))
  have D2 := Lib.hid ((D1.out.alloc (.cells #[.slice A l.length c] 26)).below (b2.mono (by simp; omega)))
  have hbb2 := bk_lt L2.out
  clear o2 b2 O1 K1 D1
  generalize w1.heap.size = bb at *
  obtain ⟨s0, sf, ss⟩ := bk1 L2.out
  go_upto_region 3 with fail
  go_cut [34] (fun s wx => ∃ b : Bool, s = .bool b ∧ (b = true → 2 < l.length ∧ l.length < 12) ∧ wx.ownsRow (w0.heap.size + 1) 39 7 (.slice A l.length c) l.length (l.flatMap eSegment) ∧ wx.ownsRow (bb + 1) 2 1 (.slice A2 fs.length c2) fs.length (ints fs) ∧ Bk wx w0.heap.size #[.slice none 0 0] ∧ Bk wx bb #[.slice A l.length c] ∧ DS w0 wx g B C cap bl)
  case first =>
    by_cases hq : q = 0
    · subst hq
      go_wp2_with fail
      go_meet
      exact ⟨false, rfl, by simp, O2.out, F2.out, K2.out, L2.out, D2.out⟩
    · have hqb : (q != 0) = true := by simpa using hq
      go_wp2_with fail
      refine (next_ds D2.out 8).mono ?_
      rintro e w3 ⟨x, rfl, x0, x1, d3, g3⟩
      have O3 := Lib.hid (DS.own O2.out g3 (by omega))
      have F3 := Lib.hid (DS.own F2.out g3 (by omega))
      have K3 := Lib.hid (bk_keep K2.out g3 hg0)
      have L3 := Lib.hid (bk_keep L2.out g3 hgb)
      have D3 := Lib.hid d3
      clear d3 g3 x1 O2 F2 K2 L2 D2 s0 sf ss
      obtain ⟨s0, sf, ss⟩ := bk1 L3.out
      by_cases hx : 0 < x
      · by_cases h2 : 2 < l.length
        · have h2' : (2 : Int) < (l.length : Int) := by omega
          by_cases h12 : l.length < 12
          · have h12' : (l.length : Int) < 12 := by omega
            go_wp2_with fail
            go_meet
            exact ⟨true, rfl, fun _ => ⟨h2, h12⟩, O3.out, F3.out, K3.out, L3.out, D3.out⟩
          · have h12' : ¬ (l.length : Int) < 12 := by omega
            have h12b : decide ((l.length : Int) < 12) = false := decide_eq_false h12'
            go_wp2_with fail
            go_meet
            exact ⟨false, rfl, by simp, O3.out, F3.out, K3.out, L3.out, D3.out⟩
        · have h2' : ¬ (2 : Int) < (l.length : Int) := by omega
          go_wp2_with fail
          go_meet
          exact ⟨false, rfl, by simp, O3.out, F3.out, K3.out, L3.out, D3.out⟩
      · go_wp2_with fail
        go_meet
        exact ⟨false, rfl, by simp, O3.out, F3.out, K3.out, L3.out, D3.out⟩
  case rest =>
  clear s0 sf ss O2 F2 K2 L2 D2
  obtain ⟨b, rfl, hb, o3, f3, k3, l3, d3⟩ := hcut
  have O3 := Lib.hid o3
  have F3 := Lib.hid f3
  have K3 := Lib.hid k3
  have L3 := Lib.hid l3
  have D3 := Lib.hid d3
  clear o3 f3 k3 l3 d3
  go_upto_if 34 with fail
  go_cut [5] (fun s wx => ∃ (l' : List Seg) (fs : List Int) (A2 : Option Addr) (c2 : Nat), s = .slice A2 fs.length c2 ∧ l'.length = l.length ∧ fs.length ≤ 25 ∧ wx.ownsRow (w0.heap.size + 1) 39 7 (.slice A l.length c) l.length (l'.flatMap eSegment) ∧ wx.ownsRow (bb + 1) 2 1 (.slice A2 fs.length c2) fs.length (ints fs) ∧ Bk wx w0.heap.size #[.slice none 0 0] ∧ Bk wx bb #[.slice A l.length c] ∧ DS w0 wx g B C cap bl)
  case first =>
    cases b with
    | false =>
      go_wp2_with fail
      go_meet
      exact ⟨l, fs, A2, c2, rfl, rfl, hfs, O3.out, F3.out, K3.out, L3.out, D3.out⟩
    | true =>
      obtain ⟨h2, h12⟩ := hb rfl
      clear hb
      obtain ⟨gb, rfl, hgb1, hgb2⟩ := own_form O3.out (by omega)
      have hgbb : gb < bb := Hlt.out gb rfl
      go_wp2_with fail
      refine (l03DrawSegment_any wc g B C cap bl 3 D3.out.again).mono ?_
      rintro e w4 ⟨xk, xl, xr, xrl, xrh, xfl, xfh, rfl, d4⟩
      have O4 := Lib.hid (DS.own O3.out d4.2.2.1 (by omega))
      have K4 := Lib.hid (bk_keep K3.out d4.2.2.1 hg0)
      have L4 := Lib.hid (bk_keep L3.out d4.2.2.1 hgb)
      have D4 := Lib.hid (D3.out.join d4)
      have hbb4 := bk_lt L4.out
      clear d4 O3 F3 K3 L3 D3
      obtain ⟨s0, sf, ss⟩ := bk1 L4.out
      obtain ⟨b9, o9, e9, hb9, _, _, r0, _, _, _, _⟩ := (Rd.of_own O4.out).atSegment (show l[0]? = some l[0] from List.getElem?_eq_getElem (by omega))
      injection e9 with e9
      injection e9 with e91 e92
      subst e91 e92
      generalize l[0].2.2.1 = rr at r0
      simp only [Nat.zero_mul, Nat.zero_add, Nat.add_zero] at r0
      have hne1 : gb ≠ bb := by omega
      have hl0 : (0 : Int) < (l.length : Int) := by omega
      have hl00 : l[0]? = some l[0] := List.getElem?_eq_getElem (by omega)
      have X5 := Lib.hid (bk_new w4 #[.int .i64 xk, .int .i64 xl, .int .i64 rr, .int .i64 xrl, .int .i64 xrh, .int .i64 xfl, .int .i64 xfh] 39)
      have O5 := Lib.hid (O4.out.alloc (.cells #[.int .i64 xk, .int .i64 xl, .int .i64 rr, .int .i64 xrl, .int .i64 xrh, .int .i64 xfl, .int .i64 xfh] 39))
      have K5 := Lib.hid (bk_alloc K4.out (.cells #[.int .i64 xk, .int .i64 xl, .int .i64 rr, .int .i64 xrl, .int .i64 xrh, .int .i64 xfl, .int .i64 xfh] 39))
      have L5 := Lib.hid (bk_alloc L4.out (.cells #[.int .i64 xk, .int .i64 xl, .int .i64 rr, .int .i64 xrl, .int .i64 xrh, .int .i64 xfl, .int .i64 xfh] 39))
      have D5 := Lib.hid (D4.out.alloc (.cells #[.int .i64 xk, .int .i64 xl, .int .i64 rr, .int .i64 xrl, .int .i64 xrh, .int .i64 xfl, .int .i64 xfh] 39))
      have hbx : w4.heap.size < (w4.alloc (.cells #[.int .i64 xk, .int .i64 xl, .int .i64 rr, .int .i64 xrl, .int .i64 xrh, .int .i64 xfl, .int .i64 xfh] 39)).heap.size := by simp
      go_wp2_with fail
      generalize w4.alloc (.cells #[.int .i64 xk, .int .i64 xl, .int .i64 rr, .int .i64 xrl, .int .i64 xrh, .int .i64 xfl, .int .i64 xfh] 39) = w5 at *
      have hgx : gb < w4.heap.size := by omega
      have hbx4 : bb < w4.heap.size := hbb4
      have hb04 : w0.heap.size < w4.heap.size := by omega
      clear O4 K4 L4 D4 s0 sf ss r0
      generalize w4.heap.size = bx at *
      obtain ⟨x0', x1', x2', x3', x4', x5', x6', xf, xs⟩ := bk7 X5.out
      obtain ⟨s0, sf, ss⟩ := bk1 L5.out
      obtain ⟨a, ha⟩ := l01Abs_val rr
      have HAb := Lib.hid ha
      clear ha
      by_cases hxa : xl < a
      · skip
        refine wp_region_still_tail 7 (by kernel_rfl) (by kernel_rfl) ?_
        simp only [List.take_succ_cons, List.take_zero, List.drop_succ_cons, List.drop_zero]
        repeat still_step
        still_call ((HAb.out _).mono (fun e w' h => ⟨h.1, h.2.symm⟩))
        repeat still_step
        refine wpStill_nil ?_
        change wpList _ _ _ _ _ w5.drew
        have O6 : Hid ((w5.setCell ⟨bx, 1, none⟩ (.int .i64 a)).drew.ownsRow (w0.heap.size + 1) 39 7 (.slice (some ⟨gb, 0, none⟩) l.length c) l.length (l.flatMap eSegment)) := Lib.hid (own_drew (own_set O5.out (b := bx) (fun e => by simp [Value.ownBlock] at e; omega) 1 (.int .i64 a)))
        have X6 := Lib.hid (bk_drew (bk_set X5.out 1 (.int .i64 a) _ rfl))
        have K6 := Lib.hid (bk_drew (bk_other K5.out (b' := bx) (by omega) 1 (.int .i64 a)))
        have L6 := Lib.hid (bk_drew (bk_other L5.out (b' := bx) (by omega) 1 (.int .i64 a)))
        have D6 := Lib.hid (DS.drew (DS.set D5.out (b := bx) (by omega) 1 (.int .i64 a)))
        clear O5 X5 K5 L5 D5
        have hnb1 : bx ≠ bb := by omega
        have hnb2 : bb ≠ bx := by omega
        have hnb3 : bx ≠ gb := by omega
        go_wp2_with ((with_reducible show Go.wpList _ _ _ _ _ _); refine wpList_store_seg rfl (.tmp 53) (.tmp 52) rfl (w0.heap.size + 1) gb c _ l O6.out 0 (by omega) (xk, a, rr, xrl, xrh, xfl, xfh) (by rfl) (by rfl) rfl ?_; intro w9 o9 b9 k9; have O9 := Lib.hid o9; have K9 := Lib.hid (k9 w0.heap.size _ (show gb ≠ w0.heap.size by omega) K6.out); have L9 := Lib.hid (k9 bb _ (show gb ≠ bb by omega) L6.out); have D9 := Lib.hid (D6.out.below (b9 _ (show w0.heap.size ≤ gb by omega))); clear o9 b9 k9; obtain ⟨t0, tf, ts⟩ := bk1 L9.out)
        have hdb := fun (w' : World) (h : Rd w' w'.heap.size (some ⟨gb, 0, none⟩) ((l.set 0 (xk, a, rr, xrl, xrh, xfl, xfh)).flatMap eSegment)) => defBlocks_weak (l.set 0 (xk, a, rr, xrl, xrh, xfl, xfh)) (by rw [List.length_set]; exact hl) (some ⟨gb, 0, none⟩) w'.heap.size c w' h (Nat.le_refl _)
        rw [List.length_set] at hdb
        have hbb9 := bk_lt L9.out
        refine (hdb _ (Rd.of_own O9.out)).mono ?_
        rintro e w10 ⟨fs', A', c', ⟨q', rfl⟩, hfs', o10, b10⟩
        have F10 := Lib.hid (own_more o10 (show bb + 1 ≤ w9.heap.size by omega))
        have O10 := Lib.hid (own_below O9.out b10)
        have K10 := Lib.hid (bk_below K9.out b10 (bk_lt K9.out))
        have L10 := Lib.hid (bk_below L9.out b10 hbb9)
        have D10 := Lib.hid (D9.out.below (b10.mono (by omega)))
        clear hdb o10 b10 O9 K9 L9 D9
        go_wp2_with fail
        go_meet
        exact ⟨l.set 0 (xk, a, rr, xrl, xrh, xfl, xfh), fs', A', c', rfl, List.length_set .., hfs', O10.out, F10.out, K10.out, L10.out, D10.out⟩
      · skip
        refine wp_region_still_tail 7 (by kernel_rfl) (by kernel_rfl) ?_
        simp only [List.take_succ_cons, List.take_zero, List.drop_succ_cons, List.drop_zero]
        repeat still_step
        still_call ((HAb.out _).mono (fun e w' h => ⟨h.1, h.2.symm⟩))
        repeat still_step
        refine wpStill_nil ?_
        change wpList _ _ _ _ _ w5.drew
        have O6 : Hid ((w5.setCell ⟨bx, 1, none⟩ (.int .i64 xl)).drew.ownsRow (w0.heap.size + 1) 39 7 (.slice (some ⟨gb, 0, none⟩) l.length c) l.length (l.flatMap eSegment)) := Lib.hid (own_drew (own_set O5.out (b := bx) (fun e => by simp [Value.ownBlock] at e; omega) 1 (.int .i64 xl)))
        have X6 := Lib.hid (bk_drew (bk_set X5.out 1 (.int .i64 xl) _ rfl))
        have K6 := Lib.hid (bk_drew (bk_other K5.out (b' := bx) (by omega) 1 (.int .i64 xl)))
        have L6 := Lib.hid (bk_drew (bk_other L5.out (b' := bx) (by omega) 1 (.int .i64 xl)))
        have D6 := Lib.hid (DS.drew (DS.set D5.out (b := bx) (by omega) 1 (.int .i64 xl)))
        clear O5 X5 K5 L5 D5
        have hnb1 : bx ≠ bb := by omega
        have hnb2 : bb ≠ bx := by omega
        have hnb3 : bx ≠ gb := by omega
        go_wp2_with ((with_reducible show Go.wpList _ _ _ _ _ _); refine wpList_store_seg rfl (.tmp 53) (.tmp 52) rfl (w0.heap.size + 1) gb c _ l O6.out 0 (by omega) (xk, xl, rr, xrl, xrh, xfl, xfh) (by rfl) (by rfl) rfl ?_; intro w9 o9 b9 k9; have O9 := Lib.hid o9; have K9 := Lib.hid (k9 w0.heap.size _ (show gb ≠ w0.heap.size by omega) K6.out); have L9 := Lib.hid (k9 bb _ (show gb ≠ bb by omega) L6.out); have D9 := Lib.hid (D6.out.below (b9 _ (show w0.heap.size ≤ gb by omega))); clear o9 b9 k9; obtain ⟨t0, tf, ts⟩ := bk1 L9.out)
        have hdb := fun (w' : World) (h : Rd w' w'.heap.size (some ⟨gb, 0, none⟩) ((l.set 0 (xk, xl, rr, xrl, xrh, xfl, xfh)).flatMap eSegment)) => defBlocks_weak (l.set 0 (xk, xl, rr, xrl, xrh, xfl, xfh)) (by rw [List.length_set]; exact hl) (some ⟨gb, 0, none⟩) w'.heap.size c w' h (Nat.le_refl _)
        rw [List.length_set] at hdb
        have hbb9 := bk_lt L9.out
        refine (hdb _ (Rd.of_own O9.out)).mono ?_
        rintro e w10 ⟨fs', A', c', ⟨q', rfl⟩, hfs', o10, b10⟩
        have F10 := Lib.hid (own_more o10 (show bb + 1 ≤ w9.heap.size by omega))
        have O10 := Lib.hid (own_below O9.out b10)
        have K10 := Lib.hid (bk_below K9.out b10 (bk_lt K9.out))
        have L10 := Lib.hid (bk_below L9.out b10 hbb9)
        have D10 := Lib.hid (D9.out.below (b10.mono (by omega)))
        clear hdb o10 b10 O9 K9 L9 D9
        go_wp2_with fail
        go_meet
        exact ⟨l.set 0 (xk, xl, rr, xrl, xrh, xfl, xfh), fs', A', c', rfl, List.length_set .., hfs', O10.out, F10.out, K10.out, L10.out, D10.out⟩
  case rest =>
  clear O3 F3 K3 L3 D3 hb
  obtain ⟨l', fs, A2, c2, rfl, hl', hfs, o4, f4, k4, l4, d4⟩ := hcut
  have O4 := Lib.hid o4
  have F4 := Lib.hid f4
  have K4 := Lib.hid k4
  have L4 := Lib.hid l4
  have D4 := Lib.hid d4
  clear o4 f4 k4 l4 d4
  go_upto_region 9 with fail
  go_cut [66] (fun s wx => ∃ b : Bool, s = .bool b ∧ (b = true → 2 < fs.length) ∧ wx.ownsRow (w0.heap.size + 1) 39 7 (.slice A l.length c) l.length (l'.flatMap eSegment) ∧ wx.ownsRow (bb + 1) 2 1 (.slice A2 fs.length c2) fs.length (ints fs) ∧ Bk wx w0.heap.size #[.slice none 0 0] ∧ Bk wx bb #[.slice A l.length c] ∧ DS w0 wx g B C cap bl)
  case first =>
    by_cases h2 : 2 < fs.length
    · have h2' : (2 : Int) < (fs.length : Int) := by omega
      go_wp2_with fail
      refine (next_ds D4.out 3).mono ?_
      rintro e w5 ⟨x, rfl, x0, x1, d5, g5⟩
      have O5 := Lib.hid (DS.own O4.out g5 (by omega))
      have F5 := Lib.hid (DS.own F4.out g5 (by omega))
      have K5 := Lib.hid (bk_keep K4.out g5 hg0)
      have L5 := Lib.hid (bk_keep L4.out g5 hgb)
      have D5 := Lib.hid d5
      clear d5 g5 x1 O4 F4 K4 L4 D4
      by_cases hx : x = 0
      · subst hx
        go_wp2_with fail
        go_meet
        exact ⟨true, rfl, fun _ => h2, O5.out, F5.out, K5.out, L5.out, D5.out⟩
      · have hxb : (x == 0) = false := by rw [beq_eq_false_iff_ne]; exact hx
        go_wp2_with fail
        go_meet
        exact ⟨false, rfl, by simp, O5.out, F5.out, K5.out, L5.out, D5.out⟩
    · have h2' : ¬ (2 : Int) < (fs.length : Int) := by omega
      go_wp2_with fail
      go_meet
      exact ⟨false, rfl, by simp, O4.out, F4.out, K4.out, L4.out, D4.out⟩
  case rest =>
  clear O4 F4 K4 L4 D4
  obtain ⟨b, rfl, hb, o5, f5, k5, l5, d5⟩ := hcut
  have O5 := Lib.hid o5
  have F5 := Lib.hid f5
  have K5 := Lib.hid k5
  have L5 := Lib.hid l5
  have D5 := Lib.hid d5
  clear o5 f5 k5 l5 d5
  go_upto_if 66 with fail
  go_cut [5] (fun s wx => ∃ (fs : List Int) (A2 : Option Addr) (c2 : Nat), s = .slice A2 fs.length c2 ∧ fs.length ≤ 50 ∧ wx.ownsRow (w0.heap.size + 1) 39 7 (.slice A l.length c) l.length (l'.flatMap eSegment) ∧ wx.ownsRow (bb + 1) 2 1 (.slice A2 fs.length c2) fs.length (ints fs) ∧ Bk wx w0.heap.size #[.slice none 0 0] ∧ Bk wx bb #[.slice A l.length c] ∧ DS w0 wx g B C cap bl)
  case first =>
    cases b with
    | false =>
      go_wp2_with fail
      go_meet
      exact ⟨fs, A2, c2, rfl, by omega, O5.out, F5.out, K5.out, L5.out, D5.out⟩
    | true =>
      have h2 := hb rfl
      have e1 : IntKind.i64.wrap ((fs.length : Int) - 1) = (fs.length : Int) - 1 := IntWalk.i64_in _ (by omega)
      go_wp2_with fail
      refine (next_ds D5.out _).mono ?_
      rintro e w6 ⟨x, rfl, x0, x1, d6, g6⟩
      have O6 := Lib.hid (DS.own O5.out g6 (by omega))
      have F6 := Lib.hid (DS.own F5.out g6 (by omega))
      have K6 := Lib.hid (bk_keep K5.out g6 hg0)
      have L6 := Lib.hid (bk_keep L5.out g6 hgb)
      have D6 := Lib.hid d6
      obtain ⟨q, rfl⟩ : ∃ q : Nat, x = q := ⟨x.toNat, by omega⟩
      have hq : q + 1 < fs.length := by omega
      clear d6 g6 x1 O5 F5 K5 L5 D5
      obtain ⟨k, hk⟩ : ∃ k : Nat, k = q + 1 := ⟨_, rfl⟩
      have e2 : IntKind.i64.wrap (1 + (q : Int)) = (k : Int) := by rw [show 1 + (q : Int) = (k : Int) by omega]; exact IntWalk.i64_in _ (by omega)
      have e3 : IntKind.i64.wrap ((k : Int) + 1) = (k : Int) + 1 := IntWalk.i64_in _ (by omega)
      have hcap := own_cap F6.out
      obtain ⟨gf, rfl, hgf1, hgf2⟩ := own_form F6.out (by omega)
      have hkl : k < fs.length := by omega
      obtain ⟨ad, hA, hsrc⟩ := rd_dropI (Rd.of_own F6.out) hcap hkl
      have Hsrc := Lib.hid hsrc
      have Htk := Lib.hid (rd_take_ints (Rd.of_own F6.out) k)
      have htl : (fs.take k).length = k := by rw [List.length_take]; omega
      have hdl : (fs.drop (k + 1)).length = fs.length - (k + 1) := List.length_drop ..
      have hic : k ≤ c2 := by omega
      have hjc : k + 1 ≤ c2 := by omega
      have hq0 : (0 : Int) ≤ (k : Int) + 1 := by omega
      have hql : (k : Int) + 1 ≤ (fs.length : Int) := by omega
      have hki : (0 : Int) ≤ (k : Int) := by omega
      have hkc : (k : Int) ≤ (c2 : Int) := by omega
      have hw2 : ((k : Int) + 1).toNat = k + 1 := by omega
      have key := fun (w' : World) (h : Rd w' w6.heap.size (some ⟨gf, 0, none⟩) (ints (fs.take k))) (hB : w6.heap.size ≤ w'.heap.size) => l01Own_any (fs.take k) (some ⟨gf, 0, none⟩) w6.heap.size c2 w' h hB (by omega)
      rw [htl] at key
      have HK := Lib.hid key
      clear key hsrc hk hq
      have hz6 := bk_lt L6.out
      have hfsz : fs.length ≤ 25 := by omega
      have hl63 : (fs.take k).length ≤ 1048576 := by omega
      go_wp2_with fail
      go_region_held3 (fun w' => w6.heap.size ≤ w'.heap.size) (first | assumption | omega | (simp; done) | (simp; omega)) (first | (go_at_call 187; refine (HK.out _ (by exact Htk.out) (by first | exact Nat.le_refl _ | (simp; done) | (simp; omega))).mono ?_; rintro e w7 ⟨A7, c7, rfl, o7, b7⟩; have b7' : Below w6.heap.size w6 w7 := (by first | exact b7 | exact Below.trans (Below.drew (Below.refl _ _)) b7); have O7 := Lib.hid (own_more o7 (show w6.heap.size ≤ _ by first | exact Nat.le_refl _ | (simp; done) | (simp; omega))); have hz7 := b7'.size; have Hs7 := Lib.hid (Hsrc.out.below b7' (Nat.le_refl _)); clear o7 b7) | (refine step_append_rd (w := w7) rfl (.tmp 76) (.tmp 80) 27 (by rfl) w6.heap.size 2 i0 _ 1 8 Try.underlying27 hi0 hz0 hz1 hz2 rfl (by decide) _ k (ints (fs.take k)) (by rfl) O7.out w6.heap.size (some ad) (fs.length - (k + 1)) (c2 - (k + 1)) (ints (fs.drop (k + 1))) (by rfl) (by rw [ints_length, hdl, Nat.mul_one]) Hs7.out (ints_one _) (by unfold maxLen; omega) (by omega) hz7 ?_; intro v8 w8 own8 hb8 hz8; obtain ⟨A8, c8, rfl⟩ := own_val own8; have O8 := Lib.hid own8; have B8 := Lib.hid (b7'.trans hb8); have hz8' : w6.heap.size ≤ w8.heap.size := (by omega); clear own8 hb8))
      all_goals (
        have hL8 : ((fs.take k) ++ (fs.drop (k + 1))).length = k + (fs.length - (k + 1)) := by rw [List.length_append, htl, hdl]
        have o8 : w8.ownsRow w6.heap.size 2 1 (.slice A8 ((fs.take k) ++ (fs.drop (k + 1))).length c8) ((fs.take k) ++ (fs.drop (k + 1))).length (ints ((fs.take k) ++ (fs.drop (k + 1)))) := by
          rw [hL8]
          simpa [ints] using O8.out
        have O9 := Lib.hid (own_below O6.out B8.out)
        have K9 := Lib.hid (bk_below K6.out B8.out (bk_lt K6.out))
        have L9 := Lib.hid (bk_below L6.out B8.out hz6)
        have D9 := Lib.hid (D6.out.below (B8.out.mono (by have := D6.out.size.1; omega)))
        go_wp2_with fail
        go_meet
        exact ⟨(fs.take k) ++ (fs.drop (k + 1)), A8, c8, by rw [hL8], by rw [hL8]; omega, O9.out, own_more o8 (by omega), K9.out, L9.out, D9.out⟩)
  case rest =>
  clear O5 F5 K5 L5 D5 hb
  obtain ⟨fs, A2, c2, rfl, hfs, o6, f6, k6, l6, d6⟩ := hcut
  have O6 := Lib.hid o6
  have F6 := Lib.hid f6
  have K6 := Lib.hid k6
  have L6 := Lib.hid l6
  have D6 := Lib.hid d6
  clear o6 f6 k6 l6 d6
  go_wp2_with fail
  refine (next_ds D6.out 40).mono ?_
  rintro e w7 ⟨y, rfl, y0, y1, d7, g7⟩
  have O7 := Lib.hid (DS.own O6.out g7 (by omega))
  have F7 := Lib.hid (DS.own F6.out g7 (by omega))
  have K7 := Lib.hid (bk_keep K6.out g7 hg0)
  have L7 := Lib.hid (bk_keep L6.out g7 hgb)
  have D7 := Lib.hid d7
  clear d7 g7 y1 O6 F6 K6 L6 D6
  have FIN : ∀ (w' : World) (fs : List Int) (A2 : Option Addr) (c2 : Nat), fs.length ≤ 60 → w'.ownsRow (w0.heap.size + 1) 39 7 (.slice A l.length c) l.length (l'.flatMap eSegment) → w'.ownsRow (bb + 1) 2 1 (.slice A2 fs.length c2) fs.length (ints fs) → DS w0 w' g B C cap bl → LbP w0 g B C cap bl (.returned (.tuple #[.agg #[.slice A l.length c], .slice A2 fs.length c2])) (w'.setCell ⟨w0.heap.size, 0, none⟩ (.slice A l.length c)) := fun w' fs A2 c2 h1 h2 h3 h4 => ⟨l', A, c, fs, A2, c2, by rw [hl'], by omega, h1, by rw [hl']; exact own_set h2 (fun e => by have := (own_lt h2 _ e).1; omega) 0 _, own_set (own_more h3 (by omega)) (fun e => by have := (own_lt h3 _ e).1; omega) 0 _, h4.set (Nat.le_refl _) 0 _⟩
  have Fin := Lib.hid FIN
  clear FIN hl'
  have hfl : fs.length ≤ 1048576 := by omega
  obtain ⟨s0, sf, ss⟩ := bk1 L7.out
  obtain ⟨r0, rf, rs⟩ := bk1 K7.out
  rcases (show y = 0 ∨ y = 1 ∨ y = 2 ∨ (y ≠ 0 ∧ y ≠ 1 ∧ y ≠ 2) by omega) with rfl | rfl | rfl | ⟨n0, n1, n2⟩
  · go_wp2_with fail
    refine (next_ds D7.out 4).mono ?_
    rintro e w8 ⟨z, rfl, z0, z1, d8, g8⟩
    have O8 := Lib.hid (DS.own O7.out g8 (by omega))
    have F8 := Lib.hid (DS.own F7.out g8 (by omega))
    have K8 := Lib.hid (bk_keep K7.out g8 hg0)
    have L8 := Lib.hid (bk_keep L7.out g8 hgb)
    have D8 := Lib.hid d8
    have hz8 := bk_lt L8.out
    clear d8 g8 z1 O7 F7 K7 L7 D7 s0 sf ss r0 rf rs
    go_wp2_with (at_builtin; refine wpList_append_int rfl (.tmp 86) (.tmp 89) 27 rfl (bb + 1) 2 i0 Try.underlying27 hi0 hz0 hz1 hz2 _ _ fs (by rfl) F8.out z (by rfl) hfl (by omega) ?_; intro v9 w9 own9 hb9 hz9; have F9 := Lib.hid own9; have O9 := Lib.hid (own_belowN O8.out hb9 (fun k hk => by have := Hlt.out k hk; omega)); have K9 := Lib.hid (bk_below K8.out hb9 (by omega)); have D9 := Lib.hid (D8.out.below (hb9.mono (by omega))); have L9 := Lib.hid (bk_below L8.out hb9 (by omega)); clear own9 hb9; obtain ⟨s0, sf, ss⟩ := bk1 L9.out; obtain ⟨r0, rf, rs⟩ := bk1 K9.out; obtain ⟨A9, c9, rfl⟩ := own_val F9.out)
    (try simp only [Exit.inBlock, Exit.then])
    refine ret_lb rfl rfl rfl rfl (bk_set K9.out 0 _ _ rfl) ⟨_, _, _, rfl⟩ ⟨_, _, _, rfl⟩ ?_
    have := Fin.out _ (fs ++ [z]) A9 c9 (by rw [List.length_append]; simp; omega) O9.out (by rw [List.length_append]; exact F9.out) D9.out
    rw [List.length_append] at this
    exact this
  · have hcap := own_cap F7.out
    obtain ⟨k, hk⟩ : ∃ k : Nat, k = fs.length / 2 := ⟨_, rfl⟩
    have hkl : k ≤ fs.length := by omega
    have e1 : ((fs.length : Int)).tdiv 2 = (k : Int) := by rw [hk, Int.tdiv_eq_ediv_of_nonneg (by omega)]; omega
    have e2 : ((fs.length : Int)) / 2 = (k : Int) := by omega
    have hk0 : (0 : Int) ≤ (k : Int) := by omega
    have hkc : (k : Int) ≤ (c2 : Int) := by omega
    have hkc2 : k ≤ c2 := by omega
    have ot := own_take F7.out hkl
    rw [ints_take] at ot
    have htl : (fs.take k).length = k := by rw [List.length_take]; omega
    have OT := Lib.hid ot
    clear ot hk
    go_wp2
    (try simp only [Exit.inBlock, Exit.then])
    refine ret_lb rfl rfl rfl rfl (bk_set K7.out 0 _ _ rfl) ⟨_, _, _, rfl⟩ ⟨_, _, _, rfl⟩ ?_
    have := Fin.out _ (fs.take k) A2 c2 (by omega) O7.out (by rw [htl]; exact OT.out) D7.out
    rw [htl] at this
    exact this
  · go_wp2_with fail
    refine (next_ds D7.out 4).mono ?_
    rintro e w8 ⟨z, rfl, z0, z1, d8, g8⟩
    have O8 := Lib.hid (DS.own O7.out g8 (by omega))
    have K8 := Lib.hid (bk_keep K7.out g8 hg0)
    have L8 := Lib.hid (bk_keep L7.out g8 hgb)
    have D8 := Lib.hid d8
    have hz8 := bk_lt L8.out
    have ez : IntKind.i64.wrap (1 + z) = 1 + z := IntWalk.i64_in _ (by omega)
    clear d8 g8 z1 O7 F7 K7 L7 D7 s0 sf ss r0 rf rs
    have F9 := Lib.hid (World.ownsRow_lit (base := bb + 1) (e := 2) (size := 1) w8 #[.int .i64 0, .int .i64 (1 + z)] 2 (by omega) (by unfold maxLen; omega) rfl)
    have O9 := Lib.hid (O8.out.alloc (.cells #[.int .i64 0, .int .i64 (1 + z)] 2))
    have K9 := Lib.hid (bk_alloc K8.out (.cells #[.int .i64 0, .int .i64 (1 + z)] 2))
    have D9 := Lib.hid (D8.out.alloc (.cells #[.int .i64 0, .int .i64 (1 + z)] 2))
    obtain ⟨s0, sf, ss⟩ := bk1 L8.out
    obtain ⟨r0, rf, rs⟩ := bk1 K8.out
    go_wp2
    (try simp only [Exit.inBlock, Exit.then])
    rw [← World.setCell_alloc_past (w := w8) (.cells #[.int .i64 0, .int .i64 (1 + z)] 2) w0.heap.size 0 (.slice A l.length c) (by have := bk_lt K8.out; omega)]
    refine ret_lb rfl rfl rfl rfl (bk_set K9.out 0 _ _ rfl) ⟨_, _, _, rfl⟩ ⟨_, _, _, rfl⟩ ?_
    exact Fin.out _ [0, 1 + z] (some ⟨w8.heap.size, 0, none⟩) 2 (by simp) O9.out F9.out D9.out
  · have m0 : (y == 0) = false := by rw [beq_eq_false_iff_ne]; exact n0
    have m1 : (y == 1) = false := by rw [beq_eq_false_iff_ne]; exact n1
    have m2 : (y == 2) = false := by rw [beq_eq_false_iff_ne]; exact n2
    go_wp2
    (try simp only [Exit.inBlock, Exit.then])
    refine ret_lb rfl rfl rfl rfl (bk_set K7.out 0 _ _ rfl) ⟨_, _, _, rfl⟩ ⟨_, _, _, rfl⟩ ?_
    exact Fin.out _ fs A2 c2 (by omega) O7.out F7.out D7.out
end Go.Proofs.Ytooifamckccadaa
