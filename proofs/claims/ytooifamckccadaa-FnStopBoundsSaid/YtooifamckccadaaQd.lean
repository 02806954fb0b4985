/- The draw of a layout, of a block and of an energy: a walk. -/
import Derived.Test.YtooifamckccadaaQc
import Derived.Test.YtooifamckccadaaMy
import Derived.Test.YtooifamckccadaaDq
namespace Go.Proofs.Ytooifamckccadaa
open Go.ChangeShapes Go.WideShapes Go.ChangeAt Go.RowKit
set_option maxRecDepth 20000
set_option linter.unusedVariables false
set_option linter.unusedSimpArgs false
theorem entry_weak {ls : List Seg} {fs : List Int} {b : Int} (h : bkC ls fs b = 0) : ∃ N M : Int, ∀ (A : Option Addr) (B c : Nat) (A' : Option Addr) (c' : Nat) (w : World) (hs : Rd w B A (ls.flatMap eSegment)) (hr : Rd w B A' (ints fs)) (hB : B ≤ w.heap.size) (hn1 : ls.length ≤ 1048576) (hn2 : fs.length ≤ 1048576),
   Calls Try.prog 139 #[.agg #[.slice A ls.length c], .slice A' fs.length c', .int .i64 b] w fun e w' => e = .returned (.tuple #[.int .i64 N, .int .i64 M]) ∧ Below w.heap.size w w' := by
  have hq : abB ls fs = true := by
    cases hq : abB ls fs with
    | true => rfl
    | false => rw [bkC, hq] at h; simp at h
  have h3 : inB b 0 ((fs.length : Int) - 1) = true := by
    cases h3 : inB b 0 ((fs.length : Int) - 1) with
    | true => rfl
    | false => rw [bkC, hq, h3] at h; simp at h
  have h0 : enC ls fs b 0 0 = 0 := by rw [enC, hq, h3]; rfl
  obtain ⟨hlay, hblk, _, b', rfl, hb'⟩ := enC_zero h0
  obtain ⟨f, n, hfb, hend, hfn⟩ := blk_nat hblk hb'
  have ht := List.getElem?_eq_getElem hfn
  generalize ls[f + n] = t at ht
  exact ⟨_, _, fun A B c A' c' w hs hr hB hn1 hn2 => l07Entry_any ls fs b' f n t hlay hb' hfb hend hfn ht A B c A' c' w hs hr hB hn1 hn2⟩
def EntP (w0 : World) (g B : Nat) (C : Option Addr) (cap : Nat) (bl : List Int) (e : Ending) (w' : World) : Prop :=
  ∃ (l : List Seg) (A : Option Addr) (c : Nat) (fs : List Int) (A2 : Option Addr) (c2 : Nat) (x lo hi : Int), e = .returned (.tuple #[.agg #[.slice A l.length c], .slice A2 fs.length c2, .int .i64 x, .agg #[.int .i64 lo, .int .i64 hi]]) ∧ l.length ≤ 25 ∧ fs.length ≤ 60 ∧ w'.ownsRow (w0.heap.size + 2) 39 7 (.slice A l.length c) l.length (l.flatMap eSegment) ∧ w'.ownsRow (w0.heap.size + 2) 2 1 (.slice A2 fs.length c2) fs.length (ints fs) ∧ DS w0 w' g B C cap bl
theorem ret_ent {fn : Func} {t u v s : Tmp} {a : Act} {w : World} {R : Ending → World → Prop} {b b' : Nat} {x y z : Value} {lo hi : Int} (hres : fn.results = #[.cell t 26, .tmp u, .tmp v, .cell s 29]) (ha : a.tmps.getD t undef = .pointer (some ⟨b, 0, none⟩)) (hu : a.tmps.getD u undef = y) (hv : a.tmps.getD v undef = z) (hs : a.tmps.getD s undef = .pointer (some ⟨b', 0, none⟩)) (hd : a.defers = []) (h : Bk w b #[x]) (h' : Bk w b' #[.int .i64 lo, .int .i64 hi]) (h1 : ∃ A n c, x = .slice A n c) (h2 : ∃ A n c, y = .slice A n c) (h3 : ∃ n, z = .int .i64 n) (hR : R (.returned (.tuple #[.agg #[x], y, z, .agg #[.int .i64 lo, .int .i64 hi]])) w) : bodyPost Try.prog fn R .ret a w := by
  obtain ⟨A, n, c, rfl⟩ := h1
  obtain ⟨A2, n2, c2, rfl⟩ := h2
  obtain ⟨m, rfl⟩ := h3
  refine bodyPost_ret ?_ hd hR
  obtain ⟨k1, k2⟩ := bk_at h
  have c0 : w.cell? ⟨b, 0, none⟩ = some (.slice A n c) := k1 0
  obtain ⟨d0, d1, _, _⟩ := bk2 h'
  simp only [Array.getD_eq_getD_getElem?] at ha hu hv hs
  simp [results, hres, ha, hu, hv, hs, go_sem, *]
set_option maxHeartbeats 20000000 in
theorem l07DrawEntry_any (w0 : World) (g B : Nat) (C : Option Addr) (cap : Nat) (bl : List Int) (h : DS w0 w0 g B C cap bl) :
   Calls Try.prog 74 #[.pointer (some ⟨g, 0, none⟩)] w0 (EntP w0 g B C cap bl) := by
  have hg0 := h.size.2
  have H := Lib.hid h
  clear h
  obtain ⟨W, hW⟩ : ∃ W, W = (w0.alloc (.cells #[.slice none 0 0] 26)).alloc (.cells #[.int .i64 0, .int .i64 0] 29) := ⟨_, rfl⟩
  have hWz : W.heap.size = w0.heap.size + 2 := by rw [hW]; simp
  have HW := Lib.hid (show DS w0 W g B C cap bl by rw [hW]; exact (H.out.alloc _).alloc _)
  have K0 := Lib.hid (show Bk W w0.heap.size #[.slice none 0 0] by rw [hW]; exact bk_alloc (bk_new w0 _ _) _)
  have I0 := Lib.hid (show Bk W (w0.heap.size + 1) #[.int .i64 0, .int .i64 0] by rw [hW]; simpa using bk_new (w0.alloc (.cells #[.slice none 0 0] 26)) #[.int .i64 0, .int .i64 0] 29)
  go_enter Try.func74, Try.ntmps74
  go_wp2_with fail
  rw [← hW]
  clear hW
  refine (l04DrawBlock_any W g B C cap bl HW.out.again).mono ?_
  rintro e w1 ⟨l, A, c, fs, A2, c2, x, rfl, hl, hfs, o1, f1, d1⟩
  have O1 := Lib.hid ((own_more o1 (show w0.heap.size + 2 ≤ W.heap.size + 1 by omega)).alloc (.cells #[.slice A l.length c] 26))
  have F1 := Lib.hid ((own_more f1 (show w0.heap.size + 2 ≤ W.heap.size + 1 by omega)).alloc (.cells #[.slice A l.length c] 26))
  have k1 := bk_keep K0.out d1.2.2.1 hg0
  have i1 := bk_keep I0.out d1.2.2.1 (by omega)
  have hbi0 := bk_lt i1
  have K1 := Lib.hid (bk_alloc k1 (.cells #[.slice A l.length c] 26))
  have I1 := Lib.hid (bk_alloc i1 (.cells #[.slice A l.length c] 26))
  have L1 := Lib.hid (bk_new w1 #[.slice A l.length c] 26)
  have D1 := Lib.hid ((HW.out.join d1).alloc (.cells #[.slice A l.length c] 26))
  have hz1 : (w1.alloc (.cells #[.slice A l.length c] 26)).heap.size = w1.heap.size + 1 := by simp
  clear o1 f1 d1 K0 I0 H HW k1 i1
  go_wp2_with fail
  generalize hbv : w1.heap.size = bv at *
  generalize w1.alloc (.cells #[.slice A l.length c] 26) = w2 at *
  refine (l06Draw_any w2 g B C cap bl D1.out.again).mono ?_
  rintro e w3 ⟨lo, hi, rfl, d3⟩
  have hbw0 := d3.size.1
  have v3 := bk_new w3 #[.int .i64 lo, .int .i64 hi] 29
  have g3 := d3.2.2.1
  have HlO := Lib.hid (fun k hk => (own_lt (DS.own O1.out g3 (by omega)) k hk).2)
  have HlF := Lib.hid (fun k hk => (own_lt (DS.own F1.out g3 (by omega)) k hk).2)
  have O4 := Lib.hid ((DS.own O1.out g3 (by omega)).alloc (.cells #[.int .i64 lo, .int .i64 hi] 29))
  have F4 := Lib.hid ((DS.own F1.out g3 (by omega)).alloc (.cells #[.int .i64 lo, .int .i64 hi] 29))
  have K4 := Lib.hid (bk_alloc (bk_keep K1.out g3 hg0) (.cells #[.int .i64 lo, .int .i64 hi] 29))
  have I4 := Lib.hid (bk_alloc (bk_keep I1.out g3 (by omega)) (.cells #[.int .i64 lo, .int .i64 hi] 29))
  have L4 := Lib.hid (bk_alloc (bk_keep L1.out g3 (by omega)) (.cells #[.int .i64 lo, .int .i64 hi] 29))
  have V4 := Lib.hid v3
  have D4 := Lib.hid ((D1.out.join d3).alloc (.cells #[.int .i64 lo, .int .i64 hi] 29))
  have hz4 : (w3.alloc (.cells #[.int .i64 lo, .int .i64 hi] 29)).heap.size = w3.heap.size + 1 := by simp
  clear d3 v3 g3 O1 F1 K1 I1 L1 D1
  obtain ⟨s0, sf, ss⟩ := bk1 L4.out
  go_wp2_with fail
  generalize w3.alloc (.cells #[.int .i64 lo, .int .i64 hi] 29) = w4 at *
  generalize hbw : w3.heap.size = bw at *
  have hne1 : bv ≠ w0.heap.size := by omega
  have hne2 : w0.heap.size ≠ bv := by omega
  have hne3 : bv ≠ w0.heap.size + 1 := by omega
  have hne4 : w0.heap.size + 1 ≠ bv := by omega
  have hne5 : bw ≠ w0.heap.size := by omega
  have hne6 : w0.heap.size ≠ bw := by omega
  have hne7 : bw ≠ w0.heap.size + 1 := by omega
  have hne8 : w0.heap.size + 1 ≠ bw := by omega
  refine (l04Block_any l fs x A _ c A2 c2 w4 (Rd.of_own O4.out) (Rd.of_own F4.out) (Nat.le_refl _) (by omega) (by omega)).mono ?_
  rintro e w5 ⟨rfl, b5⟩
  have z5 := b5.size
  have O5 := Lib.hid (own_below O4.out b5)
  have F5 := Lib.hid (own_below F4.out b5)
  have K5 := Lib.hid (bk_below K4.out b5 (by omega))
  have I5 := Lib.hid (bk_below I4.out b5 (by omega))
  have L5 := Lib.hid (bk_below L4.out b5 (by omega))
  have V5 := Lib.hid (bk_below V4.out b5 (by omega))
  have D5 := Lib.hid (ds_below D4.out b5)
  clear b5 O4 F4 K4 I4 L4 V4 D4 s0 sf ss
  by_cases hK : bkC l fs x = 0
  rotate_left
  · as_aux_lemma =>
      have hk0 : (bkC l fs x == 0) = false := by rw [beq_eq_false_iff_ne]; exact hK
      clear hK
      generalize bkC l fs x = K at *
      obtain ⟨s0, sf, ss⟩ := bk1 L5.out
      obtain ⟨r0, rf, rs⟩ := bk1 K5.out
      obtain ⟨p0, p1, pf, ps⟩ := bk2 I5.out
      obtain ⟨q0, q1, qf, qs⟩ := bk2 V5.out
      go_wp2_with fail
      go_region_held3 (fun w' => w'.cell? ⟨bv, 0, none⟩ = some (.slice A l.length c) ∧ w'.cell? ⟨bw, 0, none⟩ = some (.int .i64 lo) ∧ w'.cell? ⟨bw, 1, none⟩ = some (.int .i64 hi)) ((repeat' apply And.intro) <;> (first | assumption | (simp [*, World.cell?_alloc_past, World.cell?_setCell_far]))) (fail)
      all_goals (
        go_wp2
        (try simp only [Exit.inBlock, Exit.then])
        refine ret_ent (b := w0.heap.size) (b' := w0.heap.size + 1) (lo := lo) (hi := hi) (x := .slice A l.length c) (y := .slice A2 fs.length c2) (z := .int .i64 x) rfl rfl rfl rfl rfl rfl (bk_drew (bk_other (bk_other (bk_set K5.out 0 _ _ rfl) (by omega) _ _) (by omega) _ _)) (bk_drew (bk_fill2 (bk_other I5.out (by omega) _ _) _ _)) ⟨_, _, _, rfl⟩ ⟨_, _, _, rfl⟩ ⟨_, rfl⟩ ?_
        exact ⟨l, A, c, fs, A2, c2, x, _, _, rfl, hl, hfs, own_drew (ownsRow_setCell_below (ownsRow_setCell_below (ownsRow_setCell_below O5.out (by simp) _) (by simp) _) (by simp) _), own_drew (ownsRow_setCell_below (ownsRow_setCell_below (ownsRow_setCell_below F5.out (by simp) _) (by simp) _) (by simp) _), DS.drew (((D5.out.set (Nat.le_refl _) _ _).set (Nat.le_succ _) _ _).set (Nat.le_succ _) _ _)⟩)
  · obtain ⟨N, M, HN⟩ := entry_weak hK
    have hk0 : (bkC l fs x == 0) = true := by rw [hK]; rfl
    clear hK
    generalize bkC l fs x = K at *
    go_wp2_with fail
    refine (next_ds D5.out 8).mono ?_
    rintro e w6 ⟨z, rfl, z0, z1, d6, g6⟩
    have O6 := Lib.hid (DS.own O5.out g6 (by omega))
    have F6 := Lib.hid (DS.own F5.out g6 (by omega))
    have K6 := Lib.hid (bk_keep K5.out g6 hg0)
    have I6 := Lib.hid (bk_keep I5.out g6 (by omega))
    have L6 := Lib.hid (bk_keep L5.out g6 (by omega))
    have V6 := Lib.hid (bk_keep V5.out g6 (by omega))
    have D6 := Lib.hid d6
    clear d6 g6 O5 F5 K5 I5 L5 V5 D5
    by_cases hz : 0 < z
    rotate_left
    · as_aux_lemma =>
        have hzd : decide (0 < z) = false := decide_eq_false hz
        obtain ⟨s0, sf, ss⟩ := bk1 L6.out
        obtain ⟨r0, rf, rs⟩ := bk1 K6.out
        obtain ⟨p0, p1, pf, ps⟩ := bk2 I6.out
        obtain ⟨q0, q1, qf, qs⟩ := bk2 V6.out
        go_wp2_with fail
        go_region_held3 (fun w' => w'.cell? ⟨bv, 0, none⟩ = some (.slice A l.length c) ∧ w'.cell? ⟨bw, 0, none⟩ = some (.int .i64 lo) ∧ w'.cell? ⟨bw, 1, none⟩ = some (.int .i64 hi)) ((repeat' apply And.intro) <;> (first | assumption | (simp [*, World.cell?_alloc_past, World.cell?_setCell_far]))) (fail)
        all_goals (
          go_wp2
          (try simp only [Exit.inBlock, Exit.then])
          refine ret_ent (b := w0.heap.size) (b' := w0.heap.size + 1) (lo := lo) (hi := hi) (x := .slice A l.length c) (y := .slice A2 fs.length c2) (z := .int .i64 x) rfl rfl rfl rfl rfl rfl (bk_drew (bk_other (bk_other (bk_set K6.out 0 _ _ rfl) (by omega) _ _) (by omega) _ _)) (bk_drew (bk_fill2 (bk_other I6.out (by omega) _ _) _ _)) ⟨_, _, _, rfl⟩ ⟨_, _, _, rfl⟩ ⟨_, rfl⟩ ?_
          exact ⟨l, A, c, fs, A2, c2, x, _, _, rfl, hl, hfs, own_drew (ownsRow_setCell_below (ownsRow_setCell_below (ownsRow_setCell_below O6.out (by simp) _) (by simp) _) (by simp) _), own_drew (ownsRow_setCell_below (ownsRow_setCell_below (ownsRow_setCell_below F6.out (by simp) _) (by simp) _) (by simp) _), DS.drew (((D6.out.set (Nat.le_refl _) _ _).set (Nat.le_succ _) _ _).set (Nat.le_succ _) _ _)⟩)
    · have hzd : decide (0 < z) = true := decide_eq_true hz
      obtain ⟨s0, sf, ss⟩ := bk1 L6.out
      go_wp2_with fail
      refine (HN A _ c A2 c2 w6 (Rd.of_own O6.out) (Rd.of_own F6.out) (Nat.le_refl _) (by omega) (by omega)).mono ?_
      rintro e w7 ⟨rfl, b7⟩
      have z7 := b7.size
      have O7 := Lib.hid (own_below O6.out b7)
      have F7 := Lib.hid (own_below F6.out b7)
      have K7 := Lib.hid (bk_below K6.out b7 (bk_lt K6.out))
      have I7 := Lib.hid (bk_below I6.out b7 (bk_lt I6.out))
      have L7 := Lib.hid (bk_below L6.out b7 (bk_lt L6.out))
      have V7 := Lib.hid (bk_below V6.out b7 (bk_lt V6.out))
      have D7 := Lib.hid (ds_below D6.out b7)
      clear b7 O6 F6 K6 I6 L6 V6 D6 s0 sf ss HN
      by_cases hNM : N ≤ M
      rotate_left
      · as_aux_lemma =>
          have hnm : decide (N ≤ M) = false := decide_eq_false hNM
          obtain ⟨s0, sf, ss⟩ := bk1 L7.out
          obtain ⟨r0, rf, rs⟩ := bk1 K7.out
          obtain ⟨p0, p1, pf, ps⟩ := bk2 I7.out
          obtain ⟨q0, q1, qf, qs⟩ := bk2 V7.out
          go_wp2_with fail
          go_region_held3 (fun w' => w'.cell? ⟨bv, 0, none⟩ = some (.slice A l.length c) ∧ w'.cell? ⟨bw, 0, none⟩ = some (.int .i64 lo) ∧ w'.cell? ⟨bw, 1, none⟩ = some (.int .i64 hi)) ((repeat' apply And.intro) <;> (first | assumption | (simp [*, World.cell?_alloc_past, World.cell?_setCell_far]))) (fail)
          all_goals (
            go_wp2
            (try simp only [Exit.inBlock, Exit.then])
            refine ret_ent (b := w0.heap.size) (b' := w0.heap.size + 1) (lo := lo) (hi := hi) (x := .slice A l.length c) (y := .slice A2 fs.length c2) (z := .int .i64 x) rfl rfl rfl rfl rfl rfl (bk_drew (bk_other (bk_other (bk_set K7.out 0 _ _ rfl) (by omega) _ _) (by omega) _ _)) (bk_drew (bk_fill2 (bk_other I7.out (by omega) _ _) _ _)) ⟨_, _, _, rfl⟩ ⟨_, _, _, rfl⟩ ⟨_, rfl⟩ ?_
            exact ⟨l, A, c, fs, A2, c2, x, _, _, rfl, hl, hfs, own_drew (ownsRow_setCell_below (ownsRow_setCell_below (ownsRow_setCell_below O7.out (by simp) _) (by simp) _) (by simp) _), own_drew (ownsRow_setCell_below (ownsRow_setCell_below (ownsRow_setCell_below F7.out (by simp) _) (by simp) _) (by simp) _), DS.drew (((D7.out.set (Nat.le_refl _) _ _).set (Nat.le_succ _) _ _).set (Nat.le_succ _) _ _)⟩)
      · have hnm : decide (N ≤ M) = true := decide_eq_true hNM
        go_wp2_with fail
        refine (next_al D7.out _).mono ?_
        rintro e w8 ⟨u, rfl, d8, g8⟩
        have O8 := Lib.hid (DS.own O7.out g8 (by omega))
        have F8 := Lib.hid (DS.own F7.out g8 (by omega))
        have K8 := Lib.hid (bk_keep K7.out g8 hg0)
        have I8 := Lib.hid (bk_keep I7.out g8 (by omega))
        have L8 := Lib.hid (bk_keep L7.out g8 (by omega))
        have V8 := Lib.hid (bk_keep V7.out g8 (by omega))
        have D8 := Lib.hid d8
        clear d8 g8 O7 F7 K7 I7 L7 V7 D7
        go_wp2_with fail
        refine (next_al D8.out _).mono ?_
        rintro e w9 ⟨v, rfl, d9, g9⟩
        have O9 := Lib.hid (DS.own O8.out g9 (by omega))
        have F9 := Lib.hid (DS.own F8.out g9 (by omega))
        have K9 := Lib.hid (bk_keep K8.out g9 hg0)
        have I9 := Lib.hid (bk_keep I8.out g9 (by omega))
        have L9 := Lib.hid (bk_keep L8.out g9 (by omega))
        have V9 := Lib.hid (bk_keep V8.out g9 (by omega))
        have D9 := Lib.hid d9
        clear d9 g9 O8 F8 K8 I8 L8 V8 D8
        go_wp2_with fail
        generalize wrap64 (N + u) = a
        generalize wrap64 (a + v) = bb
        refine (next_al D9.out 20).mono ?_
        rintro e w10 ⟨y, rfl, d10, g10⟩
        have O10 := Lib.hid (DS.own O9.out g10 (by omega))
        have F10 := Lib.hid (DS.own F9.out g10 (by omega))
        have K10 := Lib.hid (bk_keep K9.out g10 hg0)
        have I10 := Lib.hid (bk_keep I9.out g10 (by omega))
        have L10 := Lib.hid (bk_keep L9.out g10 (by omega))
        have V10 := Lib.hid (bk_keep V9.out g10 (by omega))
        have D10 := Lib.hid d10
        clear d10 g10 O9 F9 K9 I9 L9 V9 D9
        go_wp2_with fail
        · as_aux_lemma =>
            refine (next_al D10.out 20).mono ?_
            rintro e w11 ⟨y2, rfl, d11, g11⟩
            have O11 := Lib.hid (DS.own O10.out g11 (by omega))
            have F11 := Lib.hid (DS.own F10.out g11 (by omega))
            have K11 := Lib.hid (bk_keep K10.out g11 hg0)
            have I11 := Lib.hid (bk_keep I10.out g11 (by omega))
            have L11 := Lib.hid (bk_keep L10.out g11 (by omega))
            have V11 := Lib.hid (bk_keep V10.out g11 (by omega))
            have D11 := Lib.hid d11
            clear d11 g11 O10 F10 K10 I10 L10 V10 D10
            obtain ⟨q0, q1, qf, qs⟩ := bk2 V11.out
            obtain ⟨s0, sf, ss⟩ := bk1 L11.out
            obtain ⟨r0, rf, rs⟩ := bk1 K11.out
            obtain ⟨p0, p1, pf, ps⟩ := bk2 I11.out
            go_wp2_with fail
            have K12 := Lib.hid (show Bk ((w11.setCell ⟨bw, 0, none⟩ (.int .i64 (wrap64 (a - wrap64 (y.tdiv 19))))).setCell ⟨bw, 1, none⟩ (.int .i64 (wrap64 (bb + wrap64 (y2.tdiv 19))))) w0.heap.size _ from bk_other (bk_other K11.out (by omega) _ _) (by omega) _ _)
            have I12 := Lib.hid (show Bk ((w11.setCell ⟨bw, 0, none⟩ (.int .i64 (wrap64 (a - wrap64 (y.tdiv 19))))).setCell ⟨bw, 1, none⟩ (.int .i64 (wrap64 (bb + wrap64 (y2.tdiv 19))))) (w0.heap.size + 1) _ from bk_other (bk_other I11.out (by omega) _ _) (by omega) _ _)
            have L12 := Lib.hid (show Bk ((w11.setCell ⟨bw, 0, none⟩ (.int .i64 (wrap64 (a - wrap64 (y.tdiv 19))))).setCell ⟨bw, 1, none⟩ (.int .i64 (wrap64 (bb + wrap64 (y2.tdiv 19))))) bv _ from bk_other (bk_other L11.out (by omega) _ _) (by omega) _ _)
            have V12 := Lib.hid (show Bk ((w11.setCell ⟨bw, 0, none⟩ (.int .i64 (wrap64 (a - wrap64 (y.tdiv 19))))).setCell ⟨bw, 1, none⟩ (.int .i64 (wrap64 (bb + wrap64 (y2.tdiv 19))))) bw #[.int .i64 (wrap64 (a - wrap64 (y.tdiv 19))), .int .i64 (wrap64 (bb + wrap64 (y2.tdiv 19)))] from bk_fill2 V11.out _ _)
            have O12 := Lib.hid (O11.out.kept (w' := ((w11.setCell ⟨bw, 0, none⟩ (.int .i64 (wrap64 (a - wrap64 (y.tdiv 19))))).setCell ⟨bw, 1, none⟩ (.int .i64 (wrap64 (bb + wrap64 (y2.tdiv 19)))))) (row := some bw) ⟨rfl, rfl, rfl, by simp, fun k _ hk => (heap_setCell_other _ ⟨bw, 1, none⟩ k _ (fun e => hk (by simp [e]))).trans (heap_setCell_other w11 ⟨bw, 0, none⟩ k _ (fun e => hk (by simp [e])))⟩ (.inr (fun e => by have := HlO.out _ e; omega)))
            have F12 := Lib.hid (F11.out.kept (w' := ((w11.setCell ⟨bw, 0, none⟩ (.int .i64 (wrap64 (a - wrap64 (y.tdiv 19))))).setCell ⟨bw, 1, none⟩ (.int .i64 (wrap64 (bb + wrap64 (y2.tdiv 19)))))) (row := some bw) ⟨rfl, rfl, rfl, by simp, fun k _ hk => (heap_setCell_other _ ⟨bw, 1, none⟩ k _ (fun e => hk (by simp [e]))).trans (heap_setCell_other w11 ⟨bw, 0, none⟩ k _ (fun e => hk (by simp [e])))⟩ (.inr (fun e => by have := HlF.out _ e; omega)))
            have D12 := Lib.hid (show DS w0 ((w11.setCell ⟨bw, 0, none⟩ (.int .i64 (wrap64 (a - wrap64 (y.tdiv 19))))).setCell ⟨bw, 1, none⟩ (.int .i64 (wrap64 (bb + wrap64 (y2.tdiv 19))))) g B C cap bl from (D11.out.set (by omega) _ _).set (by omega) _ _)
            clear s0 sf ss r0 rf rs p0 p1 pf ps q0 q1 qf qs
            generalize ((w11.setCell ⟨bw, 0, none⟩ (.int .i64 (wrap64 (a - wrap64 (y.tdiv 19))))).setCell ⟨bw, 1, none⟩ (.int .i64 (wrap64 (bb + wrap64 (y2.tdiv 19))))) = w12 at *
            as_aux_lemma =>
              obtain ⟨s0, sf, ss⟩ := bk1 L12.out
              obtain ⟨r0, rf, rs⟩ := bk1 K12.out
              obtain ⟨p0, p1, pf, ps⟩ := bk2 I12.out
              obtain ⟨q0, q1, qf, qs⟩ := bk2 V12.out
              go_region_held3 (fun w' => w'.cell? ⟨bv, 0, none⟩ = some (.slice A l.length c) ∧ w'.cell? ⟨bw, 0, none⟩ = some (.int .i64 (wrap64 (a - wrap64 (y.tdiv 19)))) ∧ w'.cell? ⟨bw, 1, none⟩ = some (.int .i64 (wrap64 (bb + wrap64 (y2.tdiv 19))))) ((repeat' apply And.intro) <;> (first | assumption | (simp [*, World.cell?_alloc_past, World.cell?_setCell_far]))) (fail)
              all_goals (
                go_wp2
                (try simp only [Exit.inBlock, Exit.then])
                refine ret_ent (b := w0.heap.size) (b' := w0.heap.size + 1) (lo := (wrap64 (a - wrap64 (y.tdiv 19)))) (hi := (wrap64 (bb + wrap64 (y2.tdiv 19)))) (x := .slice A l.length c) (y := .slice A2 fs.length c2) (z := .int .i64 x) rfl rfl rfl rfl rfl rfl (bk_drew (bk_other (bk_other (bk_set K12.out 0 _ _ rfl) (by omega) _ _) (by omega) _ _)) (bk_drew (bk_fill2 (bk_other I12.out (by omega) _ _) _ _)) ⟨_, _, _, rfl⟩ ⟨_, _, _, rfl⟩ ⟨_, rfl⟩ ?_
                exact ⟨l, A, c, fs, A2, c2, x, _, _, rfl, hl, hfs, own_drew (ownsRow_setCell_below (ownsRow_setCell_below (ownsRow_setCell_below O12.out (by simp) _) (by simp) _) (by simp) _), own_drew (ownsRow_setCell_below (ownsRow_setCell_below (ownsRow_setCell_below F12.out (by simp) _) (by simp) _) (by simp) _), DS.drew (((D12.out.set (Nat.le_refl _) _ _).set (Nat.le_succ _) _ _).set (Nat.le_succ _) _ _)⟩)
        · as_aux_lemma =>
            refine (next_al D10.out 20).mono ?_
            rintro e w11 ⟨y2, rfl, d11, g11⟩
            have O11 := Lib.hid (DS.own O10.out g11 (by omega))
            have F11 := Lib.hid (DS.own F10.out g11 (by omega))
            have K11 := Lib.hid (bk_keep K10.out g11 hg0)
            have I11 := Lib.hid (bk_keep I10.out g11 (by omega))
            have L11 := Lib.hid (bk_keep L10.out g11 (by omega))
            have V11 := Lib.hid (bk_keep V10.out g11 (by omega))
            have D11 := Lib.hid d11
            clear d11 g11 O10 F10 K10 I10 L10 V10 D10
            obtain ⟨q0, q1, qf, qs⟩ := bk2 V11.out
            obtain ⟨s0, sf, ss⟩ := bk1 L11.out
            obtain ⟨r0, rf, rs⟩ := bk1 K11.out
            obtain ⟨p0, p1, pf, ps⟩ := bk2 I11.out
            go_wp2_with fail
            have K12 := Lib.hid (show Bk ((w11.setCell ⟨bw, 0, none⟩ (.int .i64 0)).setCell ⟨bw, 1, none⟩ (.int .i64 (wrap64 (bb + wrap64 (y2.tdiv 19))))) w0.heap.size _ from bk_other (bk_other K11.out (by omega) _ _) (by omega) _ _)
            have I12 := Lib.hid (show Bk ((w11.setCell ⟨bw, 0, none⟩ (.int .i64 0)).setCell ⟨bw, 1, none⟩ (.int .i64 (wrap64 (bb + wrap64 (y2.tdiv 19))))) (w0.heap.size + 1) _ from bk_other (bk_other I11.out (by omega) _ _) (by omega) _ _)
            have L12 := Lib.hid (show Bk ((w11.setCell ⟨bw, 0, none⟩ (.int .i64 0)).setCell ⟨bw, 1, none⟩ (.int .i64 (wrap64 (bb + wrap64 (y2.tdiv 19))))) bv _ from bk_other (bk_other L11.out (by omega) _ _) (by omega) _ _)
            have V12 := Lib.hid (show Bk ((w11.setCell ⟨bw, 0, none⟩ (.int .i64 0)).setCell ⟨bw, 1, none⟩ (.int .i64 (wrap64 (bb + wrap64 (y2.tdiv 19))))) bw #[.int .i64 0, .int .i64 (wrap64 (bb + wrap64 (y2.tdiv 19)))] from bk_fill2 V11.out _ _)
            have O12 := Lib.hid (O11.out.kept (w' := ((w11.setCell ⟨bw, 0, none⟩ (.int .i64 0)).setCell ⟨bw, 1, none⟩ (.int .i64 (wrap64 (bb + wrap64 (y2.tdiv 19)))))) (row := some bw) ⟨rfl, rfl, rfl, by simp, fun k _ hk => (heap_setCell_other _ ⟨bw, 1, none⟩ k _ (fun e => hk (by simp [e]))).trans (heap_setCell_other w11 ⟨bw, 0, none⟩ k _ (fun e => hk (by simp [e])))⟩ (.inr (fun e => by have := HlO.out _ e; omega)))
            have F12 := Lib.hid (F11.out.kept (w' := ((w11.setCell ⟨bw, 0, none⟩ (.int .i64 0)).setCell ⟨bw, 1, none⟩ (.int .i64 (wrap64 (bb + wrap64 (y2.tdiv 19)))))) (row := some bw) ⟨rfl, rfl, rfl, by simp, fun k _ hk => (heap_setCell_other _ ⟨bw, 1, none⟩ k _ (fun e => hk (by simp [e]))).trans (heap_setCell_other w11 ⟨bw, 0, none⟩ k _ (fun e => hk (by simp [e])))⟩ (.inr (fun e => by have := HlF.out _ e; omega)))
            have D12 := Lib.hid (show DS w0 ((w11.setCell ⟨bw, 0, none⟩ (.int .i64 0)).setCell ⟨bw, 1, none⟩ (.int .i64 (wrap64 (bb + wrap64 (y2.tdiv 19))))) g B C cap bl from (D11.out.set (by omega) _ _).set (by omega) _ _)
            clear s0 sf ss r0 rf rs p0 p1 pf ps q0 q1 qf qs
            generalize ((w11.setCell ⟨bw, 0, none⟩ (.int .i64 0)).setCell ⟨bw, 1, none⟩ (.int .i64 (wrap64 (bb + wrap64 (y2.tdiv 19))))) = w12 at *
            as_aux_lemma =>
              obtain ⟨s0, sf, ss⟩ := bk1 L12.out
              obtain ⟨r0, rf, rs⟩ := bk1 K12.out
              obtain ⟨p0, p1, pf, ps⟩ := bk2 I12.out
              obtain ⟨q0, q1, qf, qs⟩ := bk2 V12.out
              go_region_held3 (fun w' => w'.cell? ⟨bv, 0, none⟩ = some (.slice A l.length c) ∧ w'.cell? ⟨bw, 0, none⟩ = some (.int .i64 0) ∧ w'.cell? ⟨bw, 1, none⟩ = some (.int .i64 (wrap64 (bb + wrap64 (y2.tdiv 19))))) ((repeat' apply And.intro) <;> (first | assumption | (simp [*, World.cell?_alloc_past, World.cell?_setCell_far]))) (fail)
              all_goals (
                go_wp2
                (try simp only [Exit.inBlock, Exit.then])
                refine ret_ent (b := w0.heap.size) (b' := w0.heap.size + 1) (lo := 0) (hi := (wrap64 (bb + wrap64 (y2.tdiv 19)))) (x := .slice A l.length c) (y := .slice A2 fs.length c2) (z := .int .i64 x) rfl rfl rfl rfl rfl rfl (bk_drew (bk_other (bk_other (bk_set K12.out 0 _ _ rfl) (by omega) _ _) (by omega) _ _)) (bk_drew (bk_fill2 (bk_other I12.out (by omega) _ _) _ _)) ⟨_, _, _, rfl⟩ ⟨_, _, _, rfl⟩ ⟨_, rfl⟩ ?_
                exact ⟨l, A, c, fs, A2, c2, x, _, _, rfl, hl, hfs, own_drew (ownsRow_setCell_below (ownsRow_setCell_below (ownsRow_setCell_below O12.out (by simp) _) (by simp) _) (by simp) _), own_drew (ownsRow_setCell_below (ownsRow_setCell_below (ownsRow_setCell_below F12.out (by simp) _) (by simp) _) (by simp) _), DS.drew (((D12.out.set (Nat.le_refl _) _ _).set (Nat.le_succ _) _ _).set (Nat.le_succ _) _ _)⟩)
end Go.Proofs.Ytooifamckccadaa
