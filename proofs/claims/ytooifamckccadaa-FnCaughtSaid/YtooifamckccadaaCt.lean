/- The law on trains that are caught. -/
import Derived.Test.YtooifamckccadaaHs
import Derived.Test.YtooifamckccadaaDae
import Derived.Test.YtooifamckccadaaAdw
namespace Go.Proofs.Ytooifamckccadaa
open Go.ChangeShapes Go.WideShapes Go.ChangeAt Go.RowKit
set_option maxRecDepth 20000
set_option linter.unusedVariables false
set_option linter.unusedSimpArgs false
set_option maxHeartbeats 4000000 in
theorem walkFnCaught (bl : List Int) (hbl : isU8 bl) (C : Option Addr) (cap : Nat) (w : World) (hr : Rd w w.heap.size C (bytesU bl)) (hlc : bl.length ≤ cap) (hm : cap ≤ maxLen) :
   Calls Try.prog 3 #[.slice C bl.length cap] w fun e w' => e = .returned (.bool true) ∧ Below w.heap.size w w' := by
  unfold maxLen at hm
  by_cases hn : bl.length ≤ 4096
  rotate_left
  · have hd : decide ((4096 : Int) < (bl.length : Int)) = true := by simp; omega
    go_enter Try.func3, Try.ntmps3
    go_wp2_with (go_at_call 18; refine (big_any _ _ _ _ (by omega)).mono ?_; rintro e w' ⟨rfl, rfl⟩)
    go_ret
    exact ⟨rfl, Below.refl _ _⟩
  have hd : decide ((4096 : Int) < (bl.length : Int)) = false := by simp; omega
  go_enter Try.func3, Try.ntmps3
  go_wp2_with fail
  refine (big_any _ _ _ _ (by omega)).mono ?_; rintro e w' ⟨rfl, rfl⟩
  go_wp2_with fail
  refine (drawArr_any bl hbl hn C cap _ hr).mono ?_
  rintro e w0 ⟨l, A, c, fs, Af, cf, b, x, y, on, Ao, co, rfl, hl, hfs, hon, hcf, hcm, Rl, Rf, Ro, b0⟩
  clear hr hbl hd
  have z0 := b0.size
  have HA := Lib.hid (fun (w' : World) (h1 : Rd w' w0.heap.size A (l.flatMap eSegment)) (h3 : Rd w' w0.heap.size Af (ints fs)) (h2 : Rd w' w0.heap.size Ao (ints on)) (hB : w0.heap.size ≤ w'.heap.size) => arrival_impl l fs on b x y A w0.heap.size c Af cf Ao co w' h1 h3 h2 hB (by omega) (by omega) (by omega) hcf hcm)
  have HAs := Lib.hid (fun (w' : World) (h1 : Rd w' w0.heap.size A (l.flatMap eSegment)) (h3 : Rd w' w0.heap.size Af (ints fs)) (h2 : Rd w' w0.heap.size Ao (ints on)) (hB : w0.heap.size ≤ w'.heap.size) => arrival_spec l fs on b x y A w0.heap.size c Af cf Ao co w' h1 h3 h2 hB (by omega) (by omega) (by omega) hcf hcm)
  have HC := Lib.hid (fun (w' : World) (h1 : Rd w' w0.heap.size A (l.flatMap eSegment)) (h3 : Rd w' w0.heap.size Af (ints fs)) (h2 : Rd w' w0.heap.size Ao (ints on)) (hB : w0.heap.size ≤ w'.heap.size) => caught_impl l fs on b x y A w0.heap.size c Af cf Ao co w' h1 h3 h2 hB (by omega) (by omega) (by omega) hcf hcm)
  have HCs := Lib.hid (fun (w' : World) (h1 : Rd w' w0.heap.size A (l.flatMap eSegment)) (h3 : Rd w' w0.heap.size Af (ints fs)) (h2 : Rd w' w0.heap.size Ao (ints on)) (hB : w0.heap.size ≤ w'.heap.size) => caught_spec l fs on b x y A w0.heap.size c Af cf Ao co w' h1 h3 h2 hB (by omega) (by omega) (by omega) hcf hcm)
  have BAD := Lib.hid (fun h : aeC l fs on b x y ≠ 0 => ic_bad h)
  have GOOD := Lib.hid (fun h : aeC l fs on b x y = 0 => ic_good h)
  have BKC := Lib.hid (fun h : aeC l fs on b x y = 0 => bkC_of_en (enC_of_ae h))
  generalize icB l fs on b x y = IC at *
  generalize aeV l fs on b x y = V at *
  generalize aeC l fs on b x y = K at *
  obtain ⟨v0, v1⟩ := V
  dsimp only at *
  have Rl1 := Lib.hid ((Rl.alloc (Nat.le_refl _) (.cells #[.slice A l.length c] 26)).alloc (by simp) (.cells #[.int .i64 x, .int .i64 y] 29))
  have Rf1 := Lib.hid ((Rf.alloc (Nat.le_refl _) (.cells #[.slice A l.length c] 26)).alloc (by simp) (.cells #[.int .i64 x, .int .i64 y] 29))
  have Ro1 := Lib.hid ((Ro.alloc (Nat.le_refl _) (.cells #[.slice A l.length c] 26)).alloc (by simp) (.cells #[.int .i64 x, .int .i64 y] 29))
  have L1 := Lib.hid (bk_alloc (bk_new w0 #[.slice A l.length c] 26) (.cells #[.int .i64 x, .int .i64 y] 29))
  have I1 : Hid (Bk ((w0.alloc (.cells #[.slice A l.length c] 26)).alloc (.cells #[.int .i64 x, .int .i64 y] 29)) (w0.heap.size + 1) #[.int .i64 x, .int .i64 y]) := Lib.hid (by simpa using bk_new (w0.alloc (.cells #[.slice A l.length c] 26)) #[.int .i64 x, .int .i64 y] 29)
  have B1 := Lib.hid (show Below w.heap.size w ((w0.alloc (.cells #[.slice A l.length c] 26)).alloc (.cells #[.int .i64 x, .int .i64 y] 29)) from b0.trans ((((Below.refl w0.heap.size w0).alloc (Nat.le_refl _) _).alloc (by simp) _).mono z0))
  clear Rl Rf Ro b0
  go_wp2_with fail
  have hz1 : w0.heap.size + 1 < ((w0.alloc (.cells #[.slice A l.length c] 26)).alloc (.cells #[.int .i64 x, .int .i64 y] 29)).heap.size := by simp
  generalize ((w0.alloc (.cells #[.slice A l.length c] 26)).alloc (.cells #[.int .i64 x, .int .i64 y] 29)) = w1 at *
  refine (HA.out w1 Rl1.out Rf1.out Ro1.out (by omega)).mono ?_; rintro e w2 ⟨rfl, b2⟩
  have z2 := b2.size
  have L2 := Lib.hid (bk_alloc (bk_below L1.out b2 (by omega)) (.cells #[.int .i64 v0, .int .i64 v1] 29))
  have I2 := Lib.hid (bk_alloc (bk_below I1.out b2 (by omega)) (.cells #[.int .i64 v0, .int .i64 v1] 29))
  have V2 := Lib.hid (bk_new w2 #[.int .i64 v0, .int .i64 v1] 29)
  have Rl2 := Lib.hid ((Rl1.out.below b2 (by omega)).alloc (by omega) (.cells #[.int .i64 v0, .int .i64 v1] 29))
  have Rf2 := Lib.hid ((Rf1.out.below b2 (by omega)).alloc (by omega) (.cells #[.int .i64 v0, .int .i64 v1] 29))
  have Ro2 := Lib.hid ((Ro1.out.below b2 (by omega)).alloc (by omega) (.cells #[.int .i64 v0, .int .i64 v1] 29))
  have B2 := Lib.hid ((B1.out.trans (b2.mono (by omega))).alloc (by omega) (.cells #[.int .i64 v0, .int .i64 v1] 29))
  have hz3 : (w2.alloc (.cells #[.int .i64 v0, .int .i64 v1] 29)).heap.size = w2.heap.size + 1 := by simp
  clear b2 L1 I1 Rl1 Rf1 Ro1 B1 HA
  obtain ⟨s0, sf, ss⟩ := bk1 L2.out
  obtain ⟨q0, q1, qf, qs⟩ := bk2 I2.out
  go_wp2_with fail
  have hgv : w0.heap.size + 1 < w2.heap.size := by omega
  generalize w2.alloc (.cells #[.int .i64 v0, .int .i64 v1] 29) = w3 at *
  generalize w2.heap.size = bv at *
  refine (HAs.out w3 Rl2.out Rf2.out Ro2.out (by omega)).mono ?_; rintro e w4 ⟨rfl, b4⟩
  have z4 := b4.size
  have L4 := Lib.hid (bk_alloc (bk_below L2.out b4 (by omega)) (.cells #[.int .i64 v0, .int .i64 v1] 29))
  have I4 := Lib.hid (bk_alloc (bk_below I2.out b4 (by omega)) (.cells #[.int .i64 v0, .int .i64 v1] 29))
  have V4 := Lib.hid (bk_alloc (bk_below V2.out b4 (by omega)) (.cells #[.int .i64 v0, .int .i64 v1] 29))
  have U4 := Lib.hid (bk_new w4 #[.int .i64 v0, .int .i64 v1] 29)
  have Rl4 := Lib.hid ((Rl2.out.below b4 (by omega)).alloc (by omega) (.cells #[.int .i64 v0, .int .i64 v1] 29))
  have Rf4 := Lib.hid ((Rf2.out.below b4 (by omega)).alloc (by omega) (.cells #[.int .i64 v0, .int .i64 v1] 29))
  have Ro4 := Lib.hid ((Ro2.out.below b4 (by omega)).alloc (by omega) (.cells #[.int .i64 v0, .int .i64 v1] 29))
  have B4 := Lib.hid ((B2.out.trans (b4.mono (by omega))).alloc (by omega) (.cells #[.int .i64 v0, .int .i64 v1] 29))
  have hz5 : (w4.alloc (.cells #[.int .i64 v0, .int .i64 v1] 29)).heap.size = w4.heap.size + 1 := by simp
  clear b4 L2 I2 V2 Rl2 Rf2 Ro2 B2 HAs s0 sf ss q0 q1 qf qs
  obtain ⟨s0, sf, ss⟩ := bk1 L4.out
  obtain ⟨q0, q1, qf, qs⟩ := bk2 I4.out
  go_wp2_with fail
  have hgu : bv < w4.heap.size := by omega
  generalize w4.alloc (.cells #[.int .i64 v0, .int .i64 v1] 29) = w5 at *
  generalize w4.heap.size = bu at *
  refine (HC.out w5 Rl4.out Rf4.out Ro4.out (by omega)).mono ?_; rintro e w6 ⟨rfl, b6⟩
  have z6 := b6.size
  have L6 := Lib.hid (bk_below L4.out b6 (by omega))
  have I6 := Lib.hid (bk_below I4.out b6 (by omega))
  have V6 := Lib.hid (bk_below V4.out b6 (by omega))
  have U6 := Lib.hid (bk_below U4.out b6 (by omega))
  have Rl6 := Lib.hid (Rl4.out.below b6 (by omega))
  have Rf6 := Lib.hid (Rf4.out.below b6 (by omega))
  have Ro6 := Lib.hid (Ro4.out.below b6 (by omega))
  have B6 := Lib.hid (B4.out.trans (b6.mono (by omega)))
  clear b6 L4 I4 V4 U4 Rl4 Rf4 Ro4 B4 HC s0 sf ss q0 q1 qf qs
  obtain ⟨s0, sf, ss⟩ := bk1 L6.out
  obtain ⟨q0, q1, qf, qs⟩ := bk2 I6.out
  obtain ⟨p0, p1, pf, ps⟩ := bk2 V6.out
  obtain ⟨r0, r1, rf, rs⟩ := bk2 U6.out
  have hic : (IC != IC) = false := by cases IC <;> rfl
  go_wp2_with fail
  refine (HCs.out w6 Rl6.out Rf6.out Ro6.out (by omega)).mono ?_; rintro e w7 ⟨rfl, b7⟩
  have z7 := b7.size
  have L7 := Lib.hid (bk_below L6.out b7 (by omega))
  have V7 := Lib.hid (bk_below V6.out b7 (by omega))
  have Rl7 := Lib.hid (Rl6.out.below b7 (by omega))
  have Rf7 := Lib.hid (Rf6.out.below b7 (by omega))
  have B7 := Lib.hid (B6.out.trans (b7.mono (by omega)))
  clear b7 L6 I6 V6 U6 Rl6 Rf6 Ro6 B6 HCs s0 sf ss q0 q1 qf qs p0 p1 pf ps r0 r1 rf rs
  by_cases hK : K = 0
  rotate_left
  · have hk1 : (K != 0) = true := by simpa using hK
    have hi := BAD.out hK
    subst hi
    go_wp2
    go_ret
    exact ⟨rfl, B7.out⟩
  have hk1 : (K != 0) = false := by simpa using hK
  obtain ⟨b', h', t, rfl, hb', hend, ht, hst, hen, hic2⟩ := GOOD.out hK
  have hbk := BKC.out hK
  have hhl : h' < l.length := (List.getElem?_eq_some_iff.1 ht).1
  have HH := Lib.hid (fun (w' : World) (h1 : Rd w' w0.heap.size A (l.flatMap eSegment)) (h3 : Rd w' w0.heap.size Af (ints fs)) (hB : w0.heap.size ≤ w'.heap.size) => holdSeg_impl l fs b' h' hbk hb' hend hhl A w0.heap.size c Af cf w' h1 h3 hB (by omega) (by omega) hcf hcm)
  have HHs := Lib.hid (fun (w' : World) (h1 : Rd w' w0.heap.size A (l.flatMap eSegment)) (h3 : Rd w' w0.heap.size Af (ints fs)) (hB : w0.heap.size ≤ w'.heap.size) => holdSeg_spec l fs b' h' hbk hb' hend hhl A w0.heap.size c Af cf w' h1 h3 hB (by omega) (by omega) hcf hcm)
  clear GOOD BAD BKC hbk hend
  obtain ⟨s0, sf, ss⟩ := bk1 L7.out
  go_wp2_with fail
  refine (HH.out w7 Rl7.out Rf7.out (by omega)).mono ?_; rintro e w8 ⟨rfl, b8⟩
  have z8 := b8.size
  have L8 := Lib.hid (bk_below L7.out b8 (by omega))
  have V8 := Lib.hid (bk_below V7.out b8 (by omega))
  have Rl8 := Lib.hid (Rl7.out.below b8 (by omega))
  have Rf8 := Lib.hid (Rf7.out.below b8 (by omega))
  have B8 := Lib.hid (B7.out.trans (b8.mono (by omega)))
  clear b8 L7 V7 Rl7 Rf7 B7 HH s0 sf ss
  obtain ⟨s0, sf, ss⟩ := bk1 L8.out
  go_wp2_with fail
  refine (HHs.out w8 Rl8.out Rf8.out (by omega)).mono ?_; rintro e w9 ⟨rfl, b9⟩
  have z9 := b9.size
  have L9 := Lib.hid (bk_below L8.out b9 (by omega))
  have V9 := Lib.hid (bk_below V8.out b9 (by omega))
  have Rl9 := Lib.hid (Rl8.out.below b9 (by omega))
  have B9 := Lib.hid (B8.out.trans (b9.mono (by omega)))
  clear b9 L8 V8 Rl8 Rf8 B8 HHs s0 sf ss
  obtain ⟨s0, sf, ss⟩ := bk1 L9.out
  obtain ⟨p0, p1, pf, ps⟩ := bk2 V9.out
  obtain ⟨bs, os, rfl, hbB, c0, c1, c2, c3, c4, c5, c6⟩ := Rl9.out.atSegment ht
  obtain ⟨tk, tl, tr, trl, trh, tfl, tfh⟩ := t
  dsimp only at *
  have HV := Lib.hid (fun w' => stopV_impl tk tl tr trl trh tfl tfh v0 v1 hst hen w')
  generalize svV (tk, tl, tr, trl, trh, tfl, tfh) (v0, v1) = SV at *
  generalize svC (tk, tl, tr, trl, trh, tfl, tfh) = SC at *
  have hi0 : (0 : Int) ≤ (h' : Int) := by omega
  have hi1 : (h' : Int) < (l.length : Int) := by omega
  have hbs : bs < w9.heap.size := by omega
  clear ht hst hen
  go_wp2_with fail
  go_region_held3 (fun w' => w'.cell? ⟨w0.heap.size, 0, none⟩ = some (.slice (some ⟨bs, os, none⟩) l.length c) ∧ w'.cell? ⟨bv, 0, none⟩ = some (.int .i64 v0) ∧ w'.cell? ⟨bv, 1, none⟩ = some (.int .i64 v1) ∧ w'.cell? ⟨bs, os + h' * 7, none⟩ = some (.int .i64 tk) ∧ w'.cell? ⟨bs, os + h' * 7 + 1, none⟩ = some (.int .i64 tl) ∧ w'.cell? ⟨bs, os + h' * 7 + 2, none⟩ = some (.int .i64 tr) ∧ w'.cell? ⟨bs, os + h' * 7 + 3, none⟩ = some (.int .i64 trl) ∧ w'.cell? ⟨bs, os + h' * 7 + 4, none⟩ = some (.int .i64 trh) ∧ w'.cell? ⟨bs, os + h' * 7 + 5, none⟩ = some (.int .i64 tfl) ∧ w'.cell? ⟨bs, os + h' * 7 + 6, none⟩ = some (.int .i64 tfh)) (first | assumption | go_cell | simp [*, World.cell?_alloc_past, World.cell?_setCell_far])
    ((go_at_call 26; refine (HV.out _).mono ?_; rintro e w10 ⟨rfl, b10⟩; have b10' : Below w9.heap.size w9 w10 := (by first | exact b10 | exact Below.trans (Below.drew (Below.refl _ _)) b10); obtain ⟨hc10, hf10, hz10⟩ := bstep (N := w9.heap.size) (Nat.le_refl _) b10'; have hx10 : w0.heap.size < w10.heap.size := (by omega); have hv10 : bv < w10.heap.size := (by omega); have hs10 : bs < w10.heap.size := (by omega); have B10 := Lib.hid (B9.out.trans (b10'.mono (by omega))); have cL10 : w10.cell? ⟨w0.heap.size, 0, none⟩ = some (.slice (some ⟨bs, os, none⟩) l.length c) := (b10'.cell (p := ⟨w0.heap.size, 0, none⟩) (by simp; omega)).trans s0; have cK10 : w10.cell? ⟨bs, os + h' * 7, none⟩ = some (.int .i64 tk) := (b10'.cell (p := ⟨bs, os + h' * 7, none⟩) (by simp; omega)).trans c0))
  all_goals (
    subst hic2
    go_wp2
    all_goals go_ret
    all_goals exact ⟨by first | rfl | (simp; done) | (simp_all; done), B10.out⟩)
end Go.Proofs.Ytooifamckccadaa
