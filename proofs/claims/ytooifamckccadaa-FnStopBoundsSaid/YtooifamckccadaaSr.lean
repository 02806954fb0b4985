/- The law on bounds of stops: the draw and the walk. -/
import Derived.Test.YtooifamckccadaaQd
import Derived.Test.YtooifamckccadaaHs
import Derived.Test.YtooifamckccadaaDo
import Derived.Test.YtooifamckccadaaSq
namespace Go.Proofs.Ytooifamckccadaa
open Go.ChangeShapes Go.WideShapes Go.ChangeAt Go.RowKit
set_option maxRecDepth 20000
set_option linter.unusedVariables false
set_option linter.unusedSimpArgs false
def StpP (w0 : World) (e : Ending) (w' : World) : Prop :=
  ∃ (l : List Seg) (A : Option Addr) (c : Nat) (fs : List Int) (A2 : Option Addr) (c2 : Nat) (b x y : Int), e = .returned (.tuple #[.agg #[.slice A l.length c], .slice A2 fs.length c2, .int .i64 b, .agg #[.int .i64 x, .int .i64 y]]) ∧ l.length ≤ 25 ∧ fs.length ≤ 60 ∧ l.length ≤ c ∧ c ≤ 9223372036854775807 ∧ fs.length ≤ c2 ∧ c2 ≤ 9223372036854775807 ∧ Rd w' w'.heap.size A (l.flatMap eSegment) ∧ Rd w' w'.heap.size A2 (ints fs) ∧ Below w0.heap.size w0 w'
set_option maxHeartbeats 2000000 in
theorem drawStp_any (bl : List Int) (hbl : isU8 bl) (hn : bl.length ≤ 4096) (C : Option Addr) (cap : Nat) (w0 : World) (hr : Rd w0 w0.heap.size C (bytesU bl)) :
   Calls Try.prog 67 #[.slice C bl.length cap] w0 (StpP w0) := by
  have hra := (hr.alloc (Nat.le_refl _) (.cells #[.slice none 0 0] 26)).alloc (by simp) (.cells #[.int .i64 0, .int .i64 0] 29)
  have HF : Hid (Calls Try.prog 73 #[.slice C bl.length cap] ((w0.alloc (.cells #[.slice none 0 0] 26)).alloc (.cells #[.int .i64 0, .int .i64 0] 29)) (fun e w' => ∃ g : Nat, w0.heap.size + 2 ≤ g ∧ e = .returned (.pointer (some ⟨g, 0, none⟩)) ∧ Src w' g C bl.length cap ∧ Below (w0.heap.size + 2) ((w0.alloc (.cells #[.slice none 0 0] 26)).alloc (.cells #[.int .i64 0, .int .i64 0] 29)) w' ∧ g < w'.heap.size)) := Lib.hid
    ((l01From_any bl hbl hn C w0.heap.size cap _ hra (by simp; omega)).mono fun e w' ⟨a, b, c, d⟩ => ⟨_, by simp, a, b, by simpa using c, d⟩)
  have Hr := Lib.hid hra
  have K0 := Lib.hid (bk_alloc (bk_new w0 #[.slice none 0 0] 26) (.cells #[.int .i64 0, .int .i64 0] 29))
  have I0 : Hid (Bk ((w0.alloc (.cells #[.slice none 0 0] 26)).alloc (.cells #[.int .i64 0, .int .i64 0] 29)) (w0.heap.size + 1) #[.int .i64 0, .int .i64 0]) := Lib.hid (by simpa using bk_new (w0.alloc (.cells #[.slice none 0 0] 26)) #[.int .i64 0, .int .i64 0] 29)
  have Ba := Lib.hid (((Below.refl w0.heap.size w0).alloc (Nat.le_refl _) (.cells #[.slice none 0 0] 26)).alloc (by simp) (.cells #[.int .i64 0, .int .i64 0] 29))
  have Hbl := Lib.hid hbl
  clear hr hbl hra
  go_enter Try.func67, Try.ntmps67
  go_wp2_with fail
  refine HF.out.mono ?_
  rintro e w1 ⟨g, hg, rfl, hs, hb, hz⟩
  have D1 := Lib.hid (DS.start (Hr.out.below hb (by omega)) hs (by omega) Hbl.out hn)
  have K1 := Lib.hid (bk_below K0.out hb (by omega))
  have I1 := Lib.hid (bk_below I0.out hb (by omega))
  have B1 := Lib.hid (Ba.out.trans (hb.mono (by omega)))
  clear hs HF Hr hb K0 I0 Ba
  go_wp2_with fail
  refine (l07DrawEntry_any w1 g _ C cap bl D1.out).mono ?_
  rintro e w2 ⟨l, A, c, fs, Ao, co, f, x, y, rfl, hl, hfs, ol, oo, d2⟩
  have hne0 : w0.heap.size ≠ g := by omega
  have hne1 : w0.heap.size + 1 ≠ g := by omega
  have hne5 : w0.heap.size + 1 ≠ w0.heap.size := by omega
  have hne6 : w0.heap.size ≠ w0.heap.size + 1 := by omega
  have hz1 := bk_lt I1.out
  have z12 := d2.size.1
  have K3 := Lib.hid (bk_apart K1.out d2.2.2.1 hne0)
  have I3 := Lib.hid (bk_apart I1.out d2.2.2.1 hne1)
  have O3 := Lib.hid ol
  have P3 := Lib.hid oo
  have D3 := Lib.hid d2
  clear ol oo d2 K1 I1 D1
  obtain ⟨r0, rf, rs⟩ := bk1 K3.out
  obtain ⟨q0, q1, qf, qs⟩ := bk2 I3.out
  go_wp2_with fail
  refine ret_ent rfl rfl rfl rfl rfl rfl (bk_other (bk_other (bk_set K3.out 0 _ _ rfl) hne5 0 _) hne5 1 _) (bk_fill2 (bk_other I3.out hne6 0 _) _ _) ⟨_, _, _, rfl⟩ ⟨_, _, _, rfl⟩ ⟨_, rfl⟩ ?_
  have e1 : ∀ q, (Value.slice A l.length c).ownBlock = some q → w1.heap.size + 2 ≤ q := fun q hq => (own_lt O3.out q hq).1
  have e2 : ∀ q, (Value.slice Ao fs.length co).ownBlock = some q → w1.heap.size + 2 ≤ q := fun q hq => (own_lt P3.out q hq).1
  have B4 := B1.out.trans (below_of_grownBy (B := w0.heap.size) D3.out.2.2.1 (by omega) (fun k hk => by injection hk with hk; omega))
  exact ⟨l, A, c, fs, Ao, co, f, x, y, rfl, hl, hfs, own_cap O3.out, by have := own_capmax O3.out; unfold maxLen at this; omega, own_cap P3.out, by have := own_capmax P3.out; unfold maxLen at this; omega,
    Rd.of_own (own_set (own_set (own_set O3.out (fun q => by have := e1 _ q; omega) 0 _) (fun q => by have := e1 _ q; omega) 0 _) (fun q => by have := e1 _ q; omega) 1 _),
    Rd.of_own (own_set (own_set (own_set P3.out (fun q => by have := e2 _ q; omega) 0 _) (fun q => by have := e2 _ q; omega) 0 _) (fun q => by have := e2 _ q; omega) 1 _),
    ((B4.setCell (Nat.le_refl _) _).setCell (show w0.heap.size ≤ w0.heap.size + 1 by omega) _).setCell (show w0.heap.size ≤ w0.heap.size + 1 by omega) _⟩
end Go.Proofs.Ytooifamckccadaa
namespace Go.Proofs.Ytooifamckccadaa
open Go.ChangeShapes Go.WideShapes Go.ChangeAt Go.RowKit
set_option maxRecDepth 20000
set_option linter.unusedVariables false
set_option linter.unusedSimpArgs false
theorem big_sb (n cap : Nat) (C : Option Addr) (w : World) (hn : n ≤ 9223372036854775807) : Calls Try.prog 18 #[.slice C n cap] w fun e w' => e = .returned (.bool (decide (4096 < (n : Int)))) ∧ w = w' := by
  go_enter Try.func18, Try.ntmps18
  go_wp2
  go_ret
  exact ⟨rfl, rfl⟩
theorem stopBound_spec (ls : List Seg) (fs : List Int) (b lo hi : Int) (A : Option Addr) (B c : Nat) (A' : Option Addr) (c' : Nat) (w : World) (hs : Rd w B A (ls.flatMap eSegment)) (hr : Rd w B A' (ints fs)) (hB : B ≤ w.heap.size) (hn1 : ls.length ≤ 1048576) (hn2 : fs.length ≤ 1048576) :
   Calls Try.prog 69 #[.agg #[.slice A ls.length c], .slice A' fs.length c', .int .i64 b, .agg #[.int .i64 lo, .int .i64 hi]] w fun e w' => e = .returned (.tuple #[.int .i64 (sbR ls fs b lo hi), .int .i64 (sbC ls fs b lo hi)]) ∧ Below w.heap.size w w' := by
  by_cases h : sbC ls fs b lo hi = 0
  · have h0 : enC ls fs b lo hi = 0 := by
      rcases Decidable.em (enC ls fs b lo hi = 0) with h1 | h1
      · exact h1
      · rw [sbC, if_neg h1] at h; exact absurd h h1
    have hm : mayB ls fs b lo hi = true := by
      cases hm : mayB ls fs b lo hi with
      | true => rfl
      | false => rw [sbC, if_pos h0, hm] at h; cases h
    obtain ⟨_, _, _, b', rfl, _⟩ := enC_zero h0
    have h2 : sbR ls fs b' lo hi = sbP ls fs b' hi := by rw [sbR, h, Int.toNat_natCast]; rfl
    rw [h, h2]
    exact stopBound_spec_good ls fs b' lo hi h0 hm A B c A' c' w hs hr hB hn1 hn2
  · exact stopBound_spec_bad ls fs b lo hi h A B c A' c' w hs hr hB hn1 hn2
set_option maxHeartbeats 8000000 in
theorem walkFnStopBounds (bl : List Int) (hbl : isU8 bl) (C : Option Addr) (cap : Nat) (w : World) (hr : Rd w w.heap.size C (bytesU bl)) (hlc : bl.length ≤ cap) (hm : cap ≤ maxLen) :
   Calls Try.prog 17 #[.slice C bl.length cap] w fun e w' => e = .returned (.bool true) ∧ Below w.heap.size w w' := by
  unfold maxLen at hm
  by_cases hn : bl.length ≤ 4096
  rotate_left
  · have hd : decide ((4096 : Int) < (bl.length : Int)) = true := by simp; omega
    go_enter Try.func17, Try.ntmps17
    go_wp2_with (go_at_call 18; refine (big_sb _ _ _ _ (by omega)).mono ?_; rintro e w' ⟨rfl, rfl⟩)
    go_ret
    exact ⟨rfl, Below.refl _ _⟩
  have hd : decide ((4096 : Int) < (bl.length : Int)) = false := by simp; omega
  go_enter Try.func17, Try.ntmps17
  go_wp2_with fail
  refine (big_sb _ _ _ _ (by omega)).mono ?_; rintro e w' ⟨rfl, rfl⟩
  go_wp2_with fail
  refine (drawStp_any bl hbl hn C cap _ hr).mono ?_
  rintro e w0 ⟨l, A, c, fs, Af, cf, b, x, y, rfl, hl, hfs, hc1, hc2, hcf, hcm, Rl, Rf, b0⟩
  clear hr hbl hd
  have z0 := b0.size
  have HA := Lib.hid (fun (w' : World) (h1 : Rd w' w0.heap.size A (l.flatMap eSegment)) (h3 : Rd w' w0.heap.size Af (ints fs)) (hB : w0.heap.size ≤ w'.heap.size) => stopBound_impl l fs b x y A w0.heap.size c Af cf w' h1 h3 hB (by omega) (by omega) hc1 hc2 hcf hcm)
  have HS := Lib.hid (fun (w' : World) (h1 : Rd w' w0.heap.size A (l.flatMap eSegment)) (h3 : Rd w' w0.heap.size Af (ints fs)) (hB : w0.heap.size ≤ w'.heap.size) => stopBound_spec l fs b x y A w0.heap.size c Af cf w' h1 h3 hB (by omega) (by omega))
  have HM := Lib.hid (fun (w' : World) (h1 : Rd w' w0.heap.size A (l.flatMap eSegment)) (h3 : Rd w' w0.heap.size Af (ints fs)) (hB : w0.heap.size ≤ w'.heap.size) => mayEnter_impl l fs b x y A w0.heap.size c Af cf w' h1 h3 hB (by omega) (by omega) hc1 hc2 hcf hcm)
  have HMs := Lib.hid (fun (w' : World) (h1 : Rd w' w0.heap.size A (l.flatMap eSegment)) (h3 : Rd w' w0.heap.size Af (ints fs)) (hB : w0.heap.size ≤ w'.heap.size) => mayEnter_spec l fs b x y A w0.heap.size c Af cf w' h1 h3 hB (by omega) (by omega))
  have HI := Lib.hid (fun (w' : World) (h1 : Rd w' w0.heap.size A (l.flatMap eSegment)) (h3 : Rd w' w0.heap.size Af (ints fs)) (hB : w0.heap.size ≤ w'.heap.size) => (show Calls Try.prog 22 #[.agg #[.slice A l.length c], .slice Af fs.length cf, .int .i64 b, .agg #[.int .i64 x, .int .i64 y], .slice none 0 0] w' fun e w'' => e = .returned (.bool (icB l fs [] b x y)) ∧ Below w'.heap.size w' w'' from caught_impl l fs [] b x y A w0.heap.size c Af cf none 0 w' h1 h3 Rd.empty hB (by omega) (by omega) (by simp) hcf hcm))
  have HL := Lib.hid (fun (w' : World) (h1 : Rd w' w0.heap.size A (l.flatMap eSegment)) (h3 : Rd w' w0.heap.size Af (ints fs)) (hB : w0.heap.size ≤ w'.heap.size) => stopBound_impl l fs b x x A w0.heap.size c Af cf w' h1 h3 hB (by omega) (by omega) hc1 hc2 hcf hcm)
  have Rl1 := Lib.hid ((Rl.alloc (Nat.le_refl _) (.cells #[.slice A l.length c] 26)).alloc (by simp) (.cells #[.int .i64 x, .int .i64 y] 29))
  have Rf1 := Lib.hid ((Rf.alloc (Nat.le_refl _) (.cells #[.slice A l.length c] 26)).alloc (by simp) (.cells #[.int .i64 x, .int .i64 y] 29))
  have L1 := Lib.hid (bk_alloc (bk_new w0 #[.slice A l.length c] 26) (.cells #[.int .i64 x, .int .i64 y] 29))
  have I1 : Hid (Bk ((w0.alloc (.cells #[.slice A l.length c] 26)).alloc (.cells #[.int .i64 x, .int .i64 y] 29)) (w0.heap.size + 1) #[.int .i64 x, .int .i64 y]) := Lib.hid (by simpa using bk_new (w0.alloc (.cells #[.slice A l.length c] 26)) #[.int .i64 x, .int .i64 y] 29)
  have B1 := Lib.hid (show Below w.heap.size w ((w0.alloc (.cells #[.slice A l.length c] 26)).alloc (.cells #[.int .i64 x, .int .i64 y] 29)) from b0.trans ((((Below.refl w0.heap.size w0).alloc (Nat.le_refl _) _).alloc (by simp) _).mono z0))
  clear Rl Rf b0
  go_wp2_with fail
  have hz1 : w0.heap.size + 1 < ((w0.alloc (.cells #[.slice A l.length c] 26)).alloc (.cells #[.int .i64 x, .int .i64 y] 29)).heap.size := by simp
  generalize ((w0.alloc (.cells #[.slice A l.length c] 26)).alloc (.cells #[.int .i64 x, .int .i64 y] 29)) = w1 at *
  refine (HA.out w1 Rl1.out Rf1.out (by omega)).mono ?_; rintro e w2 ⟨rfl, b2⟩
  have z2 := b2.size
  have L2 := Lib.hid (bk_below L1.out b2 (by omega))
  have I2 := Lib.hid (bk_below I1.out b2 (by omega))
  have Rl2 := Lib.hid (Rl1.out.below b2 (by omega))
  have Rf2 := Lib.hid (Rf1.out.below b2 (by omega))
  have B2 := Lib.hid (B1.out.trans (b2.mono (by omega)))
  clear b2 L1 I1 Rl1 Rf1 B1 HA
  obtain ⟨s0, sf, ss⟩ := bk1 L2.out
  obtain ⟨q0, q1, qf, qs⟩ := bk2 I2.out

  have LAWS : Hid ((enC l fs b x y ≠ 0 ∧ sbC l fs b x y = enC l fs b x y) ∨ (enC l fs b x y = 0 ∧ sbC l fs b x y = 5 ∧ mayB l fs b x y = false ∧ icB l fs [] b x y = false) ∨ (enC l fs b x y = 0 ∧ sbC l fs b x y = 0 ∧ mayB l fs b x y = true ∧ icB l fs [] b x y = true ∧ sbC l fs b x x = 0 ∧ ∃ (N : Int), (∀ (w' : World) (h1 : Rd w' w0.heap.size A (l.flatMap eSegment)) (h3 : Rd w' w0.heap.size Af (ints fs)) (hB : w0.heap.size ≤ w'.heap.size), Calls Try.prog 72 #[.agg #[.slice A l.length c], .slice Af fs.length cf, .int .i64 b] w' fun e w'' => e = .returned (.tuple #[.int .i64 N, .int .i64 0]) ∧ Below w'.heap.size w' w'') ∧ sbR l fs b x y ≤ N ∧ sbR l fs b x x ≤ sbR l fs b x y)) := Lib.hid (by
    by_cases h0 : enC l fs b x y = 0
    · right
      cases hmb : mayB l fs b x y with
      | false => exact .inl ⟨h0, by rw [sbC, if_pos h0, hmb]; rfl, rfl, by rw [may_caught h0, hmb]⟩
      | true =>
        right
        have hsc : sbC l fs b x y = 0 := by rw [sbC, if_pos h0, hmb]; rfl
        obtain ⟨hlay, hblk, _, _⟩ := enC_zero h0
        obtain ⟨b', f, n, rfl, hb', hfb, hend, hfn, l1, l2, h00, h3⟩ := sb_law h0 hmb
        have hsc2 : sbC l fs b' x x = 0 := by rw [sbC, if_pos h00, h3]; rfl
        have r1 : sbR l fs b' x y = sbP l fs b' y := by rw [sbR, hsc, Int.toNat_natCast]; rfl
        have r2 : sbR l fs b' x x = sbP l fs b' x := by rw [sbR, hsc2, Int.toNat_natCast]; rfl
        refine ⟨h0, hsc, rfl, by rw [may_caught h0, hmb], hsc2, lSum l f (n + 1), ?_, by rw [r1]; exact l1, by rw [r1, r2]; exact l2⟩
        intro w' h1 h3 hB
        exact blockLength_impl l fs b' f n (bkC_of_en h0) hlay hb' hfb hend hfn A w0.heap.size c Af cf w' h1 h3 hB (by omega) (by omega) hcf hcm
    · exact .inl ⟨h0, by rw [sbC, if_neg h0]⟩)
  generalize icB l fs [] b x y = IC at *
  generalize mayB l fs b x y = R at *
  generalize sbR l fs b x y = V at *
  generalize sbC l fs b x y = SC at *
  generalize enC l fs b x y = K at *
  generalize sbR l fs b x x = V2 at *
  generalize sbC l fs b x x = SC2 at *
  go_wp2_with fail
  refine (HS.out w2 Rl2.out Rf2.out (by omega)).mono ?_; rintro e w3 ⟨rfl, b3⟩
  have z3 := b3.size
  have L3 := Lib.hid (bk_below L2.out b3 (by omega))
  have I3 := Lib.hid (bk_below I2.out b3 (by omega))
  have Rl3 := Lib.hid (Rl2.out.below b3 (by omega))
  have Rf3 := Lib.hid (Rf2.out.below b3 (by omega))
  have B3 := Lib.hid (B2.out.trans (b3.mono (by omega)))
  clear b3 L2 I2 Rl2 Rf2 B2 HS s0 sf ss q0 q1 qf qs
  obtain ⟨s0, sf, ss⟩ := bk1 L3.out
  obtain ⟨q0, q1, qf, qs⟩ := bk2 I3.out
  go_wp2_with fail
  refine (HM.out w3 Rl3.out Rf3.out (by omega)).mono ?_; rintro e w4 ⟨rfl, b4⟩
  have z4 := b4.size
  have L4 := Lib.hid (bk_below L3.out b4 (by omega))
  have I4 := Lib.hid (bk_below I3.out b4 (by omega))
  have Rl4 := Lib.hid (Rl3.out.below b4 (by omega))
  have Rf4 := Lib.hid (Rf3.out.below b4 (by omega))
  have B4 := Lib.hid (B3.out.trans (b4.mono (by omega)))
  clear b4 L3 I3 Rl3 Rf3 B3 HM s0 sf ss q0 q1 qf qs
  obtain ⟨s0, sf, ss⟩ := bk1 L4.out
  obtain ⟨q0, q1, qf, qs⟩ := bk2 I4.out
  go_wp2_with fail
  refine (HMs.out w4 Rl4.out Rf4.out (by omega)).mono ?_; rintro e w5 ⟨rfl, b5⟩
  have z5 := b5.size
  have L5 := Lib.hid (bk_below L4.out b5 (by omega))
  have I5 := Lib.hid (bk_below I4.out b5 (by omega))
  have Rl5 := Lib.hid (Rl4.out.below b5 (by omega))
  have Rf5 := Lib.hid (Rf4.out.below b5 (by omega))
  have B5 := Lib.hid (B4.out.trans (b5.mono (by omega)))
  clear b5 L4 I4 Rl4 Rf4 B4 HMs s0 sf ss q0 q1 qf qs
  have hrr : (R != R) = false := by cases R <;> rfl
  obtain ⟨s0, sf, ss⟩ := bk1 L5.out
  obtain ⟨q0, q1, qf, qs⟩ := bk2 I5.out
  rcases LAWS.out with ⟨hk, rfl⟩ | ⟨rfl, rfl, rfl, rfl⟩ | ⟨rfl, rfl, rfl, rfl, rfl, N, hN, v1, v2⟩
  · have hk1 : (SC != 0) = true := by simpa using hk
    clear LAWS HI HL hk
    go_wp2
    go_ret
    exact ⟨rfl, B5.out⟩
  · clear LAWS HL
    go_wp2_with fail
    refine (HI.out w5 Rl5.out Rf5.out (by omega)).mono ?_; rintro e w6 ⟨rfl, b6⟩
    have B6 := Lib.hid (B5.out.trans (b6.mono (by omega)))
    clear b6 s0 sf ss q0 q1 qf qs
    go_wp2
    go_ret
    exact ⟨rfl, B6.out⟩
  · have HN := Lib.hid hN
    clear hN LAWS
    go_wp2_with fail
    refine (HN.out w5 Rl5.out Rf5.out (by omega)).mono ?_; rintro e w6 ⟨rfl, b6⟩
    have z6 := b6.size
    have L6 := Lib.hid (bk_below L5.out b6 (by omega))
    have I6 := Lib.hid (bk_below I5.out b6 (by omega))
    have Rl6 := Lib.hid (Rl5.out.below b6 (by omega))
    have Rf6 := Lib.hid (Rf5.out.below b6 (by omega))
    have B6 := Lib.hid (B5.out.trans (b6.mono (by omega)))
    clear b6 s0 sf ss q0 q1 qf qs L5 I5 Rl5 Rf5 B5 HN
    obtain ⟨s0, sf, ss⟩ := bk1 L6.out
    obtain ⟨q0, q1, qf, qs⟩ := bk2 I6.out
    go_wp2_with fail
    refine (HL.out w6 Rl6.out Rf6.out (by omega)).mono ?_; rintro e w7 ⟨rfl, b7⟩
    have z7 := b7.size
    have L7 := Lib.hid (bk_below L6.out b7 (by omega))
    have I7 := Lib.hid (bk_below I6.out b7 (by omega))
    have Rl7 := Lib.hid (Rl6.out.below b7 (by omega))
    have Rf7 := Lib.hid (Rf6.out.below b7 (by omega))
    have B7 := Lib.hid (B6.out.trans (b7.mono (by omega)))
    clear b7 s0 sf ss q0 q1 qf qs L6 I6 Rl6 Rf6 B6 HL
    obtain ⟨s0, sf, ss⟩ := bk1 L7.out
    obtain ⟨q0, q1, qf, qs⟩ := bk2 I7.out
    go_wp2_with fail
    refine (HI.out w7 Rl7.out Rf7.out (by omega)).mono ?_; rintro e w8 ⟨rfl, b8⟩
    have B8 := Lib.hid (B7.out.trans (b8.mono (by omega)))
    clear b8 s0 sf ss q0 q1 qf qs
    go_wp2
    go_ret
    exact ⟨rfl, B8.out⟩
end Go.Proofs.Ytooifamckccadaa
