/- Draws of segments with energies. -/
import Derived.Test.YtooifamckccadaaDq
namespace Go.Proofs.Ytooifamckccadaa
open Go.ChangeShapes Go.WideShapes Go.ChangeAt Go.RowKit
set_option maxRecDepth 20000
set_option linter.unusedVariables false
set_option linter.unusedSimpArgs false
set_option maxHeartbeats 2000000 in
theorem l08DrawActive_any (w0 : World) (g B : Nat) (C : Option Addr) (cap : Nat) (bl : List Int) (h : DS w0 w0 g B C cap bl) :
   Calls Try.prog 120 #[.pointer (some ⟨g, 0, none⟩)] w0 (BothP w0 g B C cap bl) := by
  have hg0 := h.size.2
  have H := Lib.hid h
  clear h
  go_enter Try.func120, Try.ntmps120
  go_wp2_with fail
  refine (next_al ((H.out.alloc _).alloc _) _).mono ?_
  rintro e w1 ⟨c, rfl, d1, g1⟩
  have D1 := Lib.hid d1
  have K1 := Lib.hid (bk_keep (bk_alloc (bk_new w0 _ _) _) g1 hg0)
  have I1 : Hid (Bk w1 (w0.heap.size + 1) #[.int .i64 0, .int .i64 0]) := Lib.hid (by have h := bk_keep (bk_new (w0.alloc (.cells #[.int .i64 0, .int .i64 0, .int .i64 0, .int .i64 0, .int .i64 0, .int .i64 0, .int .i64 0] 39)) #[.int .i64 0, .int .i64 0] 29) g1 (by simp; omega); simpa using h)
  clear d1 g1
  have hgI : g < w0.heap.size + 1 := by omega
  have zI : w0.heap.size ≤ w0.heap.size + 1 := by omega
  have m5 : w0.heap.size ≠ w0.heap.size + 1 := by omega
  have m6 : w0.heap.size + 1 ≠ w0.heap.size := by omega
  by_cases hc : c = 0
  · subst hc
    go_wp2_with fail
    refine (l07DrawStop_any w1 g B C cap bl D1.out.again).mono ?_
    rintro e w2 ⟨k, len, rise, rl, rh, fl, fh, lo, hi, rfl, d2⟩
    have D2 := Lib.hid (D1.out.join d2)
    have K2 := Lib.hid (bk_keep K1.out d2.2.2.1 hg0)
    have I2 := Lib.hid (bk_keep I1.out d2.2.2.1 hgI)
    clear d2
    obtain ⟨q0, q1, q2, q3, q4, q5, q6, qf, qs⟩ := bk7 K2.out
    obtain ⟨j0, j1, jf, js⟩ := bk2 I2.out
    go_wp2
    all_goals (try simp only [Exit.inBlock, Exit.then])
    all_goals refine ret_both rfl rfl rfl rfl (bk_other (bk_other (bk_fill7 K2.out _ _ _ _ _ _ _) m6 _ _) m6 _ _) (bk_fill2 (bk_other (bk_other (bk_other (bk_other (bk_other (bk_other (bk_other I2.out m5 _ _) m5 _ _) m5 _ _) m5 _ _) m5 _ _) m5 _ _) m5 _ _) _ _) ?_
    all_goals exact bothP_mk _ _ _ _ _ _ _ _ _ ((D2.out.fill7 (Nat.le_refl _) _ _ _ _ _ _ _).fill2 zI _ _)
  · have hcb : (c == 0) = false := by rw [beq_eq_false_iff_ne]; exact hc
    go_wp2_with fail
    refine (l03DrawAny_any w1 g B C cap bl D1.out.again).mono ?_
    rintro e w2 ⟨k, len, rise, rl, rh, fl, fh, rfl, d2⟩
    have D2 := Lib.hid (D1.out.join d2)
    have K2 := Lib.hid (bk_keep K1.out d2.2.2.1 hg0)
    have I2 := Lib.hid (bk_keep I1.out d2.2.2.1 hgI)
    clear d2
    obtain ⟨q0, q1, q2, q3, q4, q5, q6, qf, qs⟩ := bk7 K2.out
    obtain ⟨j0, j1, jf, js⟩ := bk2 I2.out
    go_wp2_with fail
    refine (l06Draw_any w2 g B C cap bl D2.out.again).mono ?_
    rintro e w3 ⟨lo, hi, rfl, d3⟩
    have D3 := Lib.hid (D2.out.join d3)
    have K3 := Lib.hid (bk_keep K2.out d3.2.2.1 hg0)
    have I3 := Lib.hid (bk_keep I2.out d3.2.2.1 hgI)
    clear d3
    clear q0 q1 q2 q3 q4 q5 q6 qf qs j0 j1 jf js
    obtain ⟨q0, q1, q2, q3, q4, q5, q6, qf, qs⟩ := bk7 K3.out
    obtain ⟨j0, j1, jf, js⟩ := bk2 I3.out
    go_wp2
    all_goals (try simp only [Exit.inBlock, Exit.then])
    all_goals refine ret_both rfl rfl rfl rfl (bk_other (bk_other (bk_fill7 K3.out _ _ _ _ _ _ _) m6 _ _) m6 _ _) (bk_fill2 (bk_other (bk_other (bk_other (bk_other (bk_other (bk_other (bk_other I3.out m5 _ _) m5 _ _) m5 _ _) m5 _ _) m5 _ _) m5 _ _) m5 _ _) _ _) ?_
    all_goals exact bothP_mk _ _ _ _ _ _ _ _ _ ((D3.out.fill7 (Nat.le_refl _) _ _ _ _ _ _ _).fill2 zI _ _)
set_option maxHeartbeats 2000000 in
theorem drawActive_any (bl : List Int) (hbl : isU8 bl) (hn : bl.length ≤ 4096) (C : Option Addr) (cap : Nat) (w0 : World) (hr : Rd w0 w0.heap.size C (bytesU bl)) :
   Calls Try.prog 46 #[.slice C bl.length cap] w0 fun e w' => ∃ k len rise rl rh fl fh lo hi : Int, e = .returned (.tuple #[.agg #[.int .i64 k, .int .i64 len, .int .i64 rise, .int .i64 rl, .int .i64 rh, .int .i64 fl, .int .i64 fh], .agg #[.int .i64 lo, .int .i64 hi]]) ∧ Below w0.heap.size w0 w' := by
  have Hr := Lib.hid hr
  have Hbl := Lib.hid hbl
  have ha : Below w0.heap.size w0 ((w0.alloc (.cells #[.int .i64 0, .int .i64 0, .int .i64 0, .int .i64 0, .int .i64 0, .int .i64 0, .int .i64 0] 39)).alloc (.cells #[.int .i64 0, .int .i64 0] 29)) := ((Below.refl _ _).alloc (Nat.le_refl _) _).alloc (by simp) _
  have Ha := Lib.hid ha
  have R2 := Lib.hid ((hr.below ha (Nat.le_refl _)).more (by simp; omega : w0.heap.size ≤ ((w0.alloc (.cells #[.int .i64 0, .int .i64 0, .int .i64 0, .int .i64 0, .int .i64 0, .int .i64 0, .int .i64 0] 39)).alloc (.cells #[.int .i64 0, .int .i64 0] 29)).heap.size))
  have HF := Lib.hid (l01From_any bl hbl hn C _ cap _ R2.out (Nat.le_refl _))
  have K0 := Lib.hid (bk_alloc (bk_new w0 #[.int .i64 0, .int .i64 0, .int .i64 0, .int .i64 0, .int .i64 0, .int .i64 0, .int .i64 0] 39) (.cells #[.int .i64 0, .int .i64 0] 29))
  have I0 := Lib.hid (show Bk ((w0.alloc (.cells #[.int .i64 0, .int .i64 0, .int .i64 0, .int .i64 0, .int .i64 0, .int .i64 0, .int .i64 0] 39)).alloc (.cells #[.int .i64 0, .int .i64 0] 29)) (w0.heap.size + 1) #[.int .i64 0, .int .i64 0] from by simpa using bk_new (w0.alloc (.cells #[.int .i64 0, .int .i64 0, .int .i64 0, .int .i64 0, .int .i64 0, .int .i64 0, .int .i64 0] 39)) #[.int .i64 0, .int .i64 0] 29)
  have hsz : ((w0.alloc (.cells #[.int .i64 0, .int .i64 0, .int .i64 0, .int .i64 0, .int .i64 0, .int .i64 0, .int .i64 0] 39)).alloc (.cells #[.int .i64 0, .int .i64 0] 29)).heap.size = w0.heap.size + 2 := by simp
  clear hr hbl ha
  go_enter Try.func46, Try.ntmps46
  go_wp2_with fail
  rw [hsz] at HF
  refine HF.out.mono ?_
  rintro e w1 ⟨rfl, hs, hb, hz⟩
  have B1 := Lib.hid (Ha.out.trans (hb.mono (by omega)))
  have K1 := Lib.hid (bk_below K0.out hb (by omega))
  have I1 := Lib.hid (bk_below I0.out hb (by omega))
  have D1 := Lib.hid (DS.start (R2.out.below hb (by omega)) hs (by omega) Hbl.out hn)
  clear hs hb HF Ha R2 K0 I0 Hr
  go_wp2_with fail
  refine (l08DrawActive_any w1 _ _ C cap bl D1.out).mono ?_
  rintro e w2 ⟨k, len, rise, rl, rh, fl, fh, lo, hi, rfl, d2⟩
  have B2 := Lib.hid (B1.out.trans (below_of_grownBy (B := w0.heap.size) d2.2.2.1 (by have := D1.out.size; omega) (fun k hk => by injection hk with hk; omega)))
  have b0lt := bk_lt K1.out
  have i0lt := bk_lt I1.out
  have kk : Bk w2 w0.heap.size #[.int .i64 0, .int .i64 0, .int .i64 0, .int .i64 0, .int .i64 0, .int .i64 0, .int .i64 0] := by
    obtain ⟨t, e⟩ := K1.out
    exact ⟨t, (d2.2.2.1.block _ b0lt (fun e => by injection e with e; omega)).trans e⟩
  have ii : Bk w2 (w0.heap.size + 1) #[.int .i64 0, .int .i64 0] := by
    obtain ⟨t, e⟩ := I1.out
    exact ⟨t, (d2.2.2.1.block _ i0lt (fun e => by injection e with e; omega)).trans e⟩
  have K2 := Lib.hid kk
  have I2 := Lib.hid ii
  have m5 : w0.heap.size ≠ w0.heap.size + 1 := by omega
  have m6 : w0.heap.size + 1 ≠ w0.heap.size := by omega
  have z2 : w0.heap.size ≤ w2.heap.size := B2.out.size
  clear d2 kk ii D1
  obtain ⟨q0, q1, q2, q3, q4, q5, q6, qf, qs⟩ := bk7 K2.out
  obtain ⟨j0, j1, jf, js⟩ := bk2 I2.out
  go_wp2
  (try simp only [Exit.inBlock, Exit.then])
  refine ret_both rfl rfl rfl rfl (bk_other (bk_other (bk_fill7 K2.out _ _ _ _ _ _ _) m6 _ _) m6 _ _) (bk_fill2 (bk_other (bk_other (bk_other (bk_other (bk_other (bk_other (bk_other I2.out m5 _ _) m5 _ _) m5 _ _) m5 _ _) m5 _ _) m5 _ _) m5 _ _) _ _) ?_
  exact ⟨_, _, _, _, _, _, _, _, _, rfl, by have b2 := B2.out; repeat' (first | (with_reducible exact Below.refl _ _) | (with_reducible assumption) | (with_reducible refine Below.alloc ?_ ?_ _) | (with_reducible refine Below.drew ?_) | (with_reducible refine below_drewN ?_ _) | (with_reducible refine Below.setCell ?_ ?_ _) | (with_reducible refine Below.trans ?_ (Below.mono (by assumption) ?_)) | go_size | (exact Below.size (by assumption)))⟩
end Go.Proofs.Ytooifamckccadaa
