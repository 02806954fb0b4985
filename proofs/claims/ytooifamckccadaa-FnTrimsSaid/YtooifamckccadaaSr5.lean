/- The sort of few numbers: the breaking of patterns is safe. -/
import Derived.Test.YtooifamckccadaaSr2
import Derived.Laws.BitsLemmas
namespace Go.Proofs.Ytooifamckccadaa
open Go.ChangeShapes Go.WideShapes Go.ChangeAt Go.RowKit
set_option maxRecDepth 20000
set_option linter.unusedVariables false
set_option linter.unusedSimpArgs false
/-- the cell of the random numbers -/
def Rng (w : World) (q : Nat) : Prop := (∃ r : Int, w.cell? ⟨q, 0, none⟩ = some (.int .u64 r)) ∧ w.frozen? ⟨q, 0, none⟩ = false ∧ q < w.heap.size
set_option maxHeartbeats 2000000 in
theorem next_any (q : Nat) (w : World) (h : Rng w q) :
   Calls Try.prog 205 #[.pointer (some ⟨q, 0, none⟩)] w fun e w' => ∃ r : Int, e = .returned (.int .u64 r) ∧ Rng w' q ∧ w.grownBy w' (some q) := by
  obtain ⟨⟨r, k0⟩, k1, k2⟩ := h
  have K2 := Lib.hid k2
  clear k2
  go_enter Try.func205, Try.ntmps205
  go_wp2_with fail
  go_region
  generalize bits BinOp.xor IntKind.u64 r (IntKind.u64.wrap (r * 8192)) = r1
  have g1 : w.grownBy (w.setCell ⟨q, 0, none⟩ (.int .u64 r1)) (some q) := grown_setS w q 0 _
  have m1 : (w.setCell ⟨q, 0, none⟩ (.int .u64 r1)).cell? ⟨q, 0, none⟩ = some (.int .u64 r1) := World.cell?_setCell_same _ _ _ k0
  have f1 : (w.setCell ⟨q, 0, none⟩ (.int .u64 r1)).frozen? ⟨q, 0, none⟩ = false := by rw [World.frozen?_setCell]; exact k1
  generalize w.setCell ⟨q, 0, none⟩ (.int .u64 r1) = w1 at *
  have G1 := Lib.hid g1
  clear g1
  go_wp2_with fail
  go_region
  generalize bits BinOp.xor IntKind.u64 r1 (r1 / 128) = r2
  have g2 : w1.grownBy (w1.setCell ⟨q, 0, none⟩ (.int .u64 r2)) (some q) := grown_setS w1 q 0 _
  have m2 : (w1.setCell ⟨q, 0, none⟩ (.int .u64 r2)).cell? ⟨q, 0, none⟩ = some (.int .u64 r2) := World.cell?_setCell_same _ _ _ m1
  have f2 : (w1.setCell ⟨q, 0, none⟩ (.int .u64 r2)).frozen? ⟨q, 0, none⟩ = false := by rw [World.frozen?_setCell]; exact f1
  generalize w1.setCell ⟨q, 0, none⟩ (.int .u64 r2) = w2 at *
  have G2 := Lib.hid g2
  clear g2
  go_wp2_with fail
  go_region
  generalize bits BinOp.xor IntKind.u64 r2 (IntKind.u64.wrap (r2 * 131072)) = r3
  have g3 : w2.grownBy (w2.setCell ⟨q, 0, none⟩ (.int .u64 r3)) (some q) := grown_setS w2 q 0 _
  have m3 : (w2.setCell ⟨q, 0, none⟩ (.int .u64 r3)).cell? ⟨q, 0, none⟩ = some (.int .u64 r3) := World.cell?_setCell_same _ _ _ m2
  have f3 : (w2.setCell ⟨q, 0, none⟩ (.int .u64 r3)).frozen? ⟨q, 0, none⟩ = false := by rw [World.frozen?_setCell]; exact f2
  generalize w2.setCell ⟨q, 0, none⟩ (.int .u64 r3) = w3 at *
  have G3 := Lib.hid g3
  clear g3
  go_wp2
  go_ret
  have G := grownBy_trans (grownBy_trans G1.out G2.out) G3.out
  exact ⟨r3, rfl, ⟨⟨r3, m3⟩, f3, Nat.lt_of_lt_of_le K2.out G.size⟩, grown_drewS (grown_drewS (grown_drewS G))⟩
theorem and_le (r : Int) (m : Nat) (hm : m < 18446744073709551616) : ∃ t : Nat, bits .and .u64 r m = (t : Int) ∧ t ≤ m := by
  refine ⟨(BitVec.ofInt 64 r &&& BitVec.ofInt 64 (m : Int)).toNat, ?_, ?_⟩
  · have := (BitVec.ofInt 64 r &&& BitVec.ofInt 64 (m : Int)).isLt
    simp only [bits]
    rw [IntKind.wrap_u64]
    show ((BitVec.ofInt 64 r &&& BitVec.ofInt 64 (m : Int)).toNat : Int) % _ = _
    omega
  · rw [BitVec.toNat_and]
    refine Nat.le_trans Nat.and_le_right ?_
    rw [BitVec.ofInt_natCast, BitVec.toNat_ofNat]
    exact Nat.mod_le _ _
theorem w64_4 : wrap64 (wrap64 (4 : Int)) = 4 := by simp [wrap64]
theorem w64_5 : wrap64 (wrap64 (5 : Int)) = 5 := by simp [wrap64]
theorem len64_any (x : Nat) (w : World) (h0 : 13 ≤ x) (h1 : x ≤ 24) :
   Calls Try.prog 202 #[.int .u64 x] w fun e w' => e = .returned (.int .i64 (if x < 16 then 4 else 5)) ∧ w' = w := by
  rcases (by omega : x = 13 ∨ x = 14 ∨ x = 15 ∨ x = 16 ∨ x = 17 ∨ x = 18 ∨ x = 19 ∨ x = 20 ∨ x = 21 ∨ x = 22 ∨ x = 23 ∨ x = 24) with rfl | rfl | rfl | rfl | rfl | rfl | rfl | rfl | rfl | rfl | rfl | rfl
  all_goals
    go_enter Try.func202, Try.ntmps202
    go_wp2
    go_ret
    first | exact ⟨congrArg (fun x => Ending.returned (.int .i64 x)) w64_4, rfl⟩ | exact ⟨congrArg (fun x => Ending.returned (.int .i64 x)) w64_5, rfl⟩
theorem len_any (x : Nat) (w : World) (h0 : 13 ≤ x) (h1 : x ≤ 24) :
   Calls Try.prog 181 #[.int .u64 x] w fun e w' => e = .returned (.int .i64 (if x < 16 then 4 else 5)) ∧ w' = w := by
  have HL := Lib.hid (fun w => len64_any x w h0 h1)
  by_cases hx : x < 16
  · rw [if_pos hx]
    simp only [if_pos hx] at HL
    go_enter Try.func181, Try.ntmps181
    go_wp2_with (go_at_call 202; refine (HL.out _).mono ?_; rintro e w' ⟨rfl, rfl⟩)
    go_ret
    exact ⟨rfl, rfl⟩
  · rw [if_neg hx]
    simp only [if_neg hx] at HL
    go_enter Try.func181, Try.ntmps181
    go_wp2_with (go_at_call 202; refine (HL.out _).mono ?_; rintro e w' ⟨rfl, rfl⟩)
    go_ret
    exact ⟨rfl, rfl⟩
theorem power_any (x : Nat) (w : World) (h0 : 13 ≤ x) (h1 : x ≤ 24) :
   Calls Try.prog 204 #[.int .i64 x] w fun e w' => e = .returned (.int .u64 (if x < 16 then 16 else 32)) ∧ w' = w := by
  have e0 : IntKind.u64.wrap (x : Int) = (x : Int) := by rw [IntKind.wrap_u64]; omega
  have HL := Lib.hid (fun w => len_any x w h0 h1)
  by_cases hx : x < 16
  · rw [if_pos hx]
    simp only [if_pos hx] at HL
    go_enter Try.func204, Try.ntmps204
    go_wp2_with (go_at_call 181; refine (HL.out _).mono ?_; rintro e w' ⟨rfl, rfl⟩)
    go_ret
    exact ⟨rfl, rfl⟩
  · rw [if_neg hx]
    simp only [if_neg hx] at HL
    go_enter Try.func204, Try.ntmps204
    go_wp2_with (go_at_call 181; refine (HL.out _).mono ?_; rintro e w' ⟨rfl, rfl⟩)
    go_ret
    exact ⟨rfl, rfl⟩
theorem Rng.keep {w w' : World} {q g : Nat} (h : Rng w q) (hg : w.grownBy w' (some g)) (hq : q ≠ g) : Rng w' q := by
  have e := hg.block q h.2.2 (by simp; exact hq)
  refine ⟨?_, ?_, Nat.lt_of_lt_of_le h.2.2 hg.size⟩
  · obtain ⟨r, hr⟩ := h.1
    exact ⟨r, (World.cell?_of_block (a := ⟨q, 0, none⟩) e).trans hr⟩
  · exact (World.frozen?_of_block (a := ⟨q, 0, none⟩) e).trans h.2.1
theorem Row.keep {w w' : World} {base g n c q : Nat} {d : List Int} (h : Row w base g n c d) (hg : w.grownBy w' (some q)) (hq : q ≠ g) : Row w' base g n c d := by
  refine World.ownsRow.kept h (w' := w') (row := some q) hg ?_
  right
  simp [Value.ownBlock]
  exact fun e => hq e.symm
set_option maxHeartbeats 4000000 in
theorem break_any (base g n c a b : Nat) (d : List Int) (w : World) (hn : n ≤ 24) (hab : a + 12 < b) (hb : b ≤ n) (h : Row w base g n c d) :
   Calls Try.prog 194 #[.slice (some ⟨g, 0, none⟩) n c, .int .i64 a, .int .i64 b] w (RowP base g n c w (fun _ => True)) := by
  have hgw : g < w.heap.size := ((own_lt h) g rfl).2
  obtain ⟨l, hl⟩ : ∃ l, l = b - a := ⟨_, rfl⟩
  obtain ⟨i0, hi0⟩ : ∃ i0, i0 = a + l / 4 * 2 - 1 := ⟨_, rfl⟩
  have hl2 : a + l ≤ b ∧ b ≤ a + l ∧ 13 ≤ l ∧ l ≤ 24 ∧ a ≤ i0 ∧ i0 + 2 < b := by omega
  have e0 : (b : Int) - (a : Int) = (l : Int) := by omega
  have e1 : IntKind.u64.wrap (l : Int) = (l : Int) := by rw [IntKind.wrap_u64]; omega
  have e2 : (a : Int) + (l : Int) / 4 * 2 - 1 = (i0 : Int) := by omega
  have e3 : (a : Int) + (l : Int) / 4 * 2 + 1 = ((i0 + 2 : Nat) : Int) := by omega
  have H : Hid (Row (w.alloc (.cells #[.int .u64 l] 178)) base g n c d) := Lib.hid (World.ownsRow.alloc h _)
  have K : Hid (Rng (w.alloc (.cells #[.int .u64 l] 178)) w.heap.size) := Lib.hid ⟨⟨l, by go_cell⟩, by go_cell, by simp⟩
  have G : Hid (w.grownBy (w.alloc (.cells #[.int .u64 l] 178)) (some g)) := Lib.hid (grown_belowS ((Below.refl _ _).alloc (Nat.le_refl _) _))
  have Hgq := Lib.hid (show w.heap.size ≠ g by omega)
  obtain ⟨M, hM⟩ : ∃ M : Nat, M = if l < 16 then 16 else 32 := ⟨_, rfl⟩
  have hM2 : 1 ≤ M ∧ M ≤ 2 * l ∧ M ≤ 32 := by split at hM <;> omega
  have HP : Hid (∀ w, Calls Try.prog 204 #[.int .i64 l] w fun e w' => e = .returned (.int .u64 (M : Int)) ∧ w' = w) := Lib.hid (fun w => (power_any l w (by omega) (by omega)).mono (fun e w' h => ⟨h.1.trans (by rw [hM]; split <;> rfl), h.2⟩))
  have e4 : (M : Int) - 1 = ((M - 1 : Nat) : Int) := by omega
  clear h hl hi0 hM
  go_enter Try.func194, Try.ntmps194
  go_wp2_with (go_at_call 204; refine (HP.out _).mono ?_; rintro e w' ⟨rfl, rfl⟩)
  generalize hQ : w.heap.size = q at *
  generalize hW : w.alloc (.cells #[.int .u64 l] 178) = wa at *
  have HQ := Lib.hid (show w.heap.size ≤ q by omega)
  clear hQ hW
  go_loopw [9] (fun v wr => ∃ (k : Nat) (d' : List Int), i0 ≤ k ∧ k ≤ i0 + 3 ∧ v = .int .i64 k ∧ Row wr base g n c d' ∧ Rng wr q ∧ w.grownBy wr (some g)) (fun v _ => i0 + 3 - (intOf v).toNat)
  case atStart => exact ⟨i0, d, by omega, by omega, by first | rfl | (congr 1; omega), H.out, K.out, G.out⟩
  case round =>
    clear H K G HP
    obtain ⟨k, d0', hk1, hk2, rfl, hr, hK, hg⟩ := hrel
    have HrA := Lib.hid hr
    have HK := Lib.hid hK
    have HgA := Lib.hid hg
    clear hr hK hg
    by_cases h0 : k ≤ i0 + 2
    · have q9 : (k : Int) ≤ ((i0 + 2 : Nat) : Int) := by omega
      go_wp2_with fail
      refine (next_any q wr HK.out).mono ?_
      rintro e w1 ⟨r, rfl, hK1, hg1⟩
      have HrC := Lib.hid (Row.keep HrA.out hg1 Hgq.out)
      have HKC := Lib.hid hK1
      have HgC := Lib.hid (grown_fresh hg1 0 w HgA.out HQ.out)
      clear hK1 hg1 HrA HK HgA
      obtain ⟨t, ht, ht2⟩ := and_le r (M - 1) (by omega)
      have e5 : IntKind.i64.wrap (t : Int) = (t : Int) := IntWalk.i64_in _ (by omega)
      generalize w1 = wo at *
      by_cases hx : l ≤ t
      · obtain ⟨ak, hak⟩ : ∃ ak, ak = a + (t - l) := ⟨_, rfl⟩
        have hak2 : ak < n ∧ k < n := by omega
        have q8 : (l : Int) ≤ (t : Int) := by omega
        have e6 : (t : Int) - (l : Int) = ((t - l : Nat) : Int) := by omega
        have w1 : (a : Int) + ((t - l : Nat) : Int) = (ak : Int) := by omega
        clear hak
        have hfz := HrC.out.frozenAt
        have c0 := HrC.out.cell (show k < n by omega)
        have c1 := HrC.out.cell (show ak < n by omega)
        have q0 : (0 : Int) ≤ (k : Int) := by omega
        have q1 : (k : Int) < (n : Int) := by omega
        have q2 : (0 : Int) ≤ (ak : Int) := by omega
        have q3 : (ak : Int) < (n : Int) := by omega
        have RD := Lib.hid (own_drew (HrC.out.ex k ak))
        have GD := Lib.hid (fun u v => grown_drewS (grownBy_trans HgC.out (grown_swp _ g k ak u v)))
        generalize hD : swp d0' k ak = d2 at *
        generalize nth d0' k = x at *
        generalize nth d0' ak = y at *
        clear hD
        obtain ⟨v9, hy⟩ := cell?_setCell_some (p := ⟨g, k, none⟩) (x := .int .i64 y) (q := ⟨g, ak, none⟩) (v := .int .i64 y) c1
        go_wp2_with fail
        go_region
        have GE := Lib.hid (GD.out (.int .i64 y) (.int .i64 x))
        go_wp2
        go_roundw
        case rel => exact ⟨k + 1, d2, by omega, by omega, by first | rfl | go_num, RD.out, HKC.out.keep (grown_drewS (grown_swp _ g k ak _ _)) Hgq.out, GE.out⟩
        case measure => first | (simp [intOf]; omega) | (simp [intOf]; done)
      · obtain ⟨ak, hak⟩ : ∃ ak, ak = a + t := ⟨_, rfl⟩
        have hak2 : ak < n ∧ k < n := by omega
        have q8 : ¬ (l : Int) ≤ (t : Int) := by omega
        have w1 : (a : Int) + (t : Int) = (ak : Int) := by omega
        clear hak
        have hfz := HrC.out.frozenAt
        have c0 := HrC.out.cell (show k < n by omega)
        have c1 := HrC.out.cell (show ak < n by omega)
        have q0 : (0 : Int) ≤ (k : Int) := by omega
        have q1 : (k : Int) < (n : Int) := by omega
        have q2 : (0 : Int) ≤ (ak : Int) := by omega
        have q3 : (ak : Int) < (n : Int) := by omega
        have RD := Lib.hid (own_drew (HrC.out.ex k ak))
        have GD := Lib.hid (fun u v => grown_drewS (grownBy_trans HgC.out (grown_swp _ g k ak u v)))
        generalize hD : swp d0' k ak = d2 at *
        generalize nth d0' k = x at *
        generalize nth d0' ak = y at *
        clear hD
        obtain ⟨v9, hy⟩ := cell?_setCell_some (p := ⟨g, k, none⟩) (x := .int .i64 y) (q := ⟨g, ak, none⟩) (v := .int .i64 y) c1
        go_wp2_with fail
        go_region
        have GE := Lib.hid (GD.out (.int .i64 y) (.int .i64 x))
        go_wp2
        go_roundw
        case rel => exact ⟨k + 1, d2, by omega, by omega, by first | rfl | go_num, RD.out, HKC.out.keep (grown_drewS (grown_swp _ g k ak _ _)) Hgq.out, GE.out⟩
        case measure => first | (simp [intOf]; omega) | (simp [intOf]; done)
    · have q9 : ¬ (k : Int) ≤ ((i0 + 2 : Nat) : Int) := by omega
      go_wp2
      go_end0
      exact ⟨d0', rfl, trivial, HrA.out, HgA.out⟩
end Go.Proofs.Ytooifamckccadaa
