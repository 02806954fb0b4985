/- Copies of lists, and DefaultBlocks. -/
import Derived.Test.YtooifamckccadaaDn
import Derived.Test.YtooifamckccadaaBk
namespace Go.Proofs.Ytooifamckccadaa
open Go.ChangeShapes Go.WideShapes Go.ChangeAt Go.RowKit
set_option maxRecDepth 20000
set_option linter.unusedVariables false
set_option linter.unusedSimpArgs false
theorem l01Own_any (l : List Int) (A : Option Addr) (B c : Nat) (w : World) (hr : Rd w B A (ints l)) (hB : B ≤ w.heap.size) (hn : l.length ≤ 1048576) :
   Calls Try.prog 187 #[.slice A l.length c] w fun e w' => ∃ A' c', e = .returned (.slice A' l.length c') ∧ w'.ownsRow w.heap.size 2 1 (.slice A' l.length c') l.length (ints l) ∧ Below w.heap.size w w' := by
  obtain ⟨i0, hi0, hz0, hz1, hz2⟩ := info_parts infoInt64
  have ho := World.ownsRow_made (base := w.heap.size) (e := 2) (size := 1) w #[] 0 (Nat.le_refl _) (by unfold maxLen; omega) (by simp)
  have Ho := Lib.hid ho
  have hr1 := Lib.hid (hr.alloc hB (.cells #[] 2))
  clear ho hr
  go_enter Try.func187, Try.ntmps187
  go_wp2_with (at_builtin; refine wpList_append_rd rfl (.tmp 3) (.tmp 4) 27 rfl w.heap.size 2 i0 (.int .i64 0) 1 8 Try.underlying27 hi0 hz0 hz1 hz2 rfl (by decide) _ _ _ rfl Ho.out B A l.length c (ints l) rfl (by simp [ints]) hr1.out (ints_one _) (by unfold maxLen; omega) (by omega) (by simp) ?_; intro v2 w2 o2 hb2 hz4; have O2 := Lib.hid o2; clear o2)
  go_ret
  have o2 := O2.out
  rw [Nat.zero_add, List.nil_append] at o2
  obtain ⟨A', c', rfl⟩ := own_val o2
  exact ⟨A', c', rfl, o2, ((Below.refl _ _).alloc (Nat.le_refl _) _).trans hb2⟩
set_option maxHeartbeats 2000000 in
theorem defBlocks_weak (ls : List Seg) (hl : ls.length ≤ 25) (A : Option Addr) (B c : Nat) (w : World) (hs : Rd w B A (ls.flatMap eSegment)) (hB : B ≤ w.heap.size) :
   Calls Try.prog 186 #[.agg #[.slice A ls.length c]] w fun e w' => ∃ (fs : List Int) (A2 : Option Addr) (c2 : Nat), (∃ q : Int, e = .returned (.tuple #[.slice A2 fs.length c2, .int .i64 q])) ∧ fs.length ≤ 25 ∧ w'.ownsRow w.heap.size 2 1 (.slice A2 fs.length c2) fs.length (ints fs) ∧ Below w.heap.size w w' := by
  obtain ⟨i0, hi0, hz0, hz1, hz2⟩ := info_parts infoInt64
  have Hs := Lib.hid (hs.alloc hB (.cells #[.slice A ls.length c] 26))
  have HL := Lib.hid (fun (w' : World) (h : Rd w' B A (ls.flatMap eSegment)) (h3 : B ≤ w'.heap.size) => isLayout_spec ls A B c w' h h3 (by omega))
  have K0 := Lib.hid (bk_new w #[.slice A ls.length c] 26)
  clear hs
  cases hlay : layB ls with
  | false =>
    rw [hlay] at HL
    go_enter Try.func186, Try.ntmps186
    go_wp2_with (go_at_call 99; refine (HL.out _ (by exact Hs.out) (by simp; omega)).mono ?_; rintro e w1 ⟨rfl, b1⟩; have B1 := Lib.hid ((((Below.refl w.heap.size w).alloc (Nat.le_refl _) _)).trans (b1.mono (by simp))))
    go_ret2
    exact ⟨[], none, 0, ⟨1, rfl⟩, by simp, World.ownsRow_nil _ _ _ _, B1.out⟩
  | true =>
    rw [hlay] at HL
    obtain ⟨_, hlen3, hlen24⟩ := lay_all hlay
    go_enter Try.func186, Try.ntmps186
    go_wp2_with fail
    refine (HL.out _ (by exact Hs.out) (by simp; omega)).mono ?_; rintro e w1 ⟨rfl, b1⟩
    have B1 := Lib.hid ((((Below.refl w.heap.size w).alloc (Nat.le_refl _) (.cells #[.slice A ls.length c] 26))).trans (b1.mono (by simp)))
    have Hs1 := Lib.hid (Hs.out.below b1 (by simp; omega))
    have K1 := Lib.hid (bk_below K0.out b1 (by simp))
    have z1 := b1.size
    simp only [World.size_alloc] at z1
    have O1 : Hid ((w1.alloc (.cells #[.int .i64 0] 2)).ownsRow w1.heap.size 2 1 (.slice (some ⟨w1.heap.size, 0, none⟩) 1 1) 1 (ints [0])) := Lib.hid (by
      exact World.ownsRow_lit w1 #[.int .i64 0] 1 (by omega) (by unfold maxLen; omega) rfl)
    clear b1 Hs K0 HL
    obtain ⟨s0, sf, ss⟩ := bk1 K1.out
    go_wp2_with fail
    go_loopw [4, 5] (fun v i wr => ∃ (fs : List Int) (k : Nat), k < ls.length ∧ i = .int .i64 k ∧ fs.length ≤ k + 1 ∧ wr.ownsRow w1.heap.size 2 1 v fs.length (ints fs) ∧ Bk wr w.heap.size #[.slice A ls.length c] ∧ Below w1.heap.size w1 wr) (fun _ i _ => ls.length - (intOf i).toNat)
    case atStart => exact ⟨[0], 0, by omega, rfl, by simp, O1.out, bk_alloc K1.out _, (Below.refl _ _).alloc (Nat.le_refl _) _⟩
    case round =>
      clear O1 s0 sf ss
      obtain ⟨fs, k, hk, rfl, hfl, ho, hbk, hbw⟩ := hrel
      have Ho := Lib.hid ho
      have Hk := Lib.hid hbk
      have Hb := Lib.hid hbw
      have hsz := hbw.size
      obtain ⟨s0, sf, ss⟩ := bk1 hbk
      have hfl2 : fs.length ≤ 1048576 := by omega
      by_cases hlt : k + 1 < ls.length
      · have ht := List.getElem?_eq_getElem (show k < ls.length by omega)
        generalize ls[k] = t at ht
        have hlt2 : (k : Int) + 1 < (ls.length : Int) := by omega
        obtain ⟨bs, os, rfl, hbB, c0, c1, c2, c3, c4, c5, c6⟩ := (Hs1.out.below hbw (by omega)).atSegment ht
        obtain ⟨tk, tl, tr, trl, trh, tfl, tfh⟩ := t
        dsimp only at *
        have HH := Lib.hid (fun w' => holds_spec tk tl tr trl trh tfl tfh w')
        clear ho hbk hbw ht
        generalize holdB tk = h at *
        cases h with
        | true =>
          go_wp2_with (first | (go_at_call 177; refine (HH.out _).mono ?_; rintro e w5 ⟨rfl, b5⟩; have O5 := Lib.hid (own_below Ho.out b5); have K5 := Lib.hid (bk_below Hk.out b5 (by omega)); have D5 := Lib.hid (Hb.out.trans (b5.mono (by omega))); have z5 := b5.size; clear b5) | (at_builtin; go_loud (refine wpList_append_int rfl (.tmp 24) (.tmp 27) 27 rfl w1.heap.size 2 i0 Try.underlying27 hi0 hz0 hz1 hz2 _ _ fs (by rfl) O5.out ((k : Int) + 1) (by rfl) hfl2 (by omega) ?_); intro v6 w6 own6 hb6 hz6; have O6 := Lib.hid own6; have K6 := Lib.hid (bk_below K5.out hb6 (by omega)); have D6 := Lib.hid (D5.out.trans (hb6.mono (by omega))); clear own6))
          go_roundw
          case rel => exact ⟨fs ++ [(k : Int) + 1], k + 1, by omega, by go_num, by simp; omega, by simpa using O6.out, K6.out, D6.out⟩
          case measure => simp [intOf]; omega
        | false =>
          go_wp2_with (first | (go_at_call 177; refine (HH.out _).mono ?_; rintro e w5 ⟨rfl, b5⟩; have O5 := Lib.hid (own_below Ho.out b5); have K5 := Lib.hid (bk_below Hk.out b5 (by omega)); have D5 := Lib.hid (Hb.out.trans (b5.mono (by omega))); have z5 := b5.size; clear b5))
          go_roundw
          case rel => exact ⟨fs, k + 1, by omega, by go_num, by omega, O5.out, K5.out, D5.out⟩
          case measure => simp [intOf]; omega
      · have hlt2 : ¬ (k : Int) + 1 < (ls.length : Int) := by omega
        obtain ⟨A2, c2, rfl⟩ := own_val Ho.out
        have BB := Lib.hid (B1.out.trans (Hb.out.mono (by omega)))
        clear ho hbk hbw
        by_cases h2 : fs.length < 2
        · have h2' : (fs.length : Int) < 2 := by omega
          go_wp2
          go_ret2
          exact ⟨[], none, 0, ⟨5, rfl⟩, by simp, World.ownsRow_nil _ _ _ _, BB.out⟩
        · have h2' : ¬ (fs.length : Int) < 2 := by omega
          by_cases h8 : 8 < fs.length
          · have h8' : (8 : Int) < (fs.length : Int) := by omega
            go_wp2
            go_ret2
            exact ⟨[], none, 0, ⟨3, rfl⟩, by simp, World.ownsRow_nil _ _ _ _, BB.out⟩
          · have h8' : ¬ (8 : Int) < (fs.length : Int) := by omega
            go_wp2
            go_ret2
            exact ⟨fs, A2, c2, ⟨0, rfl⟩, by omega, own_more Ho.out (by omega), BB.out⟩
end Go.Proofs.Ytooifamckccadaa
