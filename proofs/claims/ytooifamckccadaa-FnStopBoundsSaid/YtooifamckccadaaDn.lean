/- Draws of devices. -/
import Derived.Test.YtooifamckccadaaDm
namespace Go.Proofs.Ytooifamckccadaa
open Go.ChangeShapes Go.WideShapes Go.ChangeAt Go.RowKit
set_option maxRecDepth 20000
set_option linter.unusedVariables false
set_option linter.unusedSimpArgs false
theorem own_belowN {w w' : World} {N base : Nat} {e : TypeId} {size n : Nat} {v : Value} {xs : List Value} (h : w.ownsRow base e size v n xs) (hb : Below N w w') (hN : ∀ k, v.ownBlock = some k → k < N) : w'.ownsRow base e size v n xs := by
  refine ⟨h.1, ?_⟩
  rcases h.2 with hn | ⟨g, cap, cur, rfl, hg, hgg, rest⟩
  · exact .inl hn
  · exact .inr ⟨g, cap, cur, rfl, hg, (hb.block g (hN g rfl)).trans hgg, rest⟩
def DevP (w0 : World) (g B : Nat) (C : Option Addr) (cap : Nat) (bl : List Int) (e : Ending) (w' : World) : Prop :=
  ∃ (on : List Int) (A : Option Addr) (c : Nat), e = .returned (.slice A on.length c) ∧ on.length ≤ 26 ∧ w'.ownsRow (w0.heap.size + 1) 2 1 (.slice A on.length c) on.length (ints on) ∧ DS w0 w' g B C cap bl
set_option maxHeartbeats 2000000 in
theorem l08DrawDevices_any (w0 : World) (g B : Nat) (C : Option Addr) (cap : Nat) (bl : List Int) (l : List Seg) (hl : l.length ≤ 25) (Al : Option Addr) (cl base : Nat) (hb : g < base) (hown : w0.ownsRow base 39 7 (.slice Al l.length cl) l.length (l.flatMap eSegment)) (h : DS w0 w0 g B C cap bl) :
   Calls Try.prog 75 #[.pointer (some ⟨g, 0, none⟩), .agg #[.slice Al l.length cl]] w0 (DevP w0 g B C cap bl) := by
  obtain ⟨i0, hi0, hz0, hz1, hz2⟩ := info_parts infoInt64
  have hg0 := h.size.2
  have H := Lib.hid ((h.alloc (.cells #[.slice Al l.length cl] 26)).alloc (.cells #[] 2))
  have Hlt := Lib.hid (fun k hk => (own_lt hown k hk).2)
  have Hl := Lib.hid ((hown.alloc (.cells #[.slice Al l.length cl] 26)).alloc (.cells #[] 2))
  have K0 := Lib.hid (bk_alloc (bk_new w0 #[.slice Al l.length cl] 26) (.cells #[] 2))
  have O0 : Hid (((w0.alloc (.cells #[.slice Al l.length cl] 26)).alloc (.cells #[] 2)).ownsRow (w0.heap.size + 1) 2 1 (.slice (some ⟨w0.heap.size + 1, 0, none⟩) 0 0) 0 []) := Lib.hid (by
    have := World.ownsRow_made (base := w0.heap.size + 1) (e := 2) (size := 1) (w0.alloc (.cells #[.slice Al l.length cl] 26)) #[] 0 (by simp) (by simp [maxLen]) rfl
    simpa using this)
  clear h hown
  go_enter Try.func75, Try.ntmps75
  go_wp2_with fail
  go_loopw [5, 6] (fun v i wr => ∃ (on : List Int) (k : Nat), k ≤ l.length ∧ i = .int .i64 k ∧ on.length ≤ k ∧ wr.ownsRow (w0.heap.size + 1) 2 1 v on.length (ints on) ∧ wr.ownsRow base 39 7 (.slice Al l.length cl) l.length (l.flatMap eSegment) ∧ Bk wr w0.heap.size #[.slice Al l.length cl] ∧ DS w0 wr g B C cap bl) (fun _ i _ => l.length - (intOf i).toNat)
  case atStart => exact ⟨[], 0, Nat.zero_le _, rfl, by simp, O0.out, Hl.out, K0.out, H.out⟩
  case round =>
    clear O0 Hl K0 H
    obtain ⟨on, k, hk, rfl, hon, ho, hl', hbk, hd⟩ := hrel
    have hsz := hd.size.1
    have Ho := Lib.hid ho
    have Hl := Lib.hid hl'
    have Hk := Lib.hid hbk
    have Hd := Lib.hid hd
    have hbz := bk_lt hbk
    obtain ⟨r0, rf, rs⟩ := bk1 hbk
    clear ho hl' hbk hd
    by_cases hlt : k < l.length
    · have ht := List.getElem?_eq_getElem hlt
      generalize l[k] = t at ht
      obtain ⟨b, o, rfl, hbb, c0, c1, c2, c3, c4, c5, c6⟩ := (Rd.of_own Hl.out).atSegment ht
      clear c1 c2 c3 c4 c5 c6 ht
      obtain ⟨kd, _⟩ := t
      simp only at c0
      by_cases hkd : kd = 0
      · subst hkd
        go_wp2
        go_roundw
        case rel => exact ⟨on, k + 1, by omega, by go_num, by omega, Ho.out, Hl.out, Hk.out, Hd.out⟩
        case measure => simp [intOf]; omega
      · have hkb : (kd != 0) = true := by simpa using hkd
        have hkb2 : (kd == 0) = false := by simpa using hkd
        go_wp2_with fail
        refine (next_ds Hd.out 2).mono ?_
        rintro e w2 ⟨x, rfl, x0, x1, d2, g2⟩
        have O2 := Lib.hid (DS.own Ho.out g2 (by omega))
        have L2 := Lib.hid (DS.own Hl.out g2 hb)
        have K2 := Lib.hid (bk_keep Hk.out g2 hg0)
        have D2 := Lib.hid d2
        have hs2 := d2.size.1
        have hb2 := bk_lt K2.out
        clear d2 g2 c0 r0 rf rs Ho Hl Hk Hd
        obtain ⟨r0, rf, rs⟩ := bk1 K2.out
        by_cases hx : x = 0
        · subst hx
          have hln : on.length ≤ 1048576 := by omega
          go_wp2_with (at_builtin; refine wpList_append_int rfl (.tmp 27) (.tmp 29) 27 rfl (w0.heap.size + 1) 2 i0 Try.underlying27 hi0 hz0 hz1 hz2 _ _ on (by rfl) O2.out (k : Int) (by rfl) hln (by omega) ?_; intro v5 w5 own5 hb5 hz5; have O5 := Lib.hid own5; have L5 := Lib.hid (own_belowN L2.out hb5 (fun q hq => by have := Hlt.out q hq; omega)); have K5 := Lib.hid (bk_below K2.out hb5 (by omega)); have D5 := Lib.hid (D2.out.below (hb5.mono (by omega))); clear own5)
          go_roundw
          case rel => exact ⟨on ++ [(k : Int)], k + 1, by omega, by go_num, by simp; omega, by simpa using O5.out, L5.out, K5.out, D5.out⟩
          case measure => simp [intOf]; omega
        · have hxb : (x == 0) = false := by rw [beq_eq_false_iff_ne]; exact hx
          go_wp2
          go_roundw
          case rel => exact ⟨on, k + 1, by omega, by go_num, by omega, O2.out, L2.out, K2.out, D2.out⟩
          case measure => simp [intOf]; omega
    · have hkl : k = l.length := by omega
      have hon2 : on.length ≤ 25 := by omega
      have hln : on.length ≤ 1048576 := by omega
      go_wp2_with fail
      refine (next_ds Hd.out 30).mono ?_
      rintro e w2 ⟨x, rfl, x0, x1, d2, g2⟩
      have O2 := Lib.hid (DS.own Ho.out g2 (by omega))
      have K2 := Lib.hid (bk_keep Hk.out g2 hg0)
      have D2 := Lib.hid d2
      have hs2 := d2.size.1
      have hb2 := bk_lt K2.out
      clear d2 g2 r0 rf rs Ho Hk Hd Hl x1
      obtain ⟨r0, rf, rs⟩ := bk1 K2.out
      rcases (show x = 0 ∨ x = 1 ∨ (x ≠ 0 ∧ x ≠ 1) by omega) with rfl | rfl | ⟨n0, n1⟩
      · go_wp2_with fail
        refine (next_ds D2.out 6).mono ?_
        rintro e w3 ⟨y, rfl, y0, y1, d3, g3⟩
        have O3 := Lib.hid (DS.own O2.out g3 (by omega))
        have D3 := Lib.hid d3
        have hs3 := d3.size.1
        have hs3' := g3.size
        clear d3 g3 r0 rf rs y1
        go_wp2_with (at_builtin; refine wpList_append_int rfl (.tmp 35) (.tmp 38) 27 rfl (w0.heap.size + 1) 2 i0 Try.underlying27 hi0 hz0 hz1 hz2 _ _ on (by rfl) O3.out y (by rfl) hln (by omega) ?_; intro v5 w5 own5 hb5 hz5; have O5 := Lib.hid own5; have D5 := Lib.hid (D3.out.below (hb5.mono (by omega))); clear own5)
        obtain ⟨A5, c5, rfl⟩ := own_val O5.out
        go_ret
        exact ⟨on ++ [y], A5, c5, by simp, by simp; omega, by simpa using O5.out, D5.out⟩
      · go_wp2_with (at_builtin; refine wpList_append_int rfl (.tmp 42) (.tmp 46) 27 rfl (w0.heap.size + 1) 2 i0 Try.underlying27 hi0 hz0 hz1 hz2 _ _ on (by rfl) O2.out (l.length : Int) (by rfl) hln (by omega) ?_; intro v5 w5 own5 hb5 hz5; have O5 := Lib.hid own5; have D5 := Lib.hid (D2.out.below (hb5.mono (by omega))); clear own5)
        obtain ⟨A5, c5, rfl⟩ := own_val O5.out
        go_ret
        exact ⟨on ++ [(l.length : Int)], A5, c5, by simp, by simp; omega, by simpa using O5.out, D5.out⟩
      · have m0 : (x == 0) = false := by rw [beq_eq_false_iff_ne]; exact n0
        have m1 : (x == 1) = false := by rw [beq_eq_false_iff_ne]; exact n1
        obtain ⟨A5, c5, rfl⟩ := own_val O2.out
        go_wp2
        go_ret
        exact ⟨on, A5, c5, rfl, by omega, O2.out, D2.out⟩
end Go.Proofs.Ytooifamckccadaa
