/- Lists of lists that came in; the laws' helpers for them. -/
import Derived.Test.YtdjbbjehgfkefaaGq
import Derived.Deep.Slices
namespace Go.Proofs.Ytdjbbjehgfkefaa
open Go.ChangeShapes Go.WideShapes Go.ChangeAt Go.RowKit
set_option maxRecDepth 20000
set_option linter.unusedVariables false
set_option linter.unusedSimpArgs false
theorem openGroups {H : Type} {enc : TypeId × Value → H} {W : World} {n c : Nat} {A : Option Addr} {d : DataW H} {p : List MemPlace} {b0 : Nat} {sp : Nat → Bool} {hd : Bool} (h : DataW.Trod enc Try.prog W b0 sp hd 33 (.slice A n c) d p) :
    ∃ G : List (List Int), G.length = n ∧ RdG W W.heap.size A G ∧ n ≤ c ∧ c ≤ maxLen ∧ ∀ l ∈ G, l.length ≤ maxLen := by
  obtain ⟨fuel, hf⟩ := h
  rcases Go.Deep.open_slice Try.underlying33 hf with ⟨hcs, _⟩ | ⟨a, len, cap, m, n', D, Pl, hcs, hb, hl, hm, hmm, _, hi⟩
  · simp [Value.cells] at hcs
    obtain ⟨rfl, rfl, rfl⟩ := hcs
    exact ⟨[], rfl, ⟨[], rfl, Rd.empty, fun k l hk => by simp at hk⟩, by omega, by simp [maxLen], by simp⟩
  · simp [Value.cells] at hcs
    obtain ⟨rfl, rfl, rfl⟩ := hcs
    have hlm : n ≤ m := by rw [hmm]; split <;> omega
    have hc1 : Try.prog.cellsOf 24 = 1 := by kernel_rfl
    obtain ⟨Y, hY⟩ := Go.Deep.choose_lt (α := Option Addr × Nat × List Int) (n := n) (p := fun i y => W.cell? (a.add i) = some (.slice y.1 y.2.2.length y.2.1) ∧ Rd W W.heap.size y.1 (ints y.2.2) ∧ y.2.2.length ≤ maxLen) (fun i hin => by
      obtain ⟨cs', hc, ht⟩ := hi i (by omega)
      rw [hc1, Nat.mul_one] at hc
      obtain ⟨_, hcl, hat⟩ := World.cells?_some hc
      have h0 := hat 0 (by omega)
      have hform : ∃ A' n1 c1, cs' = [.slice A' n1 c1] := by
        rcases Go.Deep.open_slice Try.underlying24 ht with ⟨hcs, _⟩ | ⟨a', len', cap', m', n'', D', Pl', hcs, _⟩
        · exact ⟨_, _, _, hcs⟩
        · exact ⟨_, _, _, hcs⟩
      obtain ⟨A', n1, c1, rfl⟩ := hform
      obtain ⟨l, rfl, hr, hlc, hmc, _⟩ := openInts (A := A') (n := n1) (c := c1) ⟨n', by simpa [Value.cells] using ht⟩
      refine ⟨(A', c1, l), ?_, hr, Nat.le_trans hlc hmc⟩
      rw [Go.Deep.add_add, Nat.add_zero] at h0
      exact h0)
    refine ⟨(List.range n).map fun i => (Y i).2.2, by simp, ⟨(List.range n).map fun i => .slice (Y i).1 (Y i).2.2.length (Y i).2.1, by simp, ?_, ?_⟩, hl, hm, ?_⟩
    · intro hpos
      have hn : 0 < n := by simpa using hpos
      have h1 := (hY 0 hn).1
      obtain ⟨b, o, spot⟩ := a
      have hspot : spot = none := by simpa [Addr.add] using World.cell?_spot h1
      subst hspot
      have hbl : b < W.heap.size := by
        rcases Nat.lt_or_ge b W.heap.size with hlt | hge
        · exact hlt
        · exfalso
          simp [World.cell?, Addr.add, Array.getElem?_eq_none hge] at h1
      refine ⟨b, o, rfl, hbl, fun j u hu => ?_⟩
      have hj : j < n := by have := (List.getElem?_eq_some_iff.1 hu).1; simpa using this
      rw [List.getElem?_map, List.getElem?_range hj] at hu
      cases hu
      have := (hY j hj).1
      by_cases hz : j = 0 <;> simpa [Addr.add, hz] using this
    · intro k l hk
      have hj : k < n := by have := (List.getElem?_eq_some_iff.1 hk).1; simpa using this
      rw [List.getElem?_map, List.getElem?_range hj] at hk
      cases hk
      exact ⟨(Y k).1, (Y k).2.1, by rw [List.getElem?_map, List.getElem?_range hj]; rfl, (hY k hj).2.1⟩
    · intro l hl'
      obtain ⟨k, hk, rfl⟩ := List.mem_map.1 hl'
      exact (hY k (List.mem_range.1 hk)).2.2
theorem szl_any (A : Option Addr) (n c : Nat) (q : Int) (hn : n ≤ maxLen) (h0 : 0 ≤ q) (h1 : q ≤ 1048576) (w : World) : Calls Try.prog 40 #[.slice A n c, .int .i64 q] w fun e w' => e = .returned (.int .i64 (if q < (n : Int) then -1 else q - n)) ∧ w = w' := by
  unfold maxLen at hn
  by_cases h : q < (n : Int)
  · rw [if_pos h]
    go_enter Try.func40, Try.ntmps40
    go_wp2
    go_ret
    exact ⟨rfl, rfl⟩
  · rw [if_neg h]
    go_enter Try.func40, Try.ntmps40
    go_wp2
    go_ret
    exact ⟨rfl, rfl⟩
def SzP (w : World) (G : List (List Int)) (e : Ending) (w' : World) : Prop := ∃ q : Int, e = .returned (.int .i64 q) ∧ (q < 0 ∨ (0 ≤ q ∧ G.length ≤ 1048576 ∧ ∀ l ∈ G, l.length ≤ 1048576)) ∧ w = w'
theorem szll_any (G : List (List Int)) (A : Option Addr) (B c : Nat) (w : World) (hr : RdG w B A G) (hn : G.length ≤ maxLen) (hG : ∀ l ∈ G, l.length ≤ maxLen) : Calls Try.prog 15 #[.slice A G.length c, .int .i64 1048576] w (SzP w G) := by
  unfold maxLen at hn
  by_cases h : (1048576 : Int) < (G.length : Int)
  · go_enter Try.func15, Try.ntmps15
    go_wp2
    go_ret
    exact ⟨-1, rfl, .inl (by omega), rfl⟩
  · have hd : decide ((1048576 : Int) - (G.length : Int) < 0) = false := decide_eq_false (by omega)
    have HG := Lib.hid hG
    have HR := Lib.hid hr
    clear hG hr
    go_enter Try.func15, Try.ntmps15
    go_wp2_with fail
    go_loop [1, 5] (fun q i => ∃ (k : Nat) (left : Int), k ≤ G.length ∧ i = .int .i64 k ∧ q = .int .i64 left ∧ 0 ≤ left ∧ left ≤ 1048576 ∧ ∀ j l, j < k → G[j]? = some l → l.length ≤ 1048576) (fun _ i => G.length - (intOf i).toNat)
    case atStart => exact ⟨0, 1048576 - (G.length : Int), Nat.zero_le _, rfl, rfl, by omega, by omega, fun j l hj => absurd hj (Nat.not_lt_zero _)⟩
    case round =>
      obtain ⟨k, left, hk, rfl, rfl, h0, h1, hall⟩ := hrel
      have Hall := Lib.hid hall
      by_cases hlt : k < G.length
      · have ht := List.getElem?_eq_getElem hlt
        generalize G[k] = l at ht
        have hl := HG.out l (List.mem_of_getElem? ht)
        obtain ⟨bb, o, A', c', rfl, hbb, c0, hrl⟩ := HR.out.at ht
        have Ht := Lib.hid ht
        have hj0 : (0 : Int) ≤ (k : Int) := by omega
        have hj1 : (k : Int) < (G.length : Int) := by omega
        have HZ := Lib.hid (szl_any A' l.length c' left hl h0 h1 w)
        clear ht hrl hall
        by_cases hc : left < (l.length : Int)
        · rw [if_pos hc] at HZ
          go_wp2_with (go_at_call 40; refine HZ.out.mono ?_; rintro e w' ⟨rfl, rfl⟩)
          go_ret
          exact ⟨-1, rfl, .inl (by omega), rfl⟩
        · rw [if_neg hc] at HZ
          have hd2 : decide (left - (l.length : Int) < 0) = false := decide_eq_false (by omega)
          go_wp2_with (go_at_call 40; refine HZ.out.mono ?_; rintro e w' ⟨rfl, rfl⟩)
          go_round
          case rel => exact ⟨k + 1, left - (l.length : Int), by omega, by go_num, rfl, by omega, by omega, fun j x hj hx => by
            rcases Nat.lt_succ_iff_lt_or_eq.1 hj with h | rfl
            · exact Hall.out j x h hx
            · have := Ht.out.symm.trans hx
              injection this with this
              rw [← this]; omega⟩
          case measure => simp [intOf]; omega
      · have hk' : k = G.length := by omega
        subst hk'
        clear hall
        go_wp2
        go_ret
        exact ⟨left, rfl, .inr ⟨h0, by omega, fun l hl => by
          obtain ⟨j, hj, rfl⟩ := List.mem_iff_getElem.1 hl
          exact Hall.out j _ hj (List.getElem?_eq_getElem hj)⟩, rfl⟩
set_option maxHeartbeats 1000000 in
theorem toGroups_any (G : List (List Int)) (A : Option Addr) (B c : Nat) (w : World) (hr : RdG w B A G) (hB : B ≤ w.heap.size) (hn : G.length ≤ 1048576) (hG : ∀ l ∈ G, l.length ≤ 1048576) :
   Calls Try.prog 17 #[.slice A G.length c] w fun e w' => ∃ A' c', e = .returned (.slice A' G.length c') ∧ GOwn w' w.heap.size (.slice A' G.length c') G ∧ Below w.heap.size w w' := by
  obtain ⟨i0, hi0, hz0, hz1, hz2⟩ := info_parts infoSl
  obtain ⟨w1, xs, hmk, hown, hxs, hb1, hz⟩ := mk_own (P := Try.prog) 33 24 i0 _ 1 24 Try.underlying33 hi0 hz0 hz1 hz2 .i64 .i64 G.length (by omega) (by unfold maxLen; omega) w.heap.size w (Nat.le_refl _)
  clear hxs
  have HR := Lib.hid hr
  have HG := Lib.hid hG
  generalize hGb : w.heap.size = Q at *
  have Ho1 := Lib.hid hown
  have Hb1 := Lib.hid hb1
  clear hr hG hown hb1
  go_enter Try.func17, Try.ntmps17
  go_wp2_with fail
  go_loopw [4] (fun i wr => ∃ k : Nat, k ≤ G.length ∧ i = .int .i64 k ∧ Below Q w wr ∧ Q < wr.heap.size ∧ ∃ xs, wr.ownsRow Q 24 1 (.slice (some ⟨Q, 0, none⟩) G.length G.length) G.length xs ∧ ∀ (j : Nat) (l : List Int), j < k → G[j]? = some l → ∃ A' c', xs[j]? = some (.slice A' l.length c') ∧ wr.ownsRow Q 2 1 (.slice A' l.length c') l.length (ints l)) (fun i _ => G.length - (intOf i).toNat)
  case atStart => exact ⟨0, Nat.zero_le _, rfl, Hb1.out, hz, xs, Ho1.out, fun j l hj => absurd hj (Nat.not_lt_zero _)⟩
  case round =>
    clear Ho1 Hb1 hmk
    obtain ⟨k, hk, rfl, hbw, hsz, ys, hown, hys⟩ := hrel
    have Hbw := Lib.hid hbw
    have Ho := Lib.hid hown
    have Hys := Lib.hid hys
    have hwz := hbw.size
    by_cases hlt : k < G.length
    · have ht := List.getElem?_eq_getElem hlt
      generalize G[k] = l at ht
      have hl := HG.out l (List.mem_of_getElem? ht)
      obtain ⟨bb, o, A', c', rfl, hbb, c0, hrl⟩ := (HR.out.below hbw (by omega)).at ht
      have hl2 := hown.1
      have dk := hown.cellAt k (by omega)
      rw [List.getElem?_eq_getElem (show k < ys.length by omega)] at dk
      generalize ys[k] = u0 at dk
      have hfz := hown.frozenAt
      have Ht := Lib.hid ht
      have HT := Lib.hid (toInt64S_any l A' B c' wr hrl (by omega) hl)
      have hj0 : (0 : Int) ≤ (k : Int) := by omega
      have hj1 : (k : Int) < (G.length : Int) := by omega
      clear ht hrl hbw hown hys
      go_wp2_with (go_at_call 10; refine HT.out.mono ?_; rintro e w2 ⟨A2, c2, rfl, own2, hb⟩; obtain ⟨hc, hf, hz2⟩ := bstep (N := wr.heap.size) (Nat.le_refl _) hb; have Own2 := Lib.hid own2; have Hb2 := Lib.hid hb; clear own2 hb)
      go_roundw
      case rel =>
        have O2 := own_below Ho.out Hb2.out
        have st := O2.stored k (.slice A2 l.length c2)
        refine ⟨k + 1, by omega, by go_num, (Hbw.out.trans (Hb2.out.mono (by omega))).setCell (p := ⟨Q, k, none⟩) (Nat.le_refl _) _, by simp; omega, _, st.1, fun j x hj hx => ?_⟩
        have hlen := Ho.out.1
        rcases Nat.lt_succ_iff_lt_or_eq.1 hj with h | rfl
        · obtain ⟨A3, c3, h3, h4⟩ := Hys.out j x h hx
          have h5 := own_below h4 Hb2.out
          refine ⟨A3, c3, by rw [List.getElem?_set_ne (by omega)]; exact h3, h5.kept st.2 ?_⟩
          cases hb : (Value.slice A3 x.length c3).ownBlock with
          | none => exact .inl rfl
          | some b => exact .inr (fun e => own_types O2 h5 (by decide) b hb e.symm)
        · have := Ht.out.symm.trans hx
          injection this with this
          subst this
          refine ⟨A2, c2, by rw [List.getElem?_set_self (by omega)], (own_more Own2.out (by omega)).kept st.2 ?_⟩
          cases hb : (Value.slice A2 l.length c2).ownBlock with
          | none => exact .inl rfl
          | some b => exact .inr (fun e => own_types O2 Own2.out (by decide) b hb e.symm)
      case measure => simp [intOf]; omega
    · have hk' : k = G.length := by omega
      subst hk'
      clear hbw hown hys
      go_wp2
      go_ret
      exact ⟨_, _, rfl, ⟨ys, Ho.out, fun j l hj => Hys.out j l (List.getElem?_eq_some_iff.1 hj).1 hj⟩, Hbw.out⟩
theorem eqGroups_same (G : List (List Int)) (A A2 : Option Addr) (B c c2 : Nat) (w : World) (hr : RdG w B A G) (hr2 : RdG w B A2 G) (hB : B ≤ w.heap.size) (hn : G.length ≤ 1048576) (hG : ∀ l ∈ G, l.length ≤ 1048576) :
   Calls Try.prog 19 #[.slice A G.length c, .slice A2 G.length c2] w fun e w' => e = .returned (.bool true) ∧ Below w.heap.size w w' := by
  have HR := Lib.hid hr
  have HR2 := Lib.hid hr2
  have HG := Lib.hid hG
  clear hr hr2 hG
  go_enter Try.func19, Try.ntmps19
  go_wp2_with fail
  go_loopw [5] (fun i wr => ∃ k : Nat, k ≤ G.length ∧ i = .int .i64 k ∧ Below w.heap.size w wr) (fun i _ => G.length - (intOf i).toNat)
  case atStart => exact ⟨0, Nat.zero_le _, rfl, Below.refl _ _⟩
  case round =>
    obtain ⟨k, hk, rfl, hbw⟩ := hrel
    have Hbw := Lib.hid hbw
    have hsz := hbw.size
    by_cases hlt : k < G.length
    · have ht := List.getElem?_eq_getElem hlt
      generalize G[k] = l at ht
      have hl := HG.out l (List.mem_of_getElem? ht)
      obtain ⟨bb, o, A', c', rfl, hbb, c0, hrl⟩ := (HR.out.below hbw hB).at ht
      obtain ⟨bb2, o2, A3, c3, rfl, hbb2, d0, hrl2⟩ := (HR2.out.below hbw hB).at ht
      have Hrl := Lib.hid hrl
      have Hrl2 := Lib.hid hrl2
      have hj0 : (0 : Int) ≤ (k : Int) := by omega
      have hj1 : (k : Int) < (G.length : Int) := by omega
      have hbz : bb < wr.heap.size := by omega
      have hbz2 : bb2 < wr.heap.size := by omega
      clear ht hrl hrl2 hbw
      go_wp2_with fail
      refine wp_region_cls (S := Below wr.heap.size wr) (by kernel_rfl) (by kernel_rfl) (below_drew1 _ _) ?_
      replace c0 := cls_cell c0 hbz
      replace d0 := cls_cell d0 hbz2
      repeat (go_big_quiet_step ((go_at_call 12; exact cls_call (Nat.le_refl _) (eqInt64S_same l A' A3 B c' c3 _ (cls_rd _ Hrl.out (by omega)) (cls_rd _ Hrl2.out (by omega)) (cls_le _ (by omega)) hl))))
      refine wpQuiet_nil ?_
      rintro _ ⟨⟨w5, bw5⟩, rfl⟩
      (try dsimp only)
      go_wp2
      go_roundw
      case rel => exact ⟨k + 1, by omega, by go_num, Hbw.out.trans (bw5.mono hsz)⟩
      case measure => simp [intOf]; omega
    · have hk' : k = G.length := by omega
      subst hk'
      clear hbw
      go_wp2
      go_ret
      exact ⟨rfl, Hbw.out⟩
end Go.Proofs.Ytdjbbjehgfkefaa
