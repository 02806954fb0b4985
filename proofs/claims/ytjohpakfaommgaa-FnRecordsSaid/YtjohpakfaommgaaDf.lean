/- Draws of records to encode and of bytes to decode. -/
import Derived.Test.YtjohpakfaommgaaDk
import Derived.Test.YtjohpakfaommgaaDcr
namespace Go.Proofs.Ytjohpakfaommgaa
open Go.ChangeShapes Go.WideShapes Go.ChangeAt Go.RowKit
set_option maxRecDepth 20000
set_option linter.unusedVariables false
set_option linter.unusedSimpArgs false
theorem bk_apart {w w' : World} {g b : Nat} {cs : Array Value} (h : Bk w b cs) (hg : w.grownBy w' (some g)) (hne : b ≠ g) : Bk w' b cs := by
  obtain ⟨t, e⟩ := h
  exact ⟨t, (hg.block b (bk_lt ⟨t, e⟩) (fun e => by injection e with e; exact hne e)).trans e⟩
theorem ret_recn {fn : Func} {t u : Tmp} {a : Act} {w : World} {R : Ending → World → Prop} {b : Nat} {x y z n : Int} (hres : fn.results = #[.cell t 35, .tmp u]) (ha : a.tmps.getD t undef = .pointer (some ⟨b, 0, none⟩)) (ha2 : a.tmps.getD u undef = .int .i64 n) (hd : a.defers = []) (h : Bk w b #[.int .i64 x, .int .i64 y, .int .i64 z]) (hR : R (.returned (.tuple #[.agg #[.int .i64 x, .int .i64 y, .int .i64 z], .int .i64 n])) w) : bodyPost Try.prog fn R .ret a w := by
  refine bodyPost_ret ?_ hd hR
  obtain ⟨c0, c1, c2, cf, cs⟩ := bk3 h
  simp only [Array.getD_eq_getD_getElem?] at ha ha2
  simp [results, hres, ha, ha2, go_sem, *]
def EncP (w0 : World) (e : Ending) (w' : World) : Prop := ∃ x y z n : Int, e = .returned (.tuple #[.agg #[.int .i64 x, .int .i64 y, .int .i64 z], .int .i64 n]) ∧ Below w0.heap.size w0 w'
set_option maxHeartbeats 1000000 in
theorem drawEnc_any (bl : List Int) (hbl : isU8 bl) (hn : bl.length ≤ 4096) (C : Option Addr) (cap : Nat) (w0 : World) (hr : Rd w0 w0.heap.size C (bytesU bl)) :
   Calls Try.prog 38 #[.slice C bl.length cap] w0 (EncP w0) := by
  have HF : Hid (Calls Try.prog 68 #[.slice C bl.length cap] (w0.alloc (.cells #[.int .i64 0, .int .i64 0, .int .i64 0] 35)) (fun e w' => ∃ g : Nat, w0.heap.size + 1 ≤ g ∧ e = .returned (.pointer (some ⟨g, 0, none⟩)) ∧ Src w' g C bl.length cap ∧ Below (w0.heap.size + 1) (w0.alloc (.cells #[.int .i64 0, .int .i64 0, .int .i64 0] 35)) w' ∧ g < w'.heap.size)) := Lib.hid
    ((l01From_any bl hbl hn C w0.heap.size cap _ (hr.alloc (Nat.le_refl _) _) (by simp)).mono fun e w' ⟨a, b, c, d⟩ => ⟨_, by simp, a, b, by simpa using c, d⟩)
  have Hr := Lib.hid (hr.alloc (Nat.le_refl _) (.cells #[.int .i64 0, .int .i64 0, .int .i64 0] 35))
  have K0 := Lib.hid (bk_new w0 #[.int .i64 0, .int .i64 0, .int .i64 0] 35)
  have Hbl := Lib.hid hbl
  clear hr hbl
  go_enter Try.func38, Try.ntmps38
  go_wp2_with fail
  refine HF.out.mono ?_
  rintro e w1 ⟨g, hg, rfl, hs, hb, hz⟩
  have D1 := Lib.hid (DS.start (Hr.out.below hb (by omega)) hs (by omega) Hbl.out hn)
  have K1 := Lib.hid (bk_below K0.out hb (by omega))
  have B1 := Lib.hid (((Below.refl w0.heap.size w0).alloc (Nat.le_refl _) _).trans (hb.mono (by omega)))
  have hne : w0.heap.size ≠ g := by omega
  have hg1 := hz
  clear hs HF Hr hb
  go_wp2_with fail
  refine (l32Draw_any w1 _ _ C cap bl D1.out).mono ?_
  rintro e w2 ⟨x, y, z, rfl, d2⟩
  have K2 := Lib.hid (bk_apart K1.out d2.2.2.1 hne)
  have D2 := Lib.hid d2
  clear d2
  go_wp2_with fail
  refine (next_al D2.out _).mono ?_
  rintro e w3 ⟨a, rfl, d3, g3⟩
  have K3 := Lib.hid (bk_apart K2.out g3 hne)
  have D3 := Lib.hid d3
  clear d3 g3
  go_wp2_with fail
  refine (next_al D3.out _).mono ?_
  rintro e w4 ⟨b, rfl, d4, g4⟩
  have K4 := Lib.hid (bk_apart K3.out g4 hne)
  have D4 := Lib.hid d4
  clear d4 g4
  go_wp2_with fail
  refine (pick_al D4.out [100, -1] 2 _ (by rfl) _ (by rfl) rfl (by omega) (by omega)).mono ?_
  rintro e w5 ⟨v, rfl, d5, g5⟩
  have K5 := Lib.hid (bk_apart (bk_alloc K4.out _) g5 hne)
  have D5 := Lib.hid d5
  clear d5 g5
  go_wp2_with fail
  refine (pick_al D5.out [a, b, 0, 99, v] 5 _ (by rfl) _ (by rfl) rfl (by omega) (by omega)).mono ?_
  rintro e w6 ⟨n, rfl, d6, g6⟩
  have K6 := Lib.hid (bk_apart (bk_alloc K5.out _) g6 hne)
  have B6 := Lib.hid (B1.out.trans (below_of_grownBy (B := w0.heap.size) d6.2.2.1 (by omega) (fun k hk => by injection hk with hk; omega)))
  obtain ⟨q0, q1, q2, qf, qs⟩ := bk3 K6.out
  clear d6 g6 K0 K1 K2 K3 K4 K5
  go_wp2
  (try simp only [Exit.inBlock, Exit.then])
  refine ret_recn rfl rfl rfl rfl (bk_fill3 K6.out _ _ _) ?_
  have b6 := B6.out
  exact ⟨x, y, z, n, rfl, by repeat' (first | (with_reducible exact Below.refl _ _) | (with_reducible assumption) | (with_reducible refine Below.alloc ?_ ?_ _) | (with_reducible refine Below.drew ?_) | (with_reducible refine below_drewN ?_ _) | (with_reducible refine Below.setCell ?_ ?_ _) | (with_reducible refine Below.trans ?_ (Below.mono (by assumption) ?_)) | go_size | (exact Below.size (by assumption)))⟩
def BytP (w0 : World) (e : Ending) (w' : World) : Prop := ∃ (l : List Int) (A : Option Addr) (c : Nat), e = .returned (.slice A l.length c) ∧ l.length ≤ 2001 ∧ l.length ≤ c ∧ Rd w' w'.heap.size A (ints l) ∧ Below w0.heap.size w0 w'
theorem enc_len (x y z n : Int) : (encC x y z n = 0 ∧ (encR x y z n).length = 14) ∨ (encC x y z n ≠ 0) := by
  by_cases h : encC x y z n = 0
  · exact .inl ⟨h, by rw [encR, if_pos h, encL_length]⟩
  · exact .inr h
set_option maxHeartbeats 2000000 in
theorem drawDec_any (bl : List Int) (hbl : isU8 bl) (hn : bl.length ≤ 4096) (C : Option Addr) (cap : Nat) (w0 : World) (hr : Rd w0 w0.heap.size C (bytesU bl)) :
   Calls Try.prog 39 #[.slice C bl.length cap] w0 (BytP w0) := by
  have HF : Hid (Calls Try.prog 68 #[.slice C bl.length cap] w0 (fun e w' => ∃ g : Nat, w0.heap.size ≤ g ∧ e = .returned (.pointer (some ⟨g, 0, none⟩)) ∧ Src w' g C bl.length cap ∧ Below w0.heap.size w0 w' ∧ g < w'.heap.size)) := Lib.hid
    ((l01From_any bl hbl hn C w0.heap.size cap _ hr (Nat.le_refl _)).mono fun e w' ⟨a, b, c, d⟩ => ⟨_, Nat.le_refl _, a, b, c, d⟩)
  have Hr := Lib.hid hr
  have Hbl := Lib.hid hbl
  clear hr hbl
  go_enter Try.func39, Try.ntmps39
  go_wp2_with fail
  refine HF.out.mono ?_
  rintro e w1 ⟨g, hg, rfl, hs, hb, hz⟩
  have D1 := Lib.hid (DS.start (Hr.out.below hb (Nat.le_refl _)) hs (by omega) Hbl.out hn)
  have B1 := Lib.hid hb
  clear hs HF Hr hb
  go_wp2_with fail
  refine (l32Draw_any w1 _ _ C cap bl D1.out).mono ?_
  rintro e w2 ⟨x, y, z, rfl, d2⟩
  have D2 := Lib.hid d2
  clear d2
  go_wp2_with fail
  refine (next_al D2.out _).mono ?_
  rintro e w3 ⟨n, rfl, d3, g3⟩
  have D3 := Lib.hid d3
  have z3 := d3.size.1
  clear d3 g3
  go_wp2_with fail
  refine (enc_spec x y z n w3).mono ?_
  rintro e w4 ⟨A4, c4, rfl, o4, b4⟩
  have D4 := Lib.hid (D3.out.below (b4.mono z3))
  have O4 := Lib.hid (own_down o4 z3)
  have z4 := D4.out.size.1
  have hel := enc_len x y z n
  clear o4 b4
  generalize encC x y z n = K at *
  generalize encR x y z n = R at *
  have FIN : ∀ (w' : World) (l : List Int) (A : Option Addr) (c : Nat), l.length ≤ 2001 → w'.ownsRow w1.heap.size 2 1 (.slice A l.length c) l.length (ints l) → DS w1 w' g w0.heap.size C cap bl → BytP w0 (.returned (.slice A l.length c)) w' := fun w' l A c h1 h2 h3 =>
    ⟨l, A, c, rfl, h1, (own_capm h2).1, Rd.of_own h2, B1.out.trans (below_of_grownBy (B := w0.heap.size) h3.2.2.1 (by omega) (fun k hk => by injection hk with hk; omega))⟩
  have Fin := Lib.hid FIN
  clear FIN
  rcases hel with ⟨rfl, h14⟩ | hK
  rotate_left
  · have h5 : (K != 0) = true := by simpa using hK
    have h5' : (K == 0) = false := by simpa using hK
    go_wp2_with fail
    refine (l32DrawBytes_any w4 g _ C cap bl 16 (by omega) (by omega) D4.out.again).mono ?_
    rintro e w5 ⟨l5, A5, c5, rfl, hl5, o5, d5⟩
    have O5 := Lib.hid (own_down o5 z4)
    have D5 := Lib.hid (D4.out.join d5)
    clear o5 d5
    go_wp2
    go_ret
    exact Fin.out _ _ _ _ hl5 O5.out D5.out
  · go_wp2_with fail
    refine (next_ds D4.out 12).mono ?_
    rintro e w5 ⟨v, rfl, v0, v1, d5, g5⟩
    have O5 := Lib.hid (DS.own O4.out g5 hz)
    have D5 := Lib.hid d5
    have z5 := d5.size.1
    clear d5 g5 v1 O4
    by_cases hx : v = 0
    · subst hx
      go_wp2_with fail
      refine (l32DrawBytes_any w5 g _ C cap bl 16 (by omega) (by omega) D5.out.again).mono ?_
      rintro e w6 ⟨l6, A6, c6, rfl, hl6, o6, d6⟩
      have O6 := Lib.hid (own_down o6 z5)
      have D6 := Lib.hid (D5.out.join d6)
      clear o6 d6
      go_wp2
      go_ret
      exact Fin.out _ _ _ _ hl6 O6.out D6.out
    · have hxb : (v == 0) = false := by rw [beq_eq_false_iff_ne]; exact hx
      go_wp2_with fail
      refine (next_ds D5.out 4).mono ?_
      rintro e w6 ⟨q, rfl, q0, q1, d6, g6⟩
      have O6 := Lib.hid (DS.own O5.out g6 hz)
      have D6 := Lib.hid d6
      clear d6 g6 O5
      obtain ⟨gb, rfl, hgb, hgb2⟩ := own_form O6.out (show 0 < R.length by omega)
      have hcap := (own_capm O6.out).1
      have hgg : gb ≠ g := by omega
      have hgg2 : g ≠ gb := by omega
      rw [h14] at O6 hcap
      have O6' := Lib.hid O6.out
      go_wp2_with fail
      go_loopw [6] (fun n wr => ∃ (R : List Int) (q : Int), R.length = 14 ∧ n = .int .i64 q ∧ 0 ≤ q ∧ q ≤ 4 ∧ wr.ownsRow w1.heap.size 2 1 (.slice (some ⟨gb, 0, none⟩) 14 c4) 14 (ints R) ∧ DS w1 wr g w0.heap.size C cap bl) (fun n _ => (intOf n).toNat)
      case atStart => exact ⟨R, q, h14, rfl, q0, by omega, O6.out, D6.out⟩
      case round =>
        clear h14 q0 q1 O6 O6' D6
        clear R
        obtain ⟨R, q, h14, rfl, q0, q9, hown, hd⟩ := hrel
        have O4 := Lib.hid hown
        have D4 := Lib.hid hd
        have z4 := hd.size.1
        clear hown hd
        by_cases hlt : 0 < q
        · go_wp2_with fail
          refine (next_ds D4.out _).mono ?_
          rintro e w5 ⟨k, rfl, k0, k1, d5, g5⟩
          have O5 := Lib.hid (DS.own O4.out g5 hz)
          have D5 := Lib.hid d5
          have z5 := d5.size.1
          obtain ⟨j, rfl⟩ : ∃ j : Nat, k = j := ⟨k.toNat, by omega⟩
          have hj : j < R.length := by omega
          have hgb5 : gb < w5.heap.size := by have := g5.size; have := (own_lt O4.out gb rfl).2; omega
          clear d5 g5 k1
          have ht := List.getElem?_eq_getElem hj
          generalize R[j] = v at ht
          have cv : w5.cell? ⟨gb, j, none⟩ = some (.int .i64 v) := by
            rw [O5.out.cellAt j (by omega)]
            simp [ints, ht]
          have hk1 : (j : Int) < (14 : Int) := by omega
          have hqw : IntKind.i64.wrap (q - 1) = q - 1 := IntWalk.i64_in _ (by omega)
          have hqw2 : wrap64 (q - 1) = q - 1 := IntWalk.wrap64_in _ (by omega)
          clear ht
          go_wp2_with fail
          go_region_with ((go_at_call 71; refine (next_ds (by first | exact D5.out.drew | exact D5.out) 8).mono ?_; rintro e w6 ⟨s, rfl, s0, s1, d6, g6⟩; have O6 := Lib.hid (DS.own (by first | exact O5.out.drew | exact O5.out) g6 hz); have D6 := Lib.hid d6; have z6 := d6.size.1; have s7 : s ≤ 7 := (by omega); have cv6 : w6.cell? ⟨gb, j, none⟩ = some (.int .i64 v) := (by have h1 := g6.block gb (by simpa using hgb5) (fun e => by injection e with e; omega); first | exact (cell_of_heap h1).trans cv | (simp only [World.cell?] at cv ⊢; rw [h1]; exact cv)); have fv6 := O6.out.frozenAt; clear d6 g6 s1))
          all_goals generalize bits BinOp.xor IntKind.i64 v (IntKind.i64.wrap (2 ^ min (IntKind.u64.wrap s).toNat 64)) = V
          all_goals (
            have o7 := World.ownsRow.stored O6.out j (.int .i64 V)
            have hset : (ints R).set j (.int .i64 V) = ints (R.set j V) := by simp [ints, List.map_set]
            have o8 := o7.1
            rw [hset] at o8
            have O7 := Lib.hid o8
            have D7 := Lib.hid (D6.out.below (below_of_grownBy (B := w1.heap.size) o7.2 z6 (fun k e => by injection e with e; omega)))
            clear o7 o8 hset
            go_wp2
            go_roundw
            case rel => exact ⟨R.set j V, q - 1, by rw [List.length_set]; exact h14, by go_num, by omega, by omega, O7.out, D7.out⟩
            case measure => simp [intOf]; omega)
        · go_wp2_with fail
          refine (next_ds D4.out 20).mono ?_
          rintro e w5 ⟨v, rfl, v0, v1, d5, g5⟩
          have O5 := Lib.hid (DS.own O4.out g5 hz)
          have D5 := Lib.hid d5
          clear d5 g5 v1
          by_cases hv : v = 0
          · subst hv
            have o13 := own_take O5.out (show 13 ≤ 14 by omega)
            have e13 : (ints R).take (13 * 1) = ints (R.take 13) := by simp [ints, List.map_take]
            rw [e13] at o13
            have l13 : (R.take 13).length = 13 := by rw [List.length_take]; omega
            have O13 := Lib.hid o13
            clear o13
            have hc13 : (13 : Int) ≤ (c4 : Int) := by omega
            go_wp2
            go_ret
            have := Fin.out _ (R.take 13) (some ⟨gb, 0, none⟩) c4 (by omega) (by rw [l13]; exact O13.out) D5.out
            rw [l13] at this
            exact this
          · have hvb : (v == 0) = false := by rw [beq_eq_false_iff_ne]; exact hv
            go_wp2
            go_ret
            have := Fin.out _ R (some ⟨gb, 0, none⟩) c4 (by omega) (by rw [h14]; exact O5.out) D5.out
            rw [h14] at this
            exact this
end Go.Proofs.Ytjohpakfaommgaa
