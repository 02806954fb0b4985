/- Draws of assignments. -/
import Derived.Test.YtmeppemobogicaaDs2
import Derived.Test.YtmeppemobogicaaI
namespace Go.Proofs.Ytmeppemobogicaa
open Go.ChangeShapes Go.WideShapes Go.ChangeAt Go.RowKit
set_option maxRecDepth 20000
set_option linter.unusedVariables false
set_option linter.unusedSimpArgs false
theorem own_belowN {w w' : World} {N base : Nat} {e : TypeId} {size n : Nat} {v : Value} {xs : List Value} (h : w.ownsRow base e size v n xs) (hb : Below N w w') (hN : ∀ k, v.ownBlock = some k → k < N) : w'.ownsRow base e size v n xs := by
  refine ⟨h.1, ?_⟩
  rcases h.2 with hn | ⟨g, cap, cur, rfl, hg, hgg, rest⟩
  · exact .inl hn
  · exact .inr ⟨g, cap, cur, rfl, hg, (hb.block g (hN g rfl)).trans hgg, rest⟩
def AsgP (w0 : World) (e : Ending) (w' : World) : Prop :=
  ∃ (l : List (Int × Int)) (A : Option Addr) (c : Nat) (n : Int) (a : List Int) (A' : Option Addr) (c' : Nat), e = .returned (.tuple #[.slice A l.length c, .int .i64 n, .slice A' a.length c']) ∧ l.length ≤ 8 ∧ a.length ≤ 9 ∧ -1000 ≤ n ∧ n ≤ 1000 ∧ Rd w' w'.heap.size A (l.flatMap eEvacuationStop) ∧ Rd w' w'.heap.size A' (ints a) ∧ Below w0.heap.size w0 w'
/-- the stops, the numbers drawn so far and the source, at a world behind w3 -/
def AsgR (l : List (Int × Int)) (A : Option Addr) (c N1 g : Nat) (C : Option Addr) (cap : Nat) (bl : List Int) (w3 : World) (v : Value) (m : Nat) (a : List Int) (wr : World) : Prop :=
  a.length = m ∧ wr.ownsRow N1 54 2 (.slice A l.length c) l.length (l.flatMap eEvacuationStop) ∧ wr.ownsRow w3.heap.size 2 1 v m (ints a) ∧ DS w3 wr g g C cap bl
set_option maxHeartbeats 2000000 in
theorem drawLoads_any (bl : List Int) (hbl : isU8 bl) (hn : bl.length ≤ 4096) (C : Option Addr) (cap : Nat) (w0 : World) (hr : Rd w0 w0.heap.size C (bytesU bl)) :
   Calls Try.prog 64 #[.slice C bl.length cap] w0 (AsgP w0) := by
  obtain ⟨i0, hi0, hz0, hz1, hz2⟩ := info_parts infoInt64
  have HF := Lib.hid (l01From_any bl hbl hn C w0.heap.size cap w0 hr (Nat.le_refl _))
  have Hr := Lib.hid hr
  have Hbl := Lib.hid hbl
  clear hr hbl
  go_enter Try.func64, Try.ntmps64
  go_wp2_with fail
  refine HF.out.mono ?_
  rintro e w1 ⟨rfl, hs, hb, hz⟩
  have D1 := Lib.hid (DS.start (Hr.out.below hb (Nat.le_refl _)) hs (Nat.le_refl _) Hbl.out hn)
  clear hs HF Hr
  generalize hg : w0.heap.size = g at *
  go_wp2_with fail
  refine (l30Draw_any w1 g g C cap bl D1.out).mono ?_
  rintro e w2 ⟨l, A, c, rfl, hl, o2, d2⟩
  have O2 := Lib.hid o2
  have D2 := Lib.hid d2
  have z2 := d2.size.1
  clear o2 d2 D1
  go_wp2_with fail
  refine (l30DrawCrews_any w2 g g C cap bl D2.out.again).mono ?_
  rintro e w3 ⟨n, rfl, n0, n1, d3⟩
  have O3 := Lib.hid (DS.own O2.out d3.2.2.1 hz)
  have GR := Lib.hid (grownBy_trans D2.out.2.2.1 d3.2.2.1)
  have D3 := Lib.hid d3.again
  have z3 := d3.size.1
  clear d3 O2 D2
  have hlt3 : ∀ k, (Value.slice A l.length c).ownBlock = some k → k < w3.heap.size := fun k hk => (own_lt O3.out k hk).2
  have Hlt3 := Lib.hid hlt3
  clear hlt3
  have om := World.ownsRow_made (base := w3.heap.size) (e := 2) (size := 1) w3 #[] 0 (Nat.le_refl _) (by simp [maxLen]) rfl
  have al : Below w3.heap.size w3 (w3.alloc (.cells #[] 2)) := (Below.refl _ _).alloc (Nat.le_refl _) _
  have st : AsgR l A c w1.heap.size g C cap bl w3 (.slice (some ⟨w3.heap.size, 0, none⟩) 0 0) 0 [] (w3.alloc (.cells #[] 2)) := ⟨rfl, own_belowN O3.out al Hlt3.out, om, D3.out.below al⟩
  have ST := Lib.hid st
  clear st om al O3 D3
  go_wp2_with fail
  go_loopw [8, 9] (fun v i wr => ∃ (k : Nat) (a : List Int), k ≤ l.length ∧ i = .int .i64 k ∧ AsgR l A c w1.heap.size g C cap bl w3 v k a wr) (fun _ i _ => l.length - (intOf i).toNat)
  case atStart => exact ⟨0, [], Nat.zero_le _, rfl, ST.out⟩
  case round =>
    clear ST
    obtain ⟨k, a, hk, rfl, hR⟩ := hrel
    obtain ⟨ha, oS, oA, dd⟩ := hR
    have hzr := dd.size.1
    by_cases hlt : k < l.length
    · have hki : (k : Int) < (l.length : Int) := by omega
      have HS := Lib.hid oS
      have HA := Lib.hid oA
      have Ha := Lib.hid ha
      clear oS oA ha
      go_wp2_with fail
      refine (next_ds dd n).mono ?_
      rintro e w4 ⟨x, rfl, x0, x1, d4, g4⟩
      have S4 := Lib.hid (DS.own HS.out g4 hz)
      have A4 := Lib.hid (DS.own HA.out g4 (by omega))
      have D4 := Lib.hid d4
      have hs4 := d4.size.1
      have hkn : k ≤ 1048576 := by omega
      clear dd d4 g4 x1 HS HA
      go_wp2_with (at_builtin; refine wpList_append_int rfl (.tmp 23) (.tmp 27) 29 rfl w3.heap.size 2 i0 Try.underlying29 hi0 hz0 hz1 hz2 _ _ a (by rfl) A4.out x (by rfl) hkn hs4 ?_; intro v5 w5 own5 hb5 hz5; have O5 := Lib.hid own5; clear own5)
      go_roundw
      case rel => exact ⟨k + 1, a ++ [x], by omega, by go_num, by rw [List.length_append, Ha.out]; rfl, own_belowN S4.out hb5 Hlt3.out, O5.out, D4.out.below hb5⟩
      case measure => simp [intOf]; omega
    · have hk' : k = l.length := by omega
      subst hk'
      have HS := Lib.hid oS
      have HA := Lib.hid oA
      have Ha := Lib.hid ha
      clear oS oA ha
      go_wp2_with fail
      refine (next_ds dd 30).mono ?_
      rintro e w4 ⟨x, rfl, x0, x1, d4, g4⟩
      have S4 := Lib.hid (DS.own HS.out g4 hz)
      have A4 := Lib.hid (DS.own HA.out g4 (by omega))
      have D4 := Lib.hid d4
      have hs4 := d4.size.1
      have hkn : l.length ≤ 1048576 := by omega
      clear dd d4 g4 x1 HS HA
      have fin : ∀ (w' : World), w1.grownBy w' (some g) → Below g w0 w' := fun w' h => hb.trans (below_of_grownBy h (by omega) (fun k e => by injection e with e; omega))
      have Fin := Lib.hid fin
      clear fin
      by_cases hx0 : x = 0
      · subst hx0
        go_wp2_with (at_builtin; refine wpList_append_int rfl (.tmp 33) (.tmp 34) 29 rfl w3.heap.size 2 i0 Try.underlying29 hi0 hz0 hz1 hz2 _ _ a (by rfl) A4.out 0 (by rfl) hkn hs4 ?_; intro v5 w5 own5 hb5 hz5; have O5 := Lib.hid own5; clear own5)
        obtain ⟨A5, c5, rfl⟩ := own_val O5.out
        go_ret3
        have hlen : (a ++ [(0 : Int)]).length = l.length + 1 := by rw [List.length_append, Ha.out]; rfl
        have D5 := D4.out.below hb5
        exact ⟨l, A, c, n, a ++ [0], A5, c5, by rw [hlen]; rfl, hl, by omega, n0, n1, Rd.of_own (own_belowN S4.out hb5 Hlt3.out), Rd.of_own O5.out, by rw [hg]; exact Fin.out _ (grownBy_trans GR.out D5.2.2.1)⟩
      · have b0 : (x == 0) = false := by rw [beq_eq_false_iff_ne]; exact hx0
        have last : ∀ (w' : World) (v : Value) (a' : List Int), a'.length = l.length → w'.ownsRow w1.heap.size 54 2 (.slice A l.length c) l.length (l.flatMap eEvacuationStop) → w'.ownsRow w3.heap.size 2 1 v l.length (ints a') → w3.grownBy w' (some g) → ∃ A5 c5, v = .slice A5 l.length c5 ∧ AsgP w0 (.returned (.tuple #[.slice A l.length c, .int .i64 n, .slice A5 l.length c5])) w' := by
          intro w' v a' h1 h2 h3 h4
          obtain ⟨A5, c5, rfl⟩ := own_val h3
          exact ⟨A5, c5, rfl, l, A, c, n, a', A5, c5, by rw [h1], hl, by omega, n0, n1, Rd.of_own h2, Rd.of_own h3, by rw [hg]; exact Fin.out _ (grownBy_trans GR.out h4)⟩
        have Last := Lib.hid last
        clear last
        by_cases hx1 : x = 1
        · subst hx1
          clear hx0
          by_cases hp : 0 < l.length
          · have hpi : (0 : Int) < (l.length : Int) := by omega
            have hpd : decide ((0 : Int) < (l.length : Int)) = true := by simpa using hp
            have ha0 := List.getElem?_eq_getElem (show 0 < a.length by rw [Ha.out]; exact hp)
            generalize a[0]'(by rw [Ha.out]; exact hp) = y0 at ha0
            obtain ⟨A5, c5, rfl⟩ := own_val A4.out
            obtain ⟨g5, rfl, hg5, hg5b⟩ := own_form A4.out hp
            go_wp2_with fail
            refine (pick_ds D4.out [-1, n] 2 _ (by rfl) _ (by rfl) rfl (by omega) (by omega)).mono ?_
            rintro e w5 ⟨y, rfl, hy, d5, g5'⟩
            have S5 := Lib.hid (DS.own (S4.out.alloc _) g5' hz)
            have A5' := DS.own (A4.out.alloc _) g5' (by omega)
            have c0 : w5.cell? ⟨g5, 0, none⟩ = some (.int .i64 y0) := by
              have hl0 := A5'.1
              rw [A5'.cellAt 0 (by omega)]
              simp [ints, ha0]
            have fz := A5'.frozenAt
            have HA5 := Lib.hid A5'
            have D5 := Lib.hid d5
            clear hy g5' d5 A5' A4 S4
            go_wp2
            go_ret3
            have o6 := World.ownsRow.stored HA5.out 0 (.int .i64 y)
            have hset : (ints a).set 0 (.int .i64 y) = ints (a.set 0 y) := by simp [ints, List.map_set]
            have o7 := o6.1
            rw [hset] at o7
            have hne : ∀ k, (Value.slice A l.length c).ownBlock = some k → k < w3.heap.size := Hlt3.out
            have s6 := own_belowN S5.out (below_of_grownBy (B := w3.heap.size) o6.2 (by have := D5.out.size.1; omega) (fun k e => by injection e with e; omega)) Hlt3.out
            have hd5 := D5.out.2.2.1
            have G6 := by
              refine (⟨o6.2.os.trans hd5.os, o6.2.tape.trans hd5.tape, o6.2.output.trans hd5.output, Nat.le_trans hd5.size o6.2.size, fun k hk hne => ?_⟩ : w3.grownBy _ (some g))
              exact (o6.2.block k (Nat.lt_of_lt_of_le hk hd5.size) (fun e => by injection e with e; omega)).trans (hd5.block k hk hne)
            obtain ⟨A6, c6, e6, h6⟩ := Last.out _ _ (a.set 0 y) (by rw [List.length_set]; exact Ha.out) s6 o7 G6
            injection e6 with q1 q2 q3
            rw [← q1, ← q3] at h6
            rw [← hg]; exact h6
          · have hpd : decide ((0 : Int) < (l.length : Int)) = false := by simpa using hp
            have hpn : ¬ (0 : Int) < (l.length : Int) := by omega
            obtain ⟨A5, c5, e5, h5⟩ := Last.out _ _ a Ha.out S4.out A4.out D4.out.2.2.1
            subst e5
            have H5 := Lib.hid h5
            clear h5
            go_wp2
            go_ret3
            rw [← hg]; exact H5.out
        · have b1 : (x == 1) = false := by rw [beq_eq_false_iff_ne]; exact hx1
          obtain ⟨A5, c5, e5, h5⟩ := Last.out _ _ a Ha.out S4.out A4.out D4.out.2.2.1
          subst e5
          have H5 := Lib.hid h5
          clear h5
          go_wp2
          go_ret3
          rw [← hg]; exact H5.out
theorem drawFinish_any (bl : List Int) (hbl : isU8 bl) (hn : bl.length ≤ 4096) (C : Option Addr) (cap : Nat) (w0 : World) (hr : Rd w0 w0.heap.size C (bytesU bl)) :
   Calls Try.prog 35 #[.slice C bl.length cap] w0 (AsgP w0) := by
  have HD := Lib.hid (drawLoads_any bl hbl hn C cap w0 hr)
  clear hr hbl
  go_enter Try.func35, Try.ntmps35
  go_wp2_with fail
  refine HD.out.mono ?_
  rintro e w1 ⟨l, A, c, n, a, A', c', rfl, hl, hla, n0, n1, r1, r2, hb⟩
  have R1 := Lib.hid r1
  have R2 := Lib.hid r2
  clear r1 r2
  go_wp2
  go_ret3
  exact ⟨l, A, c, n, a, A', c', rfl, hl, hla, n0, n1, R1.out, R2.out, hb⟩
end Go.Proofs.Ytmeppemobogicaa
