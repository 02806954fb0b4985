/- The law on journals: walk. -/
import Derived.Test.YtjohpakfaommgaaDc
import Derived.Test.YtjohpakfaommgaaDd
import Derived.Test.YtjohpakfaommgaaPj
import Derived.Deep.RegionHeld3
namespace Go.Proofs.Ytjohpakfaommgaa
open Go.ChangeShapes Go.WideShapes Go.ChangeAt Go.RowKit
set_option maxRecDepth 20000
set_option linter.unusedVariables false
set_option linter.unusedSimpArgs false
theorem recs_take {w : World} {B : Nat} {A : Option Addr} {l : List Rec3} (h : Rd w B A (l.flatMap eEventRecord)) (k : Nat) : Rd w B A ((l.take k).flatMap eEventRecord) := by
  have e : l.flatMap eEventRecord = (l.take k).flatMap eEventRecord ++ (l.drop k).flatMap eEventRecord := by rw [← List.flatMap_append, List.take_append_drop]
  intro hn
  obtain ⟨b, o, e1, hb, hc⟩ := h (by rw [e, List.length_append]; omega)
  refine ⟨b, o, e1, hb, fun j u hu => hc j u ?_⟩
  rw [e, List.getElem?_append_left (List.getElem?_eq_some_iff.1 hu).1]
  exact hu
set_option maxHeartbeats 4000000 in
theorem walkFnJournals (bl : List Int) (hbl : isU8 bl) (C : Option Addr) (cap : Nat) (w : World) (hr : Rd w w.heap.size C (bytesU bl)) (hlc : bl.length ≤ cap) (hm : cap ≤ maxLen) :
   Calls Try.prog 11 #[.slice C bl.length cap] w fun e w' => e = .returned (.bool true) ∧ Below w.heap.size w w' := by
  unfold maxLen at hm
  by_cases hn : bl.length ≤ 4096
  rotate_left
  · have hd : decide ((4096 : Int) < (bl.length : Int)) = true := by simp; omega
    go_enter Try.func11, Try.ntmps11
    go_wp2_with (go_at_call 37; refine (big_any _ _ _ _ (by omega)).mono ?_; rintro e w' ⟨rfl, rfl⟩)
    go_ret
    exact ⟨rfl, Below.refl _ _⟩
  have hd : decide ((4096 : Int) < (bl.length : Int)) = false := by simp; omega
  have hnl : bl.length ≤ 4096 := hn
  go_enter Try.func11, Try.ntmps11
  go_wp2_with fail
  refine (big_any _ _ _ _ (by omega)).mono ?_; rintro e w' ⟨rfl, rfl⟩
  go_wp2_with fail
  refine (drawJournalOf_any bl hbl hn C cap _ hr).mono ?_; rintro e w1 ⟨l, A, c, rfl, hl, hlcc, Rl, b1⟩
  replace hr := hr.step b1
  clear hd
  have hl2 : l.length ≤ 1048576 := by omega
  have hjl := jourR_len l hl2
  have JL := Lib.hid (fun (h0 : jourC l = 0) => jour_law h0)
  have z1 := b1.size
  go_wp2_with fail
  refine (jour_impl l A _ c w1 Rl (Nat.le_refl _) hl2).mono ?_; rintro e w2 ⟨Am, cm, rfl, om, b2⟩
  replace hr := hr.step b2
  replace Rl := Rl.step b2
  have hcm := own_capm om
  have Rm := Rd.of_own om
  clear om
  go_wp2_with fail
  refine (jour_spec l A _ c w2 Rl (Nat.le_refl _) hl2).mono ?_; rintro e w3 ⟨An, cn, rfl, on, b3⟩
  replace hr := hr.step b3
  replace Rl := Rl.step b3
  replace Rm := Rm.step b3
  have Rn := Rd.of_own on
  clear on
  go_wp2_with fail
  refine (drawCut_any bl hbl hn C cap _ hr).mono ?_; rintro e w4 ⟨x, Ax, cx, kept, y, Ay, cy, rfl, hxl, hyl, hxc, Rx, Ry, b4⟩
  replace hr := hr.step b4
  replace Rl := Rl.step b4
  replace Rm := Rm.step b4
  replace Rn := Rn.step b4
  have hxl2 : x.length ≤ 1048576 := by omega
  have hyl2 : y.length ≤ 1048576 := by omega
  have hql := cutR_len x kept y
  go_wp2_with fail
  refine (cut_impl x kept y Ax Ay _ cx cy w4 Rx Ry (Nat.le_refl _) hxl2 hyl2 hxc).mono ?_; rintro e w5 ⟨Ap, cp, rfl, op, b5⟩
  replace hr := hr.step b5
  replace Rl := Rl.step b5
  replace Rm := Rm.step b5
  replace Rn := Rn.step b5
  replace Rx := Rx.step b5
  replace Ry := Ry.step b5
  have Rp := Rd.of_own op
  clear op
  go_wp2_with fail
  refine (cut_spec x kept y Ax Ay _ cx cy w5 Rx Ry (Nat.le_refl _) hxl2 hyl2 hxc).mono ?_; rintro e w6 ⟨Aq, cq, rfl, oq, b6⟩
  replace hr := hr.step b6
  replace Rl := Rl.step b6
  replace Rm := Rm.step b6
  replace Rn := Rn.step b6
  replace Rx := Rx.step b6
  replace Ry := Ry.step b6
  replace Rp := Rp.step b6
  have Rq := Rd.of_own oq
  clear oq
  clear Rx Ry
  generalize cutR x kept y = Q at *
  generalize cutC x kept y = QC at *
  have HB := Lib.hid (((((((b1.trans (b2.mono (by have := b1.size; omega))).trans (b3.mono (by have := b1.size; have := b2.size; omega))).trans (b4.mono (by have := b1.size; have := b2.size; have := b3.size; omega))).trans (b5.mono (by have := b1.size; have := b2.size; have := b3.size; have := b4.size; omega))).trans (b6.mono (by have := b1.size; have := b2.size; have := b3.size; have := b4.size; have := b5.size; omega)))))
  have HZ : w.heap.size ≤ w6.heap.size := HB.out.size
  clear b1 b2 b3 b4 b5 b6 z1
  go_wp2_with fail
  refine (likeInts_same (jourR l) Am An _ _ _ _ _ Rm Rn hjl).mono ?_; rintro e w7 ⟨rfl, b7⟩
  replace hr := hr.step b7
  replace Rl := Rl.step b7
  replace Rm := Rm.step b7
  replace Rn := Rn.step b7
  replace Rp := Rp.step b7
  replace Rq := Rq.step b7
  go_wp2_with fail
  refine (likeInts_same Q Ap Aq _ _ _ _ _ Rp Rq hql).mono ?_; rintro e w8 ⟨rfl, b8⟩
  replace hr := hr.step b8
  replace Rl := Rl.step b8
  replace Rm := Rm.step b8
  replace Rn := Rn.step b8
  replace Rp := Rp.step b8
  replace Rq := Rq.step b8
  clear Rp Rq Rn
  have HB8 := Lib.hid ((HB.out.trans (b7.mono HZ)).trans (b8.mono (by have := b7.size; omega)))
  have HZ8 : w.heap.size ≤ w8.heap.size := HB8.out.size
  clear HB b7 b8 HZ
  by_cases hC : jourC l = 0
  rotate_left
  · have h5 : (jourC l != 0) = true := by simpa using hC
    generalize jourC l = K at *
    generalize jourR l = M at *
    clear hr Rl Rm JL
    go_wp2
    go_ret
    exact ⟨rfl, HB8.out⟩
  obtain ⟨l100, hml, hrc, hrr, hall⟩ := JL.out hC
  have HA := Lib.hid hall
  have HM := Lib.hid (fun (w' : World) (h1 : Rd w' w'.heap.size Am (ints (jourR l))) => rc_impl (jourR l) Am w'.heap.size cm w' h1 (Nat.le_refl _) hcm.1 hcm.2 hjl)
  have HC2 := Lib.hid (fun (n : Nat) (T : List Int) (hT : T.length ≤ 29) (AT : Option Addr) (cT : Nat) (w' : World) (h1 : Rd w' w'.heap.size Am (ints (jourR l))) (h2 : Rd w' w'.heap.size AT (ints T)) => cut_impl (jourR l) n T Am AT w'.heap.size cm cT w' h1 h2 (Nat.le_refl _) hjl (by omega) hcm.1)
  rw [hrc, hrr] at HM
  have h5 : (jourC l != 0) = false := by rw [hC]; rfl
  clear hall hrc hrr JL hjl
  generalize jourC l = K at *
  generalize jourR l = M at *
  have hm14 : M.length ≤ 1400 := by omega
  clear hml
  have Hl := Lib.hid Rl
  have Hm := Lib.hid Rm
  have Hr := Lib.hid hr
  have Hbl := Lib.hid hbl
  clear Rl Rm hr hbl
  go_wp2_with fail
  refine (roll_any bl Hbl.out hnl _ C w8.heap.size cap w8 Hr.out (Nat.le_refl _)).mono ?_; rintro e w9 ⟨rfl, hdi, b9, z9⟩
  have D9 := Lib.hid (DD.start (Hr.out.below b9 (Nat.le_refl _)) hdi (Nat.le_refl _) Hbl.out hnl)
  have L9 := Lib.hid (Hl.out.below b9 (Nat.le_refl _))
  have M9 := Lib.hid (Hm.out.below b9 (Nat.le_refl _))
  have HB9 := Lib.hid (HB8.out.trans (b9.mono HZ8))
  clear hdi b9 Hl Hm Hr HB8
  have hw1 : IntKind.i64.wrap ((M.length : Int) + 1) = (M.length : Int) + 1 := IntWalk.i64_in _ (by omega)
  go_wp2_with fail
  refine (below_dd D9.out _ (by omega) (by omega)).mono ?_; rintro e w10 ⟨n, rfl, n0, n1, d10, g10⟩
  have D10 := Lib.hid d10
  clear d10 g10
  obtain ⟨n, rfl⟩ : ∃ k : Nat, n = k := ⟨n.toNat, by omega⟩
  have n2 : n ≤ M.length := by omega
  clear n0 n1
  go_wp2_with fail
  refine (below_dd (D10.out.alloc (.cells #[] 2)) 30 (by omega) (by omega)).mono ?_; rintro e w11 ⟨q, rfl, q0, q1, d11, g11⟩
  have hg9 := D10.out.size.2
  have z10 := D10.out.size.1
  have o11 := own_apart (World.ownsRow_made (base := w9.heap.size) (e := 2) (size := 1) w10 #[] 0 z10 (by simp [maxLen]) rfl) g11 (fun k hk => by injection hk with hk; omega)
  have O11 := Lib.hid o11
  have D11 := Lib.hid d11
  have q2 : q ≤ 29 := by omega
  clear o11 d11 g11 q1
  obtain ⟨i0, hi0, hz0, hz1, hz2⟩ := info_parts infoInt64
  go_wp2_with fail
  go_loopw [17, 18] (fun v m wr => ∃ (T : List Int) (q : Int), m = .int .i64 q ∧ 0 ≤ q ∧ T.length + q ≤ 29 ∧ (∀ x ∈ T, 0 ≤ x ∧ x ≤ 255) ∧ wr.ownsRow w9.heap.size 2 1 v T.length (ints T) ∧ DD w9 wr w8.heap.size w8.heap.size C cap bl) (fun _ m _ => (intOf m).toNat)
  case atStart => exact ⟨[], q, rfl, q0, by simpa using q2, by simp, O11.out, D11.out⟩
  case round =>
    clear q0 q2
    obtain ⟨T, q, rfl, q0, hq4, hT, hown, hd⟩ := hrel
    have HT := Lib.hid hT
    have hsz := hd.size.1
    have Ho := Lib.hid hown
    have Hd := Lib.hid hd
    clear hown hd hT
    by_cases hlt : 0 < q
    · go_wp2_with fail
      refine (below_dd Hd.out 256 (by omega) (by omega)).mono ?_
      rintro e w2 ⟨x, rfl, x0, x1, d2, g2⟩
      have O2 := Lib.hid (own_apart Ho.out g2 (fun k hk => by injection hk with hk; omega))
      have D2 := Lib.hid d2
      have hs2 := D2.out.size.1
      have hln : T.length ≤ 1048576 := by omega
      clear d2 g2
      go_wp2_with (at_builtin; refine wpList_append_int rfl (.tmp 96) (.tmp 99) 22 rfl w9.heap.size 2 i0 Try.underlying22 hi0 hz0 hz1 hz2 _ _ T (by rfl) O2.out x (by rfl) hln hs2 ?_; intro v5 w5 own5 hb5 hz5; have O5 := Lib.hid own5; clear own5)
      go_roundw
      case rel => exact ⟨T ++ [x], q - 1, by go_num, by omega, by simp; omega, (fun y hy => by
        rw [List.mem_append, List.mem_singleton] at hy
        rcases hy with hy | rfl
        · exact HT.out y hy
        · omega), by simpa using O5.out, D2.out.below hb5⟩
      case measure => simp [intOf]; omega
    · have hT29 : T.length ≤ 29 := by omega
      obtain ⟨a1, a2, a3, a4, a5⟩ := HA.out n n2 T hT29 HT.out
      obtain ⟨AT, cT, rfl⟩ := own_val Ho.out
      have LT := Lib.hid (Hd.out.rd L9.out)
      have MT := Lib.hid (Hd.out.rd M9.out)
      have TT := Lib.hid (Rd.of_own Ho.out)
      have BT := Lib.hid (HB9.out.trans (Hd.out.bel (N := w.heap.size) HZ8))
      have HC3 := Lib.hid (HC2.out n T hT29 AT cT wr MT.out TT.out)
      rw [a1] at HC3
      clear HC2 a1
      generalize cutR M n T = X at *
      go_wp2_with fail
      refine HC3.out.mono ?_; rintro e w12 ⟨AX, cX, rfl, oX, b12⟩
      have hcX := own_capm oX
      have RX := Rd.of_own oX
      have L12 := Lib.hid (LT.out.step b12)
      have M12 := Lib.hid (MT.out.step b12)
      have B12 := Lib.hid (BT.out.trans (b12.mono (by have := BT.out.size; omega)))
      have HY := Lib.hid (rc_impl X AX w12.heap.size cX w12 RX (Nat.le_refl _) hcX.1 hcX.2 (by omega))
      rw [a3] at HY
      clear oX b12 RX LT MT TT BT HC3
      generalize rcR X = Y at *
      go_wp2_with fail
      refine HY.out.mono ?_; rintro e w13 ⟨AY, cY, rfl, oY, b13⟩
      have hcY := own_capm oY
      have Y13 := Lib.hid (Rd.of_own oY)
      have L13 := Lib.hid (L12.out.step b13)
      have M13 := Lib.hid (M12.out.step b13)
      have B13 := Lib.hid (B12.out.trans (b13.mono (by have := B12.out.size; omega)))
      clear oY b13 L12 M12 B12 HY
      go_wp2_with fail
      refine (HM.out w13 M13.out).mono ?_; rintro e w14 ⟨AL, cL, rfl, oL, b14⟩
      have A14 := Lib.hid (Rd.of_own oL)
      have Y14 := Lib.hid (Y13.out.step b14)
      have L14 := Lib.hid (L13.out.step b14)
      have B14 := Lib.hid (B13.out.trans (b14.mono (by have := B13.out.size; omega)))
      have z14 : w.heap.size ≤ w14.heap.size := B14.out.size
      clear oL b14 L13 M13 B13 HM
      have hq : (n : Int) / 14 = ((n / 14 : Nat) : Int) := by omega
      generalize n / 14 = W at *
      have hW : (l.take W).length = W := by
        have h1 := congrArg List.length a5
        rw [List.length_take, List.length_take] at h1
        rw [List.length_take]; omega
      have hWl : W ≤ l.length := by rw [List.length_take] at hW; omega
      have HK1 := Lib.hid (fun (w' : World) (h1 : Rd w' w'.heap.size AL (l.flatMap eEventRecord)) (h2 : Rd w' w'.heap.size A (l.flatMap eEventRecord)) => likeRecords_same l AL A _ _ cL c w' h1 h2 hl2)
      have hk2 := (fun (w' : World) (h1 : Rd w' w'.heap.size AY ((l.take W).flatMap eEventRecord)) (h2 : Rd w' w'.heap.size A ((l.take W).flatMap eEventRecord)) => likeRecords_same (l.take W) AY A _ _ cY c w' h1 h2 (by omega))
      rw [hW] at hk2
      have HK2 := Lib.hid hk2
      have yt := recs_take Y14.out W
      rw [a5] at yt
      have YT := Lib.hid yt
      have LT := Lib.hid (recs_take L14.out W)
      have g1 : (0 : Int) ≤ (W : Int) := by omega
      have g2 : (W : Int) ≤ (cY : Int) := by omega
      have g3 : (W : Int) ≤ (c : Int) := by omega
      have g4 : decide ((W : Int) ≤ (Y.length : Int)) = true := by simp; omega
      have g5 : decide (W ≤ Y.length) = true := by simp; omega
      have g6 : (W : Int) ≤ (Y.length : Int) := by omega
      clear hk2 yt hW a5 HA
      go_wp2_with fail
      go_region_held3 (fun w' => w14.heap.size ≤ w'.heap.size) (first | assumption | omega | exact Nat.le_refl _) (first | (go_at_call 48; have q15 := YT15; have q16 := LT15; refine (HK2.out _ q15.out q16.out).mono ?_; rintro e w16 ⟨rfl, b16⟩; have B16 := Lib.hid (B15.out.trans (b16.mono (by omega))); have z16 := b16.size) | (go_at_call 48; refine (HK1.out _ A14.out.stepDrew L14.out.stepDrew).mono ?_; rintro e w15 ⟨rfl, b15⟩; have b15' : Below w14.heap.size w14 w15 := (by exact Below.trans (Below.drew (Below.refl _ _)) b15); have YT15 := Lib.hid (YT.out.step b15'); have LT15 := Lib.hid (LT.out.step b15'); have B15 := Lib.hid (B14.out.trans (b15'.mono z14)); have z15 := b15'.size; clear b15))
      all_goals (
        go_wp2
        go_ret
        exact ⟨rfl, B16.out⟩)
end Go.Proofs.Ytjohpakfaommgaa
