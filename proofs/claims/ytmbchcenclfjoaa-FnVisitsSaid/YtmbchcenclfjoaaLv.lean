/- The law on visits. -/
import Derived.Test.YtmbchcenclfjoaaDx
import Derived.Test.YtmbchcenclfjoaaC
import Derived.Test.YtmbchcenclfjoaaVi
namespace Go.Proofs.Ytmbchcenclfjoaa
open Go.ChangeShapes Go.WideShapes Go.ChangeAt Go.RowKit
set_option maxRecDepth 20000
set_option linter.unusedVariables false
set_option linter.unusedSimpArgs false
theorem drawVisit_any (bl : List Int) (hbl : isU8 bl) (hn : bl.length ≤ 4096) (C : Option Addr) (cap : Nat) (w0 : World) (hr : Rd w0 w0.heap.size C (bytesU bl)) :
   Calls Try.prog 52 #[.slice C bl.length cap] w0 fun e w' => ∃ (l : List (Int × Int)) (A : Option Addr) (c : Nat) (day : Int), e = .returned (.tuple #[.slice A l.length c, .int .i64 day]) ∧ l.length ≤ 14 ∧ Rd w' w'.heap.size A (l.flatMap eTask) ∧ Below w0.heap.size w0 w' := by
  have Hr := Lib.hid hr
  clear hr
  go_enter Try.func52, Try.ntmps52
  go_wp2_with fail
  refine (l01From_any bl hbl hn C w0.heap.size cap w0 Hr.out (Nat.le_refl _)).mono ?_
  rintro e w1 ⟨rfl, hs1, hb1, hz1⟩
  have d1 := DS.start (Hr.out.below hb1 (Nat.le_refl _)) hs1 (Nat.le_refl _) hbl hn
  have Hb1 := Lib.hid hb1
  clear hb1 hs1 hbl
  go_wp2_with fail
  refine (l29Draw_any w1 _ _ _ _ _ d1).mono ?_
  rintro e w2 ⟨l, A, c, rfl, hok, hl, o2, d2⟩
  have O2 := Lib.hid o2
  have Hok := Lib.hid hok
  have hs2 := d2.size.1
  clear o2 hok d1
  go_wp2_with fail
  refine (next_ds d2 200).mono ?_
  rintro e w3 ⟨x, rfl, x0, x1, d3, g3⟩
  have O3 := Lib.hid (DS.own O2.out g3 hz1)
  clear d2 g3 x1 x0
  go_wp2_with fail
  refine (next_ds d3 200).mono ?_
  rintro e w4 ⟨y, rfl, y0, y1, d4, g4⟩
  have O4 := Lib.hid (DS.own O3.out g4 hz1)
  clear d3 g4 y1 y0
  go_wp2_with fail
  refine (next_ds d4 400).mono ?_
  rintro e w5 ⟨z, rfl, z0, z1, d5, g5⟩
  have O5 := Lib.hid (DS.own O4.out g5 hz1)
  clear d4 g5 z1 z0
  go_wp2_with fail
  refine (l29DrawDay_any w5 _ _ _ _ _ d5.again l Hok.out (by omega) A c w1.heap.size hz1 O5.out).mono ?_
  rintro e w6 ⟨u, rfl, u0, u1, d6⟩
  have O6 := Lib.hid (DS.own O5.out d6.2.2.1 hz1)
  have d7 := d5.join d6
  clear d5 d6 u0 u1
  go_wp2_with fail
  refine (pick_ds d7 [x, y, z, u] 4 _ (by rfl) _ (by rfl) rfl (by omega) (by omega)).mono ?_
  rintro e w7 ⟨v, rfl, hv, d8, g8⟩
  have O8 := Lib.hid (DS.own (O6.out.alloc _) g8 hz1)
  have hb8 := below_of_grownBy (B := w0.heap.size) d8.2.2.1 (by omega) (fun k hk => by injection hk with hk; omega)
  have Hb8 := Lib.hid (Hb1.out.trans hb8)
  clear d7 d8 g8 hv hb8
  go_wp2
  go_ret2
  exact ⟨l, A, c, v, rfl, hl, Rd.of_own O8.out, Hb8.out⟩
/-- the task becomes due on the day, as the law reckons -/
def dueAt (v : Int) (t : Int × Int) : Bool := decide (t.2 < v) && ((v - t.2).tmod t.1 == 0)
theorem dueAt_of {t : Int × Int} {v : Int} (h1 : 1 ≤ t.1) (h : dueOn t v) : dueAt v t = true := by
  obtain ⟨k, rfl⟩ := h
  have hp : (0 : Int) < ((k : Int) + 1) * t.1 := Int.mul_pos (by omega) (by omega)
  unfold dueAt
  rw [show t.2 + ((k : Int) + 1) * t.1 - t.2 = ((k : Int) + 1) * t.1 by omega, Int.mul_tmod_left]
  simp
  omega
theorem vis_law {l : List (Int × Int)} {day : Int} (h0 : visC l day = 0) : planB l = true ∧ 0 ≤ day ∧ day ≤ 100000 ∧ (visR l day).length ≤ 200 ∧ (visR l day).Pairwise (· < ·) ∧ (∀ v ∈ visR l day, 0 ≤ v ∧ v ≤ day ∧ l.any (dueAt v) = true) ∧ (∀ t ∈ l, (t.2 + t.1 ≤ day → (visR l day).any (· == t.2 + t.1) = true) ∧ (t.2 + t.1 + t.1 ≤ day → (visR l day).any (· == t.2 + t.1 + t.1) = true)) := by
  rcases vis_cases l day with ⟨h1, e1, _⟩ | ⟨_, hp, hd0, hd1, hle, _, e2⟩ | ⟨_, _, _, _, _, e1, _⟩
  · omega
  · rw [e2]
    have hall := plan_all hp
    have hm := visL_mem (l := l) (fun t ht => (hall t ht).1) day
    refine ⟨hp, hd0, hd1, hle, visL_sorted l day, fun v hv => ?_, fun t ht => ⟨fun h => ?_, fun h => ?_⟩⟩
    · obtain ⟨⟨t, ht, hdue⟩, h2⟩ := (hm v).1 hv
      have h3 := hall t ht
      have h4 := dueAt_of h3.1 hdue
      refine ⟨?_, h2, List.any_eq_true.2 ⟨t, ht, h4⟩⟩
      unfold dueAt at h4
      simp only [Bool.and_eq_true, decide_eq_true_eq] at h4
      omega
    · exact List.any_eq_true.2 ⟨_, (hm _).2 ⟨⟨t, ht, 0, by simp⟩, h⟩, by simp⟩
    · exact List.any_eq_true.2 ⟨_, (hm _).2 ⟨⟨t, ht, 1, by
        rw [show (((1 : Nat) : Int) + 1) = 2 by rfl, Int.two_mul]; omega⟩, h⟩, by simp⟩
  · omega
theorem any_succ {τ : Type} (p : τ → Bool) {l : List τ} {k : Nat} {t : τ} (hk : l[k]? = some t) : (l.take (k + 1)).any p = ((l.take k).any p || p t) := by
  obtain ⟨hl, e⟩ := List.getElem?_eq_some_iff.1 hk
  rw [List.take_succ_eq_append_getElem hl, List.any_append, e]
  simp
set_option maxHeartbeats 4000000 in
theorem walkFnVisits (bl : List Int) (hbl : isU8 bl) (C : Option Addr) (cap : Nat) (w : World) (hr : Rd w w.heap.size C (bytesU bl)) (hlc : bl.length ≤ cap) (hm : cap ≤ maxLen) :
   Calls Try.prog 13 #[.slice C bl.length cap] w fun e w' => e = .returned (.bool true) ∧ Below w.heap.size w w' := by
  unfold maxLen at hm
  by_cases hn : bl.length ≤ 4096
  rotate_left
  · have hd : decide ((4096 : Int) < (bl.length : Int)) = true := by simp; omega
    go_enter Try.func13, Try.ntmps13
    go_wp2_with (go_at_call 44; refine (big_any _ _ _ _ (by omega)).mono ?_; rintro e w' ⟨rfl, rfl⟩)
    go_ret
    exact ⟨rfl, Below.refl _ _⟩
  have hd : decide ((4096 : Int) < (bl.length : Int)) = false := by simp; omega
  go_enter Try.func13, Try.ntmps13
  go_wp2_with fail
  refine (big_any _ _ _ _ (by omega)).mono ?_; rintro e w' ⟨rfl, rfl⟩
  go_wp2_with fail
  refine (drawVisit_any bl hbl hn C cap _ hr).mono ?_
  rintro e w1 ⟨l, A, c, day, rfl, hl, Rl, b1⟩
  clear hr hbl hd
  have hl2 : l.length ≤ 1048576 := by omega
  have hvl := visR_len l day
  have LAW := Lib.hid (fun h0 : visC l day = 0 => vis_law h0)
  have z1 := b1.size
  have B1 := Lib.hid b1
  go_wp2_with fail
  refine (visit_impl l day A _ c w1 Rl (Nat.le_refl _) hl2).mono ?_; rintro e w2 ⟨A2, c2, rfl, o2, b2⟩
  have z2 := b2.size
  replace Rl := Rl.step b2
  have R2 := Rd.of_own o2
  have B2 := Lib.hid (B1.out.trans (b2.mono z1))
  clear o2 b2 b1
  go_wp2_with fail
  refine (visit_spec l day A _ c w2 Rl (Nat.le_refl _) hl2).mono ?_; rintro e w3 ⟨A3, c3, rfl, o3, b3⟩
  have z3 := b3.size
  replace Rl := Rl.step b3
  replace R2 := R2.step b3
  have R3 := Rd.of_own o3
  have B3 := Lib.hid (B2.out.trans (b3.mono (by omega)))
  clear o3 b3
  go_wp2_with fail
  refine (likeInts_same (visR l day) A2 A3 _ _ c2 c3 w3 R2 R3 hvl).mono ?_; rintro e w4 ⟨rfl, b4⟩
  have HL := Lib.hid (Rl.step b4)
  have HV := Lib.hid (R3.step b4)
  have B4 := Lib.hid (B3.out.trans (b4.mono (by omega)))
  clear b4 R2 R3 Rl
  by_cases hC : visC l day = 0
  rotate_left
  · have h5 : (visC l day != 0) = true := by simpa using hC
    generalize visC l day = K at *
    generalize visR l day = V at *
    clear HL HV LAW
    go_wp2
    go_ret
    exact ⟨rfl, B4.out⟩
  obtain ⟨hp, hd0, hd1, hV2, hsort, hat, hin⟩ := LAW.out hC
  have hpl := Lib.hid (fun k t => @plan_at l hp k t)
  have Hsort := Lib.hid hsort
  have Hat := Lib.hid hat
  have Hin := Lib.hid hin
  have h5 : (visC l day != 0) = false := by rw [hC]; rfl
  have hHI := Lib.hid (fun (x : Int) (w' : World) (h : Rd w' w4.heap.size A3 (ints (visR l day))) => hasInt_any (visR l day) x A3 w4.heap.size c3 w' h hvl)
  clear hp hsort hat hin LAW
  generalize visC l day = K at *
  generalize visR l day = V at *
  go_wp2_with fail
  go_loopw [9] (fun i wr => ∃ k : Nat, k ≤ V.length ∧ i = .int .i64 k ∧ ∃ q, wr = w4.drewN q) (fun i _ => V.length - (intOf i).toNat)
  case atStart => exact ⟨0, Nat.zero_le _, rfl, 0, rfl⟩
  case round =>
    obtain ⟨k, hk, rfl, q, rfl⟩ := hrel
    by_cases hlt : k < V.length
    · have hv := List.getElem?_eq_getElem hlt
      generalize hvv : V[k] = v at hv
      obtain ⟨v0, v1, vdue⟩ := Hat.out v (List.mem_of_getElem? hv)
      obtain ⟨bv, ov, rfl, _, cv⟩ := HV.out.int hv
      have hprev : ∀ j u, j + 1 = k → V[j]? = some u → u < v := by
        intro j u hj hu
        obtain ⟨q1, q2⟩ := List.getElem?_eq_some_iff.1 hu
        have := List.pairwise_iff_getElem.1 Hsort.out j k q1 hlt (by omega)
        omega
      have Hprev := Lib.hid hprev
      have Hv := Lib.hid hv
      clear hprev hvv hv
      go_wp2_with fail
      go_loopw [10, 11] (fun d i wr => ∃ j : Nat, j ≤ l.length ∧ i = .int .i64 j ∧ d = .bool ((l.take j).any (dueAt v)) ∧ ∃ q, wr = w4.drewN q) (fun _ i _ => l.length - (intOf i).toNat)
      case atStart => exact ⟨0, Nat.zero_le _, rfl, by simp, _, rfl⟩
      case round =>
        obtain ⟨j, hj, rfl, rfl, q2, rfl⟩ := hrel
        by_cases hlt2 : j < l.length
        · have ht := List.getElem?_eq_getElem hlt2
          generalize l[j] = t at ht
          obtain ⟨b, o, rfl, _, c0, c1⟩ := HL.out.atTask ht
          obtain ⟨P1, P2, P3, P4⟩ := hpl.out j t ht
          have hany := Lib.hid (any_succ (dueAt v) ht)
          obtain ⟨P, D⟩ := t
          simp only at c0 c1 P1 P2 P3 P4
          have Hda := Lib.hid (show dueAt v (P, D) = (decide (D < v) && ((v - D).tmod P == 0)) from rfl)
          clear ht
          generalize (l.take j).any (dueAt v) = bb at *
          have hw1 : IntKind.i64.wrap (v - D) = v - D := IntWalk.i64_in _ (by omega)
          have hP0 : (P == 0) = false := by rw [beq_eq_false_iff_ne]; omega
          cases bb with
          | true =>
            go_wp2_with fail
            go_quiet (fail)
            go_wp2
            go_roundw
            case rel => exact ⟨j + 1, by omega, by go_num, by rw [hany.out]; rfl, _, rfl⟩
            case measure => simp [intOf]; omega
          | false =>
            by_cases hDv : D < v
            · have hdec : decide (D < v) = true := by simpa using hDv
              have ht1 : (v - D).tmod P = (v - D) % P := Int.tmod_eq_emod_of_nonneg (by omega)
              rw [ht1, hdec, Bool.true_and] at Hda
              have hwm : IntKind.i64.wrap ((v - D) % P) = (v - D) % P := IntWalk.i64_in _ (by have := Int.emod_nonneg (v - D) (show P ≠ 0 by omega); have := Int.emod_lt_of_pos (v - D) (show 0 < P by omega); omega)
              go_wp2_with fail
              go_quiet (fail)
              go_wp2
              go_roundw
              case rel => exact ⟨j + 1, by omega, by go_num, by rw [hany.out, Hda.out]; simp, _, rfl⟩
              case measure => simp [intOf]; omega
            · have hdec : decide (D < v) = false := by simpa using hDv
              rw [hdec, Bool.false_and] at Hda
              go_wp2_with fail
              go_quiet (fail)
              go_wp2
              go_roundw
              case rel => exact ⟨j + 1, by omega, by go_num, by rw [hany.out, Hda.out]; rfl, _, rfl⟩
              case measure => simp [intOf]; omega
        · have hj' : j = l.length := by omega
          have hbt : (l.take j).any (dueAt v) = true := by rw [hj', List.take_length]; exact vdue
          generalize (l.take j).any (dueAt v) = bb at *
          subst hbt
          have hvd : ¬ day < v := by omega
          rcases Nat.eq_zero_or_pos k with hk0 | hk0
          · have hz1 : ¬ (0 : Int) < (k : Int) := by omega
            have hz2 : ¬ 0 < k := by omega
            have hz3 : decide (0 < k) = false := by simp; omega
            clear hk0
            go_wp2_with fail
            go_quiet (fail)
            go_wp2
            go_roundw
            case rel => exact ⟨k + 1, by omega, by go_num, _, rfl⟩
            case measure => simp [intOf]; omega
          · have hk1 : 1 ≤ k := hk0
            have hu := List.getElem?_eq_getElem (show k - 1 < V.length by omega)
            generalize V[k - 1] = u at hu
            have huv := Hprev.out (k - 1) u (by omega) hu
            obtain ⟨b', o', e', _, cu⟩ := HV.out.int hu
            injection e' with e'
            injection e' with e1 e2
            subst e1 e2
            have hvu : ¬ v ≤ u := by omega
            have hz1 : (0 : Int) < (k : Int) := by omega
            have hz3 : decide (0 < k) = true := by simp; omega
            have hm8 : k - 1 < V.length := by omega
            have hm9 : IntKind.i64.wrap ((k : Int) - 1) = ((k - 1 : Nat) : Int) := by rw [show (k : Int) - 1 = ((k - 1 : Nat) : Int) by omega]; exact IntWalk.i64_in _ (by omega)
            clear hu huv
            go_wp2_with fail
            go_quiet (fail)
            go_wp2
            go_roundw
            case rel => exact ⟨k + 1, by omega, by go_num, _, rfl⟩
            case measure => simp [intOf]; omega
    · go_wp2_with fail
      go_loopw [12] (fun i wr => ∃ k : Nat, k ≤ l.length ∧ i = .int .i64 k ∧ ∃ q, wr = w4.drewN q) (fun i _ => l.length - (intOf i).toNat)
      case atStart => exact ⟨0, Nat.zero_le _, rfl, _, rfl⟩
      case round =>
        obtain ⟨j, hj, rfl, q2, rfl⟩ := hrel
        by_cases hlt2 : j < l.length
        · have ht := List.getElem?_eq_getElem hlt2
          generalize l[j] = t at ht
          obtain ⟨b, o, rfl, _, c0, c1⟩ := HL.out.atTask ht
          obtain ⟨P1, P2, P3, P4⟩ := hpl.out j t ht
          obtain ⟨i1, i2⟩ := Hin.out t (List.mem_of_getElem? ht)
          obtain ⟨P, D⟩ := t
          simp only at c0 c1 P1 P2 P3 P4 i1 i2
          have hw1 : IntKind.i64.wrap (D + P) = D + P := IntWalk.i64_in _ (by omega)
          have hw2 : IntKind.i64.wrap (D + P + P) = D + P + P := IntWalk.i64_in _ (by omega)
          have hf1 := hHI.out (D + P)
          have hf2 := hHI.out (D + P + P)
          clear ht
          generalize hF : D + P = F at *
          by_cases h1 : F ≤ day
          · rw [i1 h1] at hf1
            have HF1 := Lib.hid hf1
            clear hf1 i1
            by_cases h2 : F + P ≤ day
            · rw [i2 h2] at hf2
              have HF2 := Lib.hid hf2
              clear hf2 i2
              generalize hG : F + P = G at *
              go_wp2_with fail
              go_quiet (fail)
              go_wp2_with (first | (go_at_call_of 48 (Value.int .i64 F); refine (HF1.out _ (by exact HV.out)).mono ?_; rintro e w' ⟨rfl, rfl⟩) | (go_at_call_of 48 (Value.int .i64 G); refine (HF2.out _ (by exact HV.out)).mono ?_; rintro e w' ⟨rfl, rfl⟩))
              go_roundw
              case rel => exact ⟨j + 1, by omega, by go_num, _, rfl⟩
              case measure => simp [intOf]; omega
            · have h2d : decide (F + P ≤ day) = false := by simpa using h2
              clear hf2 i2
              go_wp2_with fail
              go_quiet (fail)
              go_wp2_with (first | (go_at_call_of 48 (Value.int .i64 F); refine (HF1.out _ (by exact HV.out)).mono ?_; rintro e w' ⟨rfl, rfl⟩))
              go_roundw
              case rel => exact ⟨j + 1, by omega, by go_num, _, rfl⟩
              case measure => simp [intOf]; omega
          · have h2 : ¬ F + P ≤ day := by omega
            have h1d : decide (F ≤ day) = false := by simpa using h1
            have h2d : decide (F + P ≤ day) = false := by simpa using h2
            clear hf1 hf2 i1 i2
            go_wp2_with fail
            go_quiet (fail)
            go_wp2
            go_roundw
            case rel => exact ⟨j + 1, by omega, by go_num, _, rfl⟩
            case measure => simp [intOf]; omega
        · have hj' : j = l.length := by omega
          subst hj'
          have b4 := B4.out
          go_wp2
          go_ret
          exact ⟨rfl, by repeat' (first | (with_reducible exact Below.refl _ _) | (with_reducible assumption) | (with_reducible refine Below.alloc ?_ ?_ _) | (with_reducible refine Below.drew ?_) | (with_reducible refine below_drewN ?_ _) | (with_reducible refine Below.setCell ?_ ?_ _) | (with_reducible refine Below.trans ?_ (Below.mono (by assumption) ?_)) | go_size | (exact Below.size (by assumption)))⟩
end Go.Proofs.Ytmbchcenclfjoaa
