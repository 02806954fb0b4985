/- VisitDays: walk of the program. -/
import Derived.Test.YtmbchcenclfjoaaVw
namespace Go.Proofs.Ytmbchcenclfjoaa
open Go.ChangeShapes Go.WideShapes Go.ChangeAt Go.RowKit
set_option maxRecDepth 20000
set_option linter.unusedVariables false
set_option linter.unusedSimpArgs false
theorem box2 {w : World} {b : Nat} {x y : Value} {t : TypeId} (h : w.heap[b]? = some (.cells #[x, y] t (0, 0))) : w.cell? ⟨b, 0, none⟩ = some x ∧ w.cell? ⟨b, 1, none⟩ = some y := by
  constructor
  · rw [cell_of_row w b 0 _ _ _ h]; rfl
  · rw [cell_of_row w b 1 _ _ _ h]; rfl
set_option maxHeartbeats 2000000 in
theorem visit_impl (l : List (Int × Int)) (day : Int) (A : Option Addr) (B c : Nat) (w : World) (hr : Rd w B A (l.flatMap eTask)) (hB : B ≤ w.heap.size) (hn : l.length ≤ 1048576) :
   Calls Try.prog 53 #[.slice A l.length c, .int .i64 day] w fun e w' => ∃ A' c', e = .returned (.tuple #[.slice A' (visR l day).length c', .int .i64 (visC l day)]) ∧ w'.ownsRow w.heap.size 2 1 (.slice A' (visR l day).length c') (visR l day).length (ints (visR l day)) ∧ Below w.heap.size w w' := by
  cases hp : planB l with
  | false =>
    have e0 : planCode l day = 1 := by simp [planCode, hp]
    rcases vis_cases l day with ⟨_, e1, e2⟩ | ⟨h1, _⟩ | ⟨h1, _⟩
    · rw [e1, e2, e0]
      have Hp := Lib.hid hp
      clear hp e0 e1 e2
      go_enter Try.func53, Try.ntmps53
      go_wp2_with (first | (go_at_call 18; refine (isPlan_impl_r l A B c false Hp.out w hr hB hn).mono ?_; rintro e w1 ⟨rfl, hb⟩))
      go_ret2
      exact ⟨none, 0, rfl, World.ownsRow_nil _ _ _ _, by repeat' (first | (with_reducible exact Below.refl _ _) | (with_reducible assumption) | (with_reducible refine Below.alloc ?_ ?_ _) | (with_reducible refine Below.drew ?_) | (with_reducible refine below_drewN ?_ _) | (with_reducible refine Below.setCell ?_ ?_ _) | (with_reducible refine Below.trans ?_ (Below.mono (by assumption) ?_)) | go_size | (exact Below.size (by assumption)))⟩
    · omega
    · omega
  | true =>
    cases hd : inB day 0 100000 with
    | false =>
      have e0 : planCode l day = 2 := by simp [planCode, hp, hd]
      rcases vis_cases l day with ⟨_, e1, e2⟩ | ⟨h1, _⟩ | ⟨h1, _⟩
      · rw [e1, e2, e0]
        have Hp := Lib.hid hp
        clear hp e0 e1 e2
        go_enter Try.func53, Try.ntmps53
        go_wp2_with (first | (go_at_call 18; refine (isPlan_impl_r l A B c true Hp.out w hr hB hn).mono ?_; rintro e w1 ⟨rfl, hb⟩) | (go_at_call 60; refine (isDay_any _ _).mono ?_; rintro e w' ⟨rfl, rfl⟩))
        go_ret2
        exact ⟨none, 0, rfl, World.ownsRow_nil _ _ _ _, by repeat' (first | (with_reducible exact Below.refl _ _) | (with_reducible assumption) | (with_reducible refine Below.alloc ?_ ?_ _) | (with_reducible refine Below.drew ?_) | (with_reducible refine below_drewN ?_ _) | (with_reducible refine Below.setCell ?_ ?_ _) | (with_reducible refine Below.trans ?_ (Below.mono (by assumption) ?_)) | go_size | (exact Below.size (by assumption)))⟩
      · omega
      · omega
    | true =>
      have e0 : planCode l day = 0 := by simp [planCode, hp, hd]
      obtain ⟨_, hd0, hd1⟩ := planCode_ok e0
      obtain ⟨i0, hi0, hz0, hz1, hz2⟩ := info_parts infoInt64
      have Hat := Lib.hid (fun k t => @plan_at l hp k t)
      have Hall := Lib.hid (plan_all hp)
      have Hp := Lib.hid hp
      have Hr := Lib.hid hr
      have hn12 := plan_len hp
      have hlen := Lib.hid (allD_len hd1 l (plan_all hp))
      have hlenk := Lib.hid (fun k => allD_len hd1 (l.take k) (fun t ht => plan_all hp t (List.mem_of_mem_take ht)))
      have HE := Lib.hid (vis_cases l day)
      have HE0 := Lib.hid e0
      clear hp hr e0
      go_enter Try.func53, Try.ntmps53
      go_wp2_with fail
      refine (isPlan_impl_r l A B c true Hp.out w Hr.out hB hn).mono ?_; rintro e w1 ⟨rfl, hb⟩
      have hz1' := hb.size
      go_wp2_with fail
      refine (isDay_any _ _).mono ?_; rintro e w' ⟨rfl, rfl⟩
      go_wp2_with fail
      go_loopw [6, 20] (fun v i wr => ∃ k : Nat, k ≤ l.length ∧ i = .int .i64 k ∧ wr.ownsRow w.heap.size 2 1 v (allD (l.take k) day).length (ints (allD (l.take k) day)) ∧ Below w.heap.size w wr) (fun _ i _ => l.length - (intOf i).toNat)
      case atStart => exact ⟨0, Nat.zero_le _, rfl, World.ownsRow_nil _ _ _ _, hb⟩
      case round =>
        obtain ⟨k, hk, rfl, hown, hbw⟩ := hrel
        have hsz := hbw.size
        have Hbw := Lib.hid hbw
        have Hown := Lib.hid hown
        clear hown
        by_cases hlt : k < l.length
        · have ht := List.getElem?_eq_getElem hlt
          generalize l[k] = t at ht
          obtain ⟨b, o, rfl, _, c0, c1⟩ := (Hr.out.below hbw hB).atTask ht
          have hBt := Hat.out k t ht
          have hstep := Lib.hid (allD_step day ht)
          have hseq := Lib.hid (seqT_step t)
          have hsl := Lib.hid (seqT_length t)
          have hcnt := Lib.hid (fun j => cnt_iff hBt.1 j day)
          have hcb := cnt_bd hBt.1 hBt.2.2.1 day hd1
          have hlk := hlenk.out k
          have hlk2 : (allD (l.take k) day).length ≤ 1200000 := by rw [List.length_take] at hlk; omega
          generalize hS : seqT t = S at *
          generalize hCN : cntT t day = CN at *
          obtain ⟨P, D⟩ := t
          simp only at hBt c0 c1 hcnt hseq
          have Hc := Lib.hid hS
          clear ht hbw hS hCN hlk
          have hw1 : IntKind.i64.wrap (D + P) = D + P := IntWalk.i64_in _ (by omega)
          go_wp2_with fail
          refine (due_any P D (by omega) (by omega) (by omega) (by omega) _).mono ?_; rintro e w2 ⟨rfl, hb2⟩
          have hz4 := hb2.size
          simp only [World.size_alloc] at hz4
          have hbox : Hid (w2.heap[wr.heap.size]? = some (.cells #[.int .i64 P, .int .i64 D] 65 (0, 0))) := Lib.hid ((hb2.block wr.heap.size (by simp)).trans (heap_alloc_new wr _))
          have o2 := Lib.hid (own_below (Hown.out.alloc _) hb2)
          have B2 := Lib.hid (show Below w.heap.size w w2 by have hbw := Hbw.out; repeat' (first | (with_reducible exact Below.refl _ _) | (with_reducible assumption) | (with_reducible refine Below.alloc ?_ ?_ _) | (with_reducible refine Below.drew ?_) | (with_reducible refine below_drewN ?_ _) | (with_reducible refine Below.setCell ?_ ?_ _) | (with_reducible refine Below.trans ?_ (Below.mono (by assumption) ?_)) | go_size | (exact Below.size (by assumption))))
          have hne : ∀ q, _ := fun q => (own_lt Hown.out q)
          have Hne := Lib.hid (show u6.ownBlock ≠ some wr.heap.size from fun e => by have := hne _ e; omega)
          generalize hwo : wr = wo at *
          clear hne hb2 hwo wr
          generalize hQ : allD (l.take k) day = Q at *
          go_wp2_with fail
          go_loopw [6, 9] (fun v d wr => ∃ j : Nat, j ≤ CN ∧ d = .int .i64 (D + ((j : Int) + 1) * P) ∧ wr.ownsRow w.heap.size 2 1 v (Q.length + j) (ints (Q ++ S j)) ∧ v.ownBlock ≠ some wo.heap.size ∧ wr.heap[wo.heap.size]? = some (.cells #[.int .i64 P, .int .i64 D] 65 (0, 0)) ∧ wo.heap.size < wr.heap.size ∧ Below w.heap.size w wr) (fun _ d _ => (day + 1 - intOf d).toNat)
          case atStart =>
            have hS0 : S 0 = [] := List.eq_nil_of_length_eq_zero (hsl.out 0)
            exact ⟨0, Nat.zero_le _, by simp, by rw [hS0, List.append_nil]; exact o2.out, Hne.out, hbox.out, by omega, B2.out⟩
          case round =>
            obtain ⟨j, hj, rfl, hown, hnb, hbx, hzz, hbw⟩ := hrel
            obtain ⟨x0, x1⟩ := box2 hbx
            have hsw := hbw.size
            have Hown2 := Lib.hid hown
            have Hbx := Lib.hid hbx
            have Hnb := Lib.hid hnb
            have Hbw2 := Lib.hid hbw
            have hcj := hcnt.out j
            have hmn : (0 : Int) ≤ ((j : Int) + 1) * P := Int.mul_nonneg (by omega) (by omega)
            have hnx : D + ((j : Int) + 1) * P + P = D + (((j + 1 : Nat) : Int) + 1) * P := by
              rw [show (((j + 1 : Nat) : Int) + 1) = ((j : Int) + 1) + 1 by omega, Int.add_mul ((j : Int) + 1)]; omega
            have hsj := Lib.hid (hseq.out j)
            have hdd0 : -1 ≤ D + ((j : Int) + 1) * P := by omega
            clear hown hnb hbx hbw c0 c1 hbox o2 Hown B2 Hne
            generalize D + ((j : Int) + 1) * P = dd at *
            have Hnx := Lib.hid hnx
            clear hnx hmn
            by_cases hlt2 : dd ≤ day
            · have hj2 := hcj.1 hlt2
              have dd0 : -1 ≤ dd := by omega
              have hw5 : IntKind.i64.wrap (dd + P) = dd + P := IntWalk.i64_in _ (by omega)
              clear x0 x1
              go_wp2_with (at_builtin; refine wpList_append_int3 rfl (.tmp 33) (.tmp 35) 42 rfl w.heap.size 2 i0 Try.underlying42 hi0 hz0 hz1 hz2 _ _ (Q ++ S j) rfl Hown2.out dd rfl (by omega) (by omega) ?_; intro v3 w3 own3 hb3 hz3 hk3; have O3 := Lib.hid own3; have bx3 := (hk3 wo.heap.size hzz Hnb.out).1.trans Hbx.out; have Hnb3 := Lib.hid (hk3 wo.heap.size hzz Hnb.out).2; have Bx3 := Lib.hid bx3; obtain ⟨x0, x1⟩ := box2 bx3; clear own3 bx3 hk3)
              go_roundw
              case rel => exact ⟨j + 1, by omega, by rw [← Hnx.out], by rw [hsj.out, ← List.append_assoc]; exact O3.out, Hnb3.out, Bx3.out, by omega, Hbw2.out.trans hb3⟩
              case measure => simp [intOf]; omega
            · have hjc : j = CN := by
                have : ¬ j < CN := fun h => hlt2 (hcj.2 h)
                omega
              subst hjc
              go_wp2
              go_roundw
              case rel => exact ⟨k + 1, by omega, by go_num, by rw [hstep.out, List.length_append, hsl.out]; exact Hown2.out, Hbw2.out⟩
              case measure => simp [intOf]; omega
        · have hk' : k = l.length := by omega
          subst hk'
          have o1 := Hown.out
          rw [List.take_length] at o1
          obtain ⟨Av, cv, rfl⟩ := own_val o1
          have ho := Lib.hid o1
          have hl0 := hlen.out
          have hso := sort_own (allD l day) wr rfl o1 (by omega)
          have HSO := Lib.hid hso
          clear o1 Hown hso hbw
          go_wp2_with fail
          refine HSO.out.mono ?_; rintro e w3 ⟨rfl, o3, g3⟩
          have B3 := Lib.hid (Hbw.out.grown g3 hsz (fun k hk => (own_lt ho.out k hk).1))
          have hz3 := g3.size
          have hco := compact_own (sortL (allD l day)) w3 (sortL_length _) o3 (by omega)
          rw [show compL (sortL (allD l day)) = visL l day from rfl] at hco
          have HCO := Lib.hid hco
          have O3 := Lib.hid o3
          clear o3 g3 hco HSO
          go_wp2_with fail
          refine HCO.out.mono ?_; rintro e w4 ⟨rfl, o4, g4⟩
          have B4 := Lib.hid (B3.out.grown g4 (by omega) (fun k hk => (own_lt O3.out k hk).1))
          have O4 := Lib.hid o4
          clear o4 g4 HCO hlen hlenk
          rcases HE.out with ⟨h1, _⟩ | ⟨_, _, _, _, hle, e1, e2⟩ | ⟨_, _, _, _, hgt, e1, e2⟩
          · exact absurd HE0.out h1
          · have E1 := Lib.hid e1
            have E2 := Lib.hid e2
            clear HE HE0 e1 e2
            generalize visL l day = V at *
            go_wp2
            go_ret2
            rw [E1.out, E2.out]
            exact ⟨Av, cv, rfl, O4.out, B4.out⟩
          · have E1 := Lib.hid e1
            have E2 := Lib.hid e2
            clear HE HE0 e1 e2
            generalize visL l day = V at *
            go_wp2
            go_ret2
            rw [E1.out, E2.out]
            exact ⟨none, 0, rfl, World.ownsRow_nil _ _ _ _, B4.out⟩
end Go.Proofs.Ytmbchcenclfjoaa
