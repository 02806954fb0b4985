/- The best assignment: small walks, and the walk of the reference. -/
import Derived.Test.YtmeppemobogicaaBest
import Derived.Test.YtmeppemobogicaaGr2
import Derived.WalkSpells
namespace Go.Proofs.Ytmeppemobogicaa
open Go.ChangeShapes Go.WideShapes Go.ChangeAt Go.RowKit
set_option maxRecDepth 20000
set_option linter.unusedVariables false
set_option linter.unusedSimpArgs false
theorem cloneInt_any (l : List Int) (n : Nat) (hl : l.length = n) (A : Option Addr) (B c : Nat) (w : World) (hr : Rd w B A (ints l)) (hB : B ≤ w.heap.size) (hn : n ≤ 1048576) :
   Calls Try.prog 77 #[.slice A n c] w fun e w' => ∃ A' c', e = .returned (.slice A' n c') ∧ w'.ownsRow w.heap.size 2 1 (.slice A' n c') n (ints l) ∧ Below w.heap.size w w' := by
  obtain ⟨i0, hi0, hz0, hz1, hz2⟩ := info_parts infoInt64
  have heq := fun W n => Lib.run_eql_slice_nil (P := Try.prog) W 29 2 A n c 0 0 Try.underlying29
  cases A with
  | none =>
    have h0 : n = 0 := by
      rcases Nat.eq_zero_or_pos n with h | h
      · exact h
      · obtain ⟨b, o, e, _⟩ := hr (by rw [ints_length]; omega)
        cases e
    subst h0
    have hl0 : l = [] := List.eq_nil_of_length_eq_zero hl
    subst hl0
    clear hl
    go_enter Try.func77, Try.ntmps77
    go_wp2
    go_ret
    exact ⟨none, 0, rfl, World.ownsRow_nil _ _ _ _, Below.refl _ _⟩
  | some ad =>
    have Hl := Lib.hid hl
    clear hl
    go_enter Try.func77, Try.ntmps77
    go_wp2_with (at_builtin; refine wpList_append_rd rfl (.tmp 5) (.tmp 6) 29 rfl w.heap.size 2 i0 _ 1 8 Try.underlying29 hi0 hz0 hz1 hz2 rfl (by decide) _ 0 [] rfl (World.ownsRow_made w #[] 0 (Nat.le_refl _) (by simp [maxLen]) rfl) B (some ad) n c (ints l) rfl (by rw [ints_length, Hl.out, Nat.mul_one]) (hr.alloc hB _) (ints_one l) (by unfold maxLen; omega) (by omega) (by simp) ?_; intro v1 w1 own1 hb1 hz3; rw [Nat.zero_add, List.nil_append] at own1; obtain ⟨A1, c1, rfl⟩ := own_val own1; have O1 := Lib.hid own1; clear own1)
    go_ret
    exact ⟨A1, c1, rfl, O1.out, ((Below.refl _ _).alloc (Nat.le_refl _) _).trans hb1⟩
theorem most_n (l : List Int) (n : Nat) (hl : l.length = n) (A : Option Addr) (B c : Nat) (w : World) (hr : Rd w B A (ints l)) (hB : B ≤ w.heap.size) (hn : n ≤ 1048576) :
   Calls Try.prog 60 #[.slice A n c] w fun e w' => e = .returned (.int .i64 (mostL l)) ∧ Below w.heap.size w w' := by subst hl; exact most_any l A B c w hr hB hn
theorem max_n (l : List Int) (n : Nat) (hl : l.length = n) (h0 : 0 < n) (hp : ∀ (k : Nat) (x : Int), l[k]? = some x → 0 ≤ x) (A : Option Addr) (B c : Nat) (w : World) (hr : Rd w B A (ints l)) (hB : B ≤ w.heap.size) (hn : n ≤ 1048576) :
   Calls Try.prog 61 #[.slice A n c] w fun e w' => e = .returned (.int .i64 (mostL l)) ∧ Below w.heap.size w w' := by subst hl; exact max_any l h0 hp A B c w hr hB hn
theorem l30Loads_n (T asg : List Int) (n m : Nat) (hnT : T.length = n) (hna : asg.length = n) (hm : m ≤ 3) (hn : n ≤ 6) (ht : ∀ (k : Nat) (x : Int), T[k]? = some x → 0 ≤ x ∧ x ≤ 1000000) (ha : ∀ (k : Nat) (c : Int), asg[k]? = some c → 0 ≤ c ∧ c < m)
   (A A' : Option Addr) (B c c' : Nat) (w : World) (hr : Rd w B A (ints T)) (hr2 : Rd w B A' (ints asg)) (hB : B ≤ w.heap.size) :
   Calls Try.prog 55 #[.slice A n c, .int .i64 m, .slice A' n c'] w fun e w' => ∃ A2 c2, e = .returned (.slice A2 m c2) ∧ w'.ownsRow w.heap.size 2 1 (.slice A2 m c2) m (ints (ldsUp T asg m n)) ∧ Below w.heap.size w w' := by
  subst hna
  have h := l30Loads_any T asg m hm (by omega) (by omega) ht ha A A' B c c' w hr hr2 hB
  rw [hnT] at h
  exact h
theorem loadsOf_n (T asg : List Int) (n m : Nat) (hnT : T.length = n) (hna : asg.length = n) (hm : m ≤ 3) (hn : n ≤ 6) (ht : ∀ (k : Nat) (x : Int), T[k]? = some x → 0 ≤ x ∧ x ≤ 1000000) (ha : ∀ (k : Nat) (c : Int), asg[k]? = some c → 0 ≤ c ∧ c < m)
   (A A' : Option Addr) (B c c' : Nat) (w : World) (hr : Rd w B A (ints T)) (hr2 : Rd w B A' (ints asg)) (hB : B ≤ w.heap.size) :
   Calls Try.prog 59 #[.slice A n c, .int .i64 m, .slice A' n c'] w fun e w' => ∃ A2 c2, e = .returned (.slice A2 m c2) ∧ w'.ownsRow w.heap.size 2 1 (.slice A2 m c2) m (ints (ldsUp T asg m n)) ∧ Below w.heap.size w w' := by
  subst hna
  have h := loadsOf_any T asg m hm (by omega) (by omega) ht ha A A' B c c' w hr hr2 hB
  rw [hnT] at h
  exact h
theorem digL_zero (m n : Nat) : digL m n 0 = List.replicate n 0 := by
  apply List.ext_getElem?
  intro i
  by_cases hi : i < n
  · rw [digL_at hi]
    simp [digA, hi]
  · rw [List.getElem?_eq_none (by rw [digL_length]; omega), List.getElem?_eq_none (by simp; omega)]
theorem pow_bd {m n : Nat} (hm : m ≤ 3) (hn : n ≤ 6) : m ^ n ≤ 729 :=
  Nat.le_trans (Nat.pow_le_pow_left hm n) (Nat.le_trans (Nat.pow_le_pow_right (n := 3) (by omega) hn) (by decide))
theorem bestUp_at {fin : List Int → Int} {m n k : Nat} (hm : 0 < m) (hk : 0 < k) : ∀ (i : Nat) (c : Int), (bestUp fin m n k)[i]? = some c → 0 ≤ c ∧ c < m := by
  obtain ⟨j, _, e⟩ := bestUp_mem fin m n k hk
  rw [e]
  intro i c h
  exact digL_bd hm h
theorem bestUp_len {fin : List Int → Int} {m n k : Nat} (hk : 0 < k) : (bestUp fin m n k).length = n := by
  obtain ⟨j, _, e⟩ := bestUp_mem fin m n k hk
  rw [e, digL_length]
theorem bestUp_one (fin : List Int → Int) (m n : Nat) : bestUp fin m n 1 = List.replicate n 0 := by
  rw [bestUp]
  simp [bestUp, digL_zero]
set_option maxHeartbeats 4000000 in
theorem l30Best_any (T : List Int) (n m : Nat) (hnT : T.length = n) (hm1 : 1 ≤ m) (hm : m ≤ 3) (hn : n ≤ 6) (ht : ∀ (k : Nat) (x : Int), T[k]? = some x → 0 ≤ x ∧ x ≤ 1000000) (A : Option Addr) (B c : Nat) (w : World) (hr : Rd w B A (ints T)) (hB : B ≤ w.heap.size) :
   Calls Try.prog 63 #[.slice A n c, .int .i64 m] w fun e w' => ∃ A' c', e = .returned (.slice A' n c') ∧ w'.ownsRow w.heap.size 2 1 (.slice A' n c') n (ints (bestUp (finP T m) m n (m ^ n))) ∧ Below w.heap.size w w' := by
  obtain ⟨i0, hi0, hz0, hz1, hz2⟩ := info_parts infoInt64
  have hpow := pow_bd hm hn
  have hpp : 0 < m ^ n := Nat.pow_pos hm1
  have HT := Lib.hid hnT
  have Ht := Lib.hid ht
  have Hr := Lib.hid hr
  clear hnT ht hr
  go_enter Try.func63, Try.ntmps63
  go_wp2_with fail
  go_loop [6, 7] (fun t i => ∃ k : Nat, k ≤ n ∧ i = .int .i64 k ∧ t = .int .i64 ((m ^ k : Nat) : Int)) (fun _ i => n - (intOf i).toNat)
  case atStart => exact ⟨0, Nat.zero_le _, rfl, by simp⟩
  case round =>
    obtain ⟨k, hk, rfl, rfl⟩ := hrel
    by_cases hlt : k < n
    · have hpk := pow_bd hm (show k + 1 ≤ 6 by omega)
      have hps : m ^ (k + 1) = m ^ k * m := Nat.pow_succ _ _
      have hcast : ((m ^ k : Nat) : Int) * (m : Int) = ((m ^ (k + 1) : Nat) : Int) := by rw [hps]; exact (Int.natCast_mul _ _).symm
      have e1 : IntKind.i64.wrap (((m ^ k : Nat) : Int) * (m : Int)) = ((m ^ (k + 1) : Nat) : Int) := by rw [hcast]; exact IntWalk.i64_in _ (by omega)
      generalize hp1 : m ^ (k + 1) = p1 at *
      have HP1 := Lib.hid hp1
      clear hp1
      generalize m ^ k = p0 at *
      clear hps hcast
      go_wp2
      go_round
      case rel => exact ⟨k + 1, by omega, by go_num, by rw [HP1.out]⟩
      case measure => simp [intOf]; omega
    · have hk' : k = n := by omega
      subst hk'
      generalize hP : m ^ k = P at *
      have HP := Lib.hid hP
      clear hP
      obtain ⟨w1, xs1, hmk1, own1, hxs1, b1, z1⟩ := mk_own (P := Try.prog) 29 2 i0 _ 1 8 Try.underlying29 hi0 hz0 hz1 hz2 .i64 .i64 k (by omega) (by unfold maxLen; omega) w.heap.size w (Nat.le_refl _)
      rw [zeros_own k xs1 hxs1] at own1
      have O1 := Lib.hid own1
      clear own1 hxs1
      go_wp2_with fail
      clear hmk1
      go_loopw [8, 9] (fun v i wr => ∃ (q : Nat) (A8 : Option Addr) (c8 : Nat), 1 ≤ q ∧ q ≤ P ∧ i = .int .i64 q ∧ v = .slice A8 k c8 ∧ wr.ownsRow w.heap.size 2 1 (.slice A8 k c8) k (ints (bestUp (finP T m) m k q)) ∧ Below w.heap.size w wr) (fun _ i _ => P - (intOf i).toNat)
      case atStart => exact ⟨1, _, _, Nat.le_refl _, hpp, rfl, rfl, by rw [bestUp_one]; exact O1.out, b1⟩
      case round =>
        clear O1
        obtain ⟨q, A8, c8, hq1, hq, rfl, rfl, hown, hbw⟩ := hrel
        by_cases hlt2 : q < P
        · have hsz := hbw.size
          obtain ⟨w3, xs3, hmk3, own3, hxs3, b3, z3⟩ := mk_own (P := Try.prog) 29 2 i0 _ 1 8 Try.underlying29 hi0 hz0 hz1 hz2 .i64 .i64 k (by omega) (by unfold maxLen; omega) wr.heap.size wr (Nat.le_refl _)
          have O3 := Lib.hid own3
          have Ho := Lib.hid hown
          obtain ⟨wo, hwo⟩ : ∃ wo : World, wo = wr := ⟨_, rfl⟩
          subst hwo
          generalize hG : wo.heap.size = G at *
          clear own3 hxs3 hown
          have hqP : (q : Int) < (P : Int) := by omega
          go_wp2_with fail
          clear hmk3
          go_loopw [11, 12] (fun r i wi => ∃ j : Nat, j ≤ k ∧ i = .int .i64 ((j : Int) - 1) ∧ r = .int .i64 ((q / m ^ (k - j) : Nat) : Int) ∧ wo.grownBy wi none ∧ G < wi.heap.size ∧ Below w.heap.size w wi ∧ ∃ xs, wi.ownsRow G 2 1 (.slice (some ⟨G, 0, none⟩) k k) k xs ∧ ∀ i, j ≤ i → xs[i]? = (ints (digL m k q))[i]?) (fun _ i _ => (intOf i + 1).toNat)
          case atStart => exact ⟨k, Nat.le_refl _, vint (by omega), by simp, grownBy_below (by rw [hG]; exact b3), z3, hbw.trans (b3.mono hsz), _, O3.out, fun i hi => by rw [List.getElem?_eq_none (by have := O3.out.1; omega), List.getElem?_eq_none (by rw [ints_length, digL_length]; omega)]⟩
          case round =>
            clear O3
            obtain ⟨j, hj, rfl, rfl, hg, hzG, hbw2, xs, hown3, hxs⟩ := hrel
            rcases Nat.eq_zero_or_pos j with h0 | h0
            · subst h0
              have hxx : xs = ints (digL m k q) := List.ext_getElem? fun i => hxs i (by omega)
              subst hxx
              have m1 : ¬ (0 : Int) ≤ ((0 : Nat) : Int) - 1 := by omega
              have m1b : decide ((0 : Int) ≤ ((0 : Nat) : Int) - 1) = false := by simp
              have HL1 := Lib.hid (l30Loads_n T (digL m k q) k m HT.out (digL_length _ _ _) hm hn Ht.out (fun i c h => digL_bd hm1 h) A (some ⟨G, 0, none⟩) wr.heap.size c k wr ((Hr.out.below hbw2 hB).more (by omega)) (Rd.of_own hown3) (Nat.le_refl _))
              have HoD := Lib.hid hown3
              have HB8 := Lib.hid (own_apart Ho.out hg (fun k e => by cases e))
              have hr0 := Lib.hid (Hr.out.below hbw2 hB)
              have hrd := Lib.hid (Rd.of_own hown3)
              have hr8 := Lib.hid (Rd.of_own HB8.out)
              clear hxs hg hown3
              go_wp2_with fail
              refine HL1.out.mono ?_; rintro e w4 ⟨A4, c4, rfl, o4, b4⟩
              have z4 := b4.size
              have R4 := Lib.hid (Rd.of_own o4)
              clear o4
              go_wp2_with fail
              refine (most_n (ldsUp T (digL m k q) m k) m (ldsUp_length _ _ _ _) A4 _ c4 w4 R4.out (Nat.le_refl _) (by omega)).mono ?_; rintro e w5 ⟨rfl, b5⟩
              have z5 := b5.size
              have hb5 : Below w.heap.size w w5 := (hbw2.trans (b4.mono (by omega))).trans (b5.mono (by omega))
              have B8 := Lib.hid (own_below (own_below HB8.out b4) b5)
              have BD := Lib.hid (own_below (own_below HoD.out b4) b5)
              clear HB8 HoD b4 b5 R4
              go_wp2_with fail
              refine (l30Loads_n T (bestUp (finP T m) m k q) k m HT.out (bestUp_len (by omega)) hm hn Ht.out (bestUp_at hm1 (by omega)) A A8 w5.heap.size c c8 w5 ((Hr.out.below hb5 hB).more (by omega)) (Rd.of_own B8.out) (Nat.le_refl _)).mono ?_; rintro e w6 ⟨A6, c6, rfl, o6, b6⟩
              have z6 := b6.size
              have R6 := Lib.hid (Rd.of_own o6)
              clear o6
              go_wp2_with fail
              refine (most_n (ldsUp T (bestUp (finP T m) m k q) m k) m (ldsUp_length _ _ _ _) A6 _ c6 w6 R6.out (Nat.le_refl _) (by omega)).mono ?_; rintro e w7 ⟨rfl, b7⟩
              have z7 := b7.size
              have hb7 : Below w.heap.size w w7 := (hb5.trans (b6.mono (by omega))).trans (b7.mono (by omega))
              have C8 := Lib.hid (own_below (own_below B8.out b6) b7)
              have CD := Lib.hid (own_more (own_below (own_below BD.out b6) b7) (show w.heap.size ≤ G by omega))
              have f1 : mostL (ldsUp T (digL m k q) m k) = finP T m (digL m k q) := by rw [finP, digL_length]
              have f2 : mostL (ldsUp T (bestUp (finP T m) m k q) m k) = finP T m (bestUp (finP T m) m k q) := by rw [finP, bestUp_len (by omega)]
              rw [f1, f2]
              have hbs : bestUp (finP T m) m k (q + 1) = if finP T m (digL m k q) < finP T m (bestUp (finP T m) m k q) then digL m k q else bestUp (finP T m) m k q := rfl
              have HS := Lib.hid hbs
              clear b6 b7 B8 BD R6 f1 f2 hbs
              by_cases hc : finP T m (digL m k q) < finP T m (bestUp (finP T m) m k q)
              · have hs := HS.out
                rw [if_pos hc] at hs
                have HS2 := Lib.hid hs
                generalize finP T m (digL m k q) = y1 at *
                generalize finP T m (bestUp (finP T m) m k q) = y2 at *
                clear hs HS
                go_wp2
                go_roundw
                case rel => exact ⟨q + 1, _, _, by omega, by omega, by go_num, rfl, by rw [HS2.out]; exact CD.out, hb7⟩
                case measure => simp [intOf]; omega
              · have hs := HS.out
                rw [if_neg hc] at hs
                have HS2 := Lib.hid hs
                generalize finP T m (digL m k q) = y1 at *
                generalize hy2 : finP T m (bestUp (finP T m) m k q) = y2 at *
                clear hs HS hy2
                go_wp2
                go_roundw
                case rel => exact ⟨q + 1, _, _, by omega, by omega, by go_num, rfl, by rw [HS2.out]; exact C8.out, hb7⟩
                case measure => simp [intOf]; omega
            · obtain ⟨j, rfl⟩ : ∃ i, j = i + 1 := ⟨j - 1, by omega⟩
              have hl2 := hown3.1
              have d0 := hown3.cellAt j (by omega)
              rw [List.getElem?_eq_getElem (show j < xs.length by omega)] at d0
              generalize xs[j] = u0 at d0
              have hfz := hown3.frozenAt
              have hdv : q / m ^ (k - (j + 1)) / m = q / m ^ (k - j) := by
                rw [Nat.div_div_eq_div_mul, ← Nat.pow_succ]; congr 2; omega
              have hdig : digA m k q j = q / m ^ (k - (j + 1)) % m := by unfold digA; congr 3; omega
              have hat := digL_at (m := m) (k := q) (show j < k by omega)
              rw [hdig] at hat
              have hle : q / m ^ (k - (j + 1)) ≤ q := Nat.div_le_self _ _
              generalize q / m ^ (k - (j + 1)) = R at *
              have hR0 : (0 : Int) ≤ (R : Int) := by omega
              have hm0 : (0 : Int) < (m : Int) := by omega
              have hmz : ((m : Int) == 0) = false := by rw [beq_eq_false_iff_ne]; omega
              have ej : (((j + 1 : Nat) : Int)) - 1 = (j : Int) := by omega
              have j0 : (0 : Int) ≤ (j : Int) := by omega
              have j1 : (j : Int) < (k : Int) := by omega
              rw [ej]
              have Ho3 := Lib.hid hown3
              have Hxs := Lib.hid hxs
              have Hg := Lib.hid hg
              have Hdv := Lib.hid hdv
              have Hat := Lib.hid hat
              have Hl2 := Lib.hid hl2
              clear hown3 hxs hg hdv hat hdig hl2 ej
              go_wp2
              go_roundw
              case rel =>
                have o1 := World.ownsRow.stored Ho3.out j (.int .i64 ((R : Int) % (m : Int)))
                refine ⟨j, by omega, by go_num, by rw [← Hdv.out]; exact vint (by rw [← Int.natCast_ediv]; exact IntWalk.wrap64_in _ (by have h1 := Nat.div_le_self R m; have h2 := Int.natCast_nonneg (R / m); omega)), ?_, by first | omega | (simp; omega), by repeat' (first | (with_reducible exact Below.refl _ _) | (with_reducible assumption) | (with_reducible refine Below.alloc ?_ ?_ _) | (with_reducible refine Below.drew ?_) | (with_reducible refine below_drewN ?_ _) | (with_reducible refine Below.setCell ?_ ?_ _) | (with_reducible refine Below.trans ?_ (Below.mono (by assumption) ?_)) | go_size | (exact Below.size (by assumption))), _, o1.1, ?_⟩
                · exact (grownBy_below (Below.trans (below_of_grownBy (B := G) Hg.out (by omega) (fun k e => by cases e)) (below_of_grownBy (B := G) o1.2 (by omega) (fun k e => by injection e with e; omega)) |> fun h => by rw [hG]; exact h))
                · intro i hi
                  rw [List.getElem?_set]
                  by_cases e : j = i
                  · subst e
                    have := Hl2.out
                    have hjx : j < xs.length := by omega
                    rw [if_pos rfl, if_pos hjx, ints, List.getElem?_map, Hat.out]; simp
                  · rw [if_neg e]
                    exact Hxs.out i (by omega)
              case measure => first | (simp [intOf]; done) | (simp [intOf]; omega)
        · have hq' : q = P := by omega
          subst hq'
          have Ho := Lib.hid hown
          clear hown
          go_wp2
          go_ret
          exact ⟨A8, c8, rfl, by rw [HP.out]; exact Ho.out, hbw⟩
end Go.Proofs.Ytmeppemobogicaa
