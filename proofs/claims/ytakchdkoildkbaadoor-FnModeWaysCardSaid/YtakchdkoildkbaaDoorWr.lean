/- The modes that are reached: the walks of both sides. -/
import Derived.Test.YtakchdkoildkbaaDoorWy
namespace Go.Proofs.YtakchdkoildkbaaDoor
open Go.ChangeShapes Go.WideShapes Go.ChangeAt Go.RowKit
set_option maxRecDepth 20000
set_option linter.unusedVariables false
set_option linter.unusedSimpArgs false
/-- the reference's marks -/
def seenK (r : Int) (b : Bool) (m : Nat) (s : List Bool) : Nat → List Bool
  | 0 => s
  | k + 1 => let t := seenK r b m s k; if t.getD m false then t.set (nextK k m r b).toNat true else t
def seenM (r : Int) (b : Bool) (s : List Bool) : Nat → List Bool
  | 0 => s
  | m + 1 => seenK r b m (seenM r b s m) 10
def seenR (f r : Int) (b : Bool) : Nat → List Bool
  | 0 => (List.replicate 6 false).set f.toNat true
  | n + 1 => seenM r b (seenR f r b n) 6
theorem seenK_len {r : Int} {b : Bool} {m : Nat} {s : List Bool} (h : s.length = 6) : ∀ k, (seenK r b m s k).length = 6
  | 0 => h
  | k + 1 => by
    have ih := seenK_len (r := r) (b := b) (m := m) h k
    show (if _ then _ else _ : List Bool).length = 6
    split
    · rw [List.length_set]; exact ih
    · exact ih
theorem seenM_len {r : Int} {b : Bool} {s : List Bool} (h : s.length = 6) : ∀ k, (seenM r b s k).length = 6
  | 0 => h
  | k + 1 => seenK_len (seenM_len h k) 10
theorem seenR_len {f r : Int} {b : Bool} : ∀ k, (seenR f r b k).length = 6
  | 0 => by simp [seenR]
  | k + 1 => seenM_len (seenR_len k) 6
theorem seenK_stop {r : Int} {b : Bool} {m : Nat} {s : List Bool} {k : Nat} (h : (seenK r b m s k).getD m false = false) : ∀ j, seenK r b m s (k + j) = seenK r b m s k
  | 0 => rfl
  | j + 1 => by
    have ih := seenK_stop h j
    rw [← Nat.add_assoc]
    show (if (seenK r b m s (k + j)).getD m false then (seenK r b m s (k + j)).set (nextK (k + j) m r b).toNat true else seenK r b m s (k + j)) = _
    rw [ih, if_neg (by rw [h]; simp)]
def bools (s : List Bool) : Array Value := (s.map Value.bool).toArray
theorem bools_at {s : List Bool} {m : Nat} (hm : m < s.length) : (bools s)[m]? = some (.bool (s.getD m false)) := by
  unfold bools
  rw [List.getElem?_toArray, List.getElem?_map, List.getElem?_eq_getElem hm, List.getD_eq_getElem?_getD, List.getElem?_eq_getElem hm]
  rfl
theorem bools_set {s : List Bool} {m : Nat} : bools (s.set m true) = (bools s).setIfInBounds m (.bool true) := by
  unfold bools
  rw [List.map_set]
  simp
/-- the marks in memory -/
def StB (g B : Nat) (w0 w : World) (s : List Bool) : Prop := s.length = 6 ∧ Bk w g (bools s) ∧ Below B w0 w
theorem l27Next_r (k : Nat) (hk : k < 10) (m r : Int) (b : Bool) (t : Nat) (ht : nextK k m r b = (t : Int)) (w : World) :
   Calls Tryd.prog 48 #[.int .i64 m, .agg #[.int .i64 k, .int .i64 r, .bool b]] w fun e w' => e = .returned (.int .i64 (t : Int)) ∧ Below w.heap.size w w' := ht ▸ next_spec k hk m r b w
set_option maxHeartbeats 1000000 in
theorem l27Reach_any (f : Nat) (r : Int) (b : Bool) (hf : f < 6) (w : World) :
   Calls Tryd.prog 36 #[.int .i64 f, .int .i64 r, .bool b] w fun e w' => e = .returned (.slice (some ⟨w.heap.size, 0, none⟩) 6 6) ∧ StB w.heap.size w.heap.size w w' (seenR f r b 5) := by
  have hf0 : (0 : Int) ≤ (f : Int) := by omega
  have hf6 : (f : Int) < 6 := by omega
  have hmk : ∀ w : World, (Instr.makeSlice 54 (.int .i64 6) (.int .i64 6)).run Tryd.prog w = .ok (.slice (some ⟨w.heap.size, 0, none⟩) 6 6) (w.alloc (.cells #[.bool false, .bool false, .bool false, .bool false, .bool false, .bool false] 4)) := fun w => by kernel_rfl
  go_enter Tryd.func36, Tryd.ntmps36
  go_wp2_with fail
  have START : Hid (StB w.heap.size w.heap.size w (w.alloc (.cells (([Value.bool false, Value.bool false, Value.bool false, Value.bool false, Value.bool false, Value.bool false].set f (Value.bool true)).toArray) 4)) (seenR f r b 0)) := Lib.hid ⟨seenR_len 0, by simpa [seenR, bools, List.map_set, Int.toNat_natCast] using bk_new w (([Value.bool false, Value.bool false, Value.bool false, Value.bool false, Value.bool false, Value.bool false].set f (Value.bool true)).toArray) 4, (Below.refl _ _).alloc (Nat.le_refl _) _⟩
  have hsz : w.heap.size < (w.alloc (.cells (([Value.bool false, Value.bool false, Value.bool false, Value.bool false, Value.bool false, Value.bool false].set f (Value.bool true)).toArray) 4)).heap.size := by simp
  generalize w.alloc (.cells (([Value.bool false, Value.bool false, Value.bool false, Value.bool false, Value.bool false, Value.bool false].set f (Value.bool true)).toArray) 4) = ws at *
  go_loopg [8] 5 (fun gk v wr => ∃ n : Nat, n + gk = 5 ∧ v = .int .i64 n ∧ StB w.heap.size w.heap.size w wr (seenR f r b n))
  case atStart => exact ⟨0, rfl, rfl, START.out⟩
  case round =>
    clear START
    obtain ⟨n, hn, rfl, hst⟩ := hrel
    obtain ⟨GK, hGK⟩ : ∃ x : Nat, x = gk := ⟨_, rfl⟩
    subst hGK
    have Hst := Lib.hid hst
    clear hst
    by_cases hn5 : n < 5
    · have hd5 : decide ((n : Int) < 5) = true := decide_eq_true (by omega)
      go_wp2_with fail
      have Hr : Hid (seenR f r b (n + 1) = seenM r b (seenR f r b n) 6) := Lib.hid rfl
      generalize hs0 : seenR f r b n = s0 at *
      clear hs0
      generalize hWo : wr = wo at *
      clear hWo wr
      go_loopg [9] 6 (fun gm v wr => ∃ m : Nat, m + gm = 6 ∧ v = .int .i64 m ∧ StB w.heap.size w.heap.size w wr (seenM r b s0 m))
      case atStart => exact ⟨0, rfl, rfl, Hst.out⟩
      case round =>
        obtain ⟨m, hm, rfl, hst⟩ := hrel
        obtain ⟨GM, hGM⟩ : ∃ x : Nat, x = gk := ⟨_, rfl⟩
        subst hGM
        have Hs1 := Lib.hid hst
        clear hst
        by_cases hm6 : m < 6
        · have hd6 : decide ((m : Int) < 6) = true := decide_eq_true (by omega)
          go_wp2_with fail
          have Hm1 : Hid (seenM r b s0 (m + 1) = seenK r b m (seenM r b s0 m) 10) := Lib.hid rfl
          generalize hs1 : seenM r b s0 m = s1 at *
          clear hs1
          generalize hWo : wr = wp at *
          clear hWo wr
          go_loopg [10] 10 (fun gi v wr => ∃ k : Nat, k + gi = 10 ∧ v = .int .i64 k ∧ StB w.heap.size w.heap.size w wr (seenK r b m s1 k))
          case atStart => exact ⟨0, rfl, rfl, Hs1.out⟩
          case round =>
            obtain ⟨k, hk, rfl, hst⟩ := hrel
            have Hs2 := Lib.hid hst
            obtain ⟨hl2, hb2, hw2⟩ := hst
            have hcl := Lib.hid (fun (h : (seenK r b m s1 k).getD m false = false) => seenK_stop (r := r) (b := b) (m := m) (s := s1) (k := k) h)
            have hst2 : seenK r b m s1 (k + 1) = if (seenK r b m s1 k).getD m false then (seenK r b m s1 k).set (nextK k m r b).toNat true else seenK r b m s1 k := rfl
            have hmi : (m : Int) < 6 := by omega
            by_cases hk10 : k < 10
            · have hd10 : decide ((k : Int) < 10) = true := decide_eq_true (by omega)
              have hnr := next_range hk10 (m := (m : Int)) (r := r) (b := b) ⟨by omega, by omega⟩
              obtain ⟨t, ht⟩ : ∃ t : Nat, nextK k (m : Int) r b = (t : Int) := ⟨(nextK k (m : Int) r b).toNat, by omega⟩
              have ht6 : t < 6 := by omega
              rw [ht, Int.toNat_natCast] at hst2
              have HN := Lib.hid (l27Next_r k hk10 (m : Int) r b t ht)
              obtain ⟨cb, fb⟩ := bk_at hb2
              have hbz := bk_lt hb2
              have cm := (cb m).trans (bools_at (by omega))
              have Hb2 := Lib.hid hb2
              have Hw2 := Lib.hid hw2
              clear hb2 hw2 cb hnr
              generalize hs2 : seenK r b m s1 k = s2 at *
              cases hq : s2.getD m false with
              | false =>
                rw [hq] at cm
                have Hq := Lib.hid (show seenK r b m s1 10 = s2 by rw [show 10 = k + (10 - k) by omega, hcl.out hq])
                clear hst2 hs2 hq
                go_wp2_with fail
                go_roundg (GM - 1)
                case rel => exact ⟨m + 1, by omega, by go_num, by rw [Hm1.out, Hq.out]; exact Hs2.out⟩
                all_goals omega
              | true =>
                rw [hq] at cm
                rw [hq, if_pos rfl] at hst2
                have Hst2 := Lib.hid hst2
                have htI : (t : Int) < 6 := by omega
                have ht0 : (0 : Int) ≤ (t : Int) := by omega
                clear hst2 hs2 hq hcl
                go_wp2_with (go_at_call 48; refine (HN.out _).mono ?_; rintro e w1 ⟨rfl, b1⟩; have B1 := Lib.hid b1; have K1 := Lib.hid (bk_below Hb2.out b1 hbz); obtain ⟨cb1, fb1⟩ := bk_at K1.out; have ct := (cb1 t).trans (bools_at (by omega)); clear cb1 b1)
                go_roundg (10 - (k + 1))
                case rel => exact ⟨k + 1, by omega, by go_num, by rw [Hst2.out]; exact ⟨by rw [List.length_set]; exact hl2, bk_set K1.out t _ _ bools_set, (Hw2.out.trans (B1.out.mono (by omega))).setCell (Nat.le_refl _) _⟩⟩
                all_goals omega
            · have hk1 : k = 10 := by omega
              have hd10 : decide ((k : Int) < 10) = false := decide_eq_false (by omega)
              have Hq := Lib.hid (show seenK r b m s1 10 = seenK r b m s1 k by rw [hk1])
              clear hst2 hcl hb2 hw2 hl2
              generalize hs2 : seenK r b m s1 k = s2 at *
              clear hs2
              go_wp2_with fail
              go_roundg (GM - 1)
              case rel => exact ⟨m + 1, by omega, by go_num, by rw [Hm1.out, Hq.out]; exact Hs2.out⟩
              all_goals omega
        · have hd6 : decide ((m : Int) < 6) = false := decide_eq_false (by omega)
          go_wp2_with fail
          go_roundg (GK - 1)
          case rel => exact ⟨n + 1, by omega, by go_num, by rw [Hr.out, show 6 = m by omega]; exact Hs1.out⟩
          all_goals omega
    · have hd5 : decide ((n : Int) < 5) = false := decide_eq_false (by omega)
      go_wp2_with fail
      go_ret
      refine ⟨rfl, ?_⟩
      have := Hst.out
      rw [show n = 5 by omega] at this
      exact this
theorem isRole_r (n : Int) (q : Bool) (h : inB n 0 3 = q) (w : World) : Calls Tryd.prog 38 #[.int .i64 n] w fun e w' => e = .returned (.bool q) ∧ w = w' := h ▸ isRole_any n w
theorem l27Role_r (n : Int) (q : Bool) (h : inB n 0 3 = q) (w : World) : Calls Tryd.prog 35 #[.int .i64 n] w fun e w' => e = .returned (.bool q) ∧ w = w' := h ▸ l27Role_any n w
/-- the places of the marks below k -/
def upK (M : Nat → Bool) : Nat → List Int
  | 0 => []
  | k + 1 => if M k then upK M k ++ [(k : Int)] else upK M k
theorem upK_len (M : Nat → Bool) : ∀ k, (upK M k).length ≤ k
  | 0 => Nat.le_refl _
  | k + 1 => by
    have := upK_len M k
    rw [upK]
    split
    · rw [List.length_append]
      have : [(k : Int)].length = 1 := rfl
      omega
    · omega
def reachC (m r : Int) : Int := if inB m 0 5 && inB r 0 3 then 0 else 2
def reachL (m r : Int) (b : Bool) : List Int := if inB m 0 5 && inB r 0 3 then upK (fun i => (seenR m r b 5).getD i false) 6 else []
set_option maxHeartbeats 1000000 in
theorem reach_spec (m r : Int) (b : Bool) (w : World) :
   Calls Tryd.prog 8 #[.int .i64 m, .int .i64 r, .bool b] w fun e w' => ∃ A' c', e = .returned (.tuple #[.slice A' (reachL m r b).length c', .int .i64 (reachC m r)]) ∧ w'.ownsRow w.heap.size 2 1 (.slice A' (reachL m r b).length c') (reachL m r b).length (ints (reachL m r b)) ∧ Below w.heap.size w w' := by
  cases hm : inB m 0 5 with
  | false =>
    have e1 : reachL m r b = [] := by unfold reachL; rw [hm]; rfl
    have e2 : reachC m r = 2 := by unfold reachC; rw [hm]; rfl
    rw [e1, e2]
    have HM := Lib.hid (l27Mode_r m false hm)
    clear hm e1 e2
    go_enter Tryd.func8, Tryd.ntmps8
    go_wp2_with (go_at_call 34; refine (HM.out _).mono ?_; rintro e w' ⟨rfl, rfl⟩)
    go_ret2
    exact ⟨none, 0, rfl, World.ownsRow_nil _ _ _ _, Below.refl _ _⟩
  | true =>
    cases hr : inB r 0 3 with
    | false =>
      have e1 : reachL m r b = [] := by unfold reachL; rw [hm, hr]; rfl
      have e2 : reachC m r = 2 := by unfold reachC; rw [hm, hr]; rfl
      rw [e1, e2]
      have HM := Lib.hid (l27Mode_r m true hm)
      have HR := Lib.hid (l27Role_r r false hr)
      clear hm hr e1 e2
      go_enter Tryd.func8, Tryd.ntmps8
      go_wp2_with (first | (go_at_call 34; refine (HM.out _).mono ?_; rintro e w' ⟨rfl, rfl⟩) | (go_at_call 35; refine (HR.out _).mono ?_; rintro e w' ⟨rfl, rfl⟩))
      go_ret2
      exact ⟨none, 0, rfl, World.ownsRow_nil _ _ _ _, Below.refl _ _⟩
    | true =>
      obtain ⟨f, rfl⟩ : ∃ f : Nat, m = (f : Int) := ⟨m.toNat, by unfold inB at hm; simp at hm; omega⟩
      have hf : f < 6 := by unfold inB at hm; simp at hm; omega
      have HS0 := l27Reach_any f r b hf w
      obtain ⟨s5, hs5⟩ : ∃ s, s = seenR (f : Int) r b 5 := ⟨_, rfl⟩
      have hl5 : s5.length = 6 := by rw [hs5]; exact seenR_len 5
      rw [← hs5] at HS0
      have HS := Lib.hid HS0
      clear HS0
      obtain ⟨M, hM⟩ : ∃ M : Nat → Bool, M = fun i => s5.getD i false := ⟨_, rfl⟩
      obtain ⟨K6, hK6⟩ : ∃ k : Nat, k = 6 := ⟨6, rfl⟩
      have e1 : reachL f r b = upK M K6 := by unfold reachL; rw [hm, hr, hM, hs5, hK6]; exact if_pos rfl
      have e2 : reachC f r = 0 := by unfold reachC; rw [hm, hr]; rfl
      have hMl := upK_len M
      rw [e1, e2]
      have HM := Lib.hid (l27Mode_r f true hm)
      have HR := Lib.hid (l27Role_r r true hr)
      have HMM := Lib.hid hM
      have hM0 : ∀ i, M i = s5.getD i false := fun i => by rw [hM]
      have HM0 := Lib.hid hM0
      have HL5 := Lib.hid hl5
      clear hm hr e1 e2 hM hs5 hM0 hl5
      obtain ⟨i0, hi0, hz0, hz1, hz2⟩ := info_parts infoInt64
      go_enter Tryd.func8, Tryd.ntmps8
      go_wp2_with (first | (go_at_call 34; refine (HM.out _).mono ?_; rintro e w' ⟨rfl, rfl⟩) | (go_at_call 35; refine (HR.out _).mono ?_; rintro e w' ⟨rfl, rfl⟩) | (go_at_call 36; refine HS.out.mono ?_; rintro e w1 ⟨rfl, hst⟩; have Hst := Lib.hid hst; clear hst))
      obtain ⟨hl, hk1, hb1⟩ := Hst.out
      have hzw1 := hb1.size
      have hg1 := bk_lt hk1
      have START : Hid (StB w.heap.size w.heap.size w (w1.alloc (.cells #[] 2)) s5 ∧ (w1.alloc (.cells #[] 2)).ownsRow (w.heap.size + 1) 2 1 (.slice (some ⟨w1.heap.size, 0, none⟩) 0 0) (upK M 0).length (ints (upK M 0))) := Lib.hid ⟨⟨hl, bk_alloc hk1 _, hb1.alloc hzw1 _⟩, by simpa [ints, upK] using World.ownsRow_made (base := w.heap.size + 1) (e := 2) (size := 1) w1 #[] 0 hg1 (by simp [maxLen]) rfl⟩
      clear hl hk1 hb1 Hst
      generalize w1.alloc (.cells #[] 2) = ws at *
      go_loopg [9, 10] K6 (fun gk v i wr => ∃ k c A, k + gk = K6 ∧ i = .int .i64 (k : Nat) ∧ StB w.heap.size w.heap.size w wr s5 ∧ v = .slice A (upK M k).length c ∧ wr.ownsRow (w.heap.size + 1) 2 1 (.slice A (upK M k).length c) (upK M k).length (ints (upK M k)))
      case atStart => exact ⟨0, 0, _, by omega, rfl, START.out.1, rfl, START.out.2⟩
      case round =>
        clear START
        obtain ⟨k, c, A, hk, rfl, hst, rfl, how⟩ := hrel
        have Hst := Lib.hid hst
        have How := Lib.hid how
        obtain ⟨hl, hb, hw⟩ := hst
        have hkl := upK_len M k
        by_cases hlt : k < 6
        · have hd6 : decide ((k : Int) < 6) = true := decide_eq_true (by omega)
          obtain ⟨cb, fb⟩ := bk_at hb
          have hbz := bk_lt hb
          have cm := (cb k).trans (bools_at (by omega))
          rw [← HM0.out k] at cm
          have hki : (k : Int) < 6 := by omega
          have Hb := Lib.hid hb
          have Hw := Lib.hid hw
          have hup : upK M (k + 1) = if M k then upK M k ++ [(k : Int)] else upK M k := rfl
          generalize hu : upK M k = u at *
          clear hb hw hu cb how
          cases hq : M k with
          | false =>
            rw [hq] at cm
            rw [hq, if_neg (by simp)] at hup
            have Hup := Lib.hid hup
            clear hup hq
            go_wp2_with fail
            go_roundg (K6 - (k + 1))
            case rel => exact ⟨k + 1, c, A, by omega, by go_num, Hst.out, by rw [Hup.out], by rw [Hup.out]; exact How.out⟩
            all_goals omega
          | true =>
            rw [hq] at cm
            rw [hq, if_pos rfl] at hup
            have Hup := Lib.hid hup
            clear hup hq
            go_wp2_with (at_builtin; refine wpList_append_int rfl (.tmp 32) (.tmp 34) 22 rfl (w.heap.size + 1) 2 i0 Tryd.underlying22 hi0 hz0 hz1 hz2 _ _ u rfl How.out (k : Int) rfl (by omega) (by omega) ?_; intro v3 w3 own3 b3 z3; obtain ⟨A3, c3, rfl⟩ := own_val own3; have O3 := Lib.hid own3; have B3 := Lib.hid b3; clear own3 b3)
            have hlu : (u ++ [(k : Int)]).length = u.length + 1 := by rw [List.length_append]; rfl
            have Hlu := Lib.hid hlu
            clear hlu
            go_roundg (K6 - (k + 1))
            case rel => exact ⟨k + 1, c3, A3, by omega, by go_num, ⟨hl, bk_below Hb.out B3.out (Nat.lt_succ_self _), Hw.out.trans (B3.out.mono (by omega))⟩, by rw [Hup.out, Hlu.out], by rw [Hup.out, Hlu.out]; exact O3.out⟩
            all_goals omega
        · have hd6 : decide ((k : Int) < 6) = false := decide_eq_false (by omega)
          have hk6 : k = K6 := by omega
          have Hk6 := Lib.hid hk6
          clear hk6
          generalize hu : upK M k = u at *
          have Hu := Lib.hid hu
          have HB := Lib.hid hw
          clear hu hw hb how
          go_wp2_with fail
          go_ret2
          rw [← Hk6.out, Hu.out]
          exact ⟨A, c, rfl, own_lower How.out (by omega), HB.out⟩
theorem ways_sound {M : List (Option (List Int))} {w : World} {base g : Nat} {v0 v1 v2 v3 v4 v5 : Value} (h : RowsM w base #[v0, v1, v2, v3, v4, v5] M g) : ∀ i (u : Value), i < 6 → #[v0, v1, v2, v3, v4, v5][i]? = some u → ∃ A n c, u = .slice A n c ∧ A.isNone = !(M.getD i none).isSome := fun i u hi hu => by
  rcases h i hi with ⟨h1, h2⟩ | ⟨l, A, c, h1, h2, _⟩
  · exact ⟨none, 0, 0, Option.some.inj (hu.symm.trans h2), by rw [h1]; rfl⟩
  · exact ⟨some A, l.length, c, Option.some.inj (hu.symm.trans h2), by rw [h1]; rfl⟩
theorem index6 (v0 v1 v2 v3 v4 v5 v : Value) (k : Nat) (hk : k < 6) (hv : #[v0, v1, v2, v3, v4, v5][k]? = some v) (w : World) : (Instr.index 56 (.agg #[v0, v1, v2, v3, v4, v5]) (.int .i64 (k : Int))).run Tryd.prog w = .ok v w := by
  have : k = 0 ∨ k = 1 ∨ k = 2 ∨ k = 3 ∨ k = 4 ∨ k = 5 := by omega
  rcases this with rfl | rfl | rfl | rfl | rfl | rfl <;> (cases hv; show _ = _; kernel_rfl)
def reachP (m r : Int) (b : Bool) : List Int := if inB m 0 5 && inB r 0 3 then upK (fun i => ((waysW m r b 6).1.getD i none).isSome) 6 else []
set_option maxHeartbeats 1000000 in
theorem reach_impl (m r : Int) (b : Bool) (w : World) (B : Nat) (hT : Rd w B (some ⟨0, 0, none⟩) tabL) (hB : B ≤ w.heap.size) :
   Calls Tryd.prog 9 #[.int .i64 m, .int .i64 r, .bool b] w fun e w' => ∃ A' c', e = .returned (.tuple #[.slice A' (reachP m r b).length c', .int .i64 (reachC m r)]) ∧ w'.ownsRow w.heap.size 2 1 (.slice A' (reachP m r b).length c') (reachP m r b).length (ints (reachP m r b)) ∧ Below w.heap.size w w' := by
  cases hm : inB m 0 5 with
  | false =>
    have e1 : reachP m r b = [] := by unfold reachP; rw [hm]; rfl
    have e2 : reachC m r = 2 := by unfold reachC; rw [hm]; rfl
    rw [e1, e2]
    have HM := Lib.hid (isMode_r m false hm)
    clear hm e1 e2
    go_enter Tryd.func9, Tryd.ntmps9
    go_wp2_with (go_at_call 37; refine (HM.out _).mono ?_; rintro e w' ⟨rfl, rfl⟩)
    go_ret2
    exact ⟨none, 0, rfl, World.ownsRow_nil _ _ _ _, Below.refl _ _⟩
  | true =>
    cases hr : inB r 0 3 with
    | false =>
      have e1 : reachP m r b = [] := by unfold reachP; rw [hm, hr]; rfl
      have e2 : reachC m r = 2 := by unfold reachC; rw [hm, hr]; rfl
      rw [e1, e2]
      have HM := Lib.hid (isMode_r m true hm)
      have HR := Lib.hid (isRole_r r false hr)
      clear hm hr e1 e2
      go_enter Tryd.func9, Tryd.ntmps9
      go_wp2_with (first | (go_at_call 37; refine (HM.out _).mono ?_; rintro e w' ⟨rfl, rfl⟩) | (go_at_call 38; refine (HR.out _).mono ?_; rintro e w' ⟨rfl, rfl⟩))
      go_ret2
      exact ⟨none, 0, rfl, World.ownsRow_nil _ _ _ _, Below.refl _ _⟩
    | true =>
      obtain ⟨f, rfl⟩ : ∃ f : Nat, m = (f : Int) := ⟨m.toNat, by unfold inB at hm; simp at hm; omega⟩
      have hf : f < 6 := by unfold inB at hm; simp at hm; omega
      have hrr : 0 ≤ r ∧ r ≤ 3 := by unfold inB at hr; simp at hr; omega
      have HS0 := ways_any f r b hf hrr w B hT hB
      obtain ⟨K6, hK6⟩ : ∃ k : Nat, k = 6 := ⟨6, rfl⟩
      rw [← hK6] at HS0
      obtain ⟨WW, hWW⟩ : ∃ s, s = (waysW (f : Int) r b K6).1 := ⟨_, rfl⟩
      rw [← hWW] at HS0
      have HS := Lib.hid HS0
      clear HS0
      obtain ⟨M, hM⟩ : ∃ M : Nat → Bool, M = fun i => (WW.getD i none).isSome := ⟨_, rfl⟩
      have e1 : reachP f r b = upK M K6 := by unfold reachP; rw [hm, hr, hM, hWW, hK6]; exact if_pos rfl
      have e2 : reachC f r = 0 := by unfold reachC; rw [hm, hr]; rfl
      have hMl := upK_len M
      rw [e1, e2]
      have HM := Lib.hid (isMode_r f true hm)
      have HR := Lib.hid (isRole_r r true hr)
      have hM0 : ∀ i, M i = (WW.getD i none).isSome := fun i => by rw [hM]
      have HM0 := Lib.hid hM0
      clear hm hr e1 e2 hM hWW hM0 hT hB hrr
      obtain ⟨i0, hi0, hz0, hz1, hz2⟩ := info_parts infoInt64
      go_enter Tryd.func9, Tryd.ntmps9
      go_wp2_with (first | (go_at_call 37; refine (HM.out _).mono ?_; rintro e w' ⟨rfl, rfl⟩) | (go_at_call 38; refine (HR.out _).mono ?_; rintro e w' ⟨rfl, rfl⟩) | (go_at_call 39; refine HS.out.mono ?_; rintro e w1 ⟨cs, g, hcs, rfl, hrm, hb1⟩; obtain ⟨v0, v1, v2, v3, v4, v5, rfl⟩ := arr6 (hcs.trans hK6); have Hv := Lib.hid (ways_sound hrm); have Hb1 := Lib.hid hb1; clear hrm hcs hb1))
      have START : Hid (w1.ownsRow w.heap.size 2 1 (.slice none 0 0) (upK M 0).length (ints (upK M 0))) := Lib.hid (World.ownsRow_nil _ _ _ _)
      have hzw1 := Hb1.out.size
      generalize hws : w1 = ws at *
      clear hws w1
      go_loopg [8, 23] K6 (fun gk v i wr => ∃ k c A, k + gk = K6 ∧ i = .int .i64 (k : Nat) ∧ Below w.heap.size w wr ∧ v = .slice A (upK M k).length c ∧ wr.ownsRow w.heap.size 2 1 (.slice A (upK M k).length c) (upK M k).length (ints (upK M k)))
      case atStart => exact ⟨0, 0, none, by omega, rfl, Hb1.out, rfl, START.out⟩
      case round =>
        clear START
        obtain ⟨k, c, A, hk, rfl, hbw, rfl, how⟩ := hrel
        have How := Lib.hid how
        have Hw := Lib.hid hbw
        have hbz := hbw.size
        have hkl := upK_len M k
        by_cases hlt : k < 6
        · have hd6 : decide ((k : Int) < 6) = true := decide_eq_true (by omega)
          have hki : (k : Int) < 6 := by omega
          obtain ⟨v, hv⟩ : ∃ v, #[v0, v1, v2, v3, v4, v5][k]? = some v := ⟨_, Array.getElem?_eq_getElem (by simpa using hlt)⟩
          obtain ⟨a, n, cc, rfl, hn⟩ := Hv.out k v hlt hv
          rw [← HM0.out k] at hn
          have hup : upK M (k + 1) = if M k then upK M k ++ [(k : Int)] else upK M k := rfl
          generalize hu : upK M k = u at *
          clear hbw how hu
          have hnn := fun W => run_neq_slice_nil_any (P := Tryd.prog) W 22 2 a n cc 0 0 Tryd.underlying22
          have hix := index6 v0 v1 v2 v3 v4 v5 _ k hlt hv
          have Hn := Lib.hid hn
          have HV := Lib.hid hv
          clear hn hv
          cases hq : M k with
          | false =>
            rw [hq, if_neg (by simp)] at hup
            have ha : a.isNone = true := by rw [Hn.out, hq]; rfl
            have Hup := Lib.hid hup
            clear hup hq
            go_wp2_with fail
            go_roundg (K6 - (k + 1))
            case rel => exact ⟨k + 1, c, A, by omega, by go_num, Hw.out, by rw [Hup.out], by rw [Hup.out]; exact How.out⟩
            all_goals omega
          | true =>
            rw [hq, if_pos rfl] at hup
            have ha : a.isNone = false := by rw [Hn.out, hq]; rfl
            have Hup := Lib.hid hup
            clear hup hq
            go_wp2_with (at_builtin; refine wpList_append_int rfl (.tmp 29) (.tmp 31) 22 rfl w.heap.size 2 i0 Tryd.underlying22 hi0 hz0 hz1 hz2 _ _ u rfl How.out (k : Int) rfl (by omega) (by omega) ?_; intro v3 w3 own3 b3 z3; obtain ⟨A3, c3, rfl⟩ := own_val own3; have O3 := Lib.hid own3; have B3 := Lib.hid b3; clear own3 b3)
            have hlu : (u ++ [(k : Int)]).length = u.length + 1 := by rw [List.length_append]; rfl
            have Hlu := Lib.hid hlu
            clear hlu
            go_roundg (K6 - (k + 1))
            case rel => exact ⟨k + 1, c3, A3, by omega, by go_num, Hw.out.trans B3.out, by rw [Hup.out, Hlu.out], by rw [Hup.out, Hlu.out]; exact O3.out⟩
            all_goals omega
        · have hd6 : decide ((k : Int) < 6) = false := decide_eq_false (by omega)
          have hk6 : k = K6 := by omega
          have Hk6 := Lib.hid hk6
          clear hk6
          generalize hu : upK M k = u at *
          have Hu := Lib.hid hu
          clear hu hbw how
          go_wp2_with fail
          go_ret2
          rw [← Hk6.out, Hu.out]
          exact ⟨A, c, rfl, How.out, Hw.out⟩
theorem reach_eq : ∀ f : Fin 6, ∀ r : Fin 4, ∀ b : Bool, upK (fun i => ((waysW (f.val : Int) (r.val : Int) b 6).1.getD i none).isSome) 6 = upK (fun i => (seenR (f.val : Int) (r.val : Int) b 5).getD i false) 6 := by decide +kernel
theorem reachP_eq (m r : Int) (b : Bool) : reachP m r b = reachL m r b := by
  unfold reachP reachL
  by_cases h : (inB m 0 5 && inB r 0 3) = true
  · rw [if_pos h, if_pos h]
    unfold inB at h
    simp only [Bool.and_eq_true, decide_eq_true_eq] at h
    have := reach_eq ⟨m.toNat, by omega⟩ ⟨r.toNat, by omega⟩ b
    rw [show (((⟨m.toNat, by omega⟩ : Fin 6).val : Nat) : Int) = m by simp; omega, show (((⟨r.toNat, by omega⟩ : Fin 4).val : Nat) : Int) = r by simp; omega] at this
    exact this
  · rw [if_neg h, if_neg h]
theorem reachL_len (m r : Int) (b : Bool) : (reachL m r b).length ≤ 1048576 := by
  unfold reachL
  split
  · exact Nat.le_trans (upK_len _ 6) (by decide)
  · simp
theorem reach_impl_l (m r : Int) (b : Bool) (w : World) (B : Nat) (hT : Rd w B (some ⟨0, 0, none⟩) tabL) (hB : B ≤ w.heap.size) :
   Calls Tryd.prog 9 #[.int .i64 m, .int .i64 r, .bool b] w fun e w' => ∃ A' c', e = .returned (.tuple #[.slice A' (reachL m r b).length c', .int .i64 (reachC m r)]) ∧ w'.ownsRow w.heap.size 2 1 (.slice A' (reachL m r b).length c') (reachL m r b).length (ints (reachL m r b)) ∧ Below w.heap.size w w' := reachP_eq m r b ▸ reach_impl m r b w B hT hB
end Go.Proofs.YtakchdkoildkbaaDoor
