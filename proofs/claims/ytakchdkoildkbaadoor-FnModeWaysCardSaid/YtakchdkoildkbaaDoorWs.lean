/- The fewest commands: the walks of both sides. -/
import Derived.Test.YtakchdkoildkbaaDoorWr
namespace Go.Proofs.YtakchdkoildkbaaDoor
open Go.ChangeShapes Go.WideShapes Go.ChangeAt Go.RowKit
set_option maxRecDepth 20000
set_option linter.unusedVariables false
set_option linter.unusedSimpArgs false
theorem first_some {F : Nat → Option (List Int)} {k N : Nat} {x : List Int} (h : ∀ j, j < k → F j = none) (hk : k < N) (hx : F k = some x) : (List.range N).findSome? F = some x := by
  have e : List.range N = List.range k ++ (k :: (List.range (N - k - 1)).map (fun i => k + 1 + i)) := by
    apply List.ext_getElem?
    intro i
    rw [List.getElem?_append]
    by_cases hi : i < k
    · rw [if_pos (by simpa using hi), List.getElem?_range (by omega), List.getElem?_range hi]
    · rw [if_neg (by simpa using hi), List.length_range]
      by_cases hik : i = k
      · subst hik; rw [List.getElem?_range (by omega), Nat.sub_self]; rfl
      · obtain ⟨d, hd⟩ : ∃ d, i - k = d + 1 := ⟨i - k - 1, by omega⟩
        rw [hd, List.getElem?_cons_succ, List.getElem?_map]
        by_cases hiN : i < N
        · rw [List.getElem?_range hiN, List.getElem?_range (by omega)]; simp; omega
        · rw [List.getElem?_eq_none (by simp; omega), List.getElem?_eq_none (by simp; omega)]; rfl
  rw [e, List.findSome?_append]
  rw [show (List.range k).findSome? F = none from List.findSome?_eq_none_iff.2 (fun j hj => h j (by simpa using hj))]
  simp [hx]
theorem first_none {F : Nat → Option (List Int)} {N : Nat} (h : ∀ j, j < N → F j = none) : (List.range N).findSome? F = none := List.findSome?_eq_none_iff.2 (fun j hj => h j (by simpa using hj))
/-- the reference's search -/
def searchS (r : Int) (b : Bool) (t : Int) : Nat → Int → Option (List Int)
  | 0, f => if f = t then some [] else none
  | n + 1, f => (List.range 10).findSome? fun k => if verd k f r b = 0 then (searchS r b t n (toK k)).map fun l => (k : Int) :: l else none
theorem searchS_len {r : Int} {b : Bool} {t : Int} : ∀ (n : Nat) (f : Int) (l : List Int), searchS r b t n f = some l → l.length = n
  | 0, f, l, h => by
    rw [searchS] at h
    split at h
    · cases h; rfl
    · cases h
  | n + 1, f, l, h => by
    rw [searchS] at h
    obtain ⟨k, hk, h⟩ := List.exists_of_findSome?_eq_some h
    split at h
    · cases hs : searchS r b t n (toK k) with
      | none => rw [hs] at h; cases h
      | some l' =>
        rw [hs] at h
        cases h
        rw [List.length_cons, searchS_len n _ _ hs]
    · cases h
/-- what the search returns -/
def SeaP (w0 : World) (S : Option (List Int)) (e : Ending) (w' : World) : Prop :=
  ∃ A c L, e = .returned (.tuple #[.slice A (L : List Int).length c, .bool S.isSome]) ∧ (∀ l, S = some l → L = l ∧ w'.ownsRow w0.heap.size 2 1 (.slice A L.length c) L.length (ints L)) ∧ Below w0.heap.size w0 w'
theorem l27To_r (k : Nat) (hk : k < 10) (t : Int) (ht : toK k = t) (w : World) : Calls Tryd.prog 63 #[.int .i64 k] w fun e w' => e = .returned (.int .i64 t) ∧ Below w.heap.size w w' := ht ▸ l27To_any k hk w
set_option maxHeartbeats 1000000 in
theorem search_any (r : Int) (b : Bool) (t : Int) : ∀ (n : Nat), n ≤ 5 → ∀ (f : Int) (w : World),
   Calls Tryd.prog 54 #[.int .i64 f, .int .i64 t, .int .i64 r, .bool b, .int .i64 n] w (SeaP w (searchS r b t n f))
  | 0, _, f, w => by
    have e1 : searchS r b t 0 f = if f = t then some [] else none := rfl
    have E1 := Lib.hid e1
    clear e1
    generalize searchS r b t 0 f = S at *
    go_enter Tryd.func54, Tryd.ntmps54
    go_wp2_with fail
    go_ret2
    refine ⟨some ⟨w.heap.size, 0, none⟩, 0, [], ?_, ?_, ?_⟩
    · rw [E1.out]
      by_cases h : f = t <;> simp [h]
    · intro l hl
      rw [E1.out] at hl
      split at hl
      · cases hl; exact ⟨rfl, by simpa [ints] using World.ownsRow_made (base := w.heap.size) (e := 2) (size := 1) w #[] 0 (Nat.le_refl _) (by simp [maxLen]) rfl⟩
      · cases hl
    · exact (Below.refl _ _).alloc (Nat.le_refl _) _
  | n + 1, hn, f, w => by
    have IH := Lib.hid (search_any r b t n (by omega))
    obtain ⟨F, hF⟩ : ∃ F : Nat → Option (List Int), F = fun k => if verd k f r b = 0 then (searchS r b t n (toK k)).map fun l => (k : Int) :: l else none := ⟨_, rfl⟩
    have e1 : searchS r b t (n + 1) f = (List.range 10).findSome? F := by rw [hF]; rfl
    have E1 := Lib.hid e1
    have HF := Lib.hid hF
    clear e1 hF
    generalize searchS r b t (n + 1) f = S at *
    obtain ⟨N1, hN1⟩ : ∃ N1 : Nat, N1 = n + 1 := ⟨_, rfl⟩
    rw [← hN1]
    have hn0 : ((N1 : Int) == 0) = false := by rw [beq_eq_false_iff_ne]; omega
    have hn0' : decide ((N1 : Int) = 0) = false := decide_eq_false (by omega)
    have hn0'' : ¬ N1 = 0 := by omega
    have hn1 : IntKind.i64.wrap ((N1 : Int) - 1) = (n : Int) := by
      rw [show (N1 : Int) - 1 = (n : Int) by omega]
      rcases (show n = 0 ∨ n = 1 ∨ n = 2 ∨ n = 3 ∨ n = 4 by omega) with rfl | rfl | rfl | rfl | rfl <;> rfl
    clear hN1
    obtain ⟨i0, hi0, hz0, hz1, hz2⟩ := info_parts infoInt64
    go_enter Tryd.func54, Tryd.ntmps54
    go_wp2_with fail
    go_loopg [12] 10 (fun gk i wr => ∃ k : Nat, k + gk = 10 ∧ i = .int .i64 k ∧ (∀ j, j < k → F j = none) ∧ Below w.heap.size w wr)
    case atStart => exact ⟨0, rfl, rfl, fun j hj => by omega, Below.refl _ _⟩
    case round =>
      obtain ⟨k, hk, rfl, hall, hbw⟩ := hrel
      have Hall := Lib.hid hall
      have Hbw := Lib.hid hbw
      have hbz := hbw.size
      clear hall hbw
      by_cases hk10 : k < 10
      · have hd : decide ((k : Int) < 10) = true := decide_eq_true (by omega)
        obtain ⟨v, hv⟩ : ∃ v, verd k f r b = v := ⟨_, rfl⟩
        obtain ⟨t2, ht2⟩ : ∃ v, toK k = v := ⟨_, rfl⟩
        have hFk : F k = if v = 0 then (searchS r b t n t2).map fun l => (k : Int) :: l else none := by rw [HF.out, ← hv, ← ht2]
        have HV := Lib.hid (verdict_spec_r k hk10 f r b v hv)
        have HT := Lib.hid (l27To_r k hk10 t2 ht2)
        have HFk := Lib.hid hFk
        clear hv ht2 hFk
        by_cases hv0 : v = 0
        · have hvn : (v == 0) = true := by rw [hv0]; rfl
          have hvn2 : (v != 0) = false := by rw [hv0]; rfl
          subst hv0
          have hlS := searchS_len (r := r) (b := b) (t := t) n t2
          cases hS3 : searchS r b t n t2 with
          | none =>
            have IH2 := Lib.hid (fun w => hS3 ▸ IH.out t2 w)
            clear hlS
            go_wp2_with (first
              | (go_at_call 46; refine (HV.out _).mono ?_; rintro e w1 ⟨rfl, b1⟩; have B1 := Lib.hid b1; have z1 := b1.size; clear b1)
              | (go_at_call 63; refine (HT.out _).mono ?_; rintro e w2 ⟨rfl, b2⟩; have B2 := Lib.hid b2; have z2 := b2.size; clear b2)
              | (go_at_call 54; refine (IH2.out _).mono ?_; rintro e w3 ⟨A3, c3, L3, rfl, _, b3⟩; have B3 := Lib.hid b3; have z3 := b3.size; clear b3))
            rw [World.size_alloc] at z1
            go_roundg (10 - (k + 1))
            case rel => exact ⟨k + 1, by omega, by go_num, fun j hj => by
              rcases Nat.lt_succ_iff_lt_or_eq.1 hj with h | rfl
              · exact Hall.out j h
              · rw [HFk.out, if_pos trivial, hS3]; rfl, (((Hbw.out.alloc hbz _).trans (B1.out.mono (by simp; omega))).trans (B2.out.mono (by omega))).trans (B3.out.mono (by omega))⟩
            all_goals omega
          | some l2 =>
            have hl2 : l2.length ≤ 5 := by rw [hlS l2 hS3]; omega
            have IH2 := Lib.hid (fun w => hS3 ▸ IH.out t2 w)
            have HS3 := Lib.hid hS3
            clear hlS hS3
            go_wp2_with (first
              | (go_at_call 46; refine (HV.out _).mono ?_; rintro e w1 ⟨rfl, b1⟩; have B1 := Lib.hid b1; have z1 := b1.size; clear b1)
              | (go_at_call 63; refine (HT.out _).mono ?_; rintro e w2 ⟨rfl, b2⟩; have B2 := Lib.hid b2; have z2 := b2.size; clear b2)
              | (go_at_call 54; refine (IH2.out _).mono ?_; rintro e w3 ⟨A3, c3, L3, rfl, hs3, b3⟩; obtain ⟨rfl, own3⟩ := hs3 l2 rfl; have O3 := Lib.hid own3; have B3 := Lib.hid b3; have z3 := b3.size; clear hs3 b3 own3; rw [World.size_alloc] at z1)
              | (at_builtin; go_loud (refine wpList_append_rd rfl (.tmp 47) (.tmp 48) 22 rfl w.heap.size 2 i0 _ 1 8 Tryd.underlying22 hi0 hz0 hz1 hz2 rfl (by decide) _ 1 [.int .i64 (k : Int)] rfl (World.ownsRow_lit w3 #[.int .i64 (k : Int)] 1 (by omega) (by simp [maxLen]) rfl) w3.heap.size A3 L3.length c3 (ints L3) rfl (by rw [ints_length, Nat.mul_one]) ((Rd.of_own O3.out).alloc (Nat.le_refl _) _) (ints_one L3) (by unfold maxLen; omega) (by omega) (by simp; omega) ?_); intro v4 w4 own4 b4 z4; obtain ⟨A4, c4, rfl⟩ := own_val own4; have O4 := Lib.hid own4; have B4 := Lib.hid b4; clear own4 b4))
            go_ret2
            have hb3 := (((Hbw.out.alloc hbz _).trans (B1.out.mono (by simp; omega))).trans (B2.out.mono (by omega))).trans (B3.out.mono (by omega))
            have hSS : S = some ((k : Int) :: L3) := by rw [E1.out]; exact first_some (fun j hj => Hall.out j hj) hk10 (by rw [HFk.out, if_pos trivial, HS3.out]; rfl)
            rw [hSS]
            have hl1 : ((k : Int) :: L3).length = 1 + L3.length := by rw [List.length_cons, Nat.add_comm]
            refine ⟨A4, c4, (k : Int) :: L3, by rw [hl1]; rfl, fun l hl => ?_, (hb3.alloc (by omega) _).trans B4.out⟩
            cases hl
            refine ⟨rfl, ?_⟩
            rw [hl1]
            exact O4.out
        · have hvn : (v == 0) = false := by rw [beq_eq_false_iff_ne]; exact hv0
          have hvn2 : (v != 0) = true := by rw [bne_iff_ne]; exact hv0
          go_wp2_with (go_at_call 46; refine (HV.out _).mono ?_; rintro e w1 ⟨rfl, b1⟩; have B1 := Lib.hid b1; clear b1)
          go_roundg (10 - (k + 1))
          case rel => exact ⟨k + 1, by omega, by go_num, fun j hj => by
            rcases Nat.lt_succ_iff_lt_or_eq.1 hj with h | rfl
            · exact Hall.out j h
            · rw [HFk.out, if_neg hv0], (Hbw.out.alloc hbz _).trans (B1.out.mono (by simp; omega))⟩
          all_goals omega
      · have hd : decide ((k : Int) < 10) = false := decide_eq_false (by omega)
        have hk1 : k = 10 := by omega
        clear hk
        go_wp2_with fail
        go_ret2
        refine ⟨none, 0, [], ?_, ?_, Hbw.out⟩
        · rw [E1.out, first_none (fun j hj => Hall.out j (by omega))]; rfl
        · intro l hl
          rw [E1.out, first_none (fun j hj => Hall.out j (by omega))] at hl
          cases hl
/-- the fewest commands of the reference -/
def leastS (f t r : Int) (b : Bool) : Option (List Int) := (List.range 6).findSome? fun n => searchS r b t n f
def okW (f t r : Int) : Bool := inB f 0 5 && inB t 0 5 && inB r 0 3
def lcS (S : Option (List Int)) : Int := if S.isSome then 0 else 4
def lcC (f t r : Int) (b : Bool) : Int := if okW f t r then lcS (leastS f t r b) else 2
def lcL (f t r : Int) (b : Bool) : List Int := if okW f t r then (leastS f t r b).getD [] else []
theorem leastS_len {f t r : Int} {b : Bool} {l : List Int} (h : leastS f t r b = some l) : l.length ≤ 5 := by
  obtain ⟨n, hn, h⟩ := List.exists_of_findSome?_eq_some h
  rw [searchS_len _ _ _ h]
  have := List.mem_range.1 hn
  omega
theorem lcL_len (f t r : Int) (b : Bool) : (lcL f t r b).length ≤ 5 := by
  unfold lcL
  split
  · cases h : leastS f t r b with
    | none => simp
    | some l => exact leastS_len h
  · simp
/-- what LeastCommands returns -/
def LcP (w0 : World) (L : List Int) (C : Int) (e : Ending) (w' : World) : Prop :=
  ∃ A' c', e = .returned (.tuple #[.slice A' L.length c', .int .i64 C]) ∧ w'.ownsRow w0.heap.size 2 1 (.slice A' L.length c') L.length (ints L) ∧ Below w0.heap.size w0 w'
set_option maxHeartbeats 1000000 in
theorem least_spec (f t r : Int) (b : Bool) (w : World) :
   Calls Tryd.prog 31 #[.int .i64 f, .int .i64 t, .int .i64 r, .bool b] w (LcP w (lcL f t r b) (lcC f t r b)) := by
  obtain ⟨q1, hq1⟩ : ∃ q, inB f 0 5 = q := ⟨_, rfl⟩
  obtain ⟨q2, hq2⟩ : ∃ q, inB t 0 5 = q := ⟨_, rfl⟩
  obtain ⟨q3, hq3⟩ : ∃ q, inB r 0 3 = q := ⟨_, rfl⟩
  have H1 := Lib.hid (l27Mode_r f q1 hq1)
  have H2 := Lib.hid (l27Mode_r t q2 hq2)
  have H3 := Lib.hid (l27Role_r r q3 hq3)
  have hok : okW f t r = (q1 && q2 && q3) := by unfold okW; rw [hq1, hq2, hq3]
  by_cases hq : (q1 && q2 && q3) = true
  · rw [hq] at hok
    simp only [Bool.and_eq_true] at hq
    obtain ⟨⟨rfl, rfl⟩, rfl⟩ := hq
    have e1 : lcL f t r b = (leastS f t r b).getD [] := by unfold lcL; rw [hok]; exact if_pos rfl
    have e2 : lcC f t r b = lcS (leastS f t r b) := by unfold lcC; rw [hok]; exact if_pos rfl
    obtain ⟨F, hF⟩ : ∃ F : Nat → Option (List Int), F = fun n => searchS r b t n f := ⟨_, rfl⟩
    have e3 : leastS f t r b = (List.range 6).findSome? F := by rw [hF]; rfl
    have HF := Lib.hid (fun n => (by rw [hF] : F n = searchS r b t n f))
    rw [e1, e2]
    have E3 := Lib.hid e3
    clear e1 e2 e3 hF hok hq1 hq2 hq3
    generalize leastS f t r b = S at *
    go_enter Tryd.func31, Tryd.ntmps31
    go_wp2_with (first | (go_at_call 34; first | (refine (H1.out _).mono ?_; rintro e w' ⟨rfl, rfl⟩) | (refine (H2.out _).mono ?_; rintro e w' ⟨rfl, rfl⟩)) | (go_at_call 35; refine (H3.out _).mono ?_; rintro e w' ⟨rfl, rfl⟩))
    all_goals
      go_loopg [10] 6 (fun gk i wr => ∃ k : Nat, k + gk = 6 ∧ i = .int .i64 k ∧ (∀ j, j < k → F j = none) ∧ Below w.heap.size w wr)
      case atStart => exact ⟨0, rfl, rfl, fun j hj => by omega, Below.refl _ _⟩
      case round =>
        obtain ⟨k, hk, rfl, hall, hbw⟩ := hrel
        have Hall := Lib.hid hall
        have Hbw := Lib.hid hbw
        have hbz := hbw.size
        clear hall hbw
        by_cases hk6 : k < 6
        · have hd : decide ((k : Int) < 6) = true := decide_eq_true (by omega)
          have HS := search_any r b t k (by omega) f wr
          rw [← HF.out k] at HS
          cases hS : F k with
          | none =>
            rw [hS] at HS
            have HS2 := Lib.hid HS
            have HFk := Lib.hid hS
            clear HS hS
            go_wp2_with (go_at_call 54; refine HS2.out.mono ?_; rintro e w3 ⟨A3, c3, L3, rfl, _, b3⟩; have B3 := Lib.hid b3; have z3 := b3.size; clear b3)
            go_roundg (6 - (k + 1))
            case rel => exact ⟨k + 1, by omega, by go_num, fun j hj => by
              rcases Nat.lt_succ_iff_lt_or_eq.1 hj with h | rfl
              · exact Hall.out j h
              · exact HFk.out, Hbw.out.trans (B3.out.mono (by omega))⟩
            all_goals omega
          | some l2 =>
            rw [hS] at HS
            have HS2 := Lib.hid HS
            have HFk := Lib.hid hS
            clear HS hS
            go_wp2_with (go_at_call 54; refine HS2.out.mono ?_; rintro e w3 ⟨A3, c3, L3, rfl, hs3, b3⟩; obtain ⟨rfl, own3⟩ := hs3 l2 rfl; have O3 := Lib.hid own3; have B3 := Lib.hid b3; have z3 := b3.size; clear hs3 b3 own3)
            go_ret2
            have hSS : S = some L3 := by rw [E3.out]; exact first_some (fun j hj => Hall.out j hj) hk6 HFk.out
            rw [hSS]
            show LcP w L3 0 _ _
            exact ⟨A3, c3, rfl, own_lower O3.out (by omega), Hbw.out.trans (B3.out.mono (by omega))⟩
        · have hd : decide ((k : Int) < 6) = false := decide_eq_false (by omega)
          have hk1 : k = 6 := by omega
          clear hk
          go_wp2_with fail
          go_ret2
          have hSS : S = none := by rw [E3.out]; exact first_none (fun j hj => Hall.out j (by omega))
          rw [hSS]
          show LcP w [] 4 _ _
          exact ⟨none, 0, rfl, World.ownsRow_nil _ _ _ _, Hbw.out⟩
  · have hqf : (q1 && q2 && q3) = false := by simpa using hq
    rw [hqf] at hok
    have e1 : lcL f t r b = [] := by unfold lcL; rw [hok]; rfl
    have e2 : lcC f t r b = 2 := by unfold lcC; rw [hok]; rfl
    rw [e1, e2]
    clear e1 e2 hok hq hq1 hq2 hq3
    have H4 : q1 = false ∨ (q1 = true ∧ q2 = false) ∨ (q1 = true ∧ q2 = true ∧ q3 = false) := by
      cases q1 <;> cases q2 <;> cases q3 <;> simp_all
    rcases H4 with rfl | ⟨rfl, rfl⟩ | ⟨rfl, rfl, rfl⟩
    all_goals (
      go_enter Tryd.func31, Tryd.ntmps31
      go_wp2_with (first | (go_at_call 34; first | (refine (H1.out _).mono ?_; rintro e w' ⟨rfl, rfl⟩) | (refine (H2.out _).mono ?_; rintro e w' ⟨rfl, rfl⟩)) | (go_at_call 35; refine (H3.out _).mono ?_; rintro e w' ⟨rfl, rfl⟩))
      go_ret2
      exact ⟨none, 0, rfl, World.ownsRow_nil _ _ _ _, Below.refl _ _⟩)
theorem ways_some {M : List (Option (List Int))} {w : World} {base g : Nat} {cs : Array Value} (h : RowsM w base cs M g) (t : Nat) (ht : t < 6) {l : List Int} (hl : M.getD t none = some l) : ∃ A c, cs[t]? = some (.slice (some A) l.length c) ∧ w.ownsRow base 2 1 (.slice (some A) l.length c) l.length (ints l) := by
  rcases h t ht with ⟨h0, _⟩ | ⟨l', A, c, h0, hv, hown, _⟩
  · rw [hl] at h0; cases h0
  · rw [hl] at h0; cases h0; exact ⟨A, c, hv, hown⟩
theorem least_eq : ∀ f : Fin 6, ∀ t : Fin 6, ∀ r : Fin 4, ∀ b : Bool, (waysW (f.val : Int) (r.val : Int) b 6).1.getD t.val none = leastS (f.val : Int) (t.val : Int) (r.val : Int) b := by decide +kernel
set_option maxHeartbeats 1000000 in
theorem least_impl (f t r : Int) (b : Bool) (w : World) (B : Nat) (hT : Rd w B (some ⟨0, 0, none⟩) tabL) (hB : B ≤ w.heap.size) :
   Calls Tryd.prog 30 #[.int .i64 f, .int .i64 t, .int .i64 r, .bool b] w (LcP w (lcL f t r b) (lcC f t r b)) := by
  obtain ⟨q1, hq1⟩ : ∃ q, inB f 0 5 = q := ⟨_, rfl⟩
  obtain ⟨q2, hq2⟩ : ∃ q, inB t 0 5 = q := ⟨_, rfl⟩
  obtain ⟨q3, hq3⟩ : ∃ q, inB r 0 3 = q := ⟨_, rfl⟩
  have H1 := Lib.hid (isMode_r f q1 hq1)
  have H2 := Lib.hid (isMode_r t q2 hq2)
  have H3 := Lib.hid (isRole_r r q3 hq3)
  have hok : okW f t r = (q1 && q2 && q3) := by unfold okW; rw [hq1, hq2, hq3]
  by_cases hq : (q1 && q2 && q3) = true
  · rw [hq] at hok
    simp only [Bool.and_eq_true] at hq
    obtain ⟨⟨rfl, rfl⟩, rfl⟩ := hq
    have e1 : lcL f t r b = (leastS f t r b).getD [] := by unfold lcL; rw [hok]; exact if_pos rfl
    have e2 : lcC f t r b = lcS (leastS f t r b) := by unfold lcC; rw [hok]; exact if_pos rfl
    unfold inB at hq1 hq2 hq3
    simp only [Bool.and_eq_true, decide_eq_true_eq] at hq1 hq2 hq3
    obtain ⟨ff, rfl⟩ : ∃ n : Nat, f = (n : Int) := ⟨f.toNat, by omega⟩
    obtain ⟨tt, rfl⟩ : ∃ n : Nat, t = (n : Int) := ⟨t.toNat, by omega⟩
    have htt : tt < 6 := by omega
    have e3 := least_eq ⟨ff, by omega⟩ ⟨tt, by omega⟩ ⟨r.toNat, by omega⟩ b
    rw [show (((⟨r.toNat, by omega⟩ : Fin 4).val : Nat) : Int) = r by simp; omega] at e3
    have HW := Lib.hid (ways_any ff r b (by omega) hq3 w B hT hB)
    rw [e1, e2]
    have e4 : (waysW (ff : Int) r b 6).1.getD tt none = leastS (ff : Int) (tt : Int) r b := e3
    have E4 := Lib.hid e4
    have hlS := fun l => leastS_len (f := (ff : Int)) (t := (tt : Int)) (r := r) (b := b) (l := l)
    have HlS := Lib.hid hlS
    clear e1 e2 e3 e4 hok hq1 hq2 hq3 hT hlS
    generalize hS : leastS (ff : Int) (tt : Int) r b = S at *
    generalize (waysW (ff : Int) r b 6).1 = M at *
    clear hS
    have htI : (tt : Int) < 6 := by omega
    cases S with
    | none =>
      go_enter Tryd.func30, Tryd.ntmps30
      go_wp2_with (first | (go_at_call 37; first | (refine (H1.out _).mono ?_; rintro e w' ⟨rfl, rfl⟩) | (refine (H2.out _).mono ?_; rintro e w' ⟨rfl, rfl⟩)) | (go_at_call 38; refine (H3.out _).mono ?_; rintro e w' ⟨rfl, rfl⟩) | (go_at_call 39; refine HW.out.mono ?_; rintro e w1 ⟨cs, g, hcs, rfl, hrm, hb1⟩; obtain ⟨v0, v1, v2, v3, v4, v5, rfl⟩ := arr6 hcs; obtain ⟨v, hv⟩ : ∃ v, #[v0, v1, v2, v3, v4, v5][tt]? = some v := ⟨_, Array.getElem?_eq_getElem (by simpa using htt)⟩; obtain ⟨a, n, cc, rfl, hn⟩ := ways_sound hrm tt v htt hv; rw [E4.out] at hn; have hix := index6 v0 v1 v2 v3 v4 v5 _ tt htt hv; have Hb1 := Lib.hid hb1; have heq := fun W => Lib.run_eql_slice_nil (P := Tryd.prog) W 22 2 a n cc 0 0 Tryd.underlying22; have ha : a.isNone = true := hn; clear hrm hcs hb1 hn hv))
      go_ret2
      exact ⟨none, 0, rfl, World.ownsRow_nil _ _ _ _, Hb1.out⟩
    | some l =>
      go_enter Tryd.func30, Tryd.ntmps30
      go_wp2_with (first | (go_at_call 37; first | (refine (H1.out _).mono ?_; rintro e w' ⟨rfl, rfl⟩) | (refine (H2.out _).mono ?_; rintro e w' ⟨rfl, rfl⟩)) | (go_at_call 38; refine (H3.out _).mono ?_; rintro e w' ⟨rfl, rfl⟩) | (go_at_call 39; refine HW.out.mono ?_; rintro e w1 ⟨cs, g, hcs, rfl, hrm, hb1⟩; obtain ⟨v0, v1, v2, v3, v4, v5, rfl⟩ := arr6 hcs; obtain ⟨A, c, hv, hown⟩ := ways_some hrm tt htt E4.out; have hix := index6 v0 v1 v2 v3 v4 v5 _ tt htt hv; have Hb1 := Lib.hid hb1; have Ho := Lib.hid hown; have heq := fun W => Lib.run_eql_slice_nil (P := Tryd.prog) W 22 2 (some A) l.length c 0 0 Tryd.underlying22; clear hrm hcs hb1 hown hv))
      go_ret2
      exact ⟨some A, c, rfl, own_lower Ho.out (by omega), Hb1.out⟩
  · have hqf : (q1 && q2 && q3) = false := by simpa using hq
    rw [hqf] at hok
    have e1 : lcL f t r b = [] := by unfold lcL; rw [hok]; rfl
    have e2 : lcC f t r b = 2 := by unfold lcC; rw [hok]; rfl
    rw [e1, e2]
    clear e1 e2 hok hq hq1 hq2 hq3
    have H4 : q1 = false ∨ (q1 = true ∧ q2 = false) ∨ (q1 = true ∧ q2 = true ∧ q3 = false) := by
      cases q1 <;> cases q2 <;> cases q3 <;> simp_all
    rcases H4 with rfl | ⟨rfl, rfl⟩ | ⟨rfl, rfl, rfl⟩
    all_goals (
      go_enter Tryd.func30, Tryd.ntmps30
      go_wp2_with (first | (go_at_call 37; first | (refine (H1.out _).mono ?_; rintro e w' ⟨rfl, rfl⟩) | (refine (H2.out _).mono ?_; rintro e w' ⟨rfl, rfl⟩)) | (go_at_call 38; refine (H3.out _).mono ?_; rintro e w' ⟨rfl, rfl⟩))
      go_ret2
      exact ⟨none, 0, rfl, World.ownsRow_nil _ _ _ _, Below.refl _ _⟩)
end Go.Proofs.YtakchdkoildkbaaDoor
