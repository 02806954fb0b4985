/- The usual seating of the program and of the reference: walks. -/
import Derived.Test.YtdjbbjehgfkefaaGu
namespace Go.Proofs.Ytdjbbjehgfkefaa
open Go.ChangeShapes Go.WideShapes Go.ChangeAt Go.RowKit
set_option maxRecDepth 20000
set_option linter.unusedVariables false
set_option linter.unusedSimpArgs false
def seatOf (a b c : Int) (l : List Int) (k : Nat) (h : Int) : Int :=
  if verd a b c h == 1 then 2 * cntV a b c 1 (l.take k) else if (k : Int) - cntV a b c 1 (l.take k) < cntV a b c 1 l then 2 * ((k : Int) - cntV a b c 1 (l.take k)) + 1 else cntV a b c 1 l + ((k : Int) - cntV a b c 1 (l.take k))
def usUp (a b c : Int) (l : List Int) : Nat → List Int
  | 0 => []
  | k + 1 => usUp a b c l k ++ (match l[k]? with | some h => [seatOf a b c l k h] | none => [])
theorem usUp_step (a b c : Int) {l : List Int} {k : Nat} {h : Int} (hk : l[k]? = some h) : usUp a b c l (k + 1) = usUp a b c l k ++ [seatOf a b c l k h] := by simp [usUp, hk]
theorem usUp_length (a b c : Int) {l : List Int} : ∀ k, k ≤ l.length → (usUp a b c l k).length = k
  | 0, _ => rfl
  | k + 1, h => by rw [usUp_step a b c (List.getElem?_eq_getElem (by omega)), List.length_append, usUp_length a b c k (by omega)]; rfl
def usC (a b c : Int) (l : List Int) (n : Int) : Int := if hcode a b c l ≠ 0 then hcode a b c l else if inB n 1 12 = false then 2 else if rowC a b c l ≠ 0 then rowC a b c l else if n < rowN a b c l then 3 else 0
def usR (a b c : Int) (l : List Int) (n : Int) : List Int := if usC a b c l n = 0 then usUp a b c l l.length else []
theorem usR_len (a b c : Int) (l : List Int) (n : Int) (hn : l.length ≤ 1048576) : (usR a b c l n).length ≤ 1048576 := by
  unfold usR
  split
  · rw [usUp_length _ _ _ _ (Nat.le_refl _)]; exact hn
  · simp
theorem us_cases (a b c : Int) (l : List Int) (n : Int) :
    (∃ r : Int, r ≠ 0 ∧ hcode a b c l = r ∧ usC a b c l n = r ∧ usR a b c l n = []) ∨
    (hcode a b c l = 0 ∧ inB n 1 12 = false ∧ usC a b c l n = 2 ∧ usR a b c l n = []) ∨
    (∃ r : Int, r ≠ 0 ∧ hcode a b c l = 0 ∧ inB n 1 12 = true ∧ rowC a b c l = r ∧ usC a b c l n = r ∧ usR a b c l n = []) ∨
    (∃ q : Int, hcode a b c l = 0 ∧ inB n 1 12 = true ∧ rowC a b c l = 0 ∧ rowN a b c l = q ∧ n < q ∧ usC a b c l n = 3 ∧ usR a b c l n = []) ∨
    (∃ q : Int, hcode a b c l = 0 ∧ inB n 1 12 = true ∧ rowC a b c l = 0 ∧ rowN a b c l = q ∧ q ≤ n ∧ usC a b c l n = 0 ∧ usR a b c l n = usUp a b c l l.length) := by
  by_cases h : hcode a b c l = 0
  · right
    cases h2 : inB n 1 12 with
    | false => left; have hc : usC a b c l n = 2 := by rw [usC, if_neg (by simp [h]), if_pos h2]
               exact ⟨h, rfl, hc, by simp [usR, hc]⟩
    | true =>
      right
      by_cases h3 : rowC a b c l = 0
      · right
        by_cases h4 : n < rowN a b c l
        · left; have hc : usC a b c l n = 3 := by rw [usC, if_neg (by simp [h]), if_neg (by simp [h2]), if_neg (by simp [h3]), if_pos h4]
          exact ⟨_, h, rfl, h3, rfl, h4, hc, by simp [usR, hc]⟩
        · right; have hc : usC a b c l n = 0 := by rw [usC, if_neg (by simp [h]), if_neg (by simp [h2]), if_neg (by simp [h3]), if_neg h4]
          exact ⟨_, h, rfl, h3, rfl, by omega, hc, by simp [usR, hc]⟩
      · left; have hc : usC a b c l n = rowC a b c l := by rw [usC, if_neg (by simp [h]), if_neg (by simp [h2]), if_pos h3]
        exact ⟨_, h3, h, rfl, rfl, hc, by simp [usR, hc, h3]⟩
  · left; have hc : usC a b c l n = hcode a b c l := by rw [usC, if_pos h]
    exact ⟨_, h, rfl, hc, by simp [usR, hc, h]⟩
theorem hcode_le (a b c : Int) (l : List Int) : 0 ≤ hcode a b c l ∧ hcode a b c l ≤ 3 := by
  rcases hcode_cases a b c l with ⟨_, h⟩ | ⟨_, _, h⟩ | ⟨_, _, _, h⟩ | ⟨_, _, _, h⟩ <;> omega
theorem rowC_le (a b c : Int) (l : List Int) : 0 ≤ rowC a b c l ∧ rowC a b c l ≤ 5 := by
  unfold rowC; split <;> first | omega | (split <;> omega)
theorem hcode_impl_r (a b c : Int) (l : List Int) (r : Int) (h : hcode a b c l = r) (A : Option Addr) (B cc : Nat) (w : World) (hr : Rd w B A (ints l)) (hB : B ≤ w.heap.size) (hn : l.length ≤ 1048576) :
   Calls Try.prog 36 #[.agg #[.int .i64 a, .int .i64 b, .int .i64 c], .slice A l.length cc] w fun e w' => e = .returned (.int .i64 r) ∧ Below w.heap.size w w' := h ▸ hcode_impl a b c l A B cc w hr hB hn
theorem rows_impl_r (a b c : Int) (l : List Int) (q r : Int) (h0 : rowN a b c l = q) (h : rowC a b c l = r) (A : Option Addr) (B cc : Nat) (w : World) (hr : Rd w B A (ints l)) (hB : B ≤ w.heap.size) (hn : l.length ≤ 1048576) :
   Calls Try.prog 38 #[.agg #[.int .i64 a, .int .i64 b, .int .i64 c], .slice A l.length cc] w fun e w' => e = .returned (.tuple #[.int .i64 q, .int .i64 r]) ∧ Below w.heap.size w w' := by rw [← h0, ← h]; exact rows_impl a b c l A B cc w hr hB hn
theorem hcode_spec_r (a b c : Int) (l : List Int) (r : Int) (h : hcode a b c l = r) (A : Option Addr) (B cc : Nat) (w : World) (hr : Rd w B A (ints l)) (hB : B ≤ w.heap.size) (hn : l.length ≤ 1048576) :
   Calls Try.prog 31 #[.agg #[.int .i64 a, .int .i64 b, .int .i64 c], .slice A l.length cc] w fun e w' => e = .returned (.int .i64 r) ∧ Below w.heap.size w w' := h ▸ hcode_spec a b c l A B cc w hr hB hn
theorem rows_spec_r (a b c : Int) (l : List Int) (q r : Int) (h0 : rowN a b c l = q) (h : rowC a b c l = r) (A : Option Addr) (B cc : Nat) (w : World) (hr : Rd w B A (ints l)) (hB : B ≤ w.heap.size) (hn : l.length ≤ 1048576) :
   Calls Try.prog 33 #[.agg #[.int .i64 a, .int .i64 b, .int .i64 c], .slice A l.length cc] w fun e w' => e = .returned (.tuple #[.int .i64 q, .int .i64 r]) ∧ Below w.heap.size w w' := by rw [← h0, ← h]; exact rows_spec a b c l A B cc w hr hB hn
theorem usual_impl (a b c : Int) (l : List Int) (A : Option Addr) (B cc : Nat) (w : World) (hr : Rd w B A (ints l)) (hB : B ≤ w.heap.size) (hn : l.length ≤ 1048576) :
   Calls Try.prog 39 #[.agg #[.int .i64 a, .int .i64 b, .int .i64 c], .slice A l.length cc] w fun e w' => ∃ A' c', e = .returned (.slice A' l.length c') ∧ w'.ownsRow w.heap.size 2 1 (.slice A' l.length c') l.length (ints (usUp a b c l l.length)) ∧ Below w.heap.size w w' := by
  obtain ⟨i0, hi0, hz0, hzz1, hzz2⟩ := info_parts infoInt64
  obtain ⟨need, g1⟩ : ∃ q, cntV a b c 1 l = q := ⟨_, rfl⟩
  have hneed := cnt_le' a b c 1 l
  rw [g1] at hneed
  have G1 := Lib.hid g1
  clear g1
  go_enter Try.func39, Try.ntmps39
  go_wp2_with (go_at_call 62; refine (count_impl_r a b c 1 need l G1.out A B cc _ (hr.alloc hB _) (by simp; omega) hn).mono ?_; rintro e w0 ⟨rfl, hb0⟩)
  go_loopw [6, 7, 8, 16] (fun v ch ad i wr => ∃ k : Nat, k ≤ l.length ∧ i = .int .i64 k ∧ ch = .int .i64 (cntV a b c 1 (l.take k)) ∧ ad = .int .i64 ((k : Int) - cntV a b c 1 (l.take k)) ∧ wr.ownsRow (w.heap.size + 1) 2 1 v k (ints (usUp a b c l k)) ∧ Below (w.heap.size + 1) (w.alloc (.cells #[.int .i64 a, .int .i64 b, .int .i64 c] 27)) wr) (fun _ _ _ i _ => l.length - (intOf i).toNat)
  case atStart => exact ⟨0, Nat.zero_le _, rfl, rfl, rfl, World.ownsRow_nil _ _ _ _, hb0.mono (by simp)⟩
  case round =>
    obtain ⟨k, hk, rfl, rfl, rfl, hown, hbw⟩ := hrel
    have hz := hbw.size
    simp only [World.size_alloc] at hz
    by_cases hlt : k < l.length
    · have ht := List.getElem?_eq_getElem hlt
      generalize l[k] = x at ht
      have hr' := (hr.alloc hB _).below hbw (by omega)
      obtain ⟨bb, o, rfl, hbB, c0⟩ := hr'.int ht
      have e0 := hbw.cell (p := ⟨w.heap.size, 0, none⟩) (by simp)
      have e1 := hbw.cell (p := ⟨w.heap.size, 1, none⟩) (by simp)
      have e2 := hbw.cell (p := ⟨w.heap.size, 2, none⟩) (by simp)
      simp at e0 e1 e2
      have hbz : bb < wr.heap.size := by omega
      have hyz : w.heap.size < wr.heap.size := by omega
      have hi0' : (0 : Int) ≤ (k : Int) := by omega
      have hi1' : (k : Int) < (l.length : Int) := by omega
      have hkn : k ≤ 1048576 := by omega
      have hle := cnt_le a b c 1 l k
      have hcs := cnt_step a b c 1 ht
      have hus := usUp_step a b c ht
      unfold seatOf at hus
      rw [G1.out] at hus
      obtain ⟨r, hvr⟩ : ∃ r, verd a b c x = r := ⟨_, rfl⟩
      rw [hvr] at hus hcs
      have Hvr := Lib.hid hvr
      generalize cntV a b c 1 (l.take k) = q at *
      cases hv : (r == 1) with
      | true =>
        rw [hv] at hus hcs
        simp only [if_true] at hus hcs
        have Hus := Lib.hid hus
        have Hcs := Lib.hid hcs
        have Ho := Lib.hid hown
        have Hr := Lib.hid hr
        clear ht hus hcs hvr hr hr' hown
        go_wp2_with (first | (go_at_call 52; refine (verd_impl_r a b c x r Hvr.out _).mono ?_; rintro e w1 ⟨rfl, hb⟩; have O1 := Lib.hid (own_below Ho.out hb); have hz1 := hb.size; obtain ⟨hcc, hff, hzz⟩ := bstep (N := wr.heap.size) (Nat.le_refl _) hb; have hsz1 : w.heap.size + 1 ≤ w1.heap.size := by omega) | (at_builtin; refine wpList_append_int rfl (.tmp 31) (.tmp 34) 24 rfl (w.heap.size + 1) 2 i0 Try.underlying24 hi0 hz0 hzz1 hzz2 _ k (usUp a b c l k) rfl O1.out _ rfl hkn hsz1 ?_; intro v2 w2 o2 hb2 hz4; have O2 := Lib.hid o2; clear o2))
        go_roundw
        case rel => exact ⟨k + 1, by omega, by go_num, by rw [Hcs.out], by rw [Hcs.out]; exact vint (by omega), by rw [Hus.out]; exact O2.out, (hbw.trans (hb.mono (by omega))).trans hb2⟩
        case measure => simp [intOf]; omega
      | false =>
        rw [hv] at hus hcs
        by_cases hlt2 : (k : Int) - q < need
        · rw [if_neg (by simp), if_pos hlt2] at hus
          rw [if_neg (by simp), Int.add_zero] at hcs
          have Hus := Lib.hid hus
          have Hcs := Lib.hid hcs
          have Ho := Lib.hid hown
          have Hr := Lib.hid hr
          clear ht hus hcs hvr hr hr' hown
          go_wp2_with (first | (go_at_call 52; refine (verd_impl_r a b c x r Hvr.out _).mono ?_; rintro e w1 ⟨rfl, hb⟩; have O1 := Lib.hid (own_below Ho.out hb); have hz1 := hb.size; obtain ⟨hcc, hff, hzz⟩ := bstep (N := wr.heap.size) (Nat.le_refl _) hb; have hsz1 : w.heap.size + 1 ≤ w1.heap.size := by omega) | (at_builtin; refine wpList_append_int rfl (.tmp 42) (.tmp 46) 24 rfl (w.heap.size + 1) 2 i0 Try.underlying24 hi0 hz0 hzz1 hzz2 _ k (usUp a b c l k) rfl O1.out _ rfl hkn hsz1 ?_; intro v2 w2 o2 hb2 hz4; have O2 := Lib.hid o2; clear o2))
          go_roundw
          case rel => exact ⟨k + 1, by omega, by go_num, by rw [Hcs.out], by rw [Hcs.out]; exact vint (by omega), by rw [Hus.out]; exact O2.out, (hbw.trans (hb.mono (by omega))).trans hb2⟩
          case measure => simp [intOf]; omega
        · rw [if_neg (by simp), if_neg hlt2] at hus
          rw [if_neg (by simp), Int.add_zero] at hcs
          have Hus := Lib.hid hus
          have Hcs := Lib.hid hcs
          have Ho := Lib.hid hown
          have Hr := Lib.hid hr
          clear ht hus hcs hvr hr hr' hown
          go_wp2_with (first | (go_at_call 52; refine (verd_impl_r a b c x r Hvr.out _).mono ?_; rintro e w1 ⟨rfl, hb⟩; have O1 := Lib.hid (own_below Ho.out hb); have hz1 := hb.size; obtain ⟨hcc, hff, hzz⟩ := bstep (N := wr.heap.size) (Nat.le_refl _) hb; have hsz1 : w.heap.size + 1 ≤ w1.heap.size := by omega) | (at_builtin; refine wpList_append_int rfl (.tmp 20) (.tmp 24) 24 rfl (w.heap.size + 1) 2 i0 Try.underlying24 hi0 hz0 hzz1 hzz2 _ k (usUp a b c l k) rfl O1.out _ rfl hkn hsz1 ?_; intro v2 w2 o2 hb2 hz4; have O2 := Lib.hid o2; clear o2))
          go_roundw
          case rel => exact ⟨k + 1, by omega, by go_num, by rw [Hcs.out], by rw [Hcs.out]; exact vint (by omega), by rw [Hus.out]; exact O2.out, (hbw.trans (hb.mono (by omega))).trans hb2⟩
          case measure => simp [intOf]; omega
    · have hk' : k = l.length := by omega
      subst hk'
      obtain ⟨A', c', rfl⟩ := own_val hown
      have Ho := Lib.hid hown
      clear hown hr
      go_wp2
      go_ret
      exact ⟨_, _, rfl, own_more Ho.out (by omega), ((Below.refl _ _).alloc (Nat.le_refl _) _).trans (hbw.mono (by omega))⟩
theorem us_spec_last (a b c : Int) (l : List Int) (n q0 : Int) (h : hcode a b c l = 0) (hi : inB n 1 12 = true) (hc : rowC a b c l = 0) (hN : rowN a b c l = q0) (hlt : q0 ≤ n) (A : Option Addr) (B cc : Nat) (w : World) (hr : Rd w B A (ints l)) (hB : B ≤ w.heap.size) (hn : l.length ≤ 1048576) :
   Calls Try.prog 8 #[.agg #[.int .i64 a, .int .i64 b, .int .i64 c], .slice A l.length cc, .int .i64 n] w fun e w' => ∃ A' c', e = .returned (.tuple #[.slice A' l.length c', .int .i64 0]) ∧ w'.ownsRow w.heap.size 2 1 (.slice A' l.length c') l.length (ints (usUp a b c l l.length)) ∧ Below w.heap.size w w' := by
  obtain ⟨i0, hi0, hz0, hzz1, hzz2⟩ := info_parts infoInt64
  obtain ⟨need, g1⟩ : ∃ q, cntV a b c 1 l = q := ⟨_, rfl⟩
  have hneed := cnt_le' a b c 1 l
  rw [g1] at hneed
  have G1 := Lib.hid g1
  clear g1
  have H0 := Lib.hid h
  have H1 := Lib.hid hi
  have H2 := Lib.hid hc
  have H3 := Lib.hid hN
  clear h hi hc hN
  go_enter Try.func8, Try.ntmps8
  go_wp2_with (first | (go_at_call 31; refine (hcode_spec_r a b c l 0 H0.out A B cc _ (hr.alloc hB _) (by simp; omega) hn).mono ?_; rintro e w1 ⟨rfl, hb⟩; obtain ⟨hc, hf, hz⟩ := bstep (N := w.heap.size + 1) (by go_size) hb; have hr1 := Lib.hid ((hr.alloc hB _).below hb (by simp; omega))) | (go_at_call 32; refine (l01In_r' _ _ _ true H1.out _).mono ?_; rintro e w' ⟨rfl, rfl⟩) | (go_at_call 33; refine (rows_spec_r a b c l q0 0 H3.out H2.out A B cc _ hr1.out (by omega) hn).mono ?_; rintro e w2 ⟨rfl, hb2⟩; obtain ⟨hc2, hf2, hz2⟩ := bstep (N := w.heap.size + 1) (by omega) hb2; have hr2 := Lib.hid (hr1.out.below hb2 (by omega))) | (go_at_call 34; refine (count_spec_r a b c 1 need l G1.out A B cc _ hr2.out (by omega) hn).mono ?_; rintro e w3 ⟨rfl, hb3⟩))
  have hb4 : Below (w.heap.size + 1) (w.alloc (.cells #[.int .i64 a, .int .i64 b, .int .i64 c] 27)) w3 := ((hb.mono (by simp)).trans (hb2.mono (by omega))).trans (hb3.mono (by omega))
  have hz3 := hb4.size
  simp only [World.size_alloc] at hz3
  have Hb4 := Lib.hid hb4
  clear hc hf hc2 hf2 hb hb2 hb3 hb4
  go_loopw [11, 12, 13, 14] (fun v ch ad i wr => ∃ k : Nat, k ≤ l.length ∧ i = .int .i64 k ∧ ch = .int .i64 (cntV a b c 1 (l.take k)) ∧ ad = .int .i64 ((k : Int) - cntV a b c 1 (l.take k)) ∧ wr.ownsRow (w.heap.size + 1) 2 1 v k (ints (usUp a b c l k)) ∧ Below (w.heap.size + 1) (w.alloc (.cells #[.int .i64 a, .int .i64 b, .int .i64 c] 27)) wr) (fun _ _ _ i _ => l.length - (intOf i).toNat)
  case atStart => exact ⟨0, Nat.zero_le _, rfl, rfl, rfl, World.ownsRow_made w3 #[] 0 hz3 (by simp [maxLen]) rfl, Hb4.out.alloc hz3 _⟩
  case round =>
    obtain ⟨k, hk, rfl, rfl, rfl, hown, hbw⟩ := hrel
    have hz := hbw.size
    simp only [World.size_alloc] at hz
    by_cases hlt : k < l.length
    · have ht := List.getElem?_eq_getElem hlt
      generalize l[k] = x at ht
      have hr' := (hr.alloc hB _).below hbw (by omega)
      obtain ⟨bb, o, rfl, hbB, c0⟩ := hr'.int ht
      have e0 := hbw.cell (p := ⟨w.heap.size, 0, none⟩) (by simp)
      have e1 := hbw.cell (p := ⟨w.heap.size, 1, none⟩) (by simp)
      have e2 := hbw.cell (p := ⟨w.heap.size, 2, none⟩) (by simp)
      simp at e0 e1 e2
      have hbz : bb < wr.heap.size := by omega
      have hyz : w.heap.size < wr.heap.size := by omega
      have hi0' : (0 : Int) ≤ (k : Int) := by omega
      have hi1' : (k : Int) < (l.length : Int) := by omega
      have hkn : k ≤ 1048576 := by omega
      have hle := cnt_le a b c 1 l k
      have hcs := cnt_step a b c 1 ht
      have hus := usUp_step a b c ht
      unfold seatOf at hus
      rw [G1.out] at hus
      obtain ⟨r, hvr⟩ : ∃ r, verd a b c x = r := ⟨_, rfl⟩
      rw [hvr] at hus hcs
      have Hvr := Lib.hid hvr
      generalize cntV a b c 1 (l.take k) = q at *
      cases hv : (r == 1) with
      | true =>
        rw [hv] at hus hcs
        simp only [if_true] at hus hcs
        have Hus := Lib.hid hus
        have Hcs := Lib.hid hcs
        have Ho := Lib.hid hown
        have Hr := Lib.hid hr
        clear ht hus hcs hvr hr hr' hown
        go_wp2_with fail
        first | (go_region_held3 (fun w' => w'.cell? ⟨w.heap.size, 0, none⟩ = some (.int .i64 a) ∧ w'.cell? ⟨w.heap.size, 1, none⟩ = some (.int .i64 b) ∧ w'.cell? ⟨w.heap.size, 2, none⟩ = some (.int .i64 c) ∧ w'.cell? ⟨bb, o + k, none⟩ = some (.int .i64 x)) (simp [*, World.cell?_alloc_past]) (((go_at_call 35; refine (verd_spec_r a b c x r Hvr.out _).mono ?_; rintro e w1 ⟨rfl, hb⟩; have O1 := Lib.hid (own_below (own_drew Ho.out) hb); have hz1 := hb.size; simp only [World.size_drew] at hz1; obtain ⟨hcc, hff, hzz⟩ := bstep (N := wr.heap.size) (by simp) hb; have hsz1 : w.heap.size + 1 ≤ w1.heap.size := by omega)))) | fail
        go_wp2_with ((at_builtin; refine wpList_append_int rfl (.tmp 70) (.tmp 73) 24 rfl (w.heap.size + 1) 2 i0 Try.underlying24 hi0 hz0 hzz1 hzz2 _ k (usUp a b c l k) rfl O1.out _ rfl hkn hsz1 ?_; intro v2 w2 o2 hb2 hz4; have O2 := Lib.hid o2; clear o2))
        go_roundw
        case rel => exact ⟨k + 1, by omega, by go_num, by rw [Hcs.out], by rw [Hcs.out]; exact vint (by omega), by rw [Hus.out]; exact O2.out, (hbw.trans (below_of_drew hb (by omega))).trans hb2⟩
        case measure => simp [intOf]; omega
      | false =>
        rw [hv] at hus hcs
        by_cases hlt2 : (k : Int) - q < need
        · rw [if_neg (by simp), if_pos hlt2] at hus
          rw [if_neg (by simp), Int.add_zero] at hcs
          have Hus := Lib.hid hus
          have Hcs := Lib.hid hcs
          have Ho := Lib.hid hown
          have Hr := Lib.hid hr
          clear ht hus hcs hvr hr hr' hown
          go_wp2_with fail
          first | (go_region_held3 (fun w' => w'.cell? ⟨w.heap.size, 0, none⟩ = some (.int .i64 a) ∧ w'.cell? ⟨w.heap.size, 1, none⟩ = some (.int .i64 b) ∧ w'.cell? ⟨w.heap.size, 2, none⟩ = some (.int .i64 c) ∧ w'.cell? ⟨bb, o + k, none⟩ = some (.int .i64 x)) (simp [*, World.cell?_alloc_past]) (((go_at_call 35; refine (verd_spec_r a b c x r Hvr.out _).mono ?_; rintro e w1 ⟨rfl, hb⟩; have O1 := Lib.hid (own_below (own_drew Ho.out) hb); have hz1 := hb.size; simp only [World.size_drew] at hz1; obtain ⟨hcc, hff, hzz⟩ := bstep (N := wr.heap.size) (by simp) hb; have hsz1 : w.heap.size + 1 ≤ w1.heap.size := by omega)))) | fail
          go_wp2_with ((at_builtin; refine wpList_append_int rfl (.tmp 81) (.tmp 85) 24 rfl (w.heap.size + 1) 2 i0 Try.underlying24 hi0 hz0 hzz1 hzz2 _ k (usUp a b c l k) rfl O1.out _ rfl hkn hsz1 ?_; intro v2 w2 o2 hb2 hz4; have O2 := Lib.hid o2; clear o2))
          go_roundw
          case rel => exact ⟨k + 1, by omega, by go_num, by rw [Hcs.out], by rw [Hcs.out]; exact vint (by omega), by rw [Hus.out]; exact O2.out, (hbw.trans (below_of_drew hb (by omega))).trans hb2⟩
          case measure => simp [intOf]; omega
        · rw [if_neg (by simp), if_neg hlt2] at hus
          rw [if_neg (by simp), Int.add_zero] at hcs
          have Hus := Lib.hid hus
          have Hcs := Lib.hid hcs
          have Ho := Lib.hid hown
          have Hr := Lib.hid hr
          clear ht hus hcs hvr hr hr' hown
          go_wp2_with fail
          first | (go_region_held3 (fun w' => w'.cell? ⟨w.heap.size, 0, none⟩ = some (.int .i64 a) ∧ w'.cell? ⟨w.heap.size, 1, none⟩ = some (.int .i64 b) ∧ w'.cell? ⟨w.heap.size, 2, none⟩ = some (.int .i64 c) ∧ w'.cell? ⟨bb, o + k, none⟩ = some (.int .i64 x)) (simp [*, World.cell?_alloc_past]) (((go_at_call 35; refine (verd_spec_r a b c x r Hvr.out _).mono ?_; rintro e w1 ⟨rfl, hb⟩; have O1 := Lib.hid (own_below (own_drew Ho.out) hb); have hz1 := hb.size; simp only [World.size_drew] at hz1; obtain ⟨hcc, hff, hzz⟩ := bstep (N := wr.heap.size) (by simp) hb; have hsz1 : w.heap.size + 1 ≤ w1.heap.size := by omega)))) | fail
          go_wp2_with ((at_builtin; refine wpList_append_int rfl (.tmp 54) (.tmp 58) 24 rfl (w.heap.size + 1) 2 i0 Try.underlying24 hi0 hz0 hzz1 hzz2 _ k (usUp a b c l k) rfl O1.out _ rfl hkn hsz1 ?_; intro v2 w2 o2 hb2 hz4; have O2 := Lib.hid o2; clear o2))
          go_roundw
          case rel => exact ⟨k + 1, by omega, by go_num, by rw [Hcs.out], by rw [Hcs.out]; exact vint (by omega), by rw [Hus.out]; exact O2.out, (hbw.trans (below_of_drew hb (by omega))).trans hb2⟩
          case measure => simp [intOf]; omega
    · have hk' : k = l.length := by omega
      subst hk'
      obtain ⟨A', c', rfl⟩ := own_val hown
      have Ho := Lib.hid hown
      clear hown hr
      go_wp2
      go_ret2
      exact ⟨_, _, rfl, own_more Ho.out (by omega), ((Below.refl _ _).alloc (Nat.le_refl _) _).trans (hbw.mono (by omega))⟩
theorem us_impl (a b c : Int) (l : List Int) (n : Int) (A : Option Addr) (B cc : Nat) (w : World) (hr : Rd w B A (ints l)) (hB : B ≤ w.heap.size) (hn : l.length ≤ 1048576) :
   Calls Try.prog 11 #[.agg #[.int .i64 a, .int .i64 b, .int .i64 c], .slice A l.length cc, .int .i64 n] w fun e w' => ∃ A' c', e = .returned (.tuple #[.slice A' (usR a b c l n).length c', .int .i64 (usC a b c l n)]) ∧ w'.ownsRow w.heap.size 2 1 (.slice A' (usR a b c l n).length c') (usR a b c l n).length (ints (usR a b c l n)) ∧ Below w.heap.size w w' := by
  have hq := cnt_le' a b c 1 l
  rcases us_cases a b c l n with ⟨r, h0, h, h1, h2⟩ | ⟨h, hi, h1, h2⟩ | ⟨r, h0, h, hi, hc, h1, h2⟩ | ⟨q, h, hi, hc, hN, hlt, h1, h2⟩ | ⟨q, h, hi, hc, hN, hlt, h1, h2⟩
  · rw [h1, h2]
    have hne : (r != 0) = true := by rw [bne_iff_ne]; exact h0
    have heq : (r == 0) = false := by rw [beq_eq_false_iff_ne]; exact h0
    have H0 := Lib.hid h
    clear h1 h2 h h0
    go_enter Try.func11, Try.ntmps11
    go_wp2_with ((go_at_call 36; refine (hcode_impl_r a b c l r H0.out A B cc _ (hr.alloc hB _) (by simp; omega) hn).mono ?_; rintro e w1 ⟨rfl, hb⟩; obtain ⟨hc, hf, hz⟩ := bstep (N := w.heap.size + 1) (by go_size) hb; have hr1 := Lib.hid ((hr.alloc hB _).below hb (by simp; omega))))
    go_ret2
    exact ⟨none, 0, rfl, World.ownsRow_nil _ _ _ _, by repeat' (first | (with_reducible exact Below.refl _ _) | (with_reducible assumption) | (with_reducible refine Below.alloc ?_ ?_ _) | (with_reducible refine Below.drew ?_) | (with_reducible refine below_drewN ?_ _) | (with_reducible refine Below.setCell ?_ ?_ _) | (with_reducible refine Below.trans ?_ (Below.mono (by assumption) ?_)) | go_size | (exact Below.size (by assumption)))⟩
  · rw [h1, h2]
    have H0 := Lib.hid h
    have H1 := Lib.hid hi
    clear h1 h2 h hi
    go_enter Try.func11, Try.ntmps11
    go_wp2_with (first | (go_at_call 36; refine (hcode_impl_r a b c l 0 H0.out A B cc _ (hr.alloc hB _) (by simp; omega) hn).mono ?_; rintro e w1 ⟨rfl, hb⟩; obtain ⟨hc, hf, hz⟩ := bstep (N := w.heap.size + 1) (by go_size) hb; have hr1 := Lib.hid ((hr.alloc hB _).below hb (by simp; omega))) | (go_at_call 37; refine (isRowCount_r _ false H1.out _).mono ?_; rintro e w' ⟨rfl, rfl⟩))
    go_ret2
    exact ⟨none, 0, rfl, World.ownsRow_nil _ _ _ _, by repeat' (first | (with_reducible exact Below.refl _ _) | (with_reducible assumption) | (with_reducible refine Below.alloc ?_ ?_ _) | (with_reducible refine Below.drew ?_) | (with_reducible refine below_drewN ?_ _) | (with_reducible refine Below.setCell ?_ ?_ _) | (with_reducible refine Below.trans ?_ (Below.mono (by assumption) ?_)) | go_size | (exact Below.size (by assumption)))⟩
  · rw [h1, h2]
    have hne : (r != 0) = true := by rw [bne_iff_ne]; exact h0
    have heq : (r == 0) = false := by rw [beq_eq_false_iff_ne]; exact h0
    have H0 := Lib.hid h
    have H1 := Lib.hid hi
    have H2 := Lib.hid hc
    obtain ⟨q, hN⟩ : ∃ q, rowN a b c l = q := ⟨_, rfl⟩
    have H3 := Lib.hid hN
    clear h1 h2 h hi hc h0 hN
    go_enter Try.func11, Try.ntmps11
    go_wp2_with (first | (go_at_call 36; refine (hcode_impl_r a b c l 0 H0.out A B cc _ (hr.alloc hB _) (by simp; omega) hn).mono ?_; rintro e w1 ⟨rfl, hb⟩; obtain ⟨hc, hf, hz⟩ := bstep (N := w.heap.size + 1) (by go_size) hb; have hr1 := Lib.hid ((hr.alloc hB _).below hb (by simp; omega))) | (go_at_call 37; refine (isRowCount_r _ true H1.out _).mono ?_; rintro e w' ⟨rfl, rfl⟩) | (go_at_call 38; refine (rows_impl_r a b c l q r H3.out H2.out A B cc _ hr1.out (by omega) hn).mono ?_; rintro e w2 ⟨rfl, hb2⟩; obtain ⟨hc2, hf2, hz2⟩ := bstep (N := w.heap.size + 1) (by omega) hb2; have hr2 := Lib.hid (hr1.out.below hb2 (by omega))))
    go_ret2
    exact ⟨none, 0, rfl, World.ownsRow_nil _ _ _ _, by repeat' (first | (with_reducible exact Below.refl _ _) | (with_reducible assumption) | (with_reducible refine Below.alloc ?_ ?_ _) | (with_reducible refine Below.drew ?_) | (with_reducible refine below_drewN ?_ _) | (with_reducible refine Below.setCell ?_ ?_ _) | (with_reducible refine Below.trans ?_ (Below.mono (by assumption) ?_)) | go_size | (exact Below.size (by assumption)))⟩
  · rw [h1, h2]
    have H0 := Lib.hid h
    have H1 := Lib.hid hi
    have H2 := Lib.hid hc
    have H3 := Lib.hid hN
    clear h1 h2 h hi hc hN
    go_enter Try.func11, Try.ntmps11
    go_wp2_with (first | (go_at_call 36; refine (hcode_impl_r a b c l 0 H0.out A B cc _ (hr.alloc hB _) (by simp; omega) hn).mono ?_; rintro e w1 ⟨rfl, hb⟩; obtain ⟨hc, hf, hz⟩ := bstep (N := w.heap.size + 1) (by go_size) hb; have hr1 := Lib.hid ((hr.alloc hB _).below hb (by simp; omega))) | (go_at_call 37; refine (isRowCount_r _ true H1.out _).mono ?_; rintro e w' ⟨rfl, rfl⟩) | (go_at_call 38; refine (rows_impl_r a b c l q 0 H3.out H2.out A B cc _ hr1.out (by omega) hn).mono ?_; rintro e w2 ⟨rfl, hb2⟩; obtain ⟨hc2, hf2, hz2⟩ := bstep (N := w.heap.size + 1) (by omega) hb2; have hr2 := Lib.hid (hr1.out.below hb2 (by omega))))
    go_ret2
    exact ⟨none, 0, rfl, World.ownsRow_nil _ _ _ _, by repeat' (first | (with_reducible exact Below.refl _ _) | (with_reducible assumption) | (with_reducible refine Below.alloc ?_ ?_ _) | (with_reducible refine Below.drew ?_) | (with_reducible refine below_drewN ?_ _) | (with_reducible refine Below.setCell ?_ ?_ _) | (with_reducible refine Below.trans ?_ (Below.mono (by assumption) ?_)) | go_size | (exact Below.size (by assumption)))⟩
  · rw [h1, h2, usUp_length _ _ _ _ (Nat.le_refl _)]
    have H0 := Lib.hid h
    have H1 := Lib.hid hi
    have H2 := Lib.hid hc
    have H3 := Lib.hid hN
    clear h1 h2 h hi hc hN
    go_enter Try.func11, Try.ntmps11
    go_wp2_with (first | (go_at_call 36; refine (hcode_impl_r a b c l 0 H0.out A B cc _ (hr.alloc hB _) (by simp; omega) hn).mono ?_; rintro e w1 ⟨rfl, hb⟩; obtain ⟨hc, hf, hz⟩ := bstep (N := w.heap.size + 1) (by go_size) hb; have hr1 := Lib.hid ((hr.alloc hB _).below hb (by simp; omega))) | (go_at_call 37; refine (isRowCount_r _ true H1.out _).mono ?_; rintro e w' ⟨rfl, rfl⟩) | (go_at_call 38; refine (rows_impl_r a b c l q 0 H3.out H2.out A B cc _ hr1.out (by omega) hn).mono ?_; rintro e w2 ⟨rfl, hb2⟩; obtain ⟨hc2, hf2, hz2⟩ := bstep (N := w.heap.size + 1) (by omega) hb2; have hr2 := Lib.hid (hr1.out.below hb2 (by omega))) | (go_at_call 39; refine (usual_impl a b c l A B cc _ hr2.out (by omega) hn).mono ?_; rintro e w3 ⟨A3, c3, rfl, o3, b3⟩; have O3 := Lib.hid (own_more o3 (show w.heap.size ≤ w2.heap.size by omega)); clear o3))
    go_ret2
    exact ⟨A3, c3, rfl, O3.out, by repeat' (first | (with_reducible exact Below.refl _ _) | (with_reducible assumption) | (with_reducible refine Below.alloc ?_ ?_ _) | (with_reducible refine Below.drew ?_) | (with_reducible refine below_drewN ?_ _) | (with_reducible refine Below.setCell ?_ ?_ _) | (with_reducible refine Below.trans ?_ (Below.mono (by assumption) ?_)) | go_size | (exact Below.size (by assumption)))⟩

theorem us_spec (a b c : Int) (l : List Int) (n : Int) (A : Option Addr) (B cc : Nat) (w : World) (hr : Rd w B A (ints l)) (hB : B ≤ w.heap.size) (hn : l.length ≤ 1048576) :
   Calls Try.prog 8 #[.agg #[.int .i64 a, .int .i64 b, .int .i64 c], .slice A l.length cc, .int .i64 n] w fun e w' => ∃ A' c', e = .returned (.tuple #[.slice A' (usR a b c l n).length c', .int .i64 (usC a b c l n)]) ∧ w'.ownsRow w.heap.size 2 1 (.slice A' (usR a b c l n).length c') (usR a b c l n).length (ints (usR a b c l n)) ∧ Below w.heap.size w w' := by
  have hq := cnt_le' a b c 1 l
  rcases us_cases a b c l n with ⟨r, h0, h, h1, h2⟩ | ⟨h, hi, h1, h2⟩ | ⟨r, h0, h, hi, hc, h1, h2⟩ | ⟨q, h, hi, hc, hN, hlt, h1, h2⟩ | ⟨q, h, hi, hc, hN, hlt, h1, h2⟩
  · rw [h1, h2]
    have hne : (r != 0) = true := by rw [bne_iff_ne]; exact h0
    have heq : (r == 0) = false := by rw [beq_eq_false_iff_ne]; exact h0
    have H0 := Lib.hid h
    clear h1 h2 h h0
    go_enter Try.func8, Try.ntmps8
    go_wp2_with ((go_at_call 31; refine (hcode_spec_r a b c l r H0.out A B cc _ (hr.alloc hB _) (by simp; omega) hn).mono ?_; rintro e w1 ⟨rfl, hb⟩; obtain ⟨hc, hf, hz⟩ := bstep (N := w.heap.size + 1) (by go_size) hb; have hr1 := Lib.hid ((hr.alloc hB _).below hb (by simp; omega))))
    go_ret2
    exact ⟨none, 0, rfl, World.ownsRow_nil _ _ _ _, by repeat' (first | (with_reducible exact Below.refl _ _) | (with_reducible assumption) | (with_reducible refine Below.alloc ?_ ?_ _) | (with_reducible refine Below.drew ?_) | (with_reducible refine below_drewN ?_ _) | (with_reducible refine Below.setCell ?_ ?_ _) | (with_reducible refine Below.trans ?_ (Below.mono (by assumption) ?_)) | go_size | (exact Below.size (by assumption)))⟩
  · rw [h1, h2]
    have H0 := Lib.hid h
    have H1 := Lib.hid hi
    clear h1 h2 h hi
    go_enter Try.func8, Try.ntmps8
    go_wp2_with (first | (go_at_call 31; refine (hcode_spec_r a b c l 0 H0.out A B cc _ (hr.alloc hB _) (by simp; omega) hn).mono ?_; rintro e w1 ⟨rfl, hb⟩; obtain ⟨hc, hf, hz⟩ := bstep (N := w.heap.size + 1) (by go_size) hb; have hr1 := Lib.hid ((hr.alloc hB _).below hb (by simp; omega))) | (go_at_call 32; refine (l01In_r' _ _ _ false H1.out _).mono ?_; rintro e w' ⟨rfl, rfl⟩))
    go_ret2
    exact ⟨none, 0, rfl, World.ownsRow_nil _ _ _ _, by repeat' (first | (with_reducible exact Below.refl _ _) | (with_reducible assumption) | (with_reducible refine Below.alloc ?_ ?_ _) | (with_reducible refine Below.drew ?_) | (with_reducible refine below_drewN ?_ _) | (with_reducible refine Below.setCell ?_ ?_ _) | (with_reducible refine Below.trans ?_ (Below.mono (by assumption) ?_)) | go_size | (exact Below.size (by assumption)))⟩
  · rw [h1, h2]
    have hne : (r != 0) = true := by rw [bne_iff_ne]; exact h0
    have heq : (r == 0) = false := by rw [beq_eq_false_iff_ne]; exact h0
    have H0 := Lib.hid h
    have H1 := Lib.hid hi
    have H2 := Lib.hid hc
    obtain ⟨q, hN⟩ : ∃ q, rowN a b c l = q := ⟨_, rfl⟩
    have H3 := Lib.hid hN
    clear h1 h2 h hi hc h0 hN
    go_enter Try.func8, Try.ntmps8
    go_wp2_with (first | (go_at_call 31; refine (hcode_spec_r a b c l 0 H0.out A B cc _ (hr.alloc hB _) (by simp; omega) hn).mono ?_; rintro e w1 ⟨rfl, hb⟩; obtain ⟨hc, hf, hz⟩ := bstep (N := w.heap.size + 1) (by go_size) hb; have hr1 := Lib.hid ((hr.alloc hB _).below hb (by simp; omega))) | (go_at_call 32; refine (l01In_r' _ _ _ true H1.out _).mono ?_; rintro e w' ⟨rfl, rfl⟩) | (go_at_call 33; refine (rows_spec_r a b c l q r H3.out H2.out A B cc _ hr1.out (by omega) hn).mono ?_; rintro e w2 ⟨rfl, hb2⟩; obtain ⟨hc2, hf2, hz2⟩ := bstep (N := w.heap.size + 1) (by omega) hb2; have hr2 := Lib.hid (hr1.out.below hb2 (by omega))))
    go_ret2
    exact ⟨none, 0, rfl, World.ownsRow_nil _ _ _ _, by repeat' (first | (with_reducible exact Below.refl _ _) | (with_reducible assumption) | (with_reducible refine Below.alloc ?_ ?_ _) | (with_reducible refine Below.drew ?_) | (with_reducible refine below_drewN ?_ _) | (with_reducible refine Below.setCell ?_ ?_ _) | (with_reducible refine Below.trans ?_ (Below.mono (by assumption) ?_)) | go_size | (exact Below.size (by assumption)))⟩
  · rw [h1, h2]
    have H0 := Lib.hid h
    have H1 := Lib.hid hi
    have H2 := Lib.hid hc
    have H3 := Lib.hid hN
    clear h1 h2 h hi hc hN
    go_enter Try.func8, Try.ntmps8
    go_wp2_with (first | (go_at_call 31; refine (hcode_spec_r a b c l 0 H0.out A B cc _ (hr.alloc hB _) (by simp; omega) hn).mono ?_; rintro e w1 ⟨rfl, hb⟩; obtain ⟨hc, hf, hz⟩ := bstep (N := w.heap.size + 1) (by go_size) hb; have hr1 := Lib.hid ((hr.alloc hB _).below hb (by simp; omega))) | (go_at_call 32; refine (l01In_r' _ _ _ true H1.out _).mono ?_; rintro e w' ⟨rfl, rfl⟩) | (go_at_call 33; refine (rows_spec_r a b c l q 0 H3.out H2.out A B cc _ hr1.out (by omega) hn).mono ?_; rintro e w2 ⟨rfl, hb2⟩; obtain ⟨hc2, hf2, hz2⟩ := bstep (N := w.heap.size + 1) (by omega) hb2; have hr2 := Lib.hid (hr1.out.below hb2 (by omega))))
    go_ret2
    exact ⟨none, 0, rfl, World.ownsRow_nil _ _ _ _, by repeat' (first | (with_reducible exact Below.refl _ _) | (with_reducible assumption) | (with_reducible refine Below.alloc ?_ ?_ _) | (with_reducible refine Below.drew ?_) | (with_reducible refine below_drewN ?_ _) | (with_reducible refine Below.setCell ?_ ?_ _) | (with_reducible refine Below.trans ?_ (Below.mono (by assumption) ?_)) | go_size | (exact Below.size (by assumption)))⟩
  · rw [h1, h2, usUp_length _ _ _ _ (Nat.le_refl _)]
    exact us_spec_last a b c l n q h hi hc hN hlt A B cc w hr hB hn

end Go.Proofs.Ytdjbbjehgfkefaa
