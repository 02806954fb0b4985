/- IsSeating of the program; RowsNeeded of both. -/
import Derived.Test.YtdjbbjehgfkefaaCm
import Derived.Test.YtdjbbjehgfkefaaBx
import Derived.Test.YtdjbbjehgfkefaaGp
import Derived.Deep.RegionHeld3
namespace Go.Proofs.Ytdjbbjehgfkefaa
open Go.ChangeShapes Go.WideShapes Go.ChangeAt Go.RowKit
set_option maxRecDepth 20000
set_option linter.unusedVariables false
set_option linter.unusedSimpArgs false
theorem rn_impl (a b c : Int) (l : List Int) (A : Option Addr) (B cc : Nat) (w : World) (hr : Rd w B A (ints l)) (hB : B ≤ w.heap.size) (hn : l.length ≤ 1048576) :
   Calls Try.prog 22 #[.agg #[.int .i64 a, .int .i64 b, .int .i64 c], .slice A l.length cc] w fun e w' => e = .returned (.tuple #[.int .i64 (rnN a b c l), .int .i64 (rnC a b c l)]) ∧ Below w.heap.size w w' := by
  by_cases h : hcode a b c l = 0
  · rw [rnN, rnC, if_pos h, if_pos h]
    obtain ⟨q, hN⟩ : ∃ q, rowN a b c l = q := ⟨_, rfl⟩
    obtain ⟨r, hC⟩ : ∃ r, rowC a b c l = r := ⟨_, rfl⟩
    rw [hN, hC]
    have H0 := Lib.hid h
    have H1 := Lib.hid hN
    have H2 := Lib.hid hC
    clear h hN hC
    go_enter Try.func22, Try.ntmps22
    go_wp2_with (first | (go_at_call 36; refine (hcode_impl_r a b c l 0 H0.out A B cc _ (hr.alloc hB _) (by simp; omega) hn).mono ?_; rintro e w1 ⟨rfl, hb⟩; obtain ⟨hc, hf, hz⟩ := bstep (N := w.heap.size + 1) (by go_size) hb; have hr1 := Lib.hid ((hr.alloc hB _).below hb (by simp; omega))) | (go_at_call 38; refine (rows_impl_r a b c l q r H1.out H2.out A B cc _ hr1.out (by omega) hn).mono ?_; rintro e w2 ⟨rfl, hb2⟩; have hz2 := hb2.size))
    go_ret2
    exact ⟨rfl, by repeat' (first | (with_reducible exact Below.refl _ _) | (with_reducible assumption) | (with_reducible refine Below.alloc ?_ ?_ _) | (with_reducible refine Below.drew ?_) | (with_reducible refine below_drewN ?_ _) | (with_reducible refine Below.setCell ?_ ?_ _) | (with_reducible refine Below.trans ?_ (Below.mono (by assumption) ?_)) | go_size | (exact Below.size (by assumption)))⟩
  · rw [rnN, rnC, if_neg h, if_neg h]
    obtain ⟨r, hC⟩ : ∃ r, hcode a b c l = r := ⟨_, rfl⟩
    rw [hC] at h ⊢
    have hne : (r != 0) = true := by rw [bne_iff_ne]; exact h
    have heq : (r == 0) = false := by rw [beq_eq_false_iff_ne]; exact h
    have H0 := Lib.hid hC
    clear h hC
    go_enter Try.func22, Try.ntmps22
    go_wp2_with (first | (go_at_call 36; refine (hcode_impl_r a b c l r H0.out A B cc _ (hr.alloc hB _) (by simp; omega) hn).mono ?_; rintro e w1 ⟨rfl, hb⟩; obtain ⟨hc, hf, hz⟩ := bstep (N := w.heap.size + 1) (by go_size) hb))
    go_ret2
    exact ⟨rfl, by repeat' (first | (with_reducible exact Below.refl _ _) | (with_reducible assumption) | (with_reducible refine Below.alloc ?_ ?_ _) | (with_reducible refine Below.drew ?_) | (with_reducible refine below_drewN ?_ _) | (with_reducible refine Below.setCell ?_ ?_ _) | (with_reducible refine Below.trans ?_ (Below.mono (by assumption) ?_)) | go_size | (exact Below.size (by assumption)))⟩
theorem rn_spec (a b c : Int) (l : List Int) (A : Option Addr) (B cc : Nat) (w : World) (hr : Rd w B A (ints l)) (hB : B ≤ w.heap.size) (hn : l.length ≤ 1048576) :
   Calls Try.prog 25 #[.agg #[.int .i64 a, .int .i64 b, .int .i64 c], .slice A l.length cc] w fun e w' => e = .returned (.tuple #[.int .i64 (rnN a b c l), .int .i64 (rnC a b c l)]) ∧ Below w.heap.size w w' := by
  by_cases h : hcode a b c l = 0
  · rw [rnN, rnC, if_pos h, if_pos h]
    obtain ⟨q, hN⟩ : ∃ q, rowN a b c l = q := ⟨_, rfl⟩
    obtain ⟨r, hC⟩ : ∃ r, rowC a b c l = r := ⟨_, rfl⟩
    rw [hN, hC]
    have H0 := Lib.hid h
    have H1 := Lib.hid hN
    have H2 := Lib.hid hC
    clear h hN hC
    go_enter Try.func25, Try.ntmps25
    go_wp2_with (first | (go_at_call 31; refine (hcode_spec_r a b c l 0 H0.out A B cc _ (hr.alloc hB _) (by simp; omega) hn).mono ?_; rintro e w1 ⟨rfl, hb⟩; obtain ⟨hc, hf, hz⟩ := bstep (N := w.heap.size + 1) (by go_size) hb; have hr1 := Lib.hid ((hr.alloc hB _).below hb (by simp; omega))) | (go_at_call 33; refine (rows_spec_r a b c l q r H1.out H2.out A B cc _ hr1.out (by omega) hn).mono ?_; rintro e w2 ⟨rfl, hb2⟩; have hz2 := hb2.size))
    go_ret2
    exact ⟨rfl, by repeat' (first | (with_reducible exact Below.refl _ _) | (with_reducible assumption) | (with_reducible refine Below.alloc ?_ ?_ _) | (with_reducible refine Below.drew ?_) | (with_reducible refine below_drewN ?_ _) | (with_reducible refine Below.setCell ?_ ?_ _) | (with_reducible refine Below.trans ?_ (Below.mono (by assumption) ?_)) | go_size | (exact Below.size (by assumption)))⟩
  · rw [rnN, rnC, if_neg h, if_neg h]
    obtain ⟨r, hC⟩ : ∃ r, hcode a b c l = r := ⟨_, rfl⟩
    rw [hC] at h ⊢
    have hne : (r != 0) = true := by rw [bne_iff_ne]; exact h
    have heq : (r == 0) = false := by rw [beq_eq_false_iff_ne]; exact h
    have H0 := Lib.hid hC
    clear h hC
    go_enter Try.func25, Try.ntmps25
    go_wp2_with (first | (go_at_call 31; refine (hcode_spec_r a b c l r H0.out A B cc _ (hr.alloc hB _) (by simp; omega) hn).mono ?_; rintro e w1 ⟨rfl, hb⟩; obtain ⟨hc, hf, hz⟩ := bstep (N := w.heap.size + 1) (by go_size) hb))
    go_ret2
    exact ⟨rfl, by repeat' (first | (with_reducible exact Below.refl _ _) | (with_reducible assumption) | (with_reducible refine Below.alloc ?_ ?_ _) | (with_reducible refine Below.drew ?_) | (with_reducible refine below_drewN ?_ _) | (with_reducible refine Below.setCell ?_ ?_ _) | (with_reducible refine Below.trans ?_ (Below.mono (by assumption) ?_)) | go_size | (exact Below.size (by assumption)))⟩
theorem contains_k (l : List Int) (x : Int) (n : Nat) (r : Bool) (hl : l.length = n) (hx : l.any (· == x) = r) (A : Option Addr) (B c : Nat) (w : World) (hr : Rd w B A (ints l)) (hn : n ≤ 1048576) :
   Calls Try.prog 54 #[.slice A n c, .int .i64 x] w fun e w' => e = .returned (.bool r) ∧ w = w' := by
  subst hl
  subst hx
  exact contains_any l x A B c w hr hn
/-- a seating -/
def seatB (a b c : Int) (l s : List Int) (n : Int) : Bool := decide (hcode a b c l = 0) && (inB n 1 12 && (decide (s.length = l.length) && isI s (vl a b c l) n))
theorem isI_bad {s v : List Int} {n : Int} {k : Nat} (hk : k < s.length) (h : okI s v n k = false) : isI s v n = false := List.all_eq_false.2 ⟨k, List.mem_range.2 hk, by rw [h]; decide⟩
theorem isI_ok {s v : List Int} {n : Int} (h : ∀ j, j < s.length → okI s v n j = true) : isI s v n = true := List.all_eq_true.2 fun k hk => h k (List.mem_range.1 hk)
theorem okI_at {s v : List Int} {n x r : Int} {k : Nat} (hs : s[k]? = some x) (hv : v.getD k 0 = r) : okI s v n k = ((decide (0 ≤ x) && decide (x ≤ 2 * n - 1)) && (!((s.take k).any (· == x)) && (r == 1 || r == 2)) && (r == 2 || decide (0 ≤ compF (q2 s v k) s.length))) := by
  have e : s.getD k 0 = x := by rw [List.getD_eq_getElem?_getD, hs]; rfl
  rw [okI, okA, e, hv]
theorem inB_at (x n : Int) : inB x 0 (2 * n - 1) = (decide (0 ≤ x) && decide (x ≤ 2 * n - 1)) := rfl
theorem comp_seat (a b c : Int) (l s : List Int) (k : Nat) (q : Int) (hq : compF (q2 s (vl a b c l) k) s.length = q) (hk : k < s.length) (hl : s.length = l.length) (hsb : sBd s) (A As : Option Addr) (B cc cs b1 b2 : Nat) (w : World) (hr : Rd w B A (ints l)) (hrs : Rd w B As (ints s)) (hB : B ≤ w.heap.size) (hn : s.length ≤ 1048576)
    (K1 : Bk w b1 #[.int .i64 a, .int .i64 b, .int .i64 c]) (K2 : Bk w b2 #[.slice A l.length cc]) :
   Calls Try.prog 55 #[.slice As s.length cs, .int .i64 k, .func (Fn.func 51) #[] #[.pointer (some ⟨b1, 0, none⟩), .pointer (some ⟨b2, 0, none⟩)]] w fun e w' => e = .returned (.int .i64 q) ∧ Below w.heap.size w w' := by
  subst hq
  refine comp_alone s k hk hsb (fun j => (vl a b c l).getD j 0 == 2) As B cs b1 b2 w hrs hB hn fun w' j hj hb => ?_
  have h1 := bk_below K1 hb (bk_lt K1)
  have h2 := bk_below K2 hb (bk_lt K2)
  obtain ⟨q0, q1, q2, _, _⟩ := bk3 h1
  have r0 := (bk_at h2).1 0
  exact clo_alone a b c l A B cc b1 b2 j (by omega) w' (hr.below hb hB) (by have := hb.size; omega) q0 q1 q2 (by simpa using r0) (bk_lt h1) (bk_lt h2)
set_option maxHeartbeats 2000000 in
theorem isSeating_impl (a b c n : Int) (l s : List Int) (A As : Option Addr) (B cc cs : Nat) (w : World) (hr : Rd w B A (ints l)) (hrs : Rd w B As (ints s)) (hB : B ≤ w.heap.size) (hn : l.length ≤ 1048576) (hns : s.length ≤ 1048576) (hcs : s.length ≤ cs) (hsb : sBd s) :
   Calls Try.prog 24 #[.agg #[.int .i64 a, .int .i64 b, .int .i64 c], .slice A l.length cc, .slice As s.length cs, .int .i64 n] w fun e w' => e = .returned (.bool (seatB a b c l s n)) ∧ Below w.heap.size w w' := by
  by_cases h : hcode a b c l = 0
  rotate_left
  · have e : seatB a b c l s n = false := by rw [seatB, decide_eq_false h]; rfl
    rw [e]
    obtain ⟨r, hC⟩ : ∃ r, hcode a b c l = r := ⟨_, rfl⟩
    rw [hC] at h
    have hne : (r != 0) = true := by rw [bne_iff_ne]; exact h
    have heq : (r == 0) = false := by rw [beq_eq_false_iff_ne]; exact h
    have H0 := Lib.hid hC
    clear h hC
    go_enter Try.func24, Try.ntmps24
    go_wp2_with (first | (go_at_call 36; refine (hcode_impl_r a b c l r H0.out A B cc _ ((hr.alloc hB _).alloc (by simp; omega) _) (by simp; omega) hn).mono ?_; rintro e w1 ⟨rfl, hb⟩; obtain ⟨hc, hf, hz⟩ := bstep (N := w.heap.size + 2) (by go_size) hb))
    go_ret
    exact ⟨rfl, by repeat' (first | (with_reducible exact Below.refl _ _) | (with_reducible assumption) | (with_reducible refine Below.alloc ?_ ?_ _) | (with_reducible refine Below.drew ?_) | (with_reducible refine below_drewN ?_ _) | (with_reducible refine Below.setCell ?_ ?_ _) | (with_reducible refine Below.trans ?_ (Below.mono (by assumption) ?_)) | go_size | (exact Below.size (by assumption)))⟩
  have H0 := Lib.hid h
  cases hi : inB n 1 12 with
  | false =>
    have e : seatB a b c l s n = false := by rw [seatB, hi, decide_eq_true h]; rfl
    rw [e]
    have H1 := Lib.hid hi
    clear h hi
    go_enter Try.func24, Try.ntmps24
    go_wp2_with (first | (go_at_call 36; refine (hcode_impl_r a b c l 0 H0.out A B cc _ ((hr.alloc hB _).alloc (by simp; omega) _) (by simp; omega) hn).mono ?_; rintro e w1 ⟨rfl, hb⟩; obtain ⟨hc, hf, hz⟩ := bstep (N := w.heap.size + 2) (by go_size) hb) | (go_at_call 37; refine (isRowCount_r _ false H1.out _).mono ?_; rintro e w' ⟨rfl, rfl⟩))
    go_ret
    exact ⟨rfl, by repeat' (first | (with_reducible exact Below.refl _ _) | (with_reducible assumption) | (with_reducible refine Below.alloc ?_ ?_ _) | (with_reducible refine Below.drew ?_) | (with_reducible refine below_drewN ?_ _) | (with_reducible refine Below.setCell ?_ ?_ _) | (with_reducible refine Below.trans ?_ (Below.mono (by assumption) ?_)) | go_size | (exact Below.size (by assumption)))⟩
  | true =>
    have H1 := Lib.hid hi
    have hi0 := hi
    rw [inB, Bool.and_eq_true, decide_eq_true_eq, decide_eq_true_eq] at hi0
    obtain ⟨n1, n12⟩ := hi0
    by_cases hl : s.length = l.length
    rotate_left
    · have e : seatB a b c l s n = false := by rw [seatB, hi, decide_eq_true h, decide_eq_false hl]; rfl
      rw [e]
      have hne : ((s.length : Int) != (l.length : Int)) = true := by rw [bne_iff_ne]; omega
      have heq : ((s.length : Int) == (l.length : Int)) = false := by rw [beq_eq_false_iff_ne]; omega
      clear h hi hl
      go_enter Try.func24, Try.ntmps24
      go_wp2_with (first | (go_at_call 36; refine (hcode_impl_r a b c l 0 H0.out A B cc _ ((hr.alloc hB _).alloc (by simp; omega) _) (by simp; omega) hn).mono ?_; rintro e w1 ⟨rfl, hb⟩; obtain ⟨hc, hf, hz⟩ := bstep (N := w.heap.size + 2) (by go_size) hb) | (go_at_call 37; refine (isRowCount_r _ true H1.out _).mono ?_; rintro e w' ⟨rfl, rfl⟩))
      go_ret
      exact ⟨rfl, by repeat' (first | (with_reducible exact Below.refl _ _) | (with_reducible assumption) | (with_reducible refine Below.alloc ?_ ?_ _) | (with_reducible refine Below.drew ?_) | (with_reducible refine below_drewN ?_ _) | (with_reducible refine Below.setCell ?_ ?_ _) | (with_reducible refine Below.trans ?_ (Below.mono (by assumption) ?_)) | go_size | (exact Below.size (by assumption)))⟩
    have e : seatB a b c l s n = isI s (vl a b c l) n := by rw [seatB, hi, decide_eq_true h, decide_eq_true hl]; rfl
    rw [e]
    have hbad := Lib.hid (fun (k : Nat) (hk : k < s.length) (hq : okI s (vl a b c l) n k = false) => (isI_bad hk hq).symm)
    have hgood := Lib.hid (fun (hq : ∀ j, j < s.length → okI s (vl a b c l) n j = true) => (isI_ok hq).symm)
    generalize isI s (vl a b c l) n = res at hbad hgood ⊢
    have hne : ((s.length : Int) != (l.length : Int)) = false := by rw [bne_eq_false_iff_eq]; omega
    have heq : ((s.length : Int) == (l.length : Int)) = true := by rw [beq_iff_eq]; omega
    have HL := Lib.hid hl
    have HSB := Lib.hid hsb
    clear h hi hl e hsb
    go_enter Try.func24, Try.ntmps24
    go_wp2_with (first | (go_at_call 36; refine (hcode_impl_r a b c l 0 H0.out A B cc _ ((hr.alloc hB _).alloc (by simp; omega) _) (by simp; omega) hn).mono ?_; rintro e w1 ⟨rfl, hb⟩; have hz1 := hb.size; have hbw1 := Lib.hid (((Below.refl _ _).alloc (Nat.le_refl _) (.cells #[.int .i64 a, .int .i64 b, .int .i64 c] 27)).alloc (by simp) (.cells #[.slice A l.length cc] 24)  |>.trans (hb.mono (by simp; omega))); obtain ⟨hc, hf, hz⟩ := bstep (N := w.heap.size + 2) (by go_size) hb) | (go_at_call 37; refine (isRowCount_r _ true H1.out _).mono ?_; rintro e w' ⟨rfl, rfl⟩))
    have K1 := Lib.hid (bk_below (bk_alloc (bk_new w #[.int .i64 a, .int .i64 b, .int .i64 c] 27) (.cells #[.slice A l.length cc] 24)) hb (by simp; omega))
    have K2 : Hid (Bk w1 (w.heap.size + 1) #[.slice A l.length cc]) := Lib.hid (bk_below (by simpa using bk_new (w.alloc (.cells #[.int .i64 a, .int .i64 b, .int .i64 c] 27)) #[.slice A l.length cc] 24) hb (by simp))
    clear hb hz1 hc hf
    go_loopw [32] (fun i wr => ∃ k : Nat, k ≤ s.length ∧ i = .int .i64 k ∧ (∀ j, j < k → okI s (vl a b c l) n j = true) ∧ Bk wr w.heap.size #[.int .i64 a, .int .i64 b, .int .i64 c] ∧ Bk wr (w.heap.size + 1) #[.slice A l.length cc] ∧ Below w.heap.size w wr) (fun i _ => s.length - (intOf i).toNat)
    case atStart => exact ⟨0, Nat.zero_le _, rfl, fun j hj => absurd hj (Nat.not_lt_zero _), K1.out, K2.out, hbw1.out⟩
    case round =>
      clear K1 K2 hbw1
      obtain ⟨k, hk, rfl, hall, k1, k2, hbw⟩ := hrel
      have Hall := Lib.hid hall
      have hsz := hbw.size
      have Hbw := Lib.hid hbw
      by_cases hlt : k < s.length
      · have ht := List.getElem?_eq_getElem hlt
        generalize s[k] = x at ht
        have hlt2 : k < l.length := by have := HL.out; omega
        have hy := List.getElem?_eq_getElem hlt2
        generalize l[k] = y at hy
        have hvy := vl_get a b c hy
        obtain ⟨r, hvr⟩ : ∃ r, verd a b c y = r := ⟨_, rfl⟩
        rw [hvr] at hvy
        have hok := okI_at (n := n) ht hvy
        have Hvr := Lib.hid hvr
        have Hrs := Lib.hid (hrs.below hbw hB)
        have Hr := Lib.hid (hr.below hbw hB)
        obtain ⟨bb, o, rfl, hbB, c0⟩ := Hrs.out.int ht
        obtain ⟨bb2, o2, rfl, hbB2, d0⟩ := Hr.out.int hy
        obtain ⟨p0, p1, p2, pf, ps⟩ := bk3 k1
        obtain ⟨r0, rf⟩ := bk_at k2
        replace r0 := r0 0
        simp at r0
        have Hk1 := Lib.hid k1
        have Hk2 := Lib.hid k2
        have hs2 := bk_lt k2
        have htk : Rd wr B (some ⟨bb, o, none⟩) (ints (s.take k)) := rd_take_ints Hrs.out k
        have htl : (s.take k).length = k := by rw [List.length_take]; omega
        have Htk := Lib.hid htk
        have Htl := Lib.hid htl
        have hi0 : (0 : Int) ≤ (k : Int) := by omega
        have hi1 : (k : Int) < (s.length : Int) := by omega
        have hi2 : (k : Int) < (l.length : Int) := by omega
        have hi3 : (k : Int) ≤ (cs : Int) := by omega
        have hbz : bb < wr.heap.size := by omega
        have hbz2 : bb2 < wr.heap.size := by omega
        have hbz3 : w.heap.size < wr.heap.size := by omega
        clear ht hy hvy hvr hrs hr hall k1 k2 hbw htk htl
        cases hin : inB x 0 (2 * n - 1) with
        | false =>
          have hq : okI s (vl a b c l) n k = false := by rw [hok, ← inB_at, hin]; rfl
          have Hq := Lib.hid hq
          have Hin := Lib.hid hin
          clear hok hq hin
          go_wp2_with (go_at_call 53; refine (within_r _ _ _ false Hin.out _).mono ?_; rintro e w' ⟨rfl, rfl⟩)
          go_ret
          exact ⟨ret_bool (hbad.out k hlt Hq.out), Hbw.out⟩
        | true =>
          have Hin := Lib.hid hin
          cases hct : (s.take k).any (· == x) with
          | true =>
            have hq : okI s (vl a b c l) n k = false := by rw [hok, hct]; simp
            have Hq := Lib.hid hq
            have Hct := Lib.hid hct
            clear hok hq hin hct
            go_wp2_with (first | (go_at_call 53; refine (within_r _ _ _ true Hin.out _).mono ?_; rintro e w' ⟨rfl, rfl⟩) | (go_at_call 54; refine (contains_k (s.take k) x k true Htl.out Hct.out _ B _ _ Htk.out (by omega)).mono ?_; rintro e w' ⟨rfl, rfl⟩))
            go_ret
            exact ⟨ret_bool (hbad.out k hlt Hq.out), Hbw.out⟩
          | false =>
            rw [← inB_at, hin, hct] at hok
            have Hct := Lib.hid hct
            clear hin hct
            rcases (show r = 2 ∨ r = 1 ∨ (r ≠ 2 ∧ r ≠ 1) by omega) with rfl | rfl | ⟨hr2, hr1⟩
            · have Hq := Lib.hid (show okI s (vl a b c l) n k = true by rw [hok]; rfl)
              clear hok
              go_wp2_with (first | (go_at_call 53; refine (within_r _ _ _ true Hin.out _).mono ?_; rintro e w' ⟨rfl, rfl⟩) | (go_at_call 54; refine (contains_k (s.take k) x k false Htl.out Hct.out _ B _ _ Htk.out (by omega)).mono ?_; rintro e w' ⟨rfl, rfl⟩))
              go_region_held3 (fun w' => w'.cell? ⟨w.heap.size, 0, none⟩ = some (.int .i64 a) ∧ w'.cell? ⟨w.heap.size, 1, none⟩ = some (.int .i64 b) ∧ w'.cell? ⟨w.heap.size, 2, none⟩ = some (.int .i64 c) ∧ w'.cell? ⟨w.heap.size + 1, 0, none⟩ = some (.slice (some ⟨bb2, o2, none⟩) l.length cc) ∧ w'.cell? ⟨bb2, o2 + k, none⟩ = some (.int .i64 y)) (simp [*, World.cell?_alloc_past]) ((go_at_call 52; refine (verd_impl_r a b c y 2 Hvr.out _).mono ?_; rintro e w1 ⟨rfl, hb⟩; obtain ⟨hc, hf, hz1⟩ := bstep (N := wr.heap.size) (by simp) hb))
              all_goals have bw := below_of_drew hb (Nat.le_refl wr.heap.size)
              all_goals have Bw := Lib.hid bw
              all_goals have M1 := Lib.hid (bk_below Hk1.out bw hbz3)
              all_goals have M2 := Lib.hid (bk_below Hk2.out bw hs2)
              all_goals have Mr := Lib.hid (Hr.out.below bw (by omega))
              all_goals have Ms := Lib.hid (Hrs.out.below bw (by omega))
              all_goals clear hb hc hf bw
              all_goals go_wp2
              all_goals go_roundw
              all_goals first | exact ⟨k + 1, by omega, by go_num, fun j hj => by
                rcases Nat.lt_succ_iff_lt_or_eq.1 hj with h | rfl
                · exact Hall.out j h
                · exact Hq.out, M1.out, M2.out, Hbw.out.trans (Bw.out.mono hsz)⟩ | (simp [intOf]; omega)
            · obtain ⟨q, hqq⟩ : ∃ q, compF (q2 s (vl a b c l) k) s.length = q := ⟨_, rfl⟩
              rw [hqq] at hok
              have Hqq := Lib.hid hqq
              clear hqq
              by_cases hneg : q < 0
              · have Hq := Lib.hid (show okI s (vl a b c l) n k = false by rw [hok, decide_eq_false (show ¬ 0 ≤ q by omega)]; rfl)
                clear hok
                go_wp2_with (first | (go_at_call 53; refine (within_r _ _ _ true Hin.out _).mono ?_; rintro e w' ⟨rfl, rfl⟩) | (go_at_call 54; refine (contains_k (s.take k) x k false Htl.out Hct.out _ B _ _ Htk.out (by omega)).mono ?_; rintro e w' ⟨rfl, rfl⟩))
                go_region_held3 (fun w' => w'.cell? ⟨w.heap.size, 0, none⟩ = some (.int .i64 a) ∧ w'.cell? ⟨w.heap.size, 1, none⟩ = some (.int .i64 b) ∧ w'.cell? ⟨w.heap.size, 2, none⟩ = some (.int .i64 c) ∧ w'.cell? ⟨w.heap.size + 1, 0, none⟩ = some (.slice (some ⟨bb2, o2, none⟩) l.length cc) ∧ w'.cell? ⟨bb2, o2 + k, none⟩ = some (.int .i64 y)) (simp [*, World.cell?_alloc_past]) ((go_at_call 52; refine (verd_impl_r a b c y 1 Hvr.out _).mono ?_; rintro e w1 ⟨rfl, hb⟩; obtain ⟨hc, hf, hz1⟩ := bstep (N := wr.heap.size) (by simp) hb))
                all_goals have bw := below_of_drew hb (Nat.le_refl wr.heap.size)
                all_goals have Bw := Lib.hid bw
                all_goals have M1 := Lib.hid (bk_below Hk1.out bw hbz3)
                all_goals have M2 := Lib.hid (bk_below Hk2.out bw hs2)
                all_goals have Mr := Lib.hid (Hr.out.below bw (by omega))
                all_goals have Ms := Lib.hid (Hrs.out.below bw (by omega))
                all_goals clear hb hc hf bw
                all_goals go_wp2_with (go_at_call 55; refine (comp_seat a b c l s k q Hqq.out hlt HL.out HSB.out _ _ B cc cs _ _ _ Mr.out Ms.out (by omega) hns M1.out M2.out).mono ?_; rintro e w2 ⟨rfl, hb2⟩)
                all_goals go_ret
                all_goals exact ⟨ret_bool (hbad.out k hlt Hq.out), Hbw.out.trans ((Bw.out.mono hsz).trans (hb2.mono (by omega)))⟩
              · have Hq := Lib.hid (show okI s (vl a b c l) n k = true by rw [hok, decide_eq_true (show 0 ≤ q by omega)]; rfl)
                clear hok
                go_wp2_with (first | (go_at_call 53; refine (within_r _ _ _ true Hin.out _).mono ?_; rintro e w' ⟨rfl, rfl⟩) | (go_at_call 54; refine (contains_k (s.take k) x k false Htl.out Hct.out _ B _ _ Htk.out (by omega)).mono ?_; rintro e w' ⟨rfl, rfl⟩))
                go_region_held3 (fun w' => w'.cell? ⟨w.heap.size, 0, none⟩ = some (.int .i64 a) ∧ w'.cell? ⟨w.heap.size, 1, none⟩ = some (.int .i64 b) ∧ w'.cell? ⟨w.heap.size, 2, none⟩ = some (.int .i64 c) ∧ w'.cell? ⟨w.heap.size + 1, 0, none⟩ = some (.slice (some ⟨bb2, o2, none⟩) l.length cc) ∧ w'.cell? ⟨bb2, o2 + k, none⟩ = some (.int .i64 y)) (simp [*, World.cell?_alloc_past]) ((go_at_call 52; refine (verd_impl_r a b c y 1 Hvr.out _).mono ?_; rintro e w1 ⟨rfl, hb⟩; obtain ⟨hc, hf, hz1⟩ := bstep (N := wr.heap.size) (by simp) hb))
                all_goals have bw := below_of_drew hb (Nat.le_refl wr.heap.size)
                all_goals have Bw := Lib.hid bw
                all_goals have M1 := Lib.hid (bk_below Hk1.out bw hbz3)
                all_goals have M2 := Lib.hid (bk_below Hk2.out bw hs2)
                all_goals have Mr := Lib.hid (Hr.out.below bw (by omega))
                all_goals have Ms := Lib.hid (Hrs.out.below bw (by omega))
                all_goals clear hb hc hf bw
                all_goals go_wp2_with (go_at_call 55; refine (comp_seat a b c l s k q Hqq.out hlt HL.out HSB.out _ _ B cc cs _ _ _ Mr.out Ms.out (by omega) hns M1.out M2.out).mono ?_; rintro e w2 ⟨rfl, hb2⟩)
                all_goals go_roundw
                all_goals first | exact ⟨k + 1, by omega, by go_num, fun j hj => by
                  rcases Nat.lt_succ_iff_lt_or_eq.1 hj with h | rfl
                  · exact Hall.out j h
                  · exact Hq.out, bk_below M1.out hb2 (by omega), bk_below M2.out hb2 (by omega), Hbw.out.trans ((Bw.out.mono hsz).trans (hb2.mono (by omega)))⟩ | (simp [intOf]; omega)
            · have e1 : (r == 1) = false := by rw [beq_eq_false_iff_ne]; exact hr1
              have e2 : (r == 2) = false := by rw [beq_eq_false_iff_ne]; exact hr2
              have e3 : (r != 1) = true := by rw [bne_iff_ne]; exact hr1
              have e4 : (r != 2) = true := by rw [bne_iff_ne]; exact hr2
              have Hq := Lib.hid (show okI s (vl a b c l) n k = false by rw [hok, e1, e2]; simp)
              clear hok hr1 hr2
              go_wp2_with (first | (go_at_call 53; refine (within_r _ _ _ true Hin.out _).mono ?_; rintro e w' ⟨rfl, rfl⟩) | (go_at_call 54; refine (contains_k (s.take k) x k false Htl.out Hct.out _ B _ _ Htk.out (by omega)).mono ?_; rintro e w' ⟨rfl, rfl⟩))
              go_region_held3 (fun w' => w'.cell? ⟨w.heap.size, 0, none⟩ = some (.int .i64 a) ∧ w'.cell? ⟨w.heap.size, 1, none⟩ = some (.int .i64 b) ∧ w'.cell? ⟨w.heap.size, 2, none⟩ = some (.int .i64 c) ∧ w'.cell? ⟨w.heap.size + 1, 0, none⟩ = some (.slice (some ⟨bb2, o2, none⟩) l.length cc) ∧ w'.cell? ⟨bb2, o2 + k, none⟩ = some (.int .i64 y)) (simp [*, World.cell?_alloc_past]) ((go_at_call 52; refine (verd_impl_r a b c y r Hvr.out _).mono ?_; rintro e w1 ⟨rfl, hb⟩; obtain ⟨hc, hf, hz1⟩ := bstep (N := wr.heap.size) (by simp) hb))
              all_goals have bw := below_of_drew hb (Nat.le_refl wr.heap.size)
              all_goals have Bw := Lib.hid bw
              all_goals have M1 := Lib.hid (bk_below Hk1.out bw hbz3)
              all_goals have M2 := Lib.hid (bk_below Hk2.out bw hs2)
              all_goals have Mr := Lib.hid (Hr.out.below bw (by omega))
              all_goals have Ms := Lib.hid (Hrs.out.below bw (by omega))
              all_goals clear hb hc hf bw
              all_goals go_wp2
              all_goals go_ret
              all_goals exact ⟨ret_bool (hbad.out k hlt Hq.out), Hbw.out.trans (Bw.out.mono hsz)⟩
      · have hk' : k = s.length := by omega
        subst hk'
        clear hr hrs k1 k2 hbw hall
        go_wp2
        go_ret
        exact ⟨ret_bool (hgood.out Hall.out), Hbw.out⟩
end Go.Proofs.Ytdjbbjehgfkefaa
