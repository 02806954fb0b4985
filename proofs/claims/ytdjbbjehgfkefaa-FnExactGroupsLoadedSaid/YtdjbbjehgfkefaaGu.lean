/- Codes of heights, rows and the usual seating, of the program and of the reference. -/
import Derived.Test.YtdjbbjehgfkefaaGs
import Derived.Test.YtdjbbjehgfkefaaI
import Derived.Test.YtdjbbjehgfkefaaApp
import Derived.Deep.RegionHeld3
namespace Go.Proofs.Ytdjbbjehgfkefaa
open Go.ChangeShapes Go.WideShapes Go.ChangeAt Go.RowKit
set_option maxRecDepth 20000
set_option linter.unusedVariables false
set_option linter.unusedSimpArgs false
def hcode (a b c : Int) (l : List Int) : Int := if ruleB a b c then (if 24 < l.length then 3 else if l.all (inB · 1 3000) then 0 else 2) else 1
theorem hcode_cases (a b c : Int) (l : List Int) : (ruleB a b c = false ∧ hcode a b c l = 1) ∨ (ruleB a b c = true ∧ 24 < l.length ∧ hcode a b c l = 3) ∨ (ruleB a b c = true ∧ l.length ≤ 24 ∧ l.all (inB · 1 3000) = false ∧ hcode a b c l = 2) ∨ (ruleB a b c = true ∧ l.length ≤ 24 ∧ l.all (inB · 1 3000) = true ∧ hcode a b c l = 0) := by
  cases h : ruleB a b c with
  | false => left; simp [hcode, h]
  | true =>
    right
    by_cases h2 : 24 < l.length
    · left; exact ⟨rfl, h2, by simp [hcode, h, h2]⟩
    · right
      cases h3 : l.all (inB · 1 3000) with
      | false => left; exact ⟨rfl, by omega, rfl, by simp [hcode, h, h2, h3]⟩
      | true => right; exact ⟨rfl, by omega, rfl, by simp [hcode, h, h2, h3]⟩
theorem conHts_r (l : List Int) (A : Option Addr) (B c : Nat) (r : Bool) (h : l.all (inB · 1 3000) = r) (w : World) (hr : Rd w B A (ints l)) (hB : B ≤ w.heap.size) (hn : l.length ≤ 1048576) :
   Calls Try.prog 60 #[.slice A l.length c, .func (Fn.func 61) #[] #[]] w fun e w' => e = .returned (.bool (!r)) ∧ Below w.heap.size w w' := by
  have hx := conHts1 l A B c w hr hB hn
  have he : l.any (fun x => !inB x 1 3000) = !l.all (inB · 1 3000) := any_not_all (inB · 1 3000) l
  rw [he, h] at hx
  exact hx
theorem Rd.drew_ {w : World} {B : Nat} {A : Option Addr} {xs : List Value} (h : Rd w B A xs) : Rd w.drew B A xs := h
theorem count_impl_r (a b c v q : Int) (l : List Int) (h : cntV a b c v l = q) (A : Option Addr) (B cc : Nat) (w : World) (hr : Rd w B A (ints l)) (hB : B ≤ w.heap.size) (hn : l.length ≤ 1048576) :
   Calls Try.prog 62 #[.agg #[.int .i64 a, .int .i64 b, .int .i64 c], .slice A l.length cc, .int .i64 v] w fun e w' => e = .returned (.int .i64 q) ∧ Below w.heap.size w w' := h ▸ count_impl a b c v l A B cc w hr hB hn
theorem count_spec_r (a b c v q : Int) (l : List Int) (h : cntV a b c v l = q) (A : Option Addr) (B cc : Nat) (w : World) (hr : Rd w B A (ints l)) (hB : B ≤ w.heap.size) (hn : l.length ≤ 1048576) :
   Calls Try.prog 34 #[.agg #[.int .i64 a, .int .i64 b, .int .i64 c], .slice A l.length cc, .int .i64 v] w fun e w' => e = .returned (.int .i64 q) ∧ Below w.heap.size w w' := h ▸ count_spec a b c v l A B cc w hr hB hn
theorem l01In_r' (n lo hi : Int) (r : Bool) (h : inB n lo hi = r) (w : World) : Calls Try.prog 32 #[.int .i64 n, .int .i64 lo, .int .i64 hi] w fun e w' => e = .returned (.bool r) ∧ w = w' := h ▸ l01In_any n lo hi w
theorem hcode_impl (a b c : Int) (l : List Int) (A : Option Addr) (B cc : Nat) (w : World) (hr : Rd w B A (ints l)) (hB : B ≤ w.heap.size) (hn : l.length ≤ 1048576) :
   Calls Try.prog 36 #[.agg #[.int .i64 a, .int .i64 b, .int .i64 c], .slice A l.length cc] w fun e w' => e = .returned (.int .i64 (hcode a b c l)) ∧ Below w.heap.size w w' := by
  rcases hcode_cases a b c l with ⟨h1, h⟩ | ⟨h1, h2, h⟩ | ⟨h1, h2, h3, h⟩ | ⟨h1, h2, h3, h⟩
  · rw [h]
    have H1 := Lib.hid h1
    clear h h1
    go_enter Try.func36, Try.ntmps36
    go_wp2_with (first | (go_at_call 42; refine (ruleB_impl_r a b c false H1.out _).mono ?_; rintro e w1 ⟨rfl, hb⟩; obtain ⟨hc, hf, hz⟩ := bstep (N := w.heap.size + 1) (by go_size) hb; have hr1 := Lib.hid ((hr.alloc hB _).below hb (by simp; omega))))
    go_ret
    exact ⟨rfl, by repeat' (first | (with_reducible exact Below.refl _ _) | (with_reducible assumption) | (with_reducible refine Below.alloc ?_ ?_ _) | (with_reducible refine Below.drew ?_) | (with_reducible refine below_drewN ?_ _) | (with_reducible refine Below.setCell ?_ ?_ _) | (with_reducible refine Below.trans ?_ (Below.mono (by assumption) ?_)) | go_size | (exact Below.size (by assumption)))⟩
  · rw [h]
    have H1 := Lib.hid h1
    clear h h1
    go_enter Try.func36, Try.ntmps36
    go_wp2_with (first | (go_at_call 42; refine (ruleB_impl_r a b c true H1.out _).mono ?_; rintro e w1 ⟨rfl, hb⟩; obtain ⟨hc, hf, hz⟩ := bstep (N := w.heap.size + 1) (by go_size) hb; have hr1 := Lib.hid ((hr.alloc hB _).below hb (by simp; omega))))
    go_ret
    exact ⟨rfl, by repeat' (first | (with_reducible exact Below.refl _ _) | (with_reducible assumption) | (with_reducible refine Below.alloc ?_ ?_ _) | (with_reducible refine Below.drew ?_) | (with_reducible refine below_drewN ?_ _) | (with_reducible refine Below.setCell ?_ ?_ _) | (with_reducible refine Below.trans ?_ (Below.mono (by assumption) ?_)) | go_size | (exact Below.size (by assumption)))⟩
  · rw [h]
    have H1 := Lib.hid h1
    have H3 := Lib.hid h3
    clear h h1 h3
    go_enter Try.func36, Try.ntmps36
    go_wp2_with (first | (go_at_call 42; refine (ruleB_impl_r a b c true H1.out _).mono ?_; rintro e w1 ⟨rfl, hb⟩; obtain ⟨hc, hf, hz⟩ := bstep (N := w.heap.size + 1) (by go_size) hb; have hr1 := Lib.hid ((hr.alloc hB _).below hb (by simp; omega))) | (go_at_call 60; refine (conHts_r l A B cc false H3.out _ hr1.out (by omega) hn).mono ?_; rintro e w2 ⟨rfl, hb2⟩; have hz2 := hb2.size))
    go_ret
    exact ⟨rfl, by repeat' (first | (with_reducible exact Below.refl _ _) | (with_reducible assumption) | (with_reducible refine Below.alloc ?_ ?_ _) | (with_reducible refine Below.drew ?_) | (with_reducible refine below_drewN ?_ _) | (with_reducible refine Below.setCell ?_ ?_ _) | (with_reducible refine Below.trans ?_ (Below.mono (by assumption) ?_)) | go_size | (exact Below.size (by assumption)))⟩
  · rw [h]
    have H1 := Lib.hid h1
    have H3 := Lib.hid h3
    clear h h1 h3
    go_enter Try.func36, Try.ntmps36
    go_wp2_with (first | (go_at_call 42; refine (ruleB_impl_r a b c true H1.out _).mono ?_; rintro e w1 ⟨rfl, hb⟩; obtain ⟨hc, hf, hz⟩ := bstep (N := w.heap.size + 1) (by go_size) hb; have hr1 := Lib.hid ((hr.alloc hB _).below hb (by simp; omega))) | (go_at_call 60; refine (conHts_r l A B cc true H3.out _ hr1.out (by omega) hn).mono ?_; rintro e w2 ⟨rfl, hb2⟩; have hz2 := hb2.size))
    go_ret
    exact ⟨rfl, by repeat' (first | (with_reducible exact Below.refl _ _) | (with_reducible assumption) | (with_reducible refine Below.alloc ?_ ?_ _) | (with_reducible refine Below.drew ?_) | (with_reducible refine below_drewN ?_ _) | (with_reducible refine Below.setCell ?_ ?_ _) | (with_reducible refine Below.trans ?_ (Below.mono (by assumption) ?_)) | go_size | (exact Below.size (by assumption)))⟩
theorem hcode_spec (a b c : Int) (l : List Int) (A : Option Addr) (B cc : Nat) (w : World) (hr : Rd w B A (ints l)) (hB : B ≤ w.heap.size) (hn : l.length ≤ 1048576) :
   Calls Try.prog 31 #[.agg #[.int .i64 a, .int .i64 b, .int .i64 c], .slice A l.length cc] w fun e w' => e = .returned (.int .i64 (hcode a b c l)) ∧ Below w.heap.size w w' := by
  cases h1 : ruleB a b c with
  | false =>
    have h : hcode a b c l = 1 := by simp [hcode, h1]
    rw [h]
    have H1 := Lib.hid h1
    clear h h1
    go_enter Try.func31, Try.ntmps31
    go_wp2_with ((go_at_call 41; refine (ruleB_spec_r a b c false H1.out _).mono ?_; rintro e w1 ⟨rfl, hb⟩; obtain ⟨hc, hf, hz⟩ := bstep (N := w.heap.size + 1) (by go_size) hb; have hr1 := Lib.hid ((hr.alloc hB _).below hb (by simp; omega))))
    go_ret
    exact ⟨rfl, by repeat' (first | (with_reducible exact Below.refl _ _) | (with_reducible assumption) | (with_reducible refine Below.alloc ?_ ?_ _) | (with_reducible refine Below.drew ?_) | (with_reducible refine below_drewN ?_ _) | (with_reducible refine Below.setCell ?_ ?_ _) | (with_reducible refine Below.trans ?_ (Below.mono (by assumption) ?_)) | go_size | (exact Below.size (by assumption)))⟩
  | true =>
    by_cases h2 : 24 < l.length
    · have h : hcode a b c l = 3 := by simp [hcode, h1, h2]
      rw [h]
      have H1 := Lib.hid h1
      clear h h1
      go_enter Try.func31, Try.ntmps31
      go_wp2_with ((go_at_call 41; refine (ruleB_spec_r a b c true H1.out _).mono ?_; rintro e w1 ⟨rfl, hb⟩; obtain ⟨hc, hf, hz⟩ := bstep (N := w.heap.size + 1) (by go_size) hb; have hr1 := Lib.hid ((hr.alloc hB _).below hb (by simp; omega))))
      go_ret
      exact ⟨rfl, by repeat' (first | (with_reducible exact Below.refl _ _) | (with_reducible assumption) | (with_reducible refine Below.alloc ?_ ?_ _) | (with_reducible refine Below.drew ?_) | (with_reducible refine below_drewN ?_ _) | (with_reducible refine Below.setCell ?_ ?_ _) | (with_reducible refine Below.trans ?_ (Below.mono (by assumption) ?_)) | go_size | (exact Below.size (by assumption)))⟩
    · have hx : hcode a b c l = if l.all (inB · 1 3000) then 0 else 2 := by simp [hcode, h1, h2]
      have hbad : l.all (inB · 1 3000) = false → 2 = hcode a b c l := fun ha => by rw [hx, ha]; rfl
      have hgood : l.all (inB · 1 3000) = true → 0 = hcode a b c l := fun ha => by rw [hx, ha]; rfl
      have Hbad := Lib.hid hbad
      have Hgood := Lib.hid hgood
      clear hbad hgood
      generalize hcode a b c l = rr at *
      have H1 := Lib.hid h1
      clear hx h1
      go_enter Try.func31, Try.ntmps31
      go_wp2_with ((go_at_call 41; refine (ruleB_spec_r a b c true H1.out _).mono ?_; rintro e w1 ⟨rfl, hb⟩; obtain ⟨hc, hf, hz⟩ := bstep (N := w.heap.size + 1) (by go_size) hb; have hr1 := Lib.hid ((hr.alloc hB _).below hb (by simp; omega))))
      go_loop [5] (fun i => ∃ k : Nat, k ≤ l.length ∧ i = .int .i64 k ∧ (l.take k).all (inB · 1 3000) = true) (fun i => l.length - (intOf i).toNat)
      case atStart => exact ⟨0, Nat.zero_le _, rfl, by simp⟩
      case round =>
        obtain ⟨k, hk, rfl, hall⟩ := hrel
        by_cases hlt : k < l.length
        · have ht := List.getElem?_eq_getElem hlt
          generalize l[k] = x at ht
          obtain ⟨bb, o, rfl, _, c0⟩ := hr1.out.int ht
          have Ht := Lib.hid ht
          have Ha := Lib.hid hall
          clear ht hall
          cases hp : inB x 1 3000 with
          | false =>
            have Hp := Lib.hid hp
            clear hp
            go_wp2_with (go_at_call 32; refine (l01In_r _ _ _ false Hp.out _).mono ?_; rintro e w' ⟨rfl, rfl⟩)
            go_ret
            exact ⟨ret_int (Hbad.out (all_false (inB · 1 3000) l Ht.out Hp.out)), by repeat' (first | (with_reducible exact Below.refl _ _) | (with_reducible assumption) | (with_reducible refine Below.alloc ?_ ?_ _) | (with_reducible refine Below.drew ?_) | (with_reducible refine below_drewN ?_ _) | (with_reducible refine Below.setCell ?_ ?_ _) | (with_reducible refine Below.trans ?_ (Below.mono (by assumption) ?_)) | go_size | (exact Below.size (by assumption)))⟩
          | true =>
            have Hp := Lib.hid hp
            clear hp
            go_wp2_with (go_at_call 32; refine (l01In_r _ _ _ true Hp.out _).mono ?_; rintro e w' ⟨rfl, rfl⟩)
            go_round
            case rel => exact ⟨k + 1, by omega, by go_num, by rw [all_step (inB · 1 3000) l Ht.out, Ha.out]; exact Hp.out⟩
            case measure => simp [intOf]; omega
        · have hk' : k = l.length := by omega
          subst hk'
          rw [List.take_length] at hall
          have Ha := Lib.hid hall
          clear hall
          go_wp2
          go_ret
          exact ⟨ret_int (Hgood.out Ha.out), by repeat' (first | (with_reducible exact Below.refl _ _) | (with_reducible assumption) | (with_reducible refine Below.alloc ?_ ?_ _) | (with_reducible refine Below.drew ?_) | (with_reducible refine below_drewN ?_ _) | (with_reducible refine Below.setCell ?_ ?_ _) | (with_reducible refine Below.trans ?_ (Below.mono (by assumption) ?_)) | go_size | (exact Below.size (by assumption)))⟩
def rowN (a b c : Int) (l : List Int) : Int := if cntV a b c 1 l + cntV a b c 2 l < l.length then 0 else if cntV a b c 2 l < cntV a b c 1 l then 0 else cntV a b c 1 l + (cntV a b c 2 l - cntV a b c 1 l + 1) / 2
def rowC (a b c : Int) (l : List Int) : Int := if cntV a b c 1 l + cntV a b c 2 l < l.length then 5 else if cntV a b c 2 l < cntV a b c 1 l then 4 else 0
theorem below_drew_mono {W w1 : World} {N : Nat} (hb : Below W.drew.heap.size W.drew w1) (hN : N ≤ W.heap.size) : Below N W w1 := below_of_drew hb hN
theorem rows_impl (a b c : Int) (l : List Int) (A : Option Addr) (B cc : Nat) (w : World) (hr : Rd w B A (ints l)) (hB : B ≤ w.heap.size) (hn : l.length ≤ 1048576) :
   Calls Try.prog 38 #[.agg #[.int .i64 a, .int .i64 b, .int .i64 c], .slice A l.length cc] w fun e w' => e = .returned (.tuple #[.int .i64 (rowN a b c l), .int .i64 (rowC a b c l)]) ∧ Below w.heap.size w w' := by
  have h1 := cnt_le' a b c 1 l
  have h2 := cnt_le' a b c 2 l
  obtain ⟨q1, g1⟩ : ∃ q, cntV a b c 1 l = q := ⟨_, rfl⟩
  obtain ⟨q2, g2⟩ : ∃ q, cntV a b c 2 l = q := ⟨_, rfl⟩
  unfold rowN rowC
  rw [g1, g2]
  rw [g1] at h1
  rw [g2] at h2
  have G1 := Lib.hid g1
  have G2 := Lib.hid g2
  clear g1 g2
  have hr1 := Lib.hid (hr.alloc hB (.cells #[.int .i64 a, .int .i64 b, .int .i64 c] 27))
  go_enter Try.func38, Try.ntmps38
  go_wp2_with fail
  go_region_held3 (fun w' => w'.cell? ⟨w.heap.size, 0, none⟩ = some (.int .i64 a) ∧ w'.cell? ⟨w.heap.size, 1, none⟩ = some (.int .i64 b) ∧ w'.cell? ⟨w.heap.size, 2, none⟩ = some (.int .i64 c)) (simp [*, World.cell?_alloc_past]) (first | (go_at_call_of 62 (Value.int .i64 1); refine ((count_impl_r a b c 1 q1 l G1.out A B cc _ hr1.out.drew_ (by simp; omega) hn)).mono ?_; rintro e w1 ⟨rfl, hb⟩; have hr2 := Lib.hid (hr1.out.drew_.below hb (by simp; omega)); obtain ⟨hc, hf, hz⟩ := bstep (N := w.heap.size + 1) (by simp) hb) | (go_at_call_of 62 (Value.int .i64 2); refine ((count_impl_r a b c 2 q2 l G2.out A B cc _ hr2.out (by omega) hn)).mono ?_; rintro e w2 ⟨rfl, hb2⟩; obtain ⟨hc2, hf2, hz2⟩ := bstep (N := w.heap.size + 1) (by omega) hb2))
  clear hc hf hc2 hf2
  go_wp2_with (go_at_call 57; refine (length_any _ _ _ _ hn).mono ?_; rintro e w' ⟨rfl, rfl⟩)
  all_goals go_ret2
  all_goals refine ⟨?_, by repeat' (first | (with_reducible exact Below.refl _ _) | (with_reducible assumption) | (with_reducible refine Below.alloc ?_ ?_ _) | (with_reducible refine Below.drew ?_) | (with_reducible refine below_drewN ?_ _) | (with_reducible refine Below.setCell ?_ ?_ _) | (with_reducible refine Below.trans ?_ (Below.mono (by assumption) ?_)) | go_size | (exact Below.size (by assumption)))⟩
  all_goals refine ret_int2 ?_ ?_
  all_goals first | rfl | (simp [*]; done) | (split <;> first | omega | (split <;> omega)) | omega
theorem rows_spec (a b c : Int) (l : List Int) (A : Option Addr) (B cc : Nat) (w : World) (hr : Rd w B A (ints l)) (hB : B ≤ w.heap.size) (hn : l.length ≤ 1048576) :
   Calls Try.prog 33 #[.agg #[.int .i64 a, .int .i64 b, .int .i64 c], .slice A l.length cc] w fun e w' => e = .returned (.tuple #[.int .i64 (rowN a b c l), .int .i64 (rowC a b c l)]) ∧ Below w.heap.size w w' := by
  have h1 := cnt_le' a b c 1 l
  have h2 := cnt_le' a b c 2 l
  obtain ⟨q1, g1⟩ : ∃ q, cntV a b c 1 l = q := ⟨_, rfl⟩
  obtain ⟨q2, g2⟩ : ∃ q, cntV a b c 2 l = q := ⟨_, rfl⟩
  unfold rowN rowC
  rw [g1, g2]
  rw [g1] at h1
  rw [g2] at h2
  have G1 := Lib.hid g1
  have G2 := Lib.hid g2
  clear g1 g2
  have hr1 := Lib.hid (hr.alloc hB (.cells #[.int .i64 a, .int .i64 b, .int .i64 c] 27))
  go_enter Try.func33, Try.ntmps33
  go_wp2_with fail
  go_region_held3 (fun w' => w'.cell? ⟨w.heap.size, 0, none⟩ = some (.int .i64 a) ∧ w'.cell? ⟨w.heap.size, 1, none⟩ = some (.int .i64 b) ∧ w'.cell? ⟨w.heap.size, 2, none⟩ = some (.int .i64 c)) (simp [*, World.cell?_alloc_past]) (first | (go_at_call_of 34 (Value.int .i64 1); refine ((count_spec_r a b c 1 q1 l G1.out A B cc _ hr1.out.drew_ (by simp; omega) hn)).mono ?_; rintro e w1 ⟨rfl, hb⟩; have hr2 := Lib.hid (hr1.out.drew_.below hb (by simp; omega)); obtain ⟨hc, hf, hz⟩ := bstep (N := w.heap.size + 1) (by simp) hb) | (go_at_call_of 34 (Value.int .i64 2); refine ((count_spec_r a b c 2 q2 l G2.out A B cc _ hr2.out (by omega) hn)).mono ?_; rintro e w2 ⟨rfl, hb2⟩; obtain ⟨hc2, hf2, hz2⟩ := bstep (N := w.heap.size + 1) (by omega) hb2))
  clear hc hf hc2 hf2
  go_wp2_with (go_at_call 57; refine (length_any _ _ _ _ hn).mono ?_; rintro e w' ⟨rfl, rfl⟩)
  all_goals go_ret2
  all_goals refine ⟨?_, by repeat' (first | (with_reducible exact Below.refl _ _) | (with_reducible assumption) | (with_reducible refine Below.alloc ?_ ?_ _) | (with_reducible refine Below.drew ?_) | (with_reducible refine below_drewN ?_ _) | (with_reducible refine Below.setCell ?_ ?_ _) | (with_reducible refine Below.trans ?_ (Below.mono (by assumption) ?_)) | go_size | (exact Below.size (by assumption)))⟩
  all_goals refine ret_int2 ?_ ?_
  all_goals first | rfl | (simp [*]; done) | (split <;> first | omega | (split <;> omega)) | omega
end Go.Proofs.Ytdjbbjehgfkefaa
