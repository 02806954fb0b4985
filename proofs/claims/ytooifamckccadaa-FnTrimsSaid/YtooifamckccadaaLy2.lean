/- Layouts: which layouts are valid. -/
import Derived.Test.YtooifamckccadaaLy
namespace Go.Proofs.Ytooifamckccadaa
open Go.ChangeShapes Go.WideShapes Go.ChangeAt Go.RowKit
set_option maxRecDepth 20000
set_option linter.unusedVariables false
set_option linter.unusedSimpArgs false
theorem markLayout_any (m : Nat) (A : Option Addr) (base c : Nat) (xs : List Value) (q : Int) (w : World) (hown : w.ownsRow base 39 7 (.slice A m c) m xs) (hq : 0 ≤ q) (hq2 : q ≤ 16777216) (hn : m ≤ 1048576) :
   Calls Try.prog 38 #[.agg #[.slice A m c], .int .i64 q] w fun e w' => e = .returned (.int .i64 (q + (m : Int) * 7)) ∧ w'.ownsRow base 39 7 (.slice A m c) m ((marksSegment q m).flatMap eSegment) ∧ w.grownBy w' (Value.slice A m c).ownBlock := by
  have Ho := Lib.hid hown
  clear hown
  go_enter Try.func38, Try.ntmps38
  go_wp2_with (go_at_call 114; refine (markSegmentS_any m A base c xs q _ (by exact Ho.out.alloc _) hq hq2 hn).mono ?_; rintro e w1 ⟨rfl, o1, g1⟩; have O1 := Lib.hid o1; have G1 := Lib.hid g1; clear o1 g1)
  go_ret
  exact ⟨rfl, O1.out, grownBy_trans (grownBy_below ((Below.refl _ _).alloc (Nat.le_refl _) _)) G1.out⟩
def segT (t : Seg) : Bool := segB t.1 t.2.1 t.2.2.1 t.2.2.2.1 t.2.2.2.2.1 t.2.2.2.2.2.1 t.2.2.2.2.2.2
def riseUp (l : List Seg) : Nat → Int
  | 0 => 0
  | k + 1 => riseUp l k + (match l[k]? with | some t => t.2.2.1 | none => 0)
def lastK (l : List Seg) : Bool := match l[l.length - 1]? with | some t => t.1 == 4 | none => false
def lenB (l : List Seg) : Bool := inB (l.length : Int) 3 24
def layB (l : List Seg) : Bool := l.all segT && lenB l && (riseUp l l.length == 0) && lastK l
theorem riseUp_step {l : List Seg} {k : Nat} {t : Seg} (h : l[k]? = some t) : riseUp l (k + 1) = riseUp l k + t.2.2.1 := by simp [riseUp, h]
theorem seg_rise {t : Seg} (h : segT t = true) : -100000 ≤ t.2.2.1 ∧ t.2.2.1 ≤ 100000 := by
  unfold segT segB inB at h
  simp only [Bool.and_eq_true, decide_eq_true_eq] at h
  omega
theorem riseUp_bds {l : List Seg} : ∀ k, k ≤ l.length → (l.take k).all segT = true → -100000 * (k : Int) ≤ riseUp l k ∧ riseUp l k ≤ 100000 * (k : Int)
  | 0, _, _ => by simp [riseUp]
  | k + 1, hk, h => by
    have ht := List.getElem?_eq_getElem (show k < l.length by omega)
    generalize l[k] = t at ht
    rw [all_step _ _ ht, Bool.and_eq_true] at h
    have ih := riseUp_bds k (by omega) h.1
    have hs := seg_rise h.2
    rw [riseUp_step ht]
    omega
theorem lay_all {l : List Seg} (h : layB l = true) : l.all segT = true ∧ 3 ≤ l.length ∧ l.length ≤ 24 := by
  unfold layB lenB inB at h
  simp only [Bool.and_eq_true, decide_eq_true_eq] at h
  exact ⟨h.1.1.1, by omega, by omega⟩
set_option maxHeartbeats 1000000 in
theorem isLayout_impl (l : List Seg) (A : Option Addr) (B c : Nat) (w : World) (hr : Rd w B A (l.flatMap eSegment)) (hB : B ≤ w.heap.size) (hn : l.length ≤ 1048576) :
   Calls Try.prog 106 #[.agg #[.slice A l.length c]] w fun e w' => e = .returned (.bool (layB l)) ∧ Below w.heap.size w w' := by
  have Hr := Lib.hid hr
  clear hr
  go_enter Try.func106, Try.ntmps106
  go_wp2_with fail
  go_loopw [3, 10] (fun s i wr => ∃ k : Nat, k ≤ l.length ∧ i = .int .i64 k ∧ s = .int .i64 (riseUp l k) ∧ (l.take k).all segT = true ∧ Below w.heap.size w wr ∧ w.heap.size < wr.heap.size ∧ wr.cell? ⟨w.heap.size, 0, none⟩ = some (.slice A l.length c)) (fun _ i _ => l.length - (intOf i).toNat)
  case atStart => exact ⟨0, Nat.zero_le _, rfl, rfl, by simp, (Below.refl _ _).alloc (Nat.le_refl _) _, by simp, by simp⟩
  case round =>
    obtain ⟨k, hk, rfl, rfl, hall, hbw, hsz, c9⟩ := hrel
    have hbd := riseUp_bds k hk hall
    by_cases hlt : k < l.length
    · have ht := List.getElem?_eq_getElem hlt
      generalize l[k] = t at ht
      obtain ⟨b, o, rfl, hbB, c0, c1, c2, c3, c4, c5, c6⟩ := (Hr.out.below hbw hB).atSegment ht
      have hal := all_step segT l ht
      rw [hall, Bool.true_and] at hal
      have hst := riseUp_step ht
      have hfalse : segT t = false → layB l = false := fun h => by simp [layB, all_false segT l ht h]
      have Hf := Lib.hid hfalse
      have Hst := Lib.hid hst
      have Hal := Lib.hid hal
      have hrs : segT t = true → -100000 ≤ t.2.2.1 ∧ t.2.2.1 ≤ 100000 := seg_rise
      have Hrs := Lib.hid hrs
      have Hsg := Lib.hid (fun w' => isSegment_impl t.1 t.2.1 t.2.2.1 t.2.2.2.1 t.2.2.2.2.1 t.2.2.2.2.2.1 t.2.2.2.2.2.2 w')
      have hq0 : segB t.1 t.2.1 t.2.2.1 t.2.2.2.1 t.2.2.2.2.1 t.2.2.2.2.2.1 t.2.2.2.2.2.2 = segT t := rfl
      rw [hq0] at Hsg
      generalize segT t = q at *
      generalize riseUp l k = s at *
      have hbne : b ≠ wr.heap.size := by omega
      clear hall ht hal hst hfalse hrs hq0
      cases q with
      | false =>
        go_wp2_with (go_at_call 89; refine (Hsg.out _).mono ?_; rintro e w1 ⟨rfl, hb⟩; obtain ⟨hc, hf, hz⟩ := bstep (N := wr.heap.size + 1) (by go_size) hb)
        go_ret
        exact ⟨ret_bool (Hf.out (by simp)).symm, by repeat' (first | (with_reducible exact Below.refl _ _) | (with_reducible assumption) | (with_reducible refine Below.alloc ?_ ?_ _) | (with_reducible refine Below.drew ?_) | (with_reducible refine below_drewN ?_ _) | (with_reducible refine Below.setCell ?_ ?_ _) | (with_reducible refine Below.trans ?_ (Below.mono (by assumption) ?_)) | go_size | (exact Below.size (by assumption)))⟩
      | true =>
        obtain ⟨r1, r2⟩ := Hrs.out (by simp)
        go_wp2_with (go_at_call 89; refine (Hsg.out _).mono ?_; rintro e w1 ⟨rfl, hb⟩; obtain ⟨hc, hf, hz⟩ := bstep (N := wr.heap.size + 1) (by go_size) hb; have hy : wr.heap.size < w1.heap.size := hz; have hy2 : w.heap.size < w1.heap.size := (by omega))
        go_roundw
        case rel => exact ⟨k + 1, by omega, by go_num, by rw [Hst.out], by rw [Hal.out], by repeat' (first | (with_reducible exact Below.refl _ _) | (with_reducible assumption) | (with_reducible refine Below.alloc ?_ ?_ _) | (with_reducible refine Below.drew ?_) | (with_reducible refine below_drewN ?_ _) | (with_reducible refine Below.setCell ?_ ?_ _) | (with_reducible refine Below.trans ?_ (Below.mono (by assumption) ?_)) | go_size | (exact Below.size (by assumption))), by omega, by first | (rw [hc _ _ (by omega)]; simp [*]; done) | go_cell⟩
        case measure => simp [intOf]; omega
    · have hk' : k = l.length := by omega
      subst hk'
      rw [List.take_length] at hall
      have hlay : layB l = (lenB l && (riseUp l l.length == 0) && lastK l) := by simp only [layB, hall, Bool.true_and]
      have Hlay := Lib.hid hlay
      generalize hs : riseUp l l.length = s at *
      cases hq : lenB l with
      | false =>
        have Hq := Lib.hid (show inB (l.length : Int) 3 24 = false from hq)
        clear hlay hall hs hq
        go_wp2_with (go_at_call 109; refine (within_r _ _ _ false Hq.out _).mono ?_; rintro e w' ⟨rfl, rfl⟩)
        go_ret
        exact ⟨ret_bool (by rw [Hlay.out, show lenB l = false from Hq.out]; rfl), by repeat' (first | (with_reducible exact Below.refl _ _) | (with_reducible assumption) | (with_reducible refine Below.alloc ?_ ?_ _) | (with_reducible refine Below.drew ?_) | (with_reducible refine below_drewN ?_ _) | (with_reducible refine Below.setCell ?_ ?_ _) | (with_reducible refine Below.trans ?_ (Below.mono (by assumption) ?_)) | go_size | (exact Below.size (by assumption)))⟩
      | true =>
        have Hq := Lib.hid (show inB (l.length : Int) 3 24 = true from hq)
        have h3 : 3 ≤ l.length := by unfold lenB inB at hq; simp only [Bool.and_eq_true, decide_eq_true_eq] at hq; omega
        have ht := List.getElem?_eq_getElem (show l.length - 1 < l.length by omega)
        generalize l[l.length - 1] = t at ht
        obtain ⟨b, o, rfl, hbB, c0, c1, c2, c3, c4, c5, c6⟩ := (Hr.out.below hbw hB).atSegment ht
        have hlk : lastK l = (t.1 == 4) := by simp [lastK, ht]
        have Hlk := Lib.hid hlk
        obtain ⟨n, hn1⟩ : ∃ n : Nat, l.length = n + 1 := ⟨l.length - 1, by omega⟩
        rw [hn1, Nat.add_sub_cancel] at c0
        have e1 : ((l.length : Int) - 1) = (n : Int) := by omega
        have hj0 : (0 : Int) ≤ (n : Int) := by omega
        have hj1 : (n : Int) < (l.length : Int) := by omega
        have hj2 : n < l.length := by omega
        clear hlay hall hs hq c1 c2 c3 c4 c5 c6 ht hlk hn1
        cases hkk : (t.1 == 4) with
        | false =>
          have Hk := Lib.hid hkk
          go_wp2_with (go_at_call 109; refine (within_r _ _ _ true Hq.out _).mono ?_; rintro e w' ⟨rfl, rfl⟩)
          go_ret
          exact ⟨ret_bool (by rw [Hlay.out, show lenB l = true from Hq.out, Hlk.out, Hk.out]; simp), by repeat' (first | (with_reducible exact Below.refl _ _) | (with_reducible assumption) | (with_reducible refine Below.alloc ?_ ?_ _) | (with_reducible refine Below.drew ?_) | (with_reducible refine below_drewN ?_ _) | (with_reducible refine Below.setCell ?_ ?_ _) | (with_reducible refine Below.trans ?_ (Below.mono (by assumption) ?_)) | go_size | (exact Below.size (by assumption)))⟩
        | true =>
          have Hk := Lib.hid hkk
          go_wp2_with (go_at_call 109; refine (within_r _ _ _ true Hq.out _).mono ?_; rintro e w' ⟨rfl, rfl⟩)
          go_ret
          exact ⟨ret_bool (by rw [Hlay.out, show lenB l = true from Hq.out, Hlk.out, Hk.out]; simp), by repeat' (first | (with_reducible exact Below.refl _ _) | (with_reducible assumption) | (with_reducible refine Below.alloc ?_ ?_ _) | (with_reducible refine Below.drew ?_) | (with_reducible refine below_drewN ?_ _) | (with_reducible refine Below.setCell ?_ ?_ _) | (with_reducible refine Below.trans ?_ (Below.mono (by assumption) ?_)) | go_size | (exact Below.size (by assumption)))⟩
set_option maxHeartbeats 1000000 in
theorem isLayout_spec (l : List Seg) (A : Option Addr) (B c : Nat) (w : World) (hr : Rd w B A (l.flatMap eSegment)) (hB : B ≤ w.heap.size) (hn : l.length ≤ 1048576) :
   Calls Try.prog 99 #[.agg #[.slice A l.length c]] w fun e w' => e = .returned (.bool (layB l)) ∧ Below w.heap.size w w' := by
  have Hr := Lib.hid hr
  clear hr
  by_cases hlo : l.length < 3
  · have hlay : layB l = false := by simp [layB, lenB, inB]; omega
    have Hlay := Lib.hid hlay
    have hd : decide ((l.length : Int) < 3) = true := by simp; omega
    clear hlay
    go_enter Try.func99, Try.ntmps99
    go_wp2
    go_ret
    exact ⟨ret_bool Hlay.out.symm, by repeat' (first | (with_reducible exact Below.refl _ _) | (with_reducible assumption) | (with_reducible refine Below.alloc ?_ ?_ _) | (with_reducible refine Below.drew ?_) | (with_reducible refine below_drewN ?_ _) | (with_reducible refine Below.setCell ?_ ?_ _) | (with_reducible refine Below.trans ?_ (Below.mono (by assumption) ?_)) | go_size | (exact Below.size (by assumption)))⟩
  have hd : decide ((l.length : Int) < 3) = false := by simp; omega
  by_cases hhi : 24 < l.length
  · have hlay : layB l = false := by simp [layB, lenB, inB]; omega
    have Hlay := Lib.hid hlay
    have hd2 : decide (24 < (l.length : Int)) = true := by simp; omega
    clear hlay
    go_enter Try.func99, Try.ntmps99
    go_wp2
    go_ret
    exact ⟨ret_bool Hlay.out.symm, by repeat' (first | (with_reducible exact Below.refl _ _) | (with_reducible assumption) | (with_reducible refine Below.alloc ?_ ?_ _) | (with_reducible refine Below.drew ?_) | (with_reducible refine below_drewN ?_ _) | (with_reducible refine Below.setCell ?_ ?_ _) | (with_reducible refine Below.trans ?_ (Below.mono (by assumption) ?_)) | go_size | (exact Below.size (by assumption)))⟩
  have hd2 : decide (24 < (l.length : Int)) = false := by simp; omega
  have hq : lenB l = true := by simp [lenB, inB]; omega
  go_enter Try.func99, Try.ntmps99
  go_wp2_with fail
  clear hd hd2
  go_loopw [4, 5] (fun s i wr => ∃ k : Nat, k ≤ l.length ∧ i = .int .i64 k ∧ s = .int .i64 (riseUp l k) ∧ (l.take k).all segT = true ∧ Below w.heap.size w wr ∧ w.heap.size < wr.heap.size ∧ wr.cell? ⟨w.heap.size, 0, none⟩ = some (.slice A l.length c)) (fun _ i _ => l.length - (intOf i).toNat)
  case atStart => exact ⟨0, Nat.zero_le _, rfl, rfl, by simp, (Below.refl _ _).alloc (Nat.le_refl _) _, by simp, by simp⟩
  case round =>
    obtain ⟨k, hk, rfl, rfl, hall, hbw, hsz, c9⟩ := hrel
    have hbd := riseUp_bds k hk hall
    by_cases hlt : k < l.length
    · have ht := List.getElem?_eq_getElem hlt
      generalize l[k] = t at ht
      obtain ⟨b, o, rfl, hbB, c0, c1, c2, c3, c4, c5, c6⟩ := (Hr.out.below hbw hB).atSegment ht
      have hal := all_step segT l ht
      rw [hall, Bool.true_and] at hal
      have hst := riseUp_step ht
      have hfalse : segT t = false → layB l = false := fun h => by simp [layB, all_false segT l ht h]
      have Hf := Lib.hid hfalse
      have Hst := Lib.hid hst
      have Hal := Lib.hid hal
      have hrs : segT t = true → -100000 ≤ t.2.2.1 ∧ t.2.2.1 ≤ 100000 := seg_rise
      have Hrs := Lib.hid hrs
      have Hsg := Lib.hid (fun w' => isSegment_spec t.1 t.2.1 t.2.2.1 t.2.2.2.1 t.2.2.2.2.1 t.2.2.2.2.2.1 t.2.2.2.2.2.2 w')
      have hq0 : segB t.1 t.2.1 t.2.2.1 t.2.2.2.1 t.2.2.2.2.1 t.2.2.2.2.2.1 t.2.2.2.2.2.2 = segT t := rfl
      rw [hq0] at Hsg
      have Hqq := Lib.hid hq
      generalize segT t = q at *
      generalize riseUp l k = s at *
      have hbs : b < wr.heap.size := by omega
      clear hall ht hal hst hfalse hrs hq0 hq
      cases q with
      | false =>
        go_wp2_with (go_at_call 94; refine (Hsg.out _).mono ?_; rintro e w1 ⟨rfl, hb⟩; obtain ⟨hc, hf, hz⟩ := bstep (N := wr.heap.size) (by go_size) hb)
        go_ret
        exact ⟨ret_bool (Hf.out (by simp)).symm, by repeat' (first | (with_reducible exact Below.refl _ _) | (with_reducible assumption) | (with_reducible refine Below.alloc ?_ ?_ _) | (with_reducible refine Below.drew ?_) | (with_reducible refine below_drewN ?_ _) | (with_reducible refine Below.setCell ?_ ?_ _) | (with_reducible refine Below.trans ?_ (Below.mono (by assumption) ?_)) | go_size | (exact Below.size (by assumption)))⟩
      | true =>
        obtain ⟨r1, r2⟩ := Hrs.out (by simp)
        go_wp2_with (go_at_call 94; refine (Hsg.out _).mono ?_; rintro e w1 ⟨rfl, hb⟩; obtain ⟨hc, hf, hz⟩ := bstep (N := wr.heap.size) (by go_size) hb; have hy2 : w.heap.size < w1.heap.size := (by omega))
        go_roundw
        case rel => exact ⟨k + 1, by omega, by go_num, by rw [Hst.out], by rw [Hal.out], by repeat' (first | (with_reducible exact Below.refl _ _) | (with_reducible assumption) | (with_reducible refine Below.alloc ?_ ?_ _) | (with_reducible refine Below.drew ?_) | (with_reducible refine below_drewN ?_ _) | (with_reducible refine Below.setCell ?_ ?_ _) | (with_reducible refine Below.trans ?_ (Below.mono (by assumption) ?_)) | go_size | (exact Below.size (by assumption))), by omega, by first | (rw [hc _ _ (by omega)]; simp [*]; done) | go_cell⟩
        case measure => simp [intOf]; omega
    · have hk' : k = l.length := by omega
      subst hk'
      rw [List.take_length] at hall
      have hlay : layB l = (lenB l && (riseUp l l.length == 0) && lastK l) := by simp only [layB, hall, Bool.true_and]
      rw [hq] at hlay
      have Hlay := Lib.hid hlay
      have h3 : 3 ≤ l.length := by omega
      have ht := List.getElem?_eq_getElem (show l.length - 1 < l.length by omega)
      generalize l[l.length - 1] = t at ht
      obtain ⟨b, o, rfl, hbB, c0, c1, c2, c3, c4, c5, c6⟩ := (Hr.out.below hbw hB).atSegment ht
      have hlk : lastK l = (t.1 == 4) := by simp [lastK, ht]
      have Hlk := Lib.hid hlk
      obtain ⟨n, hn1⟩ : ∃ n : Nat, l.length = n + 1 := ⟨l.length - 1, by omega⟩
      rw [hn1, Nat.add_sub_cancel] at c0
      have e1 : ((l.length : Int) - 1) = (n : Int) := by omega
      have hj0 : (0 : Int) ≤ (n : Int) := by omega
      have hj1 : (n : Int) < (l.length : Int) := by omega
      have hj2 : n < l.length := by omega
      generalize hs : riseUp l l.length = s at *
      clear hlay hall hs hq c1 c2 c3 c4 c5 c6 ht hlk hn1
      cases hss : (s == 0) with
      | false =>
        have Hs := Lib.hid hss
        go_wp2
        go_ret
        exact ⟨ret_bool (by rw [Hlay.out, Hs.out]; simp), by repeat' (first | (with_reducible exact Below.refl _ _) | (with_reducible assumption) | (with_reducible refine Below.alloc ?_ ?_ _) | (with_reducible refine Below.drew ?_) | (with_reducible refine below_drewN ?_ _) | (with_reducible refine Below.setCell ?_ ?_ _) | (with_reducible refine Below.trans ?_ (Below.mono (by assumption) ?_)) | go_size | (exact Below.size (by assumption)))⟩
      | true =>
        have Hs := Lib.hid hss
        cases hkk : (t.1 == 4) with
        | false =>
          have Hk := Lib.hid hkk
          go_wp2
          go_ret
          exact ⟨ret_bool (by rw [Hlay.out, Hs.out, Hlk.out, Hk.out]; simp), by repeat' (first | (with_reducible exact Below.refl _ _) | (with_reducible assumption) | (with_reducible refine Below.alloc ?_ ?_ _) | (with_reducible refine Below.drew ?_) | (with_reducible refine below_drewN ?_ _) | (with_reducible refine Below.setCell ?_ ?_ _) | (with_reducible refine Below.trans ?_ (Below.mono (by assumption) ?_)) | go_size | (exact Below.size (by assumption)))⟩
        | true =>
          have Hk := Lib.hid hkk
          go_wp2
          go_ret
          exact ⟨ret_bool (by rw [Hlay.out, Hs.out, Hlk.out, Hk.out]; simp), by repeat' (first | (with_reducible exact Below.refl _ _) | (with_reducible assumption) | (with_reducible refine Below.alloc ?_ ?_ _) | (with_reducible refine Below.drew ?_) | (with_reducible refine below_drewN ?_ _) | (with_reducible refine Below.setCell ?_ ?_ _) | (with_reducible refine Below.trans ?_ (Below.mono (by assumption) ?_)) | go_size | (exact Below.size (by assumption)))⟩
end Go.Proofs.Ytooifamckccadaa
