/- Devices of a layout and runs of segments: walks. -/
import Derived.Test.YtooifamckccadaaDv
import Derived.Test.YtooifamckccadaaP
namespace Go.Proofs.Ytooifamckccadaa
open Go.ChangeShapes Go.WideShapes Go.ChangeAt Go.RowKit
set_option linter.unusedVariables false
set_option linter.unusedSimpArgs false
set_option maxRecDepth 20000
def kindAt (ls : List Seg) (i : Int) : Int := match ls[i.toNat]? with | some t => t.1 | none => -1
def InRg (l : List Int) (n : Nat) : Prop := ∀ (k : Nat) (x : Int), l[k]? = some x → 0 ≤ x ∧ x < n
theorem all_not_any {τ : Type} (p : τ → Bool) (l : List τ) : l.all (fun t => !p t) = !l.any p := by
  induction l with
  | nil => rfl
  | cons a l ih => simp [ih, Bool.not_or]
def devB (ls : List Seg) (on : List Int) : Bool := risB on ls.length && on.all (fun i => !(kindAt ls i == 0))
def runB (ls : List Seg) (f c : Int) : Bool := inB f 0 ((ls.length : Int) - 1) && inB c 0 24
def rcC (ls : List Seg) (f c lo hi : Int) (on : List Int) : Int := if layB ls && enB lo hi then (if runB ls f c && devB ls on then 0 else 2) else 1
theorem kindAt_nat {ls : List Seg} {k : Nat} {t : Seg} (h : ls[k]? = some t) : kindAt ls (k : Int) = t.1 := by simp [kindAt, h]
theorem dev1_any (i : Int) (ls : List Seg) (Al : Option Addr) (cl cb B : Nat) (w : World) (hcw : w.cell? ⟨cb, 0, none⟩ = some (.slice Al ls.length cl)) (hs : Rd w B Al (ls.flatMap eSegment)) (hi : 0 ≤ i ∧ i < ls.length) :
   Calls Try.prog 145 #[.int .i64 i, .pointer (some ⟨cb, 0, none⟩)] w fun e w' => e = .returned (.bool (kindAt ls i == 0)) ∧ Below w.heap.size w w' := by
  obtain ⟨k, rfl⟩ : ∃ k : Nat, i = k := ⟨i.toNat, by omega⟩
  have hk : k < ls.length := by omega
  have ht := List.getElem?_eq_getElem hk
  generalize ls[k] = t at ht
  obtain ⟨b, o, rfl, hbB, c0, c1, c2, c3, c4, c5, c6⟩ := hs.atSegment ht
  have hka := kindAt_nat ht
  have Hka := Lib.hid hka
  have hi0 : (0 : Int) ≤ (k : Int) := by omega
  have hi1 : (k : Int) < (ls.length : Int) := by omega
  clear hka ht hs c1 c2 c3 c4 c5 c6 hi
  go_enter Try.func145, Try.ntmps145
  go_wp2
  go_ret
  exact ⟨ret_bool (by rw [Hka.out]), Below.refl _ _⟩
theorem length_seg (A : Option Addr) (n c : Nat) (hn : n ≤ 1048576) (w : World) : Calls Try.prog 108 #[.slice A n c] w fun e w' => e = .returned (.int .i64 n) ∧ w = w' := by
  go_enter Try.func108, Try.ntmps108
  go_wp2
  go_ret
  exact ⟨rfl, rfl⟩
theorem idxDev1 (l : List (Int)) (A : Option Addr) (B c : Nat) (ls : List Seg) (Al : Option Addr) (cl : Nat) (cb : Nat) (w : World) (hr : Rd w B A (ints l)) (hB : B ≤ w.heap.size) (hn : l.length ≤ 1048576) (hcap : w.cell? ⟨cb, 0, none⟩ = some (.slice Al ls.length cl)) (hcb : cb < w.heap.size) (hseg : Rd w w.heap.size Al (ls.flatMap eSegment)) (hrg : InRg l ls.length) :
   Calls Try.prog 175 #[.slice A l.length c, .func (Fn.func 145) #[] #[.pointer (some ⟨cb, 0, none⟩)]] w fun e w' => e = .returned (.int .i64 (idxB (fun x => kindAt ls x == 0) l)) ∧ Below w.heap.size w w' := by
  go_enter Try.func175, Try.ntmps175
  go_wp2_with fail
  have HSG := Lib.hid hseg
  have HRG := Lib.hid hrg
  clear hseg hrg
  go_loopw [8] (fun i wr => ∃ k : Nat, k ≤ l.length ∧ i = .int .i64 k ∧ (l.take k).any (fun x => kindAt ls x == 0) = false ∧ Below w.heap.size w wr) (fun i _ => l.length - (intOf i).toNat)
  case atStart => exact ⟨0, Nat.zero_le _, rfl, by simp, Below.refl _ _⟩
  case round =>
    obtain ⟨k, hk, rfl, hall, hbw⟩ := hrel
    by_cases hlt : k < l.length
    · have ht := List.getElem?_eq_getElem hlt
      generalize l[k] = t at ht
      have hsz := hbw.size
      have hcw := (hbw.cell (p := ⟨cb, 0, none⟩) hcb).trans hcap
      have hsw := HSG.out.below hbw (Nat.le_refl _)
      have HSW := Lib.hid hsw
      clear hsw
      have hr' := hr.below hbw hB
      obtain ⟨b, o, rfl, _, c0⟩ := hr'.int ht
      have Ht := Lib.hid ht
      have Ha := Lib.hid hall
      have Hr := Lib.hid hr
      have Hr' := Lib.hid hr'
      clear ht hall hr hr'
      go_wp2_with (go_at_call 145; refine (dev1_any _ ls Al cl cb _ _ hcw HSW.out (HRG.out _ _ Ht.out)).mono ?_; rintro e w1 ⟨rfl, hb⟩)
      · go_ret
        exact ⟨ret_int (by rw [idxB_here _ _ Ht.out Ha.out (by simp_all)]), by repeat' (first | (with_reducible exact Below.refl _ _) | (with_reducible assumption) | (with_reducible refine Below.alloc ?_ ?_ _) | (with_reducible refine Below.drew ?_) | (with_reducible refine below_drewN ?_ _) | (with_reducible refine Below.setCell ?_ ?_ _) | (with_reducible refine Below.trans ?_ (Below.mono (by assumption) ?_)) | go_size | (exact Below.size (by assumption)))⟩
      · go_roundw
        case rel => exact ⟨k + 1, by omega, by go_num, by rw [any_step _ _ Ht.out, Ha.out]; simp_all, by repeat' (first | (with_reducible exact Below.refl _ _) | (with_reducible assumption) | (with_reducible refine Below.alloc ?_ ?_ _) | (with_reducible refine Below.drew ?_) | (with_reducible refine below_drewN ?_ _) | (with_reducible refine Below.setCell ?_ ?_ _) | (with_reducible refine Below.trans ?_ (Below.mono (by assumption) ?_)) | go_size | (exact Below.size (by assumption)))⟩
        case measure => simp [intOf]; omega
    · have hk' : k = l.length := by omega
      subst hk'
      rw [List.take_length] at hall
      have Ha := Lib.hid hall
      clear hall
      go_wp2
      go_ret
      exact ⟨ret_int (by rw [idxB_none _ _ Ha.out]), by repeat' (first | (with_reducible exact Below.refl _ _) | (with_reducible assumption) | (with_reducible refine Below.alloc ?_ ?_ _) | (with_reducible refine Below.drew ?_) | (with_reducible refine below_drewN ?_ _) | (with_reducible refine Below.setCell ?_ ?_ _) | (with_reducible refine Below.trans ?_ (Below.mono (by assumption) ?_)) | go_size | (exact Below.size (by assumption)))⟩
theorem conDev1 (l : List (Int)) (A : Option Addr) (B c : Nat) (ls : List Seg) (Al : Option Addr) (cl : Nat) (cb : Nat) (w : World) (hr : Rd w B A (ints l)) (hB : B ≤ w.heap.size) (hn : l.length ≤ 1048576) (hcap : w.cell? ⟨cb, 0, none⟩ = some (.slice Al ls.length cl)) (hcb : cb < w.heap.size) (hseg : Rd w w.heap.size Al (ls.flatMap eSegment)) (hrg : InRg l ls.length) :
   Calls Try.prog 144 #[.slice A l.length c, .func (Fn.func 145) #[] #[.pointer (some ⟨cb, 0, none⟩)]] w fun e w' => e = .returned (.bool (l.any (fun x => kindAt ls x == 0))) ∧ Below w.heap.size w w' := by
  go_enter Try.func144, Try.ntmps144
  go_wp2_with (go_at_call 175; refine (idxDev1 l A B c ls Al cl cb w hr hB hn hcap hcb hseg hrg).mono ?_; rintro e w1 ⟨rfl, hb⟩)
  go_ret
  exact ⟨ret_bool (idxB_any _ _), by repeat' (first | (with_reducible exact Below.refl _ _) | (with_reducible assumption) | (with_reducible refine Below.alloc ?_ ?_ _) | (with_reducible refine Below.drew ?_) | (with_reducible refine below_drewN ?_ _) | (with_reducible refine Below.setCell ?_ ?_ _) | (with_reducible refine Below.trans ?_ (Below.mono (by assumption) ?_)) | go_size | (exact Below.size (by assumption)))⟩
set_option maxHeartbeats 1000000 in
theorem areDevices_any (ls : List Seg) (on : List Int) (A : Option Addr) (B c : Nat) (A' : Option Addr) (c' : Nat) (w : World) (hs : Rd w B A (ls.flatMap eSegment)) (hr : Rd w B A' (ints on)) (hB : B ≤ w.heap.size) (hn : ls.length ≤ 1048576) (hn2 : on.length ≤ 1048576) :
   Calls Try.prog 77 #[.agg #[.slice A ls.length c], .slice A' on.length c'] w fun e w' => e = .returned (.bool (devB ls on)) ∧ Below w.heap.size w w' := by
  have Hs := Lib.hid hs
  have Hr := Lib.hid hr
  clear hs hr
  cases hq : risB on ls.length with
  | false =>
    have hd : devB ls on = false := by simp [devB, hq]
    have Hd := Lib.hid hd
    have Hc := Lib.hid (fun w' : World => fun h => hq ▸ isRising_any on ls.length A' B c' w' h hn2)
    clear hd hq
    go_enter Try.func77, Try.ntmps77
    go_wp2_with (first | (go_at_call 108; refine (length_seg _ _ _ hn _).mono ?_; rintro e w' ⟨rfl, rfl⟩) | (go_at_call 143; refine (Hc.out _ (by exact Hr.out.alloc hB _)).mono ?_; rintro e w' ⟨rfl, rfl⟩))
    go_ret
    exact ⟨ret_bool Hd.out.symm, by repeat' (first | (with_reducible exact Below.refl _ _) | (with_reducible assumption) | (with_reducible refine Below.alloc ?_ ?_ _) | (with_reducible refine Below.drew ?_) | (with_reducible refine below_drewN ?_ _) | (with_reducible refine Below.setCell ?_ ?_ _) | (with_reducible refine Below.trans ?_ (Below.mono (by assumption) ?_)) | go_size | (exact Below.size (by assumption)))⟩
  | true =>
    have hd : devB ls on = !(on.any (fun x => kindAt ls x == 0)) := by rw [devB, hq, Bool.true_and, all_not_any]
    have Hd := Lib.hid hd
    have Hg := Lib.hid (fun (k : Nat) (x : Int) (h : on[k]? = some x) => risB_at hq h)
    have Hc := Lib.hid (fun w' : World => fun h => hq ▸ isRising_any on ls.length A' B c' w' h hn2)
    clear hd hq
    go_enter Try.func77, Try.ntmps77
    go_wp2_with (first | (go_at_call 108; refine (length_seg _ _ _ hn _).mono ?_; rintro e w' ⟨rfl, rfl⟩) | (go_at_call 143; refine (Hc.out _ (by exact Hr.out.alloc hB _)).mono ?_; rintro e w' ⟨rfl, rfl⟩) | (go_at_call 144; refine (conDev1 on A' B c' ls A c w.heap.size _ (by exact Hr.out.alloc hB _) (by simp; omega) hn2 (by simp) (by simp) (by exact (Hs.out.alloc hB _).more (by simp; omega)) Hg.out).mono ?_; rintro e w1 ⟨rfl, hb⟩))
    go_ret
    exact ⟨ret_bool Hd.out.symm, by repeat' (first | (with_reducible exact Below.refl _ _) | (with_reducible assumption) | (with_reducible refine Below.alloc ?_ ?_ _) | (with_reducible refine Below.drew ?_) | (with_reducible refine below_drewN ?_ _) | (with_reducible refine Below.setCell ?_ ?_ _) | (with_reducible refine Below.trans ?_ (Below.mono (by assumption) ?_)) | go_size | (exact Below.size (by assumption)))⟩
set_option maxHeartbeats 1000000 in
theorem l08Devices_any (ls : List Seg) (on : List Int) (A : Option Addr) (B c : Nat) (A' : Option Addr) (c' : Nat) (w : World) (hs : Rd w B A (ls.flatMap eSegment)) (hr : Rd w B A' (ints on)) (hB : B ≤ w.heap.size) (hn : ls.length ≤ 1048576) (hn2 : on.length ≤ 1048576) :
   Calls Try.prog 83 #[.agg #[.slice A ls.length c], .slice A' on.length c'] w fun e w' => e = .returned (.bool (devB ls on)) ∧ Below w.heap.size w w' := by
  have Hs := Lib.hid hs
  have Hr := Lib.hid hr
  clear hs hr
  have Hc := Lib.hid (fun w' : World => fun h => l01Rises_any on ls.length A' B c' w' h hn2)
  cases hq : risB on ls.length with
  | false =>
    have hd : devB ls on = false := by simp [devB, hq]
    have Hd := Lib.hid hd
    rw [hq] at Hc
    clear hd hq
    go_enter Try.func83, Try.ntmps83
    go_wp2_with (go_at_call 149; refine (Hc.out _ (by exact Hr.out.alloc hB _)).mono ?_; rintro e w' ⟨rfl, qd, rfl⟩)
    go_ret
    exact ⟨ret_bool Hd.out.symm, by repeat' (first | (with_reducible exact Below.refl _ _) | (with_reducible assumption) | (with_reducible refine Below.alloc ?_ ?_ _) | (with_reducible refine Below.drew ?_) | (with_reducible refine below_drewN ?_ _) | (with_reducible refine Below.setCell ?_ ?_ _) | (with_reducible refine Below.trans ?_ (Below.mono (by assumption) ?_)) | go_size | (exact Below.size (by assumption)))⟩
  | true =>
    have hd : devB ls on = on.all (fun x => !(kindAt ls x == 0)) := by rw [devB, hq, Bool.true_and]
    have Hd := Lib.hid hd
    have Hg := Lib.hid (fun (k : Nat) (x : Int) (h : on[k]? = some x) => risB_at hq h)
    rw [hq] at Hc
    clear hd hq
    go_enter Try.func83, Try.ntmps83
    go_wp2_with (go_at_call 149; refine (Hc.out _ (by exact Hr.out.alloc hB _)).mono ?_; rintro e w' ⟨rfl, qd, rfl⟩)
    have hs1 := (Hs.out.alloc hB (.cells #[.slice A ls.length c] 26))
    have hr1 := (Hr.out.alloc hB (.cells #[.slice A ls.length c] 26))
    have Hs1 := Lib.hid hs1
    have Hr1 := Lib.hid hr1
    clear hs1 hr1
    have hc0 : (w.alloc (.cells #[.slice A ls.length c] 26)).cell? ⟨w.heap.size, 0, none⟩ = some (.slice A ls.length c) := by simp
    have hws : w.heap.size < (w.alloc (.cells #[.slice A ls.length c] 26)).heap.size := by simp
    have hwb : Below w.heap.size w (w.alloc (.cells #[.slice A ls.length c] 26)) := by repeat' (first | (with_reducible exact Below.refl _ _) | (with_reducible assumption) | (with_reducible refine Below.alloc ?_ ?_ _) | (with_reducible refine Below.drew ?_) | (with_reducible refine below_drewN ?_ _) | (with_reducible refine Below.setCell ?_ ?_ _) | (with_reducible refine Below.trans ?_ (Below.mono (by assumption) ?_)) | go_size | (exact Below.size (by assumption)))
    have Hwb := Lib.hid hwb
    generalize w.alloc (.cells #[.slice A ls.length c] 26) = wa at *
    clear hwb
    go_loopw [5] (fun i wr => ∃ k : Nat, k ≤ on.length ∧ i = .int .i64 k ∧ (on.take k).all (fun x => !(kindAt ls x == 0)) = true ∧ ∃ q, wr = wa.drewN q) (fun i _ => on.length - (intOf i).toNat)
    case atStart => exact ⟨0, Nat.zero_le _, rfl, by simp, _, rfl⟩
    case round =>
      obtain ⟨k, hk, rfl, hall, qq, rfl⟩ := hrel
      by_cases hlt : k < on.length
      · have ht := List.getElem?_eq_getElem hlt
        generalize on[k] = x at ht
        obtain ⟨hx0, hx1⟩ := Hg.out k x ht
        obtain ⟨i, rfl⟩ : ∃ i : Nat, x = i := ⟨x.toNat, by omega⟩
        have hil : i < ls.length := by omega
        have hu := List.getElem?_eq_getElem hil
        generalize ls[i] = t at hu
        have hka := kindAt_nat hu
        obtain ⟨b, o, rfl, hbB, d0⟩ := Hr1.out.int ht
        obtain ⟨b2, o2, rfl, hbB2, c0, c1, c2, c3, c4, c5, c6⟩ := Hs1.out.atSegment hu
        have hal := all_step (fun x => !(kindAt ls x == 0)) on ht
        rw [hall, Bool.true_and] at hal
        have hff : (t.1 == 0) = true → on.all (fun x => !(kindAt ls x == 0)) = false := fun h => all_false _ on ht (by rw [hka, h]; rfl)
        have Hff := Lib.hid hff
        have Hal := Lib.hid hal
        have Hka := Lib.hid hka
        have hi0 : (0 : Int) ≤ (k : Int) := by omega
        have hi1 : (k : Int) < (on.length : Int) := by omega
        clear hall ht hu hka hal hff c1 c2 c3 c4 c5 c6
        cases hz : (t.1 == 0) with
        | true =>
          go_wp2_with fail
          go_quiet (fail)
          go_wp2
          go_ret
          exact ⟨ret_bool (by rw [Hd.out, Hff.out hz]), by have hwb := Hwb.out; repeat' (first | (with_reducible exact Below.refl _ _) | (with_reducible assumption) | (with_reducible refine Below.alloc ?_ ?_ _) | (with_reducible refine Below.drew ?_) | (with_reducible refine below_drewN ?_ _) | (with_reducible refine Below.setCell ?_ ?_ _) | (with_reducible refine Below.trans ?_ (Below.mono (by assumption) ?_)) | go_size | (exact Below.size (by assumption)))⟩
        | false =>
          have Hz := Lib.hid hz
          go_wp2_with fail
          go_quiet (fail)
          go_wp2
          go_roundw
          case rel => exact ⟨k + 1, by omega, by go_num, by rw [Hal.out, Hka.out, Hz.out]; rfl, _, by first | rfl | exact World.drewN_drewN _ _ _⟩
          case measure => simp [intOf]; omega
      · have hk' : k = on.length := by omega
        subst hk'
        rw [List.take_length] at hall
        have Ha := Lib.hid hall
        clear hall
        go_wp2
        go_ret
        exact ⟨ret_bool (by rw [Hd.out, Ha.out]), by have hwb := Hwb.out; repeat' (first | (with_reducible exact Below.refl _ _) | (with_reducible assumption) | (with_reducible refine Below.alloc ?_ ?_ _) | (with_reducible refine Below.drew ?_) | (with_reducible refine below_drewN ?_ _) | (with_reducible refine Below.setCell ?_ ?_ _) | (with_reducible refine Below.trans ?_ (Below.mono (by assumption) ?_)) | go_size | (exact Below.size (by assumption)))⟩
theorem isRun_any (n : Nat) (A : Option Addr) (c : Nat) (f d : Int) (q : Bool) (hq : (inB f 0 ((n : Int) - 1) && inB d 0 24) = q) (hn : n ≤ 1048576) (w : World) :
   Calls Try.prog 107 #[.agg #[.slice A n c], .int .i64 f, .int .i64 d] w fun e w' => e = .returned (.bool q) ∧ Below w.heap.size w w' := by
  subst hq
  cases h1 : inB f 0 ((n : Int) - 1) with
  | false =>
    have H1 := Lib.hid h1
    clear h1
    go_enter Try.func107, Try.ntmps107
    go_wp2_with (first | (go_at_call 108; refine (length_seg _ _ _ hn _).mono ?_; rintro e w' ⟨rfl, rfl⟩) | (go_at_call 109; refine (within_r _ _ _ false H1.out _).mono ?_; rintro e w' ⟨rfl, rfl⟩))
    go_ret
    exact ⟨rfl, by repeat' (first | (with_reducible exact Below.refl _ _) | (with_reducible assumption) | (with_reducible refine Below.alloc ?_ ?_ _) | (with_reducible refine Below.drew ?_) | (with_reducible refine below_drewN ?_ _) | (with_reducible refine Below.setCell ?_ ?_ _) | (with_reducible refine Below.trans ?_ (Below.mono (by assumption) ?_)) | go_size | (exact Below.size (by assumption)))⟩
  | true =>
    have H1 := Lib.hid h1
    clear h1
    generalize h2 : inB d 0 24 = q
    have H2 := Lib.hid h2
    clear h2
    go_enter Try.func107, Try.ntmps107
    go_wp2_with (first | (go_at_call 108; refine (length_seg _ _ _ hn _).mono ?_; rintro e w' ⟨rfl, rfl⟩) | (go_at_call 109; with_reducible refine (within_r _ _ _ true H1.out _).mono ?_; rintro e w' ⟨rfl, rfl⟩) | (go_at_call 109; with_reducible refine (within_r _ _ _ q H2.out _).mono ?_; rintro e w' ⟨rfl, rfl⟩))
    go_ret
    exact ⟨by simp, by repeat' (first | (with_reducible exact Below.refl _ _) | (with_reducible assumption) | (with_reducible refine Below.alloc ?_ ?_ _) | (with_reducible refine Below.drew ?_) | (with_reducible refine below_drewN ?_ _) | (with_reducible refine Below.setCell ?_ ?_ _) | (with_reducible refine Below.trans ?_ (Below.mono (by assumption) ?_)) | go_size | (exact Below.size (by assumption)))⟩
theorem l06Range_any (n : Nat) (A : Option Addr) (c : Nat) (f d : Int) (q : Bool) (hq : (inB f 0 ((n : Int) - 1) && inB d 0 24) = q) (hn : n ≤ 1048576) (w : World) :
   Calls Try.prog 154 #[.agg #[.slice A n c], .int .i64 f, .int .i64 d] w fun e w' => e = .returned (.bool q) ∧ Below w.heap.size w w' := by
  subst hq
  cases h1 : inB f 0 ((n : Int) - 1) with
  | false =>
    have H1 := Lib.hid h1
    clear h1
    go_enter Try.func154, Try.ntmps154
    go_wp2_with (go_at_call 82; refine (l01In_r _ _ _ false H1.out _).mono ?_; rintro e w' ⟨rfl, rfl⟩)
    go_ret
    exact ⟨rfl, by repeat' (first | (with_reducible exact Below.refl _ _) | (with_reducible assumption) | (with_reducible refine Below.alloc ?_ ?_ _) | (with_reducible refine Below.drew ?_) | (with_reducible refine below_drewN ?_ _) | (with_reducible refine Below.setCell ?_ ?_ _) | (with_reducible refine Below.trans ?_ (Below.mono (by assumption) ?_)) | go_size | (exact Below.size (by assumption)))⟩
  | true =>
    have H1 := Lib.hid h1
    clear h1
    generalize h2 : inB d 0 24 = q
    have H2 := Lib.hid h2
    clear h2
    go_enter Try.func154, Try.ntmps154
    go_wp2_with (first | (go_at_call 82; with_reducible refine (l01In_r _ _ _ true H1.out _).mono ?_; rintro e w' ⟨rfl, rfl⟩) | (go_at_call 82; with_reducible refine (l01In_r _ _ _ q H2.out _).mono ?_; rintro e w' ⟨rfl, rfl⟩))
    go_ret
    exact ⟨by simp, by repeat' (first | (with_reducible exact Below.refl _ _) | (with_reducible assumption) | (with_reducible refine Below.alloc ?_ ?_ _) | (with_reducible refine Below.drew ?_) | (with_reducible refine below_drewN ?_ _) | (with_reducible refine Below.setCell ?_ ?_ _) | (with_reducible refine Below.trans ?_ (Below.mono (by assumption) ?_)) | go_size | (exact Below.size (by assumption)))⟩
end Go.Proofs.Ytooifamckccadaa
