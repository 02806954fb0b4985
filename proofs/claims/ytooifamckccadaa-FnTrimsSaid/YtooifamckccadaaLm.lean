/- Limits of layouts: walks. -/
import Derived.Test.YtooifamckccadaaTp
import Derived.Test.YtooifamckccadaaP
namespace Go.Proofs.Ytooifamckccadaa
open Go.ChangeShapes Go.WideShapes Go.ChangeAt Go.RowKit
set_option linter.unusedVariables false
set_option linter.unusedSimpArgs false
set_option maxRecDepth 20000
theorem runP_full (ls : List Seg) (on : List Int) (h0 : 0 < ls.length) : ∀ (n k : Nat) (e : Ivl), (runP ls on n k e).2 = 0 → (runP ls on n k e).1.length = n
  | 0, _, _, _ => by simp [runP]
  | n + 1, k, e, h => by
    have ht := List.getElem?_eq_getElem (Nat.mod_lt k h0)
    by_cases hb : badP (nextP on (k % ls.length) (ls[k % ls.length]'(Nat.mod_lt k h0)) e) = 0
    · rw [runP_ok ht hb] at h ⊢
      simp only [List.length_cons]
      rw [runP_full ls on h0 n (k + 1) _ h]
    · rw [runP_bad ht hb] at h
      exact absurd h hb
theorem alR_full {ls : List Seg} {on : List Int} {f n lo hi : Int} (h : alC ls on f n lo hi = 0) : ((alR ls on f n lo hi).length : Int) = n ∧ 0 ≤ f ∧ f < ls.length ∧ n ≤ 24 ∧ 0 < ls.length ∧ ls.length ≤ 24 := by
  by_cases h0 : rcC ls f n lo hi on = 0
  · obtain ⟨hl, _, hr, _⟩ := rcC_zero h0
    obtain ⟨_, hlen3, hlen24⟩ := lay_all hl
    obtain ⟨f', n', rfl, rfl, h24, hf⟩ := run_nat hr
    have h1 : (rnP ls on (f' : Int) (n' : Int) lo hi).2 = 0 := by rw [alC, if_pos h0] at h; exact h
    have h2 := runP_full ls on (by omega) _ _ _ h1
    rw [alR, if_pos h, rnP]
    simp only [Int.toNat_natCast] at h2 ⊢
    rw [h2]
    omega
  · exact absurd (by rw [alC, if_neg h0] at h; exact h) h0
def limB (ls : List Seg) (lim : List Int) : Bool := decide (lim.length = ls.length) && lim.all (fun x => inB x 0 100000)
def ovT (lim : List Int) (f : Nat) (l : List Ivl) (k : Nat) : Bool := match l[k]?, lim[(f + k) % lim.length]? with
  | some x, some m => decide (m * m < x.2)
  | _, _ => false
theorem ovT_at {lim : List Int} {f : Nat} {l : List Ivl} {k : Nat} {x : Ivl} {m : Int} (h1 : l[k]? = some x) (h2 : lim[(f + k) % lim.length]? = some m) : ovT lim f l k = decide (m * m < x.2) := by simp [ovT, h1, h2]
def ovF (lim : List Int) (f : Nat) (l : List Ivl) : Int := match (List.range l.length).find? (ovT lim f l) with | some k => (k : Int) | none => -1
theorem ovF_here {lim : List Int} {f : Nat} {l : List Ivl} {k : Nat} (hk : k < l.length) (hb : ∀ j, j < k → ovT lim f l j = false) (hp : ovT lim f l k = true) : ovF lim f l = k := by
  have : (List.range l.length).find? (ovT lim f l) = some k := by
    rw [List.find?_range_eq_some]
    exact ⟨hp, by simpa using hk, fun j hj => by simp [hb j hj]⟩
  simp [ovF, this]
theorem ovF_none {lim : List Int} {f : Nat} {l : List Ivl} (hb : ∀ j, j < l.length → ovT lim f l j = false) : ovF lim f l = -1 := by
  have : (List.range l.length).find? (ovT lim f l) = none := by
    rw [List.find?_eq_none]
    intro j hj
    simp [hb j (List.mem_range.1 hj)]
  simp [ovF, this]
theorem ovF_ge (lim : List Int) (f : Nat) (l : List Ivl) : -1 ≤ ovF lim f l := by
  unfold ovF
  split <;> omega
def foC (ls : List Seg) (on lim : List Int) (f n lo hi : Int) : Int := if layB ls && enB lo hi then (if limB ls lim then alC ls on f n lo hi else 2) else 1
def foV (ls : List Seg) (on lim : List Int) (f n lo hi : Int) : Int := if foC ls on lim f n lo hi = 0 then ovF lim f.toNat (alR ls on f n lo hi) else 0
def wlB (ls : List Seg) (on lim : List Int) (f n lo hi : Int) : Bool := (foC ls on lim f n lo hi == 0) && (foV ls on lim f n lo hi == -1)
theorem lim_at {ls : List Seg} {lim : List Int} (h : limB ls lim = true) {j : Nat} {m : Int} (hj : lim[j]? = some m) : 0 ≤ m ∧ m ≤ 100000 := by
  simp only [limB, Bool.and_eq_true, List.all_eq_true] at h
  exact inB_iff (h.2 m (List.mem_of_getElem? hj))
theorem lim_len {ls : List Seg} {lim : List Int} (h : limB ls lim = true) : lim.length = ls.length := by
  simp only [limB, Bool.and_eq_true, decide_eq_true_eq] at h
  exact h.1
theorem sq_wrap {m : Int} (h1 : 0 ≤ m) (h2 : m ≤ 100000) : IntKind.i64.wrap (m * m) = m * m := by
  have a : 0 ≤ m * m := Int.mul_nonneg h1 h1
  have b : m * m ≤ 100000 * 100000 := Int.mul_le_mul h2 h2 h1 (by omega)
  exact IntWalk.i64_in _ (by omega)
theorem length_i64 (A : Option Addr) (n c : Nat) (hn : n ≤ 1048576) (w : World) : Calls Try.prog 126 #[.slice A n c] w fun e w' => e = .returned (.int .i64 n) ∧ w = w' := by
  go_enter Try.func126, Try.ntmps126
  go_wp2
  go_ret
  exact ⟨rfl, rfl⟩
theorem lim1_any (x : Int) (w : World) : Calls Try.prog 165 #[.int .i64 x] w fun e w' => e = .returned (.bool (!inB x 0 100000)) ∧ Below w.heap.size w w' := by
  go_enter Try.func165, Try.ntmps165
  go_wp2_with (go_at_call 109; refine (within_any _ _ _ _).mono ?_; rintro e w' ⟨rfl, rfl⟩)
  go_ret
  exact ⟨rfl, Below.refl _ _⟩

theorem idxLim1 (l : List (Int)) (A : Option Addr) (B c : Nat)  (w : World) (hr : Rd w B A (ints l)) (hB : B ≤ w.heap.size) (hn : l.length ≤ 1048576)  :
   Calls Try.prog 175 #[.slice A l.length c, .func (Fn.func 165) #[] #[]] w fun e w' => e = .returned (.int .i64 (idxB (fun x => !inB x 0 100000) l)) ∧ Below w.heap.size w w' := by
  go_enter Try.func175, Try.ntmps175
  go_wp2_with fail
  go_loopw [8] (fun i wr => ∃ k : Nat, k ≤ l.length ∧ i = .int .i64 k ∧ (l.take k).any (fun x => !inB x 0 100000) = false ∧ Below w.heap.size w wr) (fun i _ => l.length - (intOf i).toNat)
  case atStart => exact ⟨0, Nat.zero_le _, rfl, by simp, Below.refl _ _⟩
  case round =>
    obtain ⟨k, hk, rfl, hall, hbw⟩ := hrel
    by_cases hlt : k < l.length
    · have ht := List.getElem?_eq_getElem hlt
      generalize l[k] = t at ht
      have hsz := hbw.size
      have hr' := hr.below hbw hB
      obtain ⟨b, o, rfl, _, c0⟩ := hr'.int ht
      have Ht := Lib.hid ht
      have Ha := Lib.hid hall
      have Hr := Lib.hid hr
      have Hr' := Lib.hid hr'
      clear ht hall hr hr'
      go_wp2_with (go_at_call 165; refine (lim1_any _ _).mono ?_; rintro e w1 ⟨rfl, hb⟩)
      · go_ret
        exact ⟨ret_int (by rw [idxB_here _ _ Ht.out Ha.out (by simp_all)]), by repeat' (first | (with_reducible exact Below.refl _ _) | (with_reducible assumption) | (with_reducible refine Below.alloc ?_ ?_ _) | (with_reducible refine Below.drew ?_) | (with_reducible refine below_drewN ?_ _) | (with_reducible refine Below.setCell ?_ ?_ _) | (with_reducible refine Below.trans ?_ (Below.mono (by assumption) ?_)) | go_size | (exact Below.size (by assumption)))⟩
      · go_roundw
        case rel => exact ⟨k + 1, by omega, by go_num, by rw [any_step _ _ Ht.out, Ha.out]; simp_all, by repeat' (first | (with_reducible exact Below.refl _ _) | (with_reducible assumption) | (with_reducible refine Below.alloc ?_ ?_ _) | (with_reducible refine Below.drew ?_) | (with_reducible refine below_drewN ?_ _) | (with_reducible refine Below.setCell ?_ ?_ _) | (with_reducible refine Below.trans ?_ (Below.mono (by assumption) ?_)) | go_size | (exact Below.size (by assumption)))⟩
        case measure => simp [intOf]; omega
    · have hk' : k = l.length := by omega
      subst hk'
      rw [List.take_length] at hall
      have Ha := Lib.hid hall
      clear hall
      go_wp2
      go_ret
      exact ⟨ret_int (by rw [idxB_none _ _ Ha.out]), by repeat' (first | (with_reducible exact Below.refl _ _) | (with_reducible assumption) | (with_reducible refine Below.alloc ?_ ?_ _) | (with_reducible refine Below.drew ?_) | (with_reducible refine below_drewN ?_ _) | (with_reducible refine Below.setCell ?_ ?_ _) | (with_reducible refine Below.trans ?_ (Below.mono (by assumption) ?_)) | go_size | (exact Below.size (by assumption)))⟩
theorem conLim1 (l : List (Int)) (A : Option Addr) (B c : Nat)  (w : World) (hr : Rd w B A (ints l)) (hB : B ≤ w.heap.size) (hn : l.length ≤ 1048576)  :
   Calls Try.prog 144 #[.slice A l.length c, .func (Fn.func 165) #[] #[]] w fun e w' => e = .returned (.bool (l.any (fun x => !inB x 0 100000))) ∧ Below w.heap.size w w' := by
  go_enter Try.func144, Try.ntmps144
  go_wp2_with (go_at_call 175; refine (idxLim1 l A B c  w hr hB hn ).mono ?_; rintro e w1 ⟨rfl, hb⟩)
  go_ret
  exact ⟨ret_bool (idxB_any _ _), by repeat' (first | (with_reducible exact Below.refl _ _) | (with_reducible assumption) | (with_reducible refine Below.alloc ?_ ?_ _) | (with_reducible refine Below.drew ?_) | (with_reducible refine below_drewN ?_ _) | (with_reducible refine Below.setCell ?_ ?_ _) | (with_reducible refine Below.trans ?_ (Below.mono (by assumption) ?_)) | go_size | (exact Below.size (by assumption)))⟩
theorem areLimits_any (ls : List Seg) (lim : List Int) (A : Option Addr) (B c : Nat) (A' : Option Addr) (c' : Nat) (w : World) (hr : Rd w B A' (ints lim)) (hB : B ≤ w.heap.size) (hn : ls.length ≤ 1048576) (hn2 : lim.length ≤ 1048576) :
   Calls Try.prog 125 #[.agg #[.slice A ls.length c], .slice A' lim.length c'] w fun e w' => e = .returned (.bool (limB ls lim)) ∧ Below w.heap.size w w' := by
  have Hr := Lib.hid hr
  clear hr
  by_cases hl : lim.length = ls.length
  · have hd : limB ls lim = !(lim.any (fun x => !inB x 0 100000)) := by rw [limB, decide_eq_true hl, Bool.true_and, any_not_all, Bool.not_not]
    have Hd := Lib.hid hd
    have hlb : ((lim.length : Int) == (ls.length : Int)) = true := by rw [beq_iff_eq]; omega
    clear hd hl
    go_enter Try.func125, Try.ntmps125
    go_wp2_with (go_at_call 144; refine (conLim1 lim A' B c' _ (by exact Hr.out.alloc hB _) (by simp; omega) hn2).mono ?_; rintro e w1 ⟨rfl, hb⟩)
    go_ret
    exact ⟨ret_bool Hd.out.symm, by repeat' (first | (with_reducible exact Below.refl _ _) | (with_reducible assumption) | (with_reducible refine Below.alloc ?_ ?_ _) | (with_reducible refine Below.drew ?_) | (with_reducible refine below_drewN ?_ _) | (with_reducible refine Below.setCell ?_ ?_ _) | (with_reducible refine Below.trans ?_ (Below.mono (by assumption) ?_)) | go_size | (exact Below.size (by assumption)))⟩
  · have hd : limB ls lim = false := by rw [limB, decide_eq_false hl, Bool.false_and]
    have Hd := Lib.hid hd
    have hlb : ((lim.length : Int) == (ls.length : Int)) = false := by rw [beq_eq_false_iff_ne]; omega
    clear hd hl
    go_enter Try.func125, Try.ntmps125
    go_wp2
    go_ret
    exact ⟨ret_bool Hd.out.symm, by repeat' (first | (with_reducible exact Below.refl _ _) | (with_reducible assumption) | (with_reducible refine Below.alloc ?_ ?_ _) | (with_reducible refine Below.drew ?_) | (with_reducible refine below_drewN ?_ _) | (with_reducible refine Below.setCell ?_ ?_ _) | (with_reducible refine Below.trans ?_ (Below.mono (by assumption) ?_)) | go_size | (exact Below.size (by assumption)))⟩
theorem l09Limits_any (ls : List Seg) (lim : List Int) (A : Option Addr) (B c : Nat) (A' : Option Addr) (c' : Nat) (w : World) (hr : Rd w B A' (ints lim)) (hB : B ≤ w.heap.size) (hn : ls.length ≤ 1048576) (hn2 : lim.length ≤ 1048576) :
   Calls Try.prog 124 #[.agg #[.slice A ls.length c], .slice A' lim.length c'] w fun e w' => e = .returned (.bool (limB ls lim)) ∧ Below w.heap.size w w' := by
  have hr1 := (hr.alloc hB (.cells #[.slice A ls.length c] 26))
  have Hr := Lib.hid hr1
  clear hr hr1
  go_enter Try.func124, Try.ntmps124
  go_wp2_with fail
  have hc0 : (w.alloc (.cells #[.slice A ls.length c] 26)).cell? ⟨w.heap.size, 0, none⟩ = some (.slice A ls.length c) := by simp
  have hwb : Below w.heap.size w (w.alloc (.cells #[.slice A ls.length c] 26)) := by repeat' (first | (with_reducible exact Below.refl _ _) | (with_reducible assumption) | (with_reducible refine Below.alloc ?_ ?_ _) | (with_reducible refine Below.drew ?_) | (with_reducible refine below_drewN ?_ _) | (with_reducible refine Below.setCell ?_ ?_ _) | (with_reducible refine Below.trans ?_ (Below.mono (by assumption) ?_)) | go_size | (exact Below.size (by assumption)))
  generalize w.alloc (.cells #[.slice A ls.length c] 26) = wa at *
  go_loop [5] (fun i => ∃ k : Nat, k ≤ lim.length ∧ i = .int .i64 k ∧ (lim.take k).all (fun x => inB x 0 100000) = true) (fun i => lim.length - (intOf i).toNat)
  case atStart => exact ⟨0, Nat.zero_le _, rfl, by simp⟩
  case round =>
    obtain ⟨k, hk, rfl, hall⟩ := hrel
    by_cases hlt : k < lim.length
    · have ht := List.getElem?_eq_getElem hlt
      generalize lim[k] = x at ht
      obtain ⟨b, o, rfl, hbB, d0⟩ := Hr.out.int ht
      have hal := all_step (fun x => inB x 0 100000) lim ht
      rw [hall, Bool.true_and] at hal
      have hff : inB x 0 100000 = false → limB ls lim = false := fun h => by rw [limB, all_false _ lim ht h, Bool.and_false]
      have Hff := Lib.hid hff
      have Hal := Lib.hid hal
      have hi0 : (0 : Int) ≤ (k : Int) := by omega
      have hi1 : (k : Int) < (lim.length : Int) := by omega
      clear hall ht hal hff
      cases hz : inB x 0 100000 with
      | false =>
        have Hz := Lib.hid hz
        clear hz
        go_wp2_with (go_at_call 82; refine (l01In_r _ _ _ false Hz.out _).mono ?_; rintro e w' ⟨rfl, rfl⟩)
        go_ret
        exact ⟨ret_bool (Hff.out Hz.out).symm, hwb⟩
      | true =>
        have Hz := Lib.hid hz
        clear hz
        go_wp2_with (go_at_call 82; refine (l01In_r _ _ _ true Hz.out _).mono ?_; rintro e w' ⟨rfl, rfl⟩)
        go_round
        case rel => exact ⟨k + 1, by omega, by go_num, by rw [Hal.out, Hz.out]⟩
        case measure => simp [intOf]; omega
    · have hk' : k = lim.length := by omega
      subst hk'
      rw [List.take_length] at hall
      have hlb : limB ls lim = ((lim.length : Int) == (ls.length : Int)) := by
        rw [limB, hall, Bool.and_true]
        by_cases h : lim.length = ls.length
        · rw [decide_eq_true h]; symm; rw [beq_iff_eq]; omega
        · rw [decide_eq_false h]; symm; rw [beq_eq_false_iff_ne]; omega
      have Ha := Lib.hid hlb
      clear hall hlb
      go_wp2
      go_ret
      exact ⟨ret_bool Ha.out.symm, hwb⟩
end Go.Proofs.Ytooifamckccadaa
