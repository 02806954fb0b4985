/- slices.Grow and slices.Concat at lists of numbers. -/
import Derived.Test.YtjohpakfaommgaaApp
import Derived.Test.YtjohpakfaommgaaI
import Derived.Lib.AppendZeros
namespace Go.Proofs.Ytjohpakfaommgaa
open Go.ChangeShapes Go.WideShapes Go.ChangeAt Go.RowKit
set_option maxRecDepth 20000
set_option linter.unusedVariables false
set_option linter.unusedSimpArgs false
theorem grow_any (n : Nat) (hn : n ≤ 4194304) (w : World) :
   Calls Try.prog 80 #[.slice none 0 0, .int .i64 n] w fun e w' => ∃ v, e = .returned v ∧ w'.ownsRow w.heap.size 2 1 v 0 (ints []) ∧ Below w.heap.size w w' := by
  obtain ⟨i0, hi0, hz0, hz1, hz2⟩ := info_parts infoInt64
  rcases Nat.eq_zero_or_pos n with h0 | h0
  · subst h0
    go_enter Try.func80, Try.ntmps80
    go_wp2
    go_ret
    exact ⟨_, rfl, World.ownsRow_nil _ _ _ _, Below.refl _ _⟩
  · have hrun := Lib.run_append_nil_zeros (P := Try.prog) w 22 3 22 2 i0 (.int .i64 0) .i64 .i64 Try.underlying22 Try.underlying3 hi0 hz0 n h0 (by rw [hz1]; decide) (by omega) (by rw [hz2]; omega)
    have hge := grownCap_ge w n 0 2
    have hle := grownCap_le_maxLen w n 0 2 (by unfold maxLen; omega)
    have ho := World.ownsRow_made (base := w.heap.size) (e := 2) (size := 1) w.drew (Builtin.zeroCells (Value.int .i64 0).cells n ++ Builtin.zeroCells (Value.int .i64 0).cells (grownCap w n 0 2 - n)) (grownCap w n 0 2) (by simp) hle (by simp [size_zeroCells, Value.cells]; omega)
    have hb : Below w.heap.size w (w.drew.alloc (.cells (Builtin.zeroCells (Value.int .i64 0).cells n ++ Builtin.zeroCells (Value.int .i64 0).cells (grownCap w n 0 2 - n)) 2)) := ((Below.refl w.heap.size w).drew).alloc (by simp) _
    have hin : ((grownCap w n 0 2 : Nat) : Int) ≤ 9223372036854775807 := by unfold maxLen at hle; omega
    have Ho := Lib.hid ho
    clear ho hle
    generalize grownCap w n 0 2 = cap at *
    generalize hW : w.drew.alloc (.cells (Builtin.zeroCells (Value.int .i64 0).cells n ++ Builtin.zeroCells (Value.int .i64 0).cells (cap - n)) 2) = W at *
    go_enter Try.func80, Try.ntmps80
    go_wp2_with (at_builtin; refine Lib.wpList_append_run _ rfl (.tmp 20) (.tmp 21) 22 3 rfl _ _ rfl rfl _ _ hrun ?_)
    go_ret
    exact ⟨_, rfl, Ho.out, hb⟩

/-! ### Concat -/
abbrev Part := Option Addr × Nat × List Int
def ePart (t : Part) : List Value := [.slice t.1 t.2.2.length t.2.1]
def catL (L : List Part) : List Int := L.flatMap (fun t => t.2.2)
theorem catL_step (L : List Part) {k : Nat} {t : Part} (hk : L[k]? = some t) : catL (L.take (k + 1)) = catL (L.take k) ++ t.2.2 := by
  have hl : k < L.length := (List.getElem?_eq_some_iff.1 hk).1
  have ht : L[k] = t := by rw [List.getElem?_eq_getElem hl] at hk; exact Option.some.inj hk
  rw [List.take_succ_eq_append_getElem hl, catL, List.flatMap_append, ht]
  simp [catL]
theorem catL_le (L : List Part) (k : Nat) : (catL (L.take k)).length ≤ (catL L).length := by
  have h : catL L = catL (L.take k) ++ catL (L.drop k) := by rw [catL, catL, catL, ← List.flatMap_append, List.take_append_drop]
  rw [h, List.length_append]
  omega
theorem Rd.part {w : World} {B : Nat} {A : Option Addr} {l : List Part} (h : Rd w B A (l.flatMap ePart)) {k : Nat} {t : Part} (hk : l[k]? = some t) : ∃ b o, A = some ⟨b, o, none⟩ ∧ b < B ∧ w.cell? ⟨b, o + k, none⟩ = some (.slice t.1 t.2.2.length t.2.1) := by
  obtain ⟨b, o, hA, hb, hc⟩ := h.row 1 (fun _ => rfl) (by decide) hk
  refine ⟨b, o, hA, hb, ?_⟩
  have := hc 0 _ rfl
  simpa using this
theorem concat_any (L : List Part) (hL : L.length ≤ 1000) (hT : (catL L).length ≤ 4194304) (A : Option Addr) (B c : Nat) (w : World) (hr : Rd w B A (L.flatMap ePart)) (hp : ∀ (k : Nat) (t : Part), L[k]? = some t → Rd w B t.1 (ints t.2.2)) (hB : B ≤ w.heap.size) :
   Calls Try.prog 54 #[.slice A L.length c] w fun e w' => ∃ A' c', e = .returned (.slice A' (catL L).length c') ∧ w'.ownsRow w.heap.size 2 1 (.slice A' (catL L).length c') (catL L).length (ints (catL L)) ∧ Below w.heap.size w w' := by
  obtain ⟨i0, hi0, hz0, hz1, hz2⟩ := info_parts infoInt64
  have Hp := Lib.hid hp
  clear hp
  go_enter Try.func54, Try.ntmps54
  go_wp2_with fail
  go_loopw [3, 11] (fun q i wr => ∃ k : Nat, k ≤ L.length ∧ i = .int .i64 k ∧ q = .int .i64 ((catL (L.take k)).length : Nat) ∧ w = wr) (fun _ i _ => L.length - (intOf i).toNat)
  case atStart => exact ⟨0, Nat.zero_le _, rfl, rfl, rfl⟩
  case round =>
    obtain ⟨k, hk, rfl, rfl, rfl⟩ := hrel
    by_cases hlt : k < L.length
    · have ht := List.getElem?_eq_getElem hlt
      generalize L[k] = t at ht
      obtain ⟨b, o, rfl, _, c0⟩ := hr.part ht
      have hs := catL_step L ht
      have h1 := catL_le L (k + 1)
      have hln : (catL (L.take (k + 1))).length = (catL (L.take k)).length + t.2.2.length := by rw [hs, List.length_append]
      have Hln := Lib.hid hln
      have Ht := Lib.hid ht
      have Hr := Lib.hid hr
      rw [hln] at h1
      clear hln hs ht hr
      go_wp2
      go_roundw
      case rel => exact ⟨k + 1, by omega, by go_num, by rw [Hln.out]; exact vint (by omega), by first | rfl | trivial⟩
      case measure => simp [intOf]; omega
    · have hk' : k = L.length := by omega
      subst hk'
      rw [List.take_length]
      have Hr := Lib.hid hr
      clear hr
      go_wp2_with fail
      generalize hm : (catL L).length = m at *
      refine (grow_any m (by omega) w).mono ?_; rintro e w1 ⟨v1, rfl, o1, b1⟩
      have z1 := b1.size
      have Hm := Lib.hid hm
      have o1' : w1.ownsRow w.heap.size 2 1 v1 (catL (L.take 0)).length (ints (catL (L.take 0))) := o1
      clear o1 hm
      go_wp2_with fail
      go_loopw [6, 27] (fun q i wt => ∃ k : Nat, k ≤ L.length ∧ i = .int .i64 k ∧ Below w.heap.size w wt ∧ wt.ownsRow w.heap.size 2 1 q (catL (L.take k)).length (ints (catL (L.take k)))) (fun _ i _ => L.length - (intOf i).toNat)
      case atStart => exact ⟨0, Nat.zero_le _, rfl, b1, o1'⟩
      case round =>
        obtain ⟨k, hk, rfl, hbw, hown⟩ := hrel
        clear o1'
        have hsz := hbw.size
        by_cases hlt : k < L.length
        · have ht := List.getElem?_eq_getElem hlt
          generalize L[k] = t at ht
          obtain ⟨b, o, rfl, _, c0⟩ := (Hr.out.below hbw hB).part ht
          have hs := catL_step L ht
          have h1 := catL_le L (k + 1)
          have hln : (catL (L.take (k + 1))).length = (catL (L.take k)).length + t.2.2.length := by rw [hs, List.length_append]
          rw [hln, Hm.out] at h1
          have hrp := (Hp.out k t ht).below hbw hB
          have Hln := Lib.hid hln
          have Hs := Lib.hid hs
          have Hrp := Lib.hid hrp
          have Ho := Lib.hid hown
          clear hln hs hown ht hrp
          go_wp2_with (at_builtin; go_loud (refine wpList_append_rd rfl (.tmp 31) (.tmp 32) 22 rfl w.heap.size 2 i0 (.int .i64 0) 1 8 Try.underlying22 hi0 hz0 hz1 hz2 rfl (by decide) _ _ _ rfl Ho.out B t.1 t.2.2.length t.2.1 (ints t.2.2) rfl (by simp [ints]) Hrp.out (ints_one _) (by unfold maxLen; omega) (by omega) (by omega) ?_); intro v2 w2 o2 hb2 hz4; have O2 := Lib.hid o2; clear o2)
          go_roundw
          case rel => exact ⟨k + 1, by omega, by go_num, by repeat' (first | (with_reducible exact Below.refl _ _) | (with_reducible assumption) | (with_reducible refine Below.alloc ?_ ?_ _) | (with_reducible refine Below.drew ?_) | (with_reducible refine below_drewN ?_ _) | (with_reducible refine Below.setCell ?_ ?_ _) | (with_reducible refine Below.trans ?_ (Below.mono (by assumption) ?_)) | go_size | (exact Below.size (by assumption))), by rw [Hln.out, Hs.out]; simpa [ints] using O2.out⟩
          case measure => simp [intOf]; omega
        · have hk' : k = L.length := by omega
          subst hk'
          rw [List.take_length, Hm.out] at hown
          have Ho := Lib.hid hown
          clear hown
          go_wp2
          go_ret
          obtain ⟨A', c', rfl⟩ := own_val Ho.out
          rw [Hm.out]
          exact ⟨A', c', rfl, Ho.out, by repeat' (first | (with_reducible exact Below.refl _ _) | (with_reducible assumption) | (with_reducible refine Below.alloc ?_ ?_ _) | (with_reducible refine Below.drew ?_) | (with_reducible refine below_drewN ?_ _) | (with_reducible refine Below.setCell ?_ ?_ _) | (with_reducible refine Below.trans ?_ (Below.mono (by assumption) ?_)) | go_size | (exact Below.size (by assumption)))⟩
end Go.Proofs.Ytjohpakfaommgaa
