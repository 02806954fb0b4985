/- Small functions of the laws: big, likeInts, hasInt (for any seat that has them). -/
import Derived.Test.YtjohpakfaommgaaDr
import Derived.Test.YtjohpakfaommgaaP
namespace Go.Proofs.Ytjohpakfaommgaa
open Go.ChangeShapes Go.WideShapes Go.ChangeAt Go.RowKit
set_option maxRecDepth 20000
set_option linter.unusedVariables false
set_option linter.unusedSimpArgs false
theorem big_any (n cap : Nat) (C : Option Addr) (w : World) (hn : n ≤ 9223372036854775807) : Calls Try.prog 37 #[.slice C n cap] w fun e w' => e = .returned (.bool (decide (4096 < (n : Int)))) ∧ w = w' := by
  go_enter Try.func37, Try.ntmps37
  go_wp2
  go_ret
  exact ⟨rfl, rfl⟩
theorem likeInts_same (l : List Int) (A A' : Option Addr) (B B' c c' : Nat) (w : World) (hr : Rd w B A (ints l)) (hr2 : Rd w B' A' (ints l)) (hn : l.length ≤ 1048576) :
   Calls Try.prog 40 #[.slice A l.length c, .slice A' l.length c'] w fun e w' => e = .returned (.bool true) ∧ Below w.heap.size w w' := by
  go_enter Try.func40, Try.ntmps40
  go_wp2_with fail
  go_loopw [5] (fun i wr => ∃ k : Nat, k ≤ l.length ∧ i = .int .i64 k ∧ ∃ q, wr = w.drewN q) (fun i _ => l.length - (intOf i).toNat)
  case atStart => exact ⟨0, Nat.zero_le _, rfl, 0, rfl⟩
  case round =>
    obtain ⟨k, hk, rfl, q, rfl⟩ := hrel
    by_cases hlt : k < l.length
    · have ht := List.getElem?_eq_getElem hlt
      generalize l[k] = t at ht
      obtain ⟨b, o, rfl, _, c0⟩ := hr.int ht
      obtain ⟨b2, o2, rfl, _, d0⟩ := hr2.int ht
      clear ht hr hr2
      go_wp2_with fail
      go_quiet (fail)
      go_wp2
      go_roundw
      case rel => exact ⟨k + 1, by omega, by go_num, _, rfl⟩
      case measure => simp [intOf]; omega
    · have hk' : k = l.length := by omega
      subst hk'
      clear hr hr2
      go_wp2
      go_ret
      exact ⟨rfl, by repeat' (first | (with_reducible exact Below.refl _ _) | (with_reducible assumption) | (with_reducible refine Below.alloc ?_ ?_ _) | (with_reducible refine Below.drew ?_) | (with_reducible refine below_drewN ?_ _) | (with_reducible refine Below.setCell ?_ ?_ _) | (with_reducible refine Below.trans ?_ (Below.mono (by assumption) ?_)) | go_size | (exact Below.size (by assumption)))⟩
theorem hasInt_any (l : List Int) (x : Int) (A : Option Addr) (B c : Nat) (w : World) (hr : Rd w B A (ints l)) (hn : l.length ≤ 1048576) :
   Calls Try.prog 45 #[.slice A l.length c, .int .i64 x] w fun e w' => e = .returned (.bool (l.any (· == x))) ∧ w = w' := by
  go_enter Try.func45, Try.ntmps45
  go_wp2_with fail
  go_loop [5] (fun i => ∃ k : Nat, k ≤ l.length ∧ i = .int .i64 k ∧ (l.take k).any (· == x) = false) (fun i => l.length - (intOf i).toNat)
  case atStart => exact ⟨0, Nat.zero_le _, rfl, by simp⟩
  case round =>
    obtain ⟨k, hk, rfl, hall⟩ := hrel
    by_cases hlt : k < l.length
    · have ht := List.getElem?_eq_getElem hlt
      generalize l[k] = t at ht
      obtain ⟨b, o, rfl, _, c0⟩ := hr.int ht
      have Ht := Lib.hid ht
      have Ha := Lib.hid hall
      clear ht hall hr
      cases hb : (t == x) with
      | true =>
        have Hb := Lib.hid hb
        go_wp2
        go_ret
        exact ⟨ret_bool (by rw [Eq.comm, List.any_eq_true]; exact ⟨t, List.mem_of_getElem? Ht.out, Hb.out⟩), rfl⟩
      | false =>
        have Hb := Lib.hid hb
        go_wp2
        go_round
        case rel => exact ⟨k + 1, by omega, by go_num, by rw [any_step _ _ Ht.out, Ha.out, Hb.out]; rfl⟩
        case measure => simp [intOf]; omega
    · have hk' : k = l.length := by omega
      subst hk'
      rw [List.take_length] at hall
      have Ha := Lib.hid hall
      clear hall hr
      go_wp2
      go_ret
      exact ⟨ret_bool Ha.out.symm, rfl⟩
end Go.Proofs.Ytjohpakfaommgaa
