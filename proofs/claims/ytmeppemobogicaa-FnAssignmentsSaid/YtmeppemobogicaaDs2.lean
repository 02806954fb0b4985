/- Draws of the laws on stops. -/
import Derived.Test.YtmeppemobogicaaDs
import Derived.Test.YtmeppemobogicaaP
namespace Go.Proofs.Ytmeppemobogicaa
open Go.ChangeShapes Go.WideShapes Go.ChangeAt Go.RowKit
set_option maxRecDepth 20000
set_option linter.unusedVariables false
set_option linter.unusedSimpArgs false
theorem big_any (n cap : Nat) (C : Option Addr) (w : World) (hn : n ≤ 9223372036854775807) : Calls Try.prog 34 #[.slice C n cap] w fun e w' => e = .returned (.bool (decide (4096 < (n : Int)))) ∧ w = w' := by
  go_enter Try.func34, Try.ntmps34
  go_wp2
  go_ret
  exact ⟨rfl, rfl⟩
theorem likeInts_same (l : List Int) (A A' : Option Addr) (B B' c c' : Nat) (w : World) (hr : Rd w B A (ints l)) (hr2 : Rd w B' A' (ints l)) (hn : l.length ≤ 1048576) :
   Calls Try.prog 36 #[.slice A l.length c, .slice A' l.length c'] w fun e w' => e = .returned (.bool true) ∧ Below w.heap.size w w' := by
  go_enter Try.func36, Try.ntmps36
  go_wp2_with fail
  go_loopw [5] (fun i wr => ∃ k : Nat, k ≤ l.length ∧ i = .int .i64 k ∧ ∃ q, wr = w.drewN q) (fun i _ => l.length - (intOf i).toNat)
  case atStart => exact ⟨0, Nat.zero_le _, rfl, 0, rfl⟩
  case round =>
    obtain ⟨k, hk, rfl, q, rfl⟩ := hrel
    by_cases hlt : k < l.length
    · have ht := List.getElem?_eq_getElem hlt
      generalize l[k] = t at ht
      obtain ⟨b, o, rfl, _, c0⟩ := hr.int ht
      obtain ⟨b2, o2, rfl, _, d0⟩ := hr2.int ht
      clear ht hr hr2
      go_wp2_with fail
      go_quiet (fail)
      go_wp2
      go_roundw
      case rel => exact ⟨k + 1, by omega, by go_num, _, rfl⟩
      case measure => simp [intOf]; omega
    · have hk' : k = l.length := by omega
      subst hk'
      clear hr hr2
      go_wp2
      go_ret
      exact ⟨rfl, by repeat' (first | (with_reducible exact Below.refl _ _) | (with_reducible assumption) | (with_reducible refine Below.alloc ?_ ?_ _) | (with_reducible refine Below.drew ?_) | (with_reducible refine below_drewN ?_ _) | (with_reducible refine Below.setCell ?_ ?_ _) | (with_reducible refine Below.trans ?_ (Below.mono (by assumption) ?_)) | go_size | (exact Below.size (by assumption)))⟩
theorem hasInt_any (l : List Int) (x : Int) (A : Option Addr) (B c : Nat) (w : World) (hr : Rd w B A (ints l)) (hn : l.length ≤ 1048576) :
   Calls Try.prog 41 #[.slice A l.length c, .int .i64 x] w fun e w' => e = .returned (.bool (l.any (· == x))) ∧ w = w' := by
  go_enter Try.func41, Try.ntmps41
  go_wp2_with fail
  go_loop [5] (fun i => ∃ k : Nat, k ≤ l.length ∧ i = .int .i64 k ∧ (l.take k).any (· == x) = false) (fun i => l.length - (intOf i).toNat)
  case atStart => exact ⟨0, Nat.zero_le _, rfl, by simp⟩
  case round =>
    obtain ⟨k, hk, rfl, hall⟩ := hrel
    by_cases hlt : k < l.length
    · have ht := List.getElem?_eq_getElem hlt
      generalize l[k] = t at ht
      obtain ⟨b, o, rfl, _, c0⟩ := hr.int ht
      have Ht := Lib.hid ht
      have Ha := Lib.hid hall
      clear ht hall hr
      cases hb : (t == x) with
      | true =>
        have Hb := Lib.hid hb
        go_wp2
        go_ret
        exact ⟨ret_bool (by rw [Eq.comm, List.any_eq_true]; exact ⟨t, List.mem_of_getElem? Ht.out, Hb.out⟩), rfl⟩
      | false =>
        have Hb := Lib.hid hb
        go_wp2
        go_round
        case rel => exact ⟨k + 1, by omega, by go_num, by rw [any_step _ _ Ht.out, Ha.out, Hb.out]; rfl⟩
        case measure => simp [intOf]; omega
    · have hk' : k = l.length := by omega
      subst hk'
      rw [List.take_length] at hall
      have Ha := Lib.hid hall
      clear hall hr
      go_wp2
      go_ret
      exact ⟨ret_bool Ha.out.symm, rfl⟩
def StP (w0 : World) (e : Ending) (w' : World) : Prop :=
  ∃ (l : List (Int × Int)) (A : Option Addr) (c : Nat), e = .returned (.slice A l.length c) ∧ l.length ≤ 8 ∧ Rd w' w'.heap.size A (l.flatMap eEvacuationStop) ∧ Below w0.heap.size w0 w'
theorem drawOrder_any (bl : List Int) (hbl : isU8 bl) (hn : bl.length ≤ 4096) (C : Option Addr) (cap : Nat) (w0 : World) (hr : Rd w0 w0.heap.size C (bytesU bl)) :
   Calls Try.prog 38 #[.slice C bl.length cap] w0 (StP w0) := by
  have HF := Lib.hid (l01From_any bl hbl hn C w0.heap.size cap w0 hr (Nat.le_refl _))
  have Hr := Lib.hid hr
  have Hbl := Lib.hid hbl
  clear hr hbl
  go_enter Try.func38, Try.ntmps38
  go_wp2_with fail
  refine HF.out.mono ?_
  rintro e w1 ⟨rfl, hs, hb, hz⟩
  have D1 := Lib.hid (DS.start (Hr.out.below hb (Nat.le_refl _)) hs (Nat.le_refl _) Hbl.out hn)
  clear hs
  go_wp2_with fail
  refine (l30Draw_any w1 w0.heap.size w0.heap.size C cap bl D1.out).mono ?_
  rintro e w2 ⟨l, A, c, rfl, hl, o2, d2⟩
  have O2 := Lib.hid (Rd.of_own o2)
  have gr := d2.2.2.1
  have GR := Lib.hid gr
  clear o2 d2 gr
  go_wp2
  go_ret
  exact ⟨l, A, c, rfl, hl, O2.out, hb.trans (below_of_grownBy GR.out (by omega) (fun k e => by injection e with e; omega))⟩
def StcP (w0 : World) (e : Ending) (w' : World) : Prop :=
  ∃ (l : List (Int × Int)) (A : Option Addr) (c : Nat) (n : Int), e = .returned (.tuple #[.slice A l.length c, .int .i64 n]) ∧ l.length ≤ 8 ∧ -1000 ≤ n ∧ n ≤ 1000 ∧ Rd w' w'.heap.size A (l.flatMap eEvacuationStop) ∧ Below w0.heap.size w0 w'
theorem drawLeast_any (bl : List Int) (hbl : isU8 bl) (hn : bl.length ≤ 4096) (C : Option Addr) (cap : Nat) (w0 : World) (hr : Rd w0 w0.heap.size C (bytesU bl)) :
   Calls Try.prog 71 #[.slice C bl.length cap] w0 (StcP w0) := by
  have HF := Lib.hid (l01From_any bl hbl hn C w0.heap.size cap w0 hr (Nat.le_refl _))
  have Hr := Lib.hid hr
  have Hbl := Lib.hid hbl
  clear hr hbl
  go_enter Try.func71, Try.ntmps71
  go_wp2_with fail
  refine HF.out.mono ?_
  rintro e w1 ⟨rfl, hs, hb, hz⟩
  have D1 := Lib.hid (DS.start (Hr.out.below hb (Nat.le_refl _)) hs (Nat.le_refl _) Hbl.out hn)
  clear hs
  go_wp2_with fail
  refine (l30Draw_any w1 w0.heap.size w0.heap.size C cap bl D1.out).mono ?_
  rintro e w2 ⟨l, A, c, rfl, hl, o2, d2⟩
  have O2 := Lib.hid o2
  have D2 := Lib.hid d2
  clear o2 d2
  go_wp2_with fail
  refine (l30DrawCrews_any w2 w0.heap.size w0.heap.size C cap bl D2.out.again).mono ?_
  rintro e w3 ⟨n, rfl, n0, n1, d3⟩
  have O3 := Lib.hid (Rd.of_own (DS.own O2.out d3.2.2.1 hz))
  have GR := Lib.hid (grownBy_trans D2.out.2.2.1 d3.2.2.1)
  clear d3
  go_wp2
  go_ret2
  exact ⟨l, A, c, n, rfl, hl, n0, n1, O3.out, hb.trans (below_of_grownBy GR.out (by omega) (fun k e => by injection e with e; omega))⟩
theorem drawGreedy_any (bl : List Int) (hbl : isU8 bl) (hn : bl.length ≤ 4096) (C : Option Addr) (cap : Nat) (w0 : World) (hr : Rd w0 w0.heap.size C (bytesU bl)) :
   Calls Try.prog 44 #[.slice C bl.length cap] w0 (StcP w0) := by
  have HD := Lib.hid (drawLeast_any bl hbl hn C cap w0 hr)
  clear hr hbl
  go_enter Try.func44, Try.ntmps44
  go_wp2_with fail
  refine HD.out.mono ?_
  rintro e w1 ⟨l, A, c, n, rfl, hl, n0, n1, r1, hb⟩
  have R1 := Lib.hid r1
  clear r1
  go_wp2
  go_ret2
  exact ⟨l, A, c, n, rfl, hl, n0, n1, R1.out, hb⟩
end Go.Proofs.Ytmeppemobogicaa
