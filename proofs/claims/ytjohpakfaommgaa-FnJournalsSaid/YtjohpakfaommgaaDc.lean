/- DrawCutJournal; equal lists of records. -/
import Derived.Test.YtjohpakfaommgaaDk
import Derived.Test.YtjohpakfaommgaaLik
namespace Go.Proofs.Ytjohpakfaommgaa
open Go.ChangeShapes Go.WideShapes Go.ChangeAt Go.RowKit
set_option maxRecDepth 20000
set_option linter.unusedVariables false
set_option linter.unusedSimpArgs false
theorem likeRecords_same (l : List Rec3) (A A' : Option Addr) (B B' c c' : Nat) (w : World) (hr : Rd w B A (l.flatMap eEventRecord)) (hr2 : Rd w B' A' (l.flatMap eEventRecord)) (hn : l.length ≤ 1048576) :
   Calls Try.prog 48 #[.slice A l.length c, .slice A' l.length c'] w fun e w' => e = .returned (.bool true) ∧ Below w.heap.size w w' := by
  go_enter Try.func48, Try.ntmps48
  go_wp2_with fail
  go_loopw [5] (fun i wr => ∃ k : Nat, k ≤ l.length ∧ i = .int .i64 k ∧ ∃ q, wr = w.drewN q) (fun i _ => l.length - (intOf i).toNat)
  case atStart => exact ⟨0, Nat.zero_le _, rfl, 0, rfl⟩
  case round =>
    obtain ⟨k, hk, rfl, q, rfl⟩ := hrel
    by_cases hlt : k < l.length
    · have ht := List.getElem?_eq_getElem hlt
      generalize l[k] = t at ht
      obtain ⟨b, o, rfl, _, c0, c1, c2⟩ := hr.atEventRecord ht
      obtain ⟨b2, o2, rfl, _, d0, d1, d2⟩ := hr2.atEventRecord ht
      clear ht hr hr2
      go_wp2_with fail
      go_quiet (fail)
      go_wp2
      go_roundw
      case rel => exact ⟨k + 1, by omega, by go_num, _, rfl⟩
      case measure => simp [intOf]; omega
    · have hk' : k = l.length := by omega
      subst hk'
      clear hr hr2
      go_wp2
      go_ret
      exact ⟨rfl, by repeat' (first | (with_reducible exact Below.refl _ _) | (with_reducible assumption) | (with_reducible refine Below.alloc ?_ ?_ _) | (with_reducible refine Below.drew ?_) | (with_reducible refine below_drewN ?_ _) | (with_reducible refine Below.setCell ?_ ?_ _) | (with_reducible refine Below.trans ?_ (Below.mono (by assumption) ?_)) | go_size | (exact Below.size (by assumption)))⟩
def CutP (w0 : World) (e : Ending) (w' : World) : Prop :=
  ∃ (l : List Int) (A : Option Addr) (c : Nat) (kept : Int) (m : List Int) (A' : Option Addr) (c' : Nat), e = .returned (.tuple #[.slice A l.length c, .int .i64 kept, .slice A' m.length c']) ∧ l.length ≤ 3500 ∧ m.length ≤ 2001 ∧ l.length ≤ c ∧ Rd w' w'.heap.size A (ints l) ∧ Rd w' w'.heap.size A' (ints m) ∧ Below w0.heap.size w0 w'
set_option maxHeartbeats 1000000 in
theorem drawCut_any (bl : List Int) (hbl : isU8 bl) (hn : bl.length ≤ 4096) (C : Option Addr) (cap : Nat) (w0 : World) (hr : Rd w0 w0.heap.size C (bytesU bl)) :
   Calls Try.prog 47 #[.slice C bl.length cap] w0 (CutP w0) := by
  have HF := Lib.hid (l01From_any bl hbl hn C w0.heap.size cap w0 hr (Nat.le_refl _))
  have Hr := Lib.hid hr
  have Hbl := Lib.hid hbl
  clear hr hbl
  go_enter Try.func47, Try.ntmps47
  go_wp2_with fail
  refine HF.out.mono ?_
  rintro e w1 ⟨rfl, hs, hb, hz⟩
  have D1 := Lib.hid (DS.start (Hr.out.below hb (Nat.le_refl _)) hs (Nat.le_refl _) Hbl.out hn)
  have B1 := Lib.hid hb
  clear hs HF Hr hb
  go_wp2_with fail
  refine (l32DrawJournal_any w1 _ _ C cap bl D1.out).mono ?_
  rintro e w2 ⟨l, A, c, rfl, hl, o2, d2⟩
  have hcap := (own_capm o2).1
  have O2 := Lib.hid o2
  have D2 := Lib.hid d2
  clear o2 d2
  go_wp2_with fail
  refine (next_ds D2.out _).mono ?_
  rintro e w3 ⟨x, rfl, x0, x1, d3, g3⟩
  have O3 := Lib.hid (DS.own O2.out g3 hz)
  have D3 := Lib.hid d3
  have x2 : x ≤ 3503 := by
    rcases x1 with x1 | x1
    · have e1 : IntKind.i64.wrap ((l.length : Int) + 3) = (l.length : Int) + 3 := IntWalk.i64_in _ (by omega)
      first | omega | (rw [e1] at x1; omega)
    · omega
  clear d3 g3 O2 x1
  go_wp2_with fail
  refine (next_ds D3.out 30).mono ?_
  rintro e w4 ⟨y, rfl, y0, y1, d4, g4⟩
  have O4 := Lib.hid (DS.own O3.out g4 hz)
  have D4 := Lib.hid d4
  have y2 : y ≤ 29 := by omega
  have z4 := d4.size.1
  clear d4 g4 y1 O3
  go_wp2_with fail
  refine (l32DrawBytes_any w4 _ _ C cap bl 20 (by omega) (by omega) D4.out.again).mono ?_
  rintro e w5 ⟨m, A5, c5, rfl, hm5, o5, d5⟩
  have R5 := Lib.hid (Rd.of_own o5)
  have R4 := Lib.hid (Rd.of_own (DS.own O4.out d5.2.2.1 hz))
  have d6 := D4.out.join d5
  have B5 := Lib.hid (B1.out.trans (below_of_grownBy (B := w0.heap.size) d6.2.2.1 (by omega) (fun k hk => by injection hk with hk; omega)))
  clear o5 d5 d6
  go_wp2
  go_ret3
  exact ⟨l, A, c, _, m, A5, c5, rfl, hl, hm5, hcap, R4.out, R5.out, B5.out⟩
end Go.Proofs.Ytjohpakfaommgaa
