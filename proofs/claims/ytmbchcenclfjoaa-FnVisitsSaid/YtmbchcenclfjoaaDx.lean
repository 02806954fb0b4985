/- Draws of days, of a plan with a task and a day; comparisons of lists. -/
import Derived.Test.YtmbchcenclfjoaaDw
import Derived.Deep.RegionHeld3
import Derived.IntWalk
namespace Go.Proofs.Ytmbchcenclfjoaa
open Go.ChangeShapes Go.WideShapes Go.ChangeAt Go.RowKit
set_option maxRecDepth 20000
set_option linter.unusedVariables false
set_option linter.unusedSimpArgs false
def DayP (w0 : World) (g B : Nat) (C : Option Addr) (cap : Nat) (bl : List Int) (e : Ending) (w' : World) : Prop :=
  ∃ x : Int, e = .returned (.int .i64 x) ∧ -1000 ≤ x ∧ x ≤ 200000 ∧ DS w0 w' g B C cap bl
set_option maxHeartbeats 1000000 in
theorem l29DrawDay_any (w0 : World) (g B : Nat) (C : Option Addr) (cap : Nat) (bl : List Int) (h : DS w0 w0 g B C cap bl) (l : List (Int × Int)) (hok : ∀ t ∈ l, tOk t) (hn : l.length ≤ 1048576) (A : Option Addr) (c base : Nat) (hb : g < base) (hown : w0.ownsRow base 65 2 (.slice A l.length c) l.length (l.flatMap eTask)) :
   Calls Try.prog 82 #[.pointer (some ⟨g, 0, none⟩), .slice A l.length c] w0 (DayP w0 g B C cap bl) := by
  have hg0 := h.size.2
  have H := Lib.hid h
  have Hok := Lib.hid hok
  have Ho := Lib.hid hown
  clear h hok hown
  by_cases hl : 0 < l.length
  · have hli : (0 : Int) < (l.length : Int) := by omega
    go_enter Try.func82, Try.ntmps82
    go_wp2_with fail
    refine (next_ds H.out 2).mono ?_
    rintro e w1 ⟨x, rfl, x0, x1, d1, g1⟩
    have O1 := Lib.hid (DS.own Ho.out g1 hb)
    have D1 := Lib.hid d1
    clear d1 g1 x1
    by_cases hx0 : x = 0
    · subst hx0
      go_wp2_with fail
      refine (next_ds D1.out (l.length : Int)).mono ?_
      rintro e w2 ⟨y, rfl, y0, y1, d2, g2⟩
      have o2 := DS.own O1.out g2 hb
      obtain ⟨i, rfl⟩ : ∃ i : Nat, y = i := ⟨y.toNat, by omega⟩
      have hi : i < l.length := by omega
      have ht := List.getElem?_eq_getElem hi
      generalize l[i] = t at ht
      obtain ⟨bb, o, rfl, hbb, c0, c1⟩ := (Rd.of_own o2).atTask ht
      obtain ⟨t1, t2, t3, t4⟩ := Hok.out t (List.mem_of_getElem? ht)
      have D2 := Lib.hid d2
      have hi0 : (0 : Int) ≤ (i : Int) := by omega
      have hi1 : (i : Int) < (l.length : Int) := by omega
      have hgs := src_lt d2.2.1
      clear o2 d2 g2 ht y1
      go_wp2_with fail
      have x0' : (w2.alloc (.cells #[.int .i64 t.1, .int .i64 t.2] 65)).cell? ⟨w2.heap.size, 0, none⟩ = some (.int .i64 t.1) := by simp
      have x1' : (w2.alloc (.cells #[.int .i64 t.1, .int .i64 t.2] 65)).cell? ⟨w2.heap.size, 1, none⟩ = some (.int .i64 t.2) := by simp
      have hne : w2.heap.size ≠ g := by omega
      go_region_held3 (fun w' => w'.cell? ⟨w2.heap.size, 0, none⟩ = some (.int .i64 t.1) ∧ w'.cell? ⟨w2.heap.size, 1, none⟩ = some (.int .i64 t.2)) (simp [*]) ((go_at_call 81; refine (next_ds (D2.out.alloc (.cells #[.int .i64 t.1, .int .i64 t.2] 65)).drew 2).mono ?_; rintro e w3 ⟨z, rfl, z0, z1, d3, g3⟩; have k0 := grownBy_cell g3 x0' (fun k hk => by injection hk with hk; omega); have k1 := grownBy_cell g3 x1' (fun k hk => by injection hk with hk; omega); have D3 := Lib.hid d3; clear d3 g3))
      have z2 : z ≤ 1 := by omega
      go_wp2
      go_ret
      have e1 : IntKind.i64.wrap (IntKind.i64.wrap (t.2 + t.1) - z) = t.2 + t.1 - z := by rw [IntWalk.i64_in (t.2 + t.1) (by omega)]; exact IntWalk.i64_in _ (by omega)
      exact ⟨_, rfl, by rw [e1]; omega, by rw [e1]; omega, D3.out⟩
    · have b0 : (x == 0) = false := by rw [beq_eq_false_iff_ne]; exact hx0
      go_wp2_with fail
      refine (next_ds D1.out 150).mono ?_
      rintro e w2 ⟨a, rfl, a0, a1, d2, g2⟩
      go_wp2_with fail
      refine (next_ds d2 150).mono ?_
      rintro e w3 ⟨b, rfl, b0', b1', d3, g3⟩
      go_wp2_with fail
      refine (next_ds d3 60).mono ?_
      rintro e w4 ⟨cc, rfl, cc0, cc1, d4, g4⟩
      have D4 := Lib.hid d4
      clear d2 d3 d4 g2 g3 g4
      go_wp2_with fail
      refine (pick_ds D4.out [-1, 0, 100000, 100001] 4 _ (by rfl) _ (by rfl) rfl (by omega) (by omega)).mono ?_
      rintro e w5 ⟨y, rfl, hy, d5, g5⟩
      have hyb : -1 ≤ y ∧ y ≤ 100001 := by
        simp only [List.mem_cons, List.not_mem_nil, or_false] at hy
        omega
      have D5 := Lib.hid d5
      clear hy g5 d5
      go_wp2_with fail
      refine (pick_ds D5.out [a, b, cc, y] 4 _ (by rfl) _ (by rfl) rfl (by omega) (by omega)).mono ?_
      rintro e w6 ⟨z, rfl, hz, d6, g6⟩
      have hzb : -1 ≤ z ∧ z ≤ 100001 := by
        simp only [List.mem_cons, List.not_mem_nil, or_false] at hz
        omega
      have D6 := Lib.hid d6
      clear hz g6 d6
      go_wp2
      go_ret
      exact ⟨_, rfl, by omega, by omega, D6.out⟩
  · have hd : decide (0 < l.length) = false := by simpa using hl
    have D1 := H
    go_enter Try.func82, Try.ntmps82
    go_wp2_with fail
    refine (next_ds D1.out 150).mono ?_
    rintro e w2 ⟨a, rfl, a0, a1, d2, g2⟩
    go_wp2_with fail
    refine (next_ds d2 150).mono ?_
    rintro e w3 ⟨b, rfl, b0', b1', d3, g3⟩
    go_wp2_with fail
    refine (next_ds d3 60).mono ?_
    rintro e w4 ⟨cc, rfl, cc0, cc1, d4, g4⟩
    have D4 := Lib.hid d4
    clear d2 d3 d4 g2 g3 g4
    go_wp2_with fail
    refine (pick_ds D4.out [-1, 0, 100000, 100001] 4 _ (by rfl) _ (by rfl) rfl (by omega) (by omega)).mono ?_
    rintro e w5 ⟨y, rfl, hy, d5, g5⟩
    have hyb : -1 ≤ y ∧ y ≤ 100001 := by
      simp only [List.mem_cons, List.not_mem_nil, or_false] at hy
      omega
    have D5 := Lib.hid d5
    clear hy g5 d5
    go_wp2_with fail
    refine (pick_ds D5.out [a, b, cc, y] 4 _ (by rfl) _ (by rfl) rfl (by omega) (by omega)).mono ?_
    rintro e w6 ⟨z, rfl, hz, d6, g6⟩
    have hzb : -1 ≤ z ∧ z ≤ 100001 := by
      simp only [List.mem_cons, List.not_mem_nil, or_false] at hz
      omega
    have D6 := Lib.hid d6
    clear hz g6 d6
    go_wp2
    go_ret
    exact ⟨_, rfl, by omega, by omega, D6.out⟩
def PerfP (w0 : World) (e : Ending) (w' : World) : Prop :=
  ∃ (l : List (Int × Int)) (A : Option Addr) (c : Nat) (task day : Int), e = .returned (.tuple #[.slice A l.length c, .int .i64 task, .int .i64 day]) ∧ (∀ t ∈ l, tOk t) ∧ l.length ≤ 14 ∧ -1 ≤ task ∧ task ≤ 20 ∧ -1000 ≤ day ∧ day ≤ 200000 ∧ w'.ownsRow w0.heap.size 65 2 (.slice A l.length c) l.length (l.flatMap eTask) ∧ Below w0.heap.size w0 w'
theorem drawPerform_any (bl : List Int) (hbl : isU8 bl) (hn : bl.length ≤ 4096) (C : Option Addr) (cap : Nat) (w0 : World) (hr : Rd w0 w0.heap.size C (bytesU bl)) :
   Calls Try.prog 45 #[.slice C bl.length cap] w0 (PerfP w0) := by
  have Hr := Lib.hid hr
  clear hr
  go_enter Try.func45, Try.ntmps45
  go_wp2_with fail
  refine (l01From_any bl hbl hn C w0.heap.size cap w0 Hr.out (Nat.le_refl _)).mono ?_
  rintro e w1 ⟨rfl, hs1, hb1, hz1⟩
  have d1 := DS.start (Hr.out.below hb1 (Nat.le_refl _)) hs1 (Nat.le_refl _) hbl hn
  have Hb1 := Lib.hid hb1
  clear hb1 hs1 hbl
  go_wp2_with fail
  refine (l29Draw_any w1 _ _ _ _ _ d1).mono ?_
  rintro e w2 ⟨l, A, c, rfl, hok, hl, o2, d2⟩
  have O2 := Lib.hid o2
  have Hok := Lib.hid hok
  have hs2 := d2.size.1
  clear o2 hok d1
  go_wp2_with fail
  refine (next_ds d2 ((l.length : Int) + 1)).mono ?_
  rintro e w3 ⟨x, rfl, x0, x1, d3, g3⟩
  have O3 := Lib.hid (DS.own O2.out g3 hz1)
  have x2 : x ≤ 14 := by omega
  clear d2 g3 x1
  go_wp2_with fail
  refine (next_ds d3 20).mono ?_
  rintro e w4 ⟨y, rfl, y0, y1, d4, g4⟩
  have O4 := Lib.hid (DS.own O3.out g4 hz1)
  have y2 : y ≤ 19 := by omega
  have hs4 := d4.size.1
  clear d3 g4 y1
  go_wp2_with fail
  refine (l29DrawDay_any w4 _ _ _ _ _ d4.again l Hok.out (by omega) A c w1.heap.size hz1 O4.out).mono ?_
  rintro e w5 ⟨z, rfl, z0, z1, d5⟩
  have d6 := d4.join d5
  have o5 := DS.own O4.out d5.2.2.1 hz1
  have O5 := Lib.hid o5
  have hb6 := below_of_grownBy (B := w0.heap.size) d6.2.2.1 (by omega) (fun k hk => by injection hk with hk; omega)
  have Hb6 := Lib.hid (Hb1.out.trans hb6)
  clear d4 d5 d6 o5 hb6
  go_wp2
  go_ret3
  have e1 : IntKind.i64.wrap (x - y / 19) = x - y / 19 := IntWalk.i64_in _ (by omega)
  first
    | exact ⟨l, A, c, _, _, rfl, Hok.out, hl, by omega, by omega, z0, z1, own_more O5.out (by omega), Hb6.out⟩
    | exact ⟨l, A, c, _, _, rfl, Hok.out, hl, by rw [e1]; omega, by rw [e1]; omega, z0, z1, own_more O5.out (by omega), Hb6.out⟩
theorem big_any (n cap : Nat) (C : Option Addr) (w : World) (hn : n ≤ 9223372036854775807) : Calls Try.prog 44 #[.slice C n cap] w fun e w' => e = .returned (.bool (decide (4096 < (n : Int)))) ∧ w = w' := by
  go_enter Try.func44, Try.ntmps44
  go_wp2
  go_ret
  exact ⟨rfl, rfl⟩
theorem likeInts_same (l : List Int) (A A' : Option Addr) (B B' c c' : Nat) (w : World) (hr : Rd w B A (ints l)) (hr2 : Rd w B' A' (ints l)) (hn : l.length ≤ 1048576) :
   Calls Try.prog 47 #[.slice A l.length c, .slice A' l.length c'] w fun e w' => e = .returned (.bool true) ∧ Below w.heap.size w w' := by
  go_enter Try.func47, Try.ntmps47
  go_wp2_with fail
  go_loopw [5] (fun i wr => ∃ k : Nat, k ≤ l.length ∧ i = .int .i64 k ∧ ∃ q, wr = w.drewN q) (fun i _ => l.length - (intOf i).toNat)
  case atStart => exact ⟨0, Nat.zero_le _, rfl, 0, rfl⟩
  case round =>
    obtain ⟨k, hk, rfl, q, rfl⟩ := hrel
    by_cases hlt : k < l.length
    · have ht := List.getElem?_eq_getElem hlt
      generalize l[k] = t at ht
      obtain ⟨b, o, rfl, _, c0⟩ := hr.int ht
      obtain ⟨b2, o2, rfl, _, d0⟩ := hr2.int ht
      clear ht hr hr2
      go_wp2_with fail
      go_quiet (fail)
      go_wp2
      go_roundw
      case rel => exact ⟨k + 1, by omega, by go_num, _, rfl⟩
      case measure => simp [intOf]; omega
    · have hk' : k = l.length := by omega
      subst hk'
      clear hr hr2
      go_wp2
      go_ret
      exact ⟨rfl, by repeat' (first | (with_reducible exact Below.refl _ _) | (with_reducible assumption) | (with_reducible refine Below.alloc ?_ ?_ _) | (with_reducible refine Below.drew ?_) | (with_reducible refine below_drewN ?_ _) | (with_reducible refine Below.setCell ?_ ?_ _) | (with_reducible refine Below.trans ?_ (Below.mono (by assumption) ?_)) | go_size | (exact Below.size (by assumption)))⟩
theorem hasInt_any (l : List Int) (x : Int) (A : Option Addr) (B c : Nat) (w : World) (hr : Rd w B A (ints l)) (hn : l.length ≤ 1048576) :
   Calls Try.prog 48 #[.slice A l.length c, .int .i64 x] w fun e w' => e = .returned (.bool (l.any (· == x))) ∧ w = w' := by
  go_enter Try.func48, Try.ntmps48
  go_wp2_with fail
  go_loop [5] (fun i => ∃ k : Nat, k ≤ l.length ∧ i = .int .i64 k ∧ (l.take k).any (· == x) = false) (fun i => l.length - (intOf i).toNat)
  case atStart => exact ⟨0, Nat.zero_le _, rfl, by simp⟩
  case round =>
    obtain ⟨k, hk, rfl, hall⟩ := hrel
    by_cases hlt : k < l.length
    · have ht := List.getElem?_eq_getElem hlt
      generalize l[k] = t at ht
      obtain ⟨b, o, rfl, _, c0⟩ := hr.int ht
      have Ht := Lib.hid ht
      have Ha := Lib.hid hall
      clear ht hall hr
      cases hb : (t == x) with
      | true =>
        have Hb := Lib.hid hb
        go_wp2
        go_ret
        exact ⟨ret_bool (by rw [Eq.comm, List.any_eq_true]; exact ⟨t, List.mem_of_getElem? Ht.out, Hb.out⟩), rfl⟩
      | false =>
        have Hb := Lib.hid hb
        go_wp2
        go_round
        case rel => exact ⟨k + 1, by omega, by go_num, by rw [any_step _ _ Ht.out, Ha.out, Hb.out]; rfl⟩
        case measure => simp [intOf]; omega
    · have hk' : k = l.length := by omega
      subst hk'
      rw [List.take_length] at hall
      have Ha := Lib.hid hall
      clear hall hr
      go_wp2
      go_ret
      exact ⟨ret_bool Ha.out.symm, rfl⟩
theorem likeTasks_same (l : List (Int × Int)) (A A' : Option Addr) (B B' c c' : Nat) (w : World) (hr : Rd w B A (l.flatMap eTask)) (hr2 : Rd w B' A' (l.flatMap eTask)) (hn : l.length ≤ 1048576) :
   Calls Try.prog 46 #[.slice A l.length c, .slice A' l.length c'] w fun e w' => e = .returned (.bool true) ∧ Below w.heap.size w w' := by
  go_enter Try.func46, Try.ntmps46
  go_wp2_with fail
  go_loopw [5] (fun i wr => ∃ k : Nat, k ≤ l.length ∧ i = .int .i64 k ∧ ∃ q, wr = w.drewN q) (fun i _ => l.length - (intOf i).toNat)
  case atStart => exact ⟨0, Nat.zero_le _, rfl, 0, rfl⟩
  case round =>
    obtain ⟨k, hk, rfl, q, rfl⟩ := hrel
    by_cases hlt : k < l.length
    · have ht := List.getElem?_eq_getElem hlt
      generalize l[k] = t at ht
      obtain ⟨b, o, rfl, _, c0, c1⟩ := hr.atTask ht
      obtain ⟨b2, o2, rfl, _, d0, d1⟩ := hr2.atTask ht
      clear ht hr hr2
      go_wp2_with fail
      go_quiet (fail)
      go_wp2
      go_roundw
      case rel => exact ⟨k + 1, by omega, by go_num, _, rfl⟩
      case measure => simp [intOf]; omega
    · have hk' : k = l.length := by omega
      subst hk'
      clear hr hr2
      go_wp2
      go_ret
      exact ⟨rfl, by repeat' (first | (with_reducible exact Below.refl _ _) | (with_reducible assumption) | (with_reducible refine Below.alloc ?_ ?_ _) | (with_reducible refine Below.drew ?_) | (with_reducible refine below_drewN ?_ _) | (with_reducible refine Below.setCell ?_ ?_ _) | (with_reducible refine Below.trans ?_ (Below.mono (by assumption) ?_)) | go_size | (exact Below.size (by assumption)))⟩
end Go.Proofs.Ytmbchcenclfjoaa
