/- Verdicts on commands, and the mode behind a command: walks. -/
import Derived.Test.YtakchdkoildkbaaDoorA
import Derived.BigQuiet
import Derived.Deep.RegionWith
namespace Go.Proofs.YtakchdkoildkbaaDoor
open Go.ChangeShapes Go.WideShapes Go.ChangeAt Go.RowKit
set_option maxRecDepth 20000
set_option linter.unusedVariables false
set_option linter.unusedSimpArgs false
def fK : Nat → Int | 0 => 1 | 1 => 4 | 2 => 8 | 3 => 62 | 4 => 16 | 5 => 16 | 6 => 32 | 7 => 5 | 8 => 2 | _ => 4
def toK : Nat → Int | 0 => 2 | 1 => 3 | 2 => 2 | 3 => 4 | 4 => 2 | 5 => 5 | 6 => 4 | 7 => 1 | 8 => 2 | _ => 0
def leastK : Nat → Int | 3 => 0 | 4 => 2 | 5 => 3 | 6 => 3 | 7 => 2 | 8 => 2 | _ => 1
def keyK : Nat → Bool | 0 => true | 4 => true | 7 => true | 8 => true | _ => false
def fromK : Nat → List Int | 0 => [0] | 2 => [3] | 3 => [1, 2, 3, 4, 5] | 4 => [4] | 5 => [4] | 6 => [5] | 7 => [0, 2] | 8 => [1] | _ => [2]
def tabC (k : Nat) : List Value := [.int .i64 (fK k), .int .i64 (toK k), .int .i64 (leastK k), .bool (keyK k)]
def tabL : List Value := (List.range 10).flatMap tabC
def verd (k : Nat) (m r : Int) (b : Bool) : Int := if (fromK k).any (· == m) then (if r < leastK k then 2 else if keyK k && !b then 3 else 0) else 1
def nextK (k : Nat) (m r : Int) (b : Bool) : Int := if verd k m r b = 0 then toK k else m
theorem k_cases {k : Nat} (h : k < 10) : k = 0 ∨ k = 1 ∨ k = 2 ∨ k = 3 ∨ k = 4 ∨ k = 5 ∨ k = 6 ∨ k = 7 ∨ k = 8 ∨ k = 9 := by omega
theorem m_cases {m : Int} (h : 0 ≤ m) (h5 : m ≤ 5) : m = 0 ∨ m = 1 ∨ m = 2 ∨ m = 3 ∨ m = 4 ∨ m = 5 := by omega
theorem tab_at {w : World} {B : Nat} {g : Nat} (hT : Rd w B (some ⟨g, 0, none⟩) tabL) {k : Nat} (hk : k < 10) : g < B ∧ w.cell? ⟨g, k * 4, none⟩ = some (.int .i64 (fK k)) ∧ w.cell? ⟨g, k * 4 + 1, none⟩ = some (.int .i64 (toK k)) ∧ w.cell? ⟨g, k * 4 + 2, none⟩ = some (.int .i64 (leastK k)) ∧ w.cell? ⟨g, k * 4 + 3, none⟩ = some (.bool (keyK k)) := by
  obtain ⟨b, o, e, hb, hc⟩ := hT (by decide)
  injection e with e
  injection e with e1 e2
  subst e1 e2
  refine ⟨hb, ?_, ?_, ?_, ?_⟩
  · have := hc (k * 4) (.int .i64 (fK k)) (by rcases k_cases hk with rfl | rfl | rfl | rfl | rfl | rfl | rfl | rfl | rfl | rfl <;> rfl); simpa using this
  · have := hc (k * 4 + 1) (.int .i64 (toK k)) (by rcases k_cases hk with rfl | rfl | rfl | rfl | rfl | rfl | rfl | rfl | rfl | rfl <;> rfl); simpa using this
  · have := hc (k * 4 + 2) (.int .i64 (leastK k)) (by rcases k_cases hk with rfl | rfl | rfl | rfl | rfl | rfl | rfl | rfl | rfl | rfl <;> rfl); simpa using this
  · have := hc (k * 4 + 3) (.bool (keyK k)) (by rcases k_cases hk with rfl | rfl | rfl | rfl | rfl | rfl | rfl | rfl | rfl | rfl <;> rfl); simpa using this
theorem has_bits {k : Nat} {m : Int} (hk : k < 10) (h : 0 ≤ m) (h5 : m ≤ 5) : (bits BinOp.and IntKind.i64 (fK k / 2 ^ m.toNat) 1 == 0) = !((fromK k).any (· == m)) := by
  rcases k_cases hk with rfl | rfl | rfl | rfl | rfl | rfl | rfl | rfl | rfl | rfl <;> rcases m_cases h h5 with rfl | rfl | rfl | rfl | rfl | rfl <;> decide +kernel
set_option maxHeartbeats 2000000 in
theorem verdict_impl (k : Nat) (hk : k < 10) (m r : Int) (b : Bool) (hm : 0 ≤ m) (hm5 : m ≤ 5) (w : World) (B : Nat) (hT : Rd w B (some ⟨0, 0, none⟩) tabL) (hB : B ≤ w.heap.size) :
   Calls Tryd.prog 44 #[.agg #[.int .i64 k, .int .i64 r, .bool b], .int .i64 m] w fun e w' => e = .returned (.int .i64 (verd k m r b)) ∧ Below w.heap.size w w' := by
  obtain ⟨hb0, c0, c1, c2, c3⟩ := tab_at hT hk
  have hw0 : 0 < w.heap.size := by omega
  have h0 : (0 : Nat) ≠ w.heap.size := by omega
  have hb := has_bits hk hm hm5
  have Hb := Lib.hid hb
  have hv : verd k m r b = if (fromK k).any (· == m) then (if r < leastK k then 2 else if keyK k && !b then 3 else 0) else 1 := rfl
  have Hv := Lib.hid hv
  clear hb hT hv
  generalize fK k = f at *
  generalize toK k = t at *
  generalize leastK k = l at *
  generalize keyK k = q at *
  generalize (fromK k).any (· == m) = av at *
  go_enter Tryd.func44, Tryd.ntmps44
  go_wp2
  all_goals go_ret
  all_goals refine ⟨?_, by repeat' (first | (with_reducible exact Below.refl _ _) | (with_reducible assumption) | (with_reducible refine Below.alloc ?_ ?_ _) | (with_reducible refine Below.drew ?_) | (with_reducible refine below_drewN ?_ _) | (with_reducible refine Below.setCell ?_ ?_ _) | (with_reducible refine Below.trans ?_ (Below.mono (by assumption) ?_)) | go_size | (exact Below.size (by assumption)))⟩
  all_goals rw [Hv.out]
  all_goals have hb := Hb.out
  all_goals simp_all
theorem verdict_impl_r (k : Nat) (hk : k < 10) (m r : Int) (b : Bool) (v : Int) (hv : verd k m r b = v) (hm : 0 ≤ m) (hm5 : m ≤ 5) (w : World) (B : Nat) (hT : Rd w B (some ⟨0, 0, none⟩) tabL) (hB : B ≤ w.heap.size) :
   Calls Tryd.prog 44 #[.agg #[.int .i64 k, .int .i64 r, .bool b], .int .i64 m] w fun e w' => e = .returned (.int .i64 v) ∧ Below w.heap.size w w' := hv ▸ verdict_impl k hk m r b hm hm5 w B hT hB
theorem next_impl (k : Nat) (hk : k < 10) (m r : Int) (b : Bool) (hm : 0 ≤ m) (hm5 : m ≤ 5) (w : World) (B : Nat) (hT : Rd w B (some ⟨0, 0, none⟩) tabL) (hB : B ≤ w.heap.size) :
   Calls Tryd.prog 47 #[.agg #[.int .i64 k, .int .i64 r, .bool b], .int .i64 m] w fun e w' => e = .returned (.int .i64 (nextK k m r b)) ∧ Below w.heap.size w w' := by
  obtain ⟨hb0, _, c1, _, _⟩ := tab_at hT hk
  have hw0 : 0 < w.heap.size := by omega
  have h0 : (0 : Nat) ≠ w.heap.size := by omega
  have HT := Lib.hid hT
  clear hT
  have hn : nextK k m r b = if verd k m r b = 0 then toK k else m := rfl
  rw [hn]
  clear hn
  generalize hv : verd k m r b = v
  have Hv := Lib.hid hv
  clear hv
  generalize toK k = t at *
  by_cases hz : v = 0
  · subst hz
    go_enter Tryd.func47, Tryd.ntmps47
    go_wp2_with (go_at_call 44; refine (verdict_impl_r k hk m r b 0 Hv.out hm hm5 _ B (HT.out.alloc hB _) (by simp; omega)).mono ?_; rintro e w1 ⟨rfl, hb1⟩; obtain ⟨hc1, hf1, hs1⟩ := bstep (N := w.heap.size + 1) (by go_size) hb1; have hy1 : w.heap.size < w1.heap.size := hs1; have hy0 : 0 < w.heap.size + 1 := (by omega))
    go_ret
    exact ⟨rfl, by repeat' (first | (with_reducible exact Below.refl _ _) | (with_reducible assumption) | (with_reducible refine Below.alloc ?_ ?_ _) | (with_reducible refine Below.drew ?_) | (with_reducible refine below_drewN ?_ _) | (with_reducible refine Below.setCell ?_ ?_ _) | (with_reducible refine Below.trans ?_ (Below.mono (by assumption) ?_)) | go_size | (exact Below.size (by assumption)))⟩
  · have hzb : (v == 0) = false := by rw [beq_eq_false_iff_ne]; exact hz
    rw [if_neg hz]
    go_enter Tryd.func47, Tryd.ntmps47
    go_wp2_with (go_at_call 44; refine (verdict_impl_r k hk m r b v Hv.out hm hm5 _ B (HT.out.alloc hB _) (by simp; omega)).mono ?_; rintro e w1 ⟨rfl, hb1⟩; have hs1 := hb1.size)
    go_ret
    exact ⟨rfl, by repeat' (first | (with_reducible exact Below.refl _ _) | (with_reducible assumption) | (with_reducible refine Below.alloc ?_ ?_ _) | (with_reducible refine Below.drew ?_) | (with_reducible refine below_drewN ?_ _) | (with_reducible refine Below.setCell ?_ ?_ _) | (with_reducible refine Below.trans ?_ (Below.mono (by assumption) ?_)) | go_size | (exact Below.size (by assumption)))⟩
theorem any_step {τ : Type} (p : τ → Bool) (l : List τ) {k : Nat} {t : τ} (hk : l[k]? = some t) : (l.take (k + 1)).any p = ((l.take k).any p || p t) := by
  have hl : k < l.length := (List.getElem?_eq_some_iff.1 hk).1
  have : l[k] = t := by rw [List.getElem?_eq_getElem hl] at hk; exact Option.some.inj hk
  rw [List.take_succ_eq_append_getElem hl, List.any_append, this]; simp
theorem l01Has_any (l : List Int) (x : Int) (A : Option Addr) (B c : Nat) (w : World) (hr : Rd w B A (ints l)) (hn : l.length ≤ 1048576) :
   Calls Tryd.prog 59 #[.slice A l.length c, .int .i64 x] w fun e w' => e = .returned (.bool (l.any (· == x))) ∧ w = w' := by
  go_enter Tryd.func59, Tryd.ntmps59
  go_wp2_with fail
  go_loop [5] (fun i => ∃ k : Nat, k ≤ l.length ∧ i = .int .i64 k ∧ (l.take k).any (· == x) = false) (fun i => l.length - (intOf i).toNat)
  case atStart => exact ⟨0, Nat.zero_le _, rfl, by simp⟩
  case round =>
    obtain ⟨k, hk, rfl, hall⟩ := hrel
    by_cases hlt : k < l.length
    · have ht := List.getElem?_eq_getElem hlt
      generalize l[k] = t at ht
      obtain ⟨b, o, rfl, _, c0⟩ := hr.int ht
      have Ht := Lib.hid ht
      have Ha := Lib.hid hall
      clear ht hall hr
      cases hb : (t == x) with
      | true =>
        have Hb := Lib.hid hb
        go_wp2
        go_ret
        exact ⟨ret_bool (by rw [Eq.comm, List.any_eq_true]; exact ⟨t, List.mem_of_getElem? Ht.out, Hb.out⟩), rfl⟩
      | false =>
        have Hb := Lib.hid hb
        go_wp2
        go_round
        case rel => exact ⟨k + 1, by omega, by go_num, by rw [any_step _ _ Ht.out, Ha.out, Hb.out]; rfl⟩
        case measure => simp [intOf]; omega
    · have hk' : k = l.length := by omega
      subst hk'
      rw [List.take_length] at hall
      have Ha := Lib.hid hall
      clear hall hr
      go_wp2
      go_ret
      exact ⟨ret_bool Ha.out.symm, rfl⟩
theorem rd_newL (w : World) (xs : Array Value) (e : TypeId) (l : List Value) (h : xs.toList = l) : Rd (w.alloc (.cells xs e)) (w.heap.size + 1) (some ⟨w.heap.size, 0, none⟩) l := fun _ => by
  subst h
  refine ⟨w.heap.size, 0, rfl, by omega, fun j u hu => ?_⟩
  have hh := heap_alloc_new w (.cells xs e)
  simp only [World.cell?, Nat.zero_add]
  rw [hh]
  simpa using hu
set_option maxHeartbeats 4000000 in
theorem l27From_any (k : Nat) (hk : k < 10) (w : World) : Calls Tryd.prog 60 #[.int .i64 k] w fun e w' => ∃ A c, e = .returned (.slice A (fromK k).length c) ∧ Rd w' w'.heap.size A (ints (fromK k)) ∧ Below w.heap.size w w' := by
  rcases k_cases hk with rfl | rfl | rfl | rfl | rfl | rfl | rfl | rfl | rfl | rfl
  all_goals (go_enter Tryd.func60, Tryd.ntmps60; go_wp2; go_ret; refine ⟨_, _, rfl, ?_, by repeat' (first | (with_reducible exact Below.refl _ _) | (with_reducible assumption) | (with_reducible refine Below.alloc ?_ ?_ _) | (with_reducible refine Below.drew ?_) | (with_reducible refine below_drewN ?_ _) | (with_reducible refine Below.setCell ?_ ?_ _) | (with_reducible refine Below.trans ?_ (Below.mono (by assumption) ?_)) | go_size | (exact Below.size (by assumption)))⟩; simp only [World.size_alloc]; exact rd_newL _ _ _ _ rfl)
set_option maxHeartbeats 4000000 in
theorem l27Least_any (k : Nat) (hk : k < 10) (w : World) : Calls Tryd.prog 61 #[.int .i64 k] w fun e w' => e = .returned (.int .i64 (leastK k)) ∧ w = w' := by
  rcases k_cases hk with rfl | rfl | rfl | rfl | rfl | rfl | rfl | rfl | rfl | rfl
  all_goals (go_enter Tryd.func61, Tryd.ntmps61; go_wp2; go_ret; exact ⟨rfl, rfl⟩)
set_option maxHeartbeats 4000000 in
theorem l27Key_any (k : Nat) (hk : k < 10) (w : World) : Calls Tryd.prog 62 #[.int .i64 k] w fun e w' => e = .returned (.bool (keyK k)) ∧ w = w' := by
  rcases k_cases hk with rfl | rfl | rfl | rfl | rfl | rfl | rfl | rfl | rfl | rfl
  all_goals (go_enter Tryd.func62, Tryd.ntmps62; go_wp2; go_ret; exact ⟨rfl, rfl⟩)
set_option maxHeartbeats 4000000 in
theorem l27To_any (k : Nat) (hk : k < 10) (w : World) : Calls Tryd.prog 63 #[.int .i64 k] w fun e w' => e = .returned (.int .i64 (toK k)) ∧ Below w.heap.size w w' := by
  rcases k_cases hk with rfl | rfl | rfl | rfl | rfl | rfl | rfl | rfl | rfl | rfl
  all_goals (go_enter Tryd.func63, Tryd.ntmps63; go_wp2; go_ret; exact ⟨rfl, by repeat' (first | (with_reducible exact Below.refl _ _) | (with_reducible assumption) | (with_reducible refine Below.alloc ?_ ?_ _) | (with_reducible refine Below.drew ?_) | (with_reducible refine below_drewN ?_ _) | (with_reducible refine Below.setCell ?_ ?_ _) | (with_reducible refine Below.trans ?_ (Below.mono (by assumption) ?_)) | go_size | (exact Below.size (by assumption)))⟩)
theorem l01Has_r (l : List Int) (x : Int) (r : Bool) (h : l.any (· == x) = r) (A : Option Addr) (B c : Nat) (w : World) (hr : Rd w B A (ints l)) (hn : l.length ≤ 1048576) :
   Calls Tryd.prog 59 #[.slice A l.length c, .int .i64 x] w fun e w' => e = .returned (.bool r) ∧ w = w' := h ▸ l01Has_any l x A B c w hr hn
theorem from_len {k : Nat} (hk : k < 10) : (fromK k).length ≤ 1048576 := by
  rcases k_cases hk with rfl | rfl | rfl | rfl | rfl | rfl | rfl | rfl | rfl | rfl <;> decide
set_option maxHeartbeats 2000000 in
theorem verdict_spec (k : Nat) (hk : k < 10) (m r : Int) (b : Bool) (w : World) :
   Calls Tryd.prog 46 #[.int .i64 m, .agg #[.int .i64 k, .int .i64 r, .bool b]] w fun e w' => e = .returned (.int .i64 (verd k m r b)) ∧ Below w.heap.size w w' := by
  have hv : verd k m r b = if (fromK k).any (· == m) then (if r < leastK k then 2 else if keyK k && !b then 3 else 0) else 1 := rfl
  have Hv := Lib.hid hv
  have Hk := Lib.hid hk
  clear hv
  have HL := Lib.hid (l27Least_any k hk)
  have HK := Lib.hid (l27Key_any k hk)
  cases ha : (fromK k).any (· == m) with
  | false =>
    have Ha := Lib.hid ha
    clear ha
    go_enter Tryd.func46, Tryd.ntmps46
    go_wp2_with (first | (go_at_call 60; refine (l27From_any k Hk.out _).mono ?_; rintro e w1 ⟨A1, c1, rfl, hr1, hb1⟩; have R1 := Lib.hid hr1; clear hr1; obtain ⟨hc1, hf1, hs1⟩ := bstep (N := w.heap.size + 1) (by go_size) hb1; have hy1 : w.heap.size < w1.heap.size := hs1) | (go_at_call 59; refine (l01Has_r _ m false Ha.out A1 _ c1 _ R1.out (from_len Hk.out)).mono ?_; rintro e w' ⟨rfl, rfl⟩))
    go_ret
    exact ⟨by rw [Hv.out, Ha.out]; rfl, by repeat' (first | (with_reducible exact Below.refl _ _) | (with_reducible assumption) | (with_reducible refine Below.alloc ?_ ?_ _) | (with_reducible refine Below.drew ?_) | (with_reducible refine below_drewN ?_ _) | (with_reducible refine Below.setCell ?_ ?_ _) | (with_reducible refine Below.trans ?_ (Below.mono (by assumption) ?_)) | go_size | (exact Below.size (by assumption)))⟩
  | true =>
    have Ha := Lib.hid ha
    clear ha
    generalize hl : leastK k = l at *
    generalize hq : keyK k = q at *
    clear hl hq
    go_enter Tryd.func46, Tryd.ntmps46
    go_wp2_with (first | (go_at_call 60; refine (l27From_any k Hk.out _).mono ?_; rintro e w1 ⟨A1, c1, rfl, hr1, hb1⟩; have R1 := Lib.hid hr1; clear hr1; obtain ⟨hc1, hf1, hs1⟩ := bstep (N := w.heap.size + 1) (by go_size) hb1; have hy1 : w.heap.size < w1.heap.size := hs1) | (go_at_call 59; refine (l01Has_r _ m true Ha.out A1 _ c1 _ R1.out (from_len Hk.out)).mono ?_; rintro e w' ⟨rfl, rfl⟩) | (go_at_call 62; refine (HK.out _).mono ?_; rintro e w' ⟨rfl, rfl⟩))
    all_goals go_region_with (go_at_call 61; refine (HL.out _).mono ?_; rintro e w' ⟨rfl, rfl⟩)
    all_goals go_wp2_with (go_at_call 62; refine (HK.out _).mono ?_; rintro e w' ⟨rfl, rfl⟩)
    all_goals go_ret
    all_goals refine ⟨?_, by repeat' (first | (with_reducible exact Below.refl _ _) | (with_reducible assumption) | (with_reducible refine Below.alloc ?_ ?_ _) | (with_reducible refine Below.drew ?_) | (with_reducible refine below_drewN ?_ _) | (with_reducible refine Below.setCell ?_ ?_ _) | (with_reducible refine Below.trans ?_ (Below.mono (by assumption) ?_)) | go_size | (exact Below.size (by assumption)))⟩
    all_goals rw [Hv.out]
    all_goals have ha := Ha.out
    all_goals simp_all
end Go.Proofs.YtakchdkoildkbaaDoor
