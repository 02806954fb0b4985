/- The energy behind a coasting segment, in the program; whether a list has a number: walks. -/
import Derived.Test.YtooifamckccadaaAc
import Derived.Test.YtooifamckccadaaP
import Derived.Test.YtooifamckccadaaRd
import Derived.Deep.DeepCutAuto
import Derived.Deep.RegionHeld3
import Derived.Deep.RegionWith
namespace Go.Proofs.Ytooifamckccadaa
open Go.ChangeShapes Go.WideShapes Go.ChangeAt Go.RowKit
set_option maxRecDepth 20000
set_option linter.unusedVariables false
set_option linter.unusedSimpArgs false
def sumA (len rise rh lo : Int) : Int := lo + (-19612 * rise - 2 * rh * len)
theorem sum_wrap {k len rise rl rh fl fh lo hi : Int} (h : segB k len rise rl rh fl fh = true) (he : enB lo hi = true) : IntKind.i64.wrap (lo + (-19612 * rise - 2 * rh * len)) = lo + (-19612 * rise - 2 * rh * len) ∧ IntKind.i64.wrap (hi + (-19612 * rise - 2 * rl * len)) = hi + (-19612 * rise - 2 * rl * len) := by
  obtain ⟨⟨k0, k4⟩, ⟨l1, l2⟩, ⟨r1, r2⟩, ⟨a0, a1, a2⟩, f0, f1, f2⟩ := seg_bds h
  obtain ⟨g0, g1, g2⟩ := wit_bds he
  have p1 := prod_bds (f := rh) (by omega) (by omega) l1 l2
  have p2 := prod_bds (f := rl) (by omega) (by omega) l1 l2
  exact ⟨IntWalk.i64_in _ (by omega), IntWalk.i64_in _ (by omega)⟩
set_option maxHeartbeats 4000000 in
theorem after_any (k len rise rl rh fl fh lo hi : Int) (h : segB k len rise rl rh fl fh = true) (he : enB lo hi = true) (w : World) : Calls Try.prog 121 #[.agg #[.int .i64 k, .int .i64 len, .int .i64 rise, .int .i64 rl, .int .i64 rh, .int .i64 fl, .int .i64 fh], .agg #[.int .i64 lo, .int .i64 hi]] w fun e w' => e = .returned (chkV (lo + (-19612 * rise - 2 * rh * len)) (hi + (-19612 * rise - 2 * rl * len))) ∧ Below w.heap.size w w' := by
  obtain ⟨e1, e2⟩ := sum_wrap h he
  have HC := Lib.hid (change_any k len rise rl rh fl fh h)
  generalize -19612 * rise - 2 * rh * len = c1 at *
  generalize -19612 * rise - 2 * rl * len = c2 at *
  have HP := Lib.hid (fun w' => plus_any lo hi c1 c2 e1 e2 w')
  clear e1 e2 h he
  generalize lo + c1 = s1 at *
  generalize hi + c2 = s2 at *
  unfold chkV
  go_enter Try.func121, Try.ntmps121
  go_upto_region 1 with fail
  go_cut [6] (fun s6 wx => ∃ b : Nat, s6 = .pointer (some ⟨b, 0, none⟩) ∧ w.heap.size + 3 ≤ b ∧ b < wx.heap.size ∧ Below w.heap.size w wx ∧ wx.cell? ⟨w.heap.size + 1 + 1, 0, none⟩ = some (.int .i64 0) ∧ wx.cell? ⟨w.heap.size + 1 + 1, 1, none⟩ = some (.int .i64 0) ∧ wx.frozen? ⟨w.heap.size + 1 + 1, 0, none⟩ = false ∧ wx.frozen? ⟨w.heap.size + 1 + 1, 1, none⟩ = false ∧ wx.cell? ⟨b, 0, none⟩ = some (.int .i64 s1) ∧ wx.cell? ⟨b, 1, none⟩ = some (.int .i64 s2) ∧ wx.frozen? ⟨b, 0, none⟩ = false ∧ wx.frozen? ⟨b, 1, none⟩ = false)
  case first =>
    have k0 : (((w.alloc (.cells #[.int .i64 k, .int .i64 len, .int .i64 rise, .int .i64 rl, .int .i64 rh, .int .i64 fl, .int .i64 fh] 39)).alloc (.cells #[.int .i64 lo, .int .i64 hi] 29)).alloc (.cells #[.int .i64 0, .int .i64 0] 29)).cell? ⟨w.heap.size, 0, none⟩ = some (.int .i64 k) := by go_cell
    have k1 : (((w.alloc (.cells #[.int .i64 k, .int .i64 len, .int .i64 rise, .int .i64 rl, .int .i64 rh, .int .i64 fl, .int .i64 fh] 39)).alloc (.cells #[.int .i64 lo, .int .i64 hi] 29)).alloc (.cells #[.int .i64 0, .int .i64 0] 29)).cell? ⟨w.heap.size, 1, none⟩ = some (.int .i64 len) := by go_cell
    have k2 : (((w.alloc (.cells #[.int .i64 k, .int .i64 len, .int .i64 rise, .int .i64 rl, .int .i64 rh, .int .i64 fl, .int .i64 fh] 39)).alloc (.cells #[.int .i64 lo, .int .i64 hi] 29)).alloc (.cells #[.int .i64 0, .int .i64 0] 29)).cell? ⟨w.heap.size, 2, none⟩ = some (.int .i64 rise) := by go_cell
    have k3 : (((w.alloc (.cells #[.int .i64 k, .int .i64 len, .int .i64 rise, .int .i64 rl, .int .i64 rh, .int .i64 fl, .int .i64 fh] 39)).alloc (.cells #[.int .i64 lo, .int .i64 hi] 29)).alloc (.cells #[.int .i64 0, .int .i64 0] 29)).cell? ⟨w.heap.size, 3, none⟩ = some (.int .i64 rl) := by go_cell
    have k4 : (((w.alloc (.cells #[.int .i64 k, .int .i64 len, .int .i64 rise, .int .i64 rl, .int .i64 rh, .int .i64 fl, .int .i64 fh] 39)).alloc (.cells #[.int .i64 lo, .int .i64 hi] 29)).alloc (.cells #[.int .i64 0, .int .i64 0] 29)).cell? ⟨w.heap.size, 4, none⟩ = some (.int .i64 rh) := by go_cell
    have k5 : (((w.alloc (.cells #[.int .i64 k, .int .i64 len, .int .i64 rise, .int .i64 rl, .int .i64 rh, .int .i64 fl, .int .i64 fh] 39)).alloc (.cells #[.int .i64 lo, .int .i64 hi] 29)).alloc (.cells #[.int .i64 0, .int .i64 0] 29)).cell? ⟨w.heap.size, 5, none⟩ = some (.int .i64 fl) := by go_cell
    have k6 : (((w.alloc (.cells #[.int .i64 k, .int .i64 len, .int .i64 rise, .int .i64 rl, .int .i64 rh, .int .i64 fl, .int .i64 fh] 39)).alloc (.cells #[.int .i64 lo, .int .i64 hi] 29)).alloc (.cells #[.int .i64 0, .int .i64 0] 29)).cell? ⟨w.heap.size, 6, none⟩ = some (.int .i64 fh) := by go_cell
    have k7 : (((w.alloc (.cells #[.int .i64 k, .int .i64 len, .int .i64 rise, .int .i64 rl, .int .i64 rh, .int .i64 fl, .int .i64 fh] 39)).alloc (.cells #[.int .i64 lo, .int .i64 hi] 29)).alloc (.cells #[.int .i64 0, .int .i64 0] 29)).cell? ⟨w.heap.size + 1, 0, none⟩ = some (.int .i64 lo) := by go_cell
    have k8 : (((w.alloc (.cells #[.int .i64 k, .int .i64 len, .int .i64 rise, .int .i64 rl, .int .i64 rh, .int .i64 fl, .int .i64 fh] 39)).alloc (.cells #[.int .i64 lo, .int .i64 hi] 29)).alloc (.cells #[.int .i64 0, .int .i64 0] 29)).cell? ⟨w.heap.size + 1, 1, none⟩ = some (.int .i64 hi) := by go_cell
    have q0 : (((w.alloc (.cells #[.int .i64 k, .int .i64 len, .int .i64 rise, .int .i64 rl, .int .i64 rh, .int .i64 fl, .int .i64 fh] 39)).alloc (.cells #[.int .i64 lo, .int .i64 hi] 29)).alloc (.cells #[.int .i64 0, .int .i64 0] 29)).cell? ⟨w.heap.size + 1 + 1, 0, none⟩ = some (.int .i64 0) := by go_cell
    have qf0 : (((w.alloc (.cells #[.int .i64 k, .int .i64 len, .int .i64 rise, .int .i64 rl, .int .i64 rh, .int .i64 fl, .int .i64 fh] 39)).alloc (.cells #[.int .i64 lo, .int .i64 hi] 29)).alloc (.cells #[.int .i64 0, .int .i64 0] 29)).frozen? ⟨w.heap.size + 1 + 1, 0, none⟩ = false := by go_cell
    have q1 : (((w.alloc (.cells #[.int .i64 k, .int .i64 len, .int .i64 rise, .int .i64 rl, .int .i64 rh, .int .i64 fl, .int .i64 fh] 39)).alloc (.cells #[.int .i64 lo, .int .i64 hi] 29)).alloc (.cells #[.int .i64 0, .int .i64 0] 29)).cell? ⟨w.heap.size + 1 + 1, 1, none⟩ = some (.int .i64 0) := by go_cell
    have qf1 : (((w.alloc (.cells #[.int .i64 k, .int .i64 len, .int .i64 rise, .int .i64 rl, .int .i64 rh, .int .i64 fl, .int .i64 fh] 39)).alloc (.cells #[.int .i64 lo, .int .i64 hi] 29)).alloc (.cells #[.int .i64 0, .int .i64 0] 29)).frozen? ⟨w.heap.size + 1 + 1, 1, none⟩ = false := by go_cell
    have hwb : Below w.heap.size w (((w.alloc (.cells #[.int .i64 k, .int .i64 len, .int .i64 rise, .int .i64 rl, .int .i64 rh, .int .i64 fl, .int .i64 fh] 39)).alloc (.cells #[.int .i64 lo, .int .i64 hi] 29)).alloc (.cells #[.int .i64 0, .int .i64 0] 29)) := by repeat' (first | (with_reducible exact Below.refl _ _) | (with_reducible assumption) | (with_reducible refine Below.alloc ?_ ?_ _) | (with_reducible refine Below.drew ?_) | (with_reducible refine below_drewN ?_ _) | (with_reducible refine Below.setCell ?_ ?_ _) | (with_reducible refine Below.trans ?_ (Below.mono (by assumption) ?_)) | go_size | (exact Below.size (by assumption)))
    have hws : w.heap.size + 1 + 1 + 1 = (((w.alloc (.cells #[.int .i64 k, .int .i64 len, .int .i64 rise, .int .i64 rl, .int .i64 rh, .int .i64 fl, .int .i64 fh] 39)).alloc (.cells #[.int .i64 lo, .int .i64 hi] 29)).alloc (.cells #[.int .i64 0, .int .i64 0] 29)).heap.size := by simp
    generalize ((w.alloc (.cells #[.int .i64 k, .int .i64 len, .int .i64 rise, .int .i64 rl, .int .i64 rh, .int .i64 fl, .int .i64 fh] 39)).alloc (.cells #[.int .i64 lo, .int .i64 hi] 29)).alloc (.cells #[.int .i64 0, .int .i64 0] 29) = wa at *
    have g0 : w.heap.size < wa.heap.size := by omega
    have g1 : w.heap.size + 1 < wa.heap.size := by omega
    have g2 : w.heap.size + 1 + 1 < wa.heap.size := by omega
    have g5 : w.heap.size < wa.heap.size + 1 := by omega
    have g3 : wa.heap.size ≠ w.heap.size := by omega
    have g4 : wa.heap.size ≠ w.heap.size + 1 := by omega
    go_region_held3 (fun w' => w'.cell? ⟨w.heap.size, 0, none⟩ = some (.int .i64 k) ∧ w'.cell? ⟨w.heap.size, 1, none⟩ = some (.int .i64 len) ∧ w'.cell? ⟨w.heap.size, 2, none⟩ = some (.int .i64 rise) ∧ w'.cell? ⟨w.heap.size, 3, none⟩ = some (.int .i64 rl) ∧ w'.cell? ⟨w.heap.size, 4, none⟩ = some (.int .i64 rh) ∧ w'.cell? ⟨w.heap.size, 5, none⟩ = some (.int .i64 fl) ∧ w'.cell? ⟨w.heap.size, 6, none⟩ = some (.int .i64 fh) ∧ w'.cell? ⟨w.heap.size + 1, 0, none⟩ = some (.int .i64 lo) ∧ w'.cell? ⟨w.heap.size + 1, 1, none⟩ = some (.int .i64 hi)) (simp [*, World.cell?_alloc_past, World.cell?_setCell_far])
      ((first | (go_at_call 132; refine (HC.out _).mono ?_; rintro e w1 ⟨rfl, b1⟩; obtain ⟨hc1, hf1, hz1⟩ := bstep (Nat.le_refl _) b1; (try simp only [World.size_alloc, World.size_drew] at hc1 hf1 hz1); have hy1 : w.heap.size < w1.heap.size := (by omega); have hx1 : w.heap.size + 1 < w1.heap.size := (by omega); have hv1 : w.heap.size + 1 + 1 < w1.heap.size := (by omega); have hl1 : w.heap.size ≤ w1.heap.size := (by omega); have hm1 : w.heap.size < w1.heap.size + 1 := (by omega); have hp1 : w1.heap.size ≠ w.heap.size := (by omega); have hq1 : w1.heap.size ≠ w.heap.size + 1 := (by omega); (first | (have hu1 : wa.heap.size < w1.heap.size := (by omega)) | skip)) | (go_at_call 131; refine (HP.out _).mono ?_; rintro e w2 ⟨rfl, b2⟩; obtain ⟨hc2, hf2, hz2⟩ := bstep (Nat.le_refl _) b2; (try simp only [World.size_alloc, World.size_drew] at hc2 hf2 hz2); have hy2 : w.heap.size < w2.heap.size := (by omega); have hx2 : w.heap.size + 1 < w2.heap.size := (by omega); have hv2 : w.heap.size + 1 + 1 < w2.heap.size := (by omega); have hl2 : w.heap.size ≤ w2.heap.size := (by omega); have hm2 : w.heap.size < w2.heap.size + 1 := (by omega); have hp2 : w2.heap.size ≠ w.heap.size := (by omega); have hq2 : w2.heap.size ≠ w.heap.size + 1 := (by omega); (first | (have hu2 : wa.heap.size < w2.heap.size := (by omega)) | skip); (first | (have ht2 : w1.heap.size < w2.heap.size := (by omega)) | skip))))
    all_goals (go_wp2_with fail; go_meet; refine ⟨_, rfl, by go_size, by go_size, by repeat' (first | (with_reducible exact Below.refl _ _) | (with_reducible assumption) | (with_reducible refine Below.alloc ?_ ?_ _) | (with_reducible refine Below.drew ?_) | (with_reducible refine below_drewN ?_ _) | (with_reducible refine Below.setCell ?_ ?_ _) | (with_reducible refine Below.trans ?_ (Below.mono (by assumption) ?_)) | go_size | (exact Below.size (by assumption))), by go_cell, by go_cell, by go_cell, by go_cell, by go_cell, by go_cell, by go_cell, by go_cell⟩)
  case rest =>
  obtain ⟨b, rfl, hb1, hb2, hbb, z0, z1, fy0, fy1, d0, d1, fz0, fz1⟩ := hcut
  have hne : b ≠ w.heap.size + 1 + 1 := by omega
  have hne2 : w.heap.size + 1 + 1 ≠ b := by omega
  have y2 : w.heap.size + 1 + 1 < wc.heap.size := by omega
  clear HC HP
  by_cases h1 : s1 < 0
  · go_wp2
    refine bodyPost_ret (v := .tuple #[.agg #[.int .i64 0, .int .i64 0], .int .i64 5]) (by simp [results, Try.results121, go_sem, *]; done) rfl ?_
    exact ⟨by first | rfl | (simp [*]; done), by repeat' (first | (with_reducible exact Below.refl _ _) | (with_reducible assumption) | (with_reducible refine Below.alloc ?_ ?_ _) | (with_reducible refine Below.drew ?_) | (with_reducible refine below_drewN ?_ _) | (with_reducible refine Below.setCell ?_ ?_ _) | (with_reducible refine Below.trans ?_ (Below.mono (by assumption) ?_)) | go_size | (exact Below.size (by assumption)))⟩
  · by_cases h2 : 10000000000 < s2
    · go_wp2
      refine bodyPost_ret (v := .tuple #[.agg #[.int .i64 0, .int .i64 0], .int .i64 3]) (by simp [results, Try.results121, go_sem, *]; done) rfl ?_
      exact ⟨by first | rfl | (simp [*]; done), by repeat' (first | (with_reducible exact Below.refl _ _) | (with_reducible assumption) | (with_reducible refine Below.alloc ?_ ?_ _) | (with_reducible refine Below.drew ?_) | (with_reducible refine below_drewN ?_ _) | (with_reducible refine Below.setCell ?_ ?_ _) | (with_reducible refine Below.trans ?_ (Below.mono (by assumption) ?_)) | go_size | (exact Below.size (by assumption)))⟩
    · go_wp2
      refine bodyPost_ret (v := .tuple #[.agg #[.int .i64 s1, .int .i64 s2], .int .i64 0]) (by simp [results, Try.results121, go_sem, *]; done) rfl ?_
      exact ⟨by first | rfl | (simp [*]; done), by repeat' (first | (with_reducible exact Below.refl _ _) | (with_reducible assumption) | (with_reducible refine Below.alloc ?_ ?_ _) | (with_reducible refine Below.drew ?_) | (with_reducible refine below_drewN ?_ _) | (with_reducible refine Below.setCell ?_ ?_ _) | (with_reducible refine Below.trans ?_ (Below.mono (by assumption) ?_)) | go_size | (exact Below.size (by assumption)))⟩
theorem index_any (l : List Int) (x : Int) (A : Option Addr) (B c : Nat) (w : World) (hr : Rd w B A (ints l)) (hn : l.length ≤ 1048576) :
   Calls Try.prog 176 #[.slice A l.length c, .int .i64 x] w fun e w' => e = .returned (.int .i64 (idxB (· == x) l)) ∧ w = w' := by
  go_enter Try.func176, Try.ntmps176
  go_wp2_with fail
  go_loop [8] (fun i => ∃ k : Nat, k ≤ l.length ∧ i = .int .i64 k ∧ (l.take k).any (· == x) = false) (fun i => l.length - (intOf i).toNat)
  case atStart => exact ⟨0, Nat.zero_le _, rfl, by simp⟩
  case round =>
    obtain ⟨k, hk, rfl, hall⟩ := hrel
    by_cases hlt : k < l.length
    · have ht := List.getElem?_eq_getElem hlt
      generalize l[k] = t at ht
      obtain ⟨b, o, rfl, _, c0⟩ := hr.int ht
      have Ht := Lib.hid ht
      have Ha := Lib.hid hall
      clear ht hall hr
      by_cases hx : x = t
      · have Hx := Lib.hid hx
        have hb : (x == t) = true := by rw [beq_iff_eq]; exact hx
        clear hx
        go_wp2
        go_ret
        exact ⟨ret_int (by rw [idxB_here _ _ Ht.out Ha.out (by rw [Hx.out]; simp)]), rfl⟩
      · have Hx := Lib.hid hx
        have hb : (x == t) = false := by rw [beq_eq_false_iff_ne]; exact hx
        clear hx
        go_wp2
        go_round
        case rel => exact ⟨k + 1, by omega, by go_num, by rw [any_step _ _ Ht.out, Ha.out]; simp; exact fun h => Hx.out h.symm⟩
        case measure => simp [intOf]; omega
    · have hk' : k = l.length := by omega
      subst hk'
      rw [List.take_length] at hall
      have Ha := Lib.hid hall
      clear hall hr
      go_wp2
      go_ret
      exact ⟨ret_int (idxB_none _ _ Ha.out).symm, rfl⟩
theorem contains_any (l : List Int) (x : Int) (A : Option Addr) (B c : Nat) (w : World) (hr : Rd w B A (ints l)) (hn : l.length ≤ 1048576) :
   Calls Try.prog 146 #[.slice A l.length c, .int .i64 x] w fun e w' => e = .returned (.bool (l.any (· == x))) ∧ w = w' := by
  have Hi := Lib.hid (index_any l x A B c w hr hn)
  clear hr
  go_enter Try.func146, Try.ntmps146
  go_wp2_with (go_at_call 176; refine (Hi.out).mono ?_; rintro e w' ⟨rfl, rfl⟩)
  go_ret
  exact ⟨ret_bool (idxB_any _ _), rfl⟩
theorem l01Has_any (l : List Int) (x : Int) (A : Option Addr) (B c : Nat) (w : World) (hr : Rd w B A (ints l)) (hn : l.length ≤ 1048576) :
   Calls Try.prog 151 #[.slice A l.length c, .int .i64 x] w fun e w' => e = .returned (.bool (l.any (· == x))) ∧ w = w' := by
  go_enter Try.func151, Try.ntmps151
  go_wp2_with fail
  go_loop [5] (fun i => ∃ k : Nat, k ≤ l.length ∧ i = .int .i64 k ∧ (l.take k).any (· == x) = false) (fun i => l.length - (intOf i).toNat)
  case atStart => exact ⟨0, Nat.zero_le _, rfl, by simp⟩
  case round =>
    obtain ⟨k, hk, rfl, hall⟩ := hrel
    by_cases hlt : k < l.length
    · have ht := List.getElem?_eq_getElem hlt
      generalize l[k] = t at ht
      obtain ⟨b, o, rfl, _, c0⟩ := hr.int ht
      have Ht := Lib.hid ht
      have Ha := Lib.hid hall
      clear ht hall hr
      cases hb : (t == x) with
      | true =>
        have Hb := Lib.hid hb
        go_wp2
        go_ret
        exact ⟨ret_bool (by rw [Eq.comm, List.any_eq_true]; exact ⟨t, List.mem_of_getElem? Ht.out, Hb.out⟩), rfl⟩
      | false =>
        have Hb := Lib.hid hb
        go_wp2
        go_round
        case rel => exact ⟨k + 1, by omega, by go_num, by rw [any_step _ _ Ht.out, Ha.out, Hb.out]; rfl⟩
        case measure => simp [intOf]; omega
    · have hk' : k = l.length := by omega
      subst hk'
      rw [List.take_length] at hall
      have Ha := Lib.hid hall
      clear hall hr
      go_wp2
      go_ret
      exact ⟨ret_bool Ha.out.symm, rfl⟩
end Go.Proofs.Ytooifamckccadaa
