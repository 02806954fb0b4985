/- The energies along runs of segments: a walk of the program. -/
import Derived.Test.YtooifamckccadaaAl0
import Derived.Test.YtooifamckccadaaSe
import Derived.Deep.DeepCutAuto
import Derived.Deep.RegionHeld3
namespace Go.Proofs.Ytooifamckccadaa
open Go.ChangeShapes Go.WideShapes Go.ChangeAt Go.RowKit
set_option maxRecDepth 20000
set_option linter.unusedVariables false
set_option linter.unusedSimpArgs false
def okP (e : Ivl) : Ivl := if badP e = 0 then e else (0, 0)
theorem chkV_form (a b : Int) : chkV a b = .tuple #[.agg #[.int .i64 (okP (a, b)).1, .int .i64 (okP (a, b)).2], .int .i64 (badP (a, b))] := by
  by_cases h : badP (a, b) = 0
  · rw [chkV_ok h, h]; simp [okP, h]
  · rw [chkV_bad h]; simp [okP, h]
theorem after_t (t : Seg) (e : Ivl) (h : segT t = true) (he : enB e.1 e.2 = true) (w : World) : Calls Try.prog 121 #[.agg #[.int .i64 t.1, .int .i64 t.2.1, .int .i64 t.2.2.1, .int .i64 t.2.2.2.1, .int .i64 t.2.2.2.2.1, .int .i64 t.2.2.2.2.2.1, .int .i64 t.2.2.2.2.2.2], .agg #[.int .i64 e.1, .int .i64 e.2]] w fun x w' => x = .returned (.tuple #[.agg #[.int .i64 (okP (coastP t e)).1, .int .i64 (okP (coastP t e)).2], .int .i64 (badP (coastP t e))]) ∧ Below w.heap.size w w' := by
  have h1 := after_any _ _ _ _ _ _ _ _ _ h he w
  rw [chkV_form] at h1
  exact h1
theorem active_t (t : Seg) (e : Ivl) (h : segT t = true) (he : enB e.1 e.2 = true) (w : World) : Calls Try.prog 97 #[.agg #[.int .i64 t.1, .int .i64 t.2.1, .int .i64 t.2.2.1, .int .i64 t.2.2.2.1, .int .i64 t.2.2.2.2.1, .int .i64 t.2.2.2.2.2.1, .int .i64 t.2.2.2.2.2.2], .agg #[.int .i64 e.1, .int .i64 e.2]] w fun x w' => x = .returned (.tuple #[.agg #[.int .i64 (okP (actT t e)).1, .int .i64 (okP (actT t e)).2], .int .i64 (badP (actT t e))]) ∧ Below w.heap.size w w' := by
  have h1 := active_any _ _ _ _ _ _ _ _ _ h he w
  rw [chkV_form] at h1
  exact h1
set_option maxHeartbeats 8000000 in
theorem activeAlong_any (ls : List Seg) (on : List Int) (n f : Nat) (lo hi : Int) (hlay : layB ls = true) (he : enB lo hi = true) (hn : n ≤ 24) (hf : f < ls.length) (A A' : Option Addr) (B c c' : Nat) (w : World) (hs : Rd w B A (ls.flatMap eSegment)) (hr : Rd w B A' (ints on)) (hB : B ≤ w.heap.size) (hn2 : on.length ≤ 1048576) :
   Calls Try.prog 78 #[.agg #[.slice A ls.length c], .int .i64 f, .int .i64 n, .agg #[.int .i64 lo, .int .i64 hi], .slice A' on.length c'] w fun e w' => ∃ A2 c2, e = .returned (.tuple #[.slice A2 (runP ls on n f (lo, hi)).1.length c2, .int .i64 (runP ls on n f (lo, hi)).2]) ∧ w'.ownsRow w.heap.size 29 2 (.slice A2 (runP ls on n f (lo, hi)).1.length c2) (runP ls on n f (lo, hi)).1.length ((runP ls on n f (lo, hi)).1.flatMap eInterval) ∧ Below w.heap.size w w' := by
  obtain ⟨_, hlen3, hlen24⟩ := lay_all hlay
  have Hs := Lib.hid hs
  have Hr := Lib.hid hr
  have Hlay := Lib.hid hlay
  clear hs hr hlay
  go_enter Try.func78, Try.ntmps78
  go_wp2_with fail
  go_loopw [12, 18] (fun v i wr => ∃ (k : Nat) (acc : List Ivl) (e : Ivl), k ≤ n ∧ i = .int .i64 k ∧ upTo ls on n f (lo, hi) k acc e ∧ enB e.1 e.2 = true ∧ wr.ownsRow (w.heap.size + 2) 29 2 v k (acc.flatMap eInterval) ∧ Below w.heap.size w wr ∧ w.heap.size + 2 ≤ wr.heap.size ∧ wr.cell? ⟨w.heap.size, 0, none⟩ = some (.slice A ls.length c) ∧ wr.cell? ⟨w.heap.size + 1, 0, none⟩ = some (.int .i64 e.1) ∧ wr.cell? ⟨w.heap.size + 1, 1, none⟩ = some (.int .i64 e.2) ∧ wr.frozen? ⟨w.heap.size + 1, 0, none⟩ = false ∧ wr.frozen? ⟨w.heap.size + 1, 1, none⟩ = false) (fun _ i _ => n - (intOf i).toNat)
  case atStart => exact ⟨0, [], (lo, hi), Nat.zero_le _, rfl, upTo_start _ _ _ _ _, he, World.ownsRow_nil _ _ _ _, by repeat' (first | (with_reducible exact Below.refl _ _) | (with_reducible assumption) | (with_reducible refine Below.alloc ?_ ?_ _) | (with_reducible refine Below.drew ?_) | (with_reducible refine below_drewN ?_ _) | (with_reducible refine Below.setCell ?_ ?_ _) | (with_reducible refine Below.trans ?_ (Below.mono (by assumption) ?_)) | go_size | (exact Below.size (by assumption))), by simp, by go_cell, by go_cell, by go_cell, by go_cell, by go_cell⟩
  case round =>
    obtain ⟨k, acc, e, hk, rfl, hup, hen, hown, hbw, hsz, cL, cE0, cE1, fE0, fE1⟩ := hrel
    by_cases hlt : k < n
    · have hm := Nat.mod_lt (f + k) (show 0 < ls.length by omega)
      have e2 := tmod_nat (f + k) ls.length
      have ht := List.getElem?_eq_getElem hm
      generalize ls[(f + k) % ls.length] = t at ht
      have hst := segT_at Hlay.out ht
      have Hup := Lib.hid (fun h => upTo_step hup hlt ht h)
      have Hub := Lib.hid (fun h => upTo_bad hup hlt ht h)
      have hlacc := hup.1
      generalize (f + k) % ls.length = j at ht hm e2 Hup Hub
      have e1 : IntKind.i64.wrap ((f : Int) + (k : Int)) = ((f + k : Nat) : Int) := by rw [Int.natCast_add]; exact IntWalk.i64_in _ (by omega)
      have e3 : ((f : Int) + (k : Int)) % (ls.length : Int) = (j : Int) := by rw [← e2, ← Int.natCast_add]; exact (Int.tmod_eq_emod_of_nonneg (by omega)).symm
      clear e1 e2
      obtain ⟨bs, os, rfl, hbB, c0, c1, c2, c3, c4, c5, c6⟩ := (Hs.out.below hbw hB).atSegment ht
      have HA := Lib.hid (fun w' => after_t t e hst hen w')
      have HB := Lib.hid (fun w' => active_t t e hst hen w')
      have HC := Lib.hid (fun w' h => contains_any on j A' B c' w' h hn2)
      have hne : ((ls.length : Int) == 0) = false := by rw [beq_eq_false_iff_ne]; omega
      have hi0 : (0 : Int) ≤ (j : Int) := by omega
      have hi1 : (j : Int) < (ls.length : Int) := by omega
      have hne' := next_en (on := on) (j := j) hst hen
      have Hne := Lib.hid hne'
      have Ho := Lib.hid hown
      have Hlacc := Lib.hid hlacc
      have Hen := Lib.hid hen
      clear hup hen hst hown ht hne' hlacc
      obtain ⟨tk, tl, tr, trl, trh, tfl, tfh⟩ := t
      obtain ⟨el, eh⟩ := e
      dsimp only at *
      have g0 : w.heap.size < wr.heap.size := by omega
      have g1 : w.heap.size + 1 < wr.heap.size := by omega
      have g2 : bs < wr.heap.size := by omega
      have g8 : w.heap.size < wr.heap.size + 1 := by omega
      have g9 : bs < wr.heap.size + 1 := by omega
      have g3 : wr.heap.size ≠ w.heap.size := by omega
      have g4 : wr.heap.size ≠ w.heap.size + 1 := by omega
      have g5 : wr.heap.size ≠ bs := by omega
      have g6 : w.heap.size ≠ bs := by omega
      have g7 : w.heap.size + 1 ≠ bs := by omega
      generalize hX : coastP (tk, tl, tr, trl, trh, tfl, tfh) (el, eh) = X at *
      generalize hY : actT (tk, tl, tr, trl, trh, tfl, tfh) (el, eh) = Y at *
      go_upto_region 1 with (go_at_call 108; refine (length_seg _ _ _ (by omega) _).mono ?_; rintro e w' ⟨rfl, rfl⟩)
      simp only [e3]
      go_cut [15, 16] (fun s15 s16 wx => ∃ b : Nat, s15 = .pointer (some ⟨b, 0, none⟩) ∧ s16 = .int .i64 (badP X) ∧ wr.heap.size ≤ b ∧ b < wx.heap.size ∧ Below wr.heap.size wr wx ∧ wx.cell? ⟨b, 0, none⟩ = some (.int .i64 (okP X).1) ∧ wx.cell? ⟨b, 1, none⟩ = some (.int .i64 (okP X).2) ∧ wx.frozen? ⟨b, 0, none⟩ = false ∧ wx.frozen? ⟨b, 1, none⟩ = false)
      case first =>
        go_region_held3 (fun w' => w'.cell? ⟨w.heap.size, 0, none⟩ = some (.slice (some ⟨bs, os, none⟩) ls.length c) ∧ w'.cell? ⟨w.heap.size + 1, 0, none⟩ = some (.int .i64 el) ∧ w'.cell? ⟨w.heap.size + 1, 1, none⟩ = some (.int .i64 eh) ∧ w'.cell? ⟨bs, os + j * 7, none⟩ = some (.int .i64 tk) ∧ w'.cell? ⟨bs, os + j * 7 + 1, none⟩ = some (.int .i64 tl) ∧ w'.cell? ⟨bs, os + j * 7 + 2, none⟩ = some (.int .i64 tr) ∧ w'.cell? ⟨bs, os + j * 7 + 3, none⟩ = some (.int .i64 trl) ∧ w'.cell? ⟨bs, os + j * 7 + 4, none⟩ = some (.int .i64 trh) ∧ w'.cell? ⟨bs, os + j * 7 + 5, none⟩ = some (.int .i64 tfl) ∧ w'.cell? ⟨bs, os + j * 7 + 6, none⟩ = some (.int .i64 tfh)) (simp [*, World.cell?_alloc_past, World.cell?_setCell_far])
          ((go_at_call 121; refine (HA.out _).mono ?_; rintro e w1 ⟨rfl, b1⟩; obtain ⟨hc1, hf1, hz1⟩ := bstep (Nat.le_refl _) b1; (try simp only [World.size_alloc, World.size_drew] at hc1 hf1 hz1); have hy1 : w.heap.size < w1.heap.size := (by omega); have hx1 : w.heap.size + 1 < w1.heap.size := (by omega); have hv1 : bs < w1.heap.size := (by omega); have hp1 : w1.heap.size ≠ w.heap.size := (by omega); have hq1 : w1.heap.size ≠ w.heap.size + 1 := (by omega); have hr1 : w1.heap.size ≠ bs := (by omega); have hu1 : wr.heap.size < w1.heap.size + 1 := (by omega); (first | (have ht1 : wr.heap.size < w1.heap.size := (by omega)) | skip)))
        all_goals (go_wp2_with fail; go_meet; refine ⟨_, rfl, rfl, by go_size, by go_size, by repeat' (first | (with_reducible exact Below.refl _ _) | (with_reducible assumption) | (with_reducible refine Below.alloc ?_ ?_ _) | (with_reducible refine Below.drew ?_) | (with_reducible refine below_drewN ?_ _) | (with_reducible refine Below.setCell ?_ ?_ _) | (with_reducible refine Below.trans ?_ (Below.mono (by assumption) ?_)) | go_size | (exact Below.size (by assumption))), by go_cell, by go_cell, by go_cell, by go_cell⟩)
      case rest =>
      obtain ⟨b, rfl, rfl, hb1, hb2, hbb, d0, d1, fz0, fz1⟩ := hcut
      cases hq : on.any (· == (j : Int)) with
      | false =>
        have hnx : nextP on j (tk, tl, tr, trl, trh, tfl, tfh) (el, eh) = X := by rw [nextP, hq]; exact hX
        rw [hq] at HC
        have cL2 := (hbb.cell (p := ⟨w.heap.size, 0, none⟩) g0).trans cL
        have cE02 := (hbb.cell (p := ⟨w.heap.size + 1, 0, none⟩) g1).trans cE0
        have cE12 := (hbb.cell (p := ⟨w.heap.size + 1, 1, none⟩) g1).trans cE1
        have fE02 := (hbb.frozen (p := ⟨w.heap.size + 1, 0, none⟩) g1).trans fE0
        have fE12 := (hbb.frozen (p := ⟨w.heap.size + 1, 1, none⟩) g1).trans fE1
        have hz9 := hbb.size
        have hRr := Lib.hid ((Hr.out.below hbw hB).below hbb (by omega))
        clear cL cE0 cE1 fE0 fE1 HA HB hq hX hY c0 c1 c2 c3 c4 c5 c6
        by_cases hz : badP X = 0
        · have hok : okP X = X := by simp [okP, hz]
          rw [hok] at d0 d1
          have hup2 := Hup.out (by rw [hnx]; exact hz)
          have hen2 := Hne.out (by rw [hnx]; exact hz)
          rw [hnx] at hup2 hen2
          have own2 := own_setCell (own_setCell (own_below Ho.out hbb) (w.heap.size + 1) 0 (.int .i64 X.1) (by omega)) (w.heap.size + 1) 1 (.int .i64 X.2) (by omega)
          have hl6 := hup2.1
          have Hup2 := Lib.hid hup2
          have Hen2 := Lib.hid hen2
          have Own2 := Lib.hid own2
          have hkn : k ≤ 1048576 := by omega
          clear hup2 hen2 own2 Hup Hne hnx hok
          go_wp2_with (first | (go_at_call 146; refine (HC.out _ (by exact hRr.out)).mono ?_; rintro e w' ⟨rfl, rfl⟩) | (at_builtin; go_loud (refine wpList_append_iv rfl (.tmp 56) (.tmp 58) rfl (w.heap.size + 2) _ _ acc rfl Own2.out X.1 X.2 _ (by simp) rfl hkn (by simp; omega) ?_); intro v5 w5 own5 hb5 hz5; simp only [World.size_setCell] at hz5; have O5 := Lib.hid own5; clear own5))
          go_roundw
          case rel => exact ⟨k + 1, acc ++ [X], X, by omega, by go_num, Hup2.out, Hen2.out, O5.out, by repeat' (first | (with_reducible exact Below.refl _ _) | (with_reducible assumption) | (with_reducible refine Below.alloc ?_ ?_ _) | (with_reducible refine Below.drew ?_) | (with_reducible refine below_drewN ?_ _) | (with_reducible refine Below.setCell ?_ ?_ _) | (with_reducible refine Below.trans ?_ (Below.mono (by assumption) ?_)) | go_size | (exact Below.size (by assumption))), by omega, (hb5.cell (p := ⟨w.heap.size, 0, none⟩) (by go_size)).trans (by go_cell), (hb5.cell (p := ⟨w.heap.size + 1, 0, none⟩) (by go_size)).trans (by go_cell), (hb5.cell (p := ⟨w.heap.size + 1, 1, none⟩) (by go_size)).trans (by go_cell), (hb5.frozen (p := ⟨w.heap.size + 1, 0, none⟩) (by go_size)).trans (by go_cell), (hb5.frozen (p := ⟨w.heap.size + 1, 1, none⟩) (by go_size)).trans (by go_cell)⟩
          case measure => simp [intOf]; omega
        · have hrun := Hub.out (by rw [hnx]; exact hz)
          rw [hnx] at hrun
          have Hrun := Lib.hid hrun
          have hzb : (badP X != 0) = true := by simpa using hz
          have Own2 := Lib.hid (own_below Ho.out hbb)
          have hlk := Hlacc.out
          clear hrun hnx Hup Hub Hne
          go_wp2_with (first | (go_at_call 146; refine (HC.out _ (by exact hRr.out)).mono ?_; rintro e w' ⟨rfl, rfl⟩))
          obtain ⟨A2, c2, rfl⟩ := own_val Own2.out
          refine bodyPost_ret (v := .tuple #[.slice A2 k c2, .int .i64 (badP X)]) (by simp [results, Try.results78, go_sem, *]) rfl ?_
          rw [Hrun.out]
          dsimp only
          rw [hlk]
          exact ⟨A2, c2, rfl, own_more Own2.out (by omega), by repeat' (first | (with_reducible exact Below.refl _ _) | (with_reducible assumption) | (with_reducible refine Below.alloc ?_ ?_ _) | (with_reducible refine Below.drew ?_) | (with_reducible refine below_drewN ?_ _) | (with_reducible refine Below.setCell ?_ ?_ _) | (with_reducible refine Below.trans ?_ (Below.mono (by assumption) ?_)) | go_size | (exact Below.size (by assumption)))⟩
      | true =>
        have hnx : nextP on j (tk, tl, tr, trl, trh, tfl, tfh) (el, eh) = Y := by rw [nextP, hq]; exact hY
        rw [hq] at HC
        have cLh := Lib.hid cL
        have cE0h := Lib.hid cE0
        have cE1h := Lib.hid cE1
        have fE0h := Lib.hid fE0
        have fE1h := Lib.hid fE1
        replace cL := (hbb.cell (p := ⟨w.heap.size, 0, none⟩) g0).trans cL
        replace cE0 := (hbb.cell (p := ⟨w.heap.size + 1, 0, none⟩) g1).trans cE0
        replace cE1 := (hbb.cell (p := ⟨w.heap.size + 1, 1, none⟩) g1).trans cE1
        replace fE0 := (hbb.frozen (p := ⟨w.heap.size + 1, 0, none⟩) g1).trans fE0
        replace fE1 := (hbb.frozen (p := ⟨w.heap.size + 1, 1, none⟩) g1).trans fE1
        replace c0 := (hbb.cell (p := ⟨bs, os + j * 7, none⟩) g2).trans c0
        replace c1 := (hbb.cell (p := ⟨bs, os + j * 7 + 1, none⟩) g2).trans c1
        replace c2 := (hbb.cell (p := ⟨bs, os + j * 7 + 2, none⟩) g2).trans c2
        replace c3 := (hbb.cell (p := ⟨bs, os + j * 7 + 3, none⟩) g2).trans c3
        replace c4 := (hbb.cell (p := ⟨bs, os + j * 7 + 4, none⟩) g2).trans c4
        replace c5 := (hbb.cell (p := ⟨bs, os + j * 7 + 5, none⟩) g2).trans c5
        replace c6 := (hbb.cell (p := ⟨bs, os + j * 7 + 6, none⟩) g2).trans c6
        have hz9 := hbb.size
        have hRr := Lib.hid ((Hr.out.below hbw hB).below hbb (by omega))
        clear HA hq hX hY
        have hbz : wr.heap.size < wc.heap.size := by omega
        have g0 : w.heap.size < wc.heap.size := by omega
        have g1 : w.heap.size + 1 < wc.heap.size := by omega
        have g2 : bs < wc.heap.size := by omega
        have hbw2 := hbw.trans (hbb.mono (by omega))
        have n1 : b ≠ w.heap.size := by omega
        have n2 : b ≠ w.heap.size + 1 := by omega
        have n3 : b ≠ bs := by omega
        go_upto_region 1 with (go_at_call 146; refine (HC.out _ (by exact hRr.out)).mono ?_; rintro e w' ⟨rfl, rfl⟩)
        go_cut [16] (fun s16 wx => s16 = .int .i64 (badP Y) ∧ b < wx.heap.size ∧ Below wr.heap.size wr wx ∧ wx.cell? ⟨b, 0, none⟩ = some (.int .i64 (okP Y).1) ∧ wx.cell? ⟨b, 1, none⟩ = some (.int .i64 (okP Y).2) ∧ wx.frozen? ⟨b, 0, none⟩ = false ∧ wx.frozen? ⟨b, 1, none⟩ = false)
        case first =>
          go_region_held3 (fun w' => w'.cell? ⟨w.heap.size, 0, none⟩ = some (.slice (some ⟨bs, os, none⟩) ls.length c) ∧ w'.cell? ⟨w.heap.size + 1, 0, none⟩ = some (.int .i64 el) ∧ w'.cell? ⟨w.heap.size + 1, 1, none⟩ = some (.int .i64 eh) ∧ w'.cell? ⟨bs, os + j * 7, none⟩ = some (.int .i64 tk) ∧ w'.cell? ⟨bs, os + j * 7 + 1, none⟩ = some (.int .i64 tl) ∧ w'.cell? ⟨bs, os + j * 7 + 2, none⟩ = some (.int .i64 tr) ∧ w'.cell? ⟨bs, os + j * 7 + 3, none⟩ = some (.int .i64 trl) ∧ w'.cell? ⟨bs, os + j * 7 + 4, none⟩ = some (.int .i64 trh) ∧ w'.cell? ⟨bs, os + j * 7 + 5, none⟩ = some (.int .i64 tfl) ∧ w'.cell? ⟨bs, os + j * 7 + 6, none⟩ = some (.int .i64 tfh)) (simp [*, World.cell?_alloc_past, World.cell?_setCell_far])
            ((go_at_call 97; refine (HB.out _).mono ?_; rintro e w1 ⟨rfl, b1⟩; obtain ⟨hc1, hf1, hz1⟩ := bstep (Nat.le_refl _) b1; (try simp only [World.size_alloc, World.size_drew] at hc1 hf1 hz1); have hy1 : w.heap.size < w1.heap.size := (by omega); have hx1 : w.heap.size + 1 < w1.heap.size := (by omega); have hv1 : bs < w1.heap.size := (by omega); have hp1 : w1.heap.size ≠ w.heap.size := (by omega); have hq1 : w1.heap.size ≠ w.heap.size + 1 := (by omega); have hr1 : w1.heap.size ≠ bs := (by omega); have hu1 : wc.heap.size < w1.heap.size + 1 := (by omega); (first | (have ht1 : wc.heap.size < w1.heap.size := (by omega)) | skip)))
          all_goals (go_wp2_with fail; go_meet; refine ⟨rfl, by go_size, by repeat' (first | (with_reducible exact Below.refl _ _) | (with_reducible assumption) | (with_reducible refine Below.alloc ?_ ?_ _) | (with_reducible refine Below.drew ?_) | (with_reducible refine below_drewN ?_ _) | (with_reducible refine Below.setCell ?_ ?_ _) | (with_reducible refine Below.trans ?_ (Below.mono (by assumption) ?_)) | go_size | (exact Below.size (by assumption))), by go_cell, by go_cell, by go_cell, by go_cell⟩)
        case rest =>
        obtain ⟨rfl, hb2, hbb, d0, d1, fz0, fz1⟩ := hcut
        have cL2 := (hbb.cell (p := ⟨w.heap.size, 0, none⟩) (by omega)).trans cLh.out
        have cE02 := (hbb.cell (p := ⟨w.heap.size + 1, 0, none⟩) (by omega)).trans cE0h.out
        have cE12 := (hbb.cell (p := ⟨w.heap.size + 1, 1, none⟩) (by omega)).trans cE1h.out
        have fE02 := (hbb.frozen (p := ⟨w.heap.size + 1, 0, none⟩) (by omega)).trans fE0h.out
        have fE12 := (hbb.frozen (p := ⟨w.heap.size + 1, 1, none⟩) (by omega)).trans fE1h.out
        have hz9 := hbb.size
        clear cL cE0 cE1 fE0 fE1 HB c0 c1 c2 c3 c4 c5 c6
        by_cases hz : badP Y = 0
        · have hok : okP Y = Y := by simp [okP, hz]
          rw [hok] at d0 d1
          have hup2 := Hup.out (by rw [hnx]; exact hz)
          have hen2 := Hne.out (by rw [hnx]; exact hz)
          rw [hnx] at hup2 hen2
          have own2 := own_setCell (own_setCell (own_below Ho.out hbb) (w.heap.size + 1) 0 (.int .i64 Y.1) (by omega)) (w.heap.size + 1) 1 (.int .i64 Y.2) (by omega)
          have hl6 := hup2.1
          have Hup2 := Lib.hid hup2
          have Hen2 := Lib.hid hen2
          have Own2 := Lib.hid own2
          have hkn : k ≤ 1048576 := by omega
          clear hup2 hen2 own2 Hup Hne hnx hok
          go_wp2_with (first | (at_builtin; go_loud (refine wpList_append_iv rfl (.tmp 56) (.tmp 58) rfl (w.heap.size + 2) _ _ acc rfl Own2.out Y.1 Y.2 _ (by simp) rfl hkn (by simp; omega) ?_); intro v5 w5 own5 hb5 hz5; simp only [World.size_setCell] at hz5; have O5 := Lib.hid own5; clear own5))
          go_roundw
          case rel => exact ⟨k + 1, acc ++ [Y], Y, by omega, by go_num, Hup2.out, Hen2.out, O5.out, by repeat' (first | (with_reducible exact Below.refl _ _) | (with_reducible assumption) | (with_reducible refine Below.alloc ?_ ?_ _) | (with_reducible refine Below.drew ?_) | (with_reducible refine below_drewN ?_ _) | (with_reducible refine Below.setCell ?_ ?_ _) | (with_reducible refine Below.trans ?_ (Below.mono (by assumption) ?_)) | go_size | (exact Below.size (by assumption))), by omega, (hb5.cell (p := ⟨w.heap.size, 0, none⟩) (by go_size)).trans (by go_cell), (hb5.cell (p := ⟨w.heap.size + 1, 0, none⟩) (by go_size)).trans (by go_cell), (hb5.cell (p := ⟨w.heap.size + 1, 1, none⟩) (by go_size)).trans (by go_cell), (hb5.frozen (p := ⟨w.heap.size + 1, 0, none⟩) (by go_size)).trans (by go_cell), (hb5.frozen (p := ⟨w.heap.size + 1, 1, none⟩) (by go_size)).trans (by go_cell)⟩
          case measure => simp [intOf]; omega
        · have hrun := Hub.out (by rw [hnx]; exact hz)
          rw [hnx] at hrun
          have Hrun := Lib.hid hrun
          have hzb : (badP Y != 0) = true := by simpa using hz
          have Own2 := Lib.hid (own_below Ho.out hbb)
          have hlk := Hlacc.out
          clear hrun hnx Hup Hub Hne
          go_wp2
          obtain ⟨A2, c2, rfl⟩ := own_val Own2.out
          refine bodyPost_ret (v := .tuple #[.slice A2 k c2, .int .i64 (badP Y)]) (by simp [results, Try.results78, go_sem, *]) rfl ?_
          rw [Hrun.out]
          dsimp only
          rw [hlk]
          exact ⟨A2, c2, rfl, own_more Own2.out (by omega), by repeat' (first | (with_reducible exact Below.refl _ _) | (with_reducible assumption) | (with_reducible refine Below.alloc ?_ ?_ _) | (with_reducible refine Below.drew ?_) | (with_reducible refine below_drewN ?_ _) | (with_reducible refine Below.setCell ?_ ?_ _) | (with_reducible refine Below.trans ?_ (Below.mono (by assumption) ?_)) | go_size | (exact Below.size (by assumption)))⟩
    · have hk' : k = n := by omega
      subst hk'
      have hend := upTo_end hup
      have hlk := hup.1
      obtain ⟨A2, c2, rfl⟩ := own_val hown
      have Hend := Lib.hid hend
      have Own2 := Lib.hid hown
      clear hend hown hup
      go_wp2
      refine bodyPost_ret (v := .tuple #[.slice A2 k c2, .int .i64 0]) (by simp [results, Try.results78, go_sem, *]) rfl ?_
      rw [Hend.out]
      dsimp only
      rw [hlk]
      exact ⟨A2, c2, rfl, own_more Own2.out (by omega), hbw⟩
end Go.Proofs.Ytooifamckccadaa
