/- The energies along runs of segments: a walk of the reference. -/
import Derived.Test.YtooifamckccadaaAl0
import Derived.Test.YtooifamckccadaaSe
import Derived.Test.YtooifamckccadaaAs
import Derived.Deep.DeepCutAuto
import Derived.Deep.RegionHeld3
namespace Go.Proofs.Ytooifamckccadaa
open Go.ChangeShapes Go.WideShapes Go.ChangeAt Go.RowKit
set_option maxRecDepth 20000
set_option linter.unusedVariables false
set_option linter.unusedSimpArgs false
def okR (e : Ivl) : Ivl := if badP e = 0 then e else (0, 0)
theorem chkR_form (a b : Int) : chkV a b = .tuple #[.agg #[.int .i64 (okR (a, b)).1, .int .i64 (okR (a, b)).2], .int .i64 (badP (a, b))] := by
  by_cases h : badP (a, b) = 0
  · rw [chkV_ok h, h]; simp [okR, h]
  · rw [chkV_bad h]; simp [okR, h]
theorem check_t (e : Ivl) (w : World) : Calls Try.prog 95 #[.agg #[.int .i64 e.1, .int .i64 e.2]] w fun x w' => x = .returned (.tuple #[.agg #[.int .i64 (okR e).1, .int .i64 (okR e).2], .int .i64 (badP e)]) ∧ Below w.heap.size w w' := by
  have h1 := l06Check_any e.1 e.2 w
  rw [chkR_form] at h1
  exact h1
theorem l08Active_t (t : Seg) (e : Ivl) (h : segT t = true) (he : enB e.1 e.2 = true) (w : World) : Calls Try.prog 96 #[.agg #[.int .i64 t.1, .int .i64 t.2.1, .int .i64 t.2.2.1, .int .i64 t.2.2.2.1, .int .i64 t.2.2.2.2.1, .int .i64 t.2.2.2.2.2.1, .int .i64 t.2.2.2.2.2.2], .agg #[.int .i64 e.1, .int .i64 e.2]] w fun x w' => x = .returned (.agg #[.int .i64 (actT t e).1, .int .i64 (actT t e).2]) ∧ Below w.heap.size w w' :=
  l08Active_any _ _ _ _ _ _ _ _ _ h he w
theorem l06Sum_t (t : Seg) (e : Ivl) (h : segT t = true) (he : enB e.1 e.2 = true) (w : World) : Calls Try.prog 134 #[.agg #[.int .i64 e.1, .int .i64 e.2], .agg #[.int .i64 (-19612 * t.2.2.1 - 2 * t.2.2.2.2.1 * t.2.1), .int .i64 (-19612 * t.2.2.1 - 2 * t.2.2.2.1 * t.2.1)]] w fun x w' => x = .returned (.agg #[.int .i64 (coastP t e).1, .int .i64 (coastP t e).2]) ∧ Below w.heap.size w w' := by
  obtain ⟨w1e, w2e⟩ := sum_wrap h he
  exact l06Sum_any _ _ _ _ w1e w2e w
set_option maxHeartbeats 8000000 in
theorem l08Run_any (ls : List Seg) (on : List Int) (n f : Nat) (lo hi : Int) (hlay : layB ls = true) (he : enB lo hi = true) (hn : n ≤ 24) (hf : f < ls.length) (A A' : Option Addr) (B c c' : Nat) (w : World) (hs : Rd w B A (ls.flatMap eSegment)) (hr : Rd w B A' (ints on)) (hB : B ≤ w.heap.size) (hn2 : on.length ≤ 1048576) :
   Calls Try.prog 84 #[.agg #[.slice A ls.length c], .int .i64 f, .int .i64 n, .agg #[.int .i64 lo, .int .i64 hi], .slice A' on.length c'] w fun e w' => ∃ A2 c2, e = .returned (.tuple #[.slice A2 (runP ls on n f (lo, hi)).1.length c2, .int .i64 (runP ls on n f (lo, hi)).2]) ∧ w'.ownsRow w.heap.size 29 2 (.slice A2 (runP ls on n f (lo, hi)).1.length c2) (runP ls on n f (lo, hi)).1.length ((runP ls on n f (lo, hi)).1.flatMap eInterval) ∧ Below w.heap.size w w' := by
  obtain ⟨_, hlen3, hlen24⟩ := lay_all hlay
  have Hs := Lib.hid hs
  have Hr := Lib.hid hr
  have Hlay := Lib.hid hlay
  have ef : IntKind.i64.wrap ((f : Int) + (n : Int)) = ((f + n : Nat) : Int) := by rw [Int.natCast_add]; exact IntWalk.i64_in _ (by omega)
  clear hs hr hlay
  go_enter Try.func84, Try.ntmps84
  go_wp2_with fail
  go_loopw [12, 13] (fun v i wr => ∃ (k : Nat) (acc : List Ivl) (e : Ivl), k ≤ n ∧ i = .int .i64 ((f + k : Nat) : Int) ∧ upTo ls on n f (lo, hi) k acc e ∧ enB e.1 e.2 = true ∧ wr.ownsRow (w.heap.size + 2) 29 2 v k (acc.flatMap eInterval) ∧ Below w.heap.size w wr ∧ w.heap.size + 2 ≤ wr.heap.size ∧ wr.cell? ⟨w.heap.size, 0, none⟩ = some (.slice A ls.length c) ∧ wr.cell? ⟨w.heap.size + 1, 0, none⟩ = some (.int .i64 e.1) ∧ wr.cell? ⟨w.heap.size + 1, 1, none⟩ = some (.int .i64 e.2) ∧ wr.frozen? ⟨w.heap.size + 1, 0, none⟩ = false ∧ wr.frozen? ⟨w.heap.size + 1, 1, none⟩ = false) (fun _ i _ => f + n - (intOf i).toNat)
  case atStart => exact ⟨0, [], (lo, hi), Nat.zero_le _, by first | rfl | simp, upTo_start _ _ _ _ _, he, by have h := World.ownsRow_made (base := w.heap.size + 2) (e := 29) (size := 2) ((w.alloc (.cells #[.slice A ls.length c] 26)).alloc (.cells #[.int .i64 lo, .int .i64 hi] 29)) #[] 0 (by simp) (by simp [maxLen]) rfl; simpa using h, by repeat' (first | (with_reducible exact Below.refl _ _) | (with_reducible assumption) | (with_reducible refine Below.alloc ?_ ?_ _) | (with_reducible refine Below.drew ?_) | (with_reducible refine below_drewN ?_ _) | (with_reducible refine Below.setCell ?_ ?_ _) | (with_reducible refine Below.trans ?_ (Below.mono (by assumption) ?_)) | go_size | (exact Below.size (by assumption))), by simp, by go_cell, by go_cell, by go_cell, by go_cell, by go_cell⟩
  case round =>
    obtain ⟨k, acc, e, hk, rfl, hup, hen, hown, hbw, hsz, cL, cE0, cE1, fE0, fE1⟩ := hrel
    by_cases hlt : k < n
    · have hm := Nat.mod_lt (f + k) (show 0 < ls.length by omega)
      have e2 := tmod_nat (f + k) ls.length
      have ht := List.getElem?_eq_getElem hm
      generalize ls[(f + k) % ls.length] = t at ht
      have hst := segT_at Hlay.out ht
      have Hup := Lib.hid (fun h => upTo_step hup hlt ht h)
      have Hub := Lib.hid (fun h => upTo_bad hup hlt ht h)
      have hlacc := hup.1
      have HG := Lib.hid (fun w' h h2 => l06Segment_any ls (f + k) t (by omega) ht A B c w' h h2)
      generalize (f + k) % ls.length = j at ht hm e2 Hup Hub
      have e3 : (((f + k : Nat) : Int)) % (ls.length : Int) = (j : Int) := by rw [← e2]; exact (Int.tmod_eq_emod_of_nonneg (by omega)).symm
      have hlt2 : ((f + k : Nat) : Int) < ((f + n : Nat) : Int) := by omega
      have Hr1 := Lib.hid (Hr.out.below hbw hB)
      have HC := Lib.hid (fun w' h => l01Has_any on j A' B c' w' h hn2)
      have hne : ((ls.length : Int) == 0) = false := by rw [beq_eq_false_iff_ne]; omega
      have HCh := Lib.hid (fun w' => l06Change_any _ _ _ _ _ _ _ hst w')
      have HSm := Lib.hid (fun w' => l06Sum_t t e hst hen w')
      have HB := Lib.hid (fun w' => l08Active_t t e hst hen w')
      have hne' := next_en (on := on) (j := j) hst hen
      have Hne := Lib.hid hne'
      have Ho := Lib.hid hown
      have Hlacc := Lib.hid hlacc
      have Hen := Lib.hid hen
      clear hup hen hst hown ht hne' hlacc
      obtain ⟨tk, tl, tr, trl, trh, tfl, tfh⟩ := t
      obtain ⟨el, eh⟩ := e
      dsimp only at *
      have g0 : w.heap.size < wr.heap.size := by omega
      have g1 : w.heap.size + 1 < wr.heap.size := by omega
      have g3 : wr.heap.size ≠ w.heap.size := by omega
      have g4 : wr.heap.size ≠ w.heap.size + 1 := by omega
      go_upto_region 5 with fail
      go_cut [14] (fun s14 wx => ∃ b : Nat, s14 = .pointer (some ⟨b, 0, none⟩) ∧ wr.heap.size ≤ b ∧ b < wx.heap.size ∧ Below wr.heap.size wr wx ∧ wx.cell? ⟨b, 0, none⟩ = some (.int .i64 tk) ∧ wx.cell? ⟨b, 1, none⟩ = some (.int .i64 tl) ∧ wx.cell? ⟨b, 2, none⟩ = some (.int .i64 tr) ∧ wx.cell? ⟨b, 3, none⟩ = some (.int .i64 trl) ∧ wx.cell? ⟨b, 4, none⟩ = some (.int .i64 trh) ∧ wx.cell? ⟨b, 5, none⟩ = some (.int .i64 tfl) ∧ wx.cell? ⟨b, 6, none⟩ = some (.int .i64 tfh))
      case first =>
        go_wp2_with (go_at_call 150; refine (HG.out _ (by exact Hs.out.below hbw hB) (by omega)).mono ?_; rintro e w1 ⟨rfl, b1⟩; obtain ⟨hc1, hf1, hz1⟩ := bstep (Nat.le_refl _) b1)
        go_meet
        refine ⟨_, rfl, by go_size, by go_size, by repeat' (first | (with_reducible exact Below.refl _ _) | (with_reducible assumption) | (with_reducible refine Below.alloc ?_ ?_ _) | (with_reducible refine Below.drew ?_) | (with_reducible refine below_drewN ?_ _) | (with_reducible refine Below.setCell ?_ ?_ _) | (with_reducible refine Below.trans ?_ (Below.mono (by assumption) ?_)) | go_size | (exact Below.size (by assumption))), by go_cell, by go_cell, by go_cell, by go_cell, by go_cell, by go_cell, by go_cell⟩
      case rest =>
      obtain ⟨bx, rfl, hb1, hb2, hbb, c0, c1, c2, c3, c4, c5, c6⟩ := hcut
      have cL1 := (hbb.cell (p := ⟨w.heap.size, 0, none⟩) g0).trans cL
      have cE01 := (hbb.cell (p := ⟨w.heap.size + 1, 0, none⟩) g1).trans cE0
      have cE11 := (hbb.cell (p := ⟨w.heap.size + 1, 1, none⟩) g1).trans cE1
      have hz9 := hbb.size
      have Hcc := Lib.hid (And.intro cL (And.intro cE0 (And.intro cE1 (And.intro fE0 fE1))))
      have Hg := Lib.hid (And.intro g0 g1)
      clear cL cE0 cE1 fE0 fE1 HG g0 g1 g3 g4
      have g0 : w.heap.size < wc.heap.size := by omega
      have g1 : w.heap.size + 1 < wc.heap.size := by omega
      have g8 : w.heap.size < wc.heap.size + 1 := by omega
      have g9 : bx < wc.heap.size + 1 := by omega
      have g3 : wc.heap.size ≠ w.heap.size := by omega
      have g4 : wc.heap.size ≠ w.heap.size + 1 := by omega
      have g5 : wc.heap.size ≠ bx := by omega
      generalize hX : coastP (tk, tl, tr, trl, trh, tfl, tfh) (el, eh) = X at *
      generalize hY : actT (tk, tl, tr, trl, trh, tfl, tfh) (el, eh) = Y at *
      obtain ⟨wA, hwA⟩ : ∃ x, x = wc := ⟨_, rfl⟩
      subst hwA
      go_upto_region 6 with fail
      go_cut [15] (fun s15 wx => ∃ b : Nat, s15 = .pointer (some ⟨b, 0, none⟩) ∧ wA.heap.size ≤ b ∧ b < wx.heap.size ∧ Below wA.heap.size wA wx ∧ wx.cell? ⟨b, 0, none⟩ = some (.int .i64 X.1) ∧ wx.cell? ⟨b, 1, none⟩ = some (.int .i64 X.2) ∧ wx.frozen? ⟨b, 0, none⟩ = false ∧ wx.frozen? ⟨b, 1, none⟩ = false)
      case first =>
        go_region_held3 (fun w' => w'.cell? ⟨w.heap.size + 1, 0, none⟩ = some (.int .i64 el) ∧ w'.cell? ⟨w.heap.size + 1, 1, none⟩ = some (.int .i64 eh) ∧ w'.cell? ⟨bx, 0, none⟩ = some (.int .i64 tk) ∧ w'.cell? ⟨bx, 1, none⟩ = some (.int .i64 tl) ∧ w'.cell? ⟨bx, 2, none⟩ = some (.int .i64 tr) ∧ w'.cell? ⟨bx, 3, none⟩ = some (.int .i64 trl) ∧ w'.cell? ⟨bx, 4, none⟩ = some (.int .i64 trh) ∧ w'.cell? ⟨bx, 5, none⟩ = some (.int .i64 tfl) ∧ w'.cell? ⟨bx, 6, none⟩ = some (.int .i64 tfh)) (simp [*, World.cell?_alloc_past, World.cell?_setCell_far])
          ((first | (go_at_call 135; refine (HCh.out _).mono ?_; rintro e w1 ⟨rfl, b1⟩; obtain ⟨hc1, hf1, hz1⟩ := bstep (Nat.le_refl _) b1; (try simp only [World.size_alloc, World.size_drew] at hc1 hf1 hz1); have hy1 : w.heap.size < w1.heap.size := (by omega); have hx1 : w.heap.size + 1 < w1.heap.size := (by omega); have hv1 : bx < w1.heap.size := (by omega); have hp1 : w1.heap.size ≠ w.heap.size := (by omega); have hq1 : w1.heap.size ≠ w.heap.size + 1 := (by omega); have hr1 : w1.heap.size ≠ bx := (by omega); have hm1 : w.heap.size < w1.heap.size + 1 := (by omega); have hn1 : bx < w1.heap.size + 1 := (by omega); have hu1 : wA.heap.size < w1.heap.size + 1 := (by omega); (first | (have ht1 : wA.heap.size < w1.heap.size := (by omega)) | skip)) | (go_at_call 134; refine (HSm.out _).mono ?_; rintro e w2 ⟨rfl, b2⟩; obtain ⟨hc2, hf2, hz2⟩ := bstep (Nat.le_refl _) b2; (try simp only [World.size_alloc, World.size_drew] at hc2 hf2 hz2); have hy2 : w.heap.size < w2.heap.size := (by omega); have hx2 : w.heap.size + 1 < w2.heap.size := (by omega); have hv2 : bx < w2.heap.size := (by omega); have hp2 : w2.heap.size ≠ w.heap.size := (by omega); have hq2 : w2.heap.size ≠ w.heap.size + 1 := (by omega); have hr2 : w2.heap.size ≠ bx := (by omega); have hm2 : w.heap.size < w2.heap.size + 1 := (by omega); have hn2 : bx < w2.heap.size + 1 := (by omega); have hu2 : wA.heap.size < w2.heap.size + 1 := (by omega); (first | (have ht2 : wA.heap.size < w2.heap.size := (by omega)) | skip); (first | (have hs2 : w1.heap.size < w2.heap.size := (by omega)) | skip))))
        all_goals (go_wp2_with fail; go_meet; refine ⟨_, rfl, by go_size, by go_size, by repeat' (first | (with_reducible exact Below.refl _ _) | (with_reducible assumption) | (with_reducible refine Below.alloc ?_ ?_ _) | (with_reducible refine Below.drew ?_) | (with_reducible refine below_drewN ?_ _) | (with_reducible refine Below.setCell ?_ ?_ _) | (with_reducible refine Below.trans ?_ (Below.mono (by assumption) ?_)) | go_size | (exact Below.size (by assumption))), by go_cell, by go_cell, by go_cell, by go_cell⟩)
      case rest =>
      obtain ⟨b, rfl, hb3, hb4, hbc, d0, d1, fz0, fz1⟩ := hcut
      have hbr : Below wr.heap.size wr wc := hbb.trans (hbc.mono (by omega))
      have hz8 := hbc.size
      have hRr := Lib.hid (Hr1.out.below hbr (by omega))
      have cE02 := (hbc.cell (p := ⟨w.heap.size + 1, 0, none⟩) g1).trans cE01
      have cE12 := (hbc.cell (p := ⟨w.heap.size + 1, 1, none⟩) g1).trans cE11
      have cL2 := (hbc.cell (p := ⟨w.heap.size, 0, none⟩) g0).trans cL1
      replace c0 := (hbc.cell (p := ⟨bx, 0, none⟩) hb2).trans c0
      replace c1 := (hbc.cell (p := ⟨bx, 1, none⟩) hb2).trans c1
      replace c2 := (hbc.cell (p := ⟨bx, 2, none⟩) hb2).trans c2
      replace c3 := (hbc.cell (p := ⟨bx, 3, none⟩) hb2).trans c3
      replace c4 := (hbc.cell (p := ⟨bx, 4, none⟩) hb2).trans c4
      replace c5 := (hbc.cell (p := ⟨bx, 5, none⟩) hb2).trans c5
      replace c6 := (hbc.cell (p := ⟨bx, 6, none⟩) hb2).trans c6
      clear cE01 cE11 cL1 HCh HSm
      have n1 : b ≠ w.heap.size := by omega
      have n2 : b ≠ w.heap.size + 1 := by omega
      have n3 : b ≠ bx := by omega
      have e4 : ((f : Int) + (k : Int)) % (ls.length : Int) = (j : Int) := by rw [← Int.natCast_add]; exact e3
      cases hq : on.any (· == (j : Int)) with
      | false =>
        have hnx : nextP on j (tk, tl, tr, trl, trh, tfl, tfh) (el, eh) = X := by rw [nextP, hq]; exact hX
        rw [hq] at HC
        have HK := Lib.hid (fun w' => check_t X w')
        clear hq hX hY
        go_upto_region 9 with (first | (go_at_call 151; refine (HC.out _ (by exact hRr.out)).mono ?_; rintro e w' ⟨rfl, rfl⟩))
        go_cut [16] (fun s16 wx => s16 = .int .i64 (badP X) ∧ b < wx.heap.size ∧ Below wr.heap.size wr wx ∧ wx.cell? ⟨b, 0, none⟩ = some (.int .i64 (okR X).1) ∧ wx.cell? ⟨b, 1, none⟩ = some (.int .i64 (okR X).2) ∧ wx.frozen? ⟨b, 0, none⟩ = false ∧ wx.frozen? ⟨b, 1, none⟩ = false)
        case first =>
          go_wp2_with (first | (go_at_call 95; refine (HK.out _).mono ?_; rintro e w2 ⟨rfl, b2⟩; obtain ⟨hc2, hf2, hz2⟩ := bstep (Nat.le_refl _) b2; (try simp only [World.size_setCell] at hc2 hf2 hz2); have hq2 : b < w2.heap.size := (by omega)))
          go_meet; refine ⟨rfl, by go_size, by repeat' (first | (with_reducible exact Below.refl _ _) | (with_reducible assumption) | (with_reducible refine Below.alloc ?_ ?_ _) | (with_reducible refine Below.drew ?_) | (with_reducible refine below_drewN ?_ _) | (with_reducible refine Below.setCell ?_ ?_ _) | (with_reducible refine Below.trans ?_ (Below.mono (by assumption) ?_)) | go_size | (exact Below.size (by assumption))), by go_cell, by go_cell, by go_cell, by go_cell⟩
        case rest =>
        clear cE02 cE12 cL2 c0 c1 c2 c3 c4 c5 c6 d0 d1 fz0 fz1 hbc hbb
        obtain ⟨rfl, hb2', hbb, d0, d1, fz0, fz1⟩ := hcut
        obtain ⟨cL, cE0, cE1, fE0, fE1⟩ := Hcc.out
        have hg := Hg.out
        have cL2 := (hbb.cell (p := ⟨w.heap.size, 0, none⟩) hg.1).trans cL
        have cE02 := (hbb.cell (p := ⟨w.heap.size + 1, 0, none⟩) hg.2).trans cE0
        have cE12 := (hbb.cell (p := ⟨w.heap.size + 1, 1, none⟩) hg.2).trans cE1
        have fE02 := (hbb.frozen (p := ⟨w.heap.size + 1, 0, none⟩) hg.2).trans fE0
        have fE12 := (hbb.frozen (p := ⟨w.heap.size + 1, 1, none⟩) hg.2).trans fE1
        have hz9 := hbb.size
        clear cL cE0 cE1 fE0 fE1 HB
        by_cases hz : badP X = 0
        · have hok : okR X = X := by simp [okR, hz]
          rw [hok] at d0 d1
          have hup2 := Hup.out (by rw [hnx]; exact hz)
          have hen2 := Hne.out (by rw [hnx]; exact hz)
          rw [hnx] at hup2 hen2
          have own2 := own_setCell (own_setCell (own_below Ho.out hbb) (w.heap.size + 1) 0 (.int .i64 X.1) (by omega)) (w.heap.size + 1) 1 (.int .i64 X.2) (by omega)
          have hl6 := hup2.1
          have Hup2 := Lib.hid hup2
          have Hen2 := Lib.hid hen2
          have Own2 := Lib.hid own2
          have hkn : k ≤ 1048576 := by omega
          clear hup2 hen2 own2 Hup Hne hnx hok
          go_wp2_with (at_builtin; go_loud (refine wpList_append_iv rfl (.tmp 53) (.tmp 55) rfl (w.heap.size + 2) _ _ acc rfl Own2.out X.1 X.2 _ (by simp) rfl hkn (by simp; omega) ?_); intro v5 w5 own5 hb5 hz5; simp only [World.size_setCell] at hz5; have O5 := Lib.hid own5; clear own5)
          go_roundw
          case rel => exact ⟨k + 1, acc ++ [X], X, by omega, by first | go_num | (apply vint; omega), Hup2.out, Hen2.out, O5.out, by repeat' (first | (with_reducible exact Below.refl _ _) | (with_reducible assumption) | (with_reducible refine Below.alloc ?_ ?_ _) | (with_reducible refine Below.drew ?_) | (with_reducible refine below_drewN ?_ _) | (with_reducible refine Below.setCell ?_ ?_ _) | (with_reducible refine Below.trans ?_ (Below.mono (by assumption) ?_)) | go_size | (exact Below.size (by assumption))), by omega, (hb5.cell (p := ⟨w.heap.size, 0, none⟩) (by go_size)).trans (by go_cell), (hb5.cell (p := ⟨w.heap.size + 1, 0, none⟩) (by go_size)).trans (by go_cell), (hb5.cell (p := ⟨w.heap.size + 1, 1, none⟩) (by go_size)).trans (by go_cell), (hb5.frozen (p := ⟨w.heap.size + 1, 0, none⟩) (by go_size)).trans (by go_cell), (hb5.frozen (p := ⟨w.heap.size + 1, 1, none⟩) (by go_size)).trans (by go_cell)⟩
          case measure => simp [intOf]; omega
        · have hrun := Hub.out (by rw [hnx]; exact hz)
          rw [hnx] at hrun
          have Hrun := Lib.hid hrun
          have hzb : (badP X != 0) = true := by simpa using hz
          have Own2 := Lib.hid (own_below Ho.out hbb)
          have hlk := Hlacc.out
          clear hrun hnx Hup Hub Hne
          go_wp2
          obtain ⟨A2, c2, rfl⟩ := own_val Own2.out
          refine bodyPost_ret (v := .tuple #[.slice A2 k c2, .int .i64 (badP X)]) (by simp [results, Try.results84, go_sem, *]) rfl ?_
          rw [Hrun.out]
          dsimp only
          rw [hlk]
          exact ⟨A2, c2, rfl, own_more Own2.out (by omega), by repeat' (first | (with_reducible exact Below.refl _ _) | (with_reducible assumption) | (with_reducible refine Below.alloc ?_ ?_ _) | (with_reducible refine Below.drew ?_) | (with_reducible refine below_drewN ?_ _) | (with_reducible refine Below.setCell ?_ ?_ _) | (with_reducible refine Below.trans ?_ (Below.mono (by assumption) ?_)) | go_size | (exact Below.size (by assumption)))⟩
      | true =>
        have hnx : nextP on j (tk, tl, tr, trl, trh, tfl, tfh) (el, eh) = Y := by rw [nextP, hq]; exact hY
        rw [hq] at HC
        have HK := Lib.hid (fun w' => check_t Y w')
        clear hq hX hY
        go_upto_region 9 with (first | (go_at_call 151; refine (HC.out _ (by exact hRr.out)).mono ?_; rintro e w' ⟨rfl, rfl⟩) | (go_at_call 96; refine (HB.out _).mono ?_; rintro e w1 ⟨rfl, b1⟩; obtain ⟨hc1, hf1, hz1⟩ := bstep (Nat.le_refl _) b1; have hq1 : b < w1.heap.size := (by omega); have x10 := (hc1 b 0 hb4).trans d0; have x11 := (hc1 b 1 hb4).trans d1))
        go_cut [16] (fun s16 wx => s16 = .int .i64 (badP Y) ∧ b < wx.heap.size ∧ Below wr.heap.size wr wx ∧ wx.cell? ⟨b, 0, none⟩ = some (.int .i64 (okR Y).1) ∧ wx.cell? ⟨b, 1, none⟩ = some (.int .i64 (okR Y).2) ∧ wx.frozen? ⟨b, 0, none⟩ = false ∧ wx.frozen? ⟨b, 1, none⟩ = false)
        case first =>
          go_wp2_with (first | (go_at_call 95; refine (HK.out _).mono ?_; rintro e w2 ⟨rfl, b2⟩; obtain ⟨hc2, hf2, hz2⟩ := bstep (Nat.le_refl _) b2; (try simp only [World.size_setCell] at hc2 hf2 hz2); have hq2 : b < w2.heap.size := (by omega); have x20 := (hc2 b 0 hq1).trans (show _ = some (Value.int .i64 Y.1) by go_cell); have x21 := (hc2 b 1 hq1).trans (show _ = some (Value.int .i64 Y.2) by go_cell)))
          go_meet; refine ⟨rfl, by go_size, by repeat' (first | (with_reducible exact Below.refl _ _) | (with_reducible assumption) | (with_reducible refine Below.alloc ?_ ?_ _) | (with_reducible refine Below.drew ?_) | (with_reducible refine below_drewN ?_ _) | (with_reducible refine Below.setCell ?_ ?_ _) | (with_reducible refine Below.trans ?_ (Below.mono (by assumption) ?_)) | go_size | (exact Below.size (by assumption))), by go_cell, by go_cell, by go_cell, by go_cell⟩
        case rest =>
        clear cE02 cE12 cL2 c0 c1 c2 c3 c4 c5 c6 d0 d1 fz0 fz1 hbc hbb
        obtain ⟨rfl, hb2', hbb, d0, d1, fz0, fz1⟩ := hcut
        obtain ⟨cL, cE0, cE1, fE0, fE1⟩ := Hcc.out
        have hg := Hg.out
        have cL2 := (hbb.cell (p := ⟨w.heap.size, 0, none⟩) hg.1).trans cL
        have cE02 := (hbb.cell (p := ⟨w.heap.size + 1, 0, none⟩) hg.2).trans cE0
        have cE12 := (hbb.cell (p := ⟨w.heap.size + 1, 1, none⟩) hg.2).trans cE1
        have fE02 := (hbb.frozen (p := ⟨w.heap.size + 1, 0, none⟩) hg.2).trans fE0
        have fE12 := (hbb.frozen (p := ⟨w.heap.size + 1, 1, none⟩) hg.2).trans fE1
        have hz9 := hbb.size
        clear cL cE0 cE1 fE0 fE1 HB
        by_cases hz : badP Y = 0
        · have hok : okR Y = Y := by simp [okR, hz]
          rw [hok] at d0 d1
          have hup2 := Hup.out (by rw [hnx]; exact hz)
          have hen2 := Hne.out (by rw [hnx]; exact hz)
          rw [hnx] at hup2 hen2
          have own2 := own_setCell (own_setCell (own_below Ho.out hbb) (w.heap.size + 1) 0 (.int .i64 Y.1) (by omega)) (w.heap.size + 1) 1 (.int .i64 Y.2) (by omega)
          have hl6 := hup2.1
          have Hup2 := Lib.hid hup2
          have Hen2 := Lib.hid hen2
          have Own2 := Lib.hid own2
          have hkn : k ≤ 1048576 := by omega
          clear hup2 hen2 own2 Hup Hne hnx hok
          go_wp2_with (at_builtin; go_loud (refine wpList_append_iv rfl (.tmp 53) (.tmp 55) rfl (w.heap.size + 2) _ _ acc rfl Own2.out Y.1 Y.2 _ (by simp) rfl hkn (by simp; omega) ?_); intro v5 w5 own5 hb5 hz5; simp only [World.size_setCell] at hz5; have O5 := Lib.hid own5; clear own5)
          go_roundw
          case rel => exact ⟨k + 1, acc ++ [Y], Y, by omega, by first | go_num | (apply vint; omega), Hup2.out, Hen2.out, O5.out, by repeat' (first | (with_reducible exact Below.refl _ _) | (with_reducible assumption) | (with_reducible refine Below.alloc ?_ ?_ _) | (with_reducible refine Below.drew ?_) | (with_reducible refine below_drewN ?_ _) | (with_reducible refine Below.setCell ?_ ?_ _) | (with_reducible refine Below.trans ?_ (Below.mono (by assumption) ?_)) | go_size | (exact Below.size (by assumption))), by omega, (hb5.cell (p := ⟨w.heap.size, 0, none⟩) (by go_size)).trans (by go_cell), (hb5.cell (p := ⟨w.heap.size + 1, 0, none⟩) (by go_size)).trans (by go_cell), (hb5.cell (p := ⟨w.heap.size + 1, 1, none⟩) (by go_size)).trans (by go_cell), (hb5.frozen (p := ⟨w.heap.size + 1, 0, none⟩) (by go_size)).trans (by go_cell), (hb5.frozen (p := ⟨w.heap.size + 1, 1, none⟩) (by go_size)).trans (by go_cell)⟩
          case measure => simp [intOf]; omega
        · have hrun := Hub.out (by rw [hnx]; exact hz)
          rw [hnx] at hrun
          have Hrun := Lib.hid hrun
          have hzb : (badP Y != 0) = true := by simpa using hz
          have Own2 := Lib.hid (own_below Ho.out hbb)
          have hlk := Hlacc.out
          clear hrun hnx Hup Hub Hne
          go_wp2
          obtain ⟨A2, c2, rfl⟩ := own_val Own2.out
          refine bodyPost_ret (v := .tuple #[.slice A2 k c2, .int .i64 (badP Y)]) (by simp [results, Try.results84, go_sem, *]) rfl ?_
          rw [Hrun.out]
          dsimp only
          rw [hlk]
          exact ⟨A2, c2, rfl, own_more Own2.out (by omega), by repeat' (first | (with_reducible exact Below.refl _ _) | (with_reducible assumption) | (with_reducible refine Below.alloc ?_ ?_ _) | (with_reducible refine Below.drew ?_) | (with_reducible refine below_drewN ?_ _) | (with_reducible refine Below.setCell ?_ ?_ _) | (with_reducible refine Below.trans ?_ (Below.mono (by assumption) ?_)) | go_size | (exact Below.size (by assumption)))⟩
    · have hk' : k = n := by omega
      subst hk'
      have hend := upTo_end hup
      have hlk := hup.1
      obtain ⟨A2, c2, rfl⟩ := own_val hown
      have Hend := Lib.hid hend
      have Own2 := Lib.hid hown
      clear hend hown hup
      go_wp2
      refine bodyPost_ret (v := .tuple #[.slice A2 k c2, .int .i64 0]) (by simp [results, Try.results84, go_sem, *]) rfl ?_
      rw [Hend.out]
      dsimp only
      rw [hlk]
      exact ⟨A2, c2, rfl, own_more Own2.out (by omega), hbw⟩
end Go.Proofs.Ytooifamckccadaa
