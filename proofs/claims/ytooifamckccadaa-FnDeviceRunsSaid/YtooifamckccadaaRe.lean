/- EnergyAlong: a walk of the program. -/
import Derived.Test.YtooifamckccadaaRt
namespace Go.Proofs.Ytooifamckccadaa
open Go.ChangeShapes Go.WideShapes Go.ChangeAt Go.RowKit
set_option maxRecDepth 20000
set_option linter.unusedVariables false
set_option linter.unusedSimpArgs false
theorem nextP_nil (j : Nat) (t : Seg) (e : Ivl) : nextP [] j t e = coastP t e := by simp [nextP]
def RunPost (R : List Ivl × Int) (w : World) (e : Ending) (w' : World) : Prop :=
  ∃ A2 c2, e = .returned (.tuple #[.slice A2 (if R.2 = 0 then R.1 else []).length c2, .int .i64 R.2]) ∧ w'.ownsRow w.heap.size 29 2 (.slice A2 (if R.2 = 0 then R.1 else []).length c2) (if R.2 = 0 then R.1 else []).length ((if R.2 = 0 then R.1 else []).flatMap eInterval) ∧ Below w.heap.size w w'
theorem runPost_bad {R : List Ivl × Int} {acc : List Ivl} {Z : Int} {w w' : World} (h : R = (acc, Z)) (hz : ¬ Z = 0) (hb : Below w.heap.size w w') : RunPost R w (.returned (.tuple #[.slice none 0 0, .int .i64 Z])) w' := by
  subst h
  unfold RunPost
  rw [if_neg hz]
  exact ⟨none, 0, rfl, World.ownsRow_nil _ _ _ _, hb⟩
theorem runPost_ok {R : List Ivl × Int} {acc : List Ivl} {w w' : World} {A3 : Option Addr} {c3 n : Nat} (h : R = (acc, 0)) (hn : acc.length = n) (ho : w'.ownsRow w.heap.size 29 2 (.slice A3 n c3) n (acc.flatMap eInterval)) (hb : Below w.heap.size w w') : RunPost R w (.returned (.tuple #[.slice A3 n c3, .int .i64 0])) w' := by
  subst h
  subst hn
  unfold RunPost
  rw [if_pos rfl]
  exact ⟨A3, c3, rfl, ho, hb⟩
set_option maxHeartbeats 4000000 in
theorem energyAlong_impl (ls : List Seg) (f n lo hi : Int) (A : Option Addr) (B c : Nat) (w : World) (hs : Rd w B A (ls.flatMap eSegment)) (hB : B ≤ w.heap.size) (hn : ls.length ≤ 1048576) :
   Calls Try.prog 65 #[.agg #[.slice A ls.length c], .int .i64 f, .int .i64 n, .agg #[.int .i64 lo, .int .i64 hi]] w fun e w' => ∃ A2 c2, e = .returned (.tuple #[.slice A2 (alR ls [] f n lo hi).length c2, .int .i64 (alC ls [] f n lo hi)]) ∧ w'.ownsRow w.heap.size 29 2 (.slice A2 (alR ls [] f n lo hi).length c2) (alR ls [] f n lo hi).length ((alR ls [] f n lo hi).flatMap eInterval) ∧ Below w.heap.size w w' := by
  have Hs := Lib.hid ((hs.alloc hB (.cells #[.slice A ls.length c] 26)).alloc (by simp; omega) (.cells #[.int .i64 lo, .int .i64 hi] 29))
  have HL := Lib.hid (fun (w' : World) (h : Rd w' B A (ls.flatMap eSegment)) (h3 : B ≤ w'.heap.size) => isLayout_impl ls A B c w' h h3 hn)
  have HE := Lib.hid (fun (r : Bool) (h : enB lo hi = r) w' => isEn_impl_r lo hi r h w')
  clear hs
  by_cases hle : (layB ls && enB lo hi) = true
  rotate_left
  · have q1 : alC ls [] f n lo hi = 1 := by rw [alC, rcC, if_neg hle]; rfl
    have q2 : alR ls [] f n lo hi = [] := by rw [alR, q1]; rfl
    rw [q1, q2]
    cases hl : layB ls with
    | false =>
      rw [hl] at HL
      go_enter Try.func65, Try.ntmps65
      go_wp2_with (first | (go_at_call 106; refine (HL.out _ (by exact Hs.out) (by simp; omega)).mono ?_; rintro e w1 ⟨rfl, b1⟩; obtain ⟨hc1, hf1, hz1⟩ := bstep (N := w.heap.size + 2) (by go_size) b1) | (go_at_call 90; refine (HE.out _ rfl _).mono ?_; rintro e w2 ⟨rfl, b2⟩))
      go_ret2
      exact ⟨none, 0, rfl, World.ownsRow_nil _ _ _ _, by repeat' (first | (with_reducible exact Below.refl _ _) | (with_reducible assumption) | (with_reducible refine Below.alloc ?_ ?_ _) | (with_reducible refine Below.drew ?_) | (with_reducible refine below_drewN ?_ _) | (with_reducible refine Below.setCell ?_ ?_ _) | (with_reducible refine Below.trans ?_ (Below.mono (by assumption) ?_)) | go_size | (exact Below.size (by assumption)))⟩
    | true =>
      rw [hl] at HL
      have he : enB lo hi = false := by rw [hl] at hle; simpa using hle
      go_enter Try.func65, Try.ntmps65
      go_wp2_with (first | (go_at_call 106; refine (HL.out _ (by exact Hs.out) (by simp; omega)).mono ?_; rintro e w1 ⟨rfl, b1⟩; obtain ⟨hc1, hf1, hz1⟩ := bstep (N := w.heap.size + 2) (by go_size) b1; have hy1 : w.heap.size + 1 < w1.heap.size := (by omega)) | (go_at_call 90; refine (HE.out _ he _).mono ?_; rintro e w2 ⟨rfl, b2⟩))
      go_ret2
      exact ⟨none, 0, rfl, World.ownsRow_nil _ _ _ _, by repeat' (first | (with_reducible exact Below.refl _ _) | (with_reducible assumption) | (with_reducible refine Below.alloc ?_ ?_ _) | (with_reducible refine Below.drew ?_) | (with_reducible refine below_drewN ?_ _) | (with_reducible refine Below.setCell ?_ ?_ _) | (with_reducible refine Below.trans ?_ (Below.mono (by assumption) ?_)) | go_size | (exact Below.size (by assumption)))⟩
  have hl : layB ls = true := by rw [Bool.and_eq_true] at hle; exact hle.1
  have he : enB lo hi = true := by rw [Bool.and_eq_true] at hle; exact hle.2
  rw [hl] at HL
  by_cases hrun : runB ls f n = true
  rotate_left
  · have q1 : alC ls [] f n lo hi = 2 := by
      have : rcC ls f n lo hi [] = 2 := by rw [rcC, if_pos hle, if_neg (by rw [devB_nil, Bool.and_true]; exact hrun)]
      rw [alC, this]; rfl
    have q2 : alR ls [] f n lo hi = [] := by rw [alR, q1]; rfl
    rw [q1, q2]
    have hrf : runB ls f n = false := by simpa using hrun
    have HR := Lib.hid (fun w' => isRun_any ls.length A c f n false hrf hn w')
    go_enter Try.func65, Try.ntmps65
    go_wp2_with (first | (go_at_call 106; refine (HL.out _ (by exact Hs.out) (by simp; omega)).mono ?_; rintro e w1 ⟨rfl, b1⟩; obtain ⟨hc1, hf1, hz1⟩ := bstep (N := w.heap.size + 2) (by go_size) b1; have hy1 : w.heap.size + 1 < w1.heap.size := (by omega); have hx1 : w.heap.size < w1.heap.size := (by omega)) | (go_at_call 90; refine (HE.out _ he _).mono ?_; rintro e w2 ⟨rfl, b2⟩; obtain ⟨hc2, hf2, hz2⟩ := bstep (Nat.le_refl _) b2; have hy2 : w.heap.size + 1 < w2.heap.size := (by omega); have hx2 : w.heap.size < w2.heap.size := (by omega)) | (go_at_call 107; refine (HR.out _).mono ?_; rintro e w3 ⟨rfl, b3⟩))
    go_ret2
    exact ⟨none, 0, rfl, World.ownsRow_nil _ _ _ _, by repeat' (first | (with_reducible exact Below.refl _ _) | (with_reducible assumption) | (with_reducible refine Below.alloc ?_ ?_ _) | (with_reducible refine Below.drew ?_) | (with_reducible refine below_drewN ?_ _) | (with_reducible refine Below.setCell ?_ ?_ _) | (with_reducible refine Below.trans ?_ (Below.mono (by assumption) ?_)) | go_size | (exact Below.size (by assumption)))⟩
  obtain ⟨f', n', rfl, rfl, h24, hf⟩ := run_nat hrun
  obtain ⟨_, hlen3, hlen24⟩ := lay_all hl
  have h0 : rcC ls (f' : Int) (n' : Int) lo hi [] = 0 := by rw [rcC, if_pos hle, if_pos (by rw [devB_nil, Bool.and_true]; exact hrun)]
  have hrn : rnP ls [] (f' : Int) (n' : Int) lo hi = runP ls [] n' f' (lo, hi) := by simp [rnP]
  have q1 : alC ls [] (f' : Int) (n' : Int) lo hi = (runP ls [] n' f' (lo, hi)).2 := by rw [alC, if_pos h0, hrn]
  have q2 : alR ls [] (f' : Int) (n' : Int) lo hi = if (runP ls [] n' f' (lo, hi)).2 = 0 then (runP ls [] n' f' (lo, hi)).1 else [] := by rw [alR, q1, hrn]
  have HR := Lib.hid (fun w' => isRun_any ls.length A c (f' : Int) (n' : Int) true hrun hn w')
  have HA := Lib.hid (fun (w' : World) (h : Rd w' B A (ls.flatMap eSegment)) (h3 : B ≤ w'.heap.size) => along_any ls n' f' hlen24 h24 hf A B c w' h h3)
  have hS := alongL_len (show 0 < ls.length by omega) f' n'
  have hSat := alongL_at (show 0 < ls.length by omega) f' n'
  generalize alongL ls f' n' = S at *
  rw [q1, q2]
  have Hl := Lib.hid hl
  change Calls _ _ _ w (RunPost (runP ls [] n' f' (lo, hi)) w)
  clear hle hrun h0 hrn q1 q2 hl
  go_enter Try.func65, Try.ntmps65
  go_wp2_with (first | (go_at_call 106; refine (HL.out _ (by exact Hs.out) (by simp; omega)).mono ?_; rintro e w1 ⟨rfl, b1⟩; obtain ⟨hc1, hf1, hz1⟩ := bstep (N := w.heap.size + 2) (by go_size) b1; have Hs1 := Lib.hid (Hs.out.below b1 (by simp; omega)); have hy1 : w.heap.size + 1 < w1.heap.size := (by omega); have hx1 : w.heap.size < w1.heap.size := (by omega)) | (go_at_call 90; refine (HE.out _ he _).mono ?_; rintro e w2 ⟨rfl, b2⟩; obtain ⟨hc2, hf2, hz2⟩ := bstep (Nat.le_refl _) b2; have Hs2 := Lib.hid (Hs1.out.below b2 (by omega)); have hy2 : w.heap.size + 1 < w2.heap.size := (by omega); have hx2 : w.heap.size < w2.heap.size := (by omega)) | (go_at_call 107; refine (HR.out _).mono ?_; rintro e w3 ⟨rfl, b3⟩; obtain ⟨hc3, hf3, hz3⟩ := bstep (Nat.le_refl _) b3; have Hs3 := Lib.hid (Hs2.out.below b3 (by omega)); have hy3 : w.heap.size + 1 < w3.heap.size := (by omega); have hx3 : w.heap.size < w3.heap.size := (by omega)) | (go_at_call 128; refine (HA.out _ (by exact Hs3.out) (by omega)).mono ?_; rintro e w4 ⟨A2, c2, rfl, o4, b4⟩; obtain ⟨hc4, hf4, hz4⟩ := bstep (Nat.le_refl _) b4; have O4 := Lib.hid o4; clear o4; have hy4 : w.heap.size + 1 < w4.heap.size := (by omega); have hx4 : w.heap.size < w4.heap.size := (by omega)))
  have B4 : Hid (Below w.heap.size w w4) := Lib.hid (by repeat' (first | (with_reducible exact Below.refl _ _) | (with_reducible assumption) | (with_reducible refine Below.alloc ?_ ?_ _) | (with_reducible refine Below.drew ?_) | (with_reducible refine below_drewN ?_ _) | (with_reducible refine Below.setCell ?_ ?_ _) | (with_reducible refine Below.trans ?_ (Below.mono (by assumption) ?_)) | go_size | (exact Below.size (by assumption))))
  have c40 : w4.cell? ⟨w.heap.size + 1, 0, none⟩ = some (.int .i64 lo) := by go_cell
  have c41 : w4.cell? ⟨w.heap.size + 1, 1, none⟩ = some (.int .i64 hi) := by go_cell
  have f40 : w4.frozen? ⟨w.heap.size + 1, 0, none⟩ = false := by go_cell
  have f41 : w4.frozen? ⟨w.heap.size + 1, 1, none⟩ = false := by go_cell
  have HK := Lib.hid (fun k hk => (own_lt O4.out k hk).2)
  have O4' := Lib.hid (own_more O4.out (show w.heap.size + 2 ≤ w3.heap.size by omega))
  go_loopw [10, 35] (fun v i wr => ∃ (k : Nat) (acc : List Ivl) (e : Ivl), k ≤ n' ∧ i = .int .i64 k ∧ upTo ls [] n' f' (lo, hi) k acc e ∧ enB e.1 e.2 = true ∧ wr.ownsRow w4.heap.size 29 2 v k (acc.flatMap eInterval) ∧ Below w.heap.size w wr ∧ w4.heap.size ≤ wr.heap.size ∧ wr.ownsRow (w.heap.size + 2) 39 7 (.slice A2 n' c2) n' (S.flatMap eSegment) ∧ wr.cell? ⟨w.heap.size + 1, 0, none⟩ = some (.int .i64 e.1) ∧ wr.cell? ⟨w.heap.size + 1, 1, none⟩ = some (.int .i64 e.2) ∧ wr.frozen? ⟨w.heap.size + 1, 0, none⟩ = false ∧ wr.frozen? ⟨w.heap.size + 1, 1, none⟩ = false) (fun _ i _ => n' - (intOf i).toNat)
  case atStart => exact ⟨0, [], (lo, hi), Nat.zero_le _, rfl, upTo_start _ _ _ _ _, he, World.ownsRow_nil _ _ _ _, B4.out, Nat.le_refl _, O4'.out, c40, c41, f40, f41⟩
  case round =>
    clear c40 c41 f40 f41 O4 O4' HL HE HR HA Hs Hs1 Hs2 Hs3
    obtain ⟨k, acc, e, hk, rfl, hup, hen, hown, hbw, hsz, hSo, cE0, cE1, fE0, fE1⟩ := hrel
    obtain ⟨A9, k9, rfl⟩ := own_val hown
    by_cases hlt : k < n'
    · have hmm : (f' + k) % ls.length < ls.length := Nat.mod_lt (f' + k) (show 0 < ls.length by omega)
      have ht := List.getElem?_eq_getElem hmm
      generalize ls[(f' + k) % ls.length] = t at ht
      have htS : S[k]? = some t := (hSat k hlt).trans ht
      have hst := segT_at Hl.out ht
      have Hup := Lib.hid (fun h => upTo_step hup hlt ht h)
      have Hub := Lib.hid (fun h => upTo_bad hup hlt ht h)
      have hlacc := hup.1
      have hne' := next_en (on := []) (j := (f' + k) % ls.length) hst hen
      rw [nextP_nil] at hne' Hup Hub
      have Hne := Lib.hid hne'
      clear hne'
      obtain ⟨bs, os, rfl, hbB, c0, c1, c2', c3, c4, c5, c6⟩ := (Rd.of_own hSo).atSegment htS
      have HF := Lib.hid (fun w' => after_t t e hst hen w')
      have Ho := Lib.hid hown
      have HSo := Lib.hid hSo
      have Hb := Lib.hid hbw
      have Hlacc := Lib.hid hlacc
      clear hup hen hst hown ht htS hlacc hSo hbw
      obtain ⟨tk, tl, tr, trl, trh, tfl, tfh⟩ := t
      obtain ⟨el, eh⟩ := e
      dsimp only at *
      generalize hX : coastP (tk, tl, tr, trl, trh, tfl, tfh) (el, eh) = X at *
      have g1 : w.heap.size + 1 < wr.heap.size := by omega
      have hln : n' ≤ 1048576 := by omega
      by_cases hz : badP X = 0
      · have hok : okP X = X := by simp [okP, hz]
        have hup2 := Hup.out hz
        have hen2 := Hne.out hz
        rw [hok, hz] at HF
        have Hup2 := Lib.hid hup2
        have Hen2 := Lib.hid hen2
        clear Hup Hne hup2 hen2 Hub hX
        have hkn : k ≤ 1048576 := by omega
        obtain ⟨x0, x1⟩ := X
        dsimp only at *
        go_wp2_with fail
        refine (HF.out _).mono ?_
        rintro e w5 ⟨rfl, b5⟩
        have hbx := ((Below.refl wr.heap.size wr).alloc (Nat.le_refl _) (.cells #[.int .i64 tk, .int .i64 tl, .int .i64 tr, .int .i64 trl, .int .i64 trh, .int .i64 tfl, .int .i64 tfh] 39)).trans (b5.mono (by simp))
        have hz5 := hbx.size
        have d0 := (hbx.cell (p := ⟨w.heap.size + 1, 0, none⟩) (by show w.heap.size + 1 < wr.heap.size; omega)).trans cE0
        have d1 := (hbx.cell (p := ⟨w.heap.size + 1, 1, none⟩) (by show w.heap.size + 1 < wr.heap.size; omega)).trans cE1
        have e0 := (hbx.frozen (p := ⟨w.heap.size + 1, 0, none⟩) (by show w.heap.size + 1 < wr.heap.size; omega)).trans fE0
        have e1 := (hbx.frozen (p := ⟨w.heap.size + 1, 1, none⟩) (by show w.heap.size + 1 < wr.heap.size; omega)).trans fE1
        have hg5 : w.heap.size + 1 < w5.heap.size := by omega
        have O5 := Lib.hid ((own_setCell (own_setCell (own_below Ho.out hbx) (w.heap.size + 1) 0 (.int .i64 x0) (by omega)) (w.heap.size + 1) 1 (.int .i64 x1) (by omega)).alloc (.cells #[.int .i64 x0, .int .i64 x1] 29))
        have S5 := Lib.hid ((own_setCell (own_setCell (own_below HSo.out hbx) (w.heap.size + 1) 0 (.int .i64 x0) (by omega)) (w.heap.size + 1) 1 (.int .i64 x1) (by omega)).alloc (.cells #[.int .i64 x0, .int .i64 x1] 29))
        have B5 := Lib.hid ((((Hb.out.trans (hbx.mono (by omega))).setCell (p := ⟨w.heap.size + 1, 0, none⟩) (by show w.heap.size ≤ w.heap.size + 1; omega) (.int .i64 x0)).setCell (p := ⟨w.heap.size + 1, 1, none⟩) (by show w.heap.size ≤ w.heap.size + 1; omega) (.int .i64 x1)).alloc (by simp; omega) (.cells #[.int .i64 x0, .int .i64 x1] 29))
        have y0 : (((w5.setCell ⟨w.heap.size + 1, 0, none⟩ (.int .i64 x0)).setCell ⟨w.heap.size + 1, 1, none⟩ (.int .i64 x1)).alloc (.cells #[.int .i64 x0, .int .i64 x1] 29)).cell? ⟨w.heap.size + 1, 0, none⟩ = some (.int .i64 x0) := by go_cell
        have y1 : (((w5.setCell ⟨w.heap.size + 1, 0, none⟩ (.int .i64 x0)).setCell ⟨w.heap.size + 1, 1, none⟩ (.int .i64 x1)).alloc (.cells #[.int .i64 x0, .int .i64 x1] 29)).cell? ⟨w.heap.size + 1, 1, none⟩ = some (.int .i64 x1) := by go_cell
        have y2 : (((w5.setCell ⟨w.heap.size + 1, 0, none⟩ (.int .i64 x0)).setCell ⟨w.heap.size + 1, 1, none⟩ (.int .i64 x1)).alloc (.cells #[.int .i64 x0, .int .i64 x1] 29)).frozen? ⟨w.heap.size + 1, 0, none⟩ = false := by go_cell
        have y3 : (((w5.setCell ⟨w.heap.size + 1, 0, none⟩ (.int .i64 x0)).setCell ⟨w.heap.size + 1, 1, none⟩ (.int .i64 x1)).alloc (.cells #[.int .i64 x0, .int .i64 x1] 29)).frozen? ⟨w.heap.size + 1, 1, none⟩ = false := by go_cell
        have Y := Lib.hid (And.intro y0 (And.intro y1 (And.intro y2 y3)))
        clear y0 y1 y2 y3 hbx b5
        go_wp2_with (at_builtin; go_loud (refine wpList_append_iv rfl (.tmp 49) (.tmp 51) rfl w4.heap.size _ _ acc rfl O5.out x0 x1 _ (by simp) rfl hkn (by simp; omega) ?_); intro v5 w6 own6 hb6 hz6; simp only [World.size_setCell, World.size_alloc] at hz6; have O6 := Lib.hid own6; clear own6)
        go_roundw
        case rel => exact ⟨k + 1, acc ++ [(x0, x1)], (x0, x1), by omega, by go_num, Hup2.out, Hen2.out, O6.out, B5.out.trans (hb6.mono (by omega)), by omega, own_belowN S5.out hb6 (fun q hq => by have := HK.out q hq; omega), (hb6.cell (p := ⟨w.heap.size + 1, 0, none⟩) (by show w.heap.size + 1 < w4.heap.size; omega)).trans Y.out.1, (hb6.cell (p := ⟨w.heap.size + 1, 1, none⟩) (by show w.heap.size + 1 < w4.heap.size; omega)).trans Y.out.2.1, (hb6.frozen (p := ⟨w.heap.size + 1, 0, none⟩) (by show w.heap.size + 1 < w4.heap.size; omega)).trans Y.out.2.2.1, (hb6.frozen (p := ⟨w.heap.size + 1, 1, none⟩) (by show w.heap.size + 1 < w4.heap.size; omega)).trans Y.out.2.2.2⟩
        case measure => simp [intOf]; omega
      · have hrun := Hub.out hz
        have hzb : (badP X != 0) = true := by simpa using hz
        generalize badP X = Z at *
        have Hrun := Lib.hid hrun
        have Hz := Lib.hid hz
        generalize okP X = Y at *
        obtain ⟨y0, y1⟩ := Y
        dsimp only at *
        clear hrun Hup Hub Hne hX
        go_wp2_with (first | (go_at_call 121; refine (HF.out _).mono ?_; rintro e w5 ⟨rfl, b5⟩; obtain ⟨hc5, hf5, hz5⟩ := bstep (N := wr.heap.size + 1) (by go_size) b5; have hg5 : w.heap.size + 1 < w5.heap.size := (by omega); have B5 := Lib.hid (Hb.out.trans ((((Below.refl wr.heap.size wr).alloc (Nat.le_refl _) _).trans (b5.mono (by simp))).mono (show w.heap.size ≤ wr.heap.size by omega)))))
        go_ret2
        exact runPost_bad Hrun.out Hz.out (B5.out.alloc (by omega) _)
    · have hkn : k = n' := by omega
      subst hkn
      have hr := upTo_end hup
      have hlacc := hup.1
      have Hr := Lib.hid hr
      have Hlacc := Lib.hid hlacc
      have Ho := Lib.hid hown
      have Hb := Lib.hid hbw
      clear hup hown hbw hr hSo
      go_wp2
      go_ret2
      exact runPost_ok Hr.out Hlacc.out (own_more Ho.out (by omega)) Hb.out
end Go.Proofs.Ytooifamckccadaa
