/- Bounds of stops: what they are, and the walks of the entry of a block. -/
import Derived.Test.YtooifamckccadaaMy
import Derived.Test.YtooifamckccadaaIc
import Derived.Deep.RegionHeld3
import Derived.Deep.DeepCutAuto
import Derived.Test.YtooifamckccadaaQt
import Derived.Test.YtooifamckccadaaHs
import Derived.Test.YtooifamckccadaaDm
namespace Go.Proofs.Ytooifamckccadaa
open Go.ChangeShapes Go.WideShapes Go.ChangeAt Go.RowKit
set_option maxRecDepth 20000
set_option linter.unusedVariables false
set_option linter.unusedSimpArgs false
/-- the length of k segments from the f-th -/
def lSum (ls : List Seg) (f : Nat) : Nat → Int
  | 0 => 0
  | k + 1 => lSum ls f k + (match ls[f + k]? with | some t => t.2.1 | none => 0)
/-- the sum of the least changes, by place -/
def gSum (ls : List Seg) (f : Nat) : Nat → Int
  | 0 => 0
  | k + 1 => gSum ls f k + (match ls[f + k]? with | some t => chLo t | none => 0)
theorem lSum_step {ls : List Seg} {f k : Nat} {t : Seg} (h : ls[f + k]? = some t) : lSum ls f (k + 1) = lSum ls f k + t.2.1 := by simp [lSum, h]
theorem gSum_step {ls : List Seg} {f k : Nat} {t : Seg} (h : ls[f + k]? = some t) : gSum ls f (k + 1) = gSum ls f k + chLo t := by simp [gSum, h]
theorem gSum_bds {ls : List Seg} (hl : layB ls = true) (f k : Nat) : -10000000000 * (k : Int) ≤ gSum ls f k ∧ gSum ls f k ≤ 10000000000 * (k : Int) := by
  induction k with
  | zero => simp [gSum]
  | succ k ih =>
    cases h : ls[f + k]? with
    | none => simp only [gSum, h]; omega
    | some t =>
      rw [gSum_step h]
      have := chLo_bds (seg_at hl h)
      omega
theorem lSum_bds {ls : List Seg} (hl : layB ls = true) (f k : Nat) : 0 ≤ lSum ls f k ∧ lSum ls f k ≤ 200000 * (k : Int) := by
  induction k with
  | zero => simp [lSum]
  | succ k ih =>
    cases h : ls[f + k]? with
    | none => simp only [lSum, h]; omega
    | some t =>
      rw [lSum_step h]
      have := (seg_bds (seg_at hl h)).2.1
      omega
/-- the bound of a stop in a block of n segments and the last one, t -/
def sbV (ls : List Seg) (f n : Nat) (t : Seg) (hi : Int) : Int := lSum ls f n + (if brkB t.1 then -((-((hi + hSum ls f n) * t.2.1)) / (workP t).1) else t.2.1)
def sbP (ls : List Seg) (fs : List Int) (b : Nat) (hi : Int) : Int :=
  match fs[b]? with
  | none => 0
  | some f => match ls[(endP ls fs b - 1).toNat]? with
    | none => 0
    | some t => sbV ls f.toNat (endP ls fs b - 1 - f).toNat t hi
theorem sbP_good {ls : List Seg} {fs : List Int} {b f n : Nat} {t : Seg} (hi : Int) (h1 : fs[b]? = some (f : Int)) (h2 : endP ls fs b = ((f + n + 1 : Nat) : Int)) (h3 : ls[f + n]? = some t) : sbP ls fs b hi = sbV ls f n t hi := by
  have e1 : (((f + n + 1 : Nat) : Int) - 1).toNat = f + n := by omega
  have e2 : (((f + n + 1 : Nat) : Int) - 1 - (f : Int)).toNat = n := by omega
  simp only [sbP, h1, h2, e1, e2, h3, Int.toNat_natCast]
/-- the error of a bound -/
def sbC (ls : List Seg) (fs : List Int) (b lo hi : Int) : Int := if enC ls fs b lo hi = 0 then (if mayB ls fs b lo hi then 0 else 5) else enC ls fs b lo hi
/-- the bound -/
def sbR (ls : List Seg) (fs : List Int) (b lo hi : Int) : Int := if sbC ls fs b lo hi = 0 then sbP ls fs b.toNat hi else 0
theorem mul_bds {x l : Int} (h1 : -1000000000000 ≤ x) (h2 : x ≤ 1000000000000) (h3 : 1 ≤ l) (h4 : l ≤ 200000) : -200000000000000000 ≤ x * l ∧ x * l ≤ 200000000000000000 := by
  have a := Int.mul_le_mul_of_nonneg_right h1 (show 0 ≤ l by omega)
  have b := Int.mul_le_mul_of_nonneg_right h2 (show 0 ≤ l by omega)
  omega
set_option maxHeartbeats 4000000 in
theorem stopBound_spec_bad (ls : List Seg) (fs : List Int) (b lo hi : Int) (hbad : sbC ls fs b lo hi ≠ 0) (A : Option Addr) (B c : Nat) (A' : Option Addr) (c' : Nat) (w : World) (hs : Rd w B A (ls.flatMap eSegment)) (hr : Rd w B A' (ints fs)) (hB : B ≤ w.heap.size) (hn : ls.length ≤ 1048576) (hn2 : fs.length ≤ 1048576) :
   Calls Try.prog 69 #[.agg #[.slice A ls.length c], .slice A' fs.length c', .int .i64 b, .agg #[.int .i64 lo, .int .i64 hi]] w fun e w' => e = .returned (.tuple #[.int .i64 (sbR ls fs b lo hi), .int .i64 (sbC ls fs b lo hi)]) ∧ Below w.heap.size w w' := by
  have Hs := Lib.hid ((hs.alloc hB (.cells #[.slice A ls.length c] 26)).alloc (by simp; omega) (.cells #[.int .i64 lo, .int .i64 hi] 29))
  have Hr := Lib.hid ((hr.alloc hB (.cells #[.slice A ls.length c] 26)).alloc (by simp; omega) (.cells #[.int .i64 lo, .int .i64 hi] 29))
  have hS : B ≤ ((w.alloc (.cells #[.slice A ls.length c] 26)).alloc (.cells #[.int .i64 lo, .int .i64 hi] 29)).heap.size := by simp; omega
  have HM := Lib.hid (fun (w' : World) (h : Rd w' B A (ls.flatMap eSegment)) (h2 : Rd w' B A' (ints fs)) (h3 : B ≤ w'.heap.size) => mayEnter_spec ls fs b lo hi A B c A' c' w' h h2 h3 hn hn2)
  have h1 : sbR ls fs b lo hi = 0 := by rw [sbR, if_neg hbad]
  rw [h1]
  clear hs hr h1
  unfold sbC at hbad ⊢
  by_cases h0 : enC ls fs b lo hi = 0
  · rw [if_pos h0] at hbad ⊢
    cases hm : mayB ls fs b lo hi with
    | true => rw [hm] at hbad; exact absurd rfl hbad
    | false =>
    rw [h0, hm] at HM
    clear h0 hm hbad
    show Calls Try.prog 69 #[.agg #[.slice A ls.length c], .slice A' fs.length c', .int .i64 b, .agg #[.int .i64 lo, .int .i64 hi]] w fun e w' => e = .returned (.tuple #[.int .i64 0, .int .i64 5]) ∧ Below w.heap.size w w'
    go_enter Try.func69, Try.ntmps69
    go_wp2_with (go_at_call 71; refine (HM.out _ (by exact Hs.out) (by exact Hr.out) hS).mono ?_; rintro e w1 ⟨rfl, hb⟩)
    refine bodyPost_ret (v := .tuple #[.int .i64 0, .int .i64 5]) (by simp [results, Try.results69, go_sem, *]) rfl ?_
    exact ⟨rfl, by repeat' (first | (with_reducible exact Below.refl _ _) | (with_reducible assumption) | (with_reducible refine Below.alloc ?_ ?_ _) | (with_reducible refine Below.drew ?_) | (with_reducible refine below_drewN ?_ _) | (with_reducible refine Below.setCell ?_ ?_ _) | (with_reducible refine Below.trans ?_ (Below.mono (by assumption) ?_)) | go_size | (exact Below.size (by assumption)))⟩
  · rw [if_neg h0]
    generalize enC ls fs b lo hi = C at *
    have hc : (C != 0) = true := by simpa using h0
    have hc2 : (C == 0) = false := by simpa using h0
    generalize mayB ls fs b lo hi = R at *
    clear hbad
    go_enter Try.func69, Try.ntmps69
    go_wp2_with (go_at_call 71; refine (HM.out _ (by exact Hs.out) (by exact Hr.out) hS).mono ?_; rintro e w1 ⟨rfl, hb⟩)
    refine bodyPost_ret (v := .tuple #[.int .i64 0, .int .i64 C]) (by simp [results, Try.results69, go_sem, *]) rfl ?_
    exact ⟨rfl, by repeat' (first | (with_reducible exact Below.refl _ _) | (with_reducible assumption) | (with_reducible refine Below.alloc ?_ ?_ _) | (with_reducible refine Below.drew ?_) | (with_reducible refine below_drewN ?_ _) | (with_reducible refine Below.setCell ?_ ?_ _) | (with_reducible refine Below.trans ?_ (Below.mono (by assumption) ?_)) | go_size | (exact Below.size (by assumption)))⟩
end Go.Proofs.Ytooifamckccadaa
namespace Go.Proofs.Ytooifamckccadaa
open Go.ChangeShapes Go.WideShapes Go.ChangeAt Go.RowKit
set_option linter.unusedVariables false
set_option linter.unusedSimpArgs false
theorem gSum_front {ls : List Seg} {k : Nat} {t : Seg} (ht : ls[k]? = some t) (n : Nat) : gSum ls k (n + 1) = chLo t + gSum ls (k + 1) n := by
  induction n with
  | zero => simp [gSum, ht]
  | succ n ih =>
    show gSum ls k (n + 1) + _ = chLo t + (gSum ls (k + 1) n + _)
    rw [ih, show k + (n + 1) = k + 1 + n by omega]
    exact Int.add_assoc _ _ _
theorem hSum_front {ls : List Seg} {k : Nat} {t : Seg} (ht : ls[k]? = some t) (n : Nat) : hSum ls k (n + 1) = chHi t + hSum ls (k + 1) n := by
  induction n with
  | zero => simp [hSum, ht]
  | succ n ih =>
    show hSum ls k (n + 1) + _ = chHi t + (hSum ls (k + 1) n + _)
    rw [ih, show k + (n + 1) = k + 1 + n by omega]
    exact Int.add_assoc _ _ _
theorem lastI_cons' (e x : Ivl) (l : List Ivl) : lastI e (x :: l) = lastI x l := by
  unfold lastI
  rw [List.getLast?_cons]
  cases l.getLast? <;> rfl
theorem next_coast (j : Nat) (t : Seg) (e : Ivl) : nextP [] j t e = (e.1 + chLo t, e.2 + chHi t) := (show nextP [] j t e = coastP t e by simp [nextP])
theorem coast_run (ls : List Seg) : ∀ (n k : Nat) (e : Ivl), k + n ≤ ls.length →
    ((runP ls [] n k e).2 = 0 ↔ ∀ j, 0 < j → j ≤ n → 0 ≤ e.1 + gSum ls k j ∧ e.2 + hSum ls k j ≤ 10000000000) ∧ ((runP ls [] n k e).2 = 0 → lastI e (runP ls [] n k e).1 = (e.1 + gSum ls k n, e.2 + hSum ls k n))
  | 0, k, e, _ => ⟨⟨fun _ j h0 h1 => by omega, fun _ => rfl⟩, fun _ => by simp [runP, lastI, gSum, hSum]⟩
  | n + 1, k, e, hk => by
    have hlt : k < ls.length := by omega
    have ht := List.getElem?_eq_getElem hlt
    generalize ls[k] = t at ht
    have htm : ls[k % ls.length]? = some t := by rw [Nat.mod_eq_of_lt hlt]; exact ht
    have hnx := next_coast (k % ls.length) t e
    by_cases hb : badP (nextP [] (k % ls.length) t e) = 0
    · rw [runP_ok htm hb, hnx]
      rw [hnx] at hb
      obtain ⟨i1, i2⟩ := coast_run ls n (k + 1) (e.1 + chLo t, e.2 + chHi t) (by omega)
      have hb2 := badP_ok hb
      dsimp only at *
      refine ⟨⟨fun h j h0 h1 => ?_, fun h => ?_⟩, fun h => ?_⟩
      · obtain ⟨j', rfl⟩ : ∃ j', j = j' + 1 := ⟨j - 1, by omega⟩
        rw [gSum_front ht, hSum_front ht]
        cases j' with
        | zero => simp only [gSum, hSum]; omega
        | succ j' =>
          have := i1.1 h (j' + 1) (by omega) (by omega)
          omega
      · refine i1.2 (fun j h0 h1 => ?_)
        have := h (j + 1) (by omega) (by omega)
        rw [gSum_front ht, hSum_front ht] at this
        omega
      · rw [lastI_cons', i2 h, gSum_front ht, hSum_front ht, Int.add_assoc, Int.add_assoc]
    · rw [runP_bad htm hb]
      refine ⟨⟨fun h => absurd h hb, fun h => ?_⟩, fun h => absurd h hb⟩
      exfalso
      have h1 := h 1 (by omega) (by omega)
      rw [gSum_front ht, hSum_front ht] at h1
      simp only [gSum, hSum] at h1
      rw [hnx] at hb
      apply hb
      unfold badP
      rw [if_neg (by dsimp only; omega), if_neg (by dsimp only; omega)]
theorem nSum_g {ls : List Seg} {f : Nat} : ∀ n, f + n ≤ ls.length → nSum ls f n = gSum ls f n
  | 0, _ => rfl
  | n + 1, h => by
    show nSum ls f n + (match ls[(f + n) % ls.length]? with | some t => chLo t | none => 0) = gSum ls f n + (match ls[f + n]? with | some t => chLo t | none => 0)
    rw [nSum_g n (by omega), Nat.mod_eq_of_lt (show f + n < ls.length by omega)]
theorem nMax_le {ls : List Seg} {f : Nat} (lo : Int) : ∀ n, f + n ≤ ls.length → (nMax ls f n ≤ lo ↔ 0 ≤ lo ∧ ∀ j, 0 < j → j ≤ n → 0 ≤ lo + gSum ls f j)
  | 0, _ => ⟨fun h => ⟨h, fun j h0 h1 => by omega⟩, fun h => h.1⟩
  | n + 1, h => by
    have ih := nMax_le (ls := ls) (f := f) lo n (by omega)
    have hs := nSum_g (ls := ls) (f := f) (n + 1) h
    simp only [nMax]
    rw [hs]
    constructor
    · intro hm
      have h1 : nMax ls f n ≤ lo ∧ -gSum ls f (n + 1) ≤ lo := by split at hm <;> omega
      obtain ⟨a, b⟩ := ih.1 h1.1
      refine ⟨a, fun j h0 hj => ?_⟩
      rcases Nat.lt_or_ge n j with h2 | h2
      · have : j = n + 1 := by omega
        subst this
        omega
      · exact b j h0 h2
    · intro hm
      have h1 := ih.2 ⟨hm.1, fun j h0 hj => hm.2 j h0 (by omega)⟩
      have h2 := hm.2 (n + 1) (by omega) (by omega)
      split <;> omega
theorem hMost_ge {ls : List Seg} {f : Nat} (hi : Int) : ∀ n, (hi ≤ hMost ls f n ↔ hi ≤ 10000000000 ∧ ∀ j, 0 < j → j ≤ n → hi + hSum ls f j ≤ 10000000000)
  | 0 => ⟨fun h => ⟨h, fun j h0 h1 => by omega⟩, fun h => h.1⟩
  | n + 1 => by
    have ih := hMost_ge (ls := ls) (f := f) hi n
    simp only [hMost]
    constructor
    · intro hm
      have h1 : hi ≤ hMost ls f n ∧ hi ≤ 10000000000 - hSum ls f (n + 1) := by split at hm <;> omega
      obtain ⟨a, b⟩ := ih.1 h1.1
      refine ⟨a, fun j h0 hj => ?_⟩
      rcases Nat.lt_or_ge n j with h2 | h2
      · have : j = n + 1 := by omega
        subst this
        omega
      · exact b j h0 h2
    · intro hm
      have h1 := ih.2 ⟨hm.1, fun j h0 hj => hm.2 j h0 (by omega)⟩
      have h2 := hm.2 (n + 1) (by omega) (by omega)
      split <;> omega
theorem blk_hold {ls : List Seg} {fs : List Int} {b q : Nat} {t : Seg} (hl : layB ls = true) (hk : blkB ls fs = true) (hb : b < fs.length) (he : endP ls fs b = ((q + 1 : Nat) : Int)) (ht : ls[q]? = some t) : holdB t.1 = true := by
  by_cases e : b + 1 = fs.length
  · rw [endP_last e] at he
    unfold layB at hl
    rw [Bool.and_eq_true] at hl
    have h2 := hl.2
    unfold lastK at h2
    rw [show ls.length - 1 = q by omega, ht] at h2
    have h3 : t.1 = 4 := by simpa using h2
    rw [h3]; rfl
  · have ht2 := List.getElem?_eq_getElem (show b + 1 < fs.length by omega)
    generalize fs[b + 1] = y at ht2
    rw [endP_at ht2] at he
    subst he
    unfold blkB at hk
    simp only [Bool.and_eq_true] at hk
    have h3 := hk.2.2
    rw [List.all_eq_true] at h3
    have h4 := h3 _ (List.mem_of_getElem? (show (fs.drop 1)[b]? = some _ by rw [List.getElem?_drop, Nat.add_comm]; exact ht2))
    unfold blk1 at h4
    rw [show ((q + 1 : Nat) : Int) - 1 = (q : Int) by omega, kindAt_nat ht] at h4
    exact h4
theorem dev_nil (ls : List Seg) : devB ls [] = true := rfl
theorem may_split {ls : List Seg} {fs : List Int} {b lo hi : Int} (h0 : enC ls fs b lo hi = 0) : ∃ (b' f n : Nat) (t : Seg), b = b' ∧ b' < fs.length ∧ layB ls = true ∧ segT t = true ∧ fs[b']? = some (f : Int) ∧ endP ls fs b' = ((f + n + 1 : Nat) : Int) ∧ ls[f + n]? = some t ∧ f + n < ls.length ∧ holdB t.1 = true ∧ enB lo hi = true := by
  obtain ⟨hlay, hblk, hen, b', rfl, hb'⟩ := enC_zero h0
  obtain ⟨f, n, hfb, hend, hfn⟩ := blk_nat hblk hb'
  have ht := List.getElem?_eq_getElem hfn
  generalize ls[f + n] = t at ht
  exact ⟨b', f, n, t, rfl, hb', hlay, segT_at hlay ht, hfb, hend, ht, hfn, blk_hold hlay hblk hb' hend ht, hen⟩
theorem svV_two (t : Seg) (e : Ivl) (h : brkB t.1 = true) : (svV t e == 2) = decide (1 ≤ (workP t).1 ∧ e.2 ≤ (workP t).1) := by
  unfold svV
  rw [if_pos h]
  by_cases h1 : 1 ≤ (workP t).1 ∧ e.2 ≤ (workP t).1
  · rw [if_pos h1, decide_eq_true h1]; rfl
  · rw [if_neg h1, decide_eq_false h1]
    split <;> rfl
theorem may_caught {ls : List Seg} {fs : List Int} {b lo hi : Int} (h0 : enC ls fs b lo hi = 0) : icB ls fs [] b lo hi = mayB ls fs b lo hi := by
  obtain ⟨b', f, n, t, rfl, hb', hlay, hst, hfb, hend, ht, hfn, hho, hen⟩ := may_split h0
  obtain ⟨q1, q2⟩ := ae_good h0 (dev_nil ls) hfb hend
  obtain ⟨c1, c2⟩ := coast_run ls n f (lo, hi) (by omega)
  obtain ⟨e0, e1, e2⟩ := enB_iff.1 hen
  have hN := nMax_le (ls := ls) (f := f) lo n (by omega)
  have hM := hMost_ge (ls := ls) (f := f) hi n
  have hmay : mayB ls fs b' lo hi = (decide (entN ls f n t ≤ lo) && decide (hi ≤ entM ls f n t)) := by
    rw [mayB, h0, Int.toNat_natCast, entP_good hfb hend ht]; rfl
  have e : ls.getD (endP ls fs ((b' : Int)).toNat - 1).toNat (0, 0, 0, 0, 0, 0, 0) = t := by
    rw [Int.toNat_natCast, hend, show (((f + n + 1 : Nat) : Int) - 1).toNat = f + n by omega, List.getD_eq_getElem?_getD, ht]; rfl
  dsimp only at c1 c2
  rw [hmay]
  unfold icB
  rw [e, q1, q2]
  rw [Bool.eq_iff_iff]
  simp only [Bool.and_eq_true, decide_eq_true_eq, beq_iff_eq, Bool.or_eq_true]
  cases hbk : brkB t.1 with
  | true =>
    have hk1 : t.1 ≠ 1 := by intro h; rw [h] at hbk; simp [brkB] at hbk
    have hc : svC t = 0 := by rw [svC, hbk]; rfl
    simp only [entN, entM, hbk, if_true]
    constructor
    · rintro ⟨hz, hor⟩
      rw [if_pos hz, c2 hz] at hor
      rcases hor with h | ⟨_, h⟩
      · exact absurd h hk1
      · have h3 := svV_two t (lo + gSum ls f n, hi + hSum ls f n) hbk
        rw [h] at h3
        have h4 := of_decide_eq_true h3.symm
        dsimp only at h4
        have h5 := c1.1 hz
        have h6 := hN.2 ⟨e0, fun j a b => (h5 j a b).1⟩
        have h7 := hM.2 ⟨e2, fun j a b => (h5 j a b).2⟩
        rw [if_neg (by omega), if_neg (by omega)]
        refine ⟨h6, ?_⟩
        split <;> omega
    · rintro ⟨h1, h2⟩
      by_cases hw : (workP t).1 < 1
      · rw [if_pos hw] at h2; omega
      · rw [if_neg hw] at h1 h2
        have h6 := hN.1 h1
        have h7 : hi ≤ hMost ls f n ∧ hi ≤ (workP t).1 - hSum ls f n := by split at h2 <;> omega
        have h8 := hM.1 h7.1
        have hz := c1.2 (fun j a b => ⟨h6.2 j a b, h8.2 j a b⟩)
        refine ⟨hz, .inr ⟨hc, ?_⟩⟩
        rw [if_pos hz, c2 hz]
        have h3 := svV_two t (lo + gSum ls f n, hi + hSum ls f n) hbk
        rw [decide_eq_true (by dsimp only; omega)] at h3
        simpa using h3
  | false =>
    have hk1 : t.1 = 1 := by
      simp only [holdB, Bool.or_eq_true, beq_iff_eq] at hho
      simp only [brkB, Bool.or_eq_false_iff, beq_eq_false_iff_ne] at hbk
      rcases hho with (h | h) | h
      · exact h
      · exact absurd h hbk.1
      · exact absurd h hbk.2
    simp only [entN, entM, hbk, Bool.false_eq_true, if_false]
    constructor
    · rintro ⟨hz, _⟩
      have h5 := c1.1 hz
      exact ⟨hN.2 ⟨e0, fun j a b => (h5 j a b).1⟩, hM.2 ⟨e2, fun j a b => (h5 j a b).2⟩⟩
    · rintro ⟨h1, h2⟩
      have h6 := hN.1 h1
      have h8 := hM.1 h2
      exact ⟨c1.2 (fun j a b => ⟨h6.2 j a b, h8.2 j a b⟩), .inl hk1⟩
theorem ceil_len {X W l : Int} (hw : 1 ≤ W) (hx : X ≤ W) (hl : 1 ≤ l) : -((-(X * l)) / W) ≤ l := by
  have h1 : -l ≤ (-(X * l)) / W := by
    rw [Int.le_ediv_iff_mul_le (by omega)]
    have h2 := Int.mul_le_mul_of_nonneg_right hx (show 0 ≤ l by omega)
    have h3 : -l * W = -(W * l) := by rw [Int.neg_mul, Int.mul_comm]
    omega
  omega
theorem ceil_mono {X Y W l : Int} (hw : 1 ≤ W) (hx : X ≤ Y) (hl : 1 ≤ l) : -((-(X * l)) / W) ≤ -((-(Y * l)) / W) := by
  have h2 := Int.mul_le_mul_of_nonneg_right hx (show 0 ≤ l by omega)
  have h3 : (-(Y * l)) / W ≤ (-(X * l)) / W := Int.ediv_le_ediv (by omega) (by omega)
  omega
theorem sb_law {ls : List Seg} {fs : List Int} {b lo hi : Int} (h0 : enC ls fs b lo hi = 0) (hm : mayB ls fs b lo hi = true) : ∃ (b' f n : Nat), b = b' ∧ b' < fs.length ∧ fs[b']? = some (f : Int) ∧ endP ls fs b' = ((f + n + 1 : Nat) : Int) ∧ f + n < ls.length ∧ sbP ls fs b' hi ≤ lSum ls f (n + 1) ∧ sbP ls fs b' lo ≤ sbP ls fs b' hi ∧ enC ls fs b lo lo = 0 ∧ mayB ls fs b lo lo = true := by
  obtain ⟨b', f, n, t, rfl, hb', hlay, hst, hfb, hend, ht, hfn, hho, hen⟩ := may_split h0
  obtain ⟨e0, e1, e2⟩ := enB_iff.1 hen
  have hmay : ∀ x, enC ls fs b' lo x = 0 → mayB ls fs b' lo x = (decide (entN ls f n t ≤ lo) && decide (x ≤ entM ls f n t)) := by
    intro x hx
    rw [mayB, hx, Int.toNat_natCast, entP_good hfb hend ht]; rfl
  have hsd := (seg_bds hst).2.1
  have h00 : enC ls fs b' lo lo = 0 := by
    unfold enC at h0 ⊢
    have h1 : enB lo lo = true := enB_iff.2 ⟨e0, Int.le_refl _, by omega⟩
    rw [hen] at h0
    rw [h1]
    exact h0
  have h1 := hmay hi h0
  rw [hm] at h1
  have h2 : entN ls f n t ≤ lo ∧ hi ≤ entM ls f n t := by simpa using h1.symm
  have h3 : mayB ls fs b' lo lo = true := by
    rw [hmay lo h00]
    simp only [Bool.and_eq_true, decide_eq_true_eq]
    omega
  refine ⟨b', f, n, rfl, hb', hfb, hend, hfn, ?_, ?_, h00, h3⟩
  · rw [sbP_good hi hfb hend ht, sbV, lSum_step ht]
    cases hbk : brkB t.1 with
    | false => simp
    | true =>
      simp only [entM, hbk, if_true] at h2 ⊢
      by_cases hw : (workP t).1 < 1
      · rw [if_pos hw] at h2; omega
      · rw [if_neg hw] at h2
        have h7 : hi ≤ (workP t).1 - hSum ls f n := by have := h2.2; split at this <;> omega
        have := ceil_len (X := hi + hSum ls f n) (W := (workP t).1) (by omega) (by omega) hsd.1
        omega
  · rw [sbP_good hi hfb hend ht, sbP_good lo hfb hend ht, sbV, sbV]
    cases hbk : brkB t.1 with
    | false => simp
    | true =>
      simp only [entM, hbk, if_true] at h2 ⊢
      by_cases hw : (workP t).1 < 1
      · rw [if_pos hw] at h2; omega
      · have := ceil_mono (X := lo + hSum ls f n) (Y := hi + hSum ls f n) (W := (workP t).1) (by omega) (by omega) hsd.1
        omega
end Go.Proofs.Ytooifamckccadaa
namespace Go.Proofs.Ytooifamckccadaa
open Go.ChangeShapes Go.WideShapes Go.ChangeAt Go.RowKit
set_option maxRecDepth 20000
set_option linter.unusedVariables false
set_option linter.unusedSimpArgs false
theorem rd_dropT {τ : Type} {en : τ → List Value} (C : Nat) (hC : ∀ t, (en t).length = C) {w : World} {B b o : Nat} {l : List τ} (h : Rd w B (some ⟨b, o, none⟩) (l.flatMap en)) (f : Nat) (hf : f ≤ l.length) : Rd w B (some ⟨b, o + f * C, none⟩) ((l.drop f).flatMap en) := fun hn => by
  have he : l.flatMap en = (l.take f).flatMap en ++ (l.drop f).flatMap en := by rw [← List.flatMap_append, List.take_append_drop]
  obtain ⟨b', o', e, hb, hc⟩ := h (by rw [he, List.length_append]; omega)
  injection e with e
  injection e with e1 e2
  subst e1 e2
  refine ⟨_, _, rfl, hb, fun j u hu => ?_⟩
  have h2 := hc (f * C + j) u (by
    rw [he, List.getElem?_append_right (by rw [flat_len en C hC, List.length_take]; rw [Nat.min_eq_left hf]; omega), flat_len en C hC, List.length_take, Nat.min_eq_left hf, Nat.add_sub_cancel_left]
    exact hu)
  rw [Nat.add_assoc]
  exact h2
theorem sub_at {ls : List Seg} {f n k : Nat} {t : Seg} (h : ((ls.drop f).take n)[k]? = some t) : ls[f + k]? = some t := by
  rw [List.getElem?_take] at h
  split at h
  · rwa [List.getElem?_drop] at h
  · cases h
theorem sub_len {ls : List Seg} {f n : Nat} (h : f + n ≤ ls.length) : ((ls.drop f).take n).length = n := by
  rw [List.length_take, List.length_drop]; omega
set_option maxHeartbeats 4000000 in
theorem needed_any (ls l : List Seg) (f : Nat) (hlay : layB ls = true) (hsub : ∀ k t, l[k]? = some t → ls[f + k]? = some t) (hfn : f + l.length ≤ ls.length) (A : Option Addr) (B c : Nat) (w : World) (hs : Rd w B A (l.flatMap eSegment)) (hB : B ≤ w.heap.size) :
   Calls Try.prog 185 #[.slice A l.length c] w fun e w' => e = .returned (.tuple #[.int .i64 (nMax ls f l.length), .int .i64 (10000000000 - hMost ls f l.length), .int .i64 (hSum ls f l.length)]) ∧ Below w.heap.size w w' := by
  obtain ⟨_, hlen3, hlen24⟩ := lay_all hlay
  have Hs := Lib.hid hs
  have Hlay := Lib.hid hlay
  have Hsub := Lib.hid hsub
  clear hs hlay hsub
  go_enter Try.func185, Try.ntmps185
  go_wp2_with fail
  go_loopw [6, 7, 12] (fun m q i wr => ∃ k : Nat, k ≤ l.length ∧ i = .int .i64 k ∧ m = .int .i64 (nMax ls f k) ∧ q = .int .i64 (10000000000 - hMost ls f k) ∧ Below w.heap.size w wr ∧ w.heap.size + 1 ≤ wr.heap.size ∧ wr.cell? ⟨w.heap.size, 0, none⟩ = some (.int .i64 (gSum ls f k)) ∧ wr.cell? ⟨w.heap.size, 1, none⟩ = some (.int .i64 (hSum ls f k)) ∧ wr.frozen? ⟨w.heap.size, 0, none⟩ = false ∧ wr.frozen? ⟨w.heap.size, 1, none⟩ = false) (fun _ _ i _ => l.length - (intOf i).toNat)
  case atStart => exact ⟨0, Nat.zero_le _, by first | rfl | simp, rfl, by first | rfl | simp [hMost], by repeat' (first | (with_reducible exact Below.refl _ _) | (with_reducible assumption) | (with_reducible refine Below.alloc ?_ ?_ _) | (with_reducible refine Below.drew ?_) | (with_reducible refine below_drewN ?_ _) | (with_reducible refine Below.setCell ?_ ?_ _) | (with_reducible refine Below.trans ?_ (Below.mono (by assumption) ?_)) | go_size | (exact Below.size (by assumption))), by simp, (by have : gSum ls f 0 = 0 := rfl; rw [this]; go_cell), (by have : hSum ls f 0 = 0 := rfl; rw [this]; go_cell), by go_cell, by go_cell⟩
  case round =>
    obtain ⟨k, hk, rfl, rfl, rfl, hbw, hsz, cE0, cE1, f0, f1⟩ := hrel
    have hRd := Hs.out.below hbw hB
    by_cases hlt : k < l.length
    · have ht := List.getElem?_eq_getElem hlt
      generalize l[k] = t at ht
      have htl := Hsub.out k t ht
      have hst := seg_at Hlay.out htl
      have hsum := hSum_step htl
      have gsum := gSum_step htl
      have hb0 := hSum_bds Hlay.out f (k + 1)
      have hb1 := gSum_bds Hlay.out f (k + 1)
      have hb2 := nMax_bds Hlay.out f k
      have hb3 := hMost_bds Hlay.out f k
      have HM := Lib.hid (show nMax ls f (k + 1) = if nMax ls f k < -nSum ls f (k + 1) then -nSum ls f (k + 1) else nMax ls f k from rfl)
      rw [nSum_g (k + 1) (by omega)] at HM
      have HQ := Lib.hid (show hMost ls f (k + 1) = if 10000000000 - hSum ls f (k + 1) < hMost ls f k then 10000000000 - hSum ls f (k + 1) else hMost ls f k from rfl)
      have HCh := Lib.hid (fun w' => change_any _ _ _ _ _ _ _ hst w')
      obtain ⟨bs, os, rfl, hbB, c0, c1, c2, c3, c4, c5, c6⟩ := hRd.atSegment ht
      have j0 : (0 : Int) ≤ (k : Int) := by omega
      have j1 : (k : Int) < (l.length : Int) := by omega
      unfold chHi at hsum
      unfold chLo at gsum
      obtain ⟨tk, tl, tr, trl, trh, tfl, tfh⟩ := t
      dsimp only at *
      generalize -19612 * tr - 2 * trh * tl = x1 at *
      generalize -19612 * tr - 2 * trl * tl = x2 at *
      have e3 : IntKind.i64.wrap (gSum ls f k + x1) = gSum ls f (k + 1) := by rw [gsum]; exact IntWalk.i64_in _ (by omega)
      have e4 : IntKind.i64.wrap (hSum ls f k + x2) = hSum ls f (k + 1) := by rw [hsum]; exact IntWalk.i64_in _ (by omega)
      have g3 : gSum ls f k + x1 = gSum ls f (k + 1) := gsum.symm
      have g4 : hSum ls f k + x2 = hSum ls f (k + 1) := hsum.symm
      have HSm := Lib.hid (fun w' => plus_any (gSum ls f k) (hSum ls f k) x1 x2 (by rw [e3, g3]) (by rw [e4, g4]) w')
      rw [g3, g4] at HSm
      have e5 : IntKind.i64.wrap (-gSum ls f (k + 1)) = -gSum ls f (k + 1) := IntWalk.i64_in _ (by omega)
      clear hsum gsum ht htl hst hb0 hb1 hb2 hb3 hRd e3 e4 g3 g4
      generalize gSum ls f k = el at *
      generalize hSum ls f k = eh at *
      generalize hX1 : gSum ls f (k + 1) = X1 at *
      generalize hX2 : hSum ls f (k + 1) = X2 at *
      generalize nMax ls f k = M at *
      have HQ2 := Lib.hid (show 10000000000 - hMost ls f (k + 1) = if 10000000000 - hMost ls f k < X2 then X2 else 10000000000 - hMost ls f k by rw [HQ.out]; split <;> split <;> omega)
      clear HQ
      generalize 10000000000 - hMost ls f k = Q at *
      generalize hY2 : 10000000000 - hMost ls f (k + 1) = Y2 at *
      have HX1 := Lib.hid hX1
      have HX2 := Lib.hid hX2
      have HY2 := Lib.hid hY2
      clear hX1 hX2 hY2
      have g0 : w.heap.size < wr.heap.size := by omega
      have g2 : bs < wr.heap.size := by omega
      have g2' : bs < w.heap.size := by omega
      have n1 : bs ≠ w.heap.size := by omega
      have n2 : w.heap.size ≠ bs := by omega
      go_upto_region 6 with fail
      go_cut [6, 7] (fun s1 s2 wx => s1 = .int .i64 M ∧ s2 = .int .i64 Q ∧ Below w.heap.size w wx ∧ w.heap.size + 1 ≤ wx.heap.size ∧ wx.cell? ⟨w.heap.size, 0, none⟩ = some (.int .i64 X1) ∧ wx.cell? ⟨w.heap.size, 1, none⟩ = some (.int .i64 X2) ∧ wx.frozen? ⟨w.heap.size, 0, none⟩ = false ∧ wx.frozen? ⟨w.heap.size, 1, none⟩ = false)
      case first =>
        go_region_with (first | (go_at_call 132; refine (HCh.out _).mono ?_; rintro e w3 ⟨rfl, b3⟩; replace b3 : Below wr.heap.size wr w3 := (by repeat' (first | (with_reducible exact Below.refl _ _) | (with_reducible assumption) | (with_reducible refine Below.alloc ?_ ?_ _) | (with_reducible refine Below.drew ?_) | (with_reducible refine below_drewN ?_ _) | (with_reducible refine Below.setCell ?_ ?_ _) | (with_reducible refine Below.trans ?_ (Below.mono (by assumption) ?_)) | go_size | (exact Below.size (by assumption)))); obtain ⟨hc3, hf3, hz3⟩ := bstep (Nat.le_refl _) b3; (try simp only [World.size_alloc, World.size_drew] at hc3 hf3 hz3); have hy3 : w.heap.size < w3.heap.size := (by omega)) | (go_at_call 131; refine (HSm.out _).mono ?_; rintro e w4 ⟨rfl, b4⟩; obtain ⟨hc4, hf4, hz4⟩ := bstep (Nat.le_refl _) b4; (try simp only [World.size_alloc, World.size_drew] at hc4 hf4 hz4); have hy4 : w.heap.size < w4.heap.size := (by omega)))
        all_goals (go_wp2_with fail; go_meet; refine ⟨rfl, rfl, by repeat' (first | (with_reducible exact Below.refl _ _) | (with_reducible assumption) | (with_reducible refine Below.alloc ?_ ?_ _) | (with_reducible refine Below.drew ?_) | (with_reducible refine below_drewN ?_ _) | (with_reducible refine Below.setCell ?_ ?_ _) | (with_reducible refine Below.trans ?_ (Below.mono (by assumption) ?_)) | go_size | (exact Below.size (by assumption))), by first | omega | go_size, by go_cell, by go_cell, by go_cell, by go_cell⟩)
      case rest =>
      obtain ⟨rfl, rfl, hbx, hzx, cX0, cX1, fX0, fX1⟩ := hcut
      clear cE0 cE1 f0 f1 c0 c1 c2 c3 c4 c5 c6 hbw HCh HSm
      have gx : w.heap.size < wc.heap.size := by omega
      by_cases h1 : M < -X1
      · have HM1 := Lib.hid (HM.out.trans (if_pos h1))
        by_cases h2 : Q < X2
        · have HQ1 := Lib.hid (HQ2.out.trans (if_pos h2))
          clear HM HQ2
          go_wp2_with fail
          go_roundw
          case rel => exact ⟨k + 1, by omega, by go_num, by rw [HM1.out], by rw [HY2.out, HQ1.out], by repeat' (first | (with_reducible exact Below.refl _ _) | (with_reducible assumption) | (with_reducible refine Below.alloc ?_ ?_ _) | (with_reducible refine Below.drew ?_) | (with_reducible refine below_drewN ?_ _) | (with_reducible refine Below.setCell ?_ ?_ _) | (with_reducible refine Below.trans ?_ (Below.mono (by assumption) ?_)) | go_size | (exact Below.size (by assumption))), by first | omega | go_size, by rw [HX1.out]; go_cell, by rw [HX2.out]; go_cell, by go_cell, by go_cell⟩
          case measure => simp [intOf]; omega
        · have HQ1 := Lib.hid (HQ2.out.trans (if_neg h2))
          clear HM HQ2
          go_wp2_with fail
          go_roundw
          case rel => exact ⟨k + 1, by omega, by go_num, by rw [HM1.out], by rw [HY2.out, HQ1.out], by repeat' (first | (with_reducible exact Below.refl _ _) | (with_reducible assumption) | (with_reducible refine Below.alloc ?_ ?_ _) | (with_reducible refine Below.drew ?_) | (with_reducible refine below_drewN ?_ _) | (with_reducible refine Below.setCell ?_ ?_ _) | (with_reducible refine Below.trans ?_ (Below.mono (by assumption) ?_)) | go_size | (exact Below.size (by assumption))), by first | omega | go_size, by rw [HX1.out]; go_cell, by rw [HX2.out]; go_cell, by go_cell, by go_cell⟩
          case measure => simp [intOf]; omega
      · have HM1 := Lib.hid (HM.out.trans (if_neg h1))
        by_cases h2 : Q < X2
        · have HQ1 := Lib.hid (HQ2.out.trans (if_pos h2))
          clear HM HQ2
          go_wp2_with fail
          go_roundw
          case rel => exact ⟨k + 1, by omega, by go_num, by rw [HM1.out], by rw [HY2.out, HQ1.out], by repeat' (first | (with_reducible exact Below.refl _ _) | (with_reducible assumption) | (with_reducible refine Below.alloc ?_ ?_ _) | (with_reducible refine Below.drew ?_) | (with_reducible refine below_drewN ?_ _) | (with_reducible refine Below.setCell ?_ ?_ _) | (with_reducible refine Below.trans ?_ (Below.mono (by assumption) ?_)) | go_size | (exact Below.size (by assumption))), by first | omega | go_size, by rw [HX1.out]; go_cell, by rw [HX2.out]; go_cell, by go_cell, by go_cell⟩
          case measure => simp [intOf]; omega
        · have HQ1 := Lib.hid (HQ2.out.trans (if_neg h2))
          clear HM HQ2
          go_wp2_with fail
          go_roundw
          case rel => exact ⟨k + 1, by omega, by go_num, by rw [HM1.out], by rw [HY2.out, HQ1.out], by repeat' (first | (with_reducible exact Below.refl _ _) | (with_reducible assumption) | (with_reducible refine Below.alloc ?_ ?_ _) | (with_reducible refine Below.drew ?_) | (with_reducible refine below_drewN ?_ _) | (with_reducible refine Below.setCell ?_ ?_ _) | (with_reducible refine Below.trans ?_ (Below.mono (by assumption) ?_)) | go_size | (exact Below.size (by assumption))), by first | omega | go_size, by rw [HX1.out]; go_cell, by rw [HX2.out]; go_cell, by go_cell, by go_cell⟩
          case measure => simp [intOf]; omega
    · have hk' : k = l.length := by omega
      subst hk'
      clear Hs
      have g0 : w.heap.size < wr.heap.size := by omega
      go_wp2_with fail
      go_quiet (fail)
      go_wp2
      go_ret3
      exact ⟨rfl, by repeat' (first | (with_reducible exact Below.refl _ _) | (with_reducible assumption) | (with_reducible refine Below.alloc ?_ ?_ _) | (with_reducible refine Below.drew ?_) | (with_reducible refine below_drewN ?_ _) | (with_reducible refine Below.setCell ?_ ?_ _) | (with_reducible refine Below.trans ?_ (Below.mono (by assumption) ?_)) | go_size | (exact Below.size (by assumption)))⟩
end Go.Proofs.Ytooifamckccadaa
namespace Go.Proofs.Ytooifamckccadaa
open Go.ChangeShapes Go.WideShapes Go.ChangeAt Go.RowKit
set_option maxRecDepth 20000
set_option linter.unusedVariables false
set_option linter.unusedSimpArgs false
/-- may anything enter a block of n segments and the last one, t -/
def entOk (ls : List Seg) (f n : Nat) (t : Seg) : Bool := if brkB t.1 then (if (workP t).1 < 1 then false else decide (entN ls f n t ≤ entM ls f n t)) else decide (entN ls f n t ≤ entM ls f n t)
def EntIP (ls : List Seg) (f n : Nat) (t : Seg) (w : World) (e : Ending) (w' : World) : Prop := ∃ x y : Int, e = .returned (.tuple #[.agg #[.int .i64 x, .int .i64 y], .bool (entOk ls f n t)]) ∧ (entOk ls f n t = true → x = entN ls f n t ∧ y = entM ls f n t) ∧ Below w.heap.size w w'
theorem needed_sub (ls : List Seg) (f n : Nat) (hlay : layB ls = true) (hfn : f + n ≤ ls.length) (bs os B c : Nat) (w : World) (hs : Rd w B (some ⟨bs, os, none⟩) (ls.flatMap eSegment)) (hB : B ≤ w.heap.size) :
   Calls Try.prog 185 #[.slice (some ⟨bs, os + f * 7, none⟩) n c] w fun e w' => e = .returned (.tuple #[.int .i64 (nMax ls f n), .int .i64 (10000000000 - hMost ls f n), .int .i64 (hSum ls f n)]) ∧ Below w.heap.size w w' := by
  have hl := sub_len hfn
  have h := needed_any ls ((ls.drop f).take n) f hlay (fun k t h => sub_at h) (by omega) (some ⟨bs, os + f * 7, none⟩) B c w (rd_take (rd_dropT 7 eSegment_len hs f (by omega)) n) hB
  rw [hl] at h
  exact h
theorem ret_ivb {fn : Func} {t u : Tmp} {a : Act} {w : World} {R : Ending → World → Prop} {b : Nat} {x y : Int} {o : Bool} (hres : fn.results = #[.cell t 29, .tmp u]) (ha : a.tmps.getD t undef = .pointer (some ⟨b, 0, none⟩)) (hu : a.tmps.getD u undef = .bool o) (hd : a.defers = []) (h : Bk w b #[.int .i64 x, .int .i64 y]) (hR : R (.returned (.tuple #[.agg #[.int .i64 x, .int .i64 y], .bool o])) w) : bodyPost Try.prog fn R .ret a w := by
  refine bodyPost_ret ?_ hd hR
  obtain ⟨e0, e1, ef, es⟩ := bk2 h
  simp only [Array.getD_eq_getD_getElem?] at ha hu
  simp [results, hres, ha, hu, go_sem, *]
set_option maxHeartbeats 4000000 in
theorem entry_impl (ls : List Seg) (fs : List Int) (b f n : Nat) (t : Seg) (hlay : layB ls = true) (hb : b < fs.length) (hfb : fs[b]? = some (f : Int)) (hend : endP ls fs b = ((f + n + 1 : Nat) : Int)) (hfn : f + n < ls.length) (ht : ls[f + n]? = some t) (A : Option Addr) (B c : Nat) (A' : Option Addr) (c' : Nat) (w : World) (hs : Rd w B A (ls.flatMap eSegment)) (hr : Rd w B A' (ints fs)) (hB : B ≤ w.heap.size) (hn1 : ls.length ≤ 1048576) (hn2 : fs.length ≤ 1048576) (hc : ls.length ≤ c) (hcm : c ≤ 9223372036854775807) :
   Calls Try.prog 166 #[.agg #[.slice A ls.length c], .slice A' fs.length c', .int .i64 b] w (EntIP ls f n t w) := by
  obtain ⟨_, hlen3, hlen24⟩ := lay_all hlay
  have Hs := Lib.hid ((hs.alloc hB (.cells #[.slice A ls.length c] 26)).alloc (by simp; omega) (.cells #[.int .i64 0, .int .i64 0] 29))
  have Hr := Lib.hid ((hr.alloc hB (.cells #[.slice A ls.length c] 26)).alloc (by simp; omega) (.cells #[.int .i64 0, .int .i64 0] 29))
  have hS : B ≤ ((w.alloc (.cells #[.slice A ls.length c] 26)).alloc (.cells #[.int .i64 0, .int .i64 0] 29)).heap.size := by simp; omega
  have HL := Lib.hid (fun (w' : World) (h2 : Rd w' B A' (ints fs)) (h3 : B ≤ w'.heap.size) => blockEnd_impl ls fs b hb _ hend A B c A' c' w' h2 h3 hn1 hn2)
  obtain ⟨bs, os, hA, hbB, _⟩ := hs.atSegment ht
  subst hA
  obtain ⟨bf, fo, hA', hbf, d0⟩ := Hr.out.int hfb
  subst hA'
  have HN := Lib.hid (fun (w' : World) (c0 : Nat) (h : Rd w' B (some ⟨bs, os, none⟩) (ls.flatMap eSegment)) (h3 : B ≤ w'.heap.size) => needed_sub ls f n hlay (by omega) bs os B c0 w' h h3)
  have Hlay := Lib.hid hlay
  have Ht := Lib.hid ht
  have e1 : IntKind.i64.wrap (((f + n + 1 : Nat) : Int) - 1) = ((f + n : Nat) : Int) := by rw [show ((f + n + 1 : Nat) : Int) - 1 = ((f + n : Nat) : Int) by omega]; exact IntWalk.i64_in _ (by omega)
  have i0 : (0 : Int) ≤ (b : Int) := by omega
  have i1 : (b : Int) < (fs.length : Int) := by omega
  have hM0 := hMost_bds hlay f n
  have hH0 := hSum_bds hlay f n
  have hN0 := nMax_bds hlay f n
  have hst := seg_at hlay ht
  have hwk := work_bds hst
  have HBr := Lib.hid (fun w' => isBrake_impl t.1 t.2.1 t.2.2.1 t.2.2.2.1 t.2.2.2.2.1 t.2.2.2.2.2.1 t.2.2.2.2.2.2 w')
  have HP : Hid (∀ (x y : Int) (w' : World) (o : Bool), entOk ls f n t = o → (o = true → x = entN ls f n t ∧ y = entM ls f n t) → Below w.heap.size w w' → EntIP ls f n t w (.returned (.tuple #[.agg #[.int .i64 x, .int .i64 y], .bool o])) w') := Lib.hid (fun x y w' o h1 h2 h3 => ⟨x, y, by rw [h1], fun h => h2 (by rw [← h1]; exact h), h3⟩)
  obtain ⟨W1, W2, hW⟩ : ∃ W1 W2, workP t = (W1, W2) := ⟨_, _, rfl⟩
  have HSl := Lib.hid (fun (r : Bool) (hr : (brkB t.1 && decide (1 ≤ W1)) = r) w' => slows_any t.1 t.2.1 t.2.2.1 t.2.2.2.1 t.2.2.2.2.1 t.2.2.2.2.2.1 t.2.2.2.2.2.2 W1 W2 hW hst r hr w')
  have HW := Lib.hid (fun w' => work_impl_t t.1 t.2.1 t.2.2.1 t.2.2.2.1 t.2.2.2.2.1 t.2.2.2.2.2.1 t.2.2.2.2.2.2 W1 W2 hW hst w')
  have hEN : entN ls f n t = if brkB t.1 then (if W1 < 1 then 0 else nMax ls f n) else nMax ls f n := by rw [entN, hW]
  have hEM : entM ls f n t = if brkB t.1 then (if W1 < 1 then -1 else if W1 - hSum ls f n < hMost ls f n then W1 - hSum ls f n else hMost ls f n) else hMost ls f n := by rw [entM, hW]
  have hEO : entOk ls f n t = if brkB t.1 then (if W1 < 1 then false else decide (entN ls f n t ≤ entM ls f n t)) else decide (entN ls f n t ≤ entM ls f n t) := by rw [entOk, hW]
  rw [hW] at hwk
  dsimp only at hwk
  have HEN := Lib.hid hEN
  have HEM := Lib.hid hEM
  have HEO := Lib.hid hEO
  clear hs hr hlay hend hfb ht hst hEN hEM hEO hW
  generalize hP : EntIP ls f n t w = PP at *
  clear hP
  generalize entOk ls f n t = OK at *
  generalize entN ls f n t = EN at *
  generalize entM ls f n t = EM at *
  have e20 : IntKind.i64.wrap (10000000000 - (10000000000 - hMost ls f n)) = hMost ls f n := by rw [show 10000000000 - (10000000000 - hMost ls f n) = hMost ls f n by omega]; exact IntWalk.i64_in _ (by omega)
  have e21 : wrap64 (10000000000 - (10000000000 - hMost ls f n)) = hMost ls f n := by rw [show 10000000000 - (10000000000 - hMost ls f n) = hMost ls f n by omega]; exact IntWalk.wrap64_in _ (by omega)
  generalize nMax ls f n = N at *
  generalize hSum ls f n = S at *
  have hQ : -10000000000 ≤ 10000000000 - hMost ls f n := by omega
  generalize 10000000000 - hMost ls f n = Q at *
  generalize hMost ls f n = H at *
  go_enter Try.func166, Try.ntmps166
  go_wp2_with fail
  refine (HL.out _ (by exact Hr.out) hS).mono ?_
  rintro e w2 ⟨rfl, b2⟩
  have z2 := b2.size
  simp only [World.size_alloc] at z2
  have cL : w2.cell? ⟨w.heap.size, 0, none⟩ = some (.slice (some ⟨bs, os, none⟩) ls.length c) := by
    rw [b2.cell (p := ⟨w.heap.size, 0, none⟩) (by simp only [World.size_alloc]; omega)]; simp
  have cF : w2.cell? ⟨bf, fo + b, none⟩ = some (.int .i64 (f : Int)) := by
    rw [b2.cell (p := ⟨bf, fo + b, none⟩) (by simp; omega)]; exact d0
  have hs2 := Lib.hid (Hs.out.below b2 hS)
  have R0 := Lib.hid (bk_below (bk_new (w.alloc (.cells #[.slice (some ⟨bs, os, none⟩) ls.length c] 26)) #[.int .i64 0, .int .i64 0] 29) b2 (by simp only [World.size_alloc]; omega))
  have hz9 : (w.alloc (.cells #[.slice (some ⟨bs, os, none⟩) ls.length c] 26)).heap.size = w.heap.size + 1 := by simp
  rw [hz9] at R0
  have K0 := Lib.hid (bk_below (bk_alloc (bk_new w #[.slice (some ⟨bs, os, none⟩) ls.length c] 26) (.cells #[.int .i64 0, .int .i64 0] 29)) b2 (by simp only [World.size_alloc]; omega))
  have B2 := Lib.hid (show Below w.heap.size w w2 from (((Below.refl _ _).alloc (Nat.le_refl _) _).alloc (by simp) _).trans (b2.mono (by simp only [World.size_alloc]; omega)))
  clear b2 d0 Hs Hr hS HL hz9
  have q0 : (0 : Int) ≤ (f : Int) := by omega
  have q1 : (f : Int) ≤ ((f + n : Nat) : Int) := by omega
  have q2 : ((f + n : Nat) : Int) ≤ (c : Int) := by omega
  have q3 : ¬ f = c := by omega
  have q4 : (((f + n : Nat) : Int) - (f : Int)).toNat = n := by omega
  have g1 : w.heap.size < w2.heap.size := by omega
  have g2 : bf < w2.heap.size := by omega
  have g3 : B ≤ w2.heap.size := by omega
  go_wp2_with fail
  refine wp_region_cls (S := Below w2.heap.size w2) (by kernel_rfl) (by kernel_rfl) (below_drew1 _ _) ?_
  replace cL := cls_cell cL g1
  replace cF := cls_cell cF g2
  repeat (go_big_quiet_step ((go_at_call 185; exact cls_call (Nat.le_refl _) (HN.out _ _ (cls_rd _ hs2.out (by omega)) (cls_le _ (by omega))))))
  refine wpQuiet_nil ?_
  rintro w3 ⟨⟨_, b3⟩, rfl⟩
  (try dsimp only)
  have z3 := b3.size
  have cL3 := cL ⟨w3, b3⟩
  (try dsimp only at cL3)
  have R3 := Lib.hid (bk_below R0.out b3 (by omega))
  have K3 := Lib.hid (bk_below K0.out b3 (by omega))
  have B3 := Lib.hid (B2.out.trans (b3.mono (by omega)))
  obtain ⟨bs', os', hA, hbB', c0, c1, c2, c3, c4, c5, c6⟩ := (hs2.out.below b3 (by omega)).atSegment Ht.out
  injection hA with hA
  injection hA with g5 g6
  subst g5 g6
  obtain ⟨tk, tl, tr, trl, trh, tfl, tfh⟩ := t
  dsimp only at *
  have V4 := Lib.hid (bk_alloc (bk_new w3 #[.int .i64 N, .int .i64 H] 29) (.cells #[.int .i64 tk, .int .i64 tl, .int .i64 tr, .int .i64 trl, .int .i64 trh, .int .i64 tfl, .int .i64 tfh] 39))
  have G4 := Lib.hid (bk_new (w3.alloc (.cells #[.int .i64 N, .int .i64 H] 29)) #[.int .i64 tk, .int .i64 tl, .int .i64 tr, .int .i64 trl, .int .i64 trh, .int .i64 tfl, .int .i64 tfh] 39)
  have hz4 : (w3.alloc (.cells #[.int .i64 N, .int .i64 H] 29)).heap.size = w3.heap.size + 1 := by simp
  rw [hz4] at G4
  have R4 := Lib.hid (bk_alloc (bk_alloc R3.out (.cells #[.int .i64 N, .int .i64 H] 29)) (.cells #[.int .i64 tk, .int .i64 tl, .int .i64 tr, .int .i64 trl, .int .i64 trh, .int .i64 tfl, .int .i64 tfh] 39))
  have B4 := Lib.hid ((B3.out.alloc (by omega) (.cells #[.int .i64 N, .int .i64 H] 29)).alloc (by simp only [World.size_alloc]; omega) (.cells #[.int .i64 tk, .int .i64 tl, .int .i64 tr, .int .i64 trl, .int .i64 trh, .int .i64 tfl, .int .i64 tfh] 39))
  have j0 : (0 : Int) ≤ ((f + n : Nat) : Int) := by omega
  have j1 : ((f + n : Nat) : Int) < (ls.length : Int) := by omega
  have g7 : bs < w3.heap.size := by omega
  clear b3 cL cF hs2 R0 K0 B2 Ht HN hz4
  obtain ⟨k0, kf, ks⟩ := bk1 K3.out
  go_wp2_with fail
  clear c0 c1 c2 c3 c4 c5 c6 cL3 k0 kf ks
  refine (HBr.out _).mono ?_
  rintro e w5 ⟨rfl, b5⟩
  have z5 := b5.size
  simp only [World.size_alloc] at z5
  have V5 := Lib.hid (bk_below V4.out b5 (by simp only [World.size_alloc]; omega))
  have G5 := Lib.hid (bk_below G4.out b5 (by simp only [World.size_alloc]; omega))
  have R5 := Lib.hid (bk_below R4.out b5 (by simp only [World.size_alloc]; omega))
  have B5 := Lib.hid (B4.out.trans (b5.mono (by simp only [World.size_alloc]; omega)))
  clear b5 V4 G4 R4 B4 R3 B3 K3 HBr
  have hv : w3.heap.size + 1 < w5.heap.size := by omega
  have hv0 : w.heap.size + 1 < w3.heap.size := by omega
  generalize w3.heap.size = bv at *
  clear z3 z5 g7
  have m1 : bv ≠ w.heap.size + 1 := by omega
  have m2 : w.heap.size + 1 ≠ bv := by omega
  have m3 : bv + 1 ≠ w.heap.size + 1 := by omega
  have m4 : w.heap.size + 1 ≠ bv + 1 := by omega
  cases hbk : brkB tk with
  | false =>
    rw [hbk] at HEN HEM HEO
    simp only [Bool.false_eq_true, if_false] at HEN HEM HEO
    obtain ⟨v0, v1, vf, vs⟩ := bk2 V5.out
    obtain ⟨r0, r1, rf, rs⟩ := bk2 R5.out
    clear hbk e20 e21
    go_wp2_with fail
    go_region_held3 (fun w' => w'.cell? ⟨bv, 0, none⟩ = some (.int .i64 N) ∧ w'.cell? ⟨bv, 1, none⟩ = some (.int .i64 H)) ((repeat' apply And.intro) <;> (first | assumption | (simp [*, World.cell?_alloc_past, World.cell?_setCell_far]))) (fail)
    all_goals (
      go_wp2
      (try simp only [Exit.inBlock, Exit.then])
      refine ret_ivb rfl rfl rfl rfl (bk_drew (bk_fill2 R5.out _ _)) ?_
      exact HP.out N H _ _ (by rw [HEO.out, HEN.out, HEM.out]) (fun _ => ⟨HEN.out.symm, HEM.out.symm⟩) (by have := B5.out; repeat' (first | (with_reducible exact Below.refl _ _) | (with_reducible assumption) | (with_reducible refine Below.alloc ?_ ?_ _) | (with_reducible refine Below.drew ?_) | (with_reducible refine below_drewN ?_ _) | (with_reducible refine Below.setCell ?_ ?_ _) | (with_reducible refine Below.trans ?_ (Below.mono (by assumption) ?_)) | go_size | (exact Below.size (by assumption)))))
  | true =>
    rw [hbk] at HEN HEM HEO HSl
    simp only [if_true] at HEN HEM HEO
    rw [Bool.true_and] at HSl
    obtain ⟨p0, p1, p2, p3, p4, p5, p6, pf, ps⟩ := bk7 G5.out
    by_cases hw : W1 < 1
    · have HS2 := Lib.hid (HSl.out false (decide_eq_false (by omega)))
      rw [if_pos hw] at HEO
      obtain ⟨r0, r1, rf, rs⟩ := bk2 R5.out
      clear hbk e20 e21 HEN HEM HSl
      go_wp2_with fail
      refine (HS2.out _).mono ?_
      rintro e w6 ⟨rfl, b6⟩
      have R6 := Lib.hid (bk_below R5.out b6 (by omega))
      have B6 := Lib.hid (B5.out.trans (b6.mono (by omega)))
      clear b6 r0 r1 rf rs p0 p1 p2 p3 p4 p5 p6 pf ps
      obtain ⟨r0, r1, rf, rs⟩ := bk2 R6.out
      go_wp2_with fail
      (try simp only [Exit.inBlock, Exit.then])
      refine ret_ivb rfl rfl rfl rfl (bk_fill2 R6.out _ _) ?_
      exact HP.out 0 0 _ _ HEO.out (fun h => by cases h) (by have := B6.out; repeat' (first | (with_reducible exact Below.refl _ _) | (with_reducible assumption) | (with_reducible refine Below.alloc ?_ ?_ _) | (with_reducible refine Below.drew ?_) | (with_reducible refine below_drewN ?_ _) | (with_reducible refine Below.setCell ?_ ?_ _) | (with_reducible refine Below.trans ?_ (Below.mono (by assumption) ?_)) | go_size | (exact Below.size (by assumption))))
    · have HS2 := Lib.hid (HSl.out true (decide_eq_true (by omega)))
      rw [if_neg hw] at HEO HEN HEM
      obtain ⟨D, hD⟩ : ∃ D, D = W1 - S := ⟨_, rfl⟩
      rw [← hD] at HEM
      have e30 : IntKind.i64.wrap (W1 - S) = D := by rw [hD]; exact IntWalk.i64_in _ (by omega)
      have e31 : wrap64 (W1 - S) = D := by rw [hD]; exact IntWalk.wrap64_in _ (by omega)
      clear hD
      have hF0 := field_iv0 W1 W2
      clear hbk e20 e21 HSl
      go_wp2_with fail
      refine (HS2.out _).mono ?_
      rintro e w6 ⟨rfl, b6⟩
      have z6 := b6.size
      have R6 := Lib.hid (bk_below R5.out b6 (by omega))
      have V6 := Lib.hid (bk_below V5.out b6 (by omega))
      have G6 := Lib.hid (bk_below G5.out b6 (by omega))
      have B6 := Lib.hid (B5.out.trans (b6.mono (by omega)))
      clear b6 p0 p1 p2 p3 p4 p5 p6 pf ps R5 V5 G5 B5
      obtain ⟨p0, p1, p2, p3, p4, p5, p6, pf, ps⟩ := bk7 G6.out
      obtain ⟨v0, v1, vf, vs⟩ := bk2 V6.out
      have hsz : w.heap.size + 1 < w6.heap.size := by omega
      clear z6
      by_cases hmin : D < H
      · have hmin2 : ¬ H < D := by omega
        have hmin3 : ¬ H ≤ D := by omega
        rw [if_pos hmin] at HEM
        go_wp2_with fail
        go_cut [7] (fun s wx => s = .bool false ∧ Below w.heap.size w wx ∧ Bk wx bv #[.int .i64 N, .int .i64 D] ∧ Bk wx (w.heap.size + 1) #[.int .i64 0, .int .i64 0])
        case first =>
          go_region_with (go_at_call 93; refine (HW.out _).mono ?_; rintro e w7 ⟨rfl, b7⟩; replace b7 : Below w6.heap.size w6 w7 := (by repeat' (first | (with_reducible exact Below.refl _ _) | (with_reducible assumption) | (with_reducible refine Below.alloc ?_ ?_ _) | (with_reducible refine Below.drew ?_) | (with_reducible refine below_drewN ?_ _) | (with_reducible refine Below.setCell ?_ ?_ _) | (with_reducible refine Below.trans ?_ (Below.mono (by assumption) ?_)) | go_size | (exact Below.size (by assumption)))); have R7 := Lib.hid (bk_below R6.out b7 (by omega)); have V7 := Lib.hid (bk_below V6.out b7 (by omega)); have B7 := Lib.hid (B6.out.trans (b7.mono (by omega))); have z7 := b7.size; clear b7; obtain ⟨v0, v1, vf, vs⟩ := bk2 V7.out)
          all_goals (go_wp2_with fail; go_meet; exact ⟨rfl, by have := B7.out; repeat' (first | (with_reducible exact Below.refl _ _) | (with_reducible assumption) | (with_reducible refine Below.alloc ?_ ?_ _) | (with_reducible refine Below.drew ?_) | (with_reducible refine below_drewN ?_ _) | (with_reducible refine Below.setCell ?_ ?_ _) | (with_reducible refine Below.trans ?_ (Below.mono (by assumption) ?_)) | go_size | (exact Below.size (by assumption))), by first | (refine bk_set V7.out 1 _ _ ?_; rfl) | (refine bk_drew (bk_set V7.out 1 _ _ ?_); rfl), by first | exact bk_other R7.out (by omega) _ _ | exact bk_drew (bk_other R7.out (by omega) _ _)⟩)
        case rest =>
        obtain ⟨rfl, b8, v8, r8⟩ := hcut
        have V8 := Lib.hid v8
        have R8 := Lib.hid r8
        have B8 := Lib.hid b8
        clear v8 r8 b8 v0 v1 vf vs p0 p1 p2 p3 p4 p5 p6 pf ps HW HS2 R6 V6 G6 B6 hmin
        obtain ⟨v0, v1, vf, vs⟩ := bk2 V8.out
        obtain ⟨r0, r1, rf, rs⟩ := bk2 R8.out
        go_wp2_with fail
        go_region_held3 (fun w' => w'.cell? ⟨bv, 0, none⟩ = some (.int .i64 N) ∧ w'.cell? ⟨bv, 1, none⟩ = some (.int .i64 D)) ((repeat' apply And.intro) <;> (first | assumption | (simp [*, World.cell?_alloc_past, World.cell?_setCell_far]))) (fail)
        all_goals (
          go_wp2
          (try simp only [Exit.inBlock, Exit.then])
          refine ret_ivb rfl rfl rfl rfl (bk_drew (bk_fill2 R8.out _ _)) ?_
          exact HP.out N D _ _ (by rw [HEO.out, HEN.out, HEM.out]) (fun _ => ⟨HEN.out.symm, HEM.out.symm⟩) (by have := B8.out; repeat' (first | (with_reducible exact Below.refl _ _) | (with_reducible assumption) | (with_reducible refine Below.alloc ?_ ?_ _) | (with_reducible refine Below.drew ?_) | (with_reducible refine below_drewN ?_ _) | (with_reducible refine Below.setCell ?_ ?_ _) | (with_reducible refine Below.trans ?_ (Below.mono (by assumption) ?_)) | go_size | (exact Below.size (by assumption)))))
      · have hmin2 : H ≤ D := by omega
        rw [if_neg hmin] at HEM
        go_wp2_with fail
        go_cut [7] (fun s wx => s = .bool false ∧ Below w.heap.size w wx ∧ Bk wx bv #[.int .i64 N, .int .i64 H] ∧ Bk wx (w.heap.size + 1) #[.int .i64 0, .int .i64 0])
        case first =>
          go_region_with (go_at_call 93; refine (HW.out _).mono ?_; rintro e w7 ⟨rfl, b7⟩; replace b7 : Below w6.heap.size w6 w7 := (by repeat' (first | (with_reducible exact Below.refl _ _) | (with_reducible assumption) | (with_reducible refine Below.alloc ?_ ?_ _) | (with_reducible refine Below.drew ?_) | (with_reducible refine below_drewN ?_ _) | (with_reducible refine Below.setCell ?_ ?_ _) | (with_reducible refine Below.trans ?_ (Below.mono (by assumption) ?_)) | go_size | (exact Below.size (by assumption)))); have R7 := Lib.hid (bk_below R6.out b7 (by omega)); have V7 := Lib.hid (bk_below V6.out b7 (by omega)); have B7 := Lib.hid (B6.out.trans (b7.mono (by omega))); have z7 := b7.size; clear b7; obtain ⟨v0, v1, vf, vs⟩ := bk2 V7.out)
          all_goals (go_wp2_with fail; go_meet; exact ⟨rfl, by have := B7.out; repeat' (first | (with_reducible exact Below.refl _ _) | (with_reducible assumption) | (with_reducible refine Below.alloc ?_ ?_ _) | (with_reducible refine Below.drew ?_) | (with_reducible refine below_drewN ?_ _) | (with_reducible refine Below.setCell ?_ ?_ _) | (with_reducible refine Below.trans ?_ (Below.mono (by assumption) ?_)) | go_size | (exact Below.size (by assumption))), by first | (refine bk_set V7.out 1 _ _ ?_; rfl) | (refine bk_drew (bk_set V7.out 1 _ _ ?_); rfl), by first | exact bk_other R7.out (by omega) _ _ | exact bk_drew (bk_other R7.out (by omega) _ _)⟩)
        case rest =>
        obtain ⟨rfl, b8, v8, r8⟩ := hcut
        have V8 := Lib.hid v8
        have R8 := Lib.hid r8
        have B8 := Lib.hid b8
        clear v8 r8 b8 v0 v1 vf vs p0 p1 p2 p3 p4 p5 p6 pf ps HW HS2 R6 V6 G6 B6 hmin
        obtain ⟨v0, v1, vf, vs⟩ := bk2 V8.out
        obtain ⟨r0, r1, rf, rs⟩ := bk2 R8.out
        go_wp2_with fail
        go_region_held3 (fun w' => w'.cell? ⟨bv, 0, none⟩ = some (.int .i64 N) ∧ w'.cell? ⟨bv, 1, none⟩ = some (.int .i64 H)) ((repeat' apply And.intro) <;> (first | assumption | (simp [*, World.cell?_alloc_past, World.cell?_setCell_far]))) (fail)
        all_goals (
          go_wp2
          (try simp only [Exit.inBlock, Exit.then])
          refine ret_ivb rfl rfl rfl rfl (bk_drew (bk_fill2 R8.out _ _)) ?_
          exact HP.out N H _ _ (by rw [HEO.out, HEN.out, HEM.out]) (fun _ => ⟨HEN.out.symm, HEM.out.symm⟩) (by have := B8.out; repeat' (first | (with_reducible exact Below.refl _ _) | (with_reducible assumption) | (with_reducible refine Below.alloc ?_ ?_ _) | (with_reducible refine Below.drew ?_) | (with_reducible refine below_drewN ?_ _) | (with_reducible refine Below.setCell ?_ ?_ _) | (with_reducible refine Below.trans ?_ (Below.mono (by assumption) ?_)) | go_size | (exact Below.size (by assumption)))))
end Go.Proofs.Ytooifamckccadaa
namespace Go.Proofs.Ytooifamckccadaa
open Go.ChangeShapes Go.WideShapes Go.ChangeAt Go.RowKit
set_option maxRecDepth 20000
set_option linter.unusedVariables false
set_option linter.unusedSimpArgs false
theorem may_of_ok {ls : List Seg} {fs : List Int} {b f n : Nat} {lo hi : Int} {t : Seg} (h0 : enC ls fs b lo hi = 0) (hen : enB lo hi = true) (hfb : fs[b]? = some (f : Int)) (hend : endP ls fs b = ((f + n + 1 : Nat) : Int)) (ht : ls[f + n]? = some t) :
    mayB ls fs b lo hi = (entOk ls f n t && (decide (entN ls f n t ≤ lo) && decide (hi ≤ entM ls f n t))) := by
  obtain ⟨e0, e1, e2⟩ := enB_iff.1 hen
  have h1 : mayB ls fs b lo hi = (decide (entN ls f n t ≤ lo) && decide (hi ≤ entM ls f n t)) := by
    rw [mayB, h0, Int.toNat_natCast, entP_good hfb hend ht]; rfl
  rw [h1]
  cases ho : entOk ls f n t with
  | true => rfl
  | false =>
    rw [Bool.false_and]
    rw [Bool.eq_false_iff]
    intro hh
    rw [Bool.and_eq_true, decide_eq_true_eq, decide_eq_true_eq] at hh
    unfold entOk at ho
    split at ho
    · rename_i hk
      split at ho
      · rename_i hw
        have : entM ls f n t = -1 := by rw [entM, if_pos hk, if_pos hw]
        omega
      · have := of_decide_eq_false ho
        omega
    · have := of_decide_eq_false ho
      omega
set_option maxHeartbeats 4000000 in
theorem mayEnterM_impl (ls : List Seg) (fs : List Int) (b : Nat) (lo hi : Int) (h0 : enC ls fs b lo hi = 0) (A : Option Addr) (B c : Nat) (A' : Option Addr) (c' : Nat) (w : World) (hs : Rd w B A (ls.flatMap eSegment)) (hr : Rd w B A' (ints fs)) (hB : B ≤ w.heap.size) (hn1 : ls.length ≤ 1048576) (hn2 : fs.length ≤ 1048576) (hc : ls.length ≤ c) (hcm : c ≤ 9223372036854775807) :
   Calls Try.prog 130 #[.agg #[.slice A ls.length c], .slice A' fs.length c', .int .i64 b, .agg #[.int .i64 lo, .int .i64 hi]] w fun e w' => e = .returned (.bool (mayB ls fs b lo hi)) ∧ Below w.heap.size w w' := by
  obtain ⟨hlay, hblk, hen, b', hbb, hb'⟩ := enC_zero h0
  have hbe : b = b' := by omega
  subst hbe
  clear hbb
  obtain ⟨f, n, hfb, hend, hfn⟩ := blk_nat hblk hb'
  have ht := List.getElem?_eq_getElem hfn
  generalize ls[f + n] = t at ht
  have hS : B ≤ ((w.alloc (.cells #[.slice A ls.length c] 26)).alloc (.cells #[.int .i64 lo, .int .i64 hi] 29)).heap.size := by simp; omega
  have HE := Lib.hid (entry_impl ls fs b f n t hlay hb' hfb hend hfn ht A B c A' c' ((w.alloc (.cells #[.slice A ls.length c] 26)).alloc (.cells #[.int .i64 lo, .int .i64 hi] 29)) ((hs.alloc hB (.cells #[.slice A ls.length c] 26)).alloc (by simp; omega) (.cells #[.int .i64 lo, .int .i64 hi] 29)) ((hr.alloc hB (.cells #[.slice A ls.length c] 26)).alloc (by simp; omega) (.cells #[.int .i64 lo, .int .i64 hi] 29)) hS hn1 hn2 hc hcm)
  rw [may_of_ok h0 hen hfb hend ht]
  unfold EntIP at HE
  clear hs hr hlay hblk hen hfb hend hfn ht h0
  generalize entN ls f n t = EN at *
  generalize entM ls f n t = EM at *
  generalize entOk ls f n t = OK at *
  go_enter Try.func130, Try.ntmps130
  go_wp2_with fail
  refine HE.out.mono ?_
  rintro e w2 ⟨x, y, rfl, hxy, b2⟩
  have Hxy := Lib.hid hxy
  clear hxy HE
  have z2 := b2.size
  simp only [World.size_alloc] at z2
  have I2 := Lib.hid (bk_alloc (bk_below (bk_new (w.alloc (.cells #[.slice A ls.length c] 26)) #[.int .i64 lo, .int .i64 hi] 29) b2 (by simp only [World.size_alloc]; omega)) (.cells #[.int .i64 x, .int .i64 y] 29))
  have hz9 : (w.alloc (.cells #[.slice A ls.length c] 26)).heap.size = w.heap.size + 1 := by simp
  rw [hz9] at I2
  have V2 := Lib.hid (bk_new w2 #[.int .i64 x, .int .i64 y] 29)
  have B2 := Lib.hid ((show Below w.heap.size w w2 from (((Below.refl _ _).alloc (Nat.le_refl _) _).alloc (by simp) _).trans (b2.mono (by simp only [World.size_alloc]; omega))).alloc (by omega) (.cells #[.int .i64 x, .int .i64 y] 29))
  clear b2 hz9
  obtain ⟨i0, i1, jf, js⟩ := bk2 I2.out
  obtain ⟨v0, v1, vf, vs⟩ := bk2 V2.out
  cases OK with
  | false =>
    go_wp2_with fail
    go_ret
    exact ⟨rfl, B2.out⟩
  | true =>
    obtain ⟨rfl, rfl⟩ := Hxy.out rfl
    clear Hxy
    go_wp2_with (go_at_call 167; refine (inside_any _ _ _ _ _).mono ?_; rintro e w3 ⟨rfl, b3⟩; have B3 := Lib.hid (B2.out.trans (b3.mono (by simp only [World.size_alloc]; omega))))
    go_ret
    exact ⟨by first | rfl | simp, B3.out⟩
set_option maxHeartbeats 4000000 in
theorem mayEnter_impl (ls : List Seg) (fs : List Int) (b lo hi : Int) (A : Option Addr) (B c : Nat) (A' : Option Addr) (c' : Nat) (w : World) (hs : Rd w B A (ls.flatMap eSegment)) (hr : Rd w B A' (ints fs)) (hB : B ≤ w.heap.size) (hn : ls.length ≤ 1048576) (hn2 : fs.length ≤ 1048576) (hc : ls.length ≤ c) (hcm : c ≤ 9223372036854775807) (hc2 : fs.length ≤ c') (hcm2 : c' ≤ 9223372036854775807) :
   Calls Try.prog 70 #[.agg #[.slice A ls.length c], .slice A' fs.length c', .int .i64 b, .agg #[.int .i64 lo, .int .i64 hi]] w fun e w' => e = .returned (.tuple #[.bool (mayB ls fs b lo hi), .int .i64 (enC ls fs b lo hi)]) ∧ Below w.heap.size w w' := by
  have Hs := Lib.hid ((hs.alloc hB (.cells #[.slice A ls.length c] 26)).alloc (by simp; omega) (.cells #[.int .i64 lo, .int .i64 hi] 29))
  have Hr := Lib.hid ((hr.alloc hB (.cells #[.slice A ls.length c] 26)).alloc (by simp; omega) (.cells #[.int .i64 lo, .int .i64 hi] 29))
  have hS : B ≤ ((w.alloc (.cells #[.slice A ls.length c] 26)).alloc (.cells #[.int .i64 lo, .int .i64 hi] 29)).heap.size := by simp; omega
  have HE := Lib.hid (fun (w' : World) (h : Rd w' B A (ls.flatMap eSegment)) (h2 : Rd w' B A' (ints fs)) (h3 : B ≤ w'.heap.size) => entryCode_any ls fs b lo hi A B c A' c' w' h h2 h3 hn hn2 hc2 hcm2)
  clear hs hr
  by_cases h0 : enC ls fs b lo hi = 0
  · obtain ⟨hlay, hblk, hen, b', rfl, hb'⟩ := enC_zero h0
    have HM := Lib.hid (fun (w' : World) (h : Rd w' B A (ls.flatMap eSegment)) (h2 : Rd w' B A' (ints fs)) (h3 : B ≤ w'.heap.size) => mayEnterM_impl ls fs b' lo hi h0 A B c A' c' w' h h2 h3 hn hn2 hc hcm)
    rw [h0] at HE ⊢
    clear h0 hlay hblk hen
    generalize mayB ls fs b' lo hi = R at *
    go_enter Try.func70, Try.ntmps70
    go_wp2_with (first | (go_at_call 76; refine (HE.out _ (by exact Hs.out) (by exact Hr.out) hS).mono ?_; rintro e w1 ⟨rfl, hb⟩; obtain ⟨hc1, hf1, hz1⟩ := bstep (N := w.heap.size + 2) (by go_size) hb; have y1 : w.heap.size < w1.heap.size := (by omega); have x1 : w.heap.size + 1 < w1.heap.size := (by omega); have Hs1 := Lib.hid (Hs.out.below hb hS); have Hr1 := Lib.hid (Hr.out.below hb hS)) | (go_at_call 130; refine (HM.out _ (by exact Hs1.out) (by exact Hr1.out) (by omega)).mono ?_; rintro e w2 ⟨rfl, hb2⟩))
    go_ret2
    exact ⟨rfl, by repeat' (first | (with_reducible exact Below.refl _ _) | (with_reducible assumption) | (with_reducible refine Below.alloc ?_ ?_ _) | (with_reducible refine Below.drew ?_) | (with_reducible refine below_drewN ?_ _) | (with_reducible refine Below.setCell ?_ ?_ _) | (with_reducible refine Below.trans ?_ (Below.mono (by assumption) ?_)) | go_size | (exact Below.size (by assumption)))⟩
  · have hm : mayB ls fs b lo hi = false := by rw [mayB, decide_eq_false h0]; rfl
    rw [hm]
    generalize enC ls fs b lo hi = C at *
    have hc9 : (C != 0) = true := by simpa using h0
    clear hm
    go_enter Try.func70, Try.ntmps70
    go_wp2_with (first | (go_at_call 76; refine (HE.out _ (by exact Hs.out) (by exact Hr.out) hS).mono ?_; rintro e w1 ⟨rfl, hb⟩; obtain ⟨hc1, hf1, hz1⟩ := bstep (N := w.heap.size + 2) (by go_size) hb; have y1 : w.heap.size < w1.heap.size := (by omega); have x1 : w.heap.size + 1 < w1.heap.size := (by omega)))
    go_ret2
    exact ⟨rfl, by repeat' (first | (with_reducible exact Below.refl _ _) | (with_reducible assumption) | (with_reducible refine Below.alloc ?_ ?_ _) | (with_reducible refine Below.drew ?_) | (with_reducible refine below_drewN ?_ _) | (with_reducible refine Below.setCell ?_ ?_ _) | (with_reducible refine Below.trans ?_ (Below.mono (by assumption) ?_)) | go_size | (exact Below.size (by assumption)))⟩
end Go.Proofs.Ytooifamckccadaa
