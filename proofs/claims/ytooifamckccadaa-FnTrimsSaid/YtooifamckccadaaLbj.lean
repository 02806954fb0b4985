/- The least brakes, the program side: brakes, choices, walk. -/
import Derived.Test.YtooifamckccadaaLbm
import Derived.Test.YtooifamckccadaaSrt
import Derived.Test.YtooifamckccadaaDl
import Derived.Test.YtooifamckccadaaLbk
import Derived.Test.YtooifamckccadaaDm
import Derived.Test.YtooifamckccadaaStep
import Derived.Test.YtooifamckccadaaLb0
import Derived.Laws.EntriesVeiled
import Derived.WalkSpells
import Derived.Deep.RegionHeld3
import Derived.Test.YtooifamckccadaaQt
namespace Go.Proofs.Ytooifamckccadaa
open Go.ChangeShapes Go.WideShapes Go.ChangeAt Go.RowKit
set_option linter.unusedVariables false
set_option linter.unusedSimpArgs false
/-- the brakes among the first i segments of the run from f -/
def rotK (ls : List Seg) (f : Nat) : Nat → List Int
  | 0 => []
  | i + 1 => rotK ls f i ++ (match ls[(f + i) % ls.length]? with | some t => if t.1 == 3 then [(((f + i) % ls.length : Nat) : Int)] else [] | none => [])
theorem rotK_step {ls : List Seg} {f i : Nat} {t : Seg} (h : ls[(f + i) % ls.length]? = some t) : rotK ls f (i + 1) = rotK ls f i ++ (if t.1 == 3 then [(((f + i) % ls.length : Nat) : Int)] else []) := by simp [rotK, h]
theorem rotK_len (ls : List Seg) (f i : Nat) : (rotK ls f i).length ≤ i := by
  induction i with
  | zero => simp [rotK]
  | succ k ih =>
    simp only [rotK, List.length_append]
    split
    · split <;> simp <;> omega
    · simp; omega
theorem mem_rotK {ls : List Seg} {f : Nat} {x : Int} : ∀ i, x ∈ rotK ls f i ↔ ∃ j t, j < i ∧ x = (((f + j) % ls.length : Nat) : Int) ∧ ls[(f + j) % ls.length]? = some t ∧ t.1 = 3
  | 0 => by simp [rotK]
  | i + 1 => by
    simp only [rotK, List.mem_append, mem_rotK i]
    constructor
    · rintro (⟨j, t, h1, h2⟩ | h)
      · exact ⟨j, t, by omega, h2⟩
      · split at h
        · rename_i t ht
          split at h
          · rename_i h3
            exact ⟨i, t, by omega, by simpa using h, ht, by simpa using h3⟩
          · simp at h
        · simp at h
    · rintro ⟨j, t, h1, h2, h3, h4⟩
      rcases Nat.lt_succ_iff_lt_or_eq.1 h1 with h | rfl
      · exact .inl ⟨j, t, h, h2, h3, h4⟩
      · right
        rw [h3]
        simp [h4, h2]
theorem mem_brkK {ls : List Seg} {f cnt : Nat} {x : Int} : ∀ k, x ∈ brkK ls f cnt k ↔ ∃ j t, j < k ∧ x = (j : Int) ∧ ls[j]? = some t ∧ t.1 = 3 ∧ ((j : Int) - (f : Int)) % (ls.length : Int) < (cnt : Int)
  | 0 => by simp [brkK]
  | k + 1 => by
    simp only [brkK, List.mem_append, mem_brkK k]
    constructor
    · rintro (⟨j, t, h1, h2⟩ | h)
      · exact ⟨j, t, by omega, h2⟩
      · split at h
        · rename_i t ht
          split at h
          · rename_i h3
            simp only [brkT, Bool.and_eq_true, beq_iff_eq, decide_eq_true_eq] at h3
            exact ⟨k, t, by omega, by simpa using h, ht, h3.1, h3.2⟩
          · simp at h
        · simp at h
    · rintro ⟨j, t, h1, h2, h3, h4, h5⟩
      rcases Nat.lt_succ_iff_lt_or_eq.1 h1 with h | rfl
      · exact .inl ⟨j, t, h, h2, h3, h4, h5⟩
      · right
        rw [h3]
        have : brkT ls.length f cnt j t = true := by simp only [brkT, Bool.and_eq_true, beq_iff_eq, decide_eq_true_eq]; exact ⟨h4, h5⟩
        simp [this, h2]
theorem rot_place {f i n : Nat} (hf : f < n) (hi : i < n) : ((((f + i) % n : Nat) : Int) - (f : Int)) % (n : Int) = (i : Int) := by
  rcases Nat.lt_or_ge (f + i) n with h | h
  · rw [Nat.mod_eq_of_lt h, show (((f + i : Nat) : Int) - (f : Int)) = (i : Int) by omega]
    exact Int.emod_eq_of_lt (by omega) (by omega)
  · have e : (f + i) % n = f + i - n := by
      rw [Nat.mod_eq_sub_mod h]; exact Nat.mod_eq_of_lt (by omega)
    rw [e, show (((f + i - n : Nat) : Int) - (f : Int)) = (i : Int) - (n : Int) by omega, Int.sub_emod_right]
    exact Int.emod_eq_of_lt (by omega) (by omega)
theorem place_rot {f j n : Nat} (hf : f < n) (hj : j < n) : ∃ i : Nat, (i : Int) = ((j : Int) - (f : Int)) % (n : Int) ∧ i < n ∧ (f + i) % n = j := by
  rcases Nat.lt_or_ge j f with h | h
  · refine ⟨j + n - f, ?_, by omega, ?_⟩
    · rw [← Int.add_emod_right, Int.emod_eq_of_lt (by omega) (by omega)]; omega
    · rw [show f + (j + n - f) = j + n by omega, Nat.add_mod_right]; exact Nat.mod_eq_of_lt hj
  · refine ⟨j - f, ?_, by omega, ?_⟩
    · rw [Int.emod_eq_of_lt (by omega) (by omega)]; omega
    · rw [show f + (j - f) = j by omega]; exact Nat.mod_eq_of_lt hj
theorem rotK_nodup {ls : List Seg} {f : Nat} (hf : f < ls.length) : ∀ i, i ≤ ls.length → (rotK ls f i).Nodup
  | 0, _ => by simp [rotK]
  | i + 1, hi => by
    have ih := rotK_nodup (ls := ls) hf i (by omega)
    simp only [rotK]
    rw [List.nodup_append]
    refine ⟨ih, ?_, ?_⟩
    · split
      · split <;> simp
      · simp
    · intro a ha b hb hab
      subst hab
      obtain ⟨j, t, h1, h2, _⟩ := (mem_rotK i).1 ha
      have hb2 : a = (((f + i) % ls.length : Nat) : Int) := by
        split at hb
        · split at hb
          · simpa using hb
          · simp at hb
        · simp at hb
      have e1 := rot_place hf (show j < ls.length by omega)
      have e2 := rot_place hf (show i < ls.length by omega)
      rw [← h2] at e1
      rw [← hb2] at e2
      omega
theorem rot_perm {ls : List Seg} {f cnt : Nat} (hf : f < ls.length) (hc : cnt ≤ ls.length) : (rotK ls f cnt).Perm (brkK ls f cnt ls.length) := by
  rw [List.perm_ext_iff_of_nodup (rotK_nodup hf cnt hc) ((brk_sorted ls f cnt ls.length).1.imp (fun h => by omega))]
  intro x
  rw [mem_rotK, mem_brkK]
  constructor
  · rintro ⟨j, t, h1, h2, h3, h4⟩
    refine ⟨(f + j) % ls.length, t, Nat.mod_lt _ (by omega), h2, h3, h4, ?_⟩
    rw [rot_place hf (by omega)]
    omega
  · rintro ⟨j, t, h1, h2, h3, h4, h5⟩
    obtain ⟨i, e1, e2, e3⟩ := place_rot hf h1
    rw [← e1] at h5
    exact ⟨i, t, by omega, by rw [e3]; exact h2, by rw [e3]; exact h3, h4⟩
theorem sorted_same {ys zs bs : List Int} (h1 : ys.Perm zs) (h2 : zs.Perm bs) (h3 : ys.Pairwise (· ≤ ·)) (h4 : bs.Pairwise (· < ·)) : ys = bs :=
  (h1.trans h2).eq_of_pairwise (fun a b _ _ x y => by omega) h3 (h4.imp (fun h => by omega))
end Go.Proofs.Ytooifamckccadaa
namespace Go.Proofs.Ytooifamckccadaa
open Go.ChangeShapes Go.WideShapes Go.ChangeAt Go.RowKit
set_option maxRecDepth 20000
set_option linter.unusedVariables false
set_option linter.unusedSimpArgs false
def BrP (ls : List Seg) (f cnt : Nat) (w : World) (e : Ending) (w' : World) : Prop := ∃ (ys : List Int) (A2 : Option Addr) (c2 : Nat), e = .returned (.slice A2 ys.length c2) ∧ w'.ownsRow w.heap.size 2 1 (.slice A2 ys.length c2) ys.length (ints ys) ∧ Below w.heap.size w w' ∧ ys.length = (brkK ls f cnt ls.length).length ∧ (ys.length ≤ 8 → ys = brkK ls f cnt ls.length)
theorem tmod_nat' (a b : Nat) : (a : Int).tmod (b : Int) = ((a % b : Nat) : Int) := by
  rw [Int.tmod_eq_emod_of_nonneg (by omega)]; rfl
set_option maxHeartbeats 1000000 in
theorem brakesIn_any (ls : List Seg) (f cnt : Nat) (hl : ls.length ≤ 24) (hf : f < ls.length) (hc : cnt ≤ ls.length) (A : Option Addr) (B c : Nat) (w : World) (hs : Rd w B A (ls.flatMap eSegment)) (hB : B ≤ w.heap.size) :
   Calls Try.prog 110 #[.agg #[.slice A ls.length c], .int .i64 f, .int .i64 cnt] w (BrP ls f cnt w) := by
  obtain ⟨i0, hi0, hz0, hz1, hz2⟩ := info_parts infoInt64
  have Hs := Lib.hid hs
  have L0 := Lib.hid (bk_new w #[.slice A ls.length c] 26)
  have hln : ls.length ≤ 1048576 := by omega
  clear hs
  go_enter Try.func110, Try.ntmps110
  go_wp2_with fail
  go_loopw [7, 11] (fun v i wr => ∃ k : Nat, k ≤ cnt ∧ i = .int .i64 k ∧ wr.ownsRow (w.heap.size + 1) 2 1 v (rotK ls f k).length (ints (rotK ls f k)) ∧ Bk wr w.heap.size #[.slice A ls.length c] ∧ Below w.heap.size w wr) (fun _ i _ => cnt - (intOf i).toNat)
  case atStart => exact ⟨0, Nat.zero_le _, rfl, World.ownsRow_nil _ _ _ _, L0.out, by repeat' (first | (with_reducible exact Below.refl _ _) | (with_reducible assumption) | (with_reducible refine Below.alloc ?_ ?_ _) | (with_reducible refine Below.drew ?_) | (with_reducible refine below_drewN ?_ _) | (with_reducible refine Below.setCell ?_ ?_ _) | (with_reducible refine Below.trans ?_ (Below.mono (by assumption) ?_)) | go_size | (exact Below.size (by assumption)))⟩
  case round =>
    clear L0
    obtain ⟨k, hk, rfl, hown, hbk, hbw⟩ := hrel
    have hsz := hbw.size
    have hlr := rotK_len ls f k
    have Ho := Lib.hid hown
    have Hk := Lib.hid hbk
    have Hb := Lib.hid hbw
    obtain ⟨s0, sf, ss⟩ := bk1 hbk
    by_cases hlt : k < cnt
    · have hm := Nat.mod_lt (f + k) (show 0 < ls.length by omega)
      have ht := List.getElem?_eq_getElem hm
      generalize ls[(f + k) % ls.length] = t at ht
      have hst := rotK_step ht
      have etm := tmod_nat' (f + k) ls.length
      obtain ⟨b, o, rfl, hbB, c0, c1, c2, c3, c4, c5, c6⟩ := (Hs.out.below hbw hB).atSegment ht
      generalize hq : (f + k) % ls.length = q at *
      have hl2 : (rotK ls f k).length ≤ 1048576 := by omega
      have hlt2 : (k : Int) < (cnt : Int) := by omega
      have j0 : (0 : Int) ≤ (q : Int) := by omega
      have j1 : (q : Int) < (ls.length : Int) := by omega
      have j2 : (0 : Int) < (ls.length : Int) := by omega
      have e1 : ((f : Int) + (k : Int)) % (ls.length : Int) = (q : Int) := by rw [← hq]; rfl
      have e2 : ((f : Int) + (k : Int)).tmod (ls.length : Int) = (q : Int) := by rw [← etm, Int.natCast_add]
      clear c1 c2 c3 c4 c5 c6 ht hown hbk hbw hlr etm hq hm
      obtain ⟨tk, tq⟩ := t
      dsimp only at *
      by_cases h3 : tk = 3
      · have hk3 : (tk == 3) = true := by simpa using h3
        rw [hk3, if_pos rfl] at hst
        have Hst := Lib.hid hst
        clear hst h3
        generalize rotK ls f k = Z at *
        go_wp2_with (first | (go_at_call 108; refine (length_seg _ _ _ hln _).mono ?_; rintro e w' ⟨rfl, rfl⟩) | (at_builtin; refine wpList_append_int rfl (.tmp 28) (.tmp 30) 27 rfl (w.heap.size + 1) 2 i0 Try.underlying27 hi0 hz0 hz1 hz2 _ _ Z (by rfl) Ho.out (q : Int) (by rfl) hl2 (by omega) ?_; intro v5 w5 own5 hb5 hz5; have O5 := Lib.hid own5; have K5 := Lib.hid (bk_below Hk.out hb5 (by omega)); have B5 := Lib.hid (Hb.out.trans (hb5.mono (by omega))); clear own5 hb5))
        go_roundw
        case rel => exact ⟨k + 1, by omega, by go_num, by rw [Hst.out]; simpa using O5.out, K5.out, B5.out⟩
        case measure => simp [intOf]; omega
      · have hk3 : (tk == 3) = false := by simpa using h3
        rw [hk3, if_neg (by simp), List.append_nil] at hst
        have Hst := Lib.hid hst
        clear hst h3
        generalize rotK ls f k = Z at *
        go_wp2_with (go_at_call 108; refine (length_seg _ _ _ hln _).mono ?_; rintro e w' ⟨rfl, rfl⟩)
        go_roundw
        case rel => exact ⟨k + 1, by omega, by go_num, by rw [Hst.out]; exact Ho.out, Hk.out, Hb.out⟩
        case measure => simp [intOf]; omega
    · have hk' : k = cnt := by omega
      subst hk'
      have hlt2 : ¬ (k : Int) < (k : Int) := by omega
      obtain ⟨A2, c2, rfl⟩ := own_val hown
      have hperm := rot_perm hf hc
      have hpl : (rotK ls f k).length ≤ (brkK ls f k ls.length).length ∧ (brkK ls f k ls.length).length ≤ (rotK ls f k).length := by have := hperm.length_eq; omega
      have HS := Lib.hid (sort_24 (rotK ls f k) wr rfl Ho.out (by omega))
      have Hperm := Lib.hid hperm
      have hbase := Lib.hid (fun q hq => (own_lt Ho.out q hq).1)
      have Hsrt := Lib.hid (brk_sorted ls f k ls.length).1
      clear hown hbk hbw hperm hlr
      generalize rotK ls f k = Z at *
      go_wp2_with fail
      refine HS.out.mono ?_
      rintro e w5 ⟨ys, rfl, ⟨hy1, hy2⟩, o5, g5⟩
      have B5 := Lib.hid (Hb.out.trans (below_of_grownBy (B := w.heap.size) g5 hsz (fun q hq => by have := hbase.out q hq; omega)))
      have O5 := Lib.hid o5
      have Hy2 := Lib.hid hy2
      clear o5 g5 hy2
      go_wp2
      go_ret
      refine ⟨ys, A2, c2, by rw [hy1]; rfl, by rw [hy1]; exact own_more O5.out (by omega), B5.out, by omega, fun h8 => ?_⟩
      obtain ⟨p1, p2⟩ := Hy2.out (by omega)
      exact sorted_same p1 Hperm.out p2 Hsrt.out
end Go.Proofs.Ytooifamckccadaa
namespace Go.Proofs.Ytooifamckccadaa
open Go.ChangeShapes Go.WideShapes Go.ChangeAt Go.RowKit
set_option maxRecDepth 20000
set_option linter.unusedVariables false
set_option linter.unusedSimpArgs false
theorem bk_row {w w' : World} {g b : Nat} {cs : Array Value} (h : Bk w b cs) (hg : w.grownBy w' (some g)) (hne : b ≠ g) : Bk w' b cs := by
  obtain ⟨t, ht⟩ := h
  have hlt : b < w.heap.size := by
    rcases Nat.lt_or_ge b w.heap.size with h1 | h1
    · exact h1
    · rw [Array.getElem?_eq_none h1] at ht; cases ht
  exact ⟨t, (hg.block b hlt (by simp; exact hne)).trans ht⟩
/-- the variables that the closure has caught: blocks of the layout, of the run, of the energy, of the best choice, of the limit -/
structure Caught (ls : List Seg) (f n : Nat) (lo hi limit : Int) (A : Option Addr) (c bL bF bC bE bB bM : Nat) (w : World) : Prop where
  lay : Bk w bL #[.slice A ls.length c]
  from' : Bk w bF #[.int .i64 f]
  cnt : Bk w bC #[.int .i64 n]
  en : Bk w bE #[.int .i64 lo, .int .i64 hi]
  lim : Bk w bM #[.int .i64 limit]
  best : ∃ A' n' c', Bk w bB #[.slice A' n' c']
  nL : bL ≠ bB
  nF : bF ≠ bB
  nC : bC ≠ bB
  nE : bE ≠ bB
  nM : bM ≠ bB
theorem Caught.grown {ls : List Seg} {f n : Nat} {lo hi limit : Int} {A : Option Addr} {c bL bF bC bE bB bM : Nat} {w w' : World} (h : Caught ls f n lo hi limit A c bL bF bC bE bB bM w) (hg : w.grownBy w' (some bB)) (hb : ∃ A' n' c', Bk w' bB #[.slice A' n' c']) : Caught ls f n lo hi limit A c bL bF bC bE bB bM w' :=
  ⟨bk_row h.lay hg h.nL, bk_row h.from' hg h.nF, bk_row h.cnt hg h.nC, bk_row h.en hg h.nE, bk_row h.lim hg h.nM, hb, h.nL, h.nF, h.nC, h.nE, h.nM⟩
theorem Caught.below {ls : List Seg} {f n : Nat} {lo hi limit : Int} {A : Option Addr} {c bL bF bC bE bB bM : Nat} {w w' : World} (h : Caught ls f n lo hi limit A c bL bF bC bE bB bM w) (hb : Below w.heap.size w w') : Caught ls f n lo hi limit A c bL bF bC bE bB bM w' := by
  obtain ⟨A', n', c', h1⟩ := h.best
  exact ⟨bk_below h.lay hb (bk_lt h.lay), bk_below h.from' hb (bk_lt h.from'), bk_below h.cnt hb (bk_lt h.cnt), bk_below h.en hb (bk_lt h.en), bk_below h.lim hb (bk_lt h.lim), ⟨A', n', c', bk_below h1 hb (bk_lt h1)⟩, h.nL, h.nF, h.nC, h.nE, h.nM⟩
set_option maxHeartbeats 4000000 in
theorem keeps_any (ls : List Seg) (on : List Int) (n f : Nat) (lo hi limit : Int) (hlay : layB ls = true) (he : enB lo hi = true) (hn : n ≤ 24) (hf : f < ls.length) (A A' : Option Addr) (B c c' bL bF bC bE bB bM : Nat) (w : World) (hs : Rd w B A (ls.flatMap eSegment)) (hr : Rd w B A' (ints on)) (hB : B ≤ w.heap.size) (hn2 : on.length ≤ 1048576) (hc : Caught ls f n lo hi limit A c bL bF bC bE bB bM w) :
   Calls Try.prog 111 #[.slice A' on.length c', .pointer (some ⟨bL, 0, none⟩), .pointer (some ⟨bF, 0, none⟩), .pointer (some ⟨bC, 0, none⟩), .pointer (some ⟨bE, 0, none⟩), .pointer (some ⟨bB, 0, none⟩), .pointer (some ⟨bM, 0, none⟩)] w fun e w' => e = .returned (.bool (kpB ls f n lo hi limit on)) ∧ Bk w' bB #[.slice A' on.length c'] ∧ w.grownBy w' (some bB) := by
  have Hc := Lib.hid hc
  have HA := Lib.hid (fun (w' : World) (h : Rd w' B A (ls.flatMap eSegment)) (h2 : Rd w' B A' (ints on)) (h3 : B ≤ w'.heap.size) => activeAlong_any ls on n f lo hi hlay he hn hf A A' B c c' w' h h2 h3 hn2)
  have Hs := Lib.hid hs
  have Hr := Lib.hid hr
  have hln : (runP ls on n f (lo, hi)).1.length ≤ 24 := by have := runP_len ls on n f (lo, hi); omega
  generalize hV : kpB ls f n lo hi limit on = V
  unfold kpB at hV
  generalize runP ls on n f (lo, hi) = R2 at *
  obtain ⟨R, C⟩ := R2
  dsimp only at *
  have HV := Lib.hid hV
  obtain ⟨a0, af, az⟩ := bk1 hc.lay
  obtain ⟨d0, df, ds⟩ := bk1 hc.from'
  obtain ⟨g0, gf, gs⟩ := bk1 hc.cnt
  obtain ⟨e0, e1, ef, es⟩ := bk2 hc.en
  clear hs hr hV hlay he hc
  go_enter Try.func111, Try.ntmps111
  go_wp2_with fail
  refine (HA.out _ Hs.out Hr.out hB).mono ?_
  rintro e wc ⟨A5, c5, rfl, o5, b5⟩
  have z5 := b5.size
  have Hc5 := Lib.hid (Hc.out.below b5)
  have O5 := Lib.hid o5
  have B5 := Lib.hid b5
  clear a0 af az d0 df ds g0 gf gs e0 e1 ef es b5 o5 HA Hs Hr
  obtain ⟨e0, e1, ef, es⟩ := bk2 Hc5.out.en
  obtain ⟨m0', mf, ms⟩ := bk1 Hc5.out.lim
  obtain ⟨A8, n8, c8, hb8⟩ := Hc5.out.best
  obtain ⟨k0, kf, ks⟩ := bk1 hb8
  have hbl := Lib.hid hb8
  clear hb8
  have hla := lastI_at (lo, hi) R
  generalize lastI (lo, hi) R = last at *
  have Hla := Lib.hid hla
  clear hla
  obtain ⟨i0', hi0, hz0, hz1, hz2⟩ := info_parts infoIv
  have hR5 := Lib.hid ((Rd.of_own O5.out).alloc (Nat.le_refl _) (.cells #[.int .i64 lo, .int .i64 hi] 29))
  have hO6 := Lib.hid (iv_lit wc lo hi wc.heap.size (Nat.le_refl _))
  have rl0 : (0 : Int) ≤ (R.length : Int) := by omega
  have rl1 : (R.length : Int) < ((1 + R.length : Nat) : Int) := by omega
  have hbne : bE ≠ bB := Hc5.out.nE
  have hbm : bM ≠ bB := Hc5.out.nM
  have hbm2 : bB ≠ bM := fun h => hbm h.symm
  by_cases hC : C = 0
  · have hk1 : (C == 0) = true := by simpa using hC
    have hVl : V = decide (last.2 ≤ limit) := by rw [← HV.out, hk1]; rfl
    have HVl := Lib.hid hVl
    clear hVl HV hC
    go_wp2_with (at_builtin; refine wpList_append_rd rfl (.tmp 22) (.tmp 23) 64 rfl wc.heap.size 29 i0' _ 2 16 Try.underlying64 hi0 hz0 hz1 hz2 rfl (by decide) _ 1 _ (by rfl) hO6.out _ A5 R.length c5 (R.flatMap eInterval) (by rfl) (flat_len eInterval 2 eInterval_len R) hR5.out (flat_one eInterval eInterval_one R) (by unfold maxLen; omega) (by omega) (by simp) ?_; intro v6 w6 own6 hb6 hz6; obtain ⟨A6, c6, rfl⟩ := own_val own6; have own7 : w6.ownsRow wc.heap.size 29 2 (.slice A6 (1 + R.length) c6) (1 + R.length) (((lo, hi) :: R).flatMap eInterval) := own6; obtain ⟨bb6, oo6, rfl, hb66, m0, m1⟩ := Rd.atInterval (l := (lo, hi) :: R) (k := R.length) (Rd.of_own own7) Hla.out; clear own7; replace hb6 : Below wc.heap.size wc w6 := Below.trans ((Below.refl _ _).alloc (Nat.le_refl _) _) hb6; obtain ⟨hc6, hf6, hz66⟩ := bstep (N := wc.heap.size) (Nat.le_refl _) hb6; have sM : bM < w6.heap.size := (by omega); have sB : bB < w6.heap.size := (by omega); have B6 := Lib.hid (B5.out.trans (hb6.mono z5)); have K6 := Lib.hid (bk_below hbl.out hb6 ks); clear own6)
    go_ret
    exact ⟨ret_bool HVl.out.symm, bk_alloc (bk_set K6.out 0 _ _ rfl) _, grownBy_trans (grownBy_trans (grownBy_below' B6.out) (grownBy_set _ _ _ _)) (grownBy_below' ((Below.refl _ _).alloc (Nat.le_refl _) _))⟩
  · have hk1 : (C == 0) = false := by simpa using hC
    have hVl : V = false := by rw [← HV.out, hk1]; rfl
    have HVl := Lib.hid hVl
    clear hVl HV hC
    go_wp2_with (at_builtin; refine wpList_append_rd rfl (.tmp 22) (.tmp 23) 64 rfl wc.heap.size 29 i0' _ 2 16 Try.underlying64 hi0 hz0 hz1 hz2 rfl (by decide) _ 1 _ (by rfl) hO6.out _ A5 R.length c5 (R.flatMap eInterval) (by rfl) (flat_len eInterval 2 eInterval_len R) hR5.out (flat_one eInterval eInterval_one R) (by unfold maxLen; omega) (by omega) (by simp) ?_; intro v6 w6 own6 hb6 hz6; obtain ⟨A6, c6, rfl⟩ := own_val own6; have own7 : w6.ownsRow wc.heap.size 29 2 (.slice A6 (1 + R.length) c6) (1 + R.length) (((lo, hi) :: R).flatMap eInterval) := own6; obtain ⟨bb6, oo6, rfl, hb66, m0, m1⟩ := Rd.atInterval (l := (lo, hi) :: R) (k := R.length) (Rd.of_own own7) Hla.out; clear own7; replace hb6 : Below wc.heap.size wc w6 := Below.trans ((Below.refl _ _).alloc (Nat.le_refl _) _) hb6; obtain ⟨hc6, hf6, hz66⟩ := bstep (N := wc.heap.size) (Nat.le_refl _) hb6; have sM : bM < w6.heap.size := (by omega); have sB : bB < w6.heap.size := (by omega); have B6 := Lib.hid (B5.out.trans (hb6.mono z5)); have K6 := Lib.hid (bk_below hbl.out hb6 ks); clear own6)
    go_ret
    exact ⟨ret_bool HVl.out.symm, bk_alloc (bk_set K6.out 0 _ _ rfl) _, grownBy_trans (grownBy_trans (grownBy_below' B6.out) (grownBy_set _ _ _ _)) (grownBy_below' ((Below.refl _ _).alloc (Nat.le_refl _) _))⟩
end Go.Proofs.Ytooifamckccadaa
namespace Go.Proofs.Ytooifamckccadaa
open Go.ChangeShapes Go.WideShapes Go.ChangeAt Go.RowKit
set_option maxRecDepth 20000
set_option linter.unusedVariables false
set_option linter.unusedSimpArgs false
theorem cloneInt_any (l : List Int) (n : Nat) (hl : l.length = n) (A : Option Addr) (B c : Nat) (w : World) (hr : Rd w B A (ints l)) (hB : B ≤ w.heap.size) (hn : n ≤ 1048576) :
   Calls Try.prog 158 #[.slice A n c] w fun e w' => ∃ A' c', e = .returned (.slice A' n c') ∧ w'.ownsRow w.heap.size 2 1 (.slice A' n c') n (ints l) ∧ Below w.heap.size w w' := by
  obtain ⟨i0, hi0, hz0, hz1, hz2⟩ := info_parts infoInt64
  have heq := fun W n => Lib.run_eql_slice_nil (P := Try.prog) W 27 2 A n c 0 0 Try.underlying27
  cases A with
  | none =>
    have h0 : n = 0 := by
      rcases Nat.eq_zero_or_pos n with h | h
      · exact h
      · obtain ⟨b, o, e, _⟩ := hr (by rw [ints_length]; omega)
        cases e
    subst h0
    have hl0 : l = [] := List.eq_nil_of_length_eq_zero hl
    subst hl0
    clear hl
    go_enter Try.func158, Try.ntmps158
    go_wp2
    go_ret
    exact ⟨none, 0, rfl, World.ownsRow_nil _ _ _ _, Below.refl _ _⟩
  | some ad =>
    have Hl := Lib.hid hl
    clear hl
    go_enter Try.func158, Try.ntmps158
    go_wp2_with (at_builtin; refine wpList_append_rd rfl (.tmp 5) (.tmp 6) 27 rfl w.heap.size 2 i0 _ 1 8 Try.underlying27 hi0 hz0 hz1 hz2 rfl (by decide) _ 0 [] rfl (World.ownsRow_made w #[] 0 (Nat.le_refl _) (by simp [maxLen]) rfl) B (some ad) n c (ints l) rfl (by rw [ints_length, Hl.out, Nat.mul_one]) (hr.alloc hB _) (ints_one l) (by unfold maxLen; omega) (by omega) (by simp) ?_; intro v1 w1 own1 hb1 hz3; rw [Nat.zero_add, List.nil_append] at own1; obtain ⟨A1, c1, rfl⟩ := own_val own1; have O1 := Lib.hid own1; clear own1)
    go_ret
    exact ⟨A1, c1, rfl, O1.out, ((Below.refl _ _).alloc (Nat.le_refl _) _).trans hb1⟩
theorem rd_cell {w : World} {g : Nat} {k : Int} (h : w.cell? ⟨g, 0, none⟩ = some (.int .i64 k)) : Rd w w.heap.size (some ⟨g, 0, none⟩) (ints [k]) := fun _ => by
  refine ⟨g, 0, rfl, ?_, fun j u hu => ?_⟩
  · rcases Nat.lt_or_ge g w.heap.size with h1 | h1
    · exact h1
    · simp [World.cell?, Array.getElem?_eq_none h1] at h
  · cases j with
    | zero => simp [ints] at hu; subst hu; exact h
    | succ j => simp [ints] at hu
abbrev ptr (b : Nat) : Value := .pointer (some ⟨b, 0, none⟩)
/-- the first choice of m more elements behind c, from the i-th on, that serves -/
def fnd (kp : List Int → Bool) (L : List Int) (m : Nat) (c : List Int) (i : Nat) : Option (List Int) := (cmb (L.drop i) m).find? (fun x => kp (c ++ x))
theorem fnd_zero (kp : List Int → Bool) (L : List Int) (c : List Int) (i : Nat) : fnd kp L 0 c i = if kp c then some [] else none := by
  unfold fnd
  rw [cmb_zero]
  simp only [List.find?_cons, List.append_nil, List.find?_nil]
  cases kp c <;> rfl
theorem fnd_end (kp : List Int → Bool) (L : List Int) (m : Nat) (c : List Int) : fnd kp L (m + 1) c L.length = none := by
  unfold fnd
  rw [List.drop_eq_nil_of_le (Nat.le_refl _), cmb_nil]; rfl
theorem fnd_step {kp : List Int → Bool} {L : List Int} {m : Nat} {c : List Int} {j : Nat} {x : Int} (h : L[j]? = some x) :
    fnd kp L (m + 1) c j = match fnd kp L m (c ++ [x]) (j + 1) with | some y => some (x :: y) | none => fnd kp L (m + 1) c (j + 1) := by
  have hl : j < L.length := (List.getElem?_eq_some_iff.1 h).1
  have hx : L[j] = x := by rw [List.getElem?_eq_getElem hl] at h; exact Option.some.inj h
  unfold fnd
  rw [List.drop_eq_getElem_cons hl, hx, cmb_cons, List.find?_append, List.find?_map]
  have e : ((fun y => kp (c ++ y)) ∘ fun y => x :: y) = fun y => kp (c ++ [x] ++ y) := by
    funext y
    simp
  rw [e]
  cases (cmb (L.drop (j + 1)) m).find? (fun y => kp (c ++ [x] ++ y)) <;> rfl
/-- the blocks of the search -/
structure InvW (ls : List Seg) (f n : Nat) (lo hi limit : Int) (A : Option Addr) (c bL bF bC bE bB bM : Nat) (L : List Int) (k : Nat) (A4 : Option Addr) (c4 N : Nat) (w : World) : Prop where
  ct : Caught ls f n lo hi limit A c bL bF bC bE bB bM w
  seg : Rd w bB A (ls.flatMap eSegment)
  rdL : Rd w bB A4 (ints L)
  cT : w.cell? ⟨N, 0, none⟩ = some (.slice A4 L.length c4)
  cN : w.cell? ⟨N + 1, 0, none⟩ = some (.int .i64 k)
  cD : w.cell? ⟨N + 2, 0, none⟩ = some (.func (Fn.func 111) #[] #[ptr bL, ptr bF, ptr bC, ptr bE, ptr bB, ptr bM])
  cW : w.cell? ⟨N + 3, 0, none⟩ = some (.func (Fn.func 157) #[] #[ptr (N + 1), ptr (N + 2), ptr N, ptr (N + 3)])
  sz : N + 4 ≤ w.heap.size
  hN : bB < N
theorem InvW.grown {ls : List Seg} {f n : Nat} {lo hi limit : Int} {A : Option Addr} {c bL bF bC bE bB bM : Nat} {L : List Int} {k : Nat} {A4 : Option Addr} {c4 N : Nat} {w w' : World} (h : InvW ls f n lo hi limit A c bL bF bC bE bB bM L k A4 c4 N w) (hg : w.grownBy w' (some bB)) (hb : ∃ A' n' c', Bk w' bB #[.slice A' n' c']) : InvW ls f n lo hi limit A c bL bF bC bE bB bM L k A4 c4 N w' := by
  have hs := h.sz
  have hn := h.hN
  have key : ∀ b, b < w.heap.size → b ≠ bB → w'.cell? ⟨b, 0, none⟩ = w.cell? ⟨b, 0, none⟩ := fun b h1 h2 => World.cell?_of_block (a := ⟨b, 0, none⟩) (hg.block b h1 (by simp; exact h2))
  exact ⟨h.ct.grown hg hb, h.seg.grown hg (by omega) (fun g e => by injection e with e; omega), h.rdL.grown hg (by omega) (fun g e => by injection e with e; omega),
    (key _ (by omega) (by omega)).trans h.cT, (key _ (by omega) (by omega)).trans h.cN, (key _ (by omega) (by omega)).trans h.cD, (key _ (by omega) (by omega)).trans h.cW, by have := hg.size; omega, hn⟩
theorem InvW.below {ls : List Seg} {f n : Nat} {lo hi limit : Int} {A : Option Addr} {c bL bF bC bE bB bM : Nat} {L : List Int} {k : Nat} {A4 : Option Addr} {c4 N : Nat} {w w' : World} (h : InvW ls f n lo hi limit A c bL bF bC bE bB bM L k A4 c4 N w) (hb : Below w.heap.size w w') : InvW ls f n lo hi limit A c bL bF bC bE bB bM L k A4 c4 N w' := by
  obtain ⟨A', n', c', h1⟩ := h.ct.best
  exact h.grown (grownBy_below' hb) ⟨A', n', c', bk_below h1 hb (bk_lt h1)⟩
theorem _root_.Go.World.grownBy.trans' {a b c : World} {row : Option Nat} (h : a.grownBy b row) (k : Below b.heap.size b c) : a.grownBy c row := grownBy_trans h (grownBy_below' k)
/-- the best choice so far is X -/
def BestIs (w : World) (bB : Nat) (X : List Int) : Prop := ∃ A' c', Bk w bB #[.slice A' X.length c'] ∧ w.ownsRow (bB + 1) 2 1 (.slice A' X.length c') X.length (ints X)
def WkP (bB : Nat) (c : List Int) (r : Option (List Int)) (w : World) (e : Ending) (w' : World) : Prop :=
  e = .returned (.bool r.isSome) ∧ w.grownBy w' (some bB) ∧ (∃ A' n' c', Bk w' bB #[.slice A' n' c']) ∧ ∀ x, r = some x → BestIs w' bB (c ++ x)
set_option maxHeartbeats 4000000 in
theorem choice_walk (ls : List Seg) (n f : Nat) (lo hi limit : Int) (hlay : layB ls = true) (he : enB lo hi = true) (hn : n ≤ 24) (hf : f < ls.length) (A A4 : Option Addr) (c bL bF bC bE bB bM c4 N : Nat) (L : List Int) (k : Nat) (hk : k ≤ 8) (hL : L.length ≤ 8) :
   ∀ (m : Nat) (ch : List Int) (la i : Nat) (hla : ch.length = la) (hd : la + m = k) (hi' : i ≤ L.length) (Ac : Option Addr) (cc : Nat) (w : World) (hI : InvW ls f n lo hi limit A c bL bF bC bE bB bM L k A4 c4 N w) (ho : w.ownsRow (bB + 1) 2 1 (.slice Ac la cc) la (ints ch)),
   Calls Try.prog 157 #[.slice Ac la cc, .int .i64 i, ptr (N + 1), ptr (N + 2), ptr N, ptr (N + 3)] w (WkP bB ch (fnd (kpB ls f n lo hi limit) L m ch i) w) := by
  intro m
  induction m with
  | zero =>
    intro ch la i hla hd hi' Ac cc w hI ho
    obtain rfl : la = k := by omega
    rw [fnd_zero]
    have hkk := Lib.hid (keeps_any ls ch n f lo hi limit hlay he hn hf A Ac w.heap.size c cc bL bF bC bE bB bM w (hI.seg.more (by have := hI.sz; have := hI.hN; omega)) (Rd.of_own ho) (Nat.le_refl _) (by omega) hI.ct)
    rw [hla] at hkk
    have hcN := hI.cN
    have hcD := hI.cD
    have Ho := Lib.hid ho
    have Hla := Lib.hid hla
    have hbs : bB < w.heap.size := by have := hI.sz; have := hI.hN; omega
    generalize kpB ls f n lo hi limit ch = V at *
    obtain ⟨r, hr⟩ : ∃ r : Option (List Int), r = if V then some [] else none := ⟨_, rfl⟩
    rw [← hr]
    have Hr1 := Lib.hid (show V = r.isSome by rw [hr]; cases V <;> rfl)
    have Hr2 := Lib.hid (show ∀ x, r = some x → x = [] by
      rw [hr]
      intro x hx
      cases V with
      | true => exact (Option.some.inj hx).symm
      | false => exact absurd hx (by simp))
    clear hr
    clear hI ho hla hlay he hd
    go_enter Try.func157, Try.ntmps157
    go_wp2_with (go_at_call 111; refine hkk.out.mono ?_; rintro e w1 ⟨rfl, h1, g1⟩; have H1 := Lib.hid h1; have G1 := Lib.hid g1; clear h1 g1)
    go_ret
    refine ⟨ret_bool Hr1.out, G1.out, ⟨_, _, _, H1.out⟩, fun x hx => ?_⟩
    obtain rfl := Hr2.out x hx
    rw [List.append_nil]
    have hla := Hla.out
    refine ⟨Ac, cc, by rw [hla]; exact H1.out, ?_⟩
    rw [hla]
    exact own_apart Ho.out G1.out (fun q hq => by injection hq with hq; omega)
  | succ m ih =>
    intro ch la i hla hd hi' Ac cc w hI ho
    obtain ⟨i0, hi0, hz0, hz1, hz2⟩ := info_parts infoInt64
    have IH := Lib.hid ih
    have Hla := Lib.hid hla
    have hcl := Lib.hid (fun (w' : World) (B : Nat) (h : Rd w' B Ac (ints ch)) (hb : B ≤ w'.heap.size) => cloneInt_any ch la hla Ac B cc w' h hb (by omega))
    have hcN := hI.cN
    have HI0 := Lib.hid hI
    have Ho0 := Lib.hid ho
    have hbs : bB < w.heap.size := by have := hI.sz; have := hI.hN; omega
    have hne : ((la : Int) == (k : Int)) = false := by rw [beq_eq_false_iff_ne]; omega
    have hbest := Lib.hid hI.ct.best
    clear ih hla hI ho
    generalize kpB ls f n lo hi limit = kp at *
    go_enter Try.func157, Try.ntmps157
    go_wp2_with fail
    go_loopw [9] (fun v wr => ∃ j : Nat, j ≤ L.length ∧ v = .int .i64 j ∧ fnd kp L (m + 1) ch i = fnd kp L (m + 1) ch j ∧ w.grownBy wr (some bB) ∧ (∃ A' n' c', Bk wr bB #[.slice A' n' c']) ∧ wr.ownsRow (bB + 1) 2 1 (.slice Ac la cc) la (ints ch)) (fun v _ => L.length - (intOf v).toNat)
    case atStart => exact ⟨i, hi', rfl, rfl, World.grownBy.refl _ _, hbest.out, Ho0.out⟩
    case round =>
      clear hcN
      obtain ⟨j, hj, rfl, hfj, hg, hbb, hown⟩ := hrel
      have hI := HI0.out.grown hg hbb
      have HI := Lib.hid hI
      have Ho := Lib.hid hown
      have HG := Lib.hid hg
      have HB := Lib.hid hbb
      have dT := hI.cT
      have dW := hI.cW
      have hN := hI.hN
      have hsz := hI.sz
      have HFJ := Lib.hid hfj
      by_cases hlt : j < L.length
      · have ht := List.getElem?_eq_getElem hlt
        generalize L[j] = x at ht
        have hst := fnd_step (kp := kp) (m := m) (c := ch) ht
        obtain ⟨b4', o4', hA4, hb4', dL⟩ := hI.rdL.int ht
        subst hA4
        have HR := Lib.hid (fun (A' : Option Addr) (c' : Nat) (w' : World) (h1 : InvW ls f n lo hi limit A c bL bF bC bE bB bM L k (some ⟨b4', o4', none⟩) c4 N w') (h2 : w'.ownsRow (bB + 1) 2 1 (.slice A' (la + 1) c') (la + 1) (ints (ch ++ [x]))) => IH.out (ch ++ [x]) (la + 1) (j + 1) (by rw [List.length_append, Hla.out]; rfl) (by omega) (by omega) A' c' w' h1 h2)
        have hra := Lib.hid (Rd.of_own hown)
        have j0 : (0 : Int) ≤ (j : Int) := by omega
        have j1 : (j : Int) < (L.length : Int) := by omega
        have e1 : IntKind.i64.wrap ((j : Int) + 1) = ((j + 1 : Nat) : Int) := by rw [Int.natCast_add]; exact IntWalk.i64_in _ (by omega)
        have hla6 : la ≤ 1048576 := by omega
        have gb4 : b4' < wr.heap.size := by omega
        have gN : N < wr.heap.size := by omega
        have gN3 : N + 3 < wr.heap.size := by omega
        clear hg hbb hown ht hfj hI
        cases hF : fnd kp L m (ch ++ [x]) (j + 1) with
        | none =>
          rw [hF] at hst HR
          have Hst := Lib.hid hst
          clear hst hF
          go_wp2_with fail
          go_region_held3 (fun w' => w'.cell? ⟨N + 3, 0, none⟩ = some (.func (Fn.func 157) #[] #[ptr (N + 1), ptr (N + 2), ptr N, ptr (N + 3)]) ∧ w'.cell? ⟨N, 0, none⟩ = some (.slice (some ⟨b4', o4', none⟩) L.length c4) ∧ w'.cell? ⟨b4', o4' + j, none⟩ = some (.int .i64 x)) ((repeat' apply And.intro) <;> (first | assumption | (simp [*, World.cell?_alloc_past])))
            ((first | (go_at_call 158; refine (hcl.out _ _ (by first | exact hra.out | exact hra.out.alloc (Nat.le_refl _) _) (by first | omega | go_size | (simp; omega))).mono ?_; rintro e w3 ⟨A3, c3, rfl, o3, b3⟩; have b4 : Below wr.heap.size wr w3 := (by first | exact b3 | exact Below.trans (Below.drew (Below.refl _ _)) b3 | exact Below.trans ((Below.refl _ _).alloc (Nat.le_refl _) _) (b3.mono (by simp)) | exact Below.trans (Below.drew ((Below.refl _ _).alloc (Nat.le_refl _) _)) (b3.mono (by simp))); have z3 := b4.size; have O3 := Lib.hid (own_more o3 (show wr.heap.size ≤ _ by first | omega | go_size | (simp; omega))); clear o3; have hc3 : w3.cell? ⟨N + 3, 0, none⟩ = _ := (b4.cell (p := ⟨N + 3, 0, none⟩) (by simp; omega)).trans dW; have hc3T : w3.cell? ⟨N, 0, none⟩ = _ := (b4.cell (p := ⟨N, 0, none⟩) (by simp; omega)).trans dT; have hc3L : w3.cell? ⟨b4', o4' + j, none⟩ = _ := (b4.cell (p := ⟨b4', o4' + j, none⟩) (by simp; omega)).trans dL; have hy3 : N + 3 < w3.heap.size := (by omega); have hy3T : N < w3.heap.size := (by omega); have hy3L : b4' < w3.heap.size := (by omega); (first | (have hx3 : w3.cell? ⟨wr.heap.size, 0, none⟩ = some (.int .i64 x) := (b3.cell (p := ⟨wr.heap.size, 0, none⟩) (by first | (simp; done) | (simp; omega))).trans (by simp); have hx4 := Lib.hid (rd_cell hx3); clear hx3) | skip)) | (refine step_append_int (w := w3) rfl (.tmp 26) (.tmp 31) 27 (by rfl) wr.heap.size 2 i0 Try.underlying27 hi0 hz0 hz1 hz2 _ la ch (by rfl) O3.out x w3.heap.size rfl (by rfl) hla6 (by omega) ?_; intro v4 w4 own4 hb4 hz4; obtain ⟨A4, c4, rfl⟩ := own_val own4; have own5 : w4.ownsRow wr.heap.size 2 1 (.slice A4 (la + 1) c4) (la + 1) (ints (ch ++ [x])) := (by simpa [ints] using own4); have O4 := Lib.hid (own_more own5 (show bB + 1 ≤ wr.heap.size by omega)); clear own4 own5; have hb5 : Below wr.heap.size wr w4 := (by first | exact b4.trans hb4 | exact b4.trans (Below.trans (Below.drew (Below.refl _ _)) hb4)); have I4 := Lib.hid (HI.out.below hb5); have K4 := Lib.hid (HG.out.trans' hb5); have A4o := Lib.hid (own_below Ho.out hb5); have hc4 : w4.cell? ⟨N + 3, 0, none⟩ = _ := (hb5.cell (p := ⟨N + 3, 0, none⟩) (by simp; omega)).trans dW; have hc4T : w4.cell? ⟨N, 0, none⟩ = _ := (hb5.cell (p := ⟨N, 0, none⟩) (by simp; omega)).trans dT; have hc4L : w4.cell? ⟨b4', o4' + j, none⟩ = _ := (hb5.cell (p := ⟨b4', o4' + j, none⟩) (by simp; omega)).trans dL; have hy4 : N + 3 < w4.heap.size := (by have := hb5.size; omega)) | (refine step_append_rd rfl (.tmp 26) (.tmp 31) 27 (by rfl) wr.heap.size 2 i0 _ 1 8 Try.underlying27 hi0 hz0 hz1 hz2 rfl (by decide) _ la (ints ch) (by rfl) (by exact O3.out) w3.heap.size (some ⟨wr.heap.size, 0, none⟩) 1 1 (ints [x]) (by rfl) rfl (by exact hx4.out) (ints_one _) (by unfold maxLen; omega) (by omega) (by first | omega | go_size) ?_; intro v4 w4 own4 hb4 hz4; obtain ⟨A4, c4, rfl⟩ := own_val own4; have own5 : w4.ownsRow wr.heap.size 2 1 (.slice A4 (la + 1) c4) (la + 1) (ints (ch ++ [x])) := (by simpa [ints] using own4); have O4 := Lib.hid (own_more own5 (show bB + 1 ≤ wr.heap.size by omega)); clear own4 own5; have hb5 : Below wr.heap.size wr w4 := (by first | exact b4.trans hb4 | exact b4.trans (Below.trans (Below.drew (Below.refl _ _)) hb4)); have I4 := Lib.hid (HI.out.below hb5); have K4 := Lib.hid (HG.out.trans' hb5); have A4o := Lib.hid (own_below Ho.out hb5); have hc4 : w4.cell? ⟨N + 3, 0, none⟩ = _ := (hb5.cell (p := ⟨N + 3, 0, none⟩) (by simp; omega)).trans dW; have hc4T : w4.cell? ⟨N, 0, none⟩ = _ := (hb5.cell (p := ⟨N, 0, none⟩) (by simp; omega)).trans dT; have hc4L : w4.cell? ⟨b4', o4' + j, none⟩ = _ := (hb5.cell (p := ⟨b4', o4' + j, none⟩) (by simp; omega)).trans dL; have hy4 : N + 3 < w4.heap.size := (by have := hb5.size; omega)) | (go_at_call 157; refine (HR.out A4 c4 _ (by exact I4.out) (by exact O4.out)).mono ?_; rintro e w5 ⟨rfl, g5, s5, x5⟩; have i5 := I4.out.grown g5 s5; have hc5 := i5.cW; have hc5T := i5.cT; have hc5L : w5.cell? ⟨b4', o4' + j, none⟩ = some (.int .i64 x) := (World.cell?_of_block (a := ⟨b4', o4' + j, none⟩) (g5.block b4' (by have := I4.out.sz; have := I4.out.hN; omega) (by simp; omega))).trans hc4L; clear i5; have K5 := Lib.hid (grownBy_trans K4.out g5); have S5 := Lib.hid s5; have X5 := Lib.hid x5; have A5o := Lib.hid (own_apart A4o.out g5 (fun q hq => by injection hq with hq; omega)); clear g5 s5 x5)))
          all_goals go_wp2
          all_goals go_roundw
          all_goals first | exact ⟨j + 1, by omega, by go_num, by rw [HFJ.out, Hst.out], K5.out, S5.out, A5o.out⟩ | (simp [intOf]; omega)
        | some y =>
          rw [hF] at hst HR
          have Hst := Lib.hid hst
          clear hst hF
          go_wp2_with fail
          go_region_held3 (fun w' => w'.cell? ⟨N + 3, 0, none⟩ = some (.func (Fn.func 157) #[] #[ptr (N + 1), ptr (N + 2), ptr N, ptr (N + 3)]) ∧ w'.cell? ⟨N, 0, none⟩ = some (.slice (some ⟨b4', o4', none⟩) L.length c4) ∧ w'.cell? ⟨b4', o4' + j, none⟩ = some (.int .i64 x)) ((repeat' apply And.intro) <;> (first | assumption | (simp [*, World.cell?_alloc_past])))
            ((first | (go_at_call 158; refine (hcl.out _ _ (by first | exact hra.out | exact hra.out.alloc (Nat.le_refl _) _) (by first | omega | go_size | (simp; omega))).mono ?_; rintro e w3 ⟨A3, c3, rfl, o3, b3⟩; have b4 : Below wr.heap.size wr w3 := (by first | exact b3 | exact Below.trans (Below.drew (Below.refl _ _)) b3 | exact Below.trans ((Below.refl _ _).alloc (Nat.le_refl _) _) (b3.mono (by simp)) | exact Below.trans (Below.drew ((Below.refl _ _).alloc (Nat.le_refl _) _)) (b3.mono (by simp))); have z3 := b4.size; have O3 := Lib.hid (own_more o3 (show wr.heap.size ≤ _ by first | omega | go_size | (simp; omega))); clear o3; have hc3 : w3.cell? ⟨N + 3, 0, none⟩ = _ := (b4.cell (p := ⟨N + 3, 0, none⟩) (by simp; omega)).trans dW; have hc3T : w3.cell? ⟨N, 0, none⟩ = _ := (b4.cell (p := ⟨N, 0, none⟩) (by simp; omega)).trans dT; have hc3L : w3.cell? ⟨b4', o4' + j, none⟩ = _ := (b4.cell (p := ⟨b4', o4' + j, none⟩) (by simp; omega)).trans dL; have hy3 : N + 3 < w3.heap.size := (by omega); have hy3T : N < w3.heap.size := (by omega); have hy3L : b4' < w3.heap.size := (by omega); (first | (have hx3 : w3.cell? ⟨wr.heap.size, 0, none⟩ = some (.int .i64 x) := (b3.cell (p := ⟨wr.heap.size, 0, none⟩) (by first | (simp; done) | (simp; omega))).trans (by simp); have hx4 := Lib.hid (rd_cell hx3); clear hx3) | skip)) | (refine step_append_int (w := w3) rfl (.tmp 26) (.tmp 31) 27 (by rfl) wr.heap.size 2 i0 Try.underlying27 hi0 hz0 hz1 hz2 _ la ch (by rfl) O3.out x w3.heap.size rfl (by rfl) hla6 (by omega) ?_; intro v4 w4 own4 hb4 hz4; obtain ⟨A4, c4, rfl⟩ := own_val own4; have own5 : w4.ownsRow wr.heap.size 2 1 (.slice A4 (la + 1) c4) (la + 1) (ints (ch ++ [x])) := (by simpa [ints] using own4); have O4 := Lib.hid (own_more own5 (show bB + 1 ≤ wr.heap.size by omega)); clear own4 own5; have hb5 : Below wr.heap.size wr w4 := (by first | exact b4.trans hb4 | exact b4.trans (Below.trans (Below.drew (Below.refl _ _)) hb4)); have I4 := Lib.hid (HI.out.below hb5); have K4 := Lib.hid (HG.out.trans' hb5); have A4o := Lib.hid (own_below Ho.out hb5); have hc4 : w4.cell? ⟨N + 3, 0, none⟩ = _ := (hb5.cell (p := ⟨N + 3, 0, none⟩) (by simp; omega)).trans dW; have hc4T : w4.cell? ⟨N, 0, none⟩ = _ := (hb5.cell (p := ⟨N, 0, none⟩) (by simp; omega)).trans dT; have hc4L : w4.cell? ⟨b4', o4' + j, none⟩ = _ := (hb5.cell (p := ⟨b4', o4' + j, none⟩) (by simp; omega)).trans dL; have hy4 : N + 3 < w4.heap.size := (by have := hb5.size; omega)) | (refine step_append_rd rfl (.tmp 26) (.tmp 31) 27 (by rfl) wr.heap.size 2 i0 _ 1 8 Try.underlying27 hi0 hz0 hz1 hz2 rfl (by decide) _ la (ints ch) (by rfl) (by exact O3.out) w3.heap.size (some ⟨wr.heap.size, 0, none⟩) 1 1 (ints [x]) (by rfl) rfl (by exact hx4.out) (ints_one _) (by unfold maxLen; omega) (by omega) (by first | omega | go_size) ?_; intro v4 w4 own4 hb4 hz4; obtain ⟨A4, c4, rfl⟩ := own_val own4; have own5 : w4.ownsRow wr.heap.size 2 1 (.slice A4 (la + 1) c4) (la + 1) (ints (ch ++ [x])) := (by simpa [ints] using own4); have O4 := Lib.hid (own_more own5 (show bB + 1 ≤ wr.heap.size by omega)); clear own4 own5; have hb5 : Below wr.heap.size wr w4 := (by first | exact b4.trans hb4 | exact b4.trans (Below.trans (Below.drew (Below.refl _ _)) hb4)); have I4 := Lib.hid (HI.out.below hb5); have K4 := Lib.hid (HG.out.trans' hb5); have A4o := Lib.hid (own_below Ho.out hb5); have hc4 : w4.cell? ⟨N + 3, 0, none⟩ = _ := (hb5.cell (p := ⟨N + 3, 0, none⟩) (by simp; omega)).trans dW; have hc4T : w4.cell? ⟨N, 0, none⟩ = _ := (hb5.cell (p := ⟨N, 0, none⟩) (by simp; omega)).trans dT; have hc4L : w4.cell? ⟨b4', o4' + j, none⟩ = _ := (hb5.cell (p := ⟨b4', o4' + j, none⟩) (by simp; omega)).trans dL; have hy4 : N + 3 < w4.heap.size := (by have := hb5.size; omega)) | (go_at_call 157; refine (HR.out A4 c4 _ (by exact I4.out) (by exact O4.out)).mono ?_; rintro e w5 ⟨rfl, g5, s5, x5⟩; have i5 := I4.out.grown g5 s5; have hc5 := i5.cW; have hc5T := i5.cT; have hc5L : w5.cell? ⟨b4', o4' + j, none⟩ = some (.int .i64 x) := (World.cell?_of_block (a := ⟨b4', o4' + j, none⟩) (g5.block b4' (by have := I4.out.sz; have := I4.out.hN; omega) (by simp; omega))).trans hc4L; clear i5; have K5 := Lib.hid (grownBy_trans K4.out g5); have S5 := Lib.hid s5; have X5 := Lib.hid x5; have A5o := Lib.hid (own_apart A4o.out g5 (fun q hq => by injection hq with hq; omega)); clear g5 s5 x5)))
          all_goals go_wp2
          all_goals (
            go_ret
            have hr : fnd kp L (m + 1) ch i = some (x :: y) := HFJ.out.trans Hst.out
            rw [hr]
            refine ⟨rfl, K5.out, S5.out, fun z hz => ?_⟩
            obtain rfl : x :: y = z := Option.some.inj hz
            have hX := X5.out y rfl
            rw [List.append_assoc] at hX
            exact hX)
      · have hk' : j = L.length := by omega
        subst hk'
        have hfe := HFJ.out.trans (fnd_end kp L m ch)
        have HF := Lib.hid hfe
        have hlt2 : ¬ (L.length : Int) < (L.length : Int) := by omega
        clear hfe hg hbb hown hfj hI
        go_wp2
        go_ret
        rw [HF.out]
        exact ⟨rfl, HG.out, HB.out, fun x hx => by cases hx⟩
end Go.Proofs.Ytooifamckccadaa
namespace Go.Proofs.Ytooifamckccadaa
open Go.ChangeShapes Go.WideShapes Go.ChangeAt Go.RowKit
set_option maxRecDepth 20000
set_option linter.unusedVariables false
set_option linter.unusedSimpArgs false
theorem fnd_top (kp : List Int → Bool) (L : List Int) (k : Nat) : fnd kp L k [] 0 = (cmb L k).find? kp := by
  unfold fnd
  rw [List.drop_zero]
  rfl
def ChP (bB : Nat) (r : Option (List Int)) (w : World) (e : Ending) (w' : World) : Prop :=
  e = .returned (.bool r.isSome) ∧ w.grownBy w' (some bB) ∧ (∃ A' n' c', Bk w' bB #[.slice A' n' c']) ∧ ∀ x, r = some x → BestIs w' bB x
set_option maxHeartbeats 4000000 in
theorem choices_any (ls : List Seg) (n f : Nat) (lo hi limit : Int) (hlay : layB ls = true) (he : enB lo hi = true) (hn : n ≤ 24) (hf : f < ls.length) (A A4 : Option Addr) (c bL bF bC bE bB bM c4 : Nat) (L : List Int) (k : Nat) (hk : k ≤ 8) (hL : L.length ≤ 8) (w : World)
    (hc : Caught ls f n lo hi limit A c bL bF bC bE bB bM w) (hs : Rd w bB A (ls.flatMap eSegment)) (hr : Rd w bB A4 (ints L)) :
   Calls Try.prog 112 #[.slice A4 L.length c4, .int .i64 k, .func (Fn.func 111) #[] #[ptr bL, ptr bF, ptr bC, ptr bE, ptr bB, ptr bM]] w (ChP bB ((cmb L k).find? (kpB ls f n lo hi limit)) w) := by
  have HW := Lib.hid (fun (w' : World) (hI : InvW ls f n lo hi limit A c bL bF bC bE bB bM L k A4 c4 w.heap.size w') => choice_walk ls n f lo hi limit hlay he hn hf A A4 c bL bF bC bE bB bM c4 w.heap.size L k hk hL k [] 0 0 rfl (by omega) (by omega) none 0 w' hI (World.ownsRow_nil _ _ _ _))
  rw [fnd_top] at HW
  generalize (cmb L k).find? (kpB ls f n lo hi limit) = r at *
  obtain ⟨A9, n9, c9, hb9⟩ := hc.best
  have hbw := bk_lt hb9
  have Hc := Lib.hid hc
  have Hs := Lib.hid hs
  have Hr := Lib.hid hr
  have Hb9 := Lib.hid hb9
  clear hc hs hr hb9 hlay he
  obtain ⟨W, hW⟩ : ∃ W, W = (((w.alloc (.cells #[.slice A4 L.length c4] 27)).alloc (.cells #[.int .i64 k] 3)).alloc (.cells #[.func (Fn.func 111) #[] #[ptr bL, ptr bF, ptr bC, ptr bE, ptr bB, ptr bM]] 94)).alloc (.cells #[.func (Fn.func 157) #[] #[ptr (w.heap.size + 1), ptr (w.heap.size + 2), ptr w.heap.size, ptr (w.heap.size + 3)]] 146) := ⟨_, rfl⟩
  have hbel : Below w.heap.size w W := by rw [hW]; repeat' (first | (with_reducible exact Below.refl _ _) | (with_reducible assumption) | (with_reducible refine Below.alloc ?_ ?_ _) | (with_reducible refine Below.drew ?_) | (with_reducible refine below_drewN ?_ _) | (with_reducible refine Below.setCell ?_ ?_ _) | (with_reducible refine Below.trans ?_ (Below.mono (by assumption) ?_)) | go_size | (exact Below.size (by assumption)))
  have hI : InvW ls f n lo hi limit A c bL bF bC bE bB bM L k A4 c4 w.heap.size W := by
    refine ⟨Hc.out.below hbel, Hs.out.below hbel (by omega), Hr.out.below hbel (by omega), ?_, ?_, ?_, ?_, ?_, hbw⟩
    · rw [hW]; go_cell
    · rw [hW]; go_cell
    · rw [hW]; go_cell
    · rw [hW]; go_cell
    · rw [hW]; simp
  have HC := Lib.hid (show Calls Try.prog 157 #[.slice none 0 0, .int .i64 0, ptr (w.heap.size + 1), ptr (w.heap.size + 2), ptr w.heap.size, ptr (w.heap.size + 3)] W (WkP bB [] r W) from HW.out W hI)
  have HB := Lib.hid hbel
  rw [hW] at HC
  clear hI hbel HW
  go_enter Try.func112, Try.ntmps112
  go_wp2_with (go_at_call 157; refine HC.out.mono ?_; rintro e w5 ⟨rfl, g5, s5, x5⟩; have G5 := Lib.hid (grownBy_trans (grownBy_below' (row := some bB) HB.out) (hW ▸ g5)); have S5 := Lib.hid s5; have X5 := Lib.hid x5; clear g5 s5 x5)
  go_ret
  exact ⟨rfl, G5.out, S5.out, X5.out⟩
end Go.Proofs.Ytooifamckccadaa
namespace Go.Proofs.Ytooifamckccadaa
open Go.ChangeShapes Go.WideShapes Go.ChangeAt Go.RowKit
set_option maxRecDepth 20000
set_option linter.unusedVariables false
set_option linter.unusedSimpArgs false
/-- the five boxes of the arguments -/
structure Bx5 (w : World) (N : Nat) (sl : Value) (f d lo hi limit : Int) : Prop where
  lay : Bk w N #[sl]
  fr : Bk w (N + 1) #[.int .i64 f]
  cn : Bk w (N + 2) #[.int .i64 d]
  en : Bk w (N + 3) #[.int .i64 lo, .int .i64 hi]
  lm : Bk w (N + 4) #[.int .i64 limit]
theorem Bx5.below {w w' : World} {N : Nat} {sl : Value} {f d lo hi limit : Int} (h : Bx5 w N sl f d lo hi limit) (hb : Below w.heap.size w w') : Bx5 w' N sl f d lo hi limit :=
  ⟨bk_below h.lay hb (bk_lt h.lay), bk_below h.fr hb (bk_lt h.fr), bk_below h.cn hb (bk_lt h.cn), bk_below h.en hb (bk_lt h.en), bk_below h.lm hb (bk_lt h.lm)⟩
theorem impS_stay {kp : List Int → Bool} {l : List Int} {n : Nat} {x : List Int} (h : impS kp l n = some x) : ∀ m, impS kp l (n + m) = some x
  | 0 => h
  | m + 1 => by
    show (match impS kp l (n + m) with | some x => some x | none => (cmb l (n + m)).find? kp) = some x
    rw [impS_stay h m]
abbrev box5 (w : World) (sl : Value) (f d lo hi limit : Int) : World := ((((w.alloc (.cells #[sl] 26)).alloc (.cells #[.int .i64 f] 2)).alloc (.cells #[.int .i64 d] 2)).alloc (.cells #[.int .i64 lo, .int .i64 hi] 29)).alloc (.cells #[.int .i64 limit] 2)
theorem bx5_new (w : World) (sl : Value) (f d lo hi limit : Int) : Bx5 (box5 w sl f d lo hi limit) w.heap.size sl f d lo hi limit :=
  ⟨bk_alloc (bk_alloc (bk_alloc (bk_alloc (bk_new w _ _) _) _) _) _,
   by simpa using bk_alloc (bk_alloc (bk_alloc (bk_new (w.alloc (.cells #[sl] 26)) #[.int .i64 f] 2) (.cells #[.int .i64 d] 2)) (.cells #[.int .i64 lo, .int .i64 hi] 29)) (.cells #[.int .i64 limit] 2),
   by simpa using bk_alloc (bk_alloc (bk_new ((w.alloc (.cells #[sl] 26)).alloc (.cells #[.int .i64 f] 2)) #[.int .i64 d] 2) (.cells #[.int .i64 lo, .int .i64 hi] 29)) (.cells #[.int .i64 limit] 2),
   by simpa using bk_alloc (bk_new (((w.alloc (.cells #[sl] 26)).alloc (.cells #[.int .i64 f] 2)).alloc (.cells #[.int .i64 d] 2)) #[.int .i64 lo, .int .i64 hi] 29) (.cells #[.int .i64 limit] 2),
   by simpa using bk_new ((((w.alloc (.cells #[sl] 26)).alloc (.cells #[.int .i64 f] 2)).alloc (.cells #[.int .i64 d] 2)).alloc (.cells #[.int .i64 lo, .int .i64 hi] 29)) #[.int .i64 limit] 2⟩
theorem lbX_len (ls : List Seg) (f d lo hi limit : Int) : (lbX ls f d lo hi limit).1.length ≤ 1048576 := by
  unfold lbX
  split <;> try simp
  split <;> try simp
  split <;> try simp
  split
  · rename_i h8 x hx
    rcases impS_inv (kp := kpB ls f.toNat d.toNat lo hi limit) (brk_sorted ls f.toNat d.toNat ls.length).1 ((brkK ls f.toNat d.toNat ls.length).length + 1) with ⟨h1, _⟩ | ⟨y, h1, _, h2, _⟩
    · rw [hx] at h1; cases h1
    · rw [hx] at h1
      injection h1 with h1
      subst h1
      show x.length ≤ 1048576
      omega
  · simp
set_option maxHeartbeats 8000000 in
theorem leastBrakes_impl (ls : List Seg) (f d lo hi limit : Int) (A : Option Addr) (B c : Nat) (w : World) (hs : Rd w B A (ls.flatMap eSegment)) (hB : B ≤ w.heap.size) (hn : ls.length ≤ 1048576) :
   Calls Try.prog 35 #[.agg #[.slice A ls.length c], .int .i64 f, .int .i64 d, .agg #[.int .i64 lo, .int .i64 hi], .int .i64 limit] w (LbP (lbX ls f d lo hi limit) w) := by
  have B0 := Lib.hid (show Below w.heap.size w (box5 w (.slice A ls.length c) f d lo hi limit) by repeat' (first | (with_reducible exact Below.refl _ _) | (with_reducible assumption) | (with_reducible refine Below.alloc ?_ ?_ _) | (with_reducible refine Below.drew ?_) | (with_reducible refine below_drewN ?_ _) | (with_reducible refine Below.setCell ?_ ?_ _) | (with_reducible refine Below.trans ?_ (Below.mono (by assumption) ?_)) | go_size | (exact Below.size (by assumption))))
  have Hs := Lib.hid (hs.below B0.out hB)
  have X0 := Lib.hid (bx5_new w (.slice A ls.length c) f d lo hi limit)
  have hz0 : (box5 w (.slice A ls.length c) f d lo hi limit).heap.size = w.heap.size + 5 := by simp [box5]
  have HL := Lib.hid (fun (w' : World) (h : Rd w' B A (ls.flatMap eSegment)) (h3 : B ≤ w'.heap.size) => isLayout_impl ls A B c w' h h3 hn)
  generalize hX : lbX ls f d lo hi limit = X
  unfold lbX at hX
  clear hs
  cases hlay : layB ls with
  | false =>
    rw [hlay] at hX HL
    have HX := Lib.hid (show X = ([], 1) from hX.symm)
    clear hX hlay
    go_enter Try.func35, Try.ntmps35
    go_wp2_with fail
    refine (HL.out _ Hs.out (by omega)).mono ?_
    rintro e w1 ⟨rfl, b1⟩
    have B1 := Lib.hid (B0.out.trans (b1.mono (by omega)))
    clear b1
    go_wp2
    go_ret2
    exact lbP_err HX.out B1.out
  | true =>
  cases hen : enB lo hi with
  | false =>
    rw [hlay, hen] at hX
    rw [hlay] at HL
    have HE := Lib.hid (fun w' => isEn_impl_r lo hi false hen w')
    have HX := Lib.hid (show X = ([], 1) from hX.symm)
    clear hX hlay hen
    go_enter Try.func35, Try.ntmps35
    go_wp2_with fail
    refine (HL.out _ Hs.out (by omega)).mono ?_
    rintro e w1 ⟨rfl, b1⟩
    have X1 := Lib.hid (X0.out.below b1)
    have B1 := Lib.hid (B0.out.trans (b1.mono (by omega)))
    have z1 := b1.size
    clear b1
    obtain ⟨i0, i1, jf, js⟩ := bk2 X1.out.en
    go_wp2_with fail
    refine (HE.out _).mono ?_
    rintro e w2 ⟨rfl, b2⟩
    have B2 := Lib.hid (B1.out.trans (b2.mono (by omega)))
    clear b2
    go_wp2
    go_ret2
    exact lbP_err HX.out B2.out
  | true =>
  have HE := Lib.hid (fun w' => isEn_impl_r lo hi true hen w')
  rw [hlay] at HL
  rw [hlay, hen] at hX
  have HX := Lib.hid hX
  have Hlay := Lib.hid hlay
  have Hen := Lib.hid hen
  clear hX hlay hen
  go_enter Try.func35, Try.ntmps35
  go_wp2_with fail
  refine (HL.out _ Hs.out (by omega)).mono ?_
  rintro e w1 ⟨rfl, b1⟩
  have z1 := b1.size
  have Hs1 := Lib.hid (Hs.out.below b1 (by omega))
  have X1 := Lib.hid (X0.out.below b1)
  have B1 := Lib.hid (B0.out.trans (b1.mono (by omega)))
  clear b1 Hs X0 B0
  obtain ⟨i0, i1, jf, js⟩ := bk2 X1.out.en
  go_wp2_with fail
  refine (HE.out _).mono ?_
  rintro e w2 ⟨rfl, b2⟩
  have z2 := b2.size
  have Hs2 := Lib.hid (Hs1.out.below b2 (by omega))
  have X2 := Lib.hid (X1.out.below b2)
  have B2 := Lib.hid (B1.out.trans (b2.mono (by omega)))
  clear b2 Hs1 X1 B1 i0 i1 jf js HE HL
  cases hr : runB ls f d with
  | false =>
    have HR := Lib.hid (fun w' => isRun_any ls.length A c f d false hr hn w')
    have HI := Lib.hid (fun w' => within_r limit 0 10000000000 _ rfl w')
    have hX := HX.out
    rw [l9B, hr] at hX
    have HX2 := Lib.hid (show X = ([], 2) from hX.symm)
    clear hX HX hr
    obtain ⟨s0, sf, ss⟩ := bk1 X2.out.lay
    obtain ⟨f0, ff, fs⟩ := bk1 X2.out.fr
    obtain ⟨d0, df, ds⟩ := bk1 X2.out.cn
    obtain ⟨m0, mf, ms⟩ := bk1 X2.out.lm
    go_wp2_with fail
    refine wp_region_cls (S := Below w2.heap.size w2) (by kernel_rfl) (by kernel_rfl) (below_drew1 _ _) ?_
    replace s0 := cls_cell s0 ss
    replace f0 := cls_cell f0 fs
    replace d0 := cls_cell d0 ds
    replace m0 := cls_cell m0 ms
    repeat (go_big_quiet_step (first | (go_at_call 107; exact cls_call (Nat.le_refl _) (HR.out _)) | (go_at_call 108; exact cls_same (length_seg _ _ _ hn _)) | (go_at_call 109; exact cls_same (HI.out _))))
    refine wpQuiet_nil ?_
    rintro w3 ⟨⟨_, b3⟩, rfl⟩
    (try dsimp only)
    have B3 := Lib.hid (B2.out.trans (b3.mono (by omega)))
    clear b3 s0 sf ss f0 ff fs d0 df ds m0 mf ms
    go_wp2
    go_ret2
    exact lbP_err HX2.out B3.out
  | true =>
  have HR := Lib.hid (fun w' => isRun_any ls.length A c f d true hr hn w')
  by_cases hd : d ≤ (ls.length : Int)
  rotate_left
  · have HI := Lib.hid (fun w' => within_r limit 0 10000000000 _ rfl w')
    have hX := HX.out
    rw [l9B, hr, decide_eq_false hd] at hX
    have HX2 := Lib.hid (show X = ([], 2) from hX.symm)
    have hd2 : (ls.length : Int) < d := by omega
    have hd3 : decide ((ls.length : Int) < d) = true := decide_eq_true hd2
    clear hX HX hr hd
    obtain ⟨s0, sf, ss⟩ := bk1 X2.out.lay
    obtain ⟨f0, ff, fs⟩ := bk1 X2.out.fr
    obtain ⟨d0, df, ds⟩ := bk1 X2.out.cn
    obtain ⟨m0, mf, ms⟩ := bk1 X2.out.lm
    go_wp2_with fail
    refine wp_region_cls (S := Below w2.heap.size w2) (by kernel_rfl) (by kernel_rfl) (below_drew1 _ _) ?_
    replace s0 := cls_cell s0 ss
    replace f0 := cls_cell f0 fs
    replace d0 := cls_cell d0 ds
    replace m0 := cls_cell m0 ms
    repeat (go_big_quiet_step (first | (go_at_call 107; exact cls_call (Nat.le_refl _) (HR.out _)) | (go_at_call 108; exact cls_same (length_seg _ _ _ hn _)) | (go_at_call 109; exact cls_same (HI.out _))))
    refine wpQuiet_nil ?_
    rintro w3 ⟨⟨_, b3⟩, rfl⟩
    (try dsimp only)
    have B3 := Lib.hid (B2.out.trans (b3.mono (by omega)))
    clear b3 s0 sf ss f0 ff fs d0 df ds m0 mf ms
    go_wp2
    go_ret2
    exact lbP_err HX2.out B3.out
  have h9 : l9B ls f d = true := by rw [l9B, hr, decide_eq_true hd]; rfl
  have hd2 : ¬ (ls.length : Int) < d := by omega
  have hd3 : decide ((ls.length : Int) < d) = false := decide_eq_false hd2
  cases hlim : inB limit 0 10000000000 with
  | false =>
    have HI := Lib.hid (fun w' => within_r limit 0 10000000000 false hlim w')
    have hX := HX.out
    rw [h9, hlim] at hX
    have HX2 := Lib.hid (show X = ([], 2) from hX.symm)
    clear hX HX hr hd h9 hlim
    obtain ⟨s0, sf, ss⟩ := bk1 X2.out.lay
    obtain ⟨f0, ff, fs⟩ := bk1 X2.out.fr
    obtain ⟨d0, df, ds⟩ := bk1 X2.out.cn
    obtain ⟨m0, mf, ms⟩ := bk1 X2.out.lm
    go_wp2_with fail
    refine wp_region_cls (S := Below w2.heap.size w2) (by kernel_rfl) (by kernel_rfl) (below_drew1 _ _) ?_
    replace s0 := cls_cell s0 ss
    replace f0 := cls_cell f0 fs
    replace d0 := cls_cell d0 ds
    replace m0 := cls_cell m0 ms
    repeat (go_big_quiet_step (first | (go_at_call 107; exact cls_call (Nat.le_refl _) (HR.out _)) | (go_at_call 108; exact cls_same (length_seg _ _ _ hn _)) | (go_at_call 109; exact cls_same (HI.out _))))
    refine wpQuiet_nil ?_
    rintro w3 ⟨⟨_, b3⟩, rfl⟩
    (try dsimp only)
    have B3 := Lib.hid (B2.out.trans (b3.mono (by omega)))
    clear b3 s0 sf ss f0 ff fs d0 df ds m0 mf ms
    go_wp2
    go_ret2
    exact lbP_err HX2.out B3.out
  | true =>
  have HI := Lib.hid (fun w' => within_r limit 0 10000000000 true hlim w')
  obtain ⟨f', n, rfl, rfl, hn24, hfl, hnl⟩ := l9_nat h9
  have hX := HX.out
  rw [h9, hlim] at hX
  simp only [Int.toNat_natCast, Bool.and_self, if_true] at hX
  have HX2 := Lib.hid hX
  have hd4 : decide (ls.length < n) = false := decide_eq_false (by omega)
  have hd5 : ¬ ls.length < n := by omega
  clear hX HX hr hd h9 hlim
  obtain ⟨s0, sf, ss⟩ := bk1 X2.out.lay
  obtain ⟨f0, ff, fs⟩ := bk1 X2.out.fr
  obtain ⟨d0, df, ds⟩ := bk1 X2.out.cn
  obtain ⟨m0, mf, ms⟩ := bk1 X2.out.lm
  go_wp2_with fail
  refine wp_region_cls (S := Below w2.heap.size w2) (by kernel_rfl) (by kernel_rfl) (below_drew1 _ _) ?_
  replace s0 := cls_cell s0 ss
  replace f0 := cls_cell f0 fs
  replace d0 := cls_cell d0 ds
  replace m0 := cls_cell m0 ms
  repeat (go_big_quiet_step (first | (go_at_call 107; exact cls_call (Nat.le_refl _) (HR.out _)) | (go_at_call 108; exact cls_same (length_seg _ _ _ hn _)) | (go_at_call 109; exact cls_same (HI.out _))))
  refine wpQuiet_nil ?_
  rintro w3 ⟨⟨_, b3⟩, rfl⟩
  (try dsimp only)
  have B3 := Lib.hid (B2.out.trans (b3.mono (by omega)))
  have z3 := b3.size
  have Hs3 := Lib.hid (Hs2.out.below b3 (by omega))
  have X3 := Lib.hid (X2.out.below b3)
  clear b3 s0 sf ss f0 ff fs d0 df ds m0 mf ms X2 Hs2 B2 HR HI hd2 hd3 hd4 hd5
  obtain ⟨_, hlen3, hlen24⟩ := lay_all Hlay.out
  have HBr := Lib.hid (brakesIn_any ls f' n hlen24 hfl hnl A B c w3 Hs3.out (by omega))
  have hX := HX2.out
  have HK := Lib.hid (fun (ys : List Int) (h8 : ys.length ≤ 8) (k : Nat) (hk : k ≤ 8) (A4 : Option Addr) (c4 bB : Nat) (w' : World) (hc : Caught ls f' n lo hi limit A c w.heap.size (w.heap.size + 1) (w.heap.size + 2) (w.heap.size + 3) bB (w.heap.size + 4) w') (hs : Rd w' bB A (ls.flatMap eSegment)) (hr : Rd w' bB A4 (ints ys)) => choices_any ls n f' lo hi limit Hlay.out Hen.out hn24 hfl A A4 c w.heap.size (w.heap.size + 1) (w.heap.size + 2) (w.heap.size + 3) bB (w.heap.size + 4) c4 ys k hk h8 w' hc hs hr)
  obtain ⟨s0, sf, ss⟩ := bk1 X3.out.lay
  obtain ⟨f0, ff, fs⟩ := bk1 X3.out.fr
  obtain ⟨d0, df, ds⟩ := bk1 X3.out.cn
  go_wp2_with fail
  refine HBr.out.mono ?_
  rintro e w4 ⟨ys, A4, c4, rfl, o4, b4, hy1, hy2⟩
  have z4 := b4.size
  have Hs4 := Lib.hid (Hs3.out.below b4 (by omega))
  have X4 := Lib.hid (X3.out.below b4)
  have B4 := Lib.hid (B3.out.trans (b4.mono (by omega)))
  have O4 := Lib.hid o4
  have hlb := brkK_len ls f' n ls.length
  have hyl : ys.length ≤ 24 := by omega
  clear b4 o4 s0 sf ss f0 ff fs d0 df ds Hs3 X3 B3 HBr hlb HX2
  rw [← hy1] at hX
  by_cases h8 : ys.length ≤ 8
  rotate_left
  · rw [if_neg h8] at hX
    have HX3 := Lib.hid (show X = ([], 3) from hX.symm)
    have hd : decide ((8 : Int) < (ys.length : Int)) = true := decide_eq_true (by omega)
    have hd2 : (8 : Int) < (ys.length : Int) := by omega
    clear hX hy1 hy2 h8
    go_wp2
    go_ret2
    exact lbP_err HX3.out B4.out
  rw [if_pos h8, ← hy2 h8] at hX
  have HX3 := Lib.hid hX
  clear hX hy1 hy2
  have hd2 : ¬ (8 : Int) < (ys.length : Int) := by omega
  have HC0 : Hid (Caught ls f' n lo hi limit A c w.heap.size (w.heap.size + 1) (w.heap.size + 2) (w.heap.size + 3) w4.heap.size (w.heap.size + 4) (w4.alloc (.cells #[.slice none 0 0] 27))) := Lib.hid ⟨bk_alloc X4.out.lay _, bk_alloc X4.out.fr _, bk_alloc X4.out.cn _, bk_alloc X4.out.en _, bk_alloc X4.out.lm _, ⟨none, 0, 0, bk_new _ _ _⟩, by omega, by omega, by omega, by omega, by omega⟩
  have Hs5 := Lib.hid (Hs4.out.alloc (by omega) (.cells #[.slice none 0 0] 27))
  have Hr5 := Lib.hid ((Rd.of_own O4.out).alloc (Nat.le_refl _) (.cells #[.slice none 0 0] 27))
  have B5 := Lib.hid (show Below w.heap.size w (w4.alloc (.cells #[.slice none 0 0] 27)) from B4.out.trans ((Below.refl _ _).alloc (by omega) _))
  have z5 : (w4.alloc (.cells #[.slice none 0 0] 27)).heap.size = w4.heap.size + 1 := by simp
  clear Hs4 O4 X4 B4
  generalize kpB ls f' n lo hi limit = kp at *
  go_wp2_with fail
  generalize hwa : w4.alloc (.cells #[.slice none 0 0] 27) = wa at *
  clear hwa
  go_loopw [54] (fun v wr => ∃ k : Nat, k ≤ ys.length + 1 ∧ v = .int .i64 k ∧ impS kp ys k = none ∧ Caught ls f' n lo hi limit A c w.heap.size (w.heap.size + 1) (w.heap.size + 2) (w.heap.size + 3) w4.heap.size (w.heap.size + 4) wr ∧ wa.grownBy wr (some w4.heap.size)) (fun v _ => ys.length + 1 - (intOf v).toNat)
  case atStart => exact ⟨0, Nat.zero_le _, rfl, rfl, HC0.out, World.grownBy.refl _ _⟩
  case round =>
    obtain ⟨k, hk, rfl, hnone, hc, hg⟩ := hrel
    have Hn := Lib.hid hnone
    have Hc := Lib.hid hc
    have Hg := Lib.hid hg
    have Hsr := Lib.hid ((Hs5.out.grown hg (by omega) (fun g e => by injection e with e; omega)).more (show B ≤ w4.heap.size by omega))
    have Hrr := Lib.hid (Hr5.out.grown hg (by omega) (fun g e => by injection e with e; omega))
    have Br := Lib.hid (B5.out.trans (below_of_grownBy (B := w.heap.size) hg (by omega) (fun g e => by injection e with e; omega)))
    clear hnone hc hg
    by_cases hlt : k < ys.length + 1
    · have hlt2 : (k : Int) < (ys.length : Int) + 1 := by omega
      have HC := Lib.hid (HK.out ys h8 k (by omega) A4 c4 w4.heap.size wr Hc.out Hsr.out Hrr.out)
      have HS := Lib.hid (show impS kp ys (k + 1) = (cmb ys k).find? kp by
        show (match impS kp ys k with | some x => some x | none => (cmb ys k).find? kp) = _
        rw [Hn.out])
      generalize (cmb ys k).find? kp = r at *
      cases r with
      | none =>
        go_wp2_with fail
        refine HC.out.mono ?_
        rintro e w6 ⟨rfl, g6, s6, _⟩
        have C6 := Lib.hid (Hc.out.grown g6 s6)
        have G6 := Lib.hid (grownBy_trans Hg.out g6)
        clear g6 s6
        go_wp2
        go_roundw
        case rel => exact ⟨k + 1, by omega, by first | rfl | go_num, HS.out, C6.out, G6.out⟩
        case measure => first | (simp [intOf]; omega) | (simp [intOf]; done)
      | some x =>
        have hX := HX3.out
        have hst := impS_stay HS.out (ys.length - k)
        rw [show k + 1 + (ys.length - k) = ys.length + 1 by omega] at hst
        rw [hst] at hX
        have HX4 := Lib.hid (show X = (x, 0) from hX.symm)
        clear hX hst HX3
        go_wp2_with fail
        refine HC.out.mono ?_
        rintro e w6 ⟨rfl, g6, _, x6⟩
        obtain ⟨A6, c6, k6, o6⟩ := x6 x rfl
        have B6 := Lib.hid (Br.out.trans (below_of_grownBy (B := w.heap.size) g6 (by have := bk_lt Hc.out.lay; omega) (fun g e => by injection e with e; omega)))
        have O6 := Lib.hid o6
        obtain ⟨t0, tf, ts⟩ := bk1 k6
        clear g6 x6 o6 k6
        go_wp2
        go_ret2
        have e := HX4.out
        subst e
        exact ⟨A6, c6, rfl, own_more O6.out (by omega), B6.out⟩
    · have hlt2 : ¬ (k : Int) < (ys.length : Int) + 1 := by omega
      have e : k = ys.length + 1 := by omega
      have hX := HX3.out
      have hN := Hn.out
      rw [e] at hN
      rw [hN] at hX
      have HX4 := Lib.hid (show X = ([], 4) from hX.symm)
      clear hX hN e HX3
      go_wp2
      go_ret2
      exact lbP_err HX4.out Br.out
end Go.Proofs.Ytooifamckccadaa
