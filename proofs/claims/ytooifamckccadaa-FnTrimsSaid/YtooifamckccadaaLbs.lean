/- The brakes in a run of segments, and the search by masks: walks of the reference. -/
import Derived.Test.YtooifamckccadaaLbk
import Derived.Test.YtooifamckccadaaApp
import Derived.Test.YtooifamckccadaaDm
namespace Go.Proofs.Ytooifamckccadaa
open Go.ChangeShapes Go.WideShapes Go.ChangeAt Go.RowKit
set_option maxRecDepth 20000
set_option linter.unusedVariables false
set_option linter.unusedSimpArgs false
/-- is segment k of n a brake in the run of cnt segments from f -/
def brkT (n f cnt k : Nat) (t : Seg) : Bool := (t.1 == 3) && decide (((k : Int) - (f : Int)) % (n : Int) < (cnt : Int))
/-- the brakes of the run among the first k segments -/
def brkK (ls : List Seg) (f cnt : Nat) : Nat → List Int
  | 0 => []
  | k + 1 => brkK ls f cnt k ++ (match ls[k]? with | some t => if brkT ls.length f cnt k t then [(k : Int)] else [] | none => [])
theorem brkK_step {ls : List Seg} {f cnt k : Nat} {t : Seg} (h : ls[k]? = some t) : brkK ls f cnt (k + 1) = brkK ls f cnt k ++ (if brkT ls.length f cnt k t then [(k : Int)] else []) := by simp [brkK, h]
theorem brkK_len (ls : List Seg) (f cnt k : Nat) : (brkK ls f cnt k).length ≤ k := by
  induction k with
  | zero => simp [brkK]
  | succ k ih =>
    simp only [brkK, List.length_append]
    split
    · split <;> simp <;> omega
    · simp; omega
set_option maxHeartbeats 1000000 in
theorem l09Brakes_any (ls : List Seg) (f cnt : Nat) (hl : ls.length ≤ 24) (hf : f < ls.length) (hc : cnt ≤ 24) (A : Option Addr) (B c : Nat) (w : World) (hs : Rd w B A (ls.flatMap eSegment)) (hB : B ≤ w.heap.size) :
   Calls Try.prog 101 #[.agg #[.slice A ls.length c], .int .i64 f, .int .i64 cnt] w fun e w' => ∃ A2 c2, e = .returned (.slice A2 (brkK ls f cnt ls.length).length c2) ∧ w'.ownsRow w.heap.size 2 1 (.slice A2 (brkK ls f cnt ls.length).length c2) (brkK ls f cnt ls.length).length (ints (brkK ls f cnt ls.length)) ∧ Below w.heap.size w w' := by
  obtain ⟨i0, hi0, hz0, hz1, hz2⟩ := info_parts infoInt64
  have Hs := Lib.hid hs
  have O0 : Hid (((w.alloc (.cells #[.slice A ls.length c] 26)).alloc (.cells #[] 2)).ownsRow (w.heap.size + 1) 2 1 (.slice (some ⟨w.heap.size + 1, 0, none⟩) 0 0) 0 []) := Lib.hid (by
    have := World.ownsRow_made (base := w.heap.size + 1) (e := 2) (size := 1) (w.alloc (.cells #[.slice A ls.length c] 26)) #[] 0 (by simp) (by simp [maxLen]) rfl
    simpa using this)
  have L0 := Lib.hid (bk_alloc (bk_new w #[.slice A ls.length c] 26) (.cells #[] 2))
  clear hs
  go_enter Try.func101, Try.ntmps101
  go_wp2_with fail
  go_loopw [8, 9] (fun v i wr => ∃ k : Nat, k ≤ ls.length ∧ i = .int .i64 k ∧ wr.ownsRow (w.heap.size + 1) 2 1 v (brkK ls f cnt k).length (ints (brkK ls f cnt k)) ∧ Bk wr w.heap.size #[.slice A ls.length c] ∧ Below w.heap.size w wr) (fun _ i _ => ls.length - (intOf i).toNat)
  case atStart => exact ⟨0, Nat.zero_le _, rfl, by simpa [brkK, ints] using O0.out, L0.out, by repeat' (first | (with_reducible exact Below.refl _ _) | (with_reducible assumption) | (with_reducible refine Below.alloc ?_ ?_ _) | (with_reducible refine Below.drew ?_) | (with_reducible refine below_drewN ?_ _) | (with_reducible refine Below.setCell ?_ ?_ _) | (with_reducible refine Below.trans ?_ (Below.mono (by assumption) ?_)) | go_size | (exact Below.size (by assumption)))⟩
  case round =>
    clear O0 L0
    obtain ⟨k, hk, rfl, hown, hbk, hbw⟩ := hrel
    have hsz := hbw.size
    have hln := brkK_len ls f cnt k
    have Ho := Lib.hid hown
    have Hk := Lib.hid hbk
    have Hb := Lib.hid hbw
    obtain ⟨s0, sf, ss⟩ := bk1 hbk
    by_cases hlt : k < ls.length
    · have ht := List.getElem?_eq_getElem hlt
      generalize ls[k] = t at ht
      obtain ⟨b, o, rfl, hbB, c0, c1, c2, c3, c4, c5, c6⟩ := (Hs.out.below hbw hB).atSegment ht
      have hst := brkK_step (f := f) (cnt := cnt) ht
      have hl2 : (brkK ls f cnt k).length ≤ 1048576 := by omega
      have hlt2 : (k : Int) < (ls.length : Int) := by omega
      have j0 : (0 : Int) ≤ (k : Int) := by omega
      clear c1 c2 c3 c4 c5 c6 ht hown hbk hbw hln
      obtain ⟨tk, tq⟩ := t
      dsimp only at *
      by_cases h3 : tk = 3
      · have HM := Lib.hid (fun w' => l05Mod_any ((k : Int) - (f : Int)) (ls.length : Int) (by omega) (by omega) (by omega) (by omega) w')
        have hk3 : (tk == 3) = true := by simpa using h3
        by_cases hm : ((k : Int) - (f : Int)) % (ls.length : Int) < (cnt : Int)
        · have hbt : brkT ls.length f cnt k (tk, tq) = true := by simp [brkT, h3, hm]
          rw [hbt, if_pos rfl] at hst
          have Hst := Lib.hid hst
          clear hst hbt h3
          generalize ((k : Int) - (f : Int)) % (ls.length : Int) = q at *
          generalize brkK ls f cnt k = Z at *
          go_wp2_with (first | (go_at_call 155; refine (HM.out _).mono ?_; rintro e w' ⟨rfl, rfl⟩) | (at_builtin; refine wpList_append_int rfl (.tmp 35) (.tmp 37) 27 rfl (w.heap.size + 1) 2 i0 Try.underlying27 hi0 hz0 hz1 hz2 _ _ Z (by rfl) Ho.out (k : Int) (by rfl) hl2 (by omega) ?_; intro v5 w5 own5 hb5 hz5; have O5 := Lib.hid own5; have K5 := Lib.hid (bk_below Hk.out hb5 (by omega)); have B5 := Lib.hid (Hb.out.trans (hb5.mono (by omega))); clear own5 hb5))
          go_roundw
          case rel => exact ⟨k + 1, by omega, by go_num, by rw [Hst.out]; simpa using O5.out, K5.out, B5.out⟩
          case measure => simp [intOf]; omega
        · have hbt : brkT ls.length f cnt k (tk, tq) = false := by simp [brkT, hm]
          rw [hbt, if_neg (by simp), List.append_nil] at hst
          have Hst := Lib.hid hst
          clear hst hbt h3
          generalize ((k : Int) - (f : Int)) % (ls.length : Int) = q at *
          generalize brkK ls f cnt k = Z at *
          go_wp2_with (go_at_call 155; refine (HM.out _).mono ?_; rintro e w' ⟨rfl, rfl⟩)
          go_roundw
          case rel => exact ⟨k + 1, by omega, by go_num, by rw [Hst.out]; exact Ho.out, Hk.out, Hb.out⟩
          case measure => simp [intOf]; omega
      · have hk3 : (tk == 3) = false := by simpa using h3
        have hbt : brkT ls.length f cnt k (tk, tq) = false := by simp [brkT, hk3]
        rw [hbt, if_neg (by simp), List.append_nil] at hst
        have Hst := Lib.hid hst
        clear hst hbt h3
        generalize brkK ls f cnt k = Z at *
        go_wp2_with fail
        go_roundw
        case rel => exact ⟨k + 1, by omega, by go_num, by rw [Hst.out]; exact Ho.out, Hk.out, Hb.out⟩
        case measure => simp [intOf]; omega
    · have hk' : k = ls.length := by omega
      subst hk'
      obtain ⟨A2, c2, rfl⟩ := own_val hown
      have hlt2 : ¬ (ls.length : Int) < (ls.length : Int) := by omega
      clear hown hbk hbw hln
      go_wp2
      go_ret
      exact ⟨A2, c2, rfl, own_more Ho.out (by omega), Hb.out⟩
end Go.Proofs.Ytooifamckccadaa
