/- The energies along a run of segments, without devices: walks of the program. -/
import Derived.Test.YtooifamckccadaaRv
import Derived.Test.YtooifamckccadaaStep
import Derived.Deep.RegionHeld3
import Derived.StillTailTactics
import Derived.Test.YtooifamckccadaaApp
namespace Go.Proofs.Ytooifamckccadaa
open Go.ChangeShapes Go.WideShapes Go.ChangeAt Go.RowKit
set_option maxRecDepth 20000
set_option linter.unusedVariables false
set_option linter.unusedSimpArgs false
theorem areDev_impl (ls : List Seg) (on : List Int) (A : Option Addr) (B c : Nat) (A' : Option Addr) (c' : Nat) (w : World) (hs : Rd w B A (ls.flatMap eSegment)) (hr : Rd w B A' (ints on)) (hB : B ≤ w.heap.size) (hn : ls.length ≤ 1048576) (hn2 : on.length ≤ 1048576) :
   Calls Try.prog 63 #[.agg #[.slice A ls.length c], .slice A' on.length c'] w fun e w' => e = .returned (.bool (layB ls && devB ls on)) ∧ Below w.heap.size w w' := by
  have Hs := Lib.hid (hs.alloc hB (.cells #[.slice A ls.length c] 26))
  have Hr := Lib.hid (hr.alloc hB (.cells #[.slice A ls.length c] 26))
  have HL := Lib.hid (fun (w' : World) (h : Rd w' B A (ls.flatMap eSegment)) (h3 : B ≤ w'.heap.size) => isLayout_impl ls A B c w' h h3 hn)
  have HD := Lib.hid (fun (w' : World) (h : Rd w' B A (ls.flatMap eSegment)) (h2 : Rd w' B A' (ints on)) (h3 : B ≤ w'.heap.size) => areDevices_any ls on A B c A' c' w' h h2 h3 hn hn2)
  clear hs hr
  generalize layB ls = L at *
  generalize devB ls on = D at *
  cases L
  all_goals (
    go_enter Try.func63, Try.ntmps63
    go_wp2_with (first | (go_at_call 106; refine (HL.out _ (by exact Hs.out) (by simp; omega)).mono ?_; rintro e w1 ⟨rfl, b1⟩; have Hs1 := Lib.hid (Hs.out.below b1 (by simp; omega)); have Hr1 := Lib.hid (Hr.out.below b1 (by simp; omega)); obtain ⟨hc1, hf1, hz1⟩ := bstep (N := w.heap.size + 1) (by go_size) b1; have hy1 : w.heap.size < w1.heap.size := (by omega)) | (go_at_call 77; refine (HD.out _ (by exact Hs1.out) (by exact Hr1.out) (by omega)).mono ?_; rintro e w2 ⟨rfl, b2⟩))
    go_ret
    exact ⟨by simp, by repeat' (first | (with_reducible exact Below.refl _ _) | (with_reducible assumption) | (with_reducible refine Below.alloc ?_ ?_ _) | (with_reducible refine Below.drew ?_) | (with_reducible refine below_drewN ?_ _) | (with_reducible refine Below.setCell ?_ ?_ _) | (with_reducible refine Below.trans ?_ (Below.mono (by assumption) ?_)) | go_size | (exact Below.size (by assumption)))⟩)
theorem areDev_spec (ls : List Seg) (on : List Int) (A : Option Addr) (B c : Nat) (A' : Option Addr) (c' : Nat) (w : World) (hs : Rd w B A (ls.flatMap eSegment)) (hr : Rd w B A' (ints on)) (hB : B ≤ w.heap.size) (hn : ls.length ≤ 1048576) (hn2 : on.length ≤ 1048576) :
   Calls Try.prog 64 #[.agg #[.slice A ls.length c], .slice A' on.length c'] w fun e w' => e = .returned (.bool (layB ls && devB ls on)) ∧ Below w.heap.size w w' := by
  have Hs := Lib.hid (hs.alloc hB (.cells #[.slice A ls.length c] 26))
  have Hr := Lib.hid (hr.alloc hB (.cells #[.slice A ls.length c] 26))
  have HL := Lib.hid (fun (w' : World) (h : Rd w' B A (ls.flatMap eSegment)) (h3 : B ≤ w'.heap.size) => isLayout_spec ls A B c w' h h3 hn)
  have HD := Lib.hid (fun (w' : World) (h : Rd w' B A (ls.flatMap eSegment)) (h2 : Rd w' B A' (ints on)) (h3 : B ≤ w'.heap.size) => l08Devices_any ls on A B c A' c' w' h h2 h3 hn hn2)
  clear hs hr
  generalize layB ls = L at *
  generalize devB ls on = D at *
  cases L
  all_goals (
    go_enter Try.func64, Try.ntmps64
    go_wp2_with (first | (go_at_call 99; refine (HL.out _ (by exact Hs.out) (by simp; omega)).mono ?_; rintro e w1 ⟨rfl, b1⟩; have Hs1 := Lib.hid (Hs.out.below b1 (by simp; omega)); have Hr1 := Lib.hid (Hr.out.below b1 (by simp; omega)); obtain ⟨hc1, hf1, hz1⟩ := bstep (N := w.heap.size + 1) (by go_size) b1; have hy1 : w.heap.size < w1.heap.size := (by omega)) | (go_at_call 83; refine (HD.out _ (by exact Hs1.out) (by exact Hr1.out) (by omega)).mono ?_; rintro e w2 ⟨rfl, b2⟩))
    go_ret
    exact ⟨by simp, by repeat' (first | (with_reducible exact Below.refl _ _) | (with_reducible assumption) | (with_reducible refine Below.alloc ?_ ?_ _) | (with_reducible refine Below.drew ?_) | (with_reducible refine below_drewN ?_ _) | (with_reducible refine Below.setCell ?_ ?_ _) | (with_reducible refine Below.trans ?_ (Below.mono (by assumption) ?_)) | go_size | (exact Below.size (by assumption)))⟩)
/-- the segments of a run, one behind the other -/
def alongL (ls : List Seg) (f : Nat) : Nat → List Seg
  | 0 => []
  | n + 1 => match ls[(f + n) % ls.length]? with | some t => alongL ls f n ++ [t] | none => alongL ls f n
theorem alongL_step {ls : List Seg} {f n : Nat} {t : Seg} (h : ls[(f + n) % ls.length]? = some t) : alongL ls f (n + 1) = alongL ls f n ++ [t] := by rw [alongL, h]
theorem alongL_len {ls : List Seg} (h0 : 0 < ls.length) (f : Nat) : ∀ n, (alongL ls f n).length = n
  | 0 => rfl
  | n + 1 => by
    have ht := List.getElem?_eq_getElem (Nat.mod_lt (f + n) h0)
    rw [alongL_step ht, List.length_append, alongL_len h0 f n]; rfl
theorem alongL_at {ls : List Seg} (h0 : 0 < ls.length) (f : Nat) : ∀ n k, k < n → (alongL ls f n)[k]? = ls[(f + k) % ls.length]?
  | 0, k, h => absurd h (Nat.not_lt_zero _)
  | n + 1, k, h => by
    have ht := List.getElem?_eq_getElem (Nat.mod_lt (f + n) h0)
    have hl := alongL_len h0 f n
    rw [alongL_step ht]
    by_cases hk : k < n
    · rw [List.getElem?_append_left (by omega)]
      exact alongL_at h0 f n k hk
    · have hkn : k = n := by omega
      subst hkn
      rw [List.getElem?_append_right (by omega), hl, Nat.sub_self, ht]
      rfl
theorem below_drew1' (N : Nat) (w : World) : Below N w w.drew := (Below.refl _ _).drew
theorem step_append_seg {w : World} {ops : Array Oper} {o : Oper} {a : Act} {K : Act → World → Prop} {Q : Exit → Act → World → Prop} {E : Prop} (hgd : o.guard = none) (s x : Operand)
    (ho : o.op = .call { callee := .builtin .append, args := #[s, x], argTypes := #[24, 24] })
    (base : Nat) (v : Value) (n : Nat) (l : List Seg) (hs : a.eval s = v) (hown : w.ownsRow base 39 7 v n (l.flatMap eSegment)) (t : Seg) (cs : Array Value) (hcs : cs = (eSegment t).toArray) (q : Nat) (hq : w.heap.size = q) (hx : a.eval x = .slice (some ⟨q, 0, none⟩) 1 1)
    (hn : n ≤ 1048576) (hbase : base ≤ w.heap.size)
    (h : ∀ v' w', w'.ownsRow base 39 7 v' (n + 1) ((l ++ [t]).flatMap eSegment) → Below base w w' → w.heap.size < w'.heap.size → K (a.put o.dst v') w') :
    if Region.wanted o (yielded ops a.tmps) = true then Oper.wp Try.prog o a (w.alloc (.cells cs 39)) K Q else E := by
  subst hcs
  subst hq
  obtain ⟨i0, hi0, hz0, hz1, hz2⟩ := info_parts infoSegment
  refine step_append_rd hgd s x 24 ho base 39 i0 _ 7 56 Try.underlying24 hi0 hz0 hz1 hz2 rfl (by decide) v n _ hs (hown.alloc _) (w.heap.size + 1) _ 1 1 (eSegment t) hx rfl (rd_litc w _ _ _ (by omega)) (eSeg_one _) (by unfold maxLen; omega) (by omega) (by simp; omega) ?_
  intro v' w' h1 h2 h3
  refine h v' w' (by simpa using h1) (((Below.refl _ _).alloc hbase _).trans h2) (by simp at h3; omega)
theorem step_append_segd {w : World} {ops : Array Oper} {o : Oper} {a : Act} {K : Act → World → Prop} {Q : Exit → Act → World → Prop} {E : Prop} (hgd : o.guard = none) (s x : Operand)
    (ho : o.op = .call { callee := .builtin .append, args := #[s, x], argTypes := #[24, 24] })
    (base : Nat) (v : Value) (n : Nat) (l : List Seg) (hs : a.eval s = v) (hown : w.ownsRow base 39 7 v n (l.flatMap eSegment)) (t : Seg) (cs : Array Value) (hcs : cs = (eSegment t).toArray) (q : Nat) (hq : w.heap.size = q) (hx : a.eval x = .slice (some ⟨q, 0, none⟩) 1 1)
    (hn : n ≤ 1048576) (hbase : base ≤ w.heap.size)
    (h : ∀ v' w', w'.ownsRow base 39 7 v' (n + 1) ((l ++ [t]).flatMap eSegment) → Below base w w' → w.heap.size < w'.heap.size → K (a.put o.dst v') w') :
    if Region.wanted o (yielded ops a.tmps) = true then Oper.wp Try.prog o a ((w.alloc (.cells cs 39)).drew) K Q else E :=
  step_append_seg (w := w.drew) hgd s x ho base v n l hs (own_drew hown) t cs hcs q hq hx hn hbase fun v' w' h1 h2 h3 => h v' w' h1 ((below_drew1' _ _).trans h2) h3
set_option maxHeartbeats 2000000 in
theorem along_any (ls : List Seg) (n f : Nat) (hl : ls.length ≤ 24) (hn : n ≤ 24) (hf : f < ls.length) (A : Option Addr) (B c : Nat) (w : World) (hs : Rd w B A (ls.flatMap eSegment)) (hB : B ≤ w.heap.size) :
   Calls Try.prog 128 #[.agg #[.slice A ls.length c], .int .i64 f, .int .i64 n] w fun e w' => ∃ A2 c2, e = .returned (.slice A2 n c2) ∧ w'.ownsRow w.heap.size 39 7 (.slice A2 n c2) n ((alongL ls f n).flatMap eSegment) ∧ Below w.heap.size w w' := by
  have Hs := Lib.hid hs
  clear hs
  go_enter Try.func128, Try.ntmps128
  go_wp2_with fail
  go_loopw [7, 10] (fun v i wr => ∃ k : Nat, k ≤ n ∧ i = .int .i64 k ∧ wr.ownsRow (w.heap.size + 1) 39 7 v k ((alongL ls f k).flatMap eSegment) ∧ Below w.heap.size w wr ∧ w.heap.size + 1 ≤ wr.heap.size ∧ wr.cell? ⟨w.heap.size, 0, none⟩ = some (.slice A ls.length c)) (fun _ i _ => n - (intOf i).toNat)
  case atStart => exact ⟨0, Nat.zero_le _, rfl, World.ownsRow_nil _ _ _ _, by repeat' (first | (with_reducible exact Below.refl _ _) | (with_reducible assumption) | (with_reducible refine Below.alloc ?_ ?_ _) | (with_reducible refine Below.drew ?_) | (with_reducible refine below_drewN ?_ _) | (with_reducible refine Below.setCell ?_ ?_ _) | (with_reducible refine Below.trans ?_ (Below.mono (by assumption) ?_)) | go_size | (exact Below.size (by assumption))), by simp, by go_cell⟩
  case round =>
    obtain ⟨k, hk, rfl, hown, hbw, hsz, cL⟩ := hrel
    by_cases hlt : k < n
    · have hm := Nat.mod_lt (f + k) (show 0 < ls.length by omega)
      have e2 := tmod_nat (f + k) ls.length
      have ht := List.getElem?_eq_getElem hm
      generalize ls[(f + k) % ls.length] = t at ht
      have hst := alongL_step ht
      generalize (f + k) % ls.length = j at ht hm e2 hst
      obtain ⟨s, hs⟩ : ∃ s : Nat, s = f + k := ⟨_, rfl⟩
      have he1 := Lib.hid (show IntKind.i64.wrap ((f : Int) + (k : Int)) = (s : Int) from by rw [show (f : Int) + (k : Int) = (s : Int) by omega]; exact IntWalk.i64_in _ (by omega))
      have e2' : (s : Int).tmod (ls.length : Int) = (j : Int) := by rw [hs]; exact e2
      have e3 : (s : Int) % (ls.length : Int) = (j : Int) := by rw [← e2']; exact (Int.tmod_eq_emod_of_nonneg (Int.natCast_nonneg _)).symm
      clear e2 hs
      obtain ⟨bs, os, rfl, hbB, c0, c1, c2, c3, c4, c5, c6⟩ := (Hs.out.below hbw hB).atSegment ht
      have hls : ls ≠ [] := by intro h; rw [h] at hf; simp at hf
      have hls0 : ls.length ≠ 0 := by omega
      have hne : ((ls.length : Int) == 0) = false := by rw [beq_eq_false_iff_ne]; omega
      have hi0 : (0 : Int) ≤ (j : Int) := by omega
      have hi1 : (j : Int) < (ls.length : Int) := by omega
      have Ho := Lib.hid hown
      have Hst := Lib.hid hst
      clear hown hst ht
      obtain ⟨tk, tl, tr, trl, trh, tfl, tfh⟩ := t
      dsimp only at *
      have g0 : w.heap.size < wr.heap.size := by omega
      have g2 : bs < wr.heap.size := by omega
      have gbs : bs < w.heap.size + 1 := by omega
      have g3 : wr.heap.size ≠ w.heap.size := by omega
      have g5 : wr.heap.size ≠ bs := by omega
      have hkn : k ≤ 1048576 := by omega
      have hln : ls.length ≤ 1048576 := by omega
      go_wp2_with fail
      have Hb := Lib.hid hbw
      clear hbw
      have e1 := he1.out
      have hcL := Lib.hid cL
      clear he1
      go_region_held3 (fun w' => w'.cell? ⟨w.heap.size, 0, none⟩ = some (.slice (some ⟨bs, os, none⟩) ls.length c) ∧ w'.cell? ⟨bs, os + j * 7, none⟩ = some (.int .i64 tk) ∧ w'.cell? ⟨bs, os + j * 7 + 1, none⟩ = some (.int .i64 tl) ∧ w'.cell? ⟨bs, os + j * 7 + 2, none⟩ = some (.int .i64 tr) ∧ w'.cell? ⟨bs, os + j * 7 + 3, none⟩ = some (.int .i64 trl) ∧ w'.cell? ⟨bs, os + j * 7 + 4, none⟩ = some (.int .i64 trh) ∧ w'.cell? ⟨bs, os + j * 7 + 5, none⟩ = some (.int .i64 tfl) ∧ w'.cell? ⟨bs, os + j * 7 + 6, none⟩ = some (.int .i64 tfh)) (first | assumption | ((repeat' (apply And.intro)) <;> (first | assumption | go_cell | simp [*, World.cell?_alloc_past, World.cell?_setCell_far])))
        ((first | (go_at_call 108; refine (length_seg _ _ _ hln _).mono ?_; rintro e w' ⟨rfl, rfl⟩) | (clear e1 e2' e3; refine step_append_segd rfl (.tmp 13) (.tmp 25) (by rfl) (w.heap.size + 1) _ k (alongL ls f k) (by rfl) (by exact Ho.out) (tk, tl, tr, trl, trh, tfl, tfh) _ rfl wr.heap.size (by first | rfl | simp) (by rfl) hkn (by first | omega | (simp; omega)) ?_; intro v5 w5 own5 hb5 hz5; have O5 := Lib.hid own5; have B5 := Lib.hid (Hb.out.trans (Below.trans (by first | exact Below.refl _ _ | exact Below.drew (Below.refl _ _)) (hb5.mono (show w.heap.size ≤ w.heap.size + 1 by omega)))); have cL5 := Lib.hid ((hb5.cell (p := ⟨w.heap.size, 0, none⟩) (by simp)).trans (by first | exact hcL.out | simpa using hcL.out)); have hz6 : w.heap.size + 1 ≤ w5.heap.size := (by have := hb5.size; (try simp only [World.size_drew] at this); omega); have hc5 : ∀ o : Nat, w5.cell? ⟨bs, o, none⟩ = wr.cell? ⟨bs, o, none⟩ := (fun o => hb5.cell (p := ⟨bs, o, none⟩) gbs); clear hb5 own5 hz5)))
      all_goals (
        go_wp2
        go_roundw)
      all_goals first | exact ⟨k + 1, by omega, by go_num, by rw [Hst.out]; exact O5.out, B5.out, hz6, cL5.out⟩ | (simp [intOf]; omega)
    · have hkn : k = n := by omega
      subst hkn
      obtain ⟨A2, c2, rfl⟩ := own_val hown
      go_wp2
      go_ret
      exact ⟨A2, c2, rfl, own_more hown (by omega), hbw⟩
end Go.Proofs.Ytooifamckccadaa
