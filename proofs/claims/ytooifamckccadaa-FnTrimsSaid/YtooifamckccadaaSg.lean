/- Lists of segments: the helpers of the laws. -/
import Derived.Test.YtooifamckccadaaA
import Derived.Test.YtooifamckccadaaRd
import Derived.Deep.RegionWith
namespace Go.Proofs.Ytooifamckccadaa
open Go.ChangeShapes Go.WideShapes Go.ChangeAt Go.RowKit
set_option linter.unusedVariables false
set_option linter.unusedSimpArgs false
set_option maxRecDepth 20000
def eSegment (t : Int × Int × Int × Int × Int × Int × Int) : List Value := [.int .i64 t.1, .int .i64 t.2.1, .int .i64 t.2.2.1, .int .i64 t.2.2.2.1, .int .i64 t.2.2.2.2.1, .int .i64 t.2.2.2.2.2.1, .int .i64 t.2.2.2.2.2.2]
theorem eSegment_len (t : Int × Int × Int × Int × Int × Int × Int) : (eSegment t).length = 7 := rfl
def okSegment (t : Int × Int × Int × Int × Int × Int × Int) : Prop := (Lit.int .i64 t.1).wf = true ∧ (Lit.int .i64 t.2.1).wf = true ∧ (Lit.int .i64 t.2.2.1).wf = true ∧ (Lit.int .i64 t.2.2.2.1).wf = true ∧ (Lit.int .i64 t.2.2.2.2.1).wf = true ∧ (Lit.int .i64 t.2.2.2.2.2.1).wf = true ∧ (Lit.int .i64 t.2.2.2.2.2.2).wf = true
theorem kindsSegment {cs : List Value} (h : AreKinds [some .i64, some .i64, some .i64, some .i64, some .i64, some .i64, some .i64] cs) : ∃ t, cs = eSegment t ∧ okSegment t := by
  obtain ⟨_, _, rfl, ⟨x0, rfl, wx0⟩, _, _, rfl, ⟨x1, rfl, wx1⟩, _, _, rfl, ⟨x2, rfl, wx2⟩, _, _, rfl, ⟨x3, rfl, wx3⟩, _, _, rfl, ⟨x4, rfl, wx4⟩, _, _, rfl, ⟨x5, rfl, wx5⟩, _, _, rfl, ⟨x6, rfl, wx6⟩, rfl⟩ := h
  exact ⟨(x0, x1, x2, x3, x4, x5, x6), rfl, wx0, wx1, wx2, wx3, wx4, wx5, wx6⟩
theorem Rd.atSegment {w : World} {B : Nat} {A : Option Addr} {l : List (Int × Int × Int × Int × Int × Int × Int)} (h : Rd w B A (l.flatMap eSegment)) {k : Nat} {t : Int × Int × Int × Int × Int × Int × Int} (hk : l[k]? = some t) :
    ∃ b o, A = some ⟨b, o, none⟩ ∧ b < B ∧ w.cell? ⟨b, o + k * 7, none⟩ = some (.int .i64 t.1) ∧ w.cell? ⟨b, o + k * 7 + 1, none⟩ = some (.int .i64 t.2.1) ∧ w.cell? ⟨b, o + k * 7 + 2, none⟩ = some (.int .i64 t.2.2.1) ∧ w.cell? ⟨b, o + k * 7 + 3, none⟩ = some (.int .i64 t.2.2.2.1) ∧ w.cell? ⟨b, o + k * 7 + 4, none⟩ = some (.int .i64 t.2.2.2.2.1) ∧ w.cell? ⟨b, o + k * 7 + 5, none⟩ = some (.int .i64 t.2.2.2.2.2.1) ∧ w.cell? ⟨b, o + k * 7 + 6, none⟩ = some (.int .i64 t.2.2.2.2.2.2) := by
  obtain ⟨b, o, e, hb, hc⟩ := h.row 7 eSegment_len (by omega) hk
  exact ⟨b, o, e, hb, hc 0 _ rfl, hc 1 _ rfl, hc 2 _ rfl, hc 3 _ rfl, hc 4 _ rfl, hc 5 _ rfl, hc 6 _ rfl⟩
theorem openlawsSegmentS {H : Type} {enc : TypeId × Value → H} {W : World} {n c : Nat} {A : Option Addr} {d : DataW H} {p : List MemPlace} {b0 : Nat} {sp : Nat → Bool} {hd : Bool} (h : DataW.Trod enc Try.prog W b0 sp hd 48 (.slice A n c) d p) :
    ∃ l : List (Int × Int × Int × Int × Int × Int × Int), l.length = n ∧ Rd W W.heap.size A (l.flatMap eSegment) ∧ n ≤ c ∧ c ≤ maxLen ∧ ∀ t ∈ l, okSegment t := by
  obtain ⟨rows, hl, hk, hr, h1, h2⟩ := open_rows_flat (ks := [some .i64, some .i64, some .i64, some .i64, some .i64, some .i64, some .i64]) (C := 7) Try.underlying48 (by kernel_rfl) (by kernel_rfl) (by omega) h
  obtain ⟨l, he, hll, hok⟩ := rows_typed eSegment okSegment rows (fun r hr => kindsSegment (hk r hr).1)
  exact ⟨l, by omega, he ▸ hr, h1, h2, hok⟩
theorem szSegmentS_small (A : Option Addr) (n c : Nat) (q : Int) (h1 : (n : Int) ≤ q) (h2 : q ≤ 1048576) (w : World) : Calls Try.prog 98 #[.slice A n c, .int .i64 q] w fun e w' => e = .returned (.int .i64 (q - (n : Int))) ∧ w = w' := by
  go_enter Try.func98, Try.ntmps98
  go_wp2
  go_ret
  exact ⟨rfl, rfl⟩
theorem szSegmentS_great (A : Option Addr) (n c : Nat) (q : Int) (h0 : 0 ≤ q) (h1 : q < (n : Int)) (h2 : q ≤ 1048576) (hn : n ≤ 9223372036854775807) (w : World) : Calls Try.prog 98 #[.slice A n c, .int .i64 q] w fun e w' => e = .returned (.int .i64 (-1)) ∧ w = w' := by
  go_enter Try.func98, Try.ntmps98
  go_wp2
  go_ret
  exact ⟨rfl, rfl⟩
theorem eqSegment_same (x0 : Int) (x1 : Int) (x2 : Int) (x3 : Int) (x4 : Int) (x5 : Int) (x6 : Int) (w : World) : Calls Try.prog 159 #[.agg #[.int .i64 x0, .int .i64 x1, .int .i64 x2, .int .i64 x3, .int .i64 x4, .int .i64 x5, .int .i64 x6], .agg #[.int .i64 x0, .int .i64 x1, .int .i64 x2, .int .i64 x3, .int .i64 x4, .int .i64 x5, .int .i64 x6]] w fun e w' => e = .returned (.bool true) ∧ Below w.heap.size w w' := by
  go_enter Try.func159, Try.ntmps159
  go_wp2
  all_goals go_ret
  all_goals exact ⟨by first | rfl | (simp [*]; done) | (simp_all []; done) | (simp_all []; omega) | (simp_all []; intros; exfalso; omega), by repeat' (first | (with_reducible exact Below.refl _ _) | (with_reducible assumption) | (with_reducible refine Below.alloc ?_ ?_ _) | (with_reducible refine Below.drew ?_) | (with_reducible refine below_drewN ?_ _) | (with_reducible refine Below.setCell ?_ ?_ _) | (with_reducible refine Below.trans ?_ (Below.mono (by assumption) ?_)) | go_size | (exact Below.size (by assumption)))⟩
theorem infoSegment : (Try.prog.info? 39).map (fun i => (i.zero, i.size, i.bytes)) = some (some (.agg #[.int .i64 0, .int .i64 0, .int .i64 0, .int .i64 0, .int .i64 0, .int .i64 0, .int .i64 0]), 7, 56) := by kernel_rfl
theorem toSegmentS_any (l : List (Int × Int × Int × Int × Int × Int × Int)) (A : Option Addr) (B c : Nat) (w : World) (hr : Rd w B A (l.flatMap eSegment)) (hB : B ≤ w.heap.size) (hn : l.length ≤ 1048576) :
   Calls Try.prog 105 #[.slice A l.length c] w fun e w' => ∃ A' c', e = .returned (.slice A' l.length c') ∧ w'.ownsRow w.heap.size 39 7 (.slice A' l.length c') l.length (l.flatMap eSegment) ∧ Below w.heap.size w w' := by
  obtain ⟨i0, hi0, hz0, hz1, hz2⟩ := info_parts infoSegment
  obtain ⟨w1, xs, hmk, hown, hxs, hb1, hz⟩ := mk_own (P := Try.prog) 24 39 i0 _ 7 56 Try.underlying24 hi0 hz0 hz1 hz2 .i64 .i64 l.length (by omega) (by unfold maxLen; omega) w.heap.size w (Nat.le_refl _)
  clear hxs
  generalize hG : w.heap.size = G at *
  go_enter Try.func105, Try.ntmps105
  go_wp2_with fail
  go_loopw [4] (fun i wr => ∃ k : Nat, k ≤ l.length ∧ i = .int .i64 k ∧ Below G w wr ∧ G < wr.heap.size ∧ ∃ xs, wr.ownsRow G 39 7 (.slice (some ⟨G, 0, none⟩) l.length l.length) l.length xs ∧ ∀ j, j < k * 7 → xs[j]? = (l.flatMap eSegment)[j]?) (fun i _ => l.length - (intOf i).toNat)
  case atStart => exact ⟨0, Nat.zero_le _, rfl, hb1, hz, xs, hown, fun j hj => by omega⟩
  case round =>
    clear hmk hown hb1
    obtain ⟨k, hk, rfl, hbw, hsz, ys, hown, hys⟩ := hrel
    by_cases hlt : k < l.length
    · have ht := List.getElem?_eq_getElem hlt
      generalize l[k] = t at ht
      have hr' := hr.below hbw (by omega)
      obtain ⟨b, o, rfl, _, c0, c1, c2, c3, c4, c5, c6⟩ := hr'.atSegment ht
      have hl2 := hown.1
      have d0 := hown.cellAt (k * 7) (by omega)
      rw [List.getElem?_eq_getElem (show k * 7 < ys.length by omega)] at d0
      generalize ys[k * 7] = u0 at d0
      have d1 := hown.cellAt (k * 7 + 1) (by omega)
      rw [List.getElem?_eq_getElem (show k * 7 + 1 < ys.length by omega)] at d1
      generalize ys[k * 7 + 1] = u1 at d1
      have d2 := hown.cellAt (k * 7 + 2) (by omega)
      rw [List.getElem?_eq_getElem (show k * 7 + 2 < ys.length by omega)] at d2
      generalize ys[k * 7 + 2] = u2 at d2
      have d3 := hown.cellAt (k * 7 + 3) (by omega)
      rw [List.getElem?_eq_getElem (show k * 7 + 3 < ys.length by omega)] at d3
      generalize ys[k * 7 + 3] = u3 at d3
      have d4 := hown.cellAt (k * 7 + 4) (by omega)
      rw [List.getElem?_eq_getElem (show k * 7 + 4 < ys.length by omega)] at d4
      generalize ys[k * 7 + 4] = u4 at d4
      have d5 := hown.cellAt (k * 7 + 5) (by omega)
      rw [List.getElem?_eq_getElem (show k * 7 + 5 < ys.length by omega)] at d5
      generalize ys[k * 7 + 5] = u5 at d5
      have d6 := hown.cellAt (k * 7 + 6) (by omega)
      rw [List.getElem?_eq_getElem (show k * 7 + 6 < ys.length by omega)] at d6
      generalize ys[k * 7 + 6] = u6 at d6
      have hfz := hown.frozenAt
      have Ht := Lib.hid ht
      have Hr := Lib.hid hr
      have Hr' := Lib.hid hr'
      have Ho := Lib.hid hown
      have Hy := Lib.hid hys
      have Hl := Lib.hid hl2
      clear ht hr hr' hown hys hl2
      go_wp2_with (go_at_call 28; refine (toSegment_any _ _ _ _ _ _ _ _).mono ?_; rintro e w2 ⟨rfl, hb⟩; obtain ⟨hc, hf, hz2⟩ := bstep (N := wr.heap.size) (Nat.le_refl _) hb)
      go_roundw
      case rel =>
        have o1 := World.ownsRow.stored (own_below Ho.out hb) (k * 7) (.int .i64 t.1)
        have o2 := World.ownsRow.stored o1.1 (k * 7 + 1) (.int .i64 t.2.1)
        have o3 := World.ownsRow.stored o2.1 (k * 7 + 2) (.int .i64 t.2.2.1)
        have o4 := World.ownsRow.stored o3.1 (k * 7 + 3) (.int .i64 t.2.2.2.1)
        have o5 := World.ownsRow.stored o4.1 (k * 7 + 4) (.int .i64 t.2.2.2.2.1)
        have o6 := World.ownsRow.stored o5.1 (k * 7 + 5) (.int .i64 t.2.2.2.2.2.1)
        have o7 := World.ownsRow.stored o6.1 (k * 7 + 6) (.int .i64 t.2.2.2.2.2.2)
        have hl := Hl.out
        exact ⟨k + 1, by omega, by go_num, by repeat' (first | (with_reducible exact Below.refl _ _) | (with_reducible assumption) | (with_reducible refine Below.alloc ?_ ?_ _) | (with_reducible refine Below.drew ?_) | (with_reducible refine below_drewN ?_ _) | (with_reducible refine Below.setCell ?_ ?_ _) | (with_reducible refine Below.trans ?_ (Below.mono (by assumption) ?_)) | go_size | (exact Below.size (by assumption))), by simp; omega, _, o7.1, fun j hj => (set_one (set_one (set_one (set_one (set_one (set_one (set_one Hy.out (by first | omega | (simp; omega)) (flat_get eSegment 7 eSegment_len l k t 0 _ Ht.out rfl)) (by first | omega | (simp; omega)) (flat_get eSegment 7 eSegment_len l k t 1 _ Ht.out rfl)) (by first | omega | (simp; omega)) (flat_get eSegment 7 eSegment_len l k t 2 _ Ht.out rfl)) (by first | omega | (simp; omega)) (flat_get eSegment 7 eSegment_len l k t 3 _ Ht.out rfl)) (by first | omega | (simp; omega)) (flat_get eSegment 7 eSegment_len l k t 4 _ Ht.out rfl)) (by first | omega | (simp; omega)) (flat_get eSegment 7 eSegment_len l k t 5 _ Ht.out rfl)) (by first | omega | (simp; omega)) (flat_get eSegment 7 eSegment_len l k t 6 _ Ht.out rfl)) j (by omega)⟩
      case measure => simp [intOf]; omega
    · have hk' : k = l.length := by omega
      subst hk'
      have hy : ys = l.flatMap eSegment := eq_of_upto hys (by rw [hown.1, flat_len eSegment 7 eSegment_len]) (by rw [hown.1]; omega)
      have Ho := Lib.hid (hy ▸ hown)
      clear hown hys hy
      go_wp2
      go_ret
      exact ⟨_, _, rfl, Ho.out, by repeat' (first | (with_reducible exact Below.refl _ _) | (with_reducible assumption) | (with_reducible refine Below.alloc ?_ ?_ _) | (with_reducible refine Below.drew ?_) | (with_reducible refine below_drewN ?_ _) | (with_reducible refine Below.setCell ?_ ?_ _) | (with_reducible refine Below.trans ?_ (Below.mono (by assumption) ?_)) | go_size | (exact Below.size (by assumption)))⟩
set_option maxRecDepth 20000 in
theorem eqSegmentS_same (l : List (Int × Int × Int × Int × Int × Int × Int)) (A A' : Option Addr) (B c c' : Nat) (w : World) (hr : Rd w B A (l.flatMap eSegment)) (hr2 : Rd w B A' (l.flatMap eSegment)) (hB : B ≤ w.heap.size) (hn : l.length ≤ 1048576) :
   Calls Try.prog 113 #[.slice A l.length c, .slice A' l.length c'] w fun e w' => e = .returned (.bool true) ∧ Below w.heap.size w w' := by
  go_enter Try.func113, Try.ntmps113
  go_wp2_with fail
  go_loopw [5] (fun i wr => ∃ k : Nat, k ≤ l.length ∧ i = .int .i64 k ∧ Below w.heap.size w wr) (fun i _ => l.length - (intOf i).toNat)
  case atStart => exact ⟨0, Nat.zero_le _, rfl, Below.refl _ _⟩
  case round =>
    obtain ⟨k, hk, rfl, hbw⟩ := hrel
    by_cases hlt : k < l.length
    · have ht := List.getElem?_eq_getElem hlt
      generalize l[k] = t at ht
      have hsz := hbw.size
      have hr' := hr.below hbw hB
      have hr2' := hr2.below hbw hB
      obtain ⟨b, o, rfl, _, c0, c1, c2, c3, c4, c5, c6⟩ := hr'.atSegment ht
      obtain ⟨b2, o2, rfl, _, d0, d1, d2, d3, d4, d5, d6⟩ := hr2'.atSegment ht
      clear ht hr hr' hr2 hr2'
      go_wp2_with fail
      go_region_with ((go_at_call 159; refine (eqSegment_same _ _ _ _ _ _ _ _).mono ?_; rintro e w2 ⟨rfl, hb⟩))
      all_goals go_wp2
      all_goals go_roundw
      all_goals first | exact ⟨k + 1, by omega, by go_num, by repeat' (first | (with_reducible exact Below.refl _ _) | (with_reducible assumption) | (with_reducible refine Below.alloc ?_ ?_ _) | (with_reducible refine Below.drew ?_) | (with_reducible refine below_drewN ?_ _) | (with_reducible refine Below.setCell ?_ ?_ _) | (with_reducible refine Below.trans ?_ (Below.mono (by assumption) ?_)) | go_size | (exact Below.size (by assumption)))⟩ | (simp [intOf]; omega)
    · have hk' : k = l.length := by omega
      subst hk'
      go_wp2
      go_ret
      exact ⟨rfl, hbw⟩
end Go.Proofs.Ytooifamckccadaa
