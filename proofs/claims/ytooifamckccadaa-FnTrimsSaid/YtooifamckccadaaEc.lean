/- Blocks, codes of entries, ends of blocks: walks. -/
import Derived.Test.YtooifamckccadaaBl
import Derived.Deep.RegionHeld3
namespace Go.Proofs.Ytooifamckccadaa
open Go.ChangeShapes Go.WideShapes Go.ChangeAt Go.RowKit
set_option maxRecDepth 20000
set_option linter.unusedVariables false
set_option linter.unusedSimpArgs false
theorem own_capmax {w : World} {base : Nat} {e : TypeId} {size n c : Nat} {A : Option Addr} {xs : List Value} (h : w.ownsRow base e size (.slice A n c) n xs) : c ≤ maxLen := by
  rcases h.2 with ⟨hv, h0⟩ | ⟨g, cap, cur, hv, _, _, hc, hm, _⟩
  · injection hv with _ _ hcc
    unfold maxLen; omega
  · injection hv with _ _ hcc
    unfold maxLen at *; omega
theorem drop1_step {p : Int → Bool} {l : List Int} {k : Nat} {x : Int} (h0 : 1 ≤ k) (h : l[k]? = some x) : ((l.take (k + 1)).drop 1).all p = (((l.take k).drop 1).all p && p x) := by
  have hl : k < l.length := (List.getElem?_eq_some_iff.1 h).1
  have e : l[k] = x := by rw [List.getElem?_eq_getElem hl] at h; exact Option.some.inj h
  rw [List.take_succ_eq_append_getElem hl, List.drop_append, List.all_append, e]
  have : 1 - (l.take k).length = 0 := by rw [List.length_take]; omega
  rw [this]; simp
theorem drop1_false {p : Int → Bool} {l : List Int} {k : Nat} {x : Int} (h0 : 1 ≤ k) (h : l[k]? = some x) (hp : p x = false) : (l.drop 1).all p = false := by
  rw [List.all_eq_false]
  refine ⟨x, ?_, by simp [hp]⟩
  have : (l.drop 1)[k - 1]? = some x := by rw [List.getElem?_drop, show 1 + (k - 1) = k by omega]; exact h
  exact List.mem_of_getElem? this
theorem ris_step {fs : List Int} {n : Int} (h : risB fs n = true) {k : Nat} {x y : Int} (h1 : fs[k + 1]? = some x) (h2 : fs[k]? = some y) : y < x := by
  have hl : k + 1 < fs.length := (List.getElem?_eq_some_iff.1 h1).1
  have h3 := (List.all_eq_true.1 h) (k + 1) (List.mem_range.2 hl)
  rw [riseT_succ h1 h2] at h3
  simp only [Bool.and_eq_true, decide_eq_true_eq] at h3
  exact h3.2
set_option maxHeartbeats 1000000 in
theorem l04Blocks_any (ls : List Seg) (fs : List Int) (A : Option Addr) (B c : Nat) (A' : Option Addr) (c' : Nat) (w : World) (hs : Rd w B A (ls.flatMap eSegment)) (hr : Rd w B A' (ints fs)) (hB : B ≤ w.heap.size) (hn : ls.length ≤ 1048576) (hn2 : fs.length ≤ 1048576) :
   Calls Try.prog 147 #[.agg #[.slice A ls.length c], .slice A' fs.length c'] w fun e w' => e = .returned (.bool (blkB ls fs)) ∧ Below w.heap.size w w' := by
  have Hs := Lib.hid (hs.alloc hB (.cells #[.slice A ls.length c] 26))
  have hS : B ≤ (w.alloc (.cells #[.slice A ls.length c] 26)).heap.size := by simp; omega
  have Hr := Lib.hid (hr.alloc hB (.cells #[.slice A ls.length c] 26))
  have HC := Lib.hid (fun w' : World => fun h => l01Rises_any fs ls.length A' B c' w' h hn2)
  clear hs hr
  cases h1 : inB fs.length 2 8 with
  | false =>
    have hd : blkB ls fs = false := by rw [blkB, h1]; rfl
    have Hd := Lib.hid hd
    have H1 := Lib.hid h1
    clear hd h1
    go_enter Try.func147, Try.ntmps147
    go_wp2_with (go_at_call 82; refine (l01In_r _ _ _ false H1.out _).mono ?_; rintro e w' ⟨rfl, rfl⟩)
    go_ret
    exact ⟨ret_bool Hd.out.symm, by repeat' (first | (with_reducible exact Below.refl _ _) | (with_reducible assumption) | (with_reducible refine Below.alloc ?_ ?_ _) | (with_reducible refine Below.drew ?_) | (with_reducible refine below_drewN ?_ _) | (with_reducible refine Below.setCell ?_ ?_ _) | (with_reducible refine Below.trans ?_ (Below.mono (by assumption) ?_)) | go_size | (exact Below.size (by assumption)))⟩
  | true =>
    have H1 := Lib.hid h1
    have hlen := inB_iff h1
    cases h2 : risB fs ls.length with
    | false =>
      have hd : blkB ls fs = false := by rw [blkB, h2]; simp
      have Hd := Lib.hid hd
      rw [h2] at HC
      clear hd h1 h2 hlen
      go_enter Try.func147, Try.ntmps147
      go_wp2_with (first | (go_at_call 82; refine (l01In_r _ _ _ true H1.out _).mono ?_; rintro e w' ⟨rfl, rfl⟩) | (go_at_call 149; refine (HC.out _ (by exact Hr.out)).mono ?_; rintro e w' ⟨rfl, qd, rfl⟩))
      go_ret
      exact ⟨ret_bool Hd.out.symm, by repeat' (first | (with_reducible exact Below.refl _ _) | (with_reducible assumption) | (with_reducible refine Below.alloc ?_ ?_ _) | (with_reducible refine Below.drew ?_) | (with_reducible refine below_drewN ?_ _) | (with_reducible refine Below.setCell ?_ ?_ _) | (with_reducible refine Below.trans ?_ (Below.mono (by assumption) ?_)) | go_size | (exact Below.size (by assumption)))⟩
    | true =>
      rw [h2] at HC
      have H2 := Lib.hid h2
      have ht0 := List.getElem?_eq_getElem (show 0 < fs.length by omega)
      generalize fs[0] = x0 at ht0
      have hhd : fs.head? = some x0 := by rw [List.head?_eq_getElem?]; exact ht0
      obtain ⟨b, o, rfl, hbB, d0⟩ := Hr.out.int ht0
      simp only [Nat.add_zero] at d0
      have hi1 : (0 : Int) < (fs.length : Int) := by omega
      have hl2 : 2 ≤ fs.length := by omega
      by_cases hx : x0 = 0
      · subst hx
        have hd : blkB ls fs = (fs.drop 1).all (blk1 ls) := by rw [blkB, h1, h2, hhd]; simp
        have Hd := Lib.hid hd
        clear hd h1 h2 hlen ht0 hhd
        go_enter Try.func147, Try.ntmps147
        go_wp2_with (first | (go_at_call 82; refine (l01In_r _ _ _ true H1.out _).mono ?_; rintro e w' ⟨rfl, rfl⟩) | (go_at_call 149; refine (HC.out _ (by exact Hr.out)).mono ?_; rintro e w' ⟨rfl, qd, rfl⟩))
        have hc0 : (w.alloc (.cells #[.slice A ls.length c] 26)).cell? ⟨w.heap.size, 0, none⟩ = some (.slice A ls.length c) := by simp
        have hws : w.heap.size < (w.alloc (.cells #[.slice A ls.length c] 26)).heap.size := by simp
        have hwb : Below w.heap.size w (w.alloc (.cells #[.slice A ls.length c] 26)) := by repeat' (first | (with_reducible exact Below.refl _ _) | (with_reducible assumption) | (with_reducible refine Below.alloc ?_ ?_ _) | (with_reducible refine Below.drew ?_) | (with_reducible refine below_drewN ?_ _) | (with_reducible refine Below.setCell ?_ ?_ _) | (with_reducible refine Below.trans ?_ (Below.mono (by assumption) ?_)) | go_size | (exact Below.size (by assumption)))
        clear d0 hbB hi1
        generalize w.alloc (.cells #[.slice A ls.length c] 26) = wa at *
        go_loopw [5] (fun i wr => ∃ k : Nat, 1 ≤ k ∧ k ≤ fs.length ∧ i = .int .i64 k ∧ ((fs.take k).drop 1).all (blk1 ls) = true ∧ Below wa.heap.size wa wr) (fun i _ => fs.length - (intOf i).toNat)
        case atStart => exact ⟨1, Nat.le_refl _, by omega, rfl, by simp [List.drop_take], by repeat' (first | (with_reducible exact Below.refl _ _) | (with_reducible assumption) | (with_reducible refine Below.alloc ?_ ?_ _) | (with_reducible refine Below.drew ?_) | (with_reducible refine below_drewN ?_ _) | (with_reducible refine Below.setCell ?_ ?_ _) | (with_reducible refine Below.trans ?_ (Below.mono (by assumption) ?_)) | go_size | (exact Below.size (by assumption)))⟩
        case round =>
          obtain ⟨k, hk1, hk, rfl, hall, hbw⟩ := hrel
          have hzw := hbw.size
          by_cases hlt : k < fs.length
          · have ht := List.getElem?_eq_getElem hlt
            generalize fs[k] = x at ht
            have ht1 := List.getElem?_eq_getElem (show k - 1 < fs.length by omega)
            generalize fs[k - 1] = y at ht1
            have hb1 := risB_at H2.out ht
            have hb2 := risB_at H2.out ht1
            have hxy := ris_step H2.out (show fs[k - 1 + 1]? = some x by rw [show k - 1 + 1 = k by omega]; exact ht) ht1
            obtain ⟨j, hxj⟩ : ∃ j : Nat, x - 1 = (j : Int) := ⟨(x - 1).toNat, by omega⟩
            have hj : j < ls.length := by omega
            have hu := List.getElem?_eq_getElem hj
            generalize ls[j] = t at hu
            have hka := kindAt_nat hu
            have hbk : blk1 ls x = holdB t.1 := by rw [blk1, hxj, hka]
            have hw1 : IntKind.i64.wrap (x - 1) = (j : Int) := by rw [hxj]; exact IntWalk.i64_in _ (by omega)
            obtain ⟨b', o', he, hbB', d0⟩ := (Hr.out.below hbw hS).int ht
            injection he with he
            injection he with e1 e2
            subst e1 e2
            obtain ⟨b2, o2, rfl, hbB2, c0, c1, c2, c3, c4, c5, c6⟩ := (Hs.out.below hbw hS).atSegment hu
            have hcw := (hbw.cell (p := ⟨w.heap.size, 0, none⟩) hws).trans hc0
            have hal := drop1_step (p := blk1 ls) hk1 ht
            rw [hall, Bool.true_and, hbk] at hal
            have hff : holdB t.1 = false → blkB ls fs = false := fun h => by rw [Hd.out]; exact drop1_false hk1 ht (by rw [hbk, h])
            have Hff := Lib.hid hff
            have Hal := Lib.hid hal
            have hi0 : (0 : Int) ≤ (k : Int) := by omega
            have hi1 : (k : Int) < (fs.length : Int) := by omega
            have hj0 : (0 : Int) ≤ (j : Int) := by omega
            have hj1 : (j : Int) < (ls.length : Int) := by omega
            have hwr : w.heap.size < wr.heap.size := by omega
            have hbb : b < wr.heap.size := by omega
            have hbb2 : b2 < wr.heap.size := by omega
            clear hall ht hu hka hal hff ht1 hb1 hb2 hxy hbk hbB' hbB2 hxj
            cases hz : holdB t.1 with
            | false =>
              have Hz := Lib.hid hz
              have HH := Lib.hid (fun w' : World => hz ▸ holds_spec t.1 t.2.1 t.2.2.1 t.2.2.2.1 t.2.2.2.2.1 t.2.2.2.2.2.1 t.2.2.2.2.2.2 w')
              clear hz
              go_wp2_with fail
              go_region_held3 (fun w' => w'.cell? ⟨w.heap.size, 0, none⟩ = some (.slice (some ⟨b2, o2, none⟩) ls.length c) ∧ w'.cell? ⟨b, o + k, none⟩ = some (.int .i64 x) ∧ w'.cell? ⟨b2, o2 + j * 7, none⟩ = some (.int .i64 t.1) ∧ w'.cell? ⟨b2, o2 + j * 7 + 1, none⟩ = some (.int .i64 t.2.1) ∧ w'.cell? ⟨b2, o2 + j * 7 + 2, none⟩ = some (.int .i64 t.2.2.1) ∧ w'.cell? ⟨b2, o2 + j * 7 + 3, none⟩ = some (.int .i64 t.2.2.2.1) ∧ w'.cell? ⟨b2, o2 + j * 7 + 4, none⟩ = some (.int .i64 t.2.2.2.2.1) ∧ w'.cell? ⟨b2, o2 + j * 7 + 5, none⟩ = some (.int .i64 t.2.2.2.2.2.1) ∧ w'.cell? ⟨b2, o2 + j * 7 + 6, none⟩ = some (.int .i64 t.2.2.2.2.2.2)) (simp [*, World.cell?_alloc_past, World.cell?_setCell_far])
                ((go_at_call 177; refine (HH.out _).mono ?_; rintro e w2 ⟨rfl, hb⟩; have zz := hb.size; obtain ⟨hc2, hf2, hz2⟩ := bstep (N := wr.heap.size) (by go_size) hb; have hy : w.heap.size < w2.heap.size := (by omega)))
              all_goals go_wp2
              all_goals go_ret
              all_goals exact ⟨ret_bool (Hff.out Hz.out).symm, by have h9 : Below w.heap.size wa wr := hbw.mono (by omega); have h8 := hwb.trans h9; repeat' (first | (with_reducible exact Below.refl _ _) | (with_reducible assumption) | (with_reducible refine Below.alloc ?_ ?_ _) | (with_reducible refine Below.drew ?_) | (with_reducible refine below_drewN ?_ _) | (with_reducible refine Below.setCell ?_ ?_ _) | (with_reducible refine Below.trans ?_ (Below.mono (by assumption) ?_)) | go_size | (exact Below.size (by assumption)))⟩
            | true =>
              have Hz := Lib.hid hz
              have HH := Lib.hid (fun w' : World => hz ▸ holds_spec t.1 t.2.1 t.2.2.1 t.2.2.2.1 t.2.2.2.2.1 t.2.2.2.2.2.1 t.2.2.2.2.2.2 w')
              clear hz
              go_wp2_with fail
              go_region_held3 (fun w' => w'.cell? ⟨w.heap.size, 0, none⟩ = some (.slice (some ⟨b2, o2, none⟩) ls.length c) ∧ w'.cell? ⟨b, o + k, none⟩ = some (.int .i64 x) ∧ w'.cell? ⟨b2, o2 + j * 7, none⟩ = some (.int .i64 t.1) ∧ w'.cell? ⟨b2, o2 + j * 7 + 1, none⟩ = some (.int .i64 t.2.1) ∧ w'.cell? ⟨b2, o2 + j * 7 + 2, none⟩ = some (.int .i64 t.2.2.1) ∧ w'.cell? ⟨b2, o2 + j * 7 + 3, none⟩ = some (.int .i64 t.2.2.2.1) ∧ w'.cell? ⟨b2, o2 + j * 7 + 4, none⟩ = some (.int .i64 t.2.2.2.2.1) ∧ w'.cell? ⟨b2, o2 + j * 7 + 5, none⟩ = some (.int .i64 t.2.2.2.2.2.1) ∧ w'.cell? ⟨b2, o2 + j * 7 + 6, none⟩ = some (.int .i64 t.2.2.2.2.2.2)) (simp [*, World.cell?_alloc_past, World.cell?_setCell_far])
                ((go_at_call 177; refine (HH.out _).mono ?_; rintro e w2 ⟨rfl, hb⟩; have zz := hb.size; obtain ⟨hc2, hf2, hz2⟩ := bstep (N := wr.heap.size) (by go_size) hb; have hy : w.heap.size < w2.heap.size := (by omega)))
              all_goals go_wp2
              all_goals go_roundw
              all_goals first | exact ⟨k + 1, by omega, by omega, by go_num, by rw [Hal.out, Hz.out], by repeat' (first | (with_reducible exact Below.refl _ _) | (with_reducible assumption) | (with_reducible refine Below.alloc ?_ ?_ _) | (with_reducible refine Below.drew ?_) | (with_reducible refine below_drewN ?_ _) | (with_reducible refine Below.setCell ?_ ?_ _) | (with_reducible refine Below.trans ?_ (Below.mono (by assumption) ?_)) | go_size | (exact Below.size (by assumption)))⟩ | (simp [intOf]; omega)
          · have hk' : k = fs.length := by omega
            subst hk'
            rw [List.take_length] at hall
            have Ha := Lib.hid hall
            clear hall
            go_wp2
            go_ret
            exact ⟨ret_bool (by rw [Hd.out, Ha.out]), by have h9 : Below w.heap.size wa wr := hbw.mono (by omega); exact hwb.trans h9⟩
      · have hd : blkB ls fs = false := by rw [blkB, hhd]; simp [hx]
        have Hd := Lib.hid hd
        have hxb : (x0 != 0) = true := by rw [bne_iff_ne]; exact hx
        clear hd h1 h2 hlen ht0 hhd
        go_enter Try.func147, Try.ntmps147
        go_wp2_with (first | (go_at_call 82; refine (l01In_r _ _ _ true H1.out _).mono ?_; rintro e w' ⟨rfl, rfl⟩) | (go_at_call 149; refine (HC.out _ (by exact Hr.out)).mono ?_; rintro e w' ⟨rfl, qd, rfl⟩))
        go_ret
        exact ⟨ret_bool Hd.out.symm, by repeat' (first | (with_reducible exact Below.refl _ _) | (with_reducible assumption) | (with_reducible refine Below.alloc ?_ ?_ _) | (with_reducible refine Below.drew ?_) | (with_reducible refine below_drewN ?_ _) | (with_reducible refine Below.setCell ?_ ?_ _) | (with_reducible refine Below.trans ?_ (Below.mono (by assumption) ?_)) | go_size | (exact Below.size (by assumption)))⟩

def abB (ls : List Seg) (fs : List Int) : Bool := layB ls && blkB ls fs
theorem areBlk_impl (ls : List Seg) (fs : List Int) (A : Option Addr) (B c : Nat) (A' : Option Addr) (c' : Nat) (w : World) (hs : Rd w B A (ls.flatMap eSegment)) (hr : Rd w B A' (ints fs)) (hB : B ≤ w.heap.size) (hn : ls.length ≤ 1048576) (hn2 : fs.length ≤ 1048576) (hc : fs.length ≤ c') (hcm : c' ≤ 9223372036854775807) :
   Calls Try.prog 142 #[.agg #[.slice A ls.length c], .slice A' fs.length c'] w fun e w' => e = .returned (.bool (abB ls fs)) ∧ Below w.heap.size w w' := by
  have Hs := Lib.hid (hs.alloc hB (.cells #[.slice A ls.length c] 26))
  have hS : B ≤ (w.alloc (.cells #[.slice A ls.length c] 26)).heap.size := by simp; omega
  have Hr := Lib.hid (hr.alloc hB (.cells #[.slice A ls.length c] 26))
  have HL := Lib.hid (fun (w' : World) (h : Rd w' B A (ls.flatMap eSegment)) (h3 : B ≤ w'.heap.size) => isLayout_impl ls A B c w' h h3 hn)
  have HB := Lib.hid (fun (w' : World) (h : Rd w' B A (ls.flatMap eSegment)) (h2 : Rd w' B A' (ints fs)) (h3 : B ≤ w'.heap.size) => areBlocks_any ls fs A B c A' c' w' h h2 h3 hn hn2 hc hcm)
  clear hs hr
  unfold abB
  cases hq : layB ls with
  | false =>
    rw [hq] at HL
    clear hq
    go_enter Try.func142, Try.ntmps142
    go_wp2_with (go_at_call 106; refine (HL.out _ (by exact Hs.out) hS).mono ?_; rintro e w1 ⟨rfl, hb⟩)
    go_ret
    exact ⟨rfl, by repeat' (first | (with_reducible exact Below.refl _ _) | (with_reducible assumption) | (with_reducible refine Below.alloc ?_ ?_ _) | (with_reducible refine Below.drew ?_) | (with_reducible refine below_drewN ?_ _) | (with_reducible refine Below.setCell ?_ ?_ _) | (with_reducible refine Below.trans ?_ (Below.mono (by assumption) ?_)) | go_size | (exact Below.size (by assumption)))⟩
  | true =>
    rw [hq] at HL
    clear hq
    go_enter Try.func142, Try.ntmps142
    go_wp2_with (first | (go_at_call 106; refine (HL.out _ (by exact Hs.out) hS).mono ?_; rintro e w1 ⟨rfl, hb⟩; have Hs1 := Lib.hid (Hs.out.below hb hS); have Hr1 := Lib.hid (Hr.out.below hb hS); have hS1 := Nat.le_trans hS hb.size; obtain ⟨hc1, hf1, hz1⟩ := bstep (N := w.heap.size + 1) (by go_size) hb) | (go_at_call 174; refine (HB.out _ (by exact Hs1.out) (by exact Hr1.out) hS1).mono ?_; rintro e w2 ⟨rfl, hb2⟩))
    go_ret
    exact ⟨by simp, by repeat' (first | (with_reducible exact Below.refl _ _) | (with_reducible assumption) | (with_reducible refine Below.alloc ?_ ?_ _) | (with_reducible refine Below.drew ?_) | (with_reducible refine below_drewN ?_ _) | (with_reducible refine Below.setCell ?_ ?_ _) | (with_reducible refine Below.trans ?_ (Below.mono (by assumption) ?_)) | go_size | (exact Below.size (by assumption)))⟩
theorem areBlk_impl_r (ls : List Seg) (fs : List Int) (A : Option Addr) (B c : Nat) (A' : Option Addr) (c' : Nat) (w : World) (hs : Rd w B A (ls.flatMap eSegment)) (hr : Rd w B A' (ints fs)) (hB : B ≤ w.heap.size) (hn : ls.length ≤ 1048576) (hn2 : fs.length ≤ 1048576) (hc : fs.length ≤ c') (hcm : c' ≤ 9223372036854775807) (r : Bool) (hrr : abB ls fs = r) :
   Calls Try.prog 142 #[.agg #[.slice A ls.length c], .slice A' fs.length c'] w fun e w' => e = .returned (.bool r) ∧ Below w.heap.size w w' := hrr ▸ areBlk_impl ls fs A B c A' c' w hs hr hB hn hn2 hc hcm

theorem areBlk_spec (ls : List Seg) (fs : List Int) (A : Option Addr) (B c : Nat) (A' : Option Addr) (c' : Nat) (w : World) (hs : Rd w B A (ls.flatMap eSegment)) (hr : Rd w B A' (ints fs)) (hB : B ≤ w.heap.size) (hn : ls.length ≤ 1048576) (hn2 : fs.length ≤ 1048576) :
   Calls Try.prog 80 #[.agg #[.slice A ls.length c], .slice A' fs.length c'] w fun e w' => e = .returned (.bool (abB ls fs)) ∧ Below w.heap.size w w' := by
  have Hs := Lib.hid (hs.alloc hB (.cells #[.slice A ls.length c] 26))
  have hS : B ≤ (w.alloc (.cells #[.slice A ls.length c] 26)).heap.size := by simp; omega
  have Hr := Lib.hid (hr.alloc hB (.cells #[.slice A ls.length c] 26))
  have HL := Lib.hid (fun (w' : World) (h : Rd w' B A (ls.flatMap eSegment)) (h3 : B ≤ w'.heap.size) => isLayout_spec ls A B c w' h h3 hn)
  have HB := Lib.hid (fun (w' : World) (h : Rd w' B A (ls.flatMap eSegment)) (h2 : Rd w' B A' (ints fs)) (h3 : B ≤ w'.heap.size) => l04Blocks_any ls fs A B c A' c' w' h h2 h3 hn hn2)
  clear hs hr
  unfold abB
  cases hq : layB ls with
  | false =>
    rw [hq] at HL
    clear hq
    go_enter Try.func80, Try.ntmps80
    go_wp2_with (go_at_call 99; refine (HL.out _ (by exact Hs.out) hS).mono ?_; rintro e w1 ⟨rfl, hb⟩)
    go_ret
    exact ⟨rfl, by repeat' (first | (with_reducible exact Below.refl _ _) | (with_reducible assumption) | (with_reducible refine Below.alloc ?_ ?_ _) | (with_reducible refine Below.drew ?_) | (with_reducible refine below_drewN ?_ _) | (with_reducible refine Below.setCell ?_ ?_ _) | (with_reducible refine Below.trans ?_ (Below.mono (by assumption) ?_)) | go_size | (exact Below.size (by assumption)))⟩
  | true =>
    rw [hq] at HL
    clear hq
    go_enter Try.func80, Try.ntmps80
    go_wp2_with (first | (go_at_call 99; refine (HL.out _ (by exact Hs.out) hS).mono ?_; rintro e w1 ⟨rfl, hb⟩; have Hs1 := Lib.hid (Hs.out.below hb hS); have Hr1 := Lib.hid (Hr.out.below hb hS); have hS1 := Nat.le_trans hS hb.size; obtain ⟨hc1, hf1, hz1⟩ := bstep (N := w.heap.size + 1) (by go_size) hb) | (go_at_call 147; refine (HB.out _ (by exact Hs1.out) (by exact Hr1.out) hS1).mono ?_; rintro e w2 ⟨rfl, hb2⟩))
    go_ret
    exact ⟨by simp, by repeat' (first | (with_reducible exact Below.refl _ _) | (with_reducible assumption) | (with_reducible refine Below.alloc ?_ ?_ _) | (with_reducible refine Below.drew ?_) | (with_reducible refine below_drewN ?_ _) | (with_reducible refine Below.setCell ?_ ?_ _) | (with_reducible refine Below.trans ?_ (Below.mono (by assumption) ?_)) | go_size | (exact Below.size (by assumption)))⟩
theorem areBlk_spec_r (ls : List Seg) (fs : List Int) (A : Option Addr) (B c : Nat) (A' : Option Addr) (c' : Nat) (w : World) (hs : Rd w B A (ls.flatMap eSegment)) (hr : Rd w B A' (ints fs)) (hB : B ≤ w.heap.size) (hn : ls.length ≤ 1048576) (hn2 : fs.length ≤ 1048576) (r : Bool) (hrr : abB ls fs = r) :
   Calls Try.prog 80 #[.agg #[.slice A ls.length c], .slice A' fs.length c'] w fun e w' => e = .returned (.bool r) ∧ Below w.heap.size w w' := hrr ▸ areBlk_spec ls fs A B c A' c' w hs hr hB hn hn2
theorem abB_iff {ls : List Seg} {fs : List Int} (h : abB ls fs = true) : layB ls = true ∧ blkB ls fs = true := by
  unfold abB at h
  simpa using h
theorem blk_ris {ls : List Seg} {fs : List Int} (h : blkB ls fs = true) : risB fs ls.length = true ∧ 2 ≤ fs.length ∧ fs.length ≤ 8 := by
  simp only [blkB, inB, Bool.and_eq_true, decide_eq_true_eq] at h
  exact ⟨h.2.1, by omega, by omega⟩
/-- the error of an entry -/
def enC (ls : List Seg) (fs : List Int) (b lo hi : Int) : Int := if abB ls fs && enB lo hi then (if inB b 0 ((fs.length : Int) - 1) then 0 else 2) else 1
theorem enC_zero {ls : List Seg} {fs : List Int} {b lo hi : Int} (h : enC ls fs b lo hi = 0) : layB ls = true ∧ blkB ls fs = true ∧ enB lo hi = true ∧ ∃ b' : Nat, b = b' ∧ b' < fs.length := by
  unfold enC at h
  split at h
  · rename_i h1
    split at h
    · rename_i h2
      simp only [Bool.and_eq_true] at h1
      simp only [inB, Bool.and_eq_true, decide_eq_true_eq] at h2
      obtain ⟨h3, h4⟩ := abB_iff h1.1
      exact ⟨h3, h4, h1.2, b.toNat, by omega, by omega⟩
    · simp at h
  · simp at h
theorem endP_at {ls : List Seg} {fs : List Int} {b : Nat} {x : Int} (h : fs[b + 1]? = some x) : endP ls fs b = x := by rw [endP, h]
theorem endP_last {ls : List Seg} {fs : List Int} {b : Nat} (h : b + 1 = fs.length) : endP ls fs b = ls.length := by rw [endP, List.getElem?_eq_none (by omega)]
/-- a block in numbers: its first segment, how many lie before the last, the last -/
theorem blk_nat {ls : List Seg} {fs : List Int} {b : Nat} (h : blkB ls fs = true) (hb : b < fs.length) : ∃ f n : Nat, fs[b]? = some (f : Int) ∧ endP ls fs b = ((f + n + 1 : Nat) : Int) ∧ f + n < ls.length := by
  obtain ⟨hr, _, _⟩ := blk_ris h
  have ht := List.getElem?_eq_getElem hb
  generalize fs[b] = x at ht
  have hx := risB_at hr ht
  by_cases e : b + 1 = fs.length
  · rw [endP_last e]
    exact ⟨x.toNat, ls.length - 1 - x.toNat, by rw [ht]; congr 1; omega, by omega, by omega⟩
  · have ht2 := List.getElem?_eq_getElem (show b + 1 < fs.length by omega)
    generalize fs[b + 1] = y at ht2
    have hy := risB_at hr ht2
    have hxy := ris_step hr ht2 ht
    rw [endP_at ht2]
    exact ⟨x.toNat, y.toNat - 1 - x.toNat, by rw [ht]; congr 1; omega, by omega, by omega⟩
theorem blockEnd_impl (ls : List Seg) (fs : List Int) (b : Nat) (hb : b < fs.length) (q : Int) (hq : endP ls fs b = q) (A : Option Addr) (B c : Nat) (A' : Option Addr) (c' : Nat) (w : World) (hr : Rd w B A' (ints fs)) (hB : B ≤ w.heap.size) (hn : ls.length ≤ 1048576) (hn2 : fs.length ≤ 1048576) :
   Calls Try.prog 79 #[.agg #[.slice A ls.length c], .slice A' fs.length c', .int .i64 b] w fun e w' => e = .returned (.int .i64 q) ∧ Below w.heap.size w w' := by
  subst hq
  by_cases h : b + 1 = fs.length
  · rw [endP_last h]
    have hbe : ((b : Int) == (fs.length : Int) - 1) = true := by rw [beq_iff_eq]; omega
    have hbl : ¬ (b : Int) + 1 < (fs.length : Int) := by omega
    clear h hr
    go_enter Try.func79, Try.ntmps79
    go_wp2_with (first | (go_at_call 126; refine (length_i64 _ _ _ hn2 _).mono ?_; rintro e w' ⟨rfl, rfl⟩) | (go_at_call 108; refine (length_seg _ _ _ hn _).mono ?_; rintro e w' ⟨rfl, rfl⟩))
    go_ret
    exact ⟨rfl, by repeat' (first | (with_reducible exact Below.refl _ _) | (with_reducible assumption) | (with_reducible refine Below.alloc ?_ ?_ _) | (with_reducible refine Below.drew ?_) | (with_reducible refine below_drewN ?_ _) | (with_reducible refine Below.setCell ?_ ?_ _) | (with_reducible refine Below.trans ?_ (Below.mono (by assumption) ?_)) | go_size | (exact Below.size (by assumption)))⟩
  · have ht := List.getElem?_eq_getElem (show b + 1 < fs.length by omega)
    generalize fs[b + 1] = x at ht
    rw [endP_at ht]
    obtain ⟨g, o, rfl, hbB, d0⟩ := hr.int ht
    have hbe : ((b : Int) == (fs.length : Int) - 1) = false := by rw [beq_eq_false_iff_ne]; omega
    have hbl : (b : Int) + 1 < (fs.length : Int) := by omega
    have hb0 : (0 : Int) ≤ (b : Int) + 1 := by omega
    have hbn : ((b : Int) + 1).toNat = b + 1 := by omega
    have hgw : g < w.heap.size := by omega
    clear h hr ht
    go_enter Try.func79, Try.ntmps79
    go_wp2_with (first | (go_at_call 126; refine (length_i64 _ _ _ hn2 _).mono ?_; rintro e w' ⟨rfl, rfl⟩) | (go_at_call 108; refine (length_seg _ _ _ hn _).mono ?_; rintro e w' ⟨rfl, rfl⟩))
    go_ret
    exact ⟨rfl, by repeat' (first | (with_reducible exact Below.refl _ _) | (with_reducible assumption) | (with_reducible refine Below.alloc ?_ ?_ _) | (with_reducible refine Below.drew ?_) | (with_reducible refine below_drewN ?_ _) | (with_reducible refine Below.setCell ?_ ?_ _) | (with_reducible refine Below.trans ?_ (Below.mono (by assumption) ?_)) | go_size | (exact Below.size (by assumption)))⟩
theorem blockEnd_spec (ls : List Seg) (fs : List Int) (b : Nat) (hb : b < fs.length) (q : Int) (hq : endP ls fs b = q) (A : Option Addr) (B c : Nat) (A' : Option Addr) (c' : Nat) (w : World) (hr : Rd w B A' (ints fs)) (hB : B ≤ w.heap.size) (hn : ls.length ≤ 1048576) (hn2 : fs.length ≤ 1048576) :
   Calls Try.prog 85 #[.agg #[.slice A ls.length c], .slice A' fs.length c', .int .i64 b] w fun e w' => e = .returned (.int .i64 q) ∧ Below w.heap.size w w' := by
  subst hq
  by_cases h : b + 1 = fs.length
  · rw [endP_last h]
    have hbe : ((b : Int) == (fs.length : Int) - 1) = true := by rw [beq_iff_eq]; omega
    have hbl : ¬ (b : Int) + 1 < (fs.length : Int) := by omega
    clear h hr
    go_enter Try.func85, Try.ntmps85
    go_wp2_with (fail)
    go_ret
    exact ⟨rfl, by repeat' (first | (with_reducible exact Below.refl _ _) | (with_reducible assumption) | (with_reducible refine Below.alloc ?_ ?_ _) | (with_reducible refine Below.drew ?_) | (with_reducible refine below_drewN ?_ _) | (with_reducible refine Below.setCell ?_ ?_ _) | (with_reducible refine Below.trans ?_ (Below.mono (by assumption) ?_)) | go_size | (exact Below.size (by assumption)))⟩
  · have ht := List.getElem?_eq_getElem (show b + 1 < fs.length by omega)
    generalize fs[b + 1] = x at ht
    rw [endP_at ht]
    obtain ⟨g, o, rfl, hbB, d0⟩ := hr.int ht
    have hbe : ((b : Int) == (fs.length : Int) - 1) = false := by rw [beq_eq_false_iff_ne]; omega
    have hbl : (b : Int) + 1 < (fs.length : Int) := by omega
    have hb0 : (0 : Int) ≤ (b : Int) + 1 := by omega
    have hbn : ((b : Int) + 1).toNat = b + 1 := by omega
    have hgw : g < w.heap.size := by omega
    clear h hr ht
    go_enter Try.func85, Try.ntmps85
    go_wp2_with (fail)
    go_ret
    exact ⟨rfl, by repeat' (first | (with_reducible exact Below.refl _ _) | (with_reducible assumption) | (with_reducible refine Below.alloc ?_ ?_ _) | (with_reducible refine Below.drew ?_) | (with_reducible refine below_drewN ?_ _) | (with_reducible refine Below.setCell ?_ ?_ _) | (with_reducible refine Below.trans ?_ (Below.mono (by assumption) ?_)) | go_size | (exact Below.size (by assumption)))⟩
theorem length_n1 (n : Nat) (b : Int) (r : Bool) (hr : inB b 0 ((n : Int) - 1) = r) (w : World) : Calls Try.prog 109 #[.int .i64 b, .int .i64 0, .int .i64 ((n : Int) - 1)] w fun e w' => e = .returned (.bool r) ∧ w = w' := within_r _ _ _ r hr w
set_option maxHeartbeats 1000000 in
theorem entryCode_any (ls : List Seg) (fs : List Int) (b lo hi : Int) (A : Option Addr) (B c : Nat) (A' : Option Addr) (c' : Nat) (w : World) (hs : Rd w B A (ls.flatMap eSegment)) (hr : Rd w B A' (ints fs)) (hB : B ≤ w.heap.size) (hn : ls.length ≤ 1048576) (hn2 : fs.length ≤ 1048576) (hc : fs.length ≤ c') (hcm : c' ≤ 9223372036854775807) :
   Calls Try.prog 76 #[.agg #[.slice A ls.length c], .slice A' fs.length c', .int .i64 b, .agg #[.int .i64 lo, .int .i64 hi]] w fun e w' => e = .returned (.int .i64 (enC ls fs b lo hi)) ∧ Below w.heap.size w w' := by
  have Hs := Lib.hid ((hs.alloc hB (.cells #[.slice A ls.length c] 26)).alloc (by simp; omega) (.cells #[.int .i64 lo, .int .i64 hi] 29))
  have Hr := Lib.hid ((hr.alloc hB (.cells #[.slice A ls.length c] 26)).alloc (by simp; omega) (.cells #[.int .i64 lo, .int .i64 hi] 29))
  have hS : B ≤ ((w.alloc (.cells #[.slice A ls.length c] 26)).alloc (.cells #[.int .i64 lo, .int .i64 hi] 29)).heap.size := by simp; omega
  have HB := Lib.hid (fun (w' : World) (h : Rd w' B A (ls.flatMap eSegment)) (h2 : Rd w' B A' (ints fs)) (h3 : B ≤ w'.heap.size) => areBlk_impl ls fs A B c A' c' w' h h2 h3 hn hn2 hc hcm)
  clear hs hr
  unfold enC
  cases hq : abB ls fs with
  | false =>
    rw [hq] at HB
    clear hq
    go_enter Try.func76, Try.ntmps76
    go_wp2_with (go_at_call 142; refine (HB.out _ (by exact Hs.out) (by exact Hr.out) hS).mono ?_; rintro e w1 ⟨rfl, hb⟩)
    go_ret
    exact ⟨rfl, by repeat' (first | (with_reducible exact Below.refl _ _) | (with_reducible assumption) | (with_reducible refine Below.alloc ?_ ?_ _) | (with_reducible refine Below.drew ?_) | (with_reducible refine below_drewN ?_ _) | (with_reducible refine Below.setCell ?_ ?_ _) | (with_reducible refine Below.trans ?_ (Below.mono (by assumption) ?_)) | go_size | (exact Below.size (by assumption)))⟩
  | true =>
    rw [hq] at HB
    clear hq
    cases he : enB lo hi with
    | false =>
      have He := Lib.hid he
      clear he
      go_enter Try.func76, Try.ntmps76
      go_wp2_with (first | (go_at_call 142; refine (HB.out _ (by exact Hs.out) (by exact Hr.out) hS).mono ?_; rintro e w1 ⟨rfl, hb⟩; obtain ⟨hc1, hf1, hz1⟩ := bstep (N := w.heap.size + 2) (by go_size) hb) | (go_at_call 90; refine (isEn_impl_r _ _ false He.out _).mono ?_; rintro e w2 ⟨rfl, hb2⟩))
      go_ret
      exact ⟨rfl, by repeat' (first | (with_reducible exact Below.refl _ _) | (with_reducible assumption) | (with_reducible refine Below.alloc ?_ ?_ _) | (with_reducible refine Below.drew ?_) | (with_reducible refine below_drewN ?_ _) | (with_reducible refine Below.setCell ?_ ?_ _) | (with_reducible refine Below.trans ?_ (Below.mono (by assumption) ?_)) | go_size | (exact Below.size (by assumption)))⟩
    | true =>
      have He := Lib.hid he
      clear he
      generalize hbq : inB b 0 ((fs.length : Int) - 1) = q
      have Hbq := Lib.hid hbq
      clear hbq
      cases q with
      | false =>
        go_enter Try.func76, Try.ntmps76
        go_wp2_with (first | (go_at_call 142; refine (HB.out _ (by exact Hs.out) (by exact Hr.out) hS).mono ?_; rintro e w1 ⟨rfl, hb⟩; obtain ⟨hc1, hf1, hz1⟩ := bstep (N := w.heap.size + 2) (by go_size) hb) | (go_at_call 90; refine (isEn_impl_r _ _ true He.out _).mono ?_; rintro e w2 ⟨rfl, hb2⟩; obtain ⟨hc2, hf2, hz2⟩ := bstep (N := w.heap.size + 2) (by go_size) hb2) | (go_at_call 126; refine (length_i64 _ _ _ hn2 _).mono ?_; rintro e w' ⟨rfl, rfl⟩) | (go_at_call 109; refine (within_r _ _ _ false Hbq.out _).mono ?_; rintro e w' ⟨rfl, rfl⟩))
        go_ret
        exact ⟨rfl, by repeat' (first | (with_reducible exact Below.refl _ _) | (with_reducible assumption) | (with_reducible refine Below.alloc ?_ ?_ _) | (with_reducible refine Below.drew ?_) | (with_reducible refine below_drewN ?_ _) | (with_reducible refine Below.setCell ?_ ?_ _) | (with_reducible refine Below.trans ?_ (Below.mono (by assumption) ?_)) | go_size | (exact Below.size (by assumption)))⟩
      | true =>
        go_enter Try.func76, Try.ntmps76
        go_wp2_with (first | (go_at_call 142; refine (HB.out _ (by exact Hs.out) (by exact Hr.out) hS).mono ?_; rintro e w1 ⟨rfl, hb⟩; obtain ⟨hc1, hf1, hz1⟩ := bstep (N := w.heap.size + 2) (by go_size) hb) | (go_at_call 90; refine (isEn_impl_r _ _ true He.out _).mono ?_; rintro e w2 ⟨rfl, hb2⟩; obtain ⟨hc2, hf2, hz2⟩ := bstep (N := w.heap.size + 2) (by go_size) hb2) | (go_at_call 126; refine (length_i64 _ _ _ hn2 _).mono ?_; rintro e w' ⟨rfl, rfl⟩) | (go_at_call 109; refine (within_r _ _ _ true Hbq.out _).mono ?_; rintro e w' ⟨rfl, rfl⟩))
        go_ret
        exact ⟨rfl, by repeat' (first | (with_reducible exact Below.refl _ _) | (with_reducible assumption) | (with_reducible refine Below.alloc ?_ ?_ _) | (with_reducible refine Below.drew ?_) | (with_reducible refine below_drewN ?_ _) | (with_reducible refine Below.setCell ?_ ?_ _) | (with_reducible refine Below.trans ?_ (Below.mono (by assumption) ?_)) | go_size | (exact Below.size (by assumption)))⟩
end Go.Proofs.Ytooifamckccadaa
