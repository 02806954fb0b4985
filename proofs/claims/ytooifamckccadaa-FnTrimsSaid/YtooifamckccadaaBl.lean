/- Which lists are blocks of a layout: walks. -/
import Derived.Test.YtooifamckccadaaBk
namespace Go.Proofs.Ytooifamckccadaa
open Go.ChangeShapes Go.WideShapes Go.ChangeAt Go.RowKit
set_option maxRecDepth 20000
set_option linter.unusedVariables false
set_option linter.unusedSimpArgs false
theorem rd_drop1 {w : World} {B b o : Nat} {fs : List Int} (h : Rd w B (some ⟨b, o, none⟩) (ints fs)) : Rd w B (some ⟨b, o + 1, none⟩) (ints (fs.drop 1)) := fun hn => by
  have h0 : 0 < (ints fs).length := by
    rw [ints_length] at hn ⊢
    simp at hn
    omega
  obtain ⟨b', o', he, hb, hc⟩ := h h0
  injection he with he
  injection he with e1 e2
  subst e1 e2
  refine ⟨b, o + 1, rfl, hb, fun j u hu => ?_⟩
  have := hc (j + 1) u (by
    simp only [ints, List.getElem?_map, List.getElem?_drop] at hu ⊢
    rw [Nat.add_comm 1 j] at hu
    exact hu)
  rw [show o + 1 + j = o + (j + 1) by omega]
  exact this
set_option maxHeartbeats 1000000 in
theorem areBlocks_any (ls : List Seg) (fs : List Int) (A : Option Addr) (B c : Nat) (A' : Option Addr) (c' : Nat) (w : World) (hs : Rd w B A (ls.flatMap eSegment)) (hr : Rd w B A' (ints fs)) (hB : B ≤ w.heap.size) (hn : ls.length ≤ 1048576) (hn2 : fs.length ≤ 1048576) (hc : fs.length ≤ c') (hcm : c' ≤ 9223372036854775807) :
   Calls Try.prog 174 #[.agg #[.slice A ls.length c], .slice A' fs.length c'] w fun e w' => e = .returned (.bool (blkB ls fs)) ∧ Below w.heap.size w w' := by
  have Hs := Lib.hid (hs.alloc hB (.cells #[.slice A ls.length c] 26))
  have hS : B ≤ (w.alloc (.cells #[.slice A ls.length c] 26)).heap.size := by simp; omega
  have Hr := Lib.hid (hr.alloc hB (.cells #[.slice A ls.length c] 26))
  clear hs hr
  cases h1 : inB fs.length 2 8 with
  | false =>
    have hd : blkB ls fs = false := by rw [blkB, h1]; rfl
    have Hd := Lib.hid hd
    have H1 := Lib.hid h1
    clear hd h1
    go_enter Try.func174, Try.ntmps174
    go_wp2_with (first | (go_at_call 126; refine (length_i64 _ _ _ hn2 _).mono ?_; rintro e w' ⟨rfl, rfl⟩) | (go_at_call 109; refine (within_r _ _ _ false H1.out _).mono ?_; rintro e w' ⟨rfl, rfl⟩))
    go_ret
    exact ⟨ret_bool Hd.out.symm, by repeat' (first | (with_reducible exact Below.refl _ _) | (with_reducible assumption) | (with_reducible refine Below.alloc ?_ ?_ _) | (with_reducible refine Below.drew ?_) | (with_reducible refine below_drewN ?_ _) | (with_reducible refine Below.setCell ?_ ?_ _) | (with_reducible refine Below.trans ?_ (Below.mono (by assumption) ?_)) | go_size | (exact Below.size (by assumption)))⟩
  | true =>
    have hlen := inB_iff h1
    have hl2 : 2 ≤ fs.length := by omega
    have ht0 := List.getElem?_eq_getElem (show 0 < fs.length by omega)
    generalize fs[0] = x0 at ht0
    have hhd : fs.head? = some x0 := by rw [List.head?_eq_getElem?]; exact ht0
    obtain ⟨b, o, rfl, hbB, d0⟩ := Hr.out.int ht0
    simp only [Nat.add_zero] at d0
    have hbw : b < w.heap.size := by omega
    have H1 := Lib.hid h1
    have hi1 : (0 : Int) < (fs.length : Int) := by omega
    by_cases hx : x0 = 0
    · subst hx
      cases h2 : risB fs ls.length with
      | false =>
        have hd : blkB ls fs = false := by rw [blkB, h2]; simp
        have Hd := Lib.hid hd
        have HR := Lib.hid (fun w' : World => fun h => h2 ▸ isRising_any fs ls.length (some ⟨b, o, none⟩) B c' w' h hn2)
        clear hd h1 h2 hlen ht0 hhd
        go_enter Try.func174, Try.ntmps174
        go_wp2_with (first | (go_at_call 126; refine (length_i64 _ _ _ hn2 _).mono ?_; rintro e w' ⟨rfl, rfl⟩) | (go_at_call 109; refine (within_r _ _ _ true H1.out _).mono ?_; rintro e w' ⟨rfl, rfl⟩) | (go_at_call 108; refine (length_seg _ _ _ hn _).mono ?_; rintro e w' ⟨rfl, rfl⟩) | (go_at_call 143; refine (HR.out _ (by exact Hr.out)).mono ?_; rintro e w' ⟨rfl, rfl⟩))
        go_ret
        exact ⟨ret_bool Hd.out.symm, by repeat' (first | (with_reducible exact Below.refl _ _) | (with_reducible assumption) | (with_reducible refine Below.alloc ?_ ?_ _) | (with_reducible refine Below.drew ?_) | (with_reducible refine below_drewN ?_ _) | (with_reducible refine Below.setCell ?_ ?_ _) | (with_reducible refine Below.trans ?_ (Below.mono (by assumption) ?_)) | go_size | (exact Below.size (by assumption)))⟩
      | true =>
        have hd : blkB ls fs = !((fs.drop 1).any (fun x => !blk1 ls x)) := by rw [blkB, h1, h2, hhd, any_not_all, Bool.not_not]; simp
        have hin : In1 (fs.drop 1) ls.length := fun k x hk => by
          rw [List.getElem?_drop, Nat.add_comm] at hk
          have hk1 := (List.getElem?_eq_some_iff.1 hk).1
          have hq := risB_at h2 hk
          have h3 := (List.all_eq_true.1 h2) (k + 1) (List.mem_range.2 hk1)
          have hy := List.getElem?_eq_getElem (show k < fs.length by omega)
          rw [riseT_succ hk hy] at h3
          simp only [Bool.and_eq_true, decide_eq_true_eq] at h3
          have := risB_at h2 hy
          omega
        have Hd := Lib.hid hd
        have Hin := Lib.hid hin
        have HR := Lib.hid (fun w' : World => fun h => h2 ▸ isRising_any fs ls.length (some ⟨b, o, none⟩) B c' w' h hn2)
        have Hr2 := Lib.hid (rd_drop1 Hr.out)
        have hc0 : (w.alloc (.cells #[.slice A ls.length c] 26)).cell? ⟨w.heap.size, 0, none⟩ = some (.slice A ls.length c) := by simp
        have hcon := conBlk1 (fs.drop 1) (some ⟨b, o + 1, none⟩) B (c' - 1) ls A c w.heap.size (w.alloc (.cells #[.slice A ls.length c] 26)) Hr2.out (by simp; omega) (by simp; omega) hc0 (by simp) (Hs.out.more hS) Hin.out hn
        rw [List.length_drop] at hcon
        have HCN := Lib.hid hcon
        clear hd h1 h2 hlen ht0 hhd hin hcon hc0
        go_enter Try.func174, Try.ntmps174
        go_wp2_with (first | (go_at_call 126; refine (length_i64 _ _ _ hn2 _).mono ?_; rintro e w' ⟨rfl, rfl⟩) | (go_at_call 109; refine (within_r _ _ _ true H1.out _).mono ?_; rintro e w' ⟨rfl, rfl⟩) | (go_at_call 108; refine (length_seg _ _ _ hn _).mono ?_; rintro e w' ⟨rfl, rfl⟩) | (go_at_call 143; refine (HR.out _ (by exact Hr.out)).mono ?_; rintro e w' ⟨rfl, rfl⟩) | (go_at_call 144; go_loud (refine (HCN.out).mono ?_); rintro e w1 ⟨rfl, hb⟩))
        go_ret
        exact ⟨ret_bool (by rw [Hd.out, List.drop_one]), by repeat' (first | (with_reducible exact Below.refl _ _) | (with_reducible assumption) | (with_reducible refine Below.alloc ?_ ?_ _) | (with_reducible refine Below.drew ?_) | (with_reducible refine below_drewN ?_ _) | (with_reducible refine Below.setCell ?_ ?_ _) | (with_reducible refine Below.trans ?_ (Below.mono (by assumption) ?_)) | go_size | (exact Below.size (by assumption)))⟩
    · have hd : blkB ls fs = false := by rw [blkB, hhd]; simp [hx]
      have Hd := Lib.hid hd
      have hxb : (x0 != 0) = true := by rw [bne_iff_ne]; exact hx
      clear hd h1 hlen ht0 hhd
      go_enter Try.func174, Try.ntmps174
      go_wp2_with (first | (go_at_call 126; refine (length_i64 _ _ _ hn2 _).mono ?_; rintro e w' ⟨rfl, rfl⟩) | (go_at_call 109; refine (within_r _ _ _ true H1.out _).mono ?_; rintro e w' ⟨rfl, rfl⟩))
      go_ret
      exact ⟨ret_bool Hd.out.symm, by repeat' (first | (with_reducible exact Below.refl _ _) | (with_reducible assumption) | (with_reducible refine Below.alloc ?_ ?_ _) | (with_reducible refine Below.drew ?_) | (with_reducible refine below_drewN ?_ _) | (with_reducible refine Below.setCell ?_ ?_ _) | (with_reducible refine Below.trans ?_ (Below.mono (by assumption) ?_)) | go_size | (exact Below.size (by assumption)))⟩
end Go.Proofs.Ytooifamckccadaa
