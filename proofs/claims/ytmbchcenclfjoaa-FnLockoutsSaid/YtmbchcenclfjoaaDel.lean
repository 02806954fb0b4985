/- slices.Delete of one lock; RemoveLock of the program and of the reference: walks. -/
import Derived.Test.YtmbchcenclfjoaaAdl
import Derived.Deep.RegionLaw
import Derived.IntWalk
import Derived.Lib.SliceRun
namespace Go.Proofs.Ytmbchcenclfjoaa
open Go.ChangeShapes Go.WideShapes Go.ChangeAt Go.RowKit
set_option maxRecDepth 20000
set_option linter.unusedVariables false
set_option linter.unusedSimpArgs false
def setMany : List Value → Nat → List Value → List Value
  | xs, _, [] => xs
  | xs, o, v :: r => setMany (xs.set o v) (o + 1) r
theorem setMany_length : ∀ (vs xs : List Value) (o : Nat), (setMany xs o vs).length = xs.length
  | [], _, _ => rfl
  | v :: r, xs, o => by rw [setMany, setMany_length r, List.length_set]
theorem setMany_get : ∀ (vs xs : List Value) (o j : Nat), o + vs.length ≤ xs.length → (setMany xs o vs)[j]? = if o ≤ j ∧ j < o + vs.length then vs[j - o]? else xs[j]?
  | [], xs, o, j, h => by rw [setMany, if_neg (by simp)]
  | v :: r, xs, o, j, h => by
    simp only [List.length_cons] at h
    rw [setMany, setMany_get r (xs.set o v) (o + 1) j (by rw [List.length_set]; omega), List.getElem?_set]
    by_cases h1 : o = j
    · subst h1
      rw [if_neg (by omega), if_pos rfl, if_pos (by omega), if_pos (by simp), Nat.sub_self]
      rfl
    · rw [if_neg h1]
      by_cases h2 : o + 1 ≤ j ∧ j < o + 1 + r.length
      · rw [if_pos h2, if_pos (by simp only [List.length_cons]; omega), show j - o = j - (o + 1) + 1 by omega]
        rfl
      · rw [if_neg h2, if_neg (by simp only [List.length_cons]; omega)]
theorem own_setCells {base : Nat} {e : TypeId} {size n cap g : Nat} : ∀ (vs : List Value) (o : Nat) {w : World} {xs : List Value}, w.ownsRow base e size (.slice (some ⟨g, 0, none⟩) n cap) n xs → o + vs.length ≤ n * size →
    (w.setCells g o vs).ownsRow base e size (.slice (some ⟨g, 0, none⟩) n cap) n (setMany xs o vs) ∧ w.grownBy (w.setCells g o vs) (some g)
  | [], o, w, xs, h, _ => ⟨h, World.grownBy.refl w _⟩
  | v :: r, o, w, xs, h, hl => by
    have h1 := World.ownsRow.stored h o v
    have h2 := own_setCells r (o + 1) h1.1 (by simp only [List.length_cons] at hl; omega)
    exact ⟨h2.1, grownBy_trans h1.2 h2.2⟩
theorem own_cut {w : World} {base : Nat} {e : TypeId} {size n m cap : Nat} {A : Option Addr} {xs : List Value} (h : w.ownsRow base e size (.slice A n cap) n xs) (hn : 0 < n) (hm : m ≤ n) : w.ownsRow base e size (.slice A m cap) m (xs.take (m * size)) := by
  obtain ⟨hl, h⟩ := h
  have hms : m * size ≤ n * size := Nat.mul_le_mul_right _ hm
  refine ⟨by rw [List.length_take, hl]; omega, ?_⟩
  rcases h with ⟨_, h0⟩ | ⟨g, cap', cur, hv, hg, hh, hnc, hc, hs, ht⟩
  · omega
  · injection hv with h1 h2 h3
    subst h1 h3
    refine .inr ⟨g, cap, cur, rfl, hg, hh, by omega, hc, hs, ?_⟩
    rw [← ht, List.take_take, Nat.min_eq_left hms]
/-- element q of the locks taken out -/
theorem erase_cells (l : List (Int × Int)) (q : Nat) (hq : q < l.length) (z : List Value) (hz : z.length = 2) :
    (setMany (setMany (l.flatMap eLock) (q * 2) ((l.drop (q + 1)).flatMap eLock)) ((l.length - 1) * 2) z).take ((l.length - 1) * 2) = (l.eraseIdx q).flatMap eLock := by
  have hL : (l.flatMap eLock).length = l.length * 2 := flat_len eLock 2 eLock_len l
  have hD : ((l.drop (q + 1)).flatMap eLock).length = (l.length - (q + 1)) * 2 := by rw [flat_len eLock 2 eLock_len, List.length_drop]
  have hE : (l.eraseIdx q) = l.take q ++ l.drop (q + 1) := List.eraseIdx_eq_take_drop_succ ..
  have hT : ((l.take q).flatMap eLock).length = q * 2 := by rw [flat_len eLock 2 eLock_len, List.length_take, Nat.min_eq_left (by omega)]
  have hsp : l.flatMap eLock = (l.take q).flatMap eLock ++ (l.drop q).flatMap eLock := by rw [← List.flatMap_append, List.take_append_drop]
  apply List.ext_getElem?
  intro j
  rw [List.getElem?_take, hE, List.flatMap_append]
  by_cases hj : j < (l.length - 1) * 2
  · rw [if_pos hj, setMany_get _ _ _ _ (by rw [setMany_length, hL, hz]; omega), if_neg (by omega), setMany_get _ _ _ _ (by rw [hL, hD]; omega)]
    by_cases h1 : q * 2 ≤ j
    · rw [if_pos ⟨h1, by rw [hD]; omega⟩, List.getElem?_append_right (by omega), hT]
    · rw [if_neg (by omega), List.getElem?_append_left (by omega), hsp, List.getElem?_append_left (by omega)]
  · rw [if_neg hj, List.getElem?_eq_none (by rw [List.length_append, hT, hD]; omega)]
theorem run_clear_lock (w : World) (ty : TypeId) (b o c : Nat) (hc : ∀ j, j < 2 → (w.cell? ⟨b, o + j, none⟩).isSome = true) (hf : ∀ j, j < 2 → w.frozen? ⟨b, o + j, none⟩ = false) :
    (Builtin.clear_ #[32] ty #[.slice (some ⟨b, o, none⟩) 1 c]).run Try.prog w = .ok (.tuple #[]) (w.setCells b o [.int .i64 0, .int .i64 0]) := by
  have hv : (zeroValue 75).run Try.prog w = .ok (.agg #[.int .i64 0, .int .i64 0]) w := by kernel_rfl
  have hst := run_storeCells_cells (P := Try.prog) b o [.int .i64 0, .int .i64 0] 0 w (by simpa using hc) (by simpa using hf) (by intro v hv'; simp at hv'; subst hv'; rfl)
  simp only [Nat.add_zero] at hst
  have hz : (Builtin.zeroCells (Value.agg #[.int .i64 0, .int .i64 0]).cells 1).toList = [.int .i64 0, .int .i64 0] := by kernel_rfl
  simp [Builtin.clear_, run_underlying Try.underlying32, hv, hz, hst]
theorem deleteLock_any (l : List (Int × Int)) (q : Nat) (hq : q < l.length) (hn : l.length ≤ 1048576) (A : Option Addr) (base cap : Nat) (w : World) (hown : w.ownsRow base 75 2 (.slice A l.length cap) l.length (l.flatMap eLock)) :
   Calls Try.prog 78 #[.slice A l.length cap, .int .i64 q, .int .i64 ((q : Int) + 1)] w fun e w' => e = .returned (.slice A (l.eraseIdx q).length cap) ∧ w'.ownsRow base 75 2 (.slice A (l.eraseIdx q).length cap) (l.eraseIdx q).length ((l.eraseIdx q).flatMap eLock) ∧ Below base w w' := by
  obtain ⟨i0, hi0, hz0, hz1, hz2⟩ := info_parts infoLock
  obtain ⟨g, rfl, hg1, hg2⟩ := own_form hown (by omega)
  have hcap := own_cap hown
  have hcm : cap ≤ maxLen := by
    rcases hown.2 with ⟨_, h0⟩ | ⟨g', cap', cur, hv, _, hh, _, hc, _⟩
    · omega
    · injection hv with _ _ h3
      omega
  unfold maxLen at hcm
  have hlen : (l.eraseIdx q).length = l.length - 1 := List.length_eraseIdx_of_lt hq
  rw [hlen]
  have hnews : ((l.drop (q + 1)).flatMap eLock).length = (l.length - (q + 1)) * 2 := by rw [flat_len eLock 2 eLock_len, List.length_drop]
  have s2 := Lib.hid (flat_one eLock eLock_one (l.drop (q + 1)))
  have hcells := hown.cellAt
  have hfz := hown.frozenAt
  have o1 := own_setCells ((l.drop (q + 1)).flatMap eLock) (q * 2) (w := w.drew) (own_drew hown) (by rw [hnews]; omega)
  obtain ⟨ad, hA, hsrc⟩ : ∃ ad : Addr, (if cap = q + 1 then some (⟨g, 0, none⟩ : Addr) else some ⟨g, (q + 1) * 2, none⟩) = some ad ∧ Hid (∀ j u, ((l.drop (q + 1)).flatMap eLock)[j]? = some u → w.drew.cell? (ad.add j) = some u) := by
    by_cases h : cap = q + 1
    · refine ⟨⟨g, 0, none⟩, by simp [h], fun j u hu => ?_⟩
      have h0 : ((l.drop (q + 1)).flatMap eLock).length = 0 := by rw [hnews]; omega
      rw [List.length_eq_zero_iff.1 h0] at hu
      simp at hu
    · refine ⟨⟨g, (q + 1) * 2, none⟩, by simp [h], fun j u hu => ?_⟩
      have hj := (List.getElem?_eq_some_iff.1 hu).1
      rw [hnews] at hj
      rw [Addr.add_lit]
      refine (hcells ((q + 1) * 2 + j) (by omega)).trans ?_
      have hsp : l.flatMap eLock = (l.take (q + 1)).flatMap eLock ++ (l.drop (q + 1)).flatMap eLock := by rw [← List.flatMap_append, List.take_append_drop]
      rw [hsp, List.getElem?_append_right (by rw [flat_len eLock 2 eLock_len, List.length_take]; omega), flat_len eLock 2 eLock_len, List.length_take, Nat.min_eq_left (by omega)]
      rw [show (q + 1) * 2 + j - (q + 1) * 2 = j by omega]
      exact hu
  have s3 : Hid (∀ j, j < ((l.drop (q + 1)).flatMap eLock).length → (w.drew.cell? ⟨g, 0 + q * 2 + j, none⟩).isSome = true ∧ w.drew.frozen? ⟨g, 0 + q * 2 + j, none⟩ = false) := by
    intro j hj
    rw [hnews] at hj
    rw [Nat.zero_add]
    refine ⟨?_, hfz _⟩
    have h1 : w.cell? ⟨g, q * 2 + j, none⟩ = _ := hcells (q * 2 + j) (by omega)
    show (w.cell? _).isSome = true
    rw [h1, List.getElem?_eq_getElem (by rw [flat_len eLock 2 eLock_len]; omega)]
    rfl
  have hnews' := Lib.hid hnews
  obtain ⟨W1, hW1⟩ : ∃ W1, W1 = w.drew.setCells g (0 + q * 2) ((l.drop (q + 1)).flatMap eLock) := ⟨_, rfl⟩
  rw [Nat.zero_add] at hW1
  rw [← hW1] at o1
  obtain ⟨o1, g1⟩ := o1
  have o2 := own_setCells [.int .i64 0, .int .i64 0] ((l.length - 1) * 2) o1 (by simp; omega)
  have hcl : ∀ ty, (Builtin.clear_ #[32] ty #[.slice (some ⟨g, (l.length - 1) * 2, none⟩) 1 (cap - (l.length - 1))]).run Try.prog W1 = .ok (.tuple #[]) (W1.setCells g ((l.length - 1) * 2) [.int .i64 0, .int .i64 0]) := fun ty =>
    run_clear_lock W1 ty g ((l.length - 1) * 2) _ (fun j hj => by
      rw [o1.cellAt _ (by omega), List.getElem?_eq_getElem (by rw [setMany_length, flat_len eLock 2 eLock_len]; omega)]; rfl) (fun j hj => o1.frozenAt _)
  have hcl2 : ∀ ty, (Builtin.clear_ #[32] ty #[.slice (some ⟨g, (q + (l.length - (q + 1))) * 2, none⟩) (l.length - (q + (l.length - (q + 1)))) (cap - (q + (l.length - (q + 1))))]).run Try.prog W1 = .ok (.tuple #[]) (W1.setCells g ((l.length - 1) * 2) [.int .i64 0, .int .i64 0]) := by
    rw [show q + (l.length - (q + 1)) = l.length - 1 by omega, show l.length - (l.length - 1) = 1 by omega]
    exact hcl
  clear hcl
  have hfin : (W1.setCells g ((l.length - 1) * 2) [.int .i64 0, .int .i64 0]).ownsRow base 75 2 (.slice (some ⟨g, 0, none⟩) (l.length - 1) cap) (l.length - 1) ((l.eraseIdx q).flatMap eLock) := by
    have h := own_cut o2.1 (by omega) (show l.length - 1 ≤ l.length by omega)
    rw [erase_cells l q hq _ rfl] at h
    exact h
  have hbel : Below base w (W1.setCells g ((l.length - 1) * 2) [.int .i64 0, .int .i64 0]) := (Below.refl _ _).drew.trans (below_of_grownBy (grownBy_trans g1 o2.2) (by simp; omega) (fun k hk => by injection hk with hk; omega))
  have Hfin := Lib.hid hfin
  have Hbel := Lib.hid hbel
  have hW : Hid (W1 = w.drew.setCells g (0 + q * 2) ((l.drop (q + 1)).flatMap eLock)) := by rw [Nat.zero_add]; exact hW1
  have hne : ((q : Int) == (q : Int) + 1) = false := by rw [beq_eq_false_iff_ne]; omega
  have hic : q ≤ cap := by omega
  have hjc : q + 1 ≤ cap := by omega
  have hq0 : (0 : Int) ≤ (q : Int) + 1 := by omega
  have hql : (q : Int) + 1 ≤ (l.length : Int) := by omega
  clear hW1 o1 o2 g1 hfin hbel hnews hcells hfz hown hlen
  go_enter Try.func78, Try.ntmps78
  go_wp2_with fail
  go_region_law (refine step_append_room rfl (.tmp 22) (.tmp 25) 32 (by rfl) 75 i0 2 Try.underlying32 hi0 hz1 g 0 q cap (by simp [Act.eval, Act.put]) ad (l.length - (q + 1)) (cap - (q + 1)) ((l.drop (q + 1)).flatMap eLock) (by simp [Act.eval, Act.put]) hnews'.out hsrc.out s2.out (by omega) s3.out ?_; rw [← hW.out])
  go_wp2
  go_ret
  exact ⟨by rw [show q + (l.length - (q + 1)) = l.length - 1 by omega]; rfl, Hfin.out, Hbel.out⟩
theorem own_capmax {w : World} {base : Nat} {e : TypeId} {size n c : Nat} {A : Option Addr} {xs : List Value} (h : w.ownsRow base e size (.slice A n c) n xs) (hx : True) : c ≤ maxLen := by
  rcases h.2 with ⟨hv, _⟩ | ⟨g, cap, cur, hv, _, _, _, hc, _⟩
  · injection hv with _ _ h3
    subst h3
    simp [maxLen]
  · injection hv with _ _ h3
    omega
def remC (l : List (Int × Int)) (d o : Int) : Int := if lcC l d o ≠ 0 then lcC l d o else if l.any (· == (d, o)) then 0 else 4
def remR (l : List (Int × Int)) (d o : Int) : List (Int × Int) := if remC l d o = 0 then l.eraseIdx (idxB (· == (d, o)) l).toNat else []
theorem remR_len (l : List (Int × Int)) (d o : Int) (hn : l.length ≤ 1048576) : (remR l d o).length ≤ 1048576 := by
  unfold remR
  split
  · have := List.length_eraseIdx_le l (idxB (· == (d, o)) l).toNat
    omega
  · simp
theorem rem_cases (l : List (Int × Int)) (d o : Int) (hn : l.length ≤ 1048576) :
    (∃ r : Int, r ≠ 0 ∧ lcC l d o = r ∧ remC l d o = r ∧ remR l d o = []) ∨
    (lcC l d o = 0 ∧ l.any (· == (d, o)) = false ∧ remC l d o = 4 ∧ remR l d o = []) ∨
    (∃ q : Nat, lcC l d o = 0 ∧ idxB (· == (d, o)) l = q ∧ q < l.length ∧ remC l d o = 0 ∧ remR l d o = l.eraseIdx q) := by
  by_cases h : lcC l d o = 0
  · right
    cases ha : l.any (· == (d, o)) with
    | false => left; have hc : remC l d o = 4 := by rw [remC, if_neg (by simp [h]), if_neg (by simp [ha])]
               exact ⟨h, rfl, hc, by simp [remR, hc]⟩
    | true =>
      right
      have hc : remC l d o = 0 := by rw [remC, if_neg (by simp [h]), if_pos ha]
      have hq : ∃ q : Nat, idxB (· == (d, o)) l = q ∧ q < l.length := by
        unfold idxB
        cases hf : l.findIdx? (· == (d, o)) with
        | none =>
          rw [List.findIdx?_eq_none_iff] at hf
          rw [List.any_eq_true] at ha
          obtain ⟨x, hx, hp⟩ := ha
          have h1 := hf x hx
          rw [hp] at h1
          cases h1
        | some i =>
          rw [List.findIdx?_eq_some_iff_getElem] at hf
          obtain ⟨hi, _⟩ := hf
          exact ⟨i, rfl, hi⟩
      obtain ⟨q, hq1, hq2⟩ := hq
      exact ⟨q, h, hq1, hq2, hc, by rw [remR, if_pos hc, hq1, Int.toNat_natCast]⟩
  · left
    have hc : remC l d o = lcC l d o := by rw [remC, if_pos h]
    exact ⟨_, h, rfl, hc, by simp [remR, hc, h]⟩
theorem indexLock_r (l : List (Int × Int)) (d o : Int) (r : Int) (h : idxB (· == (d, o)) l = r) (A : Option Addr) (B c : Nat) (w : World) (hr : Rd w B A (l.flatMap eLock)) (hB : B ≤ w.heap.size) (hn : l.length ≤ 1048576) :
   Calls Try.prog 77 #[.slice A l.length c, .agg #[.int .i64 d, .int .i64 o]] w fun e w' => e = .returned (.int .i64 r) ∧ Below w.heap.size w w' := h ▸ indexLock_any l A B c (d, o) w hr hB hn
theorem rd_dropLock {w : World} {B b off c q : Nat} {l : List (Int × Int)} (hr : Rd w B (some ⟨b, off, none⟩) (l.flatMap eLock)) (hlc : l.length ≤ c) (hq : q < l.length) :
    ∃ ad : Addr, (if c = q + 1 then some (⟨b, off, none⟩ : Addr) else some ⟨b, off + (q + 1) * 2, none⟩) = some ad ∧ Rd w B (some ad) ((l.drop (q + 1)).flatMap eLock) := by
  have hnews : ((l.drop (q + 1)).flatMap eLock).length = (l.length - (q + 1)) * 2 := by rw [flat_len eLock 2 eLock_len, List.length_drop]
  by_cases h : c = q + 1
  · refine ⟨⟨b, off, none⟩, by simp [h], fun hn => ?_⟩
    rw [hnews] at hn
    omega
  · refine ⟨⟨b, off + (q + 1) * 2, none⟩, by simp [h], fun hn => ?_⟩
    obtain ⟨b', off', he, hb, hc⟩ := hr (by rw [flat_len eLock 2 eLock_len]; omega)
    injection he with he
    injection he with he1 he2
    subst he1 he2
    refine ⟨b, off + (q + 1) * 2, rfl, hb, fun j u hu => ?_⟩
    rw [Nat.add_assoc]
    refine hc _ u ?_
    have hsp : l.flatMap eLock = (l.take (q + 1)).flatMap eLock ++ (l.drop (q + 1)).flatMap eLock := by rw [← List.flatMap_append, List.take_append_drop]
    rw [hsp, List.getElem?_append_right (by rw [flat_len eLock 2 eLock_len, List.length_take]; omega), flat_len eLock 2 eLock_len, List.length_take, Nat.min_eq_left (by omega), show (q + 1) * 2 + j - (q + 1) * 2 = j by omega]
    exact hu
theorem rd_alloc_drew {w : World} {B : Nat} {A : Option Addr} {xs : List Value} (h : Rd w B A xs) (hB : B ≤ w.heap.size) (o : Obj) : Rd (World.drew (w.alloc o)) B A xs := h.alloc hB o
theorem rem_spec (l : List (Int × Int)) (d o : Int) (A : Option Addr) (B c : Nat) (w : World) (hr : Rd w B A (l.flatMap eLock)) (hB : B ≤ w.heap.size) (hn : l.length ≤ 1048576) (hlc : l.length ≤ c) (hcm : c ≤ maxLen) :
   Calls Try.prog 40 #[.slice A l.length c, .int .i64 d, .int .i64 o] w fun e w' => ∃ A' c', e = .returned (.tuple #[.slice A' (remR l d o).length c', .int .i64 (remC l d o)]) ∧ w'.ownsRow w.heap.size 75 2 (.slice A' (remR l d o).length c') (remR l d o).length ((remR l d o).flatMap eLock) ∧ Below w.heap.size w w' := by
  obtain ⟨i0, hi0, hz0, hz1, hzz2⟩ := info_parts infoLock
  rcases rem_cases l d o hn with ⟨r, h0, hc, h1, h2⟩ | ⟨hc, ha, h1, h2⟩ | ⟨q, hc, hi, hq, h1, h2⟩
  · rw [h1, h2]
    have h12 := lcC_12 hc h0
    have hne : (r != 0) = true := by rw [bne_iff_ne]; exact h0
    have Hc := Lib.hid hc
    clear h1 h2 hc h0
    go_enter Try.func40, Try.ntmps40
    go_wp2_with ((go_at_call 74; refine (lcC_spec_r l d o r Hc.out _ B c w hr hB hn).mono ?_; rintro e w1 ⟨rfl, hb⟩; have hz := hb.size; have hr1 := Lib.hid (hr.below hb hB)))
    go_ret2
    exact ⟨none, 0, rfl, World.ownsRow_nil _ _ _ _, by repeat' (first | (with_reducible exact Below.refl _ _) | (with_reducible assumption) | (with_reducible refine Below.alloc ?_ ?_ _) | (with_reducible refine Below.drew ?_) | (with_reducible refine below_drewN ?_ _) | (with_reducible refine Below.setCell ?_ ?_ _) | (with_reducible refine Below.trans ?_ (Below.mono (by assumption) ?_)) | go_size | (exact Below.size (by assumption)))⟩
  · rw [h1, h2]
    have Hi := Lib.hid (idxB_none (· == (d, o)) l ha)
    have Hc := Lib.hid hc
    clear h1 h2 hc ha
    go_enter Try.func40, Try.ntmps40
    go_wp2_with (first | (go_at_call 74; refine (lcC_spec_r l d o 0 Hc.out _ B c w hr hB hn).mono ?_; rintro e w1 ⟨rfl, hb⟩; have hz := hb.size; have hr1 := Lib.hid (hr.below hb hB)) | (go_at_call 63; refine (l29Find_r l d o _ Hi.out _ B c _ hr1.out hn).mono ?_; rintro e w' ⟨rfl, rfl⟩))
    go_ret2
    exact ⟨none, 0, rfl, World.ownsRow_nil _ _ _ _, by repeat' (first | (with_reducible exact Below.refl _ _) | (with_reducible assumption) | (with_reducible refine Below.alloc ?_ ?_ _) | (with_reducible refine Below.drew ?_) | (with_reducible refine below_drewN ?_ _) | (with_reducible refine Below.setCell ?_ ?_ _) | (with_reducible refine Below.trans ?_ (Below.mono (by assumption) ?_)) | go_size | (exact Below.size (by assumption)))⟩
  · rw [h1, h2]
    have Hi := Lib.hid hi
    have Hc := Lib.hid hc
    clear h1 h2 hc hi
    unfold maxLen at hcm
    obtain ⟨b, off, rfl, hbB, hcell⟩ := hr (by rw [flat_len eLock 2 eLock_len]; omega)
    obtain ⟨ad, hA, hsrc⟩ := rd_dropLock hr hlc hq
    have hic : q ≤ c := by omega
    have hjc : q + 1 ≤ c := by omega
    have hq0 : (0 : Int) ≤ (q : Int) + 1 := by omega
    have hql : (q : Int) + 1 ≤ (l.length : Int) := by omega
    have Hsrc := Lib.hid hsrc
    have Htk := Lib.hid (rd_take hr q)
    clear hsrc hcell
    go_enter Try.func40, Try.ntmps40
    go_wp2_with (first | (go_at_call 74; refine (lcC_spec_r l d o 0 Hc.out _ B c w hr hB hn).mono ?_; rintro e w1 ⟨rfl, hb⟩; have hz := hb.size; have hr1 := Lib.hid (hr.below hb hB)) | (go_at_call 63; refine (l29Find_r l d o _ Hi.out _ B c _ hr1.out hn).mono ?_; rintro e w' ⟨rfl, rfl⟩))
    have Ht1 := Lib.hid (Htk.out.below hb hB)
    have Hs1 := Lib.hid (Hsrc.out.below hb hB)
    have ht2 : ((l.take q).flatMap eLock).length = q * 2 := by rw [flat_len eLock 2 eLock_len, List.length_take, Nat.min_eq_left (by omega)]
    have hd2 : ((l.drop (q + 1)).flatMap eLock).length = (l.length - (q + 1)) * 2 := by rw [flat_len eLock 2 eLock_len, List.length_drop]
    have Ht2 := Lib.hid ht2
    have Hd2 := Lib.hid hd2
    clear ht2 hd2
    have hw1 : IntKind.i64.wrap ((q : Int) + 1) = (q : Int) + 1 := IntWalk.i64_in _ (by omega)
    have hw2 : ((q : Int) + 1).toNat = q + 1 := by omega
    go_region_law (first
      | (refine step_append_rd (w := World.drew (w1.alloc (.cells #[] 75))) rfl (.tmp 23) (.tmp 26) 32 (by rfl) w.heap.size 75 i0 _ 2 16 Try.underlying32 hi0 hz0 hz1 hzz2 rfl (by decide) _ 0 [] (by rfl) (World.ownsRow_made w1 #[] 0 hz (by simp [maxLen]) rfl) B (some ⟨b, off, none⟩) q c ((l.take q).flatMap eLock) (by rfl) Ht2.out (Ht1.out.alloc (by omega) _) (flat_one _ eLock_one _) (by unfold maxLen; omega) (by omega) (by simp; omega) ?_; intro v2 w2 own2 hb2 hz3; rw [Nat.zero_add, List.nil_append] at own2; obtain ⟨A2, c2, rfl⟩ := own_val own2; have O2 := Lib.hid own2; simp only [World.size_alloc, World.size_drew] at hz3; clear own2)
      | (refine step_append_rd (w := w2) rfl (.tmp 27) (.tmp 31) 32 (by rfl) w.heap.size 75 i0 _ 2 16 Try.underlying32 hi0 hz0 hz1 hzz2 rfl (by decide) _ q ((l.take q).flatMap eLock) (by rfl) O2.out B (some ad) (l.length - (q + 1)) (c - (q + 1)) ((l.drop (q + 1)).flatMap eLock) (by rfl) Hd2.out (((rd_alloc_drew Hs1.out (by omega) _)).below hb2 (by omega)) (flat_one _ eLock_one _) (by unfold maxLen; omega) (by omega) (by omega) ?_; intro v3 w3 own3 hb3 hz4; obtain ⟨A3, c3, rfl⟩ := own_val own3; have O3 := Lib.hid own3; clear own3))
    all_goals clear hw1 hw2
    all_goals go_wp2
    all_goals go_ret2
    all_goals (have hE : (l.eraseIdx q) = l.take q ++ l.drop (q + 1) := List.eraseIdx_eq_take_drop_succ ..)
    all_goals (have hL : (l.eraseIdx q).length = q + (l.length - (q + 1)) := by rw [List.length_eraseIdx_of_lt hq]; omega)
    all_goals rw [hL]
    all_goals refine ⟨A3, c3, rfl, by rw [hE, List.flatMap_append]; exact O3.out, ?_⟩
    all_goals repeat' (first | (with_reducible exact Below.refl _ _) | (with_reducible assumption) | (with_reducible refine Below.alloc ?_ ?_ _) | (with_reducible refine Below.drew ?_) | (with_reducible refine below_drewN ?_ _) | (with_reducible refine Below.setCell ?_ ?_ _) | (with_reducible refine Below.trans ?_ (Below.mono (by assumption) ?_)) | go_size | (exact Below.size (by assumption)))
theorem rem_impl (l : List (Int × Int)) (d o : Int) (A : Option Addr) (B c : Nat) (w : World) (hr : Rd w B A (l.flatMap eLock)) (hB : B ≤ w.heap.size) (hn : l.length ≤ 1048576) (hlc : l.length ≤ c) (hcm : c ≤ maxLen) :
   Calls Try.prog 41 #[.slice A l.length c, .int .i64 d, .int .i64 o] w fun e w' => ∃ A' c', e = .returned (.tuple #[.slice A' (remR l d o).length c', .int .i64 (remC l d o)]) ∧ w'.ownsRow w.heap.size 75 2 (.slice A' (remR l d o).length c') (remR l d o).length ((remR l d o).flatMap eLock) ∧ Below w.heap.size w w' := by
  obtain ⟨i0, hi0, hz0, hz1, hzz2⟩ := info_parts infoLock
  rcases rem_cases l d o hn with ⟨r, h0, hc, h1, h2⟩ | ⟨hc, ha, h1, h2⟩ | ⟨q, hc, hi, hq, h1, h2⟩
  · rw [h1, h2]
    have h12 := lcC_12 hc h0
    have hne : (r != 0) = true := by rw [bne_iff_ne]; exact h0
    have Hc := Lib.hid hc
    clear h1 h2 hc h0
    go_enter Try.func41, Try.ntmps41
    go_wp2_with ((go_at_call 75; refine (lcC_impl_r l d o r Hc.out A B c hlc _ (hr.alloc hB _) (by simp; omega) hn).mono ?_; rintro e w1 ⟨rfl, hb⟩; obtain ⟨hc, hf, hz⟩ := bstep (N := w.heap.size + 1) (by go_size) hb; have hr1 := Lib.hid ((hr.alloc hB _).below hb (by simp; omega))))
    go_ret2
    exact ⟨none, 0, rfl, World.ownsRow_nil _ _ _ _, by repeat' (first | (with_reducible exact Below.refl _ _) | (with_reducible assumption) | (with_reducible refine Below.alloc ?_ ?_ _) | (with_reducible refine Below.drew ?_) | (with_reducible refine below_drewN ?_ _) | (with_reducible refine Below.setCell ?_ ?_ _) | (with_reducible refine Below.trans ?_ (Below.mono (by assumption) ?_)) | go_size | (exact Below.size (by assumption)))⟩
  · rw [h1, h2]
    have Hi := Lib.hid (idxB_none (· == (d, o)) l ha)
    have Hc := Lib.hid hc
    clear h1 h2 hc ha
    go_enter Try.func41, Try.ntmps41
    go_wp2_with (first | (go_at_call 75; refine (lcC_impl_r l d o 0 Hc.out A B c hlc _ (hr.alloc hB _) (by simp; omega) hn).mono ?_; rintro e w1 ⟨rfl, hb⟩; obtain ⟨hc, hf, hz⟩ := bstep (N := w.heap.size + 1) (by go_size) hb; have hr1 := Lib.hid ((hr.alloc hB _).below hb (by simp; omega))) | (go_at_call 77; refine (indexLock_r l d o _ Hi.out _ B c _ hr1.out (by omega) hn).mono ?_; rintro e w2 ⟨rfl, hb2⟩; have hs2 := hb2.size; have hr2 := Lib.hid (hr1.out.below hb2 (by omega))))
    go_ret2
    exact ⟨none, 0, rfl, World.ownsRow_nil _ _ _ _, by repeat' (first | (with_reducible exact Below.refl _ _) | (with_reducible assumption) | (with_reducible refine Below.alloc ?_ ?_ _) | (with_reducible refine Below.drew ?_) | (with_reducible refine below_drewN ?_ _) | (with_reducible refine Below.setCell ?_ ?_ _) | (with_reducible refine Below.trans ?_ (Below.mono (by assumption) ?_)) | go_size | (exact Below.size (by assumption)))⟩
  · rw [h1, h2]
    have Hi := Lib.hid hi
    have Hc := Lib.hid hc
    clear h1 h2 hc hi
    go_enter Try.func41, Try.ntmps41
    go_wp2_with (first | (go_at_call 75; refine (lcC_impl_r l d o 0 Hc.out A B c hlc _ (hr.alloc hB _) (by simp; omega) hn).mono ?_; rintro e w1 ⟨rfl, hb⟩; obtain ⟨hc, hf, hz⟩ := bstep (N := w.heap.size + 1) (by go_size) hb; have hr1 := Lib.hid ((hr.alloc hB _).below hb (by simp; omega))) | (go_at_call 77; refine (indexLock_r l d o _ Hi.out _ B c _ hr1.out (by omega) hn).mono ?_; rintro e w2 ⟨rfl, hb2⟩; have hs2 := hb2.size; have hr2 := Lib.hid (hr1.out.below hb2 (by omega))) | (go_at_call 76; refine (cloneLock_any l A B c _ hr2.out (by omega) hn).mono ?_; rintro e w3 ⟨A3, c3, rfl, o3, b3⟩; have O3 := Lib.hid o3; have hs3 := b3.size; clear o3) | (go_at_call 78; refine (deleteLock_any l q hq hn A3 _ c3 _ O3.out).mono ?_; rintro e w4 ⟨rfl, o4, b4⟩; have O4 := Lib.hid (own_more o4 (show w.heap.size ≤ w2.heap.size by omega)); clear o4))
    go_ret2
    exact ⟨A3, c3, rfl, O4.out, by repeat' (first | (with_reducible exact Below.refl _ _) | (with_reducible assumption) | (with_reducible refine Below.alloc ?_ ?_ _) | (with_reducible refine Below.drew ?_) | (with_reducible refine below_drewN ?_ _) | (with_reducible refine Below.setCell ?_ ?_ _) | (with_reducible refine Below.trans ?_ (Below.mono (by assumption) ?_)) | go_size | (exact Below.size (by assumption)))⟩
end Go.Proofs.Ytmbchcenclfjoaa
