/- slices.Compact of numbers, of a row that the call owns. -/
import Derived.Test.YtmbchcenclfjoaaSq1
import Derived.Lib.SlicesCompact
import Derived.Lib.SliceRun
import Derived.Deep.CutBlock
namespace Go.Proofs.Ytmbchcenclfjoaa
open Go.ChangeShapes Go.WideShapes Go.ChangeAt Go.RowKit
set_option maxRecDepth 20000
set_option linter.unusedVariables false
set_option linter.unusedSimpArgs false
/-- of the first k numbers those that differ from the one ahead -/
def cmpT (d : List Int) : Nat → List Int
  | 0 => []
  | k + 1 => cmpT d k ++ (if k = 0 ∨ nth d k ≠ nth d (k - 1) then [nth d k] else [])
def compL (zs : List Int) : List Int := Lib.compact zs
theorem nth_arr {d : List Int} {p : Nat} (h : p < d.length) : d.toArray[p]! = nth d p := by
  rw [getElem!_pos d.toArray p (by simpa using h)]
  have := nth_some h
  rw [List.getElem?_eq_getElem h] at this
  simpa using Option.some.inj this
theorem cmpT_lib (d : List Int) : ∀ k, k ≤ d.length → cmpT d k = Lib.compactUpTo d.toArray k
  | 0, _ => by simp [cmpT, Lib.compactUpTo]
  | k + 1, h => by
    rw [cmpT, Lib.compactUpTo_succ, cmpT_lib d k (by omega), nth_arr (by omega)]
    congr 1
    by_cases h0 : k = 0
    · subst h0
      rw [if_pos (.inl rfl), if_pos (by simp [Lib.keeps])]
    · by_cases h1 : nth d k = nth d (k - 1)
      · rw [if_neg (by simp [h0, h1]), Lib.keeps_neg (by omega) (by rw [nth_arr (by omega), nth_arr (by omega)]; exact h1)]
        rfl
      · rw [if_pos (.inr h1), Lib.keeps_pos (by rw [nth_arr (by omega), nth_arr (by omega)]; exact h1)]
        rfl
theorem compL_eq (zs : List Int) : compL zs = cmpT zs zs.length := (cmpT_lib zs zs.length (Nat.le_refl _)).symm
theorem cmpT_len (d : List Int) : ∀ k, (cmpT d k).length ≤ k
  | 0 => by simp [cmpT]
  | k + 1 => by
    have := cmpT_len d k
    rw [cmpT, List.length_append]
    split <;> simp <;> omega
theorem cmpT_dup {d : List Int} {k : Nat} (hk : 1 ≤ k) (h : nth d k = nth d (k - 1)) : cmpT d (k + 1) = cmpT d k := by
  rw [cmpT, if_neg (by simp [h]; omega), List.append_nil]
theorem cmpT_new {d : List Int} {k : Nat} (h : nth d k ≠ nth d (k - 1)) : cmpT d (k + 1) = cmpT d k ++ [nth d k] := by
  rw [cmpT, if_pos (.inr h)]
theorem take_nth {d : List Int} {k : Nat} (h : k < d.length) : d.take (k + 1) = d.take k ++ [nth d k] := by
  rw [List.take_succ_eq_append_getElem h]
  congr 2
  have := nth_some h
  rw [List.getElem?_eq_getElem h] at this
  exact Option.some.inj this
/-- the second loop's state: kk are kept, what comes from place p on is as it was -/
def Kept (zs : List Int) (m kk : Nat) (d : List Int) : Prop := d.length = zs.length ∧ kk < m ∧ d.take kk = cmpT zs m ∧ ∀ p, m ≤ p + 1 → nth d p = nth zs p
theorem Kept.start {zs : List Int} {k : Nat} (hk : 1 ≤ k) (h : cmpT zs k = zs.take k) (he : nth zs k = nth zs (k - 1)) : Kept zs (k + 1) k zs := ⟨rfl, by omega, by rw [cmpT_dup hk he, h], fun p _ => rfl⟩
theorem Kept.dup {zs d : List Int} {m kk : Nat} (h : Kept zs m kk d) (hm : 1 ≤ m) (he : nth zs m = nth zs (m - 1)) : Kept zs (m + 1) kk d := ⟨h.1, by have := h.2.1; omega, by rw [cmpT_dup hm he]; exact h.2.2.1, fun p hp => h.2.2.2 p (by omega)⟩
theorem Kept.new {zs d : List Int} {m kk : Nat} (h : Kept zs m kk d) (hm : m < zs.length) (he : nth zs m ≠ nth zs (m - 1)) : Kept zs (m + 1) (kk + 1) (d.set kk (nth d m)) := by
  obtain ⟨h1, h2, h3, h4⟩ := h
  have hkl : kk < (d.set kk (nth d m)).length := by rw [List.length_set]; omega
  have e1 : nth (d.set kk (nth d m)) kk = nth zs m := by
    rw [← h4 m (by omega)]
    simp [nth, List.getD_eq_getElem?_getD, List.getElem?_set_self (show kk < d.length by omega)]
  refine ⟨by rw [List.length_set, h1], by omega, ?_, fun p hp => ?_⟩
  · rw [cmpT_new he, take_nth hkl, e1, ← h3, List.take_set_of_le (Nat.le_refl _)]
  · rw [← h4 p (by omega)]
    unfold nth
    rw [List.getD_eq_getElem?_getD, List.getElem?_set_ne (by omega), List.getD_eq_getElem?_getD]
theorem zeroCells_one (m : Nat) : (Builtin.zeroCells (Value.int .i64 0).cells m).toList = List.replicate m (.int .i64 0) := by
  apply List.ext_getElem
  · simp [Builtin.zeroCells, Value.cells]
  · intro i h1 h2
    simp [Builtin.zeroCells, Value.cells, Nat.mod_one]
theorem run_clear_ints (w : World) (ty : TypeId) (b o m c : Nat) (hc : ∀ j, j < m → (w.cell? ⟨b, o + j, none⟩).isSome = true) (hf : ∀ j, j < m → w.frozen? ⟨b, o + j, none⟩ = false) :
    (Builtin.clear_ #[42] ty #[.slice (some ⟨b, o, none⟩) m c]).run Try.prog w = .ok (.tuple #[]) (w.setCells b o (List.replicate m (.int .i64 0))) := by
  cases m with
  | zero => simp [Builtin.clear_, run_underlying Try.underlying42, World.setCells]
  | succ m =>
    have hv : (zeroValue 2).run Try.prog w = .ok (.int .i64 0) w := by kernel_rfl
    have hst := run_storeCells_cells (P := Try.prog) b o (List.replicate (m + 1) (.int .i64 0)) 0 w (by simpa using hc) (by simpa using hf) (by intro v hv'; rw [List.eq_of_mem_replicate hv']; rfl)
    simp only [Nat.add_zero] at hst
    have hz := zeroCells_one (m + 1)
    simp [Builtin.clear_, run_underlying Try.underlying42, hv, hz, hst]
theorem own_clear {base n c g : Nat} {e : TypeId} (z : Value) : ∀ (m o : Nat) {w : World} {xs : List Value}, w.ownsRow base e 1 (.slice (some ⟨g, 0, none⟩) n c) n xs →
    ∃ xs' : List Value, (w.setCells g o (List.replicate m z)).ownsRow base e 1 (.slice (some ⟨g, 0, none⟩) n c) n xs' ∧ xs'.take o = xs.take o ∧ w.grownBy (w.setCells g o (List.replicate m z)) (some g)
  | 0, o, w, xs, h => ⟨xs, h, rfl, World.grownBy.refl _ _⟩
  | m + 1, o, w, xs, h => by
    have h1 := World.ownsRow.stored h o z
    obtain ⟨xs', h2, h3, h4⟩ := own_clear z m (o + 1) h1.1
    refine ⟨xs', h2, ?_, grownBy_trans h1.2 h4⟩
    have e1 : xs'.take o = (xs'.take (o + 1)).take o := by rw [List.take_take, Nat.min_eq_left (by omega)]
    rw [e1, h3, List.take_take, Nat.min_eq_left (by omega), List.take_set_of_le (Nat.le_refl _)]
theorem own_cutC {w : World} {base : Nat} {e : TypeId} {n k c g : Nat} {xs : List Value} (h : w.ownsRow base e 1 (.slice (some ⟨g, 0, none⟩) n c) n xs) (hk : k ≤ n) : w.ownsRow base e 1 (.slice (some ⟨g, 0, none⟩) k c) k (xs.take k) := by
  obtain ⟨hl, h⟩ := h
  refine ⟨by rw [List.length_take, hl]; omega, ?_⟩
  rcases h with ⟨h1, h0⟩ | ⟨g', cap', cur, hv, hg, hh, hnc, hc, hs, ht⟩
  · cases h1
  · injection hv with h1 h2 h3
    injection h1 with h1
    injection h1 with h1
    subst h1 h3
    exact .inr ⟨g, c, cur, rfl, hg, hh, by omega, hc, hs, by rw [← ht, List.take_take]; congr 1; omega⟩
def CompP (base n c : Nat) (A : Option Addr) (zs : List Int) (w : World) (e' : Ending) (w' : World) : Prop := e' = .returned (.slice A (compL zs).length c) ∧ w'.ownsRow base 2 1 (.slice A (compL zs).length c) (compL zs).length (ints (compL zs)) ∧ w.grownBy w' (Value.ownBlock (.slice A n c))
theorem comp_end {base n c g kk : Nat} {zs d : List Int} {w wr : World} (hn : zs.length = n) (hk : Kept zs n kk d) (hr : Row wr base g n c d) (hg : w.grownBy wr (some g)) :
    CompP base n c (some ⟨g, 0, none⟩) zs w (.returned (.slice (some ⟨g, 0, none⟩) kk c)) (wr.setCells g kk (List.replicate (n - kk) (.int .i64 0))) := by
  obtain ⟨h1, h2, h3, _⟩ := hk
  have hc : compL zs = d.take kk := by rw [compL_eq, hn, h3]
  have hl : (compL zs).length = kk := by rw [hc, List.length_take]; omega
  obtain ⟨xs', o1, o2, o3⟩ := own_clear (.int .i64 0) (n - kk) kk hr
  have o4 := own_cutC o1 (show kk ≤ n by omega)
  unfold CompP
  rw [hl, hc]
  refine ⟨rfl, ?_, grownBy_trans hg o3⟩
  rw [o2] at o4
  simpa [ints, List.map_take] using o4
theorem comp_few {n : Nat} {zs : List Int} (hn : zs.length = n) (h : n < 2) : compL zs = zs := by
  rw [compL_eq]
  match zs, hn with
  | [], _ => rfl
  | [x], _ => simp [cmpT, nth]
  | x :: y :: l, hn => simp at hn; omega
set_option maxHeartbeats 4000000 in
theorem compact_some {base n c g : Nat} (zs : List Int) (w : World) (hn : zs.length = n) (h : Row w base g n c zs) (hsz : n ≤ 1073741824) :
    Calls Try.prog 87 #[.slice (some ⟨g, 0, none⟩) n c] w (CompP base n c (some ⟨g, 0, none⟩) zs w) := by
  have Hn := Lib.hid hn
  have H := Lib.hid h
  have hnc : n ≤ c := own_cap h
  clear h hn
  by_cases h2 : n < 2
  · have q1 : (n : Int) < 2 := by omega
    go_enter Try.func87, Try.ntmps87
    go_wp2
    go_ret
    have e := comp_few Hn.out h2
    unfold CompP
    rw [e, Hn.out]
    exact ⟨rfl, H.out, World.grownBy.refl _ _⟩
  · have q1 : ¬ (n : Int) < 2 := by omega
    have hst : cmpT zs 1 = zs.take 1 := by
      have hn := Hn.out
      match zs, hn with
      | [], hn => simp at hn; omega
      | x :: l, _ => simp [cmpT, nth]
    have Hst := Lib.hid hst
    clear hst
    go_enter Try.func87, Try.ntmps87
    go_wp2_with fail
    go_loopw [3, 4, 5] (fun v _ _ wr => ∃ k : Nat, 1 ≤ k ∧ k ≤ n ∧ v = .int .i64 k ∧ cmpT zs k = zs.take k ∧ Row wr base g n c zs ∧ w.grownBy wr (some g)) (fun v _ _ _ => n - (intOf v).toNat)
    case atStart => exact ⟨1, Nat.le_refl _, by omega, rfl, Hst.out, H.out, World.grownBy.refl _ _⟩
    case round =>
      clear H Hst
      obtain ⟨k, hk1, hk2, rfl, hst, hr, hg⟩ := hrel
      have Hr := Lib.hid hr
      have Hg := Lib.hid hg
      have Ht := Lib.hid hst
      clear hr hg hst
      by_cases hlt : k < n
      · have c0 := Hr.out.cell (show k < n by omega)
        have c1 := Hr.out.cell (show k - 1 < n by omega)
        have q0 : (0 : Int) ≤ (k : Int) := by omega
        have q1 : (k : Int) < (n : Int) := by omega
        have q2 : (0 : Int) ≤ ((k - 1 : Nat) : Int) := by omega
        have q3 : ((k - 1 : Nat) : Int) < (n : Int) := by omega
        have e1 : IntKind.i64.wrap ((k : Int) - 1) = ((k - 1 : Nat) : Int) := by rw [show (k : Int) - 1 = ((k - 1 : Nat) : Int) by omega]; exact IntWalk.i64_in _ (by omega)
        by_cases he : nth zs k = nth zs (k - 1)
        · have HK := Lib.hid (Kept.start hk1 Ht.out he)
          rw [← he] at c1
          generalize nth zs k = x at *
          have hkc : k ≤ c := by omega
          generalize wr = wo at *
          clear he
          go_wp2_with fail
          go_quiet (fail)
          have HrQ := Lib.hid (Hr.out.drewN nq)
          have HgQ := Lib.hid (grown_drewNS Hg.out nq)
          clear c0 c1 Hr Hg
          go_wp2_with fail
          go_loopw [3, 5] (fun v u wr => ∃ (kk i : Nat) (d : List Int), 1 ≤ i ∧ k + i ≤ n ∧ v = .int .i64 kk ∧ u = .int .i64 i ∧ Kept zs (k + i) kk d ∧ Row wr base g n c d ∧ w.grownBy wr (some g)) (fun _ u _ => n - (intOf u).toNat)
          case atStart => exact ⟨k, 1, zs, Nat.le_refl _, by omega, rfl, rfl, HK.out, HrQ.out, HgQ.out⟩
          case round =>
            clear HK HrQ HgQ e1 q0 q1 q2 q3
            obtain ⟨kk, i, d, hi1, hi2, rfl, rfl, hkp, hr, hg⟩ := hrel
            have hkk := hkp.2.1
            have Hr := Lib.hid hr
            have Hg := Lib.hid hg
            have Hk := Lib.hid hkp
            have hfz := hr.frozenAt
            clear hg
            by_cases hlt2 : i < n - k
            · have c0 := hr.cell (show k + i < n by omega)
              have c1 := hr.cell (show k + (i - 1) < n by omega)
              have c2 := hr.cell (show kk < n by omega)
              rw [hkp.2.2.2 (k + i) (by omega)] at c0
              rw [hkp.2.2.2 (k + (i - 1)) (by omega)] at c1
              have q0 : (0 : Int) ≤ (i : Int) := by omega
              have q1 : (i : Int) < ((n - k : Nat) : Int) := by omega
              have q2 : (0 : Int) ≤ ((i - 1 : Nat) : Int) := by omega
              have q3 : ((i - 1 : Nat) : Int) < ((n - k : Nat) : Int) := by omega
              have q4 : (0 : Int) ≤ (kk : Int) := by omega
              have q5 : (kk : Int) < (n : Int) := by omega
              have e1 : IntKind.i64.wrap ((i : Int) - 1) = ((i - 1 : Nat) : Int) := by rw [show (i : Int) - 1 = ((i - 1 : Nat) : Int) by omega]; exact IntWalk.i64_in _ (by omega)
              have hii : k + (i - 1) = k + i - 1 := by omega
              by_cases he : nth zs (k + i) = nth zs (k + i - 1)
              · have HK2 := Lib.hid (Kept.dup hkp (by omega) he)
                rw [hii, ← he, ← hii] at c1
                generalize nth zs (k + i) = x at *
                clear hkp hr he hii c2
                go_wp2_with fail
                go_quiet (fail)
                go_wp2
                go_roundw
                case rel => exact ⟨kk, i + 1, d, by omega, by omega, rfl, by go_num, HK2.out, Hr.out.drewN _, grown_drewNS Hg.out _⟩
                case measure => simp [intOf]; omega
              · have hk2 := Kept.new hkp (by have := Hn.out; omega) he
                rw [hkp.2.2.2 (k + i) (by omega)] at hk2
                have HK2 := Lib.hid hk2
                have hx : (nth zs (k + i) != nth zs (k + (i - 1))) = true := by rw [hii]; simpa using he
                have HRS := Lib.hid (fun q => (World.ownsRow.stored (Hr.out.drewN q) kk (.int .i64 (nth zs (k + i)))))
                clear hk2
                generalize nth zs (k + i) = x at *
                generalize nth zs (k + (i - 1)) = y at *
                clear hkp hr he hii
                go_wp2_with fail
                go_quiet (fail)
                go_wp2
                go_roundw
                case rel => exact ⟨kk + 1, i + 1, d.set kk x, by omega, by omega, by go_num, by go_num, HK2.out, by simpa [Row, ints, List.map_set] using (HRS.out _).1, grownBy_trans (grown_drewNS Hg.out _) (HRS.out _).2⟩
                case measure => simp [intOf]; omega
            · have hin : k + i = n := by omega
              have q1 : ¬ (i : Int) < ((n - k : Nat) : Int) := by omega
              have hcl : ∀ ty, (Builtin.clear_ #[42] ty #[.slice (some ⟨g, kk, none⟩) (n - kk) (c - kk)]).run Try.prog wr = .ok (.tuple #[]) (wr.setCells g kk (List.replicate (n - kk) (.int .i64 0))) := fun ty =>
                run_clear_ints wr ty g kk (n - kk) (c - kk) (fun j hj => by rw [hr.cell (show kk + j < n by omega)]; rfl) (fun j hj => hfz _)
              have hkn : kk ≤ n := by omega
              have hkc2 : kk ≤ c := by omega
              have HE := Lib.hid (comp_end Hn.out (hin ▸ hkp) hr Hg.out)
              clear hkp hr hin
              go_wp2
              go_ret
              exact HE.out
        · have HN := Lib.hid (show cmpT zs (k + 1) = zs.take (k + 1) by rw [cmpT_new he, Ht.out, take_nth (by have := Hn.out; omega)])
          have hx : (nth zs k == nth zs (k - 1)) = false := by simpa using he
          generalize nth zs k = x at *
          generalize nth zs (k - 1) = y at *
          clear he
          go_wp2_with fail
          go_quiet (fail)
          go_wp2
          go_roundw
          case rel => exact ⟨k + 1, by omega, by omega, by go_num, HN.out, Hr.out.drewN _, grown_drewNS Hg.out _⟩
          case measure => simp [intOf]; omega
      · have hkn : k = n := by omega
        subst hkn
        have q1 : ¬ (k : Int) < (k : Int) := by omega
        go_wp2
        go_ret
        have e : compL zs = zs := by rw [compL_eq, Hn.out, Ht.out, ← Hn.out, List.take_length]
        unfold CompP
        rw [e, Hn.out]
        exact ⟨rfl, Hr.out, Hg.out⟩
theorem compact_nil (w : World) : Calls Try.prog 87 #[.slice none 0 0] w fun e w' => e = .returned (.slice none 0 0) ∧ w' = w := by
  go_enter Try.func87, Try.ntmps87
  go_wp2
  go_ret
  exact ⟨rfl, rfl⟩
theorem compL_length (zs : List Int) : (compL zs).length ≤ zs.length := by
  rw [compL_eq]
  exact cmpT_len _ _
theorem compact_own {base n c : Nat} {A : Option Addr} (zs : List Int) (w : World) (hn : zs.length = n) (h : w.ownsRow base 2 1 (.slice A n c) n (ints zs)) (hsz : n ≤ 1073741824) :
    Calls Try.prog 87 #[.slice A n c] w fun e' w' => e' = .returned (.slice A (compL zs).length c) ∧ w'.ownsRow base 2 1 (.slice A (compL zs).length c) (compL zs).length (ints (compL zs)) ∧ w.grownBy w' (Value.ownBlock (.slice A n c)) := by
  rcases h.2 with ⟨h1, h2⟩ | ⟨g, cap, cur, hv, _⟩
  · injection h1 with h3 h4 h5
    subst h3; subst h4; subst h5
    refine (compact_nil w).mono ?_
    rintro e w' ⟨rfl, rfl⟩
    have hz : zs = [] := List.length_eq_zero_iff.mp hn
    subst hz
    have e0 : compL [] = [] := by rw [compL_eq]; rfl
    rw [e0]
    exact ⟨rfl, h, World.grownBy.refl _ _⟩
  · injection hv with h3 h4 h5
    subst h3
    exact (compact_some zs w hn h hsz).mono (fun _ _ h => h)
end Go.Proofs.Ytmbchcenclfjoaa
