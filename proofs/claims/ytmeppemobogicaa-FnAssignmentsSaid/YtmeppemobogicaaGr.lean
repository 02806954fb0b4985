/- The greedy assignment: small walks. -/
import Derived.Test.YtmeppemobogicaaEv
import Derived.Test.YtmeppemobogicaaGl
namespace Go.Proofs.Ytmeppemobogicaa
open Go.ChangeShapes Go.WideShapes Go.ChangeAt Go.RowKit
set_option maxRecDepth 20000
set_option linter.unusedVariables false
set_option linter.unusedSimpArgs false
theorem amUp_step {l : List Int} {k : Nat} {x : Int} (h : l[k]? = some x) : amUp l (k + 1) = if x < l.getD (amUp l k) 0 then k else amUp l k := by
  rw [amUp, show l.getD k 0 = x by simp [List.getD_eq_getElem?_getD, h]]
theorem getD_at {l : List Int} {k : Nat} {x : Int} (h : l[k]? = some x) : l.getD k 0 = x := by simp [List.getD_eq_getElem?_getD, h]
theorem min_any (l : List Int) (h0 : 0 < l.length) (A : Option Addr) (B c : Nat) (w : World) (hr : Rd w B A (ints l)) (hn : l.length ≤ 1048576) :
   Calls Try.prog 70 #[.slice A l.length c] w fun e w' => e = .returned (.int .i64 (l.getD (argM l) 0)) ∧ w = w' := by
  have ht0 := List.getElem?_eq_getElem h0
  generalize l[0] = x0 at ht0
  obtain ⟨b, o, rfl, _, c0⟩ := hr.int ht0
  rw [Nat.add_zero] at c0
  have hs1 : l.getD (amUp l 1) 0 = x0 := by simp [amUp, List.getD_eq_getElem?_getD, ht0]
  have Hs1 := Lib.hid hs1
  have hi1 : (0 : Int) < (l.length : Int) := by omega
  clear ht0 hs1
  go_enter Try.func70, Try.ntmps70
  go_wp2_with fail
  go_loop [3, 4] (fun q i => ∃ k : Nat, 1 ≤ k ∧ k ≤ l.length ∧ i = .int .i64 k ∧ q = .int .i64 (l.getD (amUp l k) 0)) (fun _ i => l.length - (intOf i).toNat)
  case atStart => exact ⟨1, Nat.le_refl _, h0, rfl, by rw [Hs1.out]⟩
  case round =>
    obtain ⟨k, hk1, hk, rfl, rfl⟩ := hrel
    by_cases hlt : k < l.length
    · have ht := List.getElem?_eq_getElem hlt
      generalize l[k] = x at ht
      obtain ⟨b', o', hbo, _, c1⟩ := hr.int ht
      simp only [Option.some.injEq, Addr.mk.injEq, and_true] at hbo
      obtain ⟨rfl, rfl⟩ := hbo
      have hs := amUp_step ht
      have Hx := Lib.hid (getD_at ht)
      have Hr := Lib.hid hr
      have hk0 : (0 : Int) ≤ (k : Int) := by omega
      have hk2 : (k : Int) < (l.length : Int) := by omega
      generalize hq : l.getD (amUp l k) 0 = q at hs
      have Hq := Lib.hid hq
      clear ht hr hq
      by_cases hc : x < q
      · rw [if_pos hc] at hs
        have Hs := Lib.hid hs
        clear hs
        go_wp2
        go_round
        case rel => exact ⟨k + 1, by omega, by omega, by go_num, by rw [Hs.out, Hx.out]⟩
        case measure => simp [intOf]; omega
      · rw [if_neg hc] at hs
        have Hs := Lib.hid hs
        clear hs
        go_wp2
        go_round
        case rel => exact ⟨k + 1, by omega, by omega, by go_num, by rw [Hs.out, Hq.out]⟩
        case measure => simp [intOf]; omega
    · have hk' : k = l.length := by omega
      subst hk'
      go_wp2
      go_ret
      exact ⟨ret_int rfl, rfl⟩
theorem index_any (l : List Int) (x : Int) (A : Option Addr) (B c : Nat) (w : World) (hr : Rd w B A (ints l)) (hn : l.length ≤ 1048576) :
   Calls Try.prog 69 #[.slice A l.length c, .int .i64 x] w fun e w' => e = .returned (.int .i64 (idxB (· == x) l)) ∧ w = w' := by
  go_enter Try.func69, Try.ntmps69
  go_wp2_with fail
  go_loop [8] (fun i => ∃ k : Nat, k ≤ l.length ∧ i = .int .i64 k ∧ (l.take k).any (· == x) = false) (fun i => l.length - (intOf i).toNat)
  case atStart => exact ⟨0, Nat.zero_le _, rfl, by simp⟩
  case round =>
    obtain ⟨k, hk, rfl, hall⟩ := hrel
    by_cases hlt : k < l.length
    · have ht := List.getElem?_eq_getElem hlt
      generalize l[k] = t at ht
      obtain ⟨b, o, rfl, _, c0⟩ := hr.int ht
      have Ht := Lib.hid ht
      have Ha := Lib.hid hall
      clear ht hall hr
      by_cases hx : x = t
      · have Hx := Lib.hid hx
        have hb : (x == t) = true := by rw [beq_iff_eq]; exact hx
        clear hx
        go_wp2
        go_ret
        exact ⟨ret_int (by rw [idxB_here _ _ Ht.out Ha.out (by rw [Hx.out]; simp)]), rfl⟩
      · have Hx := Lib.hid hx
        have hb : (x == t) = false := by rw [beq_eq_false_iff_ne]; exact hx
        clear hx
        go_wp2
        go_round
        case rel => exact ⟨k + 1, by omega, by go_num, by rw [any_step _ _ Ht.out, Ha.out]; simp; exact fun h => Hx.out h.symm⟩
        case measure => simp [intOf]; omega
    · have hk' : k = l.length := by omega
      subst hk'
      rw [List.take_length] at hall
      have Ha := Lib.hid hall
      clear hall hr
      go_wp2
      go_ret
      exact ⟨ret_int (idxB_none _ _ Ha.out).symm, rfl⟩
theorem idx_arg {l : List Int} (h0 : 0 < l.length) : idxB (· == l.getD (argM l) 0) l = (argM l : Int) := by
  have hlt := amUp_lt l l.length h0
  have ht := List.getElem?_eq_getElem hlt
  refine idxB_here _ _ ht ?_ (by simp [argM, List.getD_eq_getElem?_getD, ht])
  rw [List.any_eq_false]
  intro y hy
  obtain ⟨j, hj, e⟩ := List.getElem_of_mem hy
  have hj' := hj
  rw [List.length_take] at hj'
  unfold argM at hj'
  have hj2 : j < amUp l l.length := by omega
  have hy2 : l[j]? = some y := by
    rw [List.getElem_take] at e
    rw [List.getElem?_eq_getElem (by omega), e]
  have := amUp_first l l.length j hj2
  rw [getD_at hy2] at this
  intro h
  rw [beq_iff_eq] at h
  unfold argM at h
  omega
theorem index_arg (l : List Int) (h0 : 0 < l.length) (A : Option Addr) (B c : Nat) (w : World) (hr : Rd w B A (ints l)) (hn : l.length ≤ 1048576) :
   Calls Try.prog 69 #[.slice A l.length c, .int .i64 (l.getD (argM l) 0)] w fun e w' => e = .returned (.int .i64 (argM l : Int)) ∧ w = w' := by
  have h := index_any l (l.getD (argM l) 0) A B c w hr hn
  rw [idx_arg h0] at h
  exact h
theorem own_other {w w' : World} {base : Nat} {e : TypeId} {size n c g g' : Nat} {xs : List Value} (h : w.ownsRow base e size (.slice (some ⟨g, 0, none⟩) n c) n xs) (hg : w.grownBy w' (some g')) (hne : g ≠ g') : w'.ownsRow base e size (.slice (some ⟨g, 0, none⟩) n c) n xs :=
  h.kept hg (by right; simp [Value.ownBlock]; exact hne)
theorem grown_set1 (w : World) (g i : Nat) (u : Value) : w.grownBy (w.setCell ⟨g, i, none⟩ u) (some g) := grown_set (World.grownBy.refl w _)
theorem own_cell_int {w : World} {base g N cc : Nat} {L : List Int} (h : w.ownsRow base 2 1 (.slice (some ⟨g, 0, none⟩) N cc) N (ints L)) {j : Nat} {x : Int} (hj : L[j]? = some x) : w.cell? ⟨g, j, none⟩ = some (.int .i64 x) := by
  have hl := h.1
  rw [ints_length] at hl
  have hjl : j < L.length := (List.getElem?_eq_some_iff.1 hj).1
  rw [h.cellAt j (by omega)]
  simp [ints, hj]
/-- the state of the greedy way behind k stops of the order -/
def gSt (T : List Int) (m k : Nat) : List Int × List Int := gRun (tN T) (List.replicate m 0, List.replicate T.length 0) ((ordT (tN T) T.length).take k)
theorem gSt_zero (T : List Int) (m : Nat) : gSt T m 0 = (List.replicate m 0, List.replicate T.length 0) := rfl
theorem gSt_step {T : List Int} {m k x : Nat} (h : (ordT (tN T) T.length)[k]? = some x) : gSt T m (k + 1) = gStep (tN T) (gSt T m k) x := by
  have hl : k < (ordT (tN T) T.length).length := (List.getElem?_eq_some_iff.1 h).1
  have e : (ordT (tN T) T.length)[k] = x := by rw [List.getElem?_eq_getElem hl] at h; exact Option.some.inj h
  rw [gSt, List.take_succ_eq_append_getElem hl, e, gRun_append, gRun_one]; rfl
theorem gSt_end (T : List Int) (m : Nat) : (gSt T m T.length).2 = greedyL T m := by
  unfold gSt greedyL
  rw [List.take_of_length_le (by rw [ordT_length]; exact Nat.le_refl _)]
theorem gSt_len (T : List Int) (m k : Nat) : (gSt T m k).1.length = m ∧ (gSt T m k).2.length = T.length := by
  have := gRun_len (tN T) ((ordT (tN T) T.length).take k) (List.replicate m 0, List.replicate T.length 0)
  simpa [gSt] using this
def gBd (L : List Int) (k : Nat) : Prop := ∀ (j : Nat) (y : Int), L[j]? = some y → 0 ≤ y ∧ y ≤ 1000000 * k
theorem gBd_zero (m : Nat) : gBd (List.replicate m 0) 0 := by
  intro j y h
  simp only [List.getElem?_replicate] at h
  split at h
  · injection h with h; omega
  · cases h
theorem gBd_step {L : List Int} {k q : Nat} {x : Int} (h : gBd L k) (hx : 0 ≤ x ∧ x ≤ 1000000) : gBd (L.set q (L.getD q 0 + x)) (k + 1) := by
  intro j y hy
  simp only [List.getElem?_set] at hy
  split at hy
  · split at hy
    · injection hy with hy
      rename_i hq
      have ht := List.getElem?_eq_getElem hq
      have := h q _ ht
      rw [getD_at ht] at hy
      omega
    · cases hy
  · have := h j y hy
    omega
end Go.Proofs.Ytmeppemobogicaa
