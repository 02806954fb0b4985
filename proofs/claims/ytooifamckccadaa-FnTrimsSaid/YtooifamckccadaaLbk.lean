/- Which choice comes first, and whether one serves: walks. -/
import Derived.Test.YtooifamckccadaaLbr
import Derived.Test.YtooifamckccadaaAe
namespace Go.Proofs.Ytooifamckccadaa
open Go.ChangeShapes Go.WideShapes Go.ChangeAt Go.RowKit
set_option maxRecDepth 20000
set_option linter.unusedVariables false
set_option linter.unusedSimpArgs false
theorem lexB_drop {a b : List Int} {k : Nat} {x y : Int} (ha : a[k]? = some x) (hb : b[k]? = some y) : lexB (a.drop k) (b.drop k) = if x = y then lexB (a.drop (k + 1)) (b.drop (k + 1)) else decide (x < y) := by
  have h1 : k < a.length := (List.getElem?_eq_some_iff.1 ha).1
  have h2 : k < b.length := (List.getElem?_eq_some_iff.1 hb).1
  rw [List.drop_eq_getElem_cons h1, List.drop_eq_getElem_cons h2]
  have e1 : a[k] = x := by rw [List.getElem?_eq_getElem h1] at ha; exact Option.some.inj ha
  have e2 : b[k] = y := by rw [List.getElem?_eq_getElem h2] at hb; exact Option.some.inj hb
  rw [e1, e2, lexB]
set_option maxHeartbeats 1000000 in
theorem l09Before_any (l r : List Int) (hl : l.length ≤ 1048576) (hr : r.length ≤ 1048576) (A A' : Option Addr) (B c c' : Nat) (w : World) (h1 : Rd w B A (ints l)) (h2 : Rd w B A' (ints r)) (hB : B ≤ w.heap.size) :
   Calls Try.prog 103 #[.slice A l.length c, .slice A' r.length c'] w fun e w' => e = .returned (.bool (befB l r)) ∧ Below w.heap.size w w' := by
  by_cases he : l.length = r.length
  rotate_left
  · have hd : ((l.length : Int) != (r.length : Int)) = true := by simpa using (show ¬ (l.length : Int) = (r.length : Int) by omega)
    have hbf : befB l r = decide ((l.length : Int) < (r.length : Int)) := by
      rw [befB, if_neg he]
      by_cases h : l.length < r.length
      · rw [decide_eq_true h, decide_eq_true (by omega)]
      · rw [decide_eq_false h, decide_eq_false (by omega)]
    have Hb := Lib.hid hbf
    clear h1 h2 he hbf
    go_enter Try.func103, Try.ntmps103
    go_wp2
    go_ret
    exact ⟨ret_bool (by rw [Hb.out]; simp), Below.refl _ _⟩
  have hd : ((l.length : Int) != (r.length : Int)) = false := by rw [he]; simp
  have hbf : befB l r = lexB l r := by rw [befB, if_pos he]
  rw [hbf]
  clear hbf
  generalize hV : lexB l r = V
  have HV := Lib.hid hV
  have H1 := Lib.hid h1
  have H2 := Lib.hid h2
  have He := Lib.hid he
  clear h1 h2 hV he
  go_enter Try.func103, Try.ntmps103
  go_wp2_with fail
  go_loopw [5] (fun i wr => ∃ k : Nat, k ≤ l.length ∧ i = .int .i64 k ∧ lexB (l.drop k) (r.drop k) = V ∧ Below w.heap.size w wr) (fun i _ => l.length - (intOf i).toNat)
  case atStart => exact ⟨0, Nat.zero_le _, rfl, HV.out, Below.refl _ _⟩
  case round =>
    obtain ⟨k, hk, rfl, hlx, hbw⟩ := hrel
    by_cases hlt : k < l.length
    · have he := He.out
      have hx := List.getElem?_eq_getElem hlt
      have hy := List.getElem?_eq_getElem (show k < r.length by omega)
      generalize l[k] = x at hx
      generalize r[k] = y at hy
      obtain ⟨b, o, rfl, hbB, c0⟩ := (H1.out.below hbw hB).int hx
      obtain ⟨b2, o2, rfl, hbB2, d0⟩ := (H2.out.below hbw hB).int hy
      rw [lexB_drop hx hy] at hlx
      have j0 : (0 : Int) ≤ (k : Int) := by omega
      have j1 : (k : Int) < (l.length : Int) := by omega
      have j2 : (k : Int) < (r.length : Int) := by omega
      clear hx hy he
      by_cases hxy : x = y
      · rw [if_pos hxy] at hlx
        have Hl := Lib.hid hlx
        have hne : (x != y) = false := by simpa using hxy
        clear hlx hxy hd
        go_wp2
        go_quiet (fail)
        go_wp2
        go_roundw
        case rel => exact ⟨k + 1, by omega, by go_num, Hl.out, by repeat' (first | (with_reducible exact Below.refl _ _) | (with_reducible assumption) | (with_reducible refine Below.alloc ?_ ?_ _) | (with_reducible refine Below.drew ?_) | (with_reducible refine below_drewN ?_ _) | (with_reducible refine Below.setCell ?_ ?_ _) | (with_reducible refine Below.trans ?_ (Below.mono (by assumption) ?_)) | go_size | (exact Below.size (by assumption)))⟩
        case measure => simp [intOf]; omega
      · rw [if_neg hxy] at hlx
        have Hl := Lib.hid hlx
        have hne : (x != y) = true := by simpa using hxy
        clear hlx hxy hd
        go_wp2
        go_quiet (fail)
        go_wp2
        go_quiet (fail)
        go_wp2
        go_ret
        exact ⟨ret_bool (by rw [← Hl.out]), by repeat' (first | (with_reducible exact Below.refl _ _) | (with_reducible assumption) | (with_reducible refine Below.alloc ?_ ?_ _) | (with_reducible refine Below.drew ?_) | (with_reducible refine below_drewN ?_ _) | (with_reducible refine Below.setCell ?_ ?_ _) | (with_reducible refine Below.trans ?_ (Below.mono (by assumption) ?_)) | go_size | (exact Below.size (by assumption)))⟩
    · have hk' : k = l.length := by omega
      subst hk'
      rw [List.drop_eq_nil_of_le (Nat.le_refl _)] at hlx
      have hV : V = false := by rw [← hlx]; rfl
      have HV2 := Lib.hid hV
      clear hlx hV hd
      go_wp2
      go_ret
      exact ⟨ret_bool HV2.out.symm, hbw⟩
/-- does a train with these brakes pass and keep the limit -/
def kpB (ls : List Seg) (f n : Nat) (lo hi limit : Int) (on : List Int) : Bool := ((runP ls on n f (lo, hi)).2 == 0) && decide ((lastI (lo, hi) (runP ls on n f (lo, hi)).1).2 ≤ limit)
set_option maxHeartbeats 2000000 in
theorem l09Keeps_any (ls : List Seg) (on : List Int) (n f : Nat) (lo hi limit : Int) (hlay : layB ls = true) (he : enB lo hi = true) (hn : n ≤ 24) (hf : f < ls.length) (A A' : Option Addr) (B c c' : Nat) (w : World) (hs : Rd w B A (ls.flatMap eSegment)) (hr : Rd w B A' (ints on)) (hB : B ≤ w.heap.size) (hn2 : on.length ≤ 1048576) :
   Calls Try.prog 104 #[.agg #[.slice A ls.length c], .int .i64 f, .int .i64 n, .agg #[.int .i64 lo, .int .i64 hi], .int .i64 limit, .slice A' on.length c'] w fun e w' => e = .returned (.bool (kpB ls f n lo hi limit on)) ∧ Below w.heap.size w w' := by
  have Hs := Lib.hid ((hs.alloc hB (.cells #[.slice A ls.length c] 26)).alloc (by simp; omega) (.cells #[.int .i64 lo, .int .i64 hi] 29))
  have Hr := Lib.hid ((hr.alloc hB (.cells #[.slice A ls.length c] 26)).alloc (by simp; omega) (.cells #[.int .i64 lo, .int .i64 hi] 29))
  have hS : B ≤ ((w.alloc (.cells #[.slice A ls.length c] 26)).alloc (.cells #[.int .i64 lo, .int .i64 hi] 29)).heap.size := by simp; omega
  have HA := Lib.hid (fun (w' : World) (h : Rd w' B A (ls.flatMap eSegment)) (h2 : Rd w' B A' (ints on)) (h3 : B ≤ w'.heap.size) => l08Run_any ls on n f lo hi hlay he hn hf A A' B c c' w' h h2 h3 hn2)
  have I0 : Hid (Bk ((w.alloc (.cells #[.slice A ls.length c] 26)).alloc (.cells #[.int .i64 lo, .int .i64 hi] 29)) (w.heap.size + 1) #[.int .i64 lo, .int .i64 hi]) := Lib.hid (by simpa using bk_new (w.alloc (.cells #[.slice A ls.length c] 26)) #[.int .i64 lo, .int .i64 hi] 29)
  have B0 := Lib.hid (show Below w.heap.size w ((w.alloc (.cells #[.slice A ls.length c] 26)).alloc (.cells #[.int .i64 lo, .int .i64 hi] 29)) by repeat' (first | (with_reducible exact Below.refl _ _) | (with_reducible assumption) | (with_reducible refine Below.alloc ?_ ?_ _) | (with_reducible refine Below.drew ?_) | (with_reducible refine below_drewN ?_ _) | (with_reducible refine Below.setCell ?_ ?_ _) | (with_reducible refine Below.trans ?_ (Below.mono (by assumption) ?_)) | go_size | (exact Below.size (by assumption))))
  have hz0 : ((w.alloc (.cells #[.slice A ls.length c] 26)).alloc (.cells #[.int .i64 lo, .int .i64 hi] 29)).heap.size = w.heap.size + 2 := by simp
  have hln : (runP ls on n f (lo, hi)).1.length ≤ 1048576 := by have := runP_len ls on n f (lo, hi); omega
  generalize hV : kpB ls f n lo hi limit on = V
  unfold kpB at hV
  generalize runP ls on n f (lo, hi) = R at *
  obtain ⟨R1, R2⟩ := R
  dsimp only at *
  have HV := Lib.hid hV
  clear hs hr hV hlay he
  go_enter Try.func104, Try.ntmps104
  go_wp2_with fail
  refine (HA.out _ Hs.out Hr.out hS).mono ?_
  rintro e w1 ⟨A2, c2, rfl, o1, b1⟩
  have z1 := b1.size
  have I1 := Lib.hid (bk_below I0.out b1 (by omega))
  have O1 := Lib.hid o1
  have B1 := Lib.hid (B0.out.trans (b1.mono (by omega)))
  clear b1 o1 Hs Hr I0 B0 HA hS
  obtain ⟨i0, i1, jf, js⟩ := bk2 I1.out
  by_cases h0 : R2 = 0
  · subst h0
    have hVl : V = decide ((lastI (lo, hi) R1).2 ≤ limit) := by rw [← HV.out]; rfl
    have HVl := Lib.hid hVl
    clear hVl HV
    rcases Nat.eq_zero_or_pos R1.length with h1 | h1
    · have hR : R1 = [] := List.eq_nil_of_length_eq_zero h1
      subst hR
      clear h1
      go_wp2
      go_ret
      exact ⟨ret_bool (by rw [HVl.out, lastI_nil]), B1.out⟩
    · obtain ⟨nR, hnR⟩ : ∃ nR, R1.length = nR + 1 := ⟨R1.length - 1, by omega⟩
      have hla := lastI_pos (e := (lo, hi)) hnR
      generalize lastI (lo, hi) R1 = last at *
      obtain ⟨bb6, oo6, rfl, hb66, m0, m1⟩ := (Rd.of_own O1.out).atInterval hla
      have hne : bb6 ≠ w.heap.size + 1 := by
        obtain ⟨gb, hg1, hg2, hg3⟩ := own_form O1.out h1
        injection hg1 with hg1
        injection hg1 with hg1 _
        omega
      have hne2 : w.heap.size + 1 ≠ bb6 := fun h => hne h.symm
      have hp : decide ((0 : Int) < (R1.length : Int)) = true := by simp; omega
      have hp2 : (0 : Int) < (R1.length : Int) := by omega
      have r0 : IntKind.i64.wrap ((R1.length : Int) - 1) = (nR : Int) := by rw [hnR, show ((nR + 1 : Nat) : Int) - 1 = (nR : Int) by omega]; exact IntWalk.i64_in _ (by omega)
      have r1 : (R1.length : Int) - 1 = (nR : Int) := by omega
      have r2 : (0 : Int) ≤ (nR : Int) := by omega
      have r3 : (nR : Int) < (R1.length : Int) := by omega
      clear hla hnR h1
      go_wp2
      go_ret
      exact ⟨ret_bool (by rw [HVl.out]), by have := B1.out; repeat' (first | (with_reducible exact Below.refl _ _) | (with_reducible assumption) | (with_reducible refine Below.alloc ?_ ?_ _) | (with_reducible refine Below.drew ?_) | (with_reducible refine below_drewN ?_ _) | (with_reducible refine Below.setCell ?_ ?_ _) | (with_reducible refine Below.trans ?_ (Below.mono (by assumption) ?_)) | go_size | (exact Below.size (by assumption)))⟩
  · have hVl : V = false := by rw [← HV.out, show (R2 == 0) = false by simpa using h0]; rfl
    have HVl := Lib.hid hVl
    have h5 : (R2 == 0) = false := by simpa using h0
    clear hVl HV h0
    go_wp2
    go_ret
    exact ⟨ret_bool HVl.out.symm, B1.out⟩
end Go.Proofs.Ytooifamckccadaa
