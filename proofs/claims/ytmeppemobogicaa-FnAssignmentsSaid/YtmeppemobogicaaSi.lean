/- The insertion sort of the library at the order of stops: walks. -/
import Derived.Test.YtmeppemobogicaaSo
namespace Go.Proofs.Ytmeppemobogicaa
open Go.ChangeShapes Go.WideShapes Go.ChangeAt Go.RowKit
set_option maxRecDepth 20000
set_option linter.unusedVariables false
set_option linter.unusedSimpArgs false
theorem ints_natI_at {L : List Nat} {j : Nat} {x : Nat} (h : L[j]? = some x) : (ints (natI L))[j]? = some (.int .i64 (x : Int)) := by simp [ints, natI, h]
theorem own_cell_nat {w : World} {base g N cc : Nat} {L : List Nat} (h : w.ownsRow base 2 1 (.slice (some ⟨g, 0, none⟩) N cc) N (ints (natI L))) {j x : Nat} (hj : L[j]? = some x) : w.cell? ⟨g, j, none⟩ = some (.int .i64 (x : Int)) := by
  have hl := h.1
  rw [ints_length, natI_length] at hl
  have hjl : j < L.length := (List.getElem?_eq_some_iff.1 hj).1
  rw [h.cellAt j (by omega), ints_natI_at hj]
theorem swap_own {w : World} {base g N cc m p k : Nat} {P R : List Nat} (h : w.ownsRow base 2 1 (.slice (some ⟨g, 0, none⟩) N cc) N (ints (natI (P ++ p :: k :: R)))) (hm : P.length = m) :
    ((w.setCell ⟨g, m + 1, none⟩ (.int .i64 (p : Int))).setCell ⟨g, m, none⟩ (.int .i64 (k : Int))).ownsRow base 2 1 (.slice (some ⟨g, 0, none⟩) N cc) N (ints (natI (P ++ k :: p :: R))) := by
  have h1 := (World.ownsRow.stored (World.ownsRow.stored h (m + 1) (.int .i64 (p : Int))).1 m (.int .i64 (k : Int))).1
  have e : ((ints (natI (P ++ p :: k :: R))).set (m + 1) (.int .i64 (p : Int))).set m (.int .i64 (k : Int)) = ints (natI (P ++ k :: p :: R)) := by
    subst hm
    simp [ints, natI, List.set_append]
  rwa [e] at h1
theorem grown_set {w w' : World} {g i : Nat} {u : Value} (h : w.grownBy w' (some g)) : w.grownBy (w'.setCell ⟨g, i, none⟩ u) (some g) :=
  grownBy_trans h ⟨rfl, rfl, rfl, by simp, fun k _ hk => heap_setCell_other w' ⟨g, i, none⟩ k u (fun e => hk (by simp [e]))⟩
theorem grown_drewN {w w' : World} {row : Option Nat} (h : w.grownBy w' row) (n : Nat) : w.grownBy (w'.drewN n) row := ⟨h.os, h.tape, h.output, h.size, h.block⟩
theorem grown_drew {w w' : World} {row : Option Nat} (h : w.grownBy w' row) : w.grownBy w'.drew row := ⟨h.os, h.tape, h.output, h.size, h.block⟩
set_option maxHeartbeats 2000000 in
theorem insertion_any (times : List Int) (N : Nat) (hN : times.length = N) (Al : Option Addr) (cl cb B base g cc : Nat) (w : World) (h1 : 1 ≤ N) (h6 : N ≤ 6)
    (hcap : w.cell? ⟨cb, 0, none⟩ = some (.slice Al N cl)) (hcb : cb < base) (hr : Rd w B Al (ints times)) (hB : B ≤ base) (hbs : base ≤ w.heap.size)
    (hown : w.ownsRow base 2 1 (.slice (some ⟨g, 0, none⟩) N cc) N (ints (natI (List.range N)))) :
   Calls Try.prog 88 #[.slice (some ⟨g, 0, none⟩) N cc, .int .i64 0, .int .i64 N, .func (Fn.func 82) #[] #[.pointer (some ⟨cb, 0, none⟩)]] w fun e w' => e = .returned (.tuple #[]) ∧ w'.ownsRow base 2 1 (.slice (some ⟨g, 0, none⟩) N cc) N (ints (natI (ordT (tN times) N))) ∧ w.grownBy w' (some g) := by
  have hg0 := own_lt hown g rfl
  have HC := Lib.hid (fun (W : World) (h : w.grownBy W (some g)) => show W.cell? ⟨cb, 0, none⟩ = some (.slice Al N cl) ∧ Rd W B Al (ints times) from ⟨grownBy_cell h hcap (fun k e => by injection e with e; omega), hr.grown h (by omega) (fun k e => by injection e with e; omega)⟩)
  have Ho := Lib.hid hown
  have HN := Lib.hid hN
  clear hcap hr hown hN
  have hi1 : (1 : Int) ≤ (N : Int) := by omega
  go_enter Try.func88, Try.ntmps88
  go_wp2_with fail
  go_loopw [8] (fun i wr => ∃ k : Nat, 1 ≤ k ∧ k ≤ N ∧ i = .int .i64 k ∧ ∃ S : List Nat, S.length = k ∧ InsOk (tN times) k S ∧ wr.ownsRow base 2 1 (.slice (some ⟨g, 0, none⟩) N cc) N (ints (natI (S ++ List.range' k (N - k)))) ∧ w.grownBy wr (some g)) (fun i _ => N - (intOf i).toNat)
  case atStart =>
    refine ⟨1, Nat.le_refl _, h1, rfl, [0], rfl, insOk_one _, ?_, World.grownBy.refl w _⟩
    have e : List.range N = [0] ++ List.range' 1 (N - 1) := by
      rw [List.range_eq_range', show N = (N - 1) + 1 by omega, List.range'_succ]; simp
    rw [← e]; exact Ho.out
  case round =>
    obtain ⟨k, hk1, hk, rfl, S, hS, hok, hown, hg⟩ := hrel
    have Hok := Lib.hid hok
    clear hok Ho
    by_cases hlt : k < N
    · have hki : (k : Int) < (N : Int) := by omega
      have e : List.range' k (N - k) = k :: List.range' (k + 1) (N - (k + 1)) := by
        rw [show N - k = (N - (k + 1)) + 1 by omega, List.range'_succ]
      rw [e] at hown
      obtain ⟨wo, hwo⟩ : ∃ wo : World, wo = wr := ⟨_, rfl⟩
      subst hwo
      generalize hR : List.range' (k + 1) (N - (k + 1)) = R at hown e
      have HR := Lib.hid hR
      clear hR
      have He := Lib.hid e
      have HS := Lib.hid hS
      have Ho := Lib.hid hown
      have Hg := Lib.hid hg
      clear e hS hown hg
      go_wp2_with fail
      go_loopw [9] (fun j wi => ∃ (m : Nat) (P Q : List Nat), j = .int .i64 (m : Int) ∧ P.length = m ∧ S = P ++ Q ∧ (∀ q ∈ Q, tN times q < tN times k) ∧ wi.ownsRow base 2 1 (.slice (some ⟨g, 0, none⟩) N cc) N (ints (natI (P ++ k :: (Q ++ R)))) ∧ w.grownBy wi (some g)) (fun j _ => (intOf j).toNat)
      case atStart => exact ⟨k, S, [], rfl, HS.out, by simp, by simp, by simpa using Ho.out, Hg.out⟩
      case round =>
        clear Ho Hg
        obtain ⟨m, P, Q, rfl, hPm, hPQ, hQ, hown, hg⟩ := hrel
        have hmk : m ≤ k := by have := HS.out; rw [hPQ, List.length_append] at this; omega
        have HPQ := Lib.hid hPQ
        have HQ := Lib.hid hQ
        have HPm := Lib.hid hPm
        have Hg := Lib.hid hg
        have Ho := Lib.hid hown
        clear hPQ hQ hPm hg hown
        have hfin : (∀ p, P.getLast? = some p → tN times k ≤ tN times p) → InsOk (tN times) (k + 1) (P ++ k :: Q) ∧ (P ++ k :: Q).length = k + 1 := fun h => by
          have hk2 := Hok.out
          rw [HPQ.out] at hk2
          have hl := HS.out
          rw [HPQ.out] at hl
          exact ⟨insOk_step hk2 HQ.out h, by simp at hl ⊢; omega⟩
        have Hfin := Lib.hid hfin
        clear hfin
        rcases List.eq_nil_or_concat P with hP | ⟨P', p, hP⟩
        · have hm0 : m = 0 := by rw [← HPm.out, hP]; rfl
          subst hm0
          have hf := Hfin.out (by rw [hP]; simp)
          have Hf := Lib.hid hf
          have d0 : decide ((0 : Int) < ((0 : Nat) : Int)) = false := by simp
          clear hP hf
          go_wp2_with fail
          go_quiet (fail)
          go_wp2
          go_roundw
          case rel => exact ⟨k + 1, by omega, by omega, by go_num, P ++ k :: Q, Hf.out.2, Hf.out.1, by have h := own_drewN Ho.out nq; rw [HR.out]; simpa using h, by repeat' (first | (with_reducible exact Hg.out) | (with_reducible refine grown_set ?_) | (with_reducible refine grown_drew ?_) | (with_reducible refine grown_drewN ?_ _))⟩
          case measure => simp [intOf]; omega
        · rw [List.concat_eq_append] at hP
          obtain ⟨m, rfl⟩ : ∃ m', m = m' + 1 := ⟨m - 1, by have := HPm.out; rw [hP] at this; simp at this; omega⟩
          have hP'm : P'.length = m := by have := HPm.out; rw [hP] at this; simpa using this
          have hpk : p < k := by
            have h2 := Hok.out.2 p
            rw [HPQ.out, hP] at h2
            exact h2.1 (by simp)
          have hown := Ho.out
          rw [hP, show P' ++ [p] ++ k :: (Q ++ R) = P' ++ p :: k :: (Q ++ R) by simp] at hown
          have c1 : wr.cell? ⟨g, m + 1, none⟩ = some (.int .i64 (k : Int)) := own_cell_nat hown (by rw [List.getElem?_append_right (by omega), hP'm, show m + 1 - m = 1 by omega]; rfl)
          have c0 : wr.cell? ⟨g, m, none⟩ = some (.int .i64 (p : Int)) := own_cell_nat hown (by rw [List.getElem?_append_right (by omega), hP'm, Nat.sub_self]; rfl)
          have hfz := hown.frozenAt
          have e1 : (((m + 1 : Nat) : Int)) - 1 = (m : Int) := by omega
          have m0 : (0 : Int) ≤ (m : Int) := by omega
          have m1 : (m : Int) < (N : Int) := by omega
          have m2 : (0 : Int) ≤ ((m + 1 : Nat) : Int) := by omega
          have m3 : ((m + 1 : Nat) : Int) < (N : Int) := by omega
          have mp : decide ((0 : Int) < ((m + 1 : Nat) : Int)) = true := by first | (simp; done) | (simp; omega)
          have Ho2 := Lib.hid hown
          have HP := Lib.hid hP
          have HP' := Lib.hid hP'm
          have hpn : p < times.length := by rw [HN.out]; omega
          have hkn : k < times.length := by rw [HN.out]; omega
          have hcc := (HC.out _ Hg.out).1
          rw [← HN.out] at hcc
          have Hcc := Lib.hid hcc
          have Hpn := Lib.hid hpn
          have Hkn := Lib.hid hkn
          have Hpk := Lib.hid hpk
          clear hown hP hP'm hpn hkn hcc hpk
          by_cases hc : tN times p < tN times k
          · have hr1 : cmpV (tN times p) (tN times k) = -1 := if_pos hc
            have Hr1 := Lib.hid hr1
            have Hc := Lib.hid hc
            clear hr1 hc
            go_wp2_with fail
            go_quiet ((go_at_call 82; exact Calls.quiet_of (ord1_lt k p times Al cl cb B (-1) Hr1.out _ (by exact Hcc.out) (by exact (HC.out _ Hg.out).2) Hkn.out Hpn.out)))
            go_wp2_with fail
            go_region
            all_goals go_wp2
            all_goals go_roundw
            case measure => first | (simp [intOf]; done) | (simp [intOf]; omega)
            case rel =>
              refine ⟨m, P', p :: Q, by go_num, HP'.out, by rw [HPQ.out, HP.out]; simp, ?_, ?_, by repeat' (first | (with_reducible exact Hg.out) | (with_reducible refine grown_set ?_) | (with_reducible refine grown_drew ?_) | (with_reducible refine grown_drewN ?_ _))⟩
              · intro q hq
                rcases List.mem_cons.1 hq with e | hq
                · rw [e]; exact Hc.out
                · exact HQ.out q hq
              · refine swap_own (p := p) (R := Q ++ R) ?_ HP'.out
                first | exact Ho2.out | exact own_drewN Ho2.out _ | exact own_drew (own_drewN Ho2.out _)
          · obtain ⟨r, hr1, hr0⟩ : ∃ r, cmpV (tN times p) (tN times k) = r ∧ decide (r < 0) = false := by
              refine ⟨_, rfl, ?_⟩
              unfold cmpV
              rw [if_neg hc]
              split <;> simp
            have Hr1 := Lib.hid hr1
            have hf := Hfin.out (by rw [HP.out]; intro q hq; rw [List.getLast?_append] at hq; simp at hq; subst hq; omega)
            have Hf := Lib.hid hf
            clear hr1 hc hf
            go_wp2_with fail
            go_quiet ((go_at_call 82; exact Calls.quiet_of (ord1_lt k p times Al cl cb B r Hr1.out _ (by exact Hcc.out) (by exact (HC.out _ Hg.out).2) Hkn.out Hpn.out)))
            go_wp2
            go_roundw
            case rel => exact ⟨k + 1, by omega, by omega, by go_num, P ++ k :: Q, Hf.out.2, Hf.out.1, by have h := own_drewN Ho.out nq; rw [HR.out]; simpa using h, by repeat' (first | (with_reducible exact Hg.out) | (with_reducible refine grown_set ?_) | (with_reducible refine grown_drew ?_) | (with_reducible refine grown_drewN ?_ _))⟩
            case measure => simp [intOf]; omega
    · have hk' : k = N := by omega
      subst hk'
      have hfin := insOk_ord Hok.out
      rw [Nat.sub_self, List.range'_zero, List.append_nil, hfin] at hown
      have Ho := Lib.hid hown
      have Hg := Lib.hid hg
      clear hown hg hfin
      go_wp2
      go_end0
      exact ⟨rfl, Ho.out, Hg.out⟩
end Go.Proofs.Ytmeppemobogicaa
