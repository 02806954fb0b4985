/- The usual seating is a seating that fills the rows that are needed: the law's walk. -/
import Derived.Test.YtdjbbjehgfkefaaUd
import Derived.Test.YtdjbbjehgfkefaaLsn
namespace Go.Proofs.Ytdjbbjehgfkefaa
open Go.ChangeShapes Go.WideShapes Go.ChangeAt Go.RowKit
set_option maxRecDepth 20000
set_option linter.unusedVariables false
set_option linter.unusedSimpArgs false
theorem mostV_snoc (s : List Int) (x : Int) : mostV (s ++ [x]) = max (mostV s) (x.tdiv 2 + 1) := by
  unfold mostV
  rw [List.foldl_append]; rfl
theorem mostV_bd {s : List Int} (h : ∀ x ∈ s, 0 ≤ x ∧ x ≤ 100) : 0 ≤ mostV s ∧ mostV s ≤ 51 := by
  refine ⟨(most_ge s 0).1, most_le s 0 (by omega) fun x hx => ?_⟩
  have := h x hx
  rw [Int.tdiv_eq_ediv_of_nonneg this.1]; omega
theorem usC_zero {a b c n : Int} {l : List Int} (h : usC a b c l n = 0) : hcode a b c l = 0 ∧ inB n 1 12 = true ∧ rowC a b c l = 0 ∧ rowN a b c l ≤ n := by
  unfold usC at h
  by_cases h1 : hcode a b c l ≠ 0
  · rw [if_pos h1] at h; exact absurd h h1
  · rw [if_neg h1] at h
    cases hi : inB n 1 12 with
    | false => rw [hi, if_pos rfl] at h; omega
    | true =>
      rw [hi, if_neg (by decide)] at h
      by_cases h3 : rowC a b c l ≠ 0
      · rw [if_pos h3] at h; exact absurd h h3
      · rw [if_neg h3] at h
        by_cases h4 : n < rowN a b c l
        · rw [if_pos h4] at h; omega
        · exact ⟨by omega, rfl, by omega, by omega⟩
/-- the usual seating -/
theorem usual_law {a b c n : Int} {l : List Int} (h : usC a b c l n = 0) :
    rnC a b c l = 0 ∧ rnN a b c l ≤ n ∧ mostV (usR a b c l n) = rnN a b c l ∧ seatB a b c l (usR a b c l n) n = true ∧ (usR a b c l n).length = l.length ∧ l.length ≤ 24 := by
  obtain ⟨h0, h1, h2, h3⟩ := usC_zero h
  have e : usR a b c l n = usualV (vl a b c l) := by rw [usR, if_pos h, usual_vl]
  obtain ⟨hv, hd, hN⟩ := rowC_ok h2
  have hl : (usualV (vl a b c l)).length = l.length := by rw [usualV, List.length_map, List.length_range, vl_len]
  have h24 : l.length ≤ 24 := by
    rcases hcode_cases a b c l with ⟨_, hq⟩ | ⟨_, _, hq⟩ | ⟨_, h5, _, hq⟩ | ⟨_, h5, _, hq⟩ <;> omega
  rw [rnC, rnN, if_pos h0, if_pos h0, e]
  refine ⟨h2, h3, by rw [usual_most hv hd, hN], ?_, hl, h24⟩
  rw [seatB, decide_eq_true h0, h1, decide_eq_true hl, usual_ok hv hd (by rw [← hN]; exact h3)]
  rfl
set_option maxHeartbeats 4000000 in
theorem walkFnSeatings (bl : List Int) (hbl : isU8 bl) (C : Option Addr) (cap : Nat) (w : World) (hr : Rd w w.heap.size C (bytesU bl)) (hlc : bl.length ≤ cap) (hm : cap ≤ maxLen) :
   Calls Try.prog 7 #[.slice C bl.length cap] w fun e w' => e = .returned (.bool true) ∧ Below w.heap.size w w' := by
  unfold maxLen at hm
  by_cases hn : bl.length ≤ 4096
  rotate_left
  · have hd : decide ((4096 : Int) < (bl.length : Int)) = true := by simp; omega
    go_enter Try.func7, Try.ntmps7
    go_wp2_with (go_at_call 20; refine (big_any _ _ _ _ (by omega)).mono ?_; rintro e w' ⟨rfl, rfl⟩)
    go_ret
    exact ⟨rfl, Below.refl _ _⟩
  have hd : decide ((4096 : Int) < (bl.length : Int)) = false := by simp; omega
  go_enter Try.func7, Try.ntmps7
  go_wp2_with fail
  refine (big_any _ _ _ _ (by omega)).mono ?_; rintro e w' ⟨rfl, rfl⟩
  go_wp2_with fail
  refine (drawUsualSeating_any bl hbl hn C cap _ hr).mono ?_
  rintro e w0 ⟨x, y, z, l, A, c, n, rfl, hl, n0, n1, Rl, b0⟩
  clear hr hbl hd
  have z0 := b0.size
  have hSb := usR_bd x y z l n hl
  have hSl := usR_le x y z l n
  have HU := Lib.hid (fun (w' : World) (h1 : Rd w' w0.heap.size A (ints l)) (hB : w0.heap.size ≤ w'.heap.size) => us_impl x y z l n A w0.heap.size c w' h1 hB (by omega))
  have HV := Lib.hid (fun (w' : World) (h1 : Rd w' w0.heap.size A (ints l)) (hB : w0.heap.size ≤ w'.heap.size) => us_spec x y z l n A w0.heap.size c w' h1 hB (by omega))
  have HN := Lib.hid (fun (w' : World) (h1 : Rd w' w0.heap.size A (ints l)) (hB : w0.heap.size ≤ w'.heap.size) => rn_impl x y z l A w0.heap.size c w' h1 hB (by omega))
  have LAW := Lib.hid (fun h : usC x y z l n = 0 => usual_law h)
  have HI := Lib.hid (fun (q : seatB x y z l (usR x y z l n) n = true) (Bq : Nat) (As : Option Addr) (cs : Nat) (w' : World) (h1 : Rd w' Bq A (ints l)) (h2 : Rd w' Bq As (ints (usR x y z l n))) (hB : Bq ≤ w'.heap.size) (hcs : (usR x y z l n).length ≤ cs) => q ▸ isSeating_impl x y z n l (usR x y z l n) A As Bq c cs w' h1 h2 hB (by omega) (by omega) hcs (fun k q hq => by have := hSb q (List.mem_of_getElem? hq); omega))
  generalize usR x y z l n = S at *
  generalize usC x y z l n = UC at *
  generalize rnN x y z l = RN at *
  generalize rnC x y z l = RC at *
  have L1 := Lib.hid (bk_new w0 #[.int .i64 x, .int .i64 y, .int .i64 z] 27)
  have Rl1 := Lib.hid (Rl.alloc (Nat.le_refl _) (.cells #[.int .i64 x, .int .i64 y, .int .i64 z] 27))
  have B1 := Lib.hid (show Below w.heap.size w (w0.alloc (.cells #[.int .i64 x, .int .i64 y, .int .i64 z] 27)) from b0.trans (((Below.refl w0.heap.size w0).alloc (Nat.le_refl _) _).mono z0))
  have HSb := Lib.hid hSb
  clear Rl b0 hSb
  go_wp2_with fail
  have hz1 : w0.heap.size < (w0.alloc (.cells #[.int .i64 x, .int .i64 y, .int .i64 z] 27)).heap.size := by simp
  generalize (w0.alloc (.cells #[.int .i64 x, .int .i64 y, .int .i64 z] 27)) = w1 at *
  refine (HU.out w1 Rl1.out (by omega)).mono ?_; rintro e w2 ⟨As, cs, rfl, os, b2⟩
  have L2 := Lib.hid (bk_below L1.out b2 (bk_lt L1.out))
  have Rl2 := Lib.hid (Rl1.out.below b2 (by omega))
  have B2 := Lib.hid (B1.out.trans (b2.mono (by omega)))
  have z2 := b2.size
  have hcs := own_cap os
  have Rs2 := Lib.hid (Rd.of_own os)
  clear b2 os L1 Rl1 B1
  obtain ⟨q0, q1, q2, qf, qs⟩ := bk3 L2.out
  go_wp2_with fail
  clear q0 q1 q2 qf qs
  refine (HV.out w2 Rl2.out (by omega)).mono ?_; rintro e w3 ⟨Am, cm, rfl, om, b3⟩
  have L3 := Lib.hid (bk_below L2.out b3 (bk_lt L2.out))
  have Rl3 := Lib.hid (Rl2.out.below b3 (by omega))
  have B3 := Lib.hid (B2.out.trans (b3.mono (by omega)))
  have z3 := b3.size
  have Rs3 := Lib.hid ((Rs2.out.below b3 (Nat.le_refl _)).more z3)
  have Rm3 := Lib.hid (Rd.of_own om)
  clear b3 om L2 Rl2 B2 Rs2
  obtain ⟨q0, q1, q2, qf, qs⟩ := bk3 L3.out
  have hne : ∀ q : Int, (q != q) = false := fun q => by simp
  go_wp2_with fail
  clear q0 q1 q2 qf qs
  refine (likeInts_same S As Am w3.heap.size w3.heap.size cs cm w3 Rs3.out Rm3.out (by omega)).mono ?_; rintro e w4 ⟨rfl, b4⟩
  have L4 := Lib.hid (bk_below L3.out b4 (bk_lt L3.out))
  have Rl4 := Lib.hid ((Rl3.out.below b4 (by omega)).more (show w0.heap.size ≤ w3.heap.size by omega))
  have B4 := Lib.hid (B3.out.trans (b4.mono (by omega)))
  have z4 := b4.size
  have Rs4 := Lib.hid (Rs3.out.below b4 (by omega))
  have Rm4 := Lib.hid (Rm3.out.below b4 (by omega))
  have Rq4 := Lib.hid (Rl3.out.below b4 (by omega))
  clear b4 L3 Rl3 B3 Rs3 Rm3 HU HV
  by_cases hu : UC = 0
  rotate_left
  · have e1 : (UC != 0) = true := by rw [bne_iff_ne]; exact hu
    have e2 : (UC == 0) = false := by rw [beq_eq_false_iff_ne]; exact hu
    go_wp2
    go_ret
    exact ⟨rfl, B4.out⟩
  subst hu
  obtain ⟨hRC, hRN, hmost, hseat, hlen, h24⟩ := LAW.out rfl
  subst hRC
  have Hmost := Lib.hid hmost
  have HI2 := Lib.hid (HI.out hseat)
  have hS24 : S.length ≤ 24 := by omega
  clear LAW HI hmost hseat hlen
  obtain ⟨q0, q1, q2, qf, qs⟩ := bk3 L4.out
  go_wp2_with fail
  clear q0 q1 q2 qf qs
  refine (HN.out w4 Rq4.out (by omega)).mono ?_; rintro e w5 ⟨rfl, b5⟩
  have L5 := Lib.hid (bk_below L4.out b5 (bk_lt L4.out))
  have Rl5 := Lib.hid (Rl4.out.below b5 (by omega))
  have B5 := Lib.hid (B4.out.trans (b5.mono (by omega)))
  have z5 := b5.size
  have Rs5 := Lib.hid (Rs4.out.below b5 (by omega))
  have Rm5 := Lib.hid (Rm4.out.below b5 (by omega))
  clear b5 L4 Rl4 B4 Rs4 Rm4 Rq4 HN
  have hwz : w.heap.size ≤ w3.heap.size := by omega
  have hlz : w0.heap.size < w3.heap.size := by omega
  generalize w3.heap.size = B at *
  generalize w0.heap.size = b0 at *
  go_wp2_with fail
  go_loopw [12, 13] (fun q i wr => ∃ k : Nat, k ≤ S.length ∧ i = .int .i64 k ∧ q = .int .i64 (mostV (S.take k)) ∧ Bk wr b0 #[.int .i64 x, .int .i64 y, .int .i64 z] ∧ Rd wr B A (ints l) ∧ Rd wr B As (ints S) ∧ Rd wr B Am (ints S) ∧ Below w.heap.size w wr ∧ B ≤ wr.heap.size) (fun _ i _ => S.length - (intOf i).toNat)
  case atStart => exact ⟨0, Nat.zero_le _, rfl, rfl, L5.out, Rl5.out, Rs5.out, Rm5.out, B5.out, by omega⟩
  case round =>
    clear L5 Rl5 Rs5 Rm5 B5
    obtain ⟨k, hk, rfl, rfl, hL, hRl, hRs, hRm, hB, hsz⟩ := hrel
    have HL := Lib.hid hL
    have HRl := Lib.hid hRl
    have HRs := Lib.hid hRs
    have HRm := Lib.hid hRm
    have HB := Lib.hid hB
    by_cases hlt : k < S.length
    · have ht := List.getElem?_eq_getElem hlt
      generalize S[k] = v at ht
      have hv := HSb.out v (List.mem_of_getElem? ht)
      have hst := mostV_snoc (S.take k) v
      rw [← take_snoc ht] at hst
      have hmb := mostV_bd (s := S.take k) (fun q hq => HSb.out q (List.mem_of_mem_take hq))
      obtain ⟨d, htd, hd0, hd1⟩ : ∃ d : Int, v.tdiv 2 = d ∧ 0 ≤ d ∧ d ≤ 50 := ⟨v / 2, Int.tdiv_eq_ediv_of_nonneg hv.1, by omega, by omega⟩
      rw [htd] at hst
      obtain ⟨bb, o, rfl, hbb, c0⟩ := hRm.int ht
      have Hst := Lib.hid hst
      have hj0 : (0 : Int) ≤ (k : Int) := by omega
      have hj1 : (k : Int) < (S.length : Int) := by omega
      generalize mostV (S.take k) = m at *
      have HCI := Lib.hid (fun (w' : World) (hr' : Rd w' B As (ints S)) (hB' : B ≤ w'.heap.size) => companionOf_impl S k hlt (by omega) HSb.out As B cs w' hr' hB')
      have HCS := Lib.hid (fun (w' : World) (hr' : Rd w' B (some ⟨bb, o, none⟩) (ints S)) (hB' : B ≤ w'.heap.size) => companionOf_spec S k hlt (by omega) HSb.out (some ⟨bb, o, none⟩) B cm w' hr' hB')
      generalize compF (qAll S k) S.length = q at *
      clear ht hst hL hRl hRs hRm hB hv
      by_cases hc : m < d + 1
      all_goals go_wp2_with fail
      all_goals refine (HCI.out wr HRs.out hsz).mono ?_
      all_goals rintro e w6 ⟨rfl, b6⟩
      all_goals have z6 := b6.size
      all_goals have HRm6 := Lib.hid (HRm.out.below b6 hsz)
      all_goals go_wp2_with fail
      all_goals refine (HCS.out w6 HRm6.out (by omega)).mono ?_
      all_goals rintro e w7 ⟨rfl, b7⟩
      all_goals have z7 := b7.size
      all_goals have Bw := Lib.hid (b6.trans (b7.mono z6))
      all_goals go_wp2
      all_goals go_roundw
      all_goals first | exact ⟨k + 1, by omega, by go_num, vint (by rw [Hst.out]; omega), bk_below HL.out Bw.out (by omega), HRl.out.below Bw.out hsz, HRs.out.below Bw.out hsz, HRm.out.below Bw.out hsz, HB.out.trans (Bw.out.mono (HB.out.size)), by omega⟩ | (simp [intOf]; omega)
    · have hk' : k = S.length := by omega
      subst hk'
      rw [List.take_length]
      have hmm := Hmost.out
      rw [hmm]
      have hd1 : decide (RN ≤ n) = true := decide_eq_true hRN
      obtain ⟨q0, q1, q2, qf, qs⟩ := bk3 HL.out
      clear hL hRl hRs hRm hB hmm
      go_wp2_with (go_at_call 24; refine (HI2.out B As cs _ HRl.out HRs.out hsz hcs).mono ?_; rintro e w6 ⟨rfl, b6⟩)
      go_ret
      exact ⟨rfl, HB.out.trans (b6.mono HB.out.size)⟩
end Go.Proofs.Ytdjbbjehgfkefaa
