/- No seating has fewer rows than are needed: the law's walk. -/
import Derived.Test.YtdjbbjehgfkefaaDis
import Derived.Test.YtdjbbjehgfkefaaLi0
namespace Go.Proofs.Ytdjbbjehgfkefaa
open Go.ChangeShapes Go.WideShapes Go.ChangeAt Go.RowKit
set_option maxRecDepth 20000
set_option linter.unusedVariables false
set_option linter.unusedSimpArgs false
theorem infoBool : (Try.prog.info? 4).map (fun i => (i.zero, i.size, i.bytes)) = some (some (.bool false), 1, 1) := by kernel_rfl
theorem seatB_parts {a b c n : Int} {l s : List Int} (h : seatB a b c l s n = true) : hcode a b c l = 0 ∧ 1 ≤ n ∧ n ≤ 12 ∧ s.length = l.length ∧ isI s (vl a b c l) n = true := by
  simp only [seatB, inB, Bool.and_eq_true, decide_eq_true_eq] at h
  exact ⟨h.1, h.2.1.1, h.2.1.2, h.2.2.1, h.2.2.2⟩
theorem seat_at {s v : List Int} {n x : Int} {k : Nat} (h : isI s v n = true) (hs : s[k]? = some x) : 0 ≤ x ∧ x ≤ 2 * n - 1 := by
  have hk : k < s.length := (List.getElem?_eq_some_iff.1 hs).1
  have := List.all_eq_true.1 h k (List.mem_range.2 hk)
  rw [okI, Bool.and_eq_true] at this
  have h2 := okA_parts this.1
  have e : s.getD k 0 = x := by rw [List.getD_eq_getElem?_getD, hs]; rfl
  rw [e] at h2
  exact ⟨h2.1, h2.2.1⟩
/-- no seating has fewer rows than are needed -/
theorem needed_law {a b c n : Int} {l s : List Int} (h : seatB a b c l s n = true) : rnC a b c l = 0 ∧ rnN a b c l ≤ rowsU s n.toNat := by
  obtain ⟨h0, h1, h2, h3, h4⟩ := seatB_parts h
  have hL := seating_law (s := s) (v := vl a b c l) (n := n) (by rw [vl_len]; exact h3) (by omega) h4
  rw [rnC, rnN, if_pos h0, if_pos h0, rowC, rowN, cnt_vl', cnt_vl', ← vl_len a b c l]
  generalize hv : vl a b c l = v at hL
  have hl : s.length = v.length := by rw [← hv, vl_len]; exact h3
  have n1 : ¬ ((v.countP (· == 1) : Nat) : Int) + (v.countP (· == 2) : Nat) < v.length := by omega
  have n2 : ¬ ((v.countP (· == 2) : Nat) : Int) < (v.countP (· == 1) : Nat) := by omega
  rw [if_neg n1, if_neg n2, if_neg n1, if_neg n2]
  exact ⟨rfl, by omega⟩
def usedL (s : List Int) (N : Nat) : List Value := (List.range N).map fun (r : Nat) => Value.bool (s.any fun y => decide (y / 2 = (r : Int)))
theorem usedL_at {s : List Int} {N r : Nat} (h : r < N) : (usedL s N)[r]? = some (.bool (s.any fun y => decide (y / 2 = (r : Int)))) := by
  rw [usedL, List.getElem?_map, List.getElem?_range h]; rfl
theorem usedL_len (s : List Int) (N : Nat) : (usedL s N).length = N := by simp [usedL]
theorem usedL_nil (N : Nat) : usedL [] N = List.replicate N (.bool false) := by
  apply List.ext_getElem?
  intro i
  by_cases h : i < N
  · rw [usedL_at h]; simp [h]
  · rw [List.getElem?_eq_none (by rw [usedL_len]; omega), List.getElem?_eq_none (by simp; omega)]
theorem usedL_set {s : List Int} {N r : Nat} {x : Int} (h : r < N) (hx : x / 2 = (r : Int)) : (usedL s N).set r (.bool true) = usedL (s ++ [x]) N := by
  apply List.ext_getElem?
  intro i
  by_cases hi : i < N
  · rw [usedL_at hi, List.getElem?_set]
    by_cases e : r = i
    · subst e
      rw [if_pos rfl, if_pos (by rw [usedL_len]; omega)]
      simp [hx]
    · rw [if_neg e, usedL_at hi, List.any_append]
      have : [x].any (fun y => decide (y / 2 = (i : Int))) = false := by simp; omega
      rw [this, Bool.or_false]
  · rw [List.getElem?_eq_none (by rw [List.length_set, usedL_len]; omega), List.getElem?_eq_none (by rw [usedL_len]; omega)]
theorem take_snoc {s : List Int} {k : Nat} {x : Int} (h : s[k]? = some x) : s.take (k + 1) = s.take k ++ [x] := by
  have hk : k < s.length := (List.getElem?_eq_some_iff.1 h).1
  rw [List.take_succ_eq_append_getElem hk]
  rw [List.getElem?_eq_getElem hk] at h
  rw [Option.some.inj h]
theorem rowsU_nil : ∀ N, rowsU [] N = 0
  | 0 => rfl
  | N + 1 => by rw [rowsU, rowsU_nil N]; rfl
theorem rowsU_le (s : List Int) : ∀ N, rowsU s N ≤ N
  | 0 => Nat.le_refl _
  | N + 1 => by have := rowsU_le s N; rw [rowsU]; split <;> omega
set_option maxHeartbeats 4000000 in
theorem walkFnSeatsNeeded (bl : List Int) (hbl : isU8 bl) (C : Option Addr) (cap : Nat) (w : World) (hr : Rd w w.heap.size C (bytesU bl)) (hlc : bl.length ≤ cap) (hm : cap ≤ maxLen) :
   Calls Try.prog 6 #[.slice C bl.length cap] w fun e w' => e = .returned (.bool true) ∧ Below w.heap.size w w' := by
  unfold maxLen at hm
  by_cases hn : bl.length ≤ 4096
  rotate_left
  · have hd : decide ((4096 : Int) < (bl.length : Int)) = true := by simp; omega
    go_enter Try.func6, Try.ntmps6
    go_wp2_with (go_at_call 20; refine (big_any _ _ _ _ (by omega)).mono ?_; rintro e w' ⟨rfl, rfl⟩)
    go_ret
    exact ⟨rfl, Below.refl _ _⟩
  have hd : decide ((4096 : Int) < (bl.length : Int)) = false := by simp; omega
  go_enter Try.func6, Try.ntmps6
  go_wp2_with fail
  refine (big_any _ _ _ _ (by omega)).mono ?_; rintro e w' ⟨rfl, rfl⟩
  go_wp2_with fail
  refine (drawIsSeating_any bl hbl hn C cap _ hr).mono ?_
  rintro e w0 ⟨x, y, z, l, A, c, s, As, cs, n, rfl, hl, hs, hsb, hcs, n0, n1, Rl, Rs, b0⟩
  clear hr hbl hd
  have z0 := b0.size
  have hsB : sBd s := fun k q hq => by have := hsb q (List.mem_of_getElem? hq); omega
  have HI := Lib.hid (fun (w' : World) (h1 : Rd w' w0.heap.size A (ints l)) (h2 : Rd w' w0.heap.size As (ints s)) (hB : w0.heap.size ≤ w'.heap.size) => isSeating_impl x y z n l s A As w0.heap.size c cs w' h1 h2 hB (by omega) (by omega) hcs hsB)
  have HS := Lib.hid (fun (w' : World) (h1 : Rd w' w0.heap.size A (ints l)) (h2 : Rd w' w0.heap.size As (ints s)) (hB : w0.heap.size ≤ w'.heap.size) => isSeating_spec x y z n l s A As w0.heap.size c cs w' h1 h2 hB (by omega) (by omega) hcs hsB)
  have HN := Lib.hid (fun (w' : World) (h1 : Rd w' w0.heap.size A (ints l)) (hB : w0.heap.size ≤ w'.heap.size) => rn_impl x y z l A w0.heap.size c w' h1 hB (by omega))
  have HM := Lib.hid (fun (w' : World) (h1 : Rd w' w0.heap.size A (ints l)) (hB : w0.heap.size ≤ w'.heap.size) => rn_spec x y z l A w0.heap.size c w' h1 hB (by omega))
  have LAW := Lib.hid (fun h : seatB x y z l s n = true => needed_law h)
  have PARTS := Lib.hid (fun h : seatB x y z l s n = true => seatB_parts h)
  generalize seatB x y z l s n = SB at *
  generalize rnN x y z l = RN at *
  generalize rnC x y z l = RC at *
  have L1 := Lib.hid (bk_new w0 #[.int .i64 x, .int .i64 y, .int .i64 z] 27)
  have Rl1 := Lib.hid (Rl.alloc (Nat.le_refl _) (.cells #[.int .i64 x, .int .i64 y, .int .i64 z] 27))
  have Rs1 := Lib.hid (Rs.alloc (Nat.le_refl _) (.cells #[.int .i64 x, .int .i64 y, .int .i64 z] 27))
  have B1 := Lib.hid (show Below w.heap.size w (w0.alloc (.cells #[.int .i64 x, .int .i64 y, .int .i64 z] 27)) from b0.trans (((Below.refl w0.heap.size w0).alloc (Nat.le_refl _) _).mono z0))
  clear Rl Rs b0 hsb hsB
  go_wp2_with fail
  have hz1 : w0.heap.size < (w0.alloc (.cells #[.int .i64 x, .int .i64 y, .int .i64 z] 27)).heap.size := by simp
  generalize (w0.alloc (.cells #[.int .i64 x, .int .i64 y, .int .i64 z] 27)) = w1 at *
  refine (HI.out w1 Rl1.out Rs1.out (by omega)).mono ?_; rintro e w2 ⟨rfl, b2⟩
  have L2 := Lib.hid (bk_below L1.out b2 (bk_lt L1.out))
  have Rl2 := Lib.hid (Rl1.out.below b2 (by omega))
  have Rs2 := Lib.hid (Rs1.out.below b2 (by omega))
  have B2 := Lib.hid (B1.out.trans (b2.mono (by omega)))
  have z2 := b2.size
  clear b2 L1 Rl1 Rs1 B1
  obtain ⟨q0, q1, q2, qf, qs⟩ := bk3 L2.out
  go_wp2_with fail
  clear q0 q1 q2 qf qs
  refine (HN.out w2 Rl2.out (by omega)).mono ?_; rintro e w3 ⟨rfl, b3⟩
  have L3 := Lib.hid (bk_below L2.out b3 (bk_lt L2.out))
  have Rl3 := Lib.hid (Rl2.out.below b3 (by omega))
  have Rs3 := Lib.hid (Rs2.out.below b3 (by omega))
  have B3 := Lib.hid (B2.out.trans (b3.mono (by omega)))
  have z3 := b3.size
  clear b3 L2 Rl2 Rs2 B2
  obtain ⟨q0, q1, q2, qf, qs⟩ := bk3 L3.out
  go_wp2_with fail
  clear q0 q1 q2 qf qs
  refine (HM.out w3 Rl3.out (by omega)).mono ?_; rintro e w4 ⟨rfl, b4⟩
  have L4 := Lib.hid (bk_below L3.out b4 (bk_lt L3.out))
  have Rl4 := Lib.hid (Rl3.out.below b4 (by omega))
  have Rs4 := Lib.hid (Rs3.out.below b4 (by omega))
  have B4 := Lib.hid (B3.out.trans (b4.mono (by omega)))
  have z4 := b4.size
  clear b4 L3 Rl3 Rs3 B3
  obtain ⟨q0, q1, q2, qf, qs⟩ := bk3 L4.out
  go_wp2_with fail
  clear q0 q1 q2 qf qs
  refine (HS.out w4 Rl4.out Rs4.out (by omega)).mono ?_; rintro e w5 ⟨rfl, b5⟩
  have L5 := Lib.hid (bk_below L4.out b5 (bk_lt L4.out))
  have Rl5 := Lib.hid (Rl4.out.below b5 (by omega))
  have Rs5 := Lib.hid (Rs4.out.below b5 (by omega))
  have B5 := Lib.hid (B4.out.trans (b5.mono (by omega)))
  have z5 := b5.size
  clear b5 L4 Rl4 Rs4 B4
  have hne : ∀ q : Int, (q != q) = false := fun q => by simp
  cases SB with
  | false =>
    go_wp2
    go_ret
    exact ⟨rfl, B5.out⟩
  | true =>
    obtain ⟨_, n2, n3, hsl, hI⟩ := PARTS.out rfl
    obtain ⟨hRC, hRN⟩ := LAW.out rfl
    obtain ⟨N, rfl⟩ : ∃ N : Nat, n = N := ⟨n.toNat, by omega⟩
    rw [Int.toNat_natCast] at hRN
    have HRC := Lib.hid hRC
    have HRN := Lib.hid hRN
    have HIs := Lib.hid hI
    have hsl2 := Lib.hid hsl
    clear hRC hRN hI PARTS LAW hsl HI HS HN HM L5 Rl5
    obtain ⟨i1, hi1, hz1', hz2', hz3'⟩ := info_parts infoBool
    obtain ⟨w6, xs, hmk, hown, hxs, hb6, hz6⟩ := mk_own (P := Try.prog) 48 4 i1 _ 1 1 Try.underlying48 hi1 hz1' hz2' hz3' .i64 .i64 N (by omega) (by unfold maxLen; omega) w5.heap.size w5 (Nat.le_refl _)
    have hxs2 : xs = usedL [] N := by rw [hxs, usedL_nil, Nat.mul_one]; exact toList_madeCells_one _ _
    have Ho6 := Lib.hid (hxs2 ▸ hown)
    have Rs6 := Lib.hid (Rs5.out.below hb6 (by omega))
    have B6 := Lib.hid (B5.out.trans (hb6.mono (by omega)))
    clear hxs hxs2 hown hb6 Rs5 B5
    generalize hG : w5.heap.size = G at *
    go_wp2_with fail
    go_loopw [13, 14] (fun q i wr => ∃ k : Nat, k ≤ s.length ∧ i = .int .i64 k ∧ q = .int .i64 (rowsU (s.take k) N : Nat) ∧ wr.ownsRow G 4 1 (.slice (some ⟨G, 0, none⟩) N N) N (usedL (s.take k) N) ∧ Rd wr w0.heap.size As (ints s) ∧ Below w.heap.size w wr) (fun _ i _ => s.length - (intOf i).toNat)
    case atStart => exact ⟨0, Nat.zero_le _, rfl, by rw [List.take_zero, rowsU_nil]; rfl, by simpa using Ho6.out, Rs6.out, B6.out⟩
    case round =>
      clear Ho6 Rs6 B6
      obtain ⟨k, hk, rfl, rfl, hown, hRs, hB⟩ := hrel
      have hle := rowsU_le (s.take k) N
      have Ho := Lib.hid hown
      have HRs := Lib.hid hRs
      have HB := Lib.hid hB
      have hGl := (own_lt hown G rfl).2
      have hsz := hB.size
      by_cases hlt : k < s.length
      · have ht := List.getElem?_eq_getElem hlt
        generalize s[k] = x at ht
        have hx := seat_at HIs.out ht
        obtain ⟨r, hr⟩ : ∃ r : Nat, x / 2 = (r : Int) := ⟨(x / 2).toNat, by omega⟩
        have hrN : r < N := by omega
        have htd : x.tdiv 2 = (r : Int) := by rw [Int.tdiv_eq_ediv_of_nonneg (by omega)]; exact hr
        have hst := take_snoc ht
        have hset := usedL_set (s := s.take k) hrN hr
        have hcnt := rowsU_snoc (s.take k) x N
        have hat := usedL_at (s := s.take k) hrN
        have hc := hown.cellAt r (by omega)
        rw [hat] at hc
        have hfz := hown.frozenAt
        rw [← hst] at hset hcnt
        rw [hr] at hcnt
        generalize ((s.take k).any fun y => decide (y / 2 = (r : Int))) = u at *
        have Hset := Lib.hid hset
        obtain ⟨bb, o, rfl, hbb, c0⟩ := hRs.int ht
        have hne : bb ≠ G := by omega
        have hi0 : (0 : Int) ≤ (k : Int) := by omega
        have hi1 : (k : Int) < (s.length : Int) := by omega
        have hj0 : (0 : Int) ≤ (r : Int) := by omega
        have hj1 : (r : Int) < (N : Int) := by omega
        clear ht hst hset hat hown hRs hB hr hx
        have hN12 : N ≤ 12 := by omega
        generalize rowsU (s.take k) N = q at *
        cases u with
        | true =>
          have Hcnt := Lib.hid (show rowsU (s.take (k + 1)) N = q by rw [hcnt, if_neg (fun hc => by cases hc.2.2)]; rfl)
          clear hcnt
          go_wp2
          go_roundw
          case rel => exact ⟨k + 1, by omega, by go_num, vint (by rw [Hcnt.out]), by rw [← Hset.out]; exact (Ho.out.stored r (.bool true)).1, HRs.out.grown (grownBy_set _ _ _ _) (by omega) (fun g hg => by injection hg with hg; omega), HB.out.setCell (p := ⟨G, r, none⟩) (by show w.heap.size ≤ G; omega) _⟩
          case measure => simp [intOf]; omega
        | false =>
          have Hcnt := Lib.hid (show rowsU (s.take (k + 1)) N = q + 1 by rw [hcnt, if_pos ⟨by omega, by omega, rfl⟩])
          clear hcnt
          go_wp2
          go_roundw
          case rel => exact ⟨k + 1, by omega, by go_num, vint (by rw [Hcnt.out]; omega), by rw [← Hset.out]; exact (Ho.out.stored r (.bool true)).1, HRs.out.grown (grownBy_set _ _ _ _) (by omega) (fun g hg => by injection hg with hg; omega), HB.out.setCell (p := ⟨G, r, none⟩) (by show w.heap.size ≤ G; omega) _⟩
          case measure => simp [intOf]; omega
      · have hk' : k = s.length := by omega
        subst hk'
        rw [List.take_length] at *
        have hRN := HRN.out
        have hRC := HRC.out
        subst hRC
        have hd1 : decide (RN ≤ ((rowsU s N : Nat) : Int)) = true := decide_eq_true hRN
        clear hown hRs hB hRN
        go_wp2
        go_ret
        exact ⟨rfl, HB.out⟩
end Go.Proofs.Ytdjbbjehgfkefaa
