/- GroupsLoaded of the reference. -/
import Derived.Test.YtdjbbjehgfkefaaGx
import Derived.Test.YtdjbbjehgfkefaaQt
namespace Go.Proofs.Ytdjbbjehgfkefaa
open Go.ChangeShapes Go.WideShapes Go.ChangeAt Go.RowKit
set_option maxRecDepth 20000
set_option linter.unusedVariables false
set_option linter.unusedSimpArgs false
set_option maxHeartbeats 4000000 in
theorem groups_spec (a b c n : Int) (G : List (List Int)) (hG : ∀ l ∈ G, l.length ≤ 1048576) (A : Option Addr) (B cc : Nat) (w : World) (hr : RdG w B A G) (hB : B ≤ w.heap.size) (hn : G.length ≤ 1048576) :
   Calls Try.prog 16 #[.agg #[.int .i64 a, .int .i64 b, .int .i64 c], .slice A G.length cc, .int .i64 n] w fun e w' => e = .returned (.tuple #[.int .i64 (grN a b c G n), .int .i64 (grC a b c G n)]) ∧ Below w.heap.size w w' := by
  have HG := Lib.hid hG
  have R0 := Lib.hid (hr.alloc hB (.cells #[.int .i64 a, .int .i64 b, .int .i64 c] 27))
  have K0 := Lib.hid (bk_new w #[.int .i64 a, .int .i64 b, .int .i64 c] 27)
  have B0 := Lib.hid ((Below.refl w.heap.size w).alloc (Nat.le_refl _) (.cells #[.int .i64 a, .int .i64 b, .int .i64 c] 27))
  clear hG hr
  rcases gr_cases a b c G n with ⟨h1, e1, e2⟩ | ⟨h1, h2, e1, e2⟩ | ⟨h1, h2, h3, e1, e2⟩ | ⟨h1, h2, h3, h4, e1, e2⟩ | ⟨h1, h2, h3, h4, h5, hC, hN1, hN2⟩
  · rw [e1, e2]
    have H1 := Lib.hid h1
    clear h1 e1 e2
    go_enter Try.func16, Try.ntmps16
    go_wp2_with (first | (go_at_call 41; refine (ruleB_spec_r a b c false H1.out _).mono ?_; rintro e w1 ⟨rfl, hb⟩; have hz1 := hb.size; have K1 := Lib.hid (bk_below K0.out hb (bk_lt K0.out)); have R1 := Lib.hid (R0.out.below hb (by simp; omega)); have B1 := Lib.hid (B0.out.trans (hb.mono (by simp))); obtain ⟨q0, q1, q2, qf, qs⟩ := bk3 K1.out; clear hb))
    go_ret2
    exact ⟨rfl, B1.out⟩
  · rw [e1, e2]
    have H1 := Lib.hid h1
    have hd : decide ((24 : Int) < (G.length : Int)) = true := decide_eq_true (by omega)
    clear h1 h2 e1 e2
    go_enter Try.func16, Try.ntmps16
    go_wp2_with (first | (go_at_call 41; refine (ruleB_spec_r a b c true H1.out _).mono ?_; rintro e w1 ⟨rfl, hb⟩; have hz1 := hb.size; have K1 := Lib.hid (bk_below K0.out hb (bk_lt K0.out)); have R1 := Lib.hid (R0.out.below hb (by simp; omega)); have B1 := Lib.hid (B0.out.trans (hb.mono (by simp))); obtain ⟨q0, q1, q2, qf, qs⟩ := bk3 K1.out; clear hb))
    go_ret2
    exact ⟨rfl, B1.out⟩
  · rw [e1, e2]
    have H1 := Lib.hid h1
    have H3 := Lib.hid h3
    have hd : decide ((24 : Int) < (G.length : Int)) = false := decide_eq_false (by omega)
    clear h1 h2 h3 e1 e2
    go_enter Try.func16, Try.ntmps16
    go_wp2_with (first | (go_at_call 41; refine (ruleB_spec_r a b c true H1.out _).mono ?_; rintro e w1 ⟨rfl, hb⟩; have hz1 := hb.size; have K1 := Lib.hid (bk_below K0.out hb (bk_lt K0.out)); have R1 := Lib.hid (R0.out.below hb (by simp; omega)); have B1 := Lib.hid (B0.out.trans (hb.mono (by simp))); obtain ⟨q0, q1, q2, qf, qs⟩ := bk3 K1.out; clear hb))
    clear q0 q1 q2 qf qs
    go_loop [8] (fun i => ∃ k : Nat, k ≤ G.length ∧ i = .int .i64 k ∧ (G.take k).any (fun l => decide (24 < l.length)) = false) (fun i => G.length - (intOf i).toNat)
    case atStart => exact ⟨0, Nat.zero_le _, rfl, by simp⟩
    case round =>
      obtain ⟨k, hk, rfl, hall⟩ := hrel
      by_cases hlt : k < G.length
      · have ht := List.getElem?_eq_getElem hlt
        generalize G[k] = l at ht
        have hl := HG.out l (List.mem_of_getElem? ht)
        obtain ⟨bb, o, A', c', rfl, hbb, c0, hrl⟩ := R1.out.at ht
        have hj0 : (0 : Int) ≤ (k : Int) := by omega
        have hj1 : (k : Int) < (G.length : Int) := by omega
        have hstep := any_step (fun l : List Int => decide (24 < l.length)) G ht
        rw [hall] at hstep
        have Hst := Lib.hid hstep
        clear hall ht hrl hstep
        by_cases h24 : 24 < l.length
        · have hd2 : decide ((24 : Int) < (l.length : Int)) = true := decide_eq_true (by omega)
          clear h24
          go_wp2
          go_ret2
          exact ⟨rfl, B1.out⟩
        · have hd2 : decide ((24 : Int) < (l.length : Int)) = false := decide_eq_false (by omega)
          have Hs2 := Lib.hid (Hst.out.trans (show (false || decide (24 < l.length)) = false by rw [decide_eq_false h24]; rfl))
          clear h24 Hst
          go_wp2
          go_round
          case rel => exact ⟨k + 1, by omega, by go_num, Hs2.out⟩
          case measure => simp [intOf]; omega
      · have hk' : k = G.length := by omega
        subst hk'
        rw [List.take_length, H3.out] at hall
        cases hall
  · rw [e1, e2]
    have H1 := Lib.hid h1
    have H3 := Lib.hid h3
    have h5 := hc_any h1 h3
    have hd : decide ((24 : Int) < (G.length : Int)) = false := decide_eq_false (by omega)
    clear e1 e2 h2
    cases h6 : G.any (fun l => !(l.all (inB · 1 3000))) with
    | true =>
      have H5 := Lib.hid (h5.trans h6)
      clear h1 h3 h4 h5 h6
      go_enter Try.func16, Try.ntmps16
      go_wp2_with (first | (go_at_call 41; refine (ruleB_spec_r a b c true H1.out _).mono ?_; rintro e w1 ⟨rfl, hb⟩; have hz1 := hb.size; have K1 := Lib.hid (bk_below K0.out hb (bk_lt K0.out)); have R1 := Lib.hid (R0.out.below hb (by simp; omega)); have B1 := Lib.hid (B0.out.trans (hb.mono (by simp))); obtain ⟨q0, q1, q2, qf, qs⟩ := bk3 K1.out; clear hb))
      clear q0 q1 q2 qf qs
      go_loop [8] (fun i => ∃ k : Nat, k ≤ G.length ∧ i = .int .i64 k) (fun i => G.length - (intOf i).toNat)
      case atStart => exact ⟨0, Nat.zero_le _, rfl⟩
      case round =>
        obtain ⟨k, hk, rfl⟩ := hrel
        by_cases hlt : k < G.length
        · have ht := List.getElem?_eq_getElem hlt
          generalize G[k] = l at ht
          have hl := HG.out l (List.mem_of_getElem? ht)
          obtain ⟨bb, o, A', c', rfl, hbb, c0, hrl⟩ := R1.out.at ht
          have hj0 : (0 : Int) ≤ (k : Int) := by omega
          have hj1 : (k : Int) < (G.length : Int) := by omega
          have h24 := List.any_eq_false.1 H3.out l (List.mem_of_getElem? ht)
          have hd2 : decide ((24 : Int) < (l.length : Int)) = false := decide_eq_false (by simp at h24; omega)
          clear h24 ht hrl
          go_wp2
          go_round
          case rel => exact ⟨k + 1, by omega, by go_num⟩
          case measure => simp [intOf]; omega
        · have hk' : k = G.length := by omega
          subst hk'
          go_wp2_with fail
          go_loopw [9] (fun i wr => ∃ k : Nat, k ≤ G.length ∧ i = .int .i64 k ∧ Bk wr w.heap.size #[.int .i64 a, .int .i64 b, .int .i64 c] ∧ RdG wr B A G ∧ Below w.heap.size w wr ∧ w1.heap.size ≤ wr.heap.size ∧ (G.take k).any (fun l => hcode a b c l != 0) = false) (fun i _ => G.length - (intOf i).toNat)
          case atStart => exact ⟨0, Nat.zero_le _, rfl, K1.out, R1.out, B1.out, Nat.le_refl _, by simp⟩
          case round =>
            obtain ⟨k, hk, rfl, hK, hRG, hBw, hsw, hall⟩ := hrel
            have HK := Lib.hid hK
            have HRG := Lib.hid hRG
            have HB := Lib.hid hBw
            have hsz := hBw.size
            by_cases hlt : k < G.length
            · have ht := List.getElem?_eq_getElem hlt
              generalize G[k] = l at ht
              have hl := HG.out l (List.mem_of_getElem? ht)
              obtain ⟨bb, o, A', c', rfl, hbb, c0, hrl⟩ := hRG.at ht
              obtain ⟨q0, q1, q2, qf, qs⟩ := bk3 hK
              have Hrl := Lib.hid hrl
              have hj0 : (0 : Int) ≤ (k : Int) := by omega
              have hj1 : (k : Int) < (G.length : Int) := by omega
              have hbz : bb < wr.heap.size := by omega
              have hstep := any_step (fun l : List Int => hcode a b c l != 0) G ht
              rw [hall] at hstep
              have Hst := Lib.hid hstep
              obtain ⟨h, hh⟩ : ∃ h, hcode a b c l = h := ⟨_, rfl⟩
              have Hh := Lib.hid hh
              clear hall ht hrl hstep hK hRG hBw
              by_cases h0 : h = 0
              rotate_left
              · have hne : (h != 0) = true := by rw [bne_iff_ne]; exact h0
                have heq : (h == 0) = false := by rw [beq_eq_false_iff_ne]; exact h0
                clear h0 hh
                go_wp2_with fail
                refine wp_region_cls (S := Below wr.heap.size wr) (by kernel_rfl) (by kernel_rfl) (below_drew1 _ _) ?_
                replace q0 := cls_cell q0 qs
                replace q1 := cls_cell q1 qs
                replace q2 := cls_cell q2 qs
                replace c0 := cls_cell c0 hbz
                repeat (go_big_quiet_step ((go_at_call 31; exact cls_call (Nat.le_refl _) (hcode_spec_r a b c l h Hh.out A' B c' _ (cls_rd _ Hrl.out (by omega)) (cls_le _ (by omega)) hl))))
                refine wpQuiet_nil ?_
                rintro _ ⟨⟨w5, bw5⟩, rfl⟩
                (try dsimp only)
                go_wp2
                go_ret2
                exact ⟨rfl, HB.out.trans (bw5.mono hsz)⟩
              · subst h0
                have Hs2 := Lib.hid (Hst.out.trans (show (false || (hcode a b c l != 0)) = false by rw [hh]; rfl))
                clear hh Hst
                go_wp2_with fail
                refine wp_region_cls (S := Below wr.heap.size wr) (by kernel_rfl) (by kernel_rfl) (below_drew1 _ _) ?_
                replace q0 := cls_cell q0 qs
                replace q1 := cls_cell q1 qs
                replace q2 := cls_cell q2 qs
                replace c0 := cls_cell c0 hbz
                repeat (go_big_quiet_step ((go_at_call 31; exact cls_call (Nat.le_refl _) (hcode_spec_r a b c l 0 Hh.out A' B c' _ (cls_rd _ Hrl.out (by omega)) (cls_le _ (by omega)) hl))))
                refine wpQuiet_nil ?_
                rintro _ ⟨⟨w5, bw5⟩, rfl⟩
                (try dsimp only)
                go_wp2
                go_roundw
                case rel => exact ⟨k + 1, by omega, by go_num, bk_below HK.out bw5 qs, HRG.out.below bw5 (by omega), HB.out.trans (bw5.mono hsz), by have := bw5.size; omega, Hs2.out⟩
                case measure => simp [intOf]; omega
            · have hk' : k = G.length := by omega
              subst hk'
              rw [List.take_length, H5.out] at hall
              cases hall
    | false =>
      have H5 := Lib.hid (h5.trans h6)
      have H4 := Lib.hid (show inB n 1 12 = false from h4.resolve_right (by rw [h6]; decide))
      clear h1 h3 h4 h5 h6
      go_enter Try.func16, Try.ntmps16
      go_wp2_with (first | (go_at_call 41; refine (ruleB_spec_r a b c true H1.out _).mono ?_; rintro e w1 ⟨rfl, hb⟩; have hz1 := hb.size; have K1 := Lib.hid (bk_below K0.out hb (bk_lt K0.out)); have R1 := Lib.hid (R0.out.below hb (by simp; omega)); have B1 := Lib.hid (B0.out.trans (hb.mono (by simp))); obtain ⟨q0, q1, q2, qf, qs⟩ := bk3 K1.out; clear hb))
      clear q0 q1 q2 qf qs
      go_loop [8] (fun i => ∃ k : Nat, k ≤ G.length ∧ i = .int .i64 k) (fun i => G.length - (intOf i).toNat)
      case atStart => exact ⟨0, Nat.zero_le _, rfl⟩
      case round =>
        obtain ⟨k, hk, rfl⟩ := hrel
        by_cases hlt : k < G.length
        · have ht := List.getElem?_eq_getElem hlt
          generalize G[k] = l at ht
          have hl := HG.out l (List.mem_of_getElem? ht)
          obtain ⟨bb, o, A', c', rfl, hbb, c0, hrl⟩ := R1.out.at ht
          have hj0 : (0 : Int) ≤ (k : Int) := by omega
          have hj1 : (k : Int) < (G.length : Int) := by omega
          have h24 := List.any_eq_false.1 H3.out l (List.mem_of_getElem? ht)
          have hd2 : decide ((24 : Int) < (l.length : Int)) = false := decide_eq_false (by simp at h24; omega)
          clear h24 ht hrl
          go_wp2
          go_round
          case rel => exact ⟨k + 1, by omega, by go_num⟩
          case measure => simp [intOf]; omega
        · have hk' : k = G.length := by omega
          subst hk'
          go_wp2_with fail
          go_loopw [9] (fun i wr => ∃ k : Nat, k ≤ G.length ∧ i = .int .i64 k ∧ Bk wr w.heap.size #[.int .i64 a, .int .i64 b, .int .i64 c] ∧ RdG wr B A G ∧ Below w.heap.size w wr ∧ w1.heap.size ≤ wr.heap.size) (fun i _ => G.length - (intOf i).toNat)
          case atStart => exact ⟨0, Nat.zero_le _, rfl, K1.out, R1.out, B1.out, Nat.le_refl _⟩
          case round =>
            obtain ⟨k, hk, rfl, hK, hRG, hBw, hsw⟩ := hrel
            have HK := Lib.hid hK
            have HRG := Lib.hid hRG
            have HB := Lib.hid hBw
            have hsz := hBw.size
            by_cases hlt : k < G.length
            · have ht := List.getElem?_eq_getElem hlt
              generalize G[k] = l at ht
              have hl := HG.out l (List.mem_of_getElem? ht)
              obtain ⟨bb, o, A', c', rfl, hbb, c0, hrl⟩ := hRG.at ht
              obtain ⟨q0, q1, q2, qf, qs⟩ := bk3 hK
              have Hrl := Lib.hid hrl
              have hj0 : (0 : Int) ≤ (k : Int) := by omega
              have hj1 : (k : Int) < (G.length : Int) := by omega
              have hbz : bb < wr.heap.size := by omega
              have h0 := List.any_eq_false.1 H5.out l (List.mem_of_getElem? ht)
              have Hh := Lib.hid (show hcode a b c l = 0 by simpa using h0)
              clear ht hrl hK hRG hBw h0
              go_wp2_with fail
              refine wp_region_cls (S := Below wr.heap.size wr) (by kernel_rfl) (by kernel_rfl) (below_drew1 _ _) ?_
              replace q0 := cls_cell q0 qs
              replace q1 := cls_cell q1 qs
              replace q2 := cls_cell q2 qs
              replace c0 := cls_cell c0 hbz
              repeat (go_big_quiet_step ((go_at_call 31; exact cls_call (Nat.le_refl _) (hcode_spec_r a b c l 0 Hh.out A' B c' _ (cls_rd _ Hrl.out (by omega)) (cls_le _ (by omega)) hl))))
              refine wpQuiet_nil ?_
              rintro _ ⟨⟨w5, bw5⟩, rfl⟩
              (try dsimp only)
              go_wp2
              go_roundw
              case rel => exact ⟨k + 1, by omega, by go_num, bk_below HK.out bw5 qs, HRG.out.below bw5 (by omega), HB.out.trans (bw5.mono hsz), by have := bw5.size; omega⟩
              case measure => simp [intOf]; omega
            · have hk' : k = G.length := by omega
              subst hk'
              clear hK hRG hBw
              go_wp2_with (go_at_call 32; refine (l01In_r' _ _ _ false H4.out _).mono ?_; rintro e w' ⟨rfl, rfl⟩)
              go_ret2
              exact ⟨rfl, HB.out⟩
  · have H1 := Lib.hid h1
    have H3 := Lib.hid h3
    have H4 := Lib.hid h4
    have H5 := Lib.hid ((hc_any h1 h3).trans h5)
    have hd : decide ((24 : Int) < (G.length : Int)) = false := decide_eq_false (by omega)
    generalize hN : grN a b c G n = gn
    have hC' : grC a b c G n = firstC a b c G := hC
    rw [hC']
    have hle : ∀ l ∈ G, l.length ≤ 24 := fun l hl => by
      have := List.any_eq_false.1 h3 l hl
      simp at this; exact this
    have hbd := fun k => preS_bd (a := a) (b := b) (c := c) hle k
    have hbad := Lib.hid (fun (k : Nat) (l : List Int) (hk : G[k]? = some l) (hall : ∀ j x, j < k → G[j]? = some x → rowC a b c x = 0) (hr : rowC a b c l ≠ 0) => show gn = 0 ∧ firstC a b c G = rowC a b c l from ⟨by rw [← hN]; exact hN1 (by rw [firstC_here hk hall hr]; exact hr), firstC_here hk hall hr⟩)
    have hgood := Lib.hid (fun (hall : ∀ j x, j < G.length → G[j]? = some x → rowC a b c x = 0) => show gn = outG (needsG a b c G) n G.length ∧ firstC a b c G = 0 from ⟨by rw [← hN]; exact hN2 (firstC_none hall), firstC_none hall⟩)
    have Hle := Lib.hid hle
    have Hbd := Lib.hid hbd
    have hol := Lib.hid (fun k => outG_le (needsG a b c G) n k)
    generalize firstC a b c G = fc at *
    have hn12 : 1 ≤ n ∧ n ≤ 12 := by rw [inB, Bool.and_eq_true, decide_eq_true_eq, decide_eq_true_eq] at h4; exact h4
    clear h1 h3 h4 h5 hN hC hC' hN1 hN2 hle hbd
    go_enter Try.func16, Try.ntmps16
    go_wp2_with (first | (go_at_call 41; refine (ruleB_spec_r a b c true H1.out _).mono ?_; rintro e w1 ⟨rfl, hb⟩; have hz1 := hb.size; have K1 := Lib.hid (bk_below K0.out hb (bk_lt K0.out)); have R1 := Lib.hid (R0.out.below hb (by simp; omega)); have B1 := Lib.hid (B0.out.trans (hb.mono (by simp))); obtain ⟨q0, q1, q2, qf, qs⟩ := bk3 K1.out; clear hb))
    clear q0 q1 q2 qf qs
    go_loop [8] (fun i => ∃ k : Nat, k ≤ G.length ∧ i = .int .i64 k) (fun i => G.length - (intOf i).toNat)
    case atStart => exact ⟨0, Nat.zero_le _, rfl⟩
    case round =>
      obtain ⟨k, hk, rfl⟩ := hrel
      by_cases hlt : k < G.length
      · have ht := List.getElem?_eq_getElem hlt
        generalize G[k] = l at ht
        have hl := HG.out l (List.mem_of_getElem? ht)
        obtain ⟨bb, o, A', c', rfl, hbb, c0, hrl⟩ := R1.out.at ht
        have hj0 : (0 : Int) ≤ (k : Int) := by omega
        have hj1 : (k : Int) < (G.length : Int) := by omega
        have h24 := List.any_eq_false.1 H3.out l (List.mem_of_getElem? ht)
        have hd2 : decide ((24 : Int) < (l.length : Int)) = false := decide_eq_false (by simp at h24; omega)
        clear h24 ht hrl
        go_wp2
        go_round
        case rel => exact ⟨k + 1, by omega, by go_num⟩
        case measure => simp [intOf]; omega
      · have hk' : k = G.length := by omega
        subst hk'
        go_wp2_with fail
        go_loopw [9] (fun i wr => ∃ k : Nat, k ≤ G.length ∧ i = .int .i64 k ∧ Bk wr w.heap.size #[.int .i64 a, .int .i64 b, .int .i64 c] ∧ RdG wr B A G ∧ Below w.heap.size w wr ∧ w1.heap.size ≤ wr.heap.size) (fun i _ => G.length - (intOf i).toNat)
        case atStart => exact ⟨0, Nat.zero_le _, rfl, K1.out, R1.out, B1.out, Nat.le_refl _⟩
        case round =>
          obtain ⟨k, hk, rfl, hK, hRG, hBw, hsw⟩ := hrel
          have HK := Lib.hid hK
          have HRG := Lib.hid hRG
          have HB := Lib.hid hBw
          have hsz := hBw.size
          by_cases hlt : k < G.length
          · have ht := List.getElem?_eq_getElem hlt
            generalize G[k] = l at ht
            have hl := HG.out l (List.mem_of_getElem? ht)
            obtain ⟨bb, o, A', c', rfl, hbb, c0, hrl⟩ := hRG.at ht
            obtain ⟨q0, q1, q2, qf, qs⟩ := bk3 hK
            have Hrl := Lib.hid hrl
            have hj0 : (0 : Int) ≤ (k : Int) := by omega
            have hj1 : (k : Int) < (G.length : Int) := by omega
            have hbz : bb < wr.heap.size := by omega
            have h0 := List.any_eq_false.1 H5.out l (List.mem_of_getElem? ht)
            have Hh := Lib.hid (show hcode a b c l = 0 by simpa using h0)
            clear ht hrl hK hRG hBw h0
            go_wp2_with fail
            refine wp_region_cls (S := Below wr.heap.size wr) (by kernel_rfl) (by kernel_rfl) (below_drew1 _ _) ?_
            replace q0 := cls_cell q0 qs
            replace q1 := cls_cell q1 qs
            replace q2 := cls_cell q2 qs
            replace c0 := cls_cell c0 hbz
            repeat (go_big_quiet_step ((go_at_call 31; exact cls_call (Nat.le_refl _) (hcode_spec_r a b c l 0 Hh.out A' B c' _ (cls_rd _ Hrl.out (by omega)) (cls_le _ (by omega)) hl))))
            refine wpQuiet_nil ?_
            rintro _ ⟨⟨w5, bw5⟩, rfl⟩
            (try dsimp only)
            go_wp2
            go_roundw
            case rel => exact ⟨k + 1, by omega, by go_num, bk_below HK.out bw5 qs, HRG.out.below bw5 (by omega), HB.out.trans (bw5.mono hsz), by have := bw5.size; omega⟩
            case measure => simp [intOf]; omega
          · have hk' : k = G.length := by omega
            subst hk'
            clear hK hRG hBw
            go_wp2_with (go_at_call 32; refine (l01In_r' _ _ _ true H4.out _).mono ?_; rintro e w' ⟨rfl, rfl⟩)
            generalize hWo : wr = wo at *
            clear hWo wr
            go_loopw [10, 11, 12] (fun t d i wr => ∃ k : Nat, k ≤ G.length ∧ i = .int .i64 k ∧ t = .int .i64 (preS (needsG a b c G) k) ∧ d = .int .i64 (outG (needsG a b c G) n k : Nat) ∧ (∀ j x, j < k → G[j]? = some x → rowC a b c x = 0) ∧ Bk wr w.heap.size #[.int .i64 a, .int .i64 b, .int .i64 c] ∧ RdG wr B A G ∧ Below w.heap.size w wr) (fun _ _ i _ => G.length - (intOf i).toNat)
            case atStart => exact ⟨0, Nat.zero_le _, rfl, rfl, rfl, fun j x hj => absurd hj (Nat.not_lt_zero _), HK.out, HRG.out, HB.out⟩
            case round =>
              clear HK HRG HB hsz hsw
              obtain ⟨k, hk, rfl, rfl, rfl, hall, hK, hRG, hB'⟩ := hrel
              have HRG := Lib.hid hRG
              have Hall := Lib.hid hall
              have HK := Lib.hid hK
              have HB := Lib.hid hB'
              have hsz := hB'.size
              have hb1 := Hbd.out k
              have ho1 := hol.out k
              by_cases hlt : k < G.length
              · have ht := List.getElem?_eq_getElem hlt
                generalize G[k] = l at ht
                have hl24 := Hle.out l (List.mem_of_getElem? ht)
                have hna := needsG_at (a := a) (b := b) (c := c) ht
                have hps : preS (needsG a b c G) (k + 1) = preS (needsG a b c G) k + rowN a b c l := by rw [preS, hna]
                have hos : outG (needsG a b c G) n (k + 1) = if preS (needsG a b c G) (k + 1) ≤ n then k + 1 else outG (needsG a b c G) n k := rfl
                rw [hps] at hos
                have hrb := rowN_bd a b c l
                have hbd2 := Lib.hid (fun hr : rowC a b c l ≠ 0 => hbad.out k l ht hall hr)
                have hstep := Lib.hid (fun (h0 : rowC a b c l = 0) => show ∀ j x, j < k + 1 → G[j]? = some x → rowC a b c x = 0 from fun j x hj hx => by
                  rcases Nat.lt_succ_iff_lt_or_eq.1 hj with h | rfl
                  · exact hall j x h hx
                  · have := ht.symm.trans hx
                    injection this with this
                    rw [← this]; exact h0)
                obtain ⟨bb, o, A', c', rfl, hbb, c0, hrl⟩ := hRG.at ht
                have Hrl := Lib.hid hrl
                obtain ⟨q0, q1, q2, qf, qs⟩ := bk3 hK
                have hj0 : (0 : Int) ≤ (k : Int) := by omega
                have hj1 : (k : Int) < (G.length : Int) := by omega
                have hbz : bb < wr.heap.size := by omega
                have hrb2 : 0 ≤ rowN a b c l ∧ rowN a b c l ≤ 24 := by omega
                obtain ⟨q, hq⟩ : ∃ q, rowN a b c l = q := ⟨_, rfl⟩
                obtain ⟨r, hr⟩ : ∃ r, rowC a b c l = r := ⟨_, rfl⟩
                have Hq := Lib.hid hq
                have Hr := Lib.hid hr
                rw [hq] at hps hos hrb2
                have Hps := Lib.hid hps
                have Hos := Lib.hid hos
                clear ht hna hall hK hRG hB' hrl hrb hps hos hq
                by_cases hr0 : r = 0
                rotate_left
                · obtain ⟨e1, e2⟩ := hbd2.out (by rw [hr]; exact hr0)
                  rw [hr] at e2
                  have hne : (r != 0) = true := by rw [bne_iff_ne]; exact hr0
                  have heq : (r == 0) = false := by rw [beq_eq_false_iff_ne]; exact hr0
                  subst e1 e2
                  clear Hps Hos hbd2 hstep hr hr0
                  go_wp2_with fail
                  refine wp_region_cls (S := Below wr.heap.size wr) (by kernel_rfl) (by kernel_rfl) (below_drew1 _ _) ?_
                  replace q0 := cls_cell q0 qs
                  replace q1 := cls_cell q1 qs
                  replace q2 := cls_cell q2 qs
                  replace c0 := cls_cell c0 hbz
                  repeat (go_big_quiet_step ((go_at_call 33; exact cls_call (Nat.le_refl _) (rows_spec_r a b c l q _ Hq.out Hr.out A' B c' _ (cls_rd _ Hrl.out (by omega)) (cls_le _ (by omega)) (by omega)))))
                  refine wpQuiet_nil ?_
                  rintro _ ⟨⟨w5, bw5⟩, rfl⟩
                  (try dsimp only)
                  go_wp2
                  go_ret2
                  exact ⟨rfl, HB.out.trans (bw5.mono hsz)⟩
                · subst hr0
                  have Hst := Lib.hid (hstep.out hr)
                  clear hbd2 hstep hr
                  generalize hP : preS (needsG a b c G) k = P at *
                  generalize hO : outG (needsG a b c G) n k = O at *
                  by_cases hc : P + q ≤ n
                  · have Ho := Lib.hid (Hos.out.trans (if_pos hc))
                    clear hP hO Hos
                    go_wp2_with fail
                    refine wp_region_cls (S := Below wr.heap.size wr) (by kernel_rfl) (by kernel_rfl) (below_drew1 _ _) ?_
                    replace q0 := cls_cell q0 qs
                    replace q1 := cls_cell q1 qs
                    replace q2 := cls_cell q2 qs
                    replace c0 := cls_cell c0 hbz
                    repeat (go_big_quiet_step ((go_at_call 33; exact cls_call (Nat.le_refl _) (rows_spec_r a b c l q 0 Hq.out Hr.out A' B c' _ (cls_rd _ Hrl.out (by omega)) (cls_le _ (by omega)) (by omega)))))
                    refine wpQuiet_nil ?_
                    rintro _ ⟨⟨w5, bw5⟩, rfl⟩
                    (try dsimp only)
                    go_wp2
                    go_roundw
                    case rel => exact ⟨k + 1, by omega, by go_num, vint Hps.out.symm, by rw [Ho.out]; go_num, Hst.out, bk_below HK.out bw5 qs, HRG.out.below bw5 (by omega), HB.out.trans (bw5.mono hsz)⟩
                    case measure => simp [intOf]; omega
                  · have Ho := Lib.hid (Hos.out.trans (if_neg hc))
                    clear hP hO Hos
                    go_wp2_with fail
                    refine wp_region_cls (S := Below wr.heap.size wr) (by kernel_rfl) (by kernel_rfl) (below_drew1 _ _) ?_
                    replace q0 := cls_cell q0 qs
                    replace q1 := cls_cell q1 qs
                    replace q2 := cls_cell q2 qs
                    replace c0 := cls_cell c0 hbz
                    repeat (go_big_quiet_step ((go_at_call 33; exact cls_call (Nat.le_refl _) (rows_spec_r a b c l q 0 Hq.out Hr.out A' B c' _ (cls_rd _ Hrl.out (by omega)) (cls_le _ (by omega)) (by omega)))))
                    refine wpQuiet_nil ?_
                    rintro _ ⟨⟨w5, bw5⟩, rfl⟩
                    (try dsimp only)
                    go_wp2
                    go_roundw
                    case rel => exact ⟨k + 1, by omega, by go_num, vint Hps.out.symm, by rw [Ho.out], Hst.out, bk_below HK.out bw5 qs, HRG.out.below bw5 (by omega), HB.out.trans (bw5.mono hsz)⟩
                    case measure => simp [intOf]; omega
              · have hk' : k = G.length := by omega
                subst hk'
                obtain ⟨e1, e2⟩ := hgood.out Hall.out
                obtain ⟨O, hO⟩ : ∃ O : Nat, outG (needsG a b c G) n G.length = O := ⟨_, rfl⟩
                rw [hO] at e1 ⊢
                subst e1 e2
                clear hall hK hRG hB' hO
                go_wp2
                go_ret2
                exact ⟨rfl, HB.out⟩
end Go.Proofs.Ytdjbbjehgfkefaa
