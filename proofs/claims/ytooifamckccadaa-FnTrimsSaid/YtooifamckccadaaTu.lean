/- The draw of the law on trims: layouts with many brakes. -/
import Derived.Test.YtooifamckccadaaDm
import Derived.Test.YtooifamckccadaaLy2
import Derived.Deep.DeepCutAuto
namespace Go.Proofs.Ytooifamckccadaa
open Go.ChangeShapes Go.WideShapes Go.ChangeAt Go.RowKit
set_option maxRecDepth 20000
set_option linter.unusedVariables false
set_option linter.unusedSimpArgs false
theorem flat_oneT (l : List Seg) : ∀ u ∈ l.flatMap eSegment, u.oneCell' = true := by
  intro u hu
  rw [List.mem_flatMap] at hu
  obtain ⟨t, _, h⟩ := hu
  exact eSeg_one t u h
def OwnP (l : List Seg) (w : World) (e : Ending) (w' : World) : Prop :=
  ∃ (A : Option Addr) (c : Nat), e = .returned (.agg #[.slice A l.length c]) ∧ w'.ownsRow w.heap.size 39 7 (.slice A l.length c) l.length (l.flatMap eSegment) ∧ Below w.heap.size w w'
set_option maxHeartbeats 2000000 in
theorem l03Own_any (l : List Seg) (hl : l.length ≤ 25) (A : Option Addr) (B c : Nat) (w : World) (hr : Rd w B A (l.flatMap eSegment)) (hB : B ≤ w.heap.size) :
   Calls Try.prog 161 #[.agg #[.slice A l.length c]] w (OwnP l w) := by
  obtain ⟨i0, hi0, hz0, hz1, hz2⟩ := info_parts infoSegment
  have k0 := (bk_alloc (bk_new (w.alloc (.cells #[.slice A l.length c] 26)) #[.slice none 0 0] 26) (.cells #[] 39))
  simp only [World.size_alloc] at k0
  have K0 := Lib.hid k0
  clear k0
  have R0 := Lib.hid (((hr.alloc hB (.cells #[.slice A l.length c] 26)).alloc (by simp; omega) (.cells #[.slice none 0 0] 26)).alloc (by simp; omega) (.cells #[] 39))
  have o0 := (World.ownsRow_made (base := w.heap.size + 2) (e := 39) (size := 7) ((w.alloc (.cells #[.slice A l.length c] 26)).alloc (.cells #[.slice none 0 0] 26)) #[] 0 (by simp) (by simp [maxLen]) rfl)
  simp only [World.size_alloc] at o0
  have O0 := Lib.hid o0
  clear o0
  have B0 := Lib.hid ((((Below.refl w.heap.size w).alloc (Nat.le_refl _) (.cells #[.slice A l.length c] 26)).alloc (by simp) (.cells #[.slice none 0 0] 26)).alloc (by simp; omega) (.cells #[] 39))
  have hfl := Lib.hid (flat7_len l)
  clear hr
  go_enter Try.func161, Try.ntmps161
  go_wp2_with (at_builtin; refine wpList_append_rd rfl (.tmp 3) (.tmp 5) 24 rfl (w.heap.size + 2) 39 i0 _ 7 56 Try.underlying24 hi0 hz0 hz1 hz2 rfl (by decide) _ 0 [] rfl O0.out B A l.length c (l.flatMap eSegment) rfl hfl.out R0.out (flat_oneT l) (by unfold maxLen; omega) (by omega) (by simp) ?_; intro v5 w5 own5 hb5 hz5; rw [Nat.zero_add, List.nil_append] at own5; obtain ⟨A5, c5, rfl⟩ := own_val own5; have O5 := Lib.hid own5; have K5 := Lib.hid (bk_below K0.out hb5 (by simp)); have B5 := Lib.hid (B0.out.trans (hb5.mono (by omega))); clear own5 hb5 hz5 O0 K0 B0 R0; obtain ⟨s0, sf, ss⟩ := bk1 K5.out)
  (try simp only [Exit.inBlock, Exit.then])
  (try simp only [Exit.inBlock, Exit.then])
  refine ret_lay rfl rfl rfl (bk_set K5.out 0 _ _ rfl) ⟨_, _, _, rfl⟩ ?_
  have e1 : ∀ q, (Value.slice A5 l.length c5).ownBlock = some q → w.heap.size + 2 ≤ q := fun q hq => (own_lt O5.out q hq).1
  exact ⟨A5, c5, rfl, own_more (own_set O5.out (fun q => by have := e1 _ q; omega) 0 _) (by omega), B5.out.setCell (show w.heap.size ≤ w.heap.size + 1 by omega) _⟩
/-- the state of the draw: the layout is boxed in block bb -/
def LD (w0 : World) (g B : Nat) (C : Option Addr) (cap : Nat) (bl : List Int) (bb : Nat) (wx : World) : Prop :=
  ∃ (l : List Seg) (A : Option Addr) (c : Nat), l.length ≤ 25 ∧ wx.ownsRow (w0.heap.size + 1) 39 7 (.slice A l.length c) l.length (l.flatMap eSegment) ∧ Bk wx bb #[.slice A l.length c] ∧ Bk wx w0.heap.size #[.slice none 0 0] ∧ DS w0 wx g B C cap bl ∧ (∀ q, (Value.slice A l.length c).ownBlock = some q → q ≠ bb)
/-- the same in the loop: the layout's slice stays, its segments may change -/
def LL (w0 : World) (g B : Nat) (C : Option Addr) (cap : Nat) (bl : List Int) (bb : Nat) (A : Option Addr) (N c : Nat) (wx : World) : Prop :=
  ∃ L : List Seg, L.length = N ∧ wx.ownsRow (w0.heap.size + 1) 39 7 (.slice A N c) N (L.flatMap eSegment) ∧ Bk wx bb #[.slice A N c] ∧ Bk wx w0.heap.size #[.slice none 0 0] ∧ DS w0 wx g B C cap bl
set_option maxHeartbeats 4000000 in
theorem l09Draw_any (w0 : World) (g B : Nat) (C : Option Addr) (cap : Nat) (bl : List Int) (h : DS w0 w0 g B C cap bl) :
   Calls Try.prog 115 #[.pointer (some ⟨g, 0, none⟩)] w0 (RunP w0 g B C cap bl) := by
  have hg0 := h.size.2
  have H := Lib.hid (h.alloc (.cells #[.slice none 0 0] 26))
  have K0 := Lib.hid (bk_new w0 #[.slice none 0 0] 26)
  clear h
  go_enter Try.func115, Try.ntmps115
  go_wp2_with fail
  refine (l06DrawRun_any _ g B C cap bl H.out.again).mono ?_
  rintro e w1 ⟨l, A, c, f, n, rfl, hl, o1, d1⟩
  have O1 := Lib.hid (own_more o1 (show w0.heap.size + 1 ≤ (w0.alloc (.cells #[.slice none 0 0] 26)).heap.size + 1 by simp))
  have K1 := Lib.hid (bk_keep K0.out d1.2.2.1 hg0)
  have D1 := Lib.hid (H.out.join d1)
  have hz1 := bk_lt K1.out
  have E1 := Lib.hid (fun q hq => (own_lt O1.out q hq).2)
  clear o1 d1 K0 H
  have O2 := Lib.hid (O1.out.alloc (.cells #[.slice A l.length c] 26))
  have K2 := Lib.hid (bk_alloc K1.out (.cells #[.slice A l.length c] 26))
  have L2 := Lib.hid (bk_new w1 #[.slice A l.length c] 26)
  have D2 := Lib.hid (D1.out.alloc (.cells #[.slice A l.length c] 26))
  have E2 := Lib.hid (show ∀ q, (Value.slice A l.length c).ownBlock = some q → q ≠ w1.heap.size from fun q hq => by have := E1.out q hq; omega)
  clear O1 K1 D1 E1
  go_upto_region 2 with fail
  have hzW : w1.heap.size < (w1.alloc (.cells #[.slice A l.length c] 26)).heap.size := by simp
  generalize hW : w1.alloc (.cells #[.slice A l.length c] 26) = W at *
  clear hW
  have hne : w1.heap.size ≠ w0.heap.size := by omega
  have hne2 : w0.heap.size ≠ w1.heap.size := by omega
  have hgb : g < w1.heap.size := by omega
  have hb0 : w0.heap.size < w1.heap.size := hz1
  generalize w1.heap.size = bb at *
  clear hz1 w1
  go_cut [28] (fun v wx => ∃ q : Bool, v = .bool q ∧ LD w0 g B C cap bl bb wx)
  case first =>
    obtain ⟨s0, sf, ss⟩ := bk1 L2.out
    by_cases h3 : 3 < l.length
    · have hd : decide ((3 : Int) < (l.length : Int)) = true := by simp; omega
      have HL := Lib.hid (isLayout_spec l A _ c W (Rd.of_own O2.out) (Nat.le_refl _) (by omega))
      go_wp2_with fail
      refine HL.out.mono ?_
      rintro e w3 ⟨rfl, b3⟩
      have O3 := Lib.hid (own_below O2.out b3)
      have K3 := Lib.hid (bk_below K2.out b3 (by omega))
      have L3 := Lib.hid (bk_below L2.out b3 (by omega))
      have D3 := Lib.hid (D2.out.below (b3.mono D2.out.size.1))
      clear HL b3 O2 K2 L2 D2 s0 sf ss
      generalize layB l = q
      cases q with
      | false =>
        go_wp2
        go_meet
        exact ⟨_, rfl, l, A, c, hl, O3.out, L3.out, K3.out, D3.out, E2.out⟩
      | true =>
        go_wp2_with fail
        refine (next_ds D3.out 3).mono ?_
        rintro e w4 ⟨z, rfl, z0, z1, d4, g4⟩
        have O4 := Lib.hid (DS.own O3.out g4 (by omega))
        have K4 := Lib.hid (bk_keep K3.out g4 hg0)
        have L4 := Lib.hid (bk_keep L3.out g4 hgb)
        go_wp2
        all_goals go_meet
        all_goals exact ⟨_, rfl, l, A, c, hl, O4.out, L4.out, K4.out, d4, E2.out⟩
    · have hd : decide ((3 : Int) < (l.length : Int)) = false := by simp; omega
      go_wp2
      go_meet
      exact ⟨_, rfl, l, A, c, hl, O2.out, L2.out, K2.out, D2.out, E2.out⟩
  case rest =>
    clear O2 K2 L2 D2 E2 hl hzW
    obtain ⟨q, rfl, l, A, c, hl, ho, hb, hk, hd, he⟩ := hcut
    have O2 := Lib.hid ho
    have L2 := Lib.hid hb
    have K2 := Lib.hid hk
    have D2 := Lib.hid hd
    have E2 := Lib.hid he
    clear ho hb hk hd he
    go_upto_if 28 with fail
    go_cut [] (fun wx => LD w0 g B C cap bl bb wx)
    case first =>
      cases q with
      | false =>
        go_wp2
        go_meet
        exact ⟨l, A, c, hl, O2.out, L2.out, K2.out, D2.out, E2.out⟩
      | true =>
        obtain ⟨s0, sf, ss⟩ := bk1 L2.out
        have hzc := D2.out.size.1
        have hbc := bk_lt L2.out
        go_wp2_with fail
        refine (l03Own_any l hl A _ c _ (Rd.of_own O2.out) (Nat.le_refl _)).mono ?_
        rintro e w3 ⟨A3, c3, rfl, o3, b3⟩
        have E3 := Lib.hid (fun q hq => (own_lt o3 q hq).1)
        have O3 := Lib.hid (own_more o3 (show w0.heap.size + 1 ≤ wc.heap.size by omega))
        have K3 := Lib.hid (bk_below K2.out b3 (by omega))
        have L3 := Lib.hid (bk_below L2.out b3 (by omega))
        have D3 := Lib.hid (D2.out.below (b3.mono hzc))
        clear o3 b3 O2 K2 L2 D2 E2 s0 sf ss
        have E4 : Hid (∀ q, (Value.slice A3 l.length c3).ownBlock = some q → q ≠ bb) := Lib.hid (fun q hq => by have := E3.out q hq; omega)
        have O4 := Lib.hid (own_set O3.out (fun q => E4.out _ q rfl) 0 (.slice A3 l.length c3))
        have L4 := Lib.hid (bk_set L3.out 0 (.slice A3 l.length c3) _ rfl)
        have K4 := Lib.hid (bk_other K3.out hne 0 (.slice A3 l.length c3))
        have D4 := Lib.hid (D3.out.set (show w0.heap.size ≤ bb by omega) 0 (.slice A3 l.length c3))
        obtain ⟨s0, sf, ss⟩ := bk1 L3.out
        clear O3 L3 K3 D3 E3
        go_wp2_with fail
        have hL0 : LL w0 g B C cap bl bb A3 l.length c3 (w3.setCell ⟨bb, 0, none⟩ (.slice A3 l.length c3)) := ⟨l, rfl, O4.out, L4.out, K4.out, D4.out⟩
        have HL0 := Lib.hid hL0
        clear hL0 O4 L4 K4 D4
        generalize l.length = N at *
        go_loopw [8, 9] (fun kv xv wr => ∃ k : Nat, k ≤ N ∧ kv = .int .i64 k ∧ LL w0 g B C cap bl bb A3 N c3 wr) (fun kv _ _ => N - (intOf kv).toNat)
        case atStart => exact ⟨0, Nat.zero_le _, rfl, HL0.out⟩
        case round =>
          clear HL0 s0 sf ss
          obtain ⟨k, hk, rfl, L, hLn, ho, hb, hkk, hd⟩ := hrel
          have Hn := Lib.hid hLn
          have Ho := Lib.hid ho
          have Hb := Lib.hid hb
          have Hk := Lib.hid hkk
          have Hd := Lib.hid hd
          clear hLn ho hkk hd
          obtain ⟨s0, sf, ss⟩ := bk1 hb
          clear hb
          by_cases hlt : k + 2 < N
          · go_wp2_with fail
            refine (next_ds Hd.out 2).mono ?_
            rintro e w5 ⟨z, rfl, z0, z1, d5, g5⟩
            have O5 := Lib.hid (DS.own Ho.out g5 (by omega))
            have K5 := Lib.hid (bk_keep Hk.out g5 hg0)
            have L5 := Lib.hid (bk_keep Hb.out g5 hgb)
            have D5 := Lib.hid d5
            clear d5 g5 Ho Hk Hb Hd s0 sf ss z1
            obtain ⟨s0, sf, ss⟩ := bk1 L5.out
            by_cases hz : z = 0
            · subst hz
              have hkl : k < L.length := by have := Hn.out; omega
              have ht := List.getElem?_eq_getElem hkl
              generalize L[k] = t at ht
              obtain ⟨gb, rfl, hgb1, hgb2⟩ := own_form O5.out (by omega)
              obtain ⟨b, o, hA, hbb, c0, c1, c2, c3', c4, c5, c6⟩ := (Rd.of_own O5.out).atSegment ht
              injection hA with hA
              injection hA with hA1 hA2
              subst hA1 hA2
              simp only [Nat.zero_add] at c0 c1 c2 c3' c4 c5 c6
              have hi0 : (0 : Int) ≤ (k : Int) := by omega
              have hi1 : (k : Int) < (N : Int) := by omega
              clear ht hkl hbb
              go_wp2_with fail
              obtain ⟨t0, t1, t2, t3, t4, t5, t6⟩ := t
              refine (l03DrawInterval_any _ g B C cap bl 200 3000 (D5.out.alloc (.cells #[.int .i64 3, .int .i64 t1, .int .i64 t2, .int .i64 t3, .int .i64 t4, .int .i64 t5, .int .i64 t6] 39)).again).mono ?_
              rintro e w6 ⟨xl, xh, rfl, d6⟩
              have hz5 := D5.out.size.1
              have X6 := Lib.hid (bk_keep (bk_new w5 #[.int .i64 3, .int .i64 t1, .int .i64 t2, .int .i64 t3, .int .i64 t4, .int .i64 t5, .int .i64 t6] 39) d6.2.2.1 (by omega))
              have O6 := Lib.hid (DS.own (O5.out.alloc (.cells #[.int .i64 3, .int .i64 t1, .int .i64 t2, .int .i64 t3, .int .i64 t4, .int .i64 t5, .int .i64 t6] 39)) d6.2.2.1 (by omega))
              have K6 := Lib.hid (bk_keep (bk_alloc K5.out (.cells #[.int .i64 3, .int .i64 t1, .int .i64 t2, .int .i64 t3, .int .i64 t4, .int .i64 t5, .int .i64 t6] 39)) d6.2.2.1 hg0)
              have L6 := Lib.hid (bk_keep (bk_alloc L5.out (.cells #[.int .i64 3, .int .i64 t1, .int .i64 t2, .int .i64 t3, .int .i64 t4, .int .i64 t5, .int .i64 t6] 39)) d6.2.2.1 hgb)
              have D6 := Lib.hid ((D5.out.alloc (.cells #[.int .i64 3, .int .i64 t1, .int .i64 t2, .int .i64 t3, .int .i64 t4, .int .i64 t5, .int .i64 t6] 39)).join d6)
              have hx0 : w0.heap.size < w5.heap.size := by omega
              clear d6 O5 K5 L5 D5 s0 sf c0 c1 c2 c3' c4 c5 c6
              generalize w5.heap.size = xb at *
              clear w5
              have hxb : xb ≠ bb := by omega
              have hxw : xb ≠ w0.heap.size := by omega
              have X7 := Lib.hid (bk_set (bk_set X6.out 5 (.int .i64 xl) _ rfl) 6 (.int .i64 xh) _ rfl)
              have hgx : (Value.slice (some ⟨gb, 0, none⟩) N c3).ownBlock ≠ some xb := fun q => by have q2 : gb = xb := Option.some.inj q; omega
              have O7 := Lib.hid (own_set (own_set O6.out hgx 5 (.int .i64 xl)) hgx 6 (.int .i64 xh))
              have K7 := Lib.hid (bk_other (bk_other K6.out hxw 5 (.int .i64 xl)) hxw 6 (.int .i64 xh))
              have L7 := Lib.hid (bk_other (bk_other L6.out hxb 5 (.int .i64 xl)) hxb 6 (.int .i64 xh))
              have D7 := Lib.hid ((D6.out.set (show w0.heap.size ≤ xb by omega) 5 (.int .i64 xl)).set (show w0.heap.size ≤ xb by omega) 6 (.int .i64 xh))
              obtain ⟨q0, q1, q2, q3, q4, q5, q6, qf, qs⟩ := bk7 X6.out
              go_upto_region 11 with fail
              have X8 : Hid (Bk ((w6.setCell ⟨xb, 5, none⟩ (.int .i64 xl)).setCell ⟨xb, 6, none⟩ (.int .i64 xh)) xb #[.int .i64 3, .int .i64 t1, .int .i64 t2, .int .i64 t3, .int .i64 t4, .int .i64 xl, .int .i64 xh]) := X7
              clear X7 q0 q1 q2 q3 q4 q5 q6 qf qs X6 O6 K6 L6 D6
              generalize (w6.setCell ⟨xb, 5, none⟩ (.int .i64 xl)).setCell ⟨xb, 6, none⟩ (.int .i64 xh) = w7 at *
              obtain ⟨s0, sf, ss7⟩ := bk1 L7.out
              obtain ⟨q0, q1, q2, q3, q4, q5, q6, qf, qs⟩ := bk7 X8.out
              have hkN : k < N := by omega
              have hgb3 : gb ≠ bb := by have := E4.out gb rfl; exact this
              go_wp2_with ((with_reducible show Go.wpList _ _ _ _ _ _); refine wpList_store_seg rfl (.tmp 55) (.tmp 54) rfl _ gb c3 _ L O7.out k hkN (3, t1, t2, t3, t4, xl, xh) (by rfl) (by rfl) Hn.out ?_; intro w9 o9 b9 k9; have O9 := Lib.hid o9; have K9 := Lib.hid (k9 w0.heap.size _ (show gb ≠ w0.heap.size by omega) K7.out); have L9 := Lib.hid (k9 bb _ hgb3 L7.out); have D9 := Lib.hid (D7.out.below (b9 _ (show w0.heap.size ≤ gb by omega))); clear o9 b9 k9)
              go_roundw
              case rel => exact ⟨k + 1, by omega, by go_num, L.set k (3, t1, t2, t3, t4, xl, xh), by rw [List.length_set]; exact Hn.out, O9.out, L9.out, K9.out, D9.out⟩
              case measure => simp [intOf]; omega
            · have hzf : (z == 0) = false := by simpa using hz
              go_wp2
              go_roundw
              case rel => exact ⟨k + 1, by omega, by go_num, L, Hn.out, O5.out, L5.out, K5.out, D5.out⟩
              case measure => simp [intOf]; omega
          · go_wp2
            go_meet
            have hn := Hn.out
            subst hn
            exact ⟨L, A3, c3, hl, Ho.out, Hb.out, Hk.out, Hd.out, E4.out⟩
    case rest =>
      clear O2 L2 K2 D2 E2 hl
      obtain ⟨l, A, c, hl, ho, hb, hk, hd, he⟩ := hcut
      have O3 := Lib.hid ho
      have L3 := Lib.hid hb
      have K3 := Lib.hid hk
      have D3 := Lib.hid hd
      clear ho hb hk hd he
      obtain ⟨r0, rf, rs⟩ := bk1 K3.out
      obtain ⟨s0, sf, ss⟩ := bk1 L3.out
      have Fin : Hid (∀ (w' : World) (m : Int), w'.ownsRow (w0.heap.size + 1) 39 7 (.slice A l.length c) l.length (l.flatMap eSegment) → DS w0 w' g B C cap bl → RunP w0 g B C cap bl (.returned (.tuple #[.agg #[.slice A l.length c], .int .i64 f, .int .i64 m])) (w'.setCell ⟨w0.heap.size, 0, none⟩ (.slice A l.length c))) := Lib.hid (fun w' m h2 h3 => ⟨l, A, c, f, m, rfl, hl, own_set h2 (fun e => by have := (own_lt h2 _ e).1; omega) 0 _, h3.set (Nat.le_refl _) 0 _⟩)
      go_wp2_with fail
      go_region_held3 (fun w' => w'.cell? ⟨bb, 0, none⟩ = some (.slice A l.length c)) (first | assumption | (simp [*, World.cell?_alloc_past, World.cell?_setCell_far])) (first | (go_at_call 117; refine (next_ds D3.out.drew 30).mono ?_; rintro e w9 ⟨z, rfl, n0', n1', d9, g9⟩; have g9' : wc.grownBy w9 (some g) := (by exact ⟨g9.os, g9.tape, g9.output, g9.size, g9.block⟩); have O9 := Lib.hid (DS.own O3.out g9' (by omega)); have K9 := Lib.hid (bk_keep K3.out g9' hg0); have L9 := Lib.hid (bk_keep L3.out g9' hgb); have D9 := Lib.hid d9; clear d9 g9 g9' n0' n1'; obtain ⟨r0, rf, rs⟩ := bk1 K9.out; obtain ⟨s0, sf, ss⟩ := bk1 L9.out))
      all_goals (
        go_wp2
        all_goals (
          (try simp only [Exit.inBlock, Exit.then])
          refine ret_run rfl rfl rfl rfl rfl (bk_set K9.out 0 _ _ rfl) ⟨_, _, _, rfl⟩ ?_
          exact Fin.out _ _ O9.out D9.out))
end Go.Proofs.Ytooifamckccadaa
namespace Go.Proofs.Ytooifamckccadaa
open Go.ChangeShapes Go.WideShapes Go.ChangeAt Go.RowKit
set_option maxRecDepth 20000
set_option linter.unusedVariables false
set_option linter.unusedSimpArgs false
theorem bk_away {w w' : World} {g b : Nat} {cs : Array Value} (h : Bk w b cs) (hg : w.grownBy w' (some g)) (hne : b ≠ g) : Bk w' b cs := by
  obtain ⟨t, e⟩ := h
  exact ⟨t, (hg.block b (bk_lt ⟨t, e⟩) (fun e => by injection e with e; exact hne e)).trans e⟩
def LbD (w0 : World) (e : Ending) (w' : World) : Prop :=
  ∃ (l : List Seg) (A : Option Addr) (c : Nat) (f n x y m : Int), e = .returned (.tuple #[.agg #[.slice A l.length c], .int .i64 f, .int .i64 n, .agg #[.int .i64 x, .int .i64 y], .int .i64 m]) ∧ l.length ≤ 25 ∧ Rd w' w'.heap.size A (l.flatMap eSegment) ∧ Below w0.heap.size w0 w'
theorem ret_lb {fn : Func} {t u v s p : Tmp} {a : Act} {w : World} {R : Ending → World → Prop} {b d : Nat} {A : Option Addr} {k c : Nat} {f n x y m : Int} (hres : fn.results = #[.cell t 26, .tmp u, .tmp v, .cell s 29, .tmp p]) (ha : a.tmps.getD t undef = .pointer (some ⟨b, 0, none⟩)) (hu : a.tmps.getD u undef = .int .i64 f) (hv : a.tmps.getD v undef = .int .i64 n) (hs : a.tmps.getD s undef = .pointer (some ⟨d, 0, none⟩)) (hp : a.tmps.getD p undef = .int .i64 m) (hd : a.defers = []) (h : Bk w b #[.slice A k c]) (h2 : Bk w d #[.int .i64 x, .int .i64 y]) (hR : R (.returned (.tuple #[.agg #[.slice A k c], .int .i64 f, .int .i64 n, .agg #[.int .i64 x, .int .i64 y], .int .i64 m])) w) : bodyPost Try.prog fn R .ret a w := by
  refine bodyPost_ret ?_ hd hR
  obtain ⟨c0, _, _⟩ := bk1 h
  obtain ⟨e0, e1, ef, es⟩ := bk2 h2
  simp only [Array.getD_eq_getD_getElem?] at ha hu hv hs hp
  simp [results, hres, ha, hu, hv, hs, hp, go_sem, *]
set_option maxHeartbeats 2000000 in
theorem drawLeast_any (bl : List Int) (hbl : isU8 bl) (hn : bl.length ≤ 4096) (C : Option Addr) (cap : Nat) (w0 : World) (hr : Rd w0 w0.heap.size C (bytesU bl)) :
   Calls Try.prog 41 #[.slice C bl.length cap] w0 (LbD w0) := by
  have hra := (hr.alloc (Nat.le_refl _) (.cells #[.slice none 0 0] 26)).alloc (by simp) (.cells #[.int .i64 0, .int .i64 0] 29)
  have HF : Hid (Calls Try.prog 73 #[.slice C bl.length cap] ((w0.alloc (.cells #[.slice none 0 0] 26)).alloc (.cells #[.int .i64 0, .int .i64 0] 29)) (fun e w' => ∃ g : Nat, w0.heap.size + 2 ≤ g ∧ e = .returned (.pointer (some ⟨g, 0, none⟩)) ∧ Src w' g C bl.length cap ∧ Below (w0.heap.size + 2) ((w0.alloc (.cells #[.slice none 0 0] 26)).alloc (.cells #[.int .i64 0, .int .i64 0] 29)) w' ∧ g < w'.heap.size)) := Lib.hid
    ((l01From_any bl hbl hn C w0.heap.size cap _ hra (by simp; omega)).mono fun e w' ⟨a, b, c, d⟩ => ⟨_, by simp, a, b, by simpa using c, d⟩)
  have Hr := Lib.hid hra
  have K0 := Lib.hid (bk_alloc (bk_new w0 #[.slice none 0 0] 26) (.cells #[.int .i64 0, .int .i64 0] 29))
  have I0 : Hid (Bk ((w0.alloc (.cells #[.slice none 0 0] 26)).alloc (.cells #[.int .i64 0, .int .i64 0] 29)) (w0.heap.size + 1) #[.int .i64 0, .int .i64 0]) := Lib.hid (by simpa using bk_new (w0.alloc (.cells #[.slice none 0 0] 26)) #[.int .i64 0, .int .i64 0] 29)
  have Ba := Lib.hid (((Below.refl w0.heap.size w0).alloc (Nat.le_refl _) (.cells #[.slice none 0 0] 26)).alloc (by simp) (.cells #[.int .i64 0, .int .i64 0] 29))
  have Hbl := Lib.hid hbl
  clear hr hbl hra
  go_enter Try.func41, Try.ntmps41
  go_wp2_with fail
  refine HF.out.mono ?_
  rintro e w1 ⟨g, hg, rfl, hs, hb, hz⟩
  have D1 := Lib.hid (DS.start (Hr.out.below hb (by omega)) hs (by omega) Hbl.out hn)
  have K1 := Lib.hid (bk_below K0.out hb (by omega))
  have I1 := Lib.hid (bk_below I0.out hb (by omega))
  have B1 := Lib.hid (Ba.out.trans (hb.mono (by omega)))
  clear hs HF Hr hb K0 I0 Ba
  go_wp2_with fail
  refine (l09Draw_any w1 g _ C cap bl D1.out).mono ?_
  rintro e w2 ⟨l, A, c, f, n, rfl, hl, ol, d2⟩
  have hne0 : w0.heap.size ≠ g := by omega
  have hne1 : w0.heap.size + 1 ≠ g := by omega
  have hne5 : w0.heap.size + 1 ≠ w0.heap.size := by omega
  have hne6 : w0.heap.size ≠ w0.heap.size + 1 := by omega
  have hz1 := bk_lt I1.out
  have z12 := d2.size.1
  have K2 := Lib.hid (bk_alloc (bk_away K1.out d2.2.2.1 hne0) (.cells #[.slice A l.length c] 26))
  have I2 := Lib.hid (bk_alloc (bk_away I1.out d2.2.2.1 hne1) (.cells #[.slice A l.length c] 26))
  have L2 := Lib.hid (bk_new w2 #[.slice A l.length c] 26)
  have O2 := Lib.hid (ol.alloc (.cells #[.slice A l.length c] 26))
  have D2 := Lib.hid (d2.alloc (.cells #[.slice A l.length c] 26))
  have E2 := Lib.hid (fun q hq => (own_lt ol q hq))
  clear ol d2 K1 I1 D1
  go_upto_region 3 with fail
  have hgb : g < w2.heap.size := by omega
  have hwb : w0.heap.size + 1 < w2.heap.size := by omega
  have hW2 : w2.heap.size < (w2.alloc (.cells #[.slice A l.length c] 26)).heap.size := by simp
  generalize hW : w2.alloc (.cells #[.slice A l.length c] 26) = W at *
  clear hW
  generalize w2.heap.size = bb at *
  clear w2
  have hb0 : bb ≠ w0.heap.size := by omega
  have hb1 : w0.heap.size ≠ bb := by omega
  have hb2 : bb ≠ w0.heap.size + 1 := by omega
  have hb3 : w0.heap.size + 1 ≠ bb := by omega
  obtain ⟨s0, sf, ss⟩ := bk1 L2.out
  go_wp2_with fail
  refine (l06Draw_any _ g _ C cap bl D2.out.again).mono ?_
  rintro e w3 ⟨x, y, rfl, d3⟩
  have K3 := Lib.hid (bk_alloc (bk_away K2.out d3.2.2.1 hne0) (.cells #[.int .i64 x, .int .i64 y] 29))
  have I3 := Lib.hid (bk_alloc (bk_away I2.out d3.2.2.1 hne1) (.cells #[.int .i64 x, .int .i64 y] 29))
  have L3 := Lib.hid (bk_alloc (bk_keep L2.out d3.2.2.1 hgb) (.cells #[.int .i64 x, .int .i64 y] 29))
  have M3 := Lib.hid (bk_new w3 #[.int .i64 x, .int .i64 y] 29)
  have O3 := Lib.hid ((DS.own O2.out d3.2.2.1 (by omega)).alloc (.cells #[.int .i64 x, .int .i64 y] 29))
  have D3 := Lib.hid ((D2.out.join d3).alloc (.cells #[.int .i64 x, .int .i64 y] 29))
  have hz3 := d3.size.1
  clear d3 K2 I2 L2 O2 D2 s0 sf
  go_upto_region 4 with fail
  have hW3 : w3.heap.size < (w3.alloc (.cells #[.int .i64 x, .int .i64 y] 29)).heap.size := by simp
  generalize hW : w3.alloc (.cells #[.int .i64 x, .int .i64 y] 29) = W3 at *
  clear hW
  have hbd : bb < w3.heap.size := by omega
  have hgd : g < w3.heap.size := by omega
  generalize w3.heap.size = dd at *
  clear w3
  have hd0 : dd ≠ w0.heap.size := by omega
  have hd1 : w0.heap.size ≠ dd := by omega
  have hd2 : dd ≠ w0.heap.size + 1 := by omega
  have hd3 : w0.heap.size + 1 ≠ dd := by omega
  have hd4 : dd ≠ bb := by omega
  have hd5 : bb ≠ dd := by omega
  go_wp2_with fail
  refine (next_ds D3.out 20).mono ?_
  rintro e w4 ⟨z, rfl, z0, z1, d4, g4⟩
  have K4 := Lib.hid (bk_away K3.out g4 hne0)
  have I4 := Lib.hid (bk_away I3.out g4 hne1)
  have L4 := Lib.hid (bk_keep L3.out g4 hgb)
  have M4 := Lib.hid (bk_keep M3.out g4 hgd)
  have O4 := Lib.hid (DS.own O3.out g4 (by omega))
  have D4 := Lib.hid d4
  clear d4 g4 K3 I3 L3 M3 O3 D3 z1
  have Fin : Hid (∀ (w' : World) (m : Int), w'.ownsRow (w1.heap.size + 1) 39 7 (.slice A l.length c) l.length (l.flatMap eSegment) → DS w1 w' g w0.heap.size C cap bl → LbD w0 (.returned (.tuple #[.agg #[.slice A l.length c], .int .i64 f, .int .i64 n, .agg #[.int .i64 x, .int .i64 y], .int .i64 m])) (((w'.setCell ⟨w0.heap.size, 0, none⟩ (.slice A l.length c)).setCell ⟨w0.heap.size + 1, 0, none⟩ (.int .i64 x)).setCell ⟨w0.heap.size + 1, 1, none⟩ (.int .i64 y))) := Lib.hid (fun w' m h2 h3 => by
    have e1 : ∀ q, (Value.slice A l.length c).ownBlock = some q → w1.heap.size + 1 ≤ q := fun q hq => (own_lt h2 q hq).1
    have B4 := B1.out.trans (below_of_grownBy (B := w0.heap.size) h3.2.2.1 (by omega) (fun k hk => by injection hk with hk; omega))
    exact ⟨l, A, c, f, n, x, y, m, rfl, hl,
      Rd.of_own (own_set (own_set (own_set h2 (fun q => by have := e1 _ q; omega) 0 _) (fun q => by have := e1 _ q; omega) 0 _) (fun q => by have := e1 _ q; omega) 1 _),
      ((B4.setCell (Nat.le_refl _) _).setCell (show w0.heap.size ≤ w0.heap.size + 1 by omega) _).setCell (show w0.heap.size ≤ w0.heap.size + 1 by omega) _⟩)
  by_cases hz0 : z = 0
  · subst hz0
    obtain ⟨r0, rf, rs⟩ := bk1 K4.out
    obtain ⟨i0, i1, jf, js⟩ := bk2 I4.out
    obtain ⟨s0, sf, ss⟩ := bk1 L4.out
    obtain ⟨m0, m1, mf, ms⟩ := bk2 M4.out
    go_wp2_with fail
    go_region_held3 (fun w' => w'.cell? ⟨bb, 0, none⟩ = some (.slice A l.length c) ∧ w'.cell? ⟨dd, 0, none⟩ = some (.int .i64 x) ∧ w'.cell? ⟨dd, 1, none⟩ = some (.int .i64 y)) (first | assumption | (simp [*, World.cell?_alloc_past, World.cell?_setCell_far])) (first | (go_at_call 118; refine (pick_ds D4.out.drew [-1, 0, 10000000000, 10000000001] 4 _ (by rfl) _ (by rfl) rfl (by omega) (by omega)).mono ?_; rintro e w9 ⟨mm, rfl, n0', d9, g9⟩; have O9 := Lib.hid (DS.own (own_drew O4.out |>.alloc _) g9 (by omega)); have K9 := Lib.hid (bk_away (bk_alloc (bk_drew K4.out) _) g9 hne0); have I9 := Lib.hid (bk_away (bk_alloc (bk_drew I4.out) _) g9 hne1); have L9 := Lib.hid (bk_keep (bk_alloc (bk_drew L4.out) _) g9 hgb); have M9 := Lib.hid (bk_keep (bk_alloc (bk_drew M4.out) _) g9 hgd); have D9 := Lib.hid d9; clear d9 g9 n0'; obtain ⟨r0, rf, rs⟩ := bk1 K9.out; obtain ⟨i0, i1, jf, js⟩ := bk2 I9.out; obtain ⟨s0, sf, ss⟩ := bk1 L9.out; obtain ⟨m0, m1, mf, ms⟩ := bk2 M9.out))
    all_goals (
      go_wp2
      (try simp only [Exit.inBlock, Exit.then])
      refine ret_lb rfl rfl rfl rfl rfl rfl rfl (bk_other (bk_other (bk_set K9.out 0 _ _ rfl) hne5 0 _) hne5 1 _) (bk_fill2 (bk_other I9.out hne6 0 _) _ _) ?_
      exact Fin.out _ _ O9.out D9.out)
  · have hzf : (z == 0) = false := by simpa using hz0
    go_wp2_with fail
    refine (next_ds D4.out 25000).mono ?_
    rintro e w5 ⟨v, rfl, v0, v1, d5, g5⟩
    have K5 := Lib.hid (bk_away K4.out g5 hne0)
    have I5 := Lib.hid (bk_away I4.out g5 hne1)
    have L5 := Lib.hid (bk_keep L4.out g5 hgb)
    have M5 := Lib.hid (bk_keep M4.out g5 hgd)
    have O5 := Lib.hid (DS.own O4.out g5 (by omega))
    have D5 := Lib.hid d5
    clear d5 g5 K4 I4 L4 M4 O4 D4
    have hvw : IntKind.i64.wrap (5000 + v) = 5000 + v := IntWalk.i64_in _ (by omega)
    clear v1
    obtain ⟨r0, rf, rs⟩ := bk1 K5.out
    obtain ⟨i0, i1, jf, js⟩ := bk2 I5.out
    obtain ⟨s0, sf, ss⟩ := bk1 L5.out
    obtain ⟨m0, m1, mf, ms⟩ := bk2 M5.out
    go_wp2_with fail
    go_region
    all_goals go_wp2
    all_goals (try simp only [Exit.inBlock, Exit.then])
    all_goals (
      refine ret_lb rfl rfl rfl rfl rfl rfl rfl (bk_other (bk_other (bk_set (bk_drew K5.out) 0 _ _ rfl) hne5 0 _) hne5 1 _) (bk_fill2 (bk_other (bk_drew I5.out) hne6 0 _) _ _) ?_
      exact Fin.out _ _ (own_drew O5.out) D5.out.drew)
end Go.Proofs.Ytooifamckccadaa
