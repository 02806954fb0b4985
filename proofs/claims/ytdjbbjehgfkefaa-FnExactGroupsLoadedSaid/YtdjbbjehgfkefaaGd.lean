/- Draws of height rules, heights and rows. -/
import Derived.Test.YtdjbbjehgfkefaaBx
import Derived.Test.YtdjbbjehgfkefaaUs
namespace Go.Proofs.Ytdjbbjehgfkefaa
open Go.ChangeShapes Go.WideShapes Go.ChangeAt Go.RowKit
set_option maxRecDepth 20000
set_option linter.unusedVariables false
set_option linter.unusedSimpArgs false
def RuleP (w0 : World) (g B : Nat) (C : Option Addr) (cap : Nat) (bl : List Int) (e : Ending) (w' : World) : Prop :=
  ∃ x y z : Int, e = .returned (.agg #[.int .i64 x, .int .i64 y, .int .i64 z]) ∧ DS w0 w' g B C cap bl
theorem ret_rule {fn : Func} {t : Tmp} {a : Act} {w : World} {R : Ending → World → Prop} {b : Nat} {x y z : Int} (hres : fn.results = #[.cell t 27]) (ha : a.tmps.getD t undef = .pointer (some ⟨b, 0, none⟩)) (hd : a.defers = []) (h : Bk w b #[.int .i64 x, .int .i64 y, .int .i64 z]) (hR : R (.returned (.agg #[.int .i64 x, .int .i64 y, .int .i64 z])) w) : bodyPost Try.prog fn R .ret a w := by
  refine bodyPost_ret ?_ hd hR
  obtain ⟨c0, c1, c2, cf, cs⟩ := bk3 h
  simp only [Array.getD_eq_getD_getElem?] at ha
  simp [results, hres, ha, go_sem, *]
set_option maxHeartbeats 2000000 in
theorem l28DrawRule_any (w0 : World) (g B : Nat) (C : Option Addr) (cap : Nat) (bl : List Int) (h : DS w0 w0 g B C cap bl) :
   Calls Try.prog 47 #[.pointer (some ⟨g, 0, none⟩)] w0 (RuleP w0 g B C cap bl) := by
  have hg0 := h.size.2
  have H := Lib.hid h
  clear h
  go_enter Try.func47, Try.ntmps47
  go_wp2_with fail
  refine (next_ds (H.out.alloc _) 200).mono ?_
  rintro e w1 ⟨x, rfl, x0, x1, d1, g1⟩
  have D1 := Lib.hid (d1)
  have K1 := Lib.hid (bk_keep (bk_new w0 _ _) g1 hg0)
  have x2 : x ≤ 199 := by omega
  clear d1 g1 x1
  obtain ⟨q0, q1, q2, qf, qs⟩ := bk3 K1.out
  go_wp2_with fail
  refine (next_ds D1.out 300).mono ?_
  rintro e w2 ⟨y, rfl, y0, y1, d2, g2⟩
  have D2 := Lib.hid (d2)
  have K2 := Lib.hid (bk_keep (K1.out) g2 hg0)
  have y2 : y ≤ 299 := by omega
  clear d2 g2 q0 q1 q2 qf qs y1
  obtain ⟨q0, q1, q2, qf, qs⟩ := bk3 K2.out
  go_wp2_with fail
  refine (next_ds D2.out 500).mono ?_
  rintro e w3 ⟨z, rfl, z0, z1, d3, g3⟩
  have D3 := Lib.hid (d3)
  have K3 := Lib.hid (bk_keep (K2.out) g3 hg0)
  have z2 : z ≤ 499 := by omega
  clear d3 g3 q0 q1 q2 qf qs z1
  obtain ⟨q0, q1, q2, qf, qs⟩ := bk3 K3.out
  have z3 := D3.out.size.1
  have hb3 := bk_lt K3.out
  have hg3 : g < w3.heap.size := by omega
  have hne : w3.heap.size ≠ w0.heap.size := by omega
  have hne2 : w0.heap.size ≠ w3.heap.size := by omega
  go_wp2_with fail
  refine (next_ds (D3.out.alloc _) 40).mono ?_
  rintro e w4 ⟨c, rfl, c0', c1', d4, g4⟩
  have D4 := Lib.hid (d4)
  have K4 := Lib.hid (bk_keep (bk_alloc K3.out _) g4 hg0)
  have L4 := Lib.hid (bk_keep (bk_new w3 _ _) g4 hg3)
  clear d4 g4 q0 q1 q2 qf qs c1'
  obtain ⟨q0, q1, q2, qf, qs⟩ := bk3 K4.out
  obtain ⟨c0, c1, c2, cf, cs⟩ := bk3 L4.out
  have FIN : ∀ (w' : World) (a b d : Int), DS w0 w' g B C cap bl → RuleP w0 g B C cap bl (.returned (.agg #[.int .i64 a, .int .i64 b, .int .i64 d])) (((w'.setCell ⟨w0.heap.size, 0, none⟩ (.int .i64 a)).setCell ⟨w0.heap.size, 1, none⟩ (.int .i64 b)).setCell ⟨w0.heap.size, 2, none⟩ (.int .i64 d)) := fun w' a b d h => ⟨_, _, _, rfl, ds_fill3 h (Nat.le_refl _) _ _ _⟩
  have Fin := Lib.hid FIN
  clear FIN
  rcases (show c = 0 ∨ c = 1 ∨ (c ≠ 0 ∧ c ≠ 1) by omega) with rfl | rfl | ⟨n0, n1⟩
  · skip
    go_wp2_with fail
    refine (pick_al D4.out [0, 1, 1000 + x + y, 1000 + x + y + 1] 4 _ (by rfl) _ (by rfl) rfl (by omega) (by omega)).mono ?_
    rintro e w5 ⟨v, rfl, d5, g5⟩
    have D5 := Lib.hid (d5)
    have K5 := Lib.hid (bk_keep (bk_alloc K4.out _) g5 hg0)
    have L5 := Lib.hid (bk_keep (bk_alloc L4.out _) g5 hg3)
    clear d5 g5 q0 q1 q2 qf qs c0 c1 c2 cf cs
    obtain ⟨q0, q1, q2, qf, qs⟩ := bk3 K5.out
    obtain ⟨c0, c1, c2, cf, cs⟩ := bk3 L5.out
    go_wp2
    (try simp only [Exit.inBlock, Exit.then])
    refine ret_rule rfl rfl rfl (bk_fill3 (bk_other K5.out hne _ _) _ _ _) ?_
    exact Fin.out _ _ _ _ (D5.out.set z3 _ _)
  · skip
    go_wp2_with fail
    refine (pick_al D4.out [1000 + x + y - 1, 1000 + x + y, 3000, 3001] 4 _ (by rfl) _ (by rfl) rfl (by omega) (by omega)).mono ?_
    rintro e w5 ⟨v, rfl, d5, g5⟩
    have D5 := Lib.hid (d5)
    have K5 := Lib.hid (bk_keep (bk_alloc K4.out _) g5 hg0)
    have L5 := Lib.hid (bk_keep (bk_alloc L4.out _) g5 hg3)
    clear d5 g5 q0 q1 q2 qf qs c0 c1 c2 cf cs
    obtain ⟨q0, q1, q2, qf, qs⟩ := bk3 K5.out
    obtain ⟨c0, c1, c2, cf, cs⟩ := bk3 L5.out
    go_wp2
    (try simp only [Exit.inBlock, Exit.then])
    refine ret_rule rfl rfl rfl (bk_fill3 (bk_other K5.out hne _ _) _ _ _) ?_
    exact Fin.out _ _ _ _ (D5.out.set z3 _ _)
  · have m0 : (c == 0) = false := by rw [beq_eq_false_iff_ne]; exact n0
    have m1 : (c == 1) = false := by rw [beq_eq_false_iff_ne]; exact n1
    go_wp2
    (try simp only [Exit.inBlock, Exit.then])
    refine ret_rule rfl rfl rfl (bk_fill3 K4.out _ _ _) ?_
    exact Fin.out _ _ _ _ D4.out
def IntP (w0 : World) (g B : Nat) (C : Option Addr) (cap : Nat) (bl : List Int) (e : Ending) (w' : World) : Prop := ∃ n : Int, e = .returned (.int .i64 n) ∧ DS w0 w' g B C cap bl
set_option maxHeartbeats 2000000 in
theorem l28DrawHeight_any (w0 : World) (g B : Nat) (C : Option Addr) (cap : Nat) (bl : List Int) (a b c : Int) (h : DS w0 w0 g B C cap bl) :
   Calls Try.prog 65 #[.pointer (some ⟨g, 0, none⟩), .agg #[.int .i64 a, .int .i64 b, .int .i64 c]] w0 (IntP w0 g B C cap bl) := by
  have hg0 := h.size.2
  have H := Lib.hid h
  clear h
  go_enter Try.func65, Try.ntmps65
  go_wp2_with fail
  refine (next_ds (H.out.alloc _) 40).mono ?_
  rintro e w1 ⟨q, rfl, x0, x1, d1, g1⟩
  have D1 := Lib.hid (d1)
  have K1 := Lib.hid (bk_keep (bk_new w0 _ _) g1 hg0)
  clear d1 g1 x1
  obtain ⟨q0, q1, q2, qf, qs⟩ := bk3 K1.out
  have hz1 := D1.out.size.1
  rcases (show q = 0 ∨ q = 1 ∨ (q = 2 ∨ q = 3) ∨ (q ≠ 0 ∧ q ≠ 1 ∧ q ≠ 2 ∧ q ≠ 3) by omega) with rfl | rfl | hq | ⟨n0, n1, n2, n3⟩
  · go_wp2_with fail
    refine (pick_al D1.out [0, 1, 3000, 3001] 4 _ (by rfl) _ (by rfl) rfl (by omega) (by omega)).mono ?_
    rintro e w5 ⟨v, rfl, d5, g5⟩
    have D5 := Lib.hid d5
    clear d5 g5
    go_wp2
    go_ret
    exact ⟨_, rfl, D5.out⟩
  · go_wp2_with fail
    refine (pick_al D1.out [wrap64 (a - 1), wrap64 (c + 1)] 2 _ (by rfl) _ (by rfl) rfl (by omega) (by omega)).mono ?_
    rintro e w5 ⟨v, rfl, d5, g5⟩
    have D5 := Lib.hid d5
    clear d5 g5
    go_wp2
    go_ret
    exact ⟨_, rfl, D5.out⟩
  · rcases hq with rfl | rfl
    all_goals (
      go_wp2_with fail
      refine (pick_al D1.out [a, wrap64 (b - 1), b, c] 4 _ (by rfl) _ (by rfl) rfl (by omega) (by omega)).mono ?_
      rintro e w5 ⟨v, rfl, d5, g5⟩
      have D5 := Lib.hid d5
      clear d5 g5
      go_wp2
      go_ret
      exact ⟨_, rfl, D5.out⟩)
  · have m0 : (q == 0) = false := by rw [beq_eq_false_iff_ne]; exact n0
    have m1 : (q == 1) = false := by rw [beq_eq_false_iff_ne]; exact n1
    have m2 : (q == 2) = false := by rw [beq_eq_false_iff_ne]; exact n2
    have m3 : (q == 3) = false := by rw [beq_eq_false_iff_ne]; exact n3
    go_wp2_with fail
    refine (next_ds D1.out 3).mono ?_
    rintro e w2 ⟨y, rfl, y0, y1, d2, g2⟩
    have D2 := Lib.hid (d2)
    have K2 := Lib.hid (bk_keep (K1.out) g2 hg0)
    clear d2 g2 q0 q1 q2 qf qs y1
    obtain ⟨q0, q1, q2, qf, qs⟩ := bk3 K2.out
    have hgs := src_lt D2.out.2.1
    have hne : w0.heap.size ≠ g := by omega
    by_cases hy : y = 0
    · subst hy
      go_wp2_with fail
      go_region_held3 (fun w' => w'.cell? ⟨w0.heap.size, 0, none⟩ = some (.int .i64 a) ∧ w'.cell? ⟨w0.heap.size, 1, none⟩ = some (.int .i64 b) ∧ w'.cell? ⟨w0.heap.size, 2, none⟩ = some (.int .i64 c)) (simp [*]) ((go_at_call 48; refine (next_ds D2.out.drew _).mono ?_; rintro e w3 ⟨z, rfl, z0, z1, d3, g3⟩; have k0 := grownBy_cell g3 q0 (fun k hk => by injection hk with hk; omega); have k1 := grownBy_cell g3 q1 (fun k hk => by injection hk with hk; omega); have k2 := grownBy_cell g3 q2 (fun k hk => by injection hk with hk; omega); have D3 := Lib.hid d3; clear d3 g3))
      all_goals go_wp2
      all_goals go_ret
      all_goals exact ⟨_, rfl, D3.out⟩
    · have b0 : (y == 0) = false := by rw [beq_eq_false_iff_ne]; exact hy
      go_wp2_with fail
      go_region_held3 (fun w' => w'.cell? ⟨w0.heap.size, 0, none⟩ = some (.int .i64 a) ∧ w'.cell? ⟨w0.heap.size, 1, none⟩ = some (.int .i64 b) ∧ w'.cell? ⟨w0.heap.size, 2, none⟩ = some (.int .i64 c)) (simp [*]) ((go_at_call 48; refine (next_ds D2.out.drew _).mono ?_; rintro e w3 ⟨z, rfl, z0, z1, d3, g3⟩; have k0 := grownBy_cell g3 q0 (fun k hk => by injection hk with hk; omega); have k1 := grownBy_cell g3 q1 (fun k hk => by injection hk with hk; omega); have k2 := grownBy_cell g3 q2 (fun k hk => by injection hk with hk; omega); have D3 := Lib.hid d3; clear d3 g3))
      all_goals go_wp2
      all_goals go_ret
      all_goals exact ⟨_, rfl, D3.out⟩
def HtsP (w0 : World) (g B : Nat) (C : Option Addr) (cap : Nat) (bl : List Int) (e : Ending) (w' : World) : Prop :=
  ∃ (l : List Int) (A : Option Addr) (c : Nat), e = .returned (.slice A l.length c) ∧ l.length ≤ 25 ∧ w'.ownsRow w0.heap.size 2 1 (.slice A l.length c) l.length (ints l) ∧ DS w0 w' g B C cap bl
set_option maxHeartbeats 2000000 in
theorem l28DrawHeights_any (w0 : World) (g B : Nat) (C : Option Addr) (cap : Nat) (bl : List Int) (a b c m : Int) (hm0 : 0 ≤ m) (hm9 : m ≤ 9) (h : DS w0 w0 g B C cap bl) :
   Calls Try.prog 49 #[.pointer (some ⟨g, 0, none⟩), .agg #[.int .i64 a, .int .i64 b, .int .i64 c], .int .i64 m] w0 (HtsP w0 g B C cap bl) := by
  obtain ⟨i0, hi0, hz0, hzz1, hzz2⟩ := info_parts infoInt64
  have hg0 := h.size.2
  have hg1 : g < w0.heap.size + 1 := by omega
  have H := Lib.hid h
  clear h
  go_enter Try.func49, Try.ntmps49
  go_wp2_with fail
  refine (next_ds ((H.out.alloc _).alloc (.cells #[] 2)) (m + 1)).mono ?_
  rintro e w1 ⟨q, rfl, x0, x1, d1, g1⟩
  have D1 := Lib.hid (d1)
  have K1 := Lib.hid (bk_keep (bk_alloc (bk_new w0 _ _) _) g1 hg0)
  have O1 := Lib.hid (DS.own (World.ownsRow_made (base := w0.heap.size + 1) (e := 2) (size := 1) (w0.alloc (.cells #[.int .i64 a, .int .i64 b, .int .i64 c] 27)) #[] 0 (by simp) (by simp [maxLen]) rfl) g1 hg1)
  have hq9 : q ≤ 9 := by omega
  clear d1 g1 x1
  go_wp2_with fail
  go_loopw [7, 8] (fun v n wr => ∃ (l : List Int) (q : Int), n = .int .i64 q ∧ 0 ≤ q ∧ l.length + q ≤ 9 ∧ wr.ownsRow (w0.heap.size + 1) 2 1 v l.length (ints l) ∧ Bk wr w0.heap.size #[.int .i64 a, .int .i64 b, .int .i64 c] ∧ DS w0 wr g B C cap bl) (fun _ n _ => (intOf n).toNat)
  case atStart => exact ⟨[], q, rfl, x0, by simpa using hq9, by simpa [ints] using O1.out, K1.out, D1.out⟩
  case round =>
    clear x0 hq9
    obtain ⟨l, q, rfl, q0, hq4, hown, hk, hd⟩ := hrel
    obtain ⟨c0, c1, c2, cf, cs⟩ := bk3 hk
    by_cases hlt : 0 < q
    · have hsz := hd.size.1
      have hln : l.length ≤ 1048576 := by omega
      have Ho := Lib.hid hown
      have Hk := Lib.hid hk
      have Hd := Lib.hid hd
      clear hown hk hd
      go_wp2_with fail
      refine (l28DrawHeight_any _ g B C cap bl a b c Hd.out.again).mono ?_
      rintro e w2 ⟨x, rfl, d2⟩
      have g2 := d2.2.2.1
      have O2 := Lib.hid (DS.own Ho.out g2 hg1)
      have K2 := Lib.hid (bk_keep Hk.out g2 hg0)
      have D2 := Lib.hid (Hd.out.join d2)
      have hs2 := bk_lt K2.out
      have hs3 : w0.heap.size + 1 ≤ w2.heap.size := by omega
      clear d2 g2
      go_wp2_with (at_builtin; refine wpList_append_int rfl (.tmp 18) (.tmp 22) 24 rfl (w0.heap.size + 1) 2 i0 Try.underlying24 hi0 hz0 hzz1 hzz2 _ l.length l rfl O2.out _ rfl hln hs3 ?_; intro v5 w5 own5 hb5 hz5; have O5 := Lib.hid own5; clear own5)
      go_roundw
      case rel => exact ⟨l ++ [x], q - 1, by go_num, by omega, by simp; omega, by simpa using O5.out, bk_below K2.out hb5 (by omega), D2.out.below (hb5.mono (by omega))⟩
      case measure => simp [intOf]; omega
    · have Ho := Lib.hid hown
      have Hk := Lib.hid hk
      have hsz := hd.size.1
      have Hl4 : l.length ≤ 9 := by omega
      clear hown hk
      go_wp2_with fail
      refine (next_ds hd 60).mono ?_
      rintro e w2 ⟨x, rfl, x0, x1, d2, g2⟩
      have O2 := Lib.hid (DS.own Ho.out g2 hg1)
      have K2 := Lib.hid (bk_keep Hk.out g2 hg0)
      have D2 := Lib.hid d2
      clear d2 hd g2 x1 c0 c1 c2 cf cs
      by_cases hx0 : x = 0
      · subst hx0
        have hs2 := bk_lt K2.out
        have O3 := Lib.hid (World.ownsRow_made (base := w0.heap.size + 1) (e := 2) (size := 1) w2 #[] 0 (by omega) (by simp [maxLen]) rfl)
        go_wp2_with fail
        go_loopw [7] (fun v wr => ∃ l : List Int, l.length ≤ 25 ∧ wr.ownsRow (w0.heap.size + 1) 2 1 v l.length (ints l) ∧ Bk wr w0.heap.size #[.int .i64 a, .int .i64 b, .int .i64 c] ∧ DS w0 wr g B C cap bl) (fun v _ => match v with | .slice _ n _ => 26 - n | _ => 0)
        case atStart => exact ⟨[], by simp, O3.out, bk_alloc K2.out _, D2.out.alloc _⟩
        case round =>
          clear Ho Hl4 O3 Hk
          obtain ⟨l, hl25, hown, hk, hd⟩ := hrel
          obtain ⟨A0, k0, rfl⟩ := own_val hown
          have hln : l.length ≤ 1048576 := by omega
          have Hk := Lib.hid hk
          clear hk
          go_wp2_with fail
          refine (next_ds hd 2).mono ?_
          rintro e w3 ⟨y, rfl, y0, y1, d3, g3⟩
          have O3 := Lib.hid (DS.own hown g3 hg1)
          have K3 := Lib.hid (bk_keep Hk.out g3 hg0)
          have D3 := Lib.hid d3
          have y2 : y ≤ 1 := by omega
          have hs3 := bk_lt K3.out
          have hs4 : w0.heap.size + 1 ≤ w3.heap.size := by omega
          obtain ⟨c0, c1, c2, cf, cs⟩ := bk3 K3.out
          clear hown hd g3 d3 y1
          by_cases hlt : (l.length : Int) < 24 + y
          · go_wp2_with (at_builtin; refine wpList_append_int rfl (.tmp 34) (.tmp 37) 24 rfl (w0.heap.size + 1) 2 i0 Try.underlying24 hi0 hz0 hzz1 hzz2 _ l.length l rfl O3.out _ rfl hln hs4 ?_; intro v5 w5 own5 hb5 hz5; obtain ⟨A5, c5, rfl⟩ := own_val own5; have O5 := Lib.hid own5; clear own5)
            go_roundw
            case rel => exact ⟨l ++ [b], by simp; omega, by simpa using O5.out, bk_below K3.out hb5 (by omega), D3.out.below (hb5.mono (by omega))⟩
            case measure => first | (simp; omega) | omega
          · go_wp2
            go_ret
            exact ⟨l, A0, k0, rfl, by omega, own_more O3.out (by omega), D3.out⟩
      · have b1 : (x == 0) = false := by rw [beq_eq_false_iff_ne]; exact hx0
        obtain ⟨A5, c5, rfl⟩ := own_val O2.out
        go_wp2
        go_ret
        exact ⟨l, A5, c5, rfl, by omega, own_more O2.out (by omega), D2.out⟩
theorem l28DrawRows_any (w0 : World) (g B : Nat) (C : Option Addr) (cap : Nat) (bl : List Int) (h : DS w0 w0 g B C cap bl) :
   Calls Try.prog 50 #[.pointer (some ⟨g, 0, none⟩)] w0 (fun e w' => ∃ n : Int, e = .returned (.int .i64 n) ∧ 0 ≤ n ∧ n ≤ 13 ∧ DS w0 w' g B C cap bl ∧ w0.grownBy w' (some g)) := by
  have H := Lib.hid h
  clear h
  go_enter Try.func50, Try.ntmps50
  go_wp2_with fail
  refine (next_ds H.out 20).mono ?_
  rintro e w1 ⟨q, rfl, q0, q1, d1, g1⟩
  have D1 := Lib.hid d1
  clear d1 g1 q1
  by_cases hq : q = 0
  · subst hq
    go_wp2_with fail
    refine (pick_ds D1.out [0, 12, 13] 3 _ (by rfl) _ (by rfl) rfl (by omega) (by omega)).mono ?_
    rintro e w2 ⟨y, rfl, hy, d2, g2⟩
    have hyb : 0 ≤ y ∧ y ≤ 13 := by
      simp only [List.mem_cons, List.not_mem_nil, or_false] at hy
      omega
    have D2 := Lib.hid d2
    clear hy g2 d2
    go_wp2
    go_ret
    exact ⟨y, rfl, by omega, by omega, D2.out, D2.out.2.2.1⟩
  · have b0 : (q == 0) = false := by rw [beq_eq_false_iff_ne]; exact hq
    go_wp2_with fail
    refine (next_ds D1.out 8).mono ?_
    rintro e w2 ⟨y, rfl, y0, y1, d2, g2⟩
    have D2 := Lib.hid d2
    have y2 : y ≤ 7 := by omega
    clear g2 d2 y1
    go_wp2
    go_ret
    exact ⟨1 + y, rfl, by omega, by omega, D2.out, D2.out.2.2.1⟩
end Go.Proofs.Ytdjbbjehgfkefaa
