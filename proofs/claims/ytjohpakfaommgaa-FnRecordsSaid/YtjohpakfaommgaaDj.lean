/- Draws of records and of bytes. -/
import Derived.Test.YtjohpakfaommgaaBx
import Derived.Test.YtjohpakfaommgaaA
import Derived.Test.YtjohpakfaommgaaApp
import Derived.Test.YtjohpakfaommgaaI
namespace Go.Proofs.Ytjohpakfaommgaa
open Go.ChangeShapes Go.WideShapes Go.ChangeAt Go.RowKit
set_option maxRecDepth 20000
set_option linter.unusedVariables false
set_option linter.unusedSimpArgs false
def RecdP (w0 : World) (g B : Nat) (C : Option Addr) (cap : Nat) (bl : List Int) (e : Ending) (w' : World) : Prop :=
  ∃ x y z : Int, e = .returned (.agg #[.int .i64 x, .int .i64 y, .int .i64 z]) ∧ DS w0 w' g B C cap bl
theorem ret_rec {fn : Func} {t : Tmp} {a : Act} {w : World} {R : Ending → World → Prop} {b : Nat} {x y z : Int} (hres : fn.results = #[.cell t 35]) (ha : a.tmps.getD t undef = .pointer (some ⟨b, 0, none⟩)) (hd : a.defers = []) (h : Bk w b #[.int .i64 x, .int .i64 y, .int .i64 z]) (hR : R (.returned (.agg #[.int .i64 x, .int .i64 y, .int .i64 z])) w) : bodyPost Try.prog fn R .ret a w := by
  refine bodyPost_ret ?_ hd hR
  obtain ⟨c0, c1, c2, cf, cs⟩ := bk3 h
  simp only [Array.getD_eq_getD_getElem?] at ha
  simp [results, hres, ha, go_sem, *]
set_option maxHeartbeats 2000000 in
theorem l32Draw_any (w0 : World) (g B : Nat) (C : Option Addr) (cap : Nat) (bl : List Int) (h : DS w0 w0 g B C cap bl) :
   Calls Try.prog 69 #[.pointer (some ⟨g, 0, none⟩)] w0 (RecdP w0 g B C cap bl) := by
  have hg0 := h.size.2
  have H := Lib.hid h
  clear h
  go_enter Try.func69, Try.ntmps69
  go_wp2_with fail
  refine (next_al (H.out.alloc _) _).mono ?_
  rintro e w1 ⟨x, rfl, d1, g1⟩
  have D1 := Lib.hid (d1)
  have K1 := Lib.hid (bk_keep (bk_new w0 _ _) g1 hg0)
  clear d1 g1
  obtain ⟨q0, q1, q2, qf, qs⟩ := bk3 K1.out
  go_wp2_with fail
  refine (next_al D1.out _).mono ?_
  rintro e w2 ⟨y, rfl, d2, g2⟩
  have D2 := Lib.hid (d2)
  have K2 := Lib.hid (bk_keep (K1.out) g2 hg0)
  clear d2 g2 q0 q1 q2 qf qs
  obtain ⟨q0, q1, q2, qf, qs⟩ := bk3 K2.out
  go_wp2_with fail
  refine (next_al D2.out _).mono ?_
  rintro e w3 ⟨z, rfl, d3, g3⟩
  have D3 := Lib.hid (d3)
  have K3 := Lib.hid (bk_keep (K2.out) g3 hg0)
  clear d3 g3 q0 q1 q2 qf qs
  obtain ⟨q0, q1, q2, qf, qs⟩ := bk3 K3.out
  have z3 := D3.out.size.1
  have hb3 := bk_lt K3.out
  have hg3 : g < w3.heap.size := by omega
  have hne : w3.heap.size ≠ w0.heap.size := by omega
  have hne2 : w0.heap.size ≠ w3.heap.size := by omega
  go_wp2_with fail
  refine (next_al (D3.out.alloc _) _).mono ?_
  rintro e w4 ⟨c, rfl, d4, g4⟩
  have D4 := Lib.hid (d4)
  have K4 := Lib.hid (bk_keep (bk_alloc K3.out _) g4 hg0)
  have L4 := Lib.hid (bk_keep (bk_new w3 _ _) g4 hg3)
  clear d4 g4 q0 q1 q2 qf qs
  obtain ⟨q0, q1, q2, qf, qs⟩ := bk3 K4.out
  obtain ⟨c0, c1, c2, cf, cs⟩ := bk3 L4.out
  have FIN : ∀ (w' : World) (a b d : Int), DS w0 w' g B C cap bl → RecdP w0 g B C cap bl (.returned (.agg #[.int .i64 a, .int .i64 b, .int .i64 d])) (((w'.setCell ⟨w0.heap.size, 0, none⟩ (.int .i64 a)).setCell ⟨w0.heap.size, 1, none⟩ (.int .i64 b)).setCell ⟨w0.heap.size, 2, none⟩ (.int .i64 d)) := fun w' a b d h => ⟨_, _, _, rfl, ds_fill3 h (Nat.le_refl _) _ _ _⟩
  have Fin := Lib.hid FIN
  clear FIN
  rcases (show c = 0 ∨ c = 1 ∨ c = 2 ∨ (c ≠ 0 ∧ c ≠ 1 ∧ c ≠ 2) by omega) with rfl | rfl | rfl | ⟨n0, n1, n2⟩
  · skip
    go_wp2_with fail
    refine (pick_al D4.out [-1, 4294967295, 4294967296] 3 _ (by rfl) _ (by rfl) rfl (by omega) (by omega)).mono ?_
    rintro e w5 ⟨v, rfl, d5, g5⟩
    have D5 := Lib.hid (d5)
    have K5 := Lib.hid (bk_keep (bk_alloc K4.out _) g5 hg0)
    have L5 := Lib.hid (bk_keep (bk_alloc L4.out _) g5 hg3)
    clear d5 g5 q0 q1 q2 qf qs c0 c1 c2 cf cs
    obtain ⟨q0, q1, q2, qf, qs⟩ := bk3 K5.out
    obtain ⟨c0, c1, c2, cf, cs⟩ := bk3 L5.out
    go_wp2
    (try simp only [Exit.inBlock, Exit.then])
    refine ret_rec rfl rfl rfl (bk_fill3 (bk_other K5.out hne _ _) _ _ _) ?_
    exact Fin.out _ _ _ _ (D5.out.set z3 _ _)
  · skip
    go_wp2_with fail
    refine (pick_al D4.out [-1, 255, 256] 3 _ (by rfl) _ (by rfl) rfl (by omega) (by omega)).mono ?_
    rintro e w5 ⟨v, rfl, d5, g5⟩
    have D5 := Lib.hid (d5)
    have K5 := Lib.hid (bk_keep (bk_alloc K4.out _) g5 hg0)
    have L5 := Lib.hid (bk_keep (bk_alloc L4.out _) g5 hg3)
    clear d5 g5 q0 q1 q2 qf qs c0 c1 c2 cf cs
    obtain ⟨q0, q1, q2, qf, qs⟩ := bk3 K5.out
    obtain ⟨c0, c1, c2, cf, cs⟩ := bk3 L5.out
    go_wp2
    (try simp only [Exit.inBlock, Exit.then])
    refine ret_rec rfl rfl rfl (bk_fill3 (bk_other K5.out hne _ _) _ _ _) ?_
    exact Fin.out _ _ _ _ (D5.out.set z3 _ _)
  · skip
    go_wp2_with fail
    refine (pick_al D4.out [-1, 4294967295, 4294967296] 3 _ (by rfl) _ (by rfl) rfl (by omega) (by omega)).mono ?_
    rintro e w5 ⟨v, rfl, d5, g5⟩
    have D5 := Lib.hid (d5)
    have K5 := Lib.hid (bk_keep (bk_alloc K4.out _) g5 hg0)
    have L5 := Lib.hid (bk_keep (bk_alloc L4.out _) g5 hg3)
    clear d5 g5 q0 q1 q2 qf qs c0 c1 c2 cf cs
    obtain ⟨q0, q1, q2, qf, qs⟩ := bk3 K5.out
    obtain ⟨c0, c1, c2, cf, cs⟩ := bk3 L5.out
    go_wp2
    (try simp only [Exit.inBlock, Exit.then])
    refine ret_rec rfl rfl rfl (bk_fill3 (bk_other K5.out hne _ _) _ _ _) ?_
    exact Fin.out _ _ _ _ (D5.out.set z3 _ _)
  · have m0 : (c == 0) = false := by rw [beq_eq_false_iff_ne]; exact n0
    have m1 : (c == 1) = false := by rw [beq_eq_false_iff_ne]; exact n1
    have m2 : (c == 2) = false := by rw [beq_eq_false_iff_ne]; exact n2
    go_wp2
    (try simp only [Exit.inBlock, Exit.then])
    refine ret_rec rfl rfl rfl (bk_fill3 K4.out _ _ _) ?_
    exact Fin.out _ _ _ _ D4.out
theorem infoRecd : (Try.prog.info? 35).map (fun i => (i.zero, i.size, i.bytes)) = some (some (.agg #[.int .i64 0, .int .i64 0, .int .i64 0]), 3, 24) := by kernel_rfl
theorem eRecd_one (t : Int × Int × Int) : ∀ u ∈ eEventRecord t, u.oneCell' = true := by
  intro u hu
  simp only [eEventRecord, List.mem_cons, List.not_mem_nil, or_false] at hu
  rcases hu with rfl | rfl | rfl <;> rfl
theorem rd_recd (w : World) (x y z : Int) (e : TypeId) : Rd (w.alloc (.cells #[.int .i64 x, .int .i64 y, .int .i64 z] e)) (w.heap.size + 1) (some ⟨w.heap.size, 0, none⟩) (eEventRecord (x, y, z)) := fun _ => by
  refine ⟨w.heap.size, 0, rfl, by omega, fun j u hu => ?_⟩
  have hh := heap_alloc_new w (.cells #[.int .i64 x, .int .i64 y, .int .i64 z] e)
  simp only [World.cell?, Nat.zero_add]
  rw [hh]
  simpa [eEventRecord] using hu
theorem wpList_append_recd {w : World} {ops : Array Oper} {rest : List Oper} {o : Oper} {a : Act} {Q : Exit → Act → World → Prop} (hgd : o.guard = none) (s x : Operand)
    (ho : o.op = .call { callee := .builtin .append, args := #[s, x], argTypes := #[44, 44] })
    (base : Nat) (v : Value) (n : Nat) (l : List (Int × Int × Int)) (hs : a.eval s = v) (hown : w.ownsRow base 35 3 v n (l.flatMap eEventRecord)) (p q r : Int) (hx : a.eval x = .slice (some ⟨w.heap.size, 0, none⟩) 1 1)
    (hn : n ≤ 1048576) (hbase : base ≤ w.heap.size)
    (h : ∀ v' w', w'.ownsRow base 35 3 v' (n + 1) ((l ++ [(p, q, r)]).flatMap eEventRecord) → Below base w w' → w.heap.size < w'.heap.size → wpList Try.prog ops Q rest (a.put o.dst v') w') :
    wpList Try.prog ops Q (o :: rest) a (w.alloc (.cells #[.int .i64 p, .int .i64 q, .int .i64 r] 35)) := by
  obtain ⟨i0, hi0, hz0, hz1, hz2⟩ := info_parts infoRecd
  refine wpList_append_rd hgd s x 44 ho base 35 i0 _ 3 24 Try.underlying44 hi0 hz0 hz1 hz2 rfl (by decide) v n _ hs (hown.alloc _) (w.heap.size + 1) _ 1 1 (eEventRecord (p, q, r)) hx rfl (rd_recd w p q r _) (eRecd_one _) (by unfold maxLen; omega) (by omega) (by simp; omega) ?_
  intro v' w' h1 h2 h3
  refine h v' w' (by simpa using h1) (((Below.refl _ _).alloc hbase _).trans h2) (by simp at h3; omega)
def RecsP (w0 : World) (g B : Nat) (C : Option Addr) (cap : Nat) (bl : List Int) (e : Ending) (w' : World) : Prop :=
  ∃ (l : List (Int × Int × Int)) (A : Option Addr) (c : Nat), e = .returned (.slice A l.length c) ∧ l.length ≤ 101 ∧ w'.ownsRow w0.heap.size 35 3 (.slice A l.length c) l.length (l.flatMap eEventRecord) ∧ DS w0 w' g B C cap bl
set_option maxRecDepth 20000 in
theorem made_recs (n : Nat) (hn : n = 100 ∨ n = 101) : (madeCells (Value.agg #[.int .i64 0, .int .i64 0, .int .i64 0]).cells (n * 3)).toList = (List.replicate n ((0 : Int), (0 : Int), (0 : Int))).flatMap eEventRecord := by
  rcases hn with rfl | rfl <;> kernel_rfl
set_option maxHeartbeats 1000000 in
theorem l32DrawList_any (w0 : World) (g B : Nat) (C : Option Addr) (cap : Nat) (bl : List Int) (h : DS w0 w0 g B C cap bl) :
   Calls Try.prog 76 #[.pointer (some ⟨g, 0, none⟩)] w0 (RecsP w0 g B C cap bl) := by
  have hg0 := h.size.2
  have H := Lib.hid h
  clear h
  go_enter Try.func76, Try.ntmps76
  go_wp2_with fail
  refine (next_ds (H.out.alloc (.cells #[] 35)) 6).mono ?_
  rintro e w1 ⟨q, rfl, q0, q1, d1, g1⟩
  have o1 := DS.own (World.ownsRow_made (base := w0.heap.size) (e := 35) (size := 3) w0 #[] 0 (Nat.le_refl _) (by simp [maxLen]) rfl) g1 hg0
  have hq4 : q ≤ 5 := by omega
  clear q1
  have O1 := Lib.hid o1
  have D1 := Lib.hid d1
  clear o1 d1 g1
  go_wp2_with fail
  go_loopw [3, 4] (fun v n wr => ∃ (l : List (Int × Int × Int)) (q : Int), n = .int .i64 q ∧ 0 ≤ q ∧ l.length + q ≤ 5 ∧ wr.ownsRow w0.heap.size 35 3 v l.length (l.flatMap eEventRecord) ∧ DS w0 wr g B C cap bl) (fun _ n _ => (intOf n).toNat)
  case atStart => exact ⟨[], q, rfl, q0, by simpa using hq4, O1.out, D1.out⟩
  case round =>
    clear q0 hq4
    obtain ⟨l, q, rfl, q0, hq4, hown, hd⟩ := hrel
    by_cases hlt : 0 < q
    · have hsz := hd.size.1
      have Ho := Lib.hid hown
      have Hd := Lib.hid hd
      clear hown hd
      go_wp2_with fail
      refine (l32Draw_any wr g B C cap bl Hd.out.again).mono ?_
      rintro e w2 ⟨x, y, z, rfl, d2⟩
      have O2 := Lib.hid (DS.own Ho.out d2.2.2.1 hg0)
      have D2 := Lib.hid (Hd.out.join d2)
      have hs2 := D2.out.size.1
      have hln : l.length ≤ 1048576 := by omega
      clear d2
      go_wp2_with (at_builtin; refine wpList_append_recd rfl (.tmp 12) (.tmp 15) rfl w0.heap.size _ _ _ rfl O2.out _ _ _ rfl hln hs2 ?_; intro v5 w5 own5 hb5 hz5; have O5 := Lib.hid own5; clear own5)
      go_roundw
      case rel => exact ⟨l ++ [(x, y, z)], q - 1, by go_num, by omega, by simp; omega, by simpa using O5.out, D2.out.below hb5⟩
      case measure => simp [intOf]; omega
    · have Ho := Lib.hid hown
      have hsz := hd.size.1
      clear hown
      have Hl4 : l.length ≤ 5 := by omega
      go_wp2_with fail
      refine (next_ds hd 60).mono ?_
      rintro e w2 ⟨x, rfl, x0, x1, d2, g2⟩
      have O2 := Lib.hid (DS.own Ho.out g2 hg0)
      have D2 := Lib.hid d2
      clear d2 hd g2 x1
      by_cases hx0 : x = 0
      · subst hx0
        go_wp2_with fail
        refine (next_ds D2.out 2).mono ?_
        rintro e w3 ⟨y, rfl, y0, y1, d3, g3⟩
        have D3 := Lib.hid d3
        have hz3 := d3.size.1
        have y2 : y = 0 ∨ y = 1 := by omega
        clear d3 g3 y1 O2 Ho
        obtain ⟨i0, hi0, hz0, hz1, hz2⟩ := info_parts infoRecd
        rcases y2 with rfl | rfl
        · obtain ⟨w4, xs, hmk, hown, hxs, hb4, hz4⟩ := mk_own (P := Try.prog) 44 35 i0 _ 3 24 Try.underlying44 hi0 hz0 hz1 hz2 .i64 .i64 100 (by omega) (by unfold maxLen; omega) w0.heap.size w3 hz3
          rw [made_recs 100 (by omega)] at hxs
          subst hxs
          have O4 := Lib.hid hown
          have D4 := Lib.hid (D3.out.below (hb4.mono hz3))
          clear hown
          replace hmk := (show (Instr.makeSlice 44 (.int .i64 100) (.int .i64 100)).run Try.prog w3 = _ from hmk)
          go_wp2
          go_ret
          refine ⟨List.replicate 100 (0, 0, 0), _, _, by rw [List.length_replicate]; rfl, by rw [List.length_replicate]; omega, by rw [List.length_replicate]; exact O4.out, D4.out⟩
        · obtain ⟨w4, xs, hmk, hown, hxs, hb4, hz4⟩ := mk_own (P := Try.prog) 44 35 i0 _ 3 24 Try.underlying44 hi0 hz0 hz1 hz2 .i64 .i64 101 (by omega) (by unfold maxLen; omega) w0.heap.size w3 hz3
          rw [made_recs 101 (by omega)] at hxs
          subst hxs
          have O4 := Lib.hid hown
          have D4 := Lib.hid (D3.out.below (hb4.mono hz3))
          clear hown
          replace hmk := (show (Instr.makeSlice 44 (.int .i64 101) (.int .i64 101)).run Try.prog w3 = _ from hmk)
          go_wp2
          go_ret
          refine ⟨List.replicate 101 (0, 0, 0), _, _, by rw [List.length_replicate]; rfl, by rw [List.length_replicate]; omega, by rw [List.length_replicate]; exact O4.out, D4.out⟩
      · have b0 : (x == 0) = false := by rw [beq_eq_false_iff_ne]; exact hx0
        obtain ⟨A5, c5, rfl⟩ := own_val O2.out
        go_wp2
        go_ret
        exact ⟨l, A5, c5, rfl, by omega, O2.out, D2.out⟩
def IntsP (most : Nat) (w0 : World) (g B : Nat) (C : Option Addr) (cap : Nat) (bl : List Int) (e : Ending) (w' : World) : Prop :=
  ∃ (l : List Int) (A : Option Addr) (c : Nat), e = .returned (.slice A l.length c) ∧ l.length ≤ most ∧ w'.ownsRow w0.heap.size 2 1 (.slice A l.length c) l.length (ints l) ∧ DS w0 w' g B C cap bl
theorem zeros_own (n : Nat) (xs : List Value) (h : xs = (madeCells (Value.int .i64 0).cells (n * 1)).toList) : xs = ints (List.replicate n 0) := by
  rw [h, Nat.mul_one]
  simp only [ints, List.map_replicate]
  exact toList_madeCells_one _ _
set_option maxHeartbeats 1000000 in
theorem l32DrawBytes_any (w0 : World) (g B : Nat) (C : Option Addr) (cap : Nat) (bl : List Int) (m : Int) (hm0 : 0 ≤ m) (hm1 : m ≤ 40) (h : DS w0 w0 g B C cap bl) :
   Calls Try.prog 72 #[.pointer (some ⟨g, 0, none⟩), .int .i64 m] w0 (IntsP 2001 w0 g B C cap bl) := by
  have hg0 := h.size.2
  have H := Lib.hid h
  obtain ⟨i0, hi0, hz0, hz1, hz2⟩ := info_parts infoInt64
  have hmw : wrap64 (m + 1) = m + 1 := IntWalk.wrap64_in _ (by omega)
  clear h
  go_enter Try.func72, Try.ntmps72
  go_wp2_with fail
  refine (next_ds (H.out.alloc (.cells #[] 2)) _).mono ?_
  rintro e w1 ⟨q, rfl, q0, q1, d1, g1⟩
  have o1 := DS.own (World.ownsRow_made (base := w0.heap.size) (e := 2) (size := 1) w0 #[] 0 (Nat.le_refl _) (by simp [maxLen]) rfl) g1 hg0
  have hq4 : q ≤ 40 := by
    first | omega | (rw [hmw] at q1; omega)
  clear q1 hmw
  have O1 := Lib.hid o1
  have D1 := Lib.hid d1
  clear o1 d1 g1
  go_wp2_with fail
  go_loopw [5, 6] (fun v n wr => ∃ (l : List Int) (q : Int), n = .int .i64 q ∧ 0 ≤ q ∧ l.length + q ≤ 40 ∧ wr.ownsRow w0.heap.size 2 1 v l.length (ints l) ∧ DS w0 wr g B C cap bl) (fun _ n _ => (intOf n).toNat)
  case atStart => exact ⟨[], q, rfl, q0, by simpa using hq4, O1.out, D1.out⟩
  case round =>
    clear q0 hq4
    obtain ⟨l, q, rfl, q0, hq4, hown, hd⟩ := hrel
    by_cases hlt : 0 < q
    · have hsz := hd.size.1
      have Ho := Lib.hid hown
      have Hd := Lib.hid hd
      clear hown hd
      go_wp2_with fail
      refine (next_ds Hd.out 256).mono ?_
      rintro e w2 ⟨x, rfl, x0, x1, d2, g2⟩
      have O2 := Lib.hid (DS.own Ho.out g2 hg0)
      have D2 := Lib.hid d2
      have hs2 := D2.out.size.1
      have hln : l.length ≤ 1048576 := by omega
      clear d2 g2 x1
      go_wp2_with (at_builtin; refine wpList_append_int rfl (.tmp 16) (.tmp 19) 22 rfl w0.heap.size 2 i0 Try.underlying22 hi0 hz0 hz1 hz2 _ _ l (by rfl) O2.out x (by rfl) hln hs2 ?_; intro v5 w5 own5 hb5 hz5; have O5 := Lib.hid own5; clear own5)
      go_roundw
      case rel => exact ⟨l ++ [x], q - 1, by go_num, by omega, by simp; omega, by simpa using O5.out, D2.out.below hb5⟩
      case measure => simp [intOf]; omega
    · have Ho := Lib.hid hown
      have hsz := hd.size.1
      clear hown
      have Hl4 : l.length ≤ 40 := by omega
      have hln : l.length ≤ 1048576 := by omega
      go_wp2_with fail
      refine (next_ds hd 40).mono ?_
      rintro e w2 ⟨x, rfl, x0, x1, d2, g2⟩
      have O2 := Lib.hid (DS.own Ho.out g2 hg0)
      have D2 := Lib.hid d2
      clear d2 hd g2 x1
      rcases (show x = 0 ∨ x = 1 ∨ (x ≠ 0 ∧ x ≠ 1) by omega) with rfl | rfl | ⟨n0, n1⟩
      · go_wp2_with fail
        refine (pick_ds D2.out [-1, 256] 2 _ (by rfl) _ (by rfl) rfl (by omega) (by omega)).mono ?_
        rintro e w3 ⟨y, rfl, hy, d3, g3⟩
        have O3 := Lib.hid (DS.own (O2.out.alloc _) g3 hg0)
        have D3 := Lib.hid d3
        have hs3 := D3.out.size.1
        clear hy d3 g3
        go_wp2_with (at_builtin; refine wpList_append_int rfl (.tmp 25) (.tmp 29) 22 rfl w0.heap.size 2 i0 Try.underlying22 hi0 hz0 hz1 hz2 _ _ l (by rfl) O3.out y (by rfl) hln hs3 ?_; intro v5 w5 own5 hb5 hz5; have O5 := Lib.hid own5; clear own5)
        obtain ⟨A5, c5, rfl⟩ := own_val O5.out
        go_ret
        exact ⟨l ++ [y], A5, c5, by simp, by simp; omega, by simpa using O5.out, D3.out.below hb5⟩
      · go_wp2_with fail
        refine (next_ds D2.out 2).mono ?_
        rintro e w3 ⟨y, rfl, y0, y1, d3, g3⟩
        have D3 := Lib.hid d3
        have hz3 := d3.size.1
        have y2 : y = 0 ∨ y = 1 := by omega
        clear d3 g3 y1 O2 Ho
        rcases y2 with rfl | rfl
        · obtain ⟨w4, xs, hmk, hown, hxs, hb4, hz4⟩ := mk_own (P := Try.prog) 22 2 i0 _ 1 8 Try.underlying22 hi0 hz0 hz1 hz2 .i64 .i64 2000 (by omega) (by unfold maxLen; omega) w0.heap.size w3 hz3
          replace hxs := zeros_own 2000 xs hxs
          subst hxs
          have O4 := Lib.hid hown
          have D4 := Lib.hid (D3.out.below (hb4.mono hz3))
          clear hown
          replace hmk := (show (Instr.makeSlice 22 (.int .i64 2000) (.int .i64 2000)).run Try.prog w3 = _ from hmk)
          go_wp2
          go_ret
          refine ⟨List.replicate 2000 0, _, _, by rw [List.length_replicate]; rfl, by rw [List.length_replicate]; omega, by rw [List.length_replicate]; exact O4.out, D4.out⟩
        · obtain ⟨w4, xs, hmk, hown, hxs, hb4, hz4⟩ := mk_own (P := Try.prog) 22 2 i0 _ 1 8 Try.underlying22 hi0 hz0 hz1 hz2 .i64 .i64 2001 (by omega) (by unfold maxLen; omega) w0.heap.size w3 hz3
          replace hxs := zeros_own 2001 xs hxs
          subst hxs
          have O4 := Lib.hid hown
          have D4 := Lib.hid (D3.out.below (hb4.mono hz3))
          clear hown
          replace hmk := (show (Instr.makeSlice 22 (.int .i64 2001) (.int .i64 2001)).run Try.prog w3 = _ from hmk)
          go_wp2
          go_ret
          refine ⟨List.replicate 2001 0, _, _, by rw [List.length_replicate]; rfl, by rw [List.length_replicate]; omega, by rw [List.length_replicate]; exact O4.out, D4.out⟩
      · have m0 : (x == 0) = false := by rw [beq_eq_false_iff_ne]; exact n0
        have m1 : (x == 1) = false := by rw [beq_eq_false_iff_ne]; exact n1
        obtain ⟨A5, c5, rfl⟩ := own_val O2.out
        go_wp2
        go_ret
        exact ⟨l, A5, c5, rfl, by omega, O2.out, D2.out⟩
theorem drawJournalOf_any (bl : List Int) (hbl : isU8 bl) (hn : bl.length ≤ 4096) (C : Option Addr) (cap : Nat) (w0 : World) (hr : Rd w0 w0.heap.size C (bytesU bl)) :
   Calls Try.prog 46 #[.slice C bl.length cap] w0 fun e w' => ∃ (l : List (Int × Int × Int)) (A : Option Addr) (c : Nat), e = .returned (.slice A l.length c) ∧ l.length ≤ 101 ∧ l.length ≤ c ∧ Rd w' w'.heap.size A (l.flatMap eEventRecord) ∧ Below w0.heap.size w0 w' := by
  have HF := Lib.hid (l01From_any bl hbl hn C w0.heap.size cap w0 hr (Nat.le_refl _))
  have Hr := Lib.hid hr
  have Hbl := Lib.hid hbl
  clear hr hbl
  go_enter Try.func46, Try.ntmps46
  go_wp2_with fail
  refine HF.out.mono ?_
  rintro e w1 ⟨rfl, hs, hb, hz⟩
  have D1 := Lib.hid (DS.start (Hr.out.below hb (Nat.le_refl _)) hs (Nat.le_refl _) Hbl.out hn)
  clear hs HF Hr
  go_wp2_with fail
  refine (l32DrawList_any w1 _ _ C cap bl D1.out).mono ?_
  rintro e w2 ⟨l, A, c, rfl, hl, o2, d2⟩
  have hlc := own_cap o2
  have R2 := Lib.hid (Rd.of_own o2)
  have B2 := Lib.hid (hb.trans (below_of_grownBy (B := w0.heap.size) d2.2.2.1 (by omega) (fun k hk => by injection hk with hk; omega)))
  clear o2 d2
  go_wp2
  go_ret
  exact ⟨l, A, c, rfl, hl, hlc, R2.out, B2.out⟩
end Go.Proofs.Ytjohpakfaommgaa
