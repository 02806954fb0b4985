/- The law on GroupsLoaded: the program and the reference agree. -/
import Derived.Test.YtdjbbjehgfkefaaGe
namespace Go.Proofs.Ytdjbbjehgfkefaa
open Go.ChangeShapes Go.WideShapes Go.ChangeAt Go.RowKit
set_option maxRecDepth 20000
set_option linter.unusedVariables false
set_option linter.unusedSimpArgs false
set_option maxHeartbeats 1000000 in
theorem walkFnExactGroupsLoaded (x y z : Int) (G : List (List Int)) (A : Option Addr) (c : Nat) (n : Int) (w : World) (hr : RdG w w.heap.size A G) (hlc : G.length ≤ c) (hm : c ≤ maxLen) (hG : ∀ l ∈ G, l.length ≤ maxLen) :
   Calls Try.prog 4 #[.agg #[.int .i64 x, .int .i64 y, .int .i64 z], .slice A G.length c, .int .i64 n] w fun e w' => e = .returned (.bool true) ∧ Below w.heap.size w w' := by
  have R0 := Lib.hid (hr.alloc (Nat.le_refl _) (.cells #[.int .i64 x, .int .i64 y, .int .i64 z] 23))
  have K0 := Lib.hid (bk_new w #[.int .i64 x, .int .i64 y, .int .i64 z] 23)
  have B0 := Lib.hid ((Below.refl w.heap.size w).alloc (Nat.le_refl _) (.cells #[.int .i64 x, .int .i64 y, .int .i64 z] 23))
  have hz0 : w.heap.size < (w.alloc (.cells #[.int .i64 x, .int .i64 y, .int .i64 z] 23)).heap.size := by simp
  have HG := Lib.hid hG
  clear hr hG
  go_enter Try.func4, Try.ntmps4
  go_wp2_with fail
  generalize (w.alloc (.cells #[.int .i64 x, .int .i64 y, .int .i64 z] 23)) = w0 at *
  refine (szll_any G A w.heap.size c w0 R0.out (by omega) HG.out).mono ?_
  rintro e w' ⟨q, rfl, hq, rfl⟩
  rcases hq with hq | ⟨hq, hGl, hGe⟩
  · have hd : decide (q < 0) = true := decide_eq_true hq
    go_wp2
    go_ret
    exact ⟨rfl, B0.out⟩
  have hd : decide (q < 0) = false := decide_eq_false (by omega)
  have HGe := Lib.hid hGe
  clear hGe HG
  generalize hwz : w.heap.size = b at *
  obtain ⟨q0, q1, q2, qf, qs⟩ := bk3 K0.out
  go_wp2_with fail
  refine (toHeightRule_any x y z _).mono ?_; rintro e w1 ⟨rfl, b1⟩
  have K1 := Lib.hid (bk_below K0.out b1 (bk_lt K0.out))
  have R1 := Lib.hid (R0.out.below b1 (by omega))
  have B1 := Lib.hid (B0.out.trans (b1.mono (by omega)))
  have z1 := b1.size
  clear b1 K0 R0 B0 q0 q1 q2 qf qs
  go_wp2_with fail
  refine (toGroups_any G A b c w1 R1.out (by omega) hGl HGe.out).mono ?_; rintro e w2 ⟨A2, c2, rfl, o2, b2⟩
  have K2 := Lib.hid (bk_below K1.out b2 (bk_lt K1.out))
  have R2 := Lib.hid (R1.out.below b2 (by omega))
  have B2 := Lib.hid (B1.out.trans (b2.mono (by omega)))
  have z2 := b2.size
  have RS := Lib.hid o2.rd
  clear b2 K1 R1 B1 o2
  go_wp2_with fail
  refine (groups_spec x y z n G (fun l hl => HGe.out l hl) A2 _ c2 w2 RS.out (Nat.le_refl _) hGl).mono ?_; rintro e w3 ⟨rfl, b3⟩
  have K3 := Lib.hid (bk_below K2.out b3 (bk_lt K2.out))
  have R3 := Lib.hid (R2.out.below b3 (by omega))
  have B3 := Lib.hid (B2.out.trans (b3.mono (by omega)))
  have z3 := b3.size
  clear b3 K2 R2 B2 RS
  go_wp2_with fail
  refine (toGroups_any G A b c w3 R3.out (by omega) hGl HGe.out).mono ?_; rintro e w4 ⟨A4, c4, rfl, o4, b4⟩
  have K4 := Lib.hid (bk_below K3.out b4 (bk_lt K3.out))
  have R4 := Lib.hid (R3.out.below b4 (by omega))
  have B4 := Lib.hid (B3.out.trans (b4.mono (by omega)))
  have z4 := b4.size
  have RX := Lib.hid o4.rd
  clear b4 K3 R3 B3 o4
  obtain ⟨q0, q1, q2, qf, qs⟩ := bk3 K4.out
  go_wp2_with fail
  refine (toHeightRule_any x y z _).mono ?_; rintro e w5 ⟨rfl, b5⟩
  have R5 := Lib.hid (R4.out.below b5 (by omega))
  have B5 := Lib.hid (B4.out.trans (b5.mono (by omega)))
  have RX5 := Lib.hid (RX.out.below b5 (Nat.le_refl _))
  have z5 := b5.size
  clear b5 K4 R4 B4 RX q0 q1 q2 qf qs
  go_wp2_with fail
  refine (groups_impl x y z n G (fun l hl => HGe.out l hl) A4 _ c4 w5 RX5.out z5 hGl).mono ?_; rintro e w6 ⟨rfl, b6⟩
  have R6 := Lib.hid (R5.out.below b6 (by omega))
  have B6 := Lib.hid (B5.out.trans (b6.mono (by omega)))
  have RX6 := Lib.hid (RX5.out.below b6 z5)
  have z6 := b6.size
  clear b6 R5 B5 RX5
  generalize grN x y z G n = N at *
  generalize grC x y z G n = K at *
  have hne : ∀ q : Int, (q != q) = false := fun q => by simp
  go_wp2_with fail
  refine (toGroups_any G A b c w6 R6.out (by omega) hGl HGe.out).mono ?_; rintro e w7 ⟨A7, c7, rfl, o7, b7⟩
  have B7 := Lib.hid (B6.out.trans (b7.mono (by omega)))
  have RX7 := Lib.hid ((RX6.out.below b7 (by omega)).more (show w4.heap.size ≤ w7.heap.size by have := b7.size; omega))
  have RY7 := Lib.hid o7.rd
  have z7 := b7.size
  clear b7 R6 B6 RX6 o7
  go_wp2_with fail
  refine (eqGroups_same G A4 A7 _ c4 c7 w7 RX7.out RY7.out (Nat.le_refl _) hGl HGe.out).mono ?_; rintro e w8 ⟨rfl, b8⟩
  have B8 := Lib.hid (B7.out.trans (b8.mono (by omega)))
  clear b8 B7 RX7 RY7
  go_wp2
  go_ret
  exact ⟨rfl, by rw [hwz]; exact B8.out⟩
end Go.Proofs.Ytdjbbjehgfkefaa
