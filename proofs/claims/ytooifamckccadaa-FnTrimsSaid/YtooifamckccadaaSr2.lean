/- The sort of few numbers: the test for order, and the pivot. -/
import Derived.Test.YtooifamckccadaaSr1
namespace Go.Proofs.Ytooifamckccadaa
open Go.ChangeShapes Go.WideShapes Go.ChangeAt Go.RowKit
set_option maxRecDepth 20000
set_option linter.unusedVariables false
set_option linter.unusedSimpArgs false
/-- what a call answers that leaves a row where it is -/
def RowV (base g n c : Nat) (w : World) (V : Value → Prop) (e : Ending) (w' : World) : Prop := ∃ (v : Value) (d' : List Int), e = .returned v ∧ V v ∧ Row w' base g n c d' ∧ w.grownBy w' (some g)
set_option maxHeartbeats 4000000 in
theorem partial_any (base g n c a b : Nat) (d : List Int) (w : World) (hn : n ≤ 24) (hab : a < b) (hb : b ≤ n) (h : Row w base g n c d) :
   Calls Try.prog 197 #[.slice (some ⟨g, 0, none⟩) n c, .int .i64 a, .int .i64 b] w (RowV base g n c w (fun v => ∃ r : Bool, v = .bool r)) := by
  have H := Lib.hid h
  clear h
  go_enter Try.func197, Try.ntmps197
  go_wp2_with fail
  go_loopw [7, 8] (fun v u wr => v = .int .i64 ((a + 1 : Nat) : Int) ∧ u = .int .i64 0 ∧ wr = w) (fun _ _ _ => 0)
  case atStart => exact ⟨by go_num, rfl, rfl⟩
  case round =>
    obtain ⟨rfl, rfl, hwr⟩ := hrel
    subst hwr
    go_wp2_with fail
    go_loopw [7] (fun v wr2 => ∃ i : Nat, a < i ∧ i ≤ b ∧ v = .int .i64 i ∧ Row wr2 base g n c d ∧ wr.grownBy wr2 (some g)) (fun v _ => b - (intOf v).toNat)
    case atStart => exact ⟨a + 1, by omega, by omega, rfl, H.out, World.grownBy.refl _ _⟩
    case round =>
      obtain ⟨i, hai, hib, rfl, hr, hg⟩ := hrel
      have Hr := Lib.hid hr
      have Hg := Lib.hid hg
      by_cases hlt : i < b
      · have c0 := hr.cell (show i < n by omega)
        have c1 := hr.cell (show i - 1 < n by omega)
        have q0 : (0 : Int) ≤ (i : Int) := by omega
        have q1 : (i : Int) < (n : Int) := by omega
        have q2 : (0 : Int) ≤ ((i - 1 : Nat) : Int) := by omega
        have q3 : ((i - 1 : Nat) : Int) < (n : Int) := by omega
        have q4 : (i : Int) < (b : Int) := by omega
        have q5 : ((i : Int) == (b : Int)) = false := by rw [beq_eq_false_iff_ne]; omega
        have q6 : (b : Int) - (a : Int) < 50 := by omega
        have e1 : IntKind.i64.wrap ((i : Int) - 1) = ((i - 1 : Nat) : Int) := by rw [show (i : Int) - 1 = ((i - 1 : Nat) : Int) by omega]; exact IntWalk.i64_in _ (by omega)
        clear hr hg
        generalize nth d i = x at *
        generalize nth d (i - 1) = y at *
        by_cases hx : x < y
        · have hd : decide (x < y) = true := decide_eq_true hx
          clear hx
          go_wp2
          go_quiet ((go_at_call 198; exact Calls.quiet_of_same (less_q x y _)))
          go_wp2
          go_ret
          exact ⟨_, d, rfl, ⟨_, rfl⟩, Hr.out.drewN _, grown_drewNS Hg.out _⟩
        · have hd : decide (x < y) = false := decide_eq_false hx
          clear hx
          go_wp2
          go_quiet ((go_at_call 198; exact Calls.quiet_of_same (less_q x y _)))
          go_wp2
          go_roundw
          case rel => exact ⟨i + 1, by omega, by omega, by go_num, Hr.out.drewN _, grown_drewNS Hg.out _⟩
          case measure => simp [intOf]; omega
      · have hib' : i = b := by omega
        subst hib'
        have q4 : decide ((i : Int) < (i : Int)) = false := by simp
        clear hr hg
        go_wp2
        go_quiet (fail)
        go_wp2
        go_ret
        exact ⟨_, d, rfl, ⟨_, rfl⟩, Hr.out.drewN _, grown_drewNS Hg.out _⟩
theorem Row.other {w : World} {base g n c : Nat} {d : List Int} (h : Row w base g n c d) {q : Nat} (hq : q ≠ g) (j : Nat) (u : Value) : Row (w.setCell ⟨q, j, none⟩ u) base g n c d := by
  refine World.ownsRow.kept h (w' := w.setCell ⟨q, j, none⟩ u) (row := some q) ⟨rfl, rfl, rfl, by simp, fun k _ hk => heap_setCell_other w ⟨q, j, none⟩ k u (fun e => hk (by simp [e]))⟩ ?_
  right
  simp [Value.ownBlock]
  exact fun e => hq e.symm
theorem grown_setS (w : World) (q j : Nat) (u : Value) : w.grownBy (w.setCell ⟨q, j, none⟩ u) (some q) := ⟨rfl, rfl, rfl, by simp, fun k _ hk => heap_setCell_other w ⟨q, j, none⟩ k u (fun e => hk (by simp [e]))⟩
/-- the counter of exchanges -/
def Cnt (w : World) (q : Nat) (s : Int) : Prop := w.cell? ⟨q, 0, none⟩ = some (.int .i64 s) ∧ w.frozen? ⟨q, 0, none⟩ = false ∧ q < w.heap.size
set_option maxHeartbeats 1000000 in
theorem order2_any (base g n c i j q : Nat) (d : List Int) (s : Int) (w : World) (hi : i < n) (hj : j < n) (hn : n ≤ 24) (hs : 0 ≤ s ∧ s ≤ 100) (hqg : q ≠ g) (h : Row w base g n c d) (hc : Cnt w q s) :
   Calls Try.prog 209 #[.slice (some ⟨g, 0, none⟩) n c, .int .i64 i, .int .i64 j, .pointer (some ⟨q, 0, none⟩)] w fun e w' => ∃ (x y : Nat) (s' : Int), e = .returned (.tuple #[.int .i64 x, .int .i64 y]) ∧ ((x = i ∧ y = j) ∨ (x = j ∧ y = i)) ∧ (s' = s ∨ s' = s + 1) ∧ Row w' base g n c d ∧ Cnt w' q s' ∧ w.grownBy w' (some q) := by
  have H := Lib.hid h
  have c0 := h.cell hi
  have c1 := h.cell hj
  have q0 : (0 : Int) ≤ (i : Int) := by omega
  have q1 : (i : Int) < (n : Int) := by omega
  have q2 : (0 : Int) ≤ (j : Int) := by omega
  have q3 : (j : Int) < (n : Int) := by omega
  obtain ⟨k0, k1, k2⟩ := hc
  clear h
  generalize nth d i = x at *
  generalize nth d j = y at *
  by_cases hx : y < x
  · have hd : decide (y < x) = true := decide_eq_true hx
    go_enter Try.func209, Try.ntmps209
    go_wp2
    go_quiet ((go_at_call 198; exact Calls.quiet_of_same (less_q y x _)))
    go_wp2
    go_ret2
    exact ⟨j, i, s + 1, rfl, .inr ⟨rfl, rfl⟩, .inr rfl, Row.other (H.out.drewN _) hqg _ _, ⟨World.cell?_setCell_same _ _ _ k0, by rw [World.frozen?_setCell]; exact k1, by simpa using k2⟩, grownBy_trans (grown_drewNS (World.grownBy.refl _ _) _) (grown_setS _ q 0 _)⟩
  · have hd : decide (y < x) = false := decide_eq_false hx
    go_enter Try.func209, Try.ntmps209
    go_wp2
    go_quiet ((go_at_call 198; exact Calls.quiet_of_same (less_q y x _)))
    go_wp2
    go_ret2
    exact ⟨i, j, s, rfl, .inl ⟨rfl, rfl⟩, .inl rfl, own_drewN H.out _, ⟨k0, k1, k2⟩, grown_drewNS (World.grownBy.refl _ _) _⟩
set_option maxHeartbeats 1000000 in
theorem median_any (base g n c i j k q : Nat) (d : List Int) (s : Int) (w : World) (hi : i < n) (hj : j < n) (hk : k < n) (hn : n ≤ 24) (hs : 0 ≤ s ∧ s ≤ 90) (hqg : q ≠ g) (h : Row w base g n c d) (hc : Cnt w q s) :
   Calls Try.prog 207 #[.slice (some ⟨g, 0, none⟩) n c, .int .i64 i, .int .i64 j, .int .i64 k, .pointer (some ⟨q, 0, none⟩)] w fun e w' => ∃ (x : Nat) (s' : Int), e = .returned (.int .i64 x) ∧ (x = i ∨ x = j ∨ x = k) ∧ s ≤ s' ∧ s' ≤ s + 3 ∧ Row w' base g n c d ∧ Cnt w' q s' ∧ w.grownBy w' (some q) := by
  have H := Lib.hid h
  have Hc := Lib.hid hc
  clear h hc
  go_enter Try.func207, Try.ntmps207
  go_wp2_with fail
  refine (order2_any base g n c i j q d s w hi hj hn (by omega) hqg H.out Hc.out).mono ?_
  rintro e w1 ⟨x1, y1, s1, rfl, h1, t1, r1, k1, g1⟩
  have R1 := Lib.hid r1
  have K1 := Lib.hid k1
  have G1 := Lib.hid g1
  clear r1 k1 g1 H Hc
  go_wp2_with fail
  refine (order2_any base g n c y1 k q d s1 w1 (by omega) hk hn (by omega) hqg R1.out K1.out).mono ?_
  rintro e w2 ⟨x2, y2, s2, rfl, h2, t2, r2, k2, g2⟩
  have R2 := Lib.hid r2
  have K2 := Lib.hid k2
  have G2 := Lib.hid (grownBy_trans G1.out g2)
  clear r2 k2 g2 R1 K1 G1
  go_wp2_with fail
  refine (order2_any base g n c x1 x2 q d s2 w2 (by omega) (by omega) hn (by omega) hqg R2.out K2.out).mono ?_
  rintro e w3 ⟨x3, y3, s3, rfl, h3, t3, r3, k3, g3⟩
  have R3 := Lib.hid r3
  have K3 := Lib.hid k3
  have G3 := Lib.hid (grownBy_trans G2.out g3)
  clear r3 k3 g3 R2 K2 G2
  go_wp2
  go_ret
  exact ⟨y3, s3, rfl, by omega, by omega, by omega, R3.out, K3.out, G3.out⟩
theorem grown_belowS {w w' : World} {row : Option Nat} (hb : Below w.heap.size w w') : w.grownBy w' row := ⟨hb.os, hb.tape, hb.output, hb.size, fun i hi _ => hb.block i hi⟩
theorem grown_fresh {w w' : World} {q g : Nat} (h : w.grownBy w' (some q)) (B : Nat) (w0 : World) (hw : w0.grownBy w (some g)) (hB : w0.heap.size ≤ q) : w0.grownBy w' (some g) :=
  ⟨h.os.trans hw.os, h.tape.trans hw.tape, h.output.trans hw.output, Nat.le_trans hw.size h.size, fun k hk hkg => (h.block k (Nat.lt_of_lt_of_le hk hw.size) (by simp; omega)).trans (hw.block k hk hkg)⟩
set_option maxHeartbeats 2000000 in
theorem pivot_any (base g n c a b : Nat) (d : List Int) (w : World) (hn : n ≤ 24) (hab : a + 12 < b) (hb : b ≤ n) (h : Row w base g n c d) :
   Calls Try.prog 195 #[.slice (some ⟨g, 0, none⟩) n c, .int .i64 a, .int .i64 b] w (RowV base g n c w (fun v => ∃ (p : Nat) (hint : Int), v = .tuple #[.int .i64 p, .int .i64 hint] ∧ a ≤ p ∧ p < b ∧ (hint = 0 ∨ hint = 1))) := by
  have hgw : g < w.heap.size := ((own_lt h) g rfl).2
  have H : Hid (Row (w.alloc (.cells #[.int .i64 0] 3)) base g n c d) := Lib.hid (World.ownsRow.alloc h _)
  have K : Hid (Cnt (w.alloc (.cells #[.int .i64 0] 3)) w.heap.size 0) := Lib.hid ⟨by go_cell, by go_cell, by simp⟩
  have G : Hid (w.grownBy (w.alloc (.cells #[.int .i64 0] 3)) (some g)) := Lib.hid (grown_belowS ((Below.refl _ _).alloc (Nat.le_refl _) _))
  obtain ⟨m, hm⟩ : ∃ m, m = (b - a) / 4 := ⟨_, rfl⟩
  have hm2 : a + m * 3 < b ∧ 3 ≤ m ∧ m ≤ 6 := by omega
  have e0 : ((b : Int) - (a : Int)) / 4 = (m : Int) := by omega
  have hmed := median_any base g n c (a + m) (a + m * 2) (a + m * 3) w.heap.size d 0 (w.alloc (.cells #[.int .i64 0] 3)) (by omega) (by omega) (by omega) hn (by omega) (by omega) H.out K.out
  rw [show ((a + m : Nat) : Int) = (a : Int) + (m : Int) by omega, show ((a + m * 2 : Nat) : Int) = (a : Int) + (m : Int) * 2 by omega, show ((a + m * 3 : Nat) : Int) = (a : Int) + (m : Int) * 3 by omega] at hmed
  have HM := Lib.hid hmed
  clear hmed
  have Hgq := Lib.hid (show w.heap.size ≠ g by omega)
  clear h hm H K
  go_enter Try.func195, Try.ntmps195
  go_wp2_with fail
  refine HM.out.mono ?_
  rintro e w1 ⟨x, s, rfl, hx, t0, t3, r1, ⟨k0, k1, k2⟩, g1⟩
  have R1 := Lib.hid r1
  have G1 := Lib.hid (grown_fresh g1 0 w G.out (Nat.le_refl _))
  clear r1 g1 HM G k1
  have hxr : a ≤ x ∧ x < b := by omega
  clear hx
  have q2 : (s == 12) = false := by rw [beq_eq_false_iff_ne]; omega
  by_cases h0 : s = 0
  · have q1 : (s == 0) = true := by simpa using h0
    go_wp2
    go_ret2
    exact ⟨_, d, rfl, ⟨x, 1, rfl, by omega, by omega, .inr rfl⟩, R1.out, G1.out⟩
  · have q1 : (s == 0) = false := by simpa using h0
    go_wp2
    go_ret2
    exact ⟨_, d, rfl, ⟨x, 0, rfl, by omega, by omega, .inl rfl⟩, R1.out, G1.out⟩
end Go.Proofs.Ytooifamckccadaa
