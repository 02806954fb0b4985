/- Sorting in place, at any length: the pivot, the reversal. -/
import Derived.Test.YtmbchcenclfjoaaSq1
namespace Go.Proofs.Ytmbchcenclfjoaa
open Go.ChangeShapes Go.WideShapes Go.ChangeAt Go.RowKit
set_option maxRecDepth 20000
set_option linter.unusedVariables false
set_option linter.unusedSimpArgs false
/-- what a call answers that leaves a row as it is -/
def RowV (base g n c : Nat) (w : World) (d : List Int) (V : Value → Prop) (e : Ending) (w' : World) : Prop := ∃ v : Value, e = .returned v ∧ V v ∧ Row w' base g n c d ∧ w.grownBy w' (some g)
theorem Row.other {w : World} {base g n c : Nat} {d : List Int} (h : Row w base g n c d) {q : Nat} (hq : q ≠ g) (j : Nat) (u : Value) : Row (w.setCell ⟨q, j, none⟩ u) base g n c d := by
  refine World.ownsRow.kept h (w' := w.setCell ⟨q, j, none⟩ u) (row := some q) ⟨rfl, rfl, rfl, by simp, fun k _ hk => heap_setCell_other w ⟨q, j, none⟩ k u (fun e => hk (by simp [e]))⟩ ?_
  right
  simp [Value.ownBlock]
  exact fun e => hq e.symm
theorem grown_setS (w : World) (q j : Nat) (u : Value) : w.grownBy (w.setCell ⟨q, j, none⟩ u) (some q) := ⟨rfl, rfl, rfl, by simp, fun k _ hk => heap_setCell_other w ⟨q, j, none⟩ k u (fun e => hk (by simp [e]))⟩
/-- the counter of exchanges -/
def Cnt (w : World) (q : Nat) (s : Int) : Prop := w.cell? ⟨q, 0, none⟩ = some (.int .i64 s) ∧ w.frozen? ⟨q, 0, none⟩ = false ∧ q < w.heap.size
set_option maxHeartbeats 1000000 in
theorem order2_any (base g n c i j q : Nat) (d : List Int) (s : Int) (w : World) (hi : i < n) (hj : j < n) (hn : n ≤ 1073741824) (hs : 0 ≤ s ∧ s ≤ 100) (hqg : q ≠ g) (h : Row w base g n c d) (hc : Cnt w q s) :
   Calls Try.prog 110 #[.slice (some ⟨g, 0, none⟩) n c, .int .i64 i, .int .i64 j, .pointer (some ⟨q, 0, none⟩)] w fun e w' => ∃ (x y : Nat) (s' : Int), e = .returned (.tuple #[.int .i64 x, .int .i64 y]) ∧ ((x = i ∧ y = j) ∨ (x = j ∧ y = i)) ∧ (s' = s ∨ s' = s + 1) ∧ Row w' base g n c d ∧ Cnt w' q s' ∧ w.grownBy w' (some q) := by
  have H := Lib.hid h
  have c0 := h.cell hi
  have c1 := h.cell hj
  have q0 : (0 : Int) ≤ (i : Int) := by omega
  have q1 : (i : Int) < (n : Int) := by omega
  have q2 : (0 : Int) ≤ (j : Int) := by omega
  have q3 : (j : Int) < (n : Int) := by omega
  obtain ⟨k0, k1, k2⟩ := hc
  clear h
  generalize nth d i = x at *
  generalize nth d j = y at *
  by_cases hx : y < x
  · have hd : decide (y < x) = true := decide_eq_true hx
    go_enter Try.func110, Try.ntmps110
    go_wp2
    go_quiet ((go_at_call 99; exact Calls.quiet_of_same (less_q y x _)))
    go_wp2
    go_ret2
    exact ⟨j, i, s + 1, rfl, .inr ⟨rfl, rfl⟩, .inr rfl, Row.other (H.out.drewN _) hqg _ _, ⟨World.cell?_setCell_same _ _ _ k0, by rw [World.frozen?_setCell]; exact k1, by simpa using k2⟩, grownBy_trans (grown_drewNS (World.grownBy.refl _ _) _) (grown_setS _ q 0 _)⟩
  · have hd : decide (y < x) = false := decide_eq_false hx
    go_enter Try.func110, Try.ntmps110
    go_wp2
    go_quiet ((go_at_call 99; exact Calls.quiet_of_same (less_q y x _)))
    go_wp2
    go_ret2
    exact ⟨i, j, s, rfl, .inl ⟨rfl, rfl⟩, .inl rfl, own_drewN H.out _, ⟨k0, k1, k2⟩, grown_drewNS (World.grownBy.refl _ _) _⟩
set_option maxHeartbeats 1000000 in
theorem median_any (base g n c i j k q : Nat) (d : List Int) (s : Int) (w : World) (hi : i < n) (hj : j < n) (hk : k < n) (hn : n ≤ 1073741824) (hs : 0 ≤ s ∧ s ≤ 90) (hqg : q ≠ g) (h : Row w base g n c d) (hc : Cnt w q s) :
   Calls Try.prog 108 #[.slice (some ⟨g, 0, none⟩) n c, .int .i64 i, .int .i64 j, .int .i64 k, .pointer (some ⟨q, 0, none⟩)] w fun e w' => ∃ (x : Nat) (s' : Int), e = .returned (.int .i64 x) ∧ (x = i ∨ x = j ∨ x = k) ∧ s ≤ s' ∧ s' ≤ s + 3 ∧ Row w' base g n c d ∧ Cnt w' q s' ∧ w.grownBy w' (some q) := by
  have H := Lib.hid h
  have Hc := Lib.hid hc
  clear h hc
  go_enter Try.func108, Try.ntmps108
  go_wp2_with fail
  refine (order2_any base g n c i j q d s w hi hj hn (by omega) hqg H.out Hc.out).mono ?_
  rintro e w1 ⟨x1, y1, s1, rfl, h1, t1, r1, k1, g1⟩
  have R1 := Lib.hid r1
  have K1 := Lib.hid k1
  have G1 := Lib.hid g1
  clear r1 k1 g1 H Hc
  go_wp2_with fail
  refine (order2_any base g n c y1 k q d s1 w1 (by omega) hk hn (by omega) hqg R1.out K1.out).mono ?_
  rintro e w2 ⟨x2, y2, s2, rfl, h2, t2, r2, k2, g2⟩
  have R2 := Lib.hid r2
  have K2 := Lib.hid k2
  have G2 := Lib.hid (grownBy_trans G1.out g2)
  clear r2 k2 g2 R1 K1 G1
  go_wp2_with fail
  refine (order2_any base g n c x1 x2 q d s2 w2 (by omega) (by omega) hn (by omega) hqg R2.out K2.out).mono ?_
  rintro e w3 ⟨x3, y3, s3, rfl, h3, t3, r3, k3, g3⟩
  have R3 := Lib.hid r3
  have K3 := Lib.hid k3
  have G3 := Lib.hid (grownBy_trans G2.out g3)
  clear r3 k3 g3 R2 K2 G2
  go_wp2
  go_ret
  exact ⟨y3, s3, rfl, by omega, by omega, by omega, R3.out, K3.out, G3.out⟩
set_option maxHeartbeats 1000000 in
theorem adjacent_any (base g n c i q : Nat) (d : List Int) (s : Int) (w : World) (h1 : 1 ≤ i) (hi : i + 1 < n) (hn : n ≤ 1073741824) (hs : 0 ≤ s ∧ s ≤ 90) (hqg : q ≠ g) (h : Row w base g n c d) (hc : Cnt w q s) :
   Calls Try.prog 107 #[.slice (some ⟨g, 0, none⟩) n c, .int .i64 i, .pointer (some ⟨q, 0, none⟩)] w fun e w' => ∃ (x : Nat) (s' : Int), e = .returned (.int .i64 x) ∧ i ≤ x + 1 ∧ x ≤ i + 1 ∧ s ≤ s' ∧ s' ≤ s + 3 ∧ Row w' base g n c d ∧ Cnt w' q s' ∧ w.grownBy w' (some q) := by
  have hmed := median_any base g n c (i - 1) i (i + 1) q d s w (by omega) (by omega) hi hn hs hqg h hc
  rw [show ((i + 1 : Nat) : Int) = (i : Int) + 1 by omega] at hmed
  have HM := Lib.hid hmed
  have e1 : IntKind.i64.wrap ((i : Int) - 1) = ((i - 1 : Nat) : Int) := by rw [show (i : Int) - 1 = ((i - 1 : Nat) : Int) by omega]; exact IntWalk.i64_in _ (by omega)
  have e2 : (i : Int) - 1 = ((i - 1 : Nat) : Int) := by omega
  clear hmed h hc
  go_enter Try.func107, Try.ntmps107
  go_wp2_with fail
  refine HM.out.mono ?_
  rintro e w1 ⟨x, s1, rfl, hx, t0, t1, r1, k1, g1⟩
  go_wp2
  go_ret
  exact ⟨x, s1, rfl, by omega, by omega, t0, t1, r1, k1, g1⟩
theorem grown_belowS {w w' : World} {row : Option Nat} (hb : Below w.heap.size w w') : w.grownBy w' row := ⟨hb.os, hb.tape, hb.output, hb.size, fun i hi _ => hb.block i hi⟩
theorem grown_fresh {w w' : World} {q g : Nat} (h : w.grownBy w' (some q)) (B : Nat) (w0 : World) (hw : w0.grownBy w (some g)) (hB : w0.heap.size ≤ q) : w0.grownBy w' (some g) :=
  ⟨h.os.trans hw.os, h.tape.trans hw.tape, h.output.trans hw.output, Nat.le_trans hw.size h.size, fun k hk hkg => (h.block k (Nat.lt_of_lt_of_le hk hw.size) (by simp; omega)).trans (hw.block k hk hkg)⟩
set_option maxHeartbeats 4000000 in
theorem pivot_any (base g n c a b : Nat) (d : List Int) (w : World) (hn : n ≤ 1073741824) (hab : a + 12 < b) (hb : b ≤ n) (h : Row w base g n c d) :
   Calls Try.prog 96 #[.slice (some ⟨g, 0, none⟩) n c, .int .i64 a, .int .i64 b] w (RowV base g n c w d (fun v => ∃ (p : Nat) (hint : Int), v = .tuple #[.int .i64 p, .int .i64 hint] ∧ a ≤ p ∧ p < b ∧ (hint = 0 ∨ hint = 1 ∨ hint = 2))) := by
  have hgw : g < w.heap.size := ((own_lt h) g rfl).2
  have H : Hid (Row (w.alloc (.cells #[.int .i64 0] 3)) base g n c d) := Lib.hid (World.ownsRow.alloc h _)
  have K : Hid (Cnt (w.alloc (.cells #[.int .i64 0] 3)) w.heap.size 0) := Lib.hid ⟨by go_cell, by go_cell, by simp⟩
  have G : Hid (w.grownBy (w.alloc (.cells #[.int .i64 0] 3)) (some g)) := Lib.hid (grown_belowS ((Below.refl _ _).alloc (Nat.le_refl _) _))
  obtain ⟨m, hm⟩ : ∃ m, m = (b - a) / 4 := ⟨_, rfl⟩
  have hm2 : a + m * 3 < b ∧ 3 ≤ m ∧ m ≤ 1073741824 := by omega
  have e0 : ((b : Int) - (a : Int)) / 4 = (m : Int) := by omega
  have e8 : 8 ≤ (b : Int) - (a : Int) := by omega
  have Hgq := Lib.hid (show w.heap.size ≠ g by omega)
  have c1 : ((a + m : Nat) : Int) = (a : Int) + (m : Int) := by omega
  have c2 : ((a + m * 2 : Nat) : Int) = (a : Int) + (m : Int) * 2 := by omega
  have c3 : ((a + m * 3 : Nat) : Int) = (a : Int) + (m : Int) * 3 := by omega
  by_cases h50 : 50 ≤ b - a
  · have e50 : 50 ≤ (b : Int) - (a : Int) := by omega
    have hm3 : 12 ≤ m ∧ a + m * 3 + 1 < b := by omega
    have hA1 := adjacent_any base g n c (a + m) w.heap.size d 0 (w.alloc (.cells #[.int .i64 0] 3)) (by omega) (by omega) hn (by omega) (by omega) H.out K.out
    have hA2 := fun (s : Int) (hs : 0 ≤ s ∧ s ≤ 90) (w' : World) (h : Row w' base g n c d) (hc : Cnt w' w.heap.size s) => adjacent_any base g n c (a + m * 2) w.heap.size d s w' (by omega) (by omega) hn hs (by omega) h hc
    have hA3 := fun (s : Int) (hs : 0 ≤ s ∧ s ≤ 90) (w' : World) (h : Row w' base g n c d) (hc : Cnt w' w.heap.size s) => adjacent_any base g n c (a + m * 3) w.heap.size d s w' (by omega) (by omega) hn hs (by omega) h hc
    rw [c1] at hA1
    rw [c2] at hA2
    rw [c3] at hA3
    have HA1 := Lib.hid hA1
    have HA2 := Lib.hid hA2
    have HA3 := Lib.hid hA3
    clear hA1 hA2 hA3 h hm H K c1 c2 c3
    go_enter Try.func96, Try.ntmps96
    go_wp2_with fail
    refine HA1.out.mono ?_
    rintro e w1 ⟨x1, s1, rfl, hx1, hx1', t1, t1', r1, k1, g1⟩
    have R1 := Lib.hid r1
    have K1 := Lib.hid k1
    have G1 := Lib.hid (grown_fresh g1 0 w G.out (Nat.le_refl _))
    clear r1 k1 g1 G HA1
    go_wp2_with fail
    refine (HA2.out s1 (by omega) w1 R1.out K1.out).mono ?_
    rintro e w2 ⟨x2, s2, rfl, hx2, hx2', t2, t2', r1, k1, g1⟩
    have R2 := Lib.hid r1
    have K2 := Lib.hid k1
    have G2 := Lib.hid (grown_fresh g1 0 w G1.out (Nat.le_refl _))
    clear r1 k1 g1 R1 K1 G1 HA2
    go_wp2_with fail
    refine (HA3.out s2 (by omega) w2 R2.out K2.out).mono ?_
    rintro e w3 ⟨x3, s3, rfl, hx3, hx3', t3, t3', r1, k1, g1⟩
    have R3 := Lib.hid r1
    have K3 := Lib.hid k1
    have G3 := Lib.hid (grown_fresh g1 0 w G2.out (Nat.le_refl _))
    clear r1 k1 g1 R2 K2 G2 HA3
    go_wp2_with fail
    refine (median_any base g n c x1 x2 x3 w.heap.size d s3 w3 (by omega) (by omega) (by omega) hn (by omega) Hgq.out R3.out K3.out).mono ?_
    rintro e w4 ⟨x, s, rfl, hx, t0, t4, r1, ⟨k0, k1, k2⟩, g1⟩
    have R1 := Lib.hid r1
    have G1 := Lib.hid (grown_fresh g1 0 w G3.out (Nat.le_refl _))
    clear r1 g1 k1 R3 K3 G3
    have hxr : a ≤ x ∧ x < b := by omega
    by_cases h0 : s = 0
    · have q1 : (s == 0) = true := by simpa using h0
      go_wp2
      go_ret2
      exact ⟨_, rfl, ⟨x, 1, rfl, hxr.1, hxr.2, .inr (.inl rfl)⟩, R1.out, G1.out⟩
    · have q1 : (s == 0) = false := by simpa using h0
      by_cases h12 : s = 12
      · have q2 : (s == 12) = true := by simpa using h12
        go_wp2
        go_ret2
        exact ⟨_, rfl, ⟨x, 2, rfl, hxr.1, hxr.2, .inr (.inr rfl)⟩, R1.out, G1.out⟩
      · have q2 : (s == 12) = false := by simpa using h12
        go_wp2
        go_ret2
        exact ⟨_, rfl, ⟨x, 0, rfl, hxr.1, hxr.2, .inl rfl⟩, R1.out, G1.out⟩
  · have e50 : ¬ 50 ≤ (b : Int) - (a : Int) := by omega
    have hmed := median_any base g n c (a + m) (a + m * 2) (a + m * 3) w.heap.size d 0 (w.alloc (.cells #[.int .i64 0] 3)) (by omega) (by omega) (by omega) hn (by omega) (by omega) H.out K.out
    rw [c1, c2, c3] at hmed
    have HM := Lib.hid hmed
    clear hmed h hm H K c1 c2 c3
    go_enter Try.func96, Try.ntmps96
    go_wp2_with fail
    refine HM.out.mono ?_
    rintro e w1 ⟨x, s, rfl, hx, t0, t3, r1, ⟨k0, k1, k2⟩, g1⟩
    have R1 := Lib.hid r1
    have G1 := Lib.hid (grown_fresh g1 0 w G.out (Nat.le_refl _))
    clear r1 g1 HM G k1
    have hxr : a ≤ x ∧ x < b := by omega
    by_cases h0 : s = 0
    · have q1 : (s == 0) = true := by simpa using h0
      go_wp2
      go_ret2
      exact ⟨_, rfl, ⟨x, 1, rfl, hxr.1, hxr.2, .inr (.inl rfl)⟩, R1.out, G1.out⟩
    · have q1 : (s == 0) = false := by simpa using h0
      by_cases h12 : s = 12
      · have q2 : (s == 12) = true := by simpa using h12
        go_wp2
        go_ret2
        exact ⟨_, rfl, ⟨x, 2, rfl, hxr.1, hxr.2, .inr (.inr rfl)⟩, R1.out, G1.out⟩
      · have q2 : (s == 12) = false := by simpa using h12
        go_wp2
        go_ret2
        exact ⟨_, rfl, ⟨x, 0, rfl, hxr.1, hxr.2, .inl rfl⟩, R1.out, G1.out⟩
set_option maxHeartbeats 2000000 in
theorem reverse_any (base g n c a b : Nat) (d0 : List Int) (w : World) (hn : n ≤ 1073741824) (hab : a < b) (hb : b ≤ n) (h : Row w base g n c d0) :
   Calls Try.prog 97 #[.slice (some ⟨g, 0, none⟩) n c, .int .i64 a, .int .i64 b] w (RowP base g n c w (fun d => Sw a b d0 d)) := by
  have H := Lib.hid h
  have e2 : (b : Int) - 1 = ((b - 1 : Nat) : Int) := by omega
  clear h
  go_enter Try.func97, Try.ntmps97
  go_wp2_with fail
  go_loopw [6, 7] (fun v u wr => ∃ (i j : Nat) (d' : List Int), a ≤ i ∧ j < b ∧ i ≤ j + 2 ∧ v = .int .i64 i ∧ u = .int .i64 j ∧ Sw a b d0 d' ∧ Row wr base g n c d' ∧ w.grownBy wr (some g)) (fun v _ _ => b - (intOf v).toNat)
  case atStart => exact ⟨a, b - 1, d0, by omega, by omega, by omega, rfl, by first | rfl | go_num | (congr 1; omega), Sw.refl, H.out, World.grownBy.refl _ _⟩
  case round =>
    clear H e2
    obtain ⟨i, j, d', hi1, hj1, hij2, rfl, rfl, hs, hr, hg⟩ := hrel
    have Hr := Lib.hid hr
    have Hg := Lib.hid hg
    have Hs := Lib.hid hs
    clear hr hg hs
    generalize wr = wo at *
    by_cases hij : i < j
    · have q4 : (i : Int) < (j : Int) := by omega
      have e2 : (j : Int) - 1 = ((j - 1 : Nat) : Int) := by omega
      have hfz := Hr.out.frozenAt
      have c0 := Hr.out.cell (show i < n by omega)
      have c1 := Hr.out.cell (show j < n by omega)
      have q0 : (0 : Int) ≤ (i : Int) := by omega
      have q1 : (i : Int) < (n : Int) := by omega
      have q2 : (0 : Int) ≤ (j : Int) := by omega
      have q3 : (j : Int) < (n : Int) := by omega
      have RD := Lib.hid (own_drew (Hr.out.ex i j))
      have GD := Lib.hid (fun u v => grown_drewS (grownBy_trans Hg.out (grown_swp _ g i j u v)))
      have SD := Lib.hid (Hs.out.ex (i := i) (j := j) (by omega) (by omega) (by omega) (by omega))
      generalize hD : swp d' i j = d2 at *
      generalize nth d' i = x at *
      generalize nth d' j = y at *
      clear hD
      obtain ⟨v9, hy⟩ := cell?_setCell_some (p := ⟨g, i, none⟩) (x := .int .i64 y) (q := ⟨g, j, none⟩) (v := .int .i64 y) c1
      go_wp2_with fail
      go_region
      have GE := Lib.hid (GD.out (.int .i64 y) (.int .i64 x))
      clear GD c0 c1 hy hfz Hr Hg
      go_wp2
      go_roundw
      case rel => exact ⟨i + 1, j - 1, d2, by omega, by omega, by omega, by go_num, by first | rfl | go_num | (congr 1; omega), SD.out, RD.out, GE.out⟩
      case measure => simp [intOf]; omega
    · have q4 : ¬ (i : Int) < (j : Int) := by omega
      go_wp2
      go_end0
      exact ⟨d', rfl, Hs.out, Hr.out, Hg.out⟩
end Go.Proofs.Ytmbchcenclfjoaa
