/- Sorting in place, at any length: the number of bits, the breaking of patterns. -/
import Derived.Test.YtmbchcenclfjoaaSq2
import Derived.Laws.BitsLemmas
import Derived.Deep.DeepCutAuto
namespace Go.Proofs.Ytmbchcenclfjoaa
open Go.ChangeShapes Go.WideShapes Go.ChangeAt Go.RowKit
set_option maxRecDepth 20000
set_option linter.unusedVariables false
set_option linter.unusedSimpArgs false
/-- how many bits the numbers from 0 to 255 have -/
def bitsT : ByteArray := ⟨#[0, 1, 2, 2, 3, 3, 3, 3, 4, 4, 4, 4, 4, 4, 4, 4, 5, 5, 5, 5, 5, 5, 5, 5, 5, 5, 5, 5, 5, 5, 5, 5, 6, 6, 6, 6, 6, 6, 6, 6, 6, 6, 6, 6, 6, 6, 6, 6, 6, 6, 6, 6, 6, 6, 6, 6, 6, 6, 6, 6, 6, 6, 6, 6, 7, 7, 7, 7, 7, 7, 7, 7, 7, 7, 7, 7, 7, 7, 7, 7, 7, 7, 7, 7, 7, 7, 7, 7, 7, 7, 7, 7, 7, 7, 7, 7, 7, 7, 7, 7, 7, 7, 7, 7, 7, 7, 7, 7, 7, 7, 7, 7, 7, 7, 7, 7, 7, 7, 7, 7, 7, 7, 7, 7, 7, 7, 7, 7, 8, 8, 8, 8, 8, 8, 8, 8, 8, 8, 8, 8, 8, 8, 8, 8, 8, 8, 8, 8, 8, 8, 8, 8, 8, 8, 8, 8, 8, 8, 8, 8, 8, 8, 8, 8, 8, 8, 8, 8, 8, 8, 8, 8, 8, 8, 8, 8, 8, 8, 8, 8, 8, 8, 8, 8, 8, 8, 8, 8, 8, 8, 8, 8, 8, 8, 8, 8, 8, 8, 8, 8, 8, 8, 8, 8, 8, 8, 8, 8, 8, 8, 8, 8, 8, 8, 8, 8, 8, 8, 8, 8, 8, 8, 8, 8, 8, 8, 8, 8, 8, 8, 8, 8, 8, 8, 8, 8, 8, 8, 8, 8, 8, 8, 8, 8, 8, 8, 8, 8, 8, 8, 8, 8, 8, 8, 8, 8]⟩
theorem bitsT_size : bitsT.size = 256 := by kernel_rfl
def okT8 (i : Nat) : Bool := match bitsT.data[i]? with | some b => decide (b.toNat ≤ 8) && (i == 0 || decide (2 ^ b.toNat ≤ 2 * i)) | none => true
theorem okT8_all : ((List.range 256).all okT8) = true := by kernel_rfl
theorem bitsT_at (i : Nat) (hi : i < 256) (hs : i < bitsT.size) : (bitsT[i]'hs).toNat ≤ 8 ∧ (1 ≤ i → 2 ^ (bitsT[i]'hs).toNat ≤ 2 * i) := by
  have h := (List.all_eq_true.1 okT8_all) i (List.mem_range.2 hi)
  have e : bitsT.data[i]? = some (bitsT[i]'hs) := by
    have : i < bitsT.data.size := hs
    rw [Array.getElem?_eq_getElem this]
    rfl
  unfold okT8 at h
  rw [e] at h
  simp only [Bool.and_eq_true, decide_eq_true_eq, Bool.or_eq_true, beq_iff_eq] at h
  exact ⟨h.1, fun h1 => by rcases h.2 with h2 | h2; omega; exact h2⟩
theorem wrap64_id {x : Int} (h1 : -9223372036854775808 ≤ x) (h2 : x < 9223372036854775808) : wrap64 x = x := (IntWalk.i64_left x).symm.trans (IntWalk.i64_in _ (by omega))
def LenP (x : Nat) (w : World) (e : Ending) (w' : World) : Prop := ∃ L : Nat, e = .returned (.int .i64 L) ∧ L ≤ 32 ∧ (1 ≤ x → 2 ^ L ≤ 2 * x) ∧ w' = w
theorem lenP_mk {x y k : Nat} {w : World} {V : Int} (hy : y < 256) (hs : y < bitsT.size) (hV : V = ((k + (bitsT[y]'hs).toNat : Nat) : Int)) (hk : k ≤ 24) (hx : 1 ≤ x → 1 ≤ y ∧ 2 ^ k * (2 * y) ≤ 2 * x) : LenP x w (.returned (.int .i64 V)) w := by
  obtain ⟨h1, h2⟩ := bitsT_at y hy hs
  refine ⟨k + (bitsT[y]'hs).toNat, by rw [hV], by omega, fun h => ?_, rfl⟩
  obtain ⟨h3, h4⟩ := hx h
  rw [Nat.pow_add]
  exact Nat.le_trans (Nat.mul_le_mul_left _ (h2 h3)) h4
set_option maxHeartbeats 2000000 in
theorem len64_lo (x : Nat) (w : World) (hx : x < 256) :
   Calls Try.prog 103 #[.int .u64 x] w (LenP x w) := by
  have h1 : ¬ 4294967296 ≤ (x : Int) := by omega
  have h2 : ¬ 65536 ≤ (x : Int) := by omega
  have h3 : ¬ 256 ≤ (x : Int) := by omega
  have hs : x < bitsT.size := by rw [bitsT_size]; exact hx
  go_enter Try.func103, Try.ntmps103
  go_wp2
  go_ret
  refine lenP_mk (k := 0) hx hs ?_ (by omega) (fun h => ⟨h, by omega⟩)
  have hb := bitsT_at x hx hs
  show wrap64 (wrap64 ((bitsT[x]'hs).toNat : Int)) = _
  rw [wrap64_id (x := ((bitsT[x]'hs).toNat : Int)) (by omega) (by omega), wrap64_id (by omega) (by omega), Nat.zero_add]
set_option maxHeartbeats 2000000 in
theorem len64_8 (x : Nat) (w : World) (h0 : 256 ≤ x) (hx : x < 65536) :
   Calls Try.prog 103 #[.int .u64 x] w (LenP x w) := by
  have h1 : ¬ 4294967296 ≤ (x : Int) := by omega
  have h2 : ¬ 65536 ≤ (x : Int) := by omega
  have h3 : 256 ≤ (x : Int) := by omega
  obtain ⟨y, hy⟩ : ∃ y, y = x / 256 := ⟨_, rfl⟩
  have hy2 : y < 256 ∧ 1 ≤ y ∧ 256 * y ≤ x := by omega
  have e : (x : Int) / 256 = (y : Int) := by omega
  have hs : y < bitsT.size := by rw [bitsT_size]; exact hy2.1
  have e8 : IntKind.u8.wrap (y : Int) = (y : Int) := by rw [IntKind.wrap_u8]; omega
  have hy3 := hy2.1
  have hy4 : (y : Int) < 256 := by omega
  clear hy
  go_enter Try.func103, Try.ntmps103
  go_upto_region 10 with fail
  go_wp2
  go_ret
  refine lenP_mk (k := 8) hy2.1 hs ?_ (by omega) (fun h => ⟨hy2.2.1, by omega⟩)
  have hb := bitsT_at y hy2.1 hs
  show wrap64 (8 + wrap64 ((bitsT[y]'hs).toNat : Int)) = _
  rw [wrap64_id (x := ((bitsT[y]'hs).toNat : Int)) (by omega) (by omega), wrap64_id (by omega) (by omega)]
  omega
set_option maxHeartbeats 2000000 in
theorem len64_16 (x : Nat) (w : World) (h0 : 65536 ≤ x) (hx : x < 16777216) :
   Calls Try.prog 103 #[.int .u64 x] w (LenP x w) := by
  have h1 : ¬ 4294967296 ≤ (x : Int) := by omega
  have h2 : 65536 ≤ (x : Int) := by omega
  obtain ⟨y, hy⟩ : ∃ y, y = x / 65536 := ⟨_, rfl⟩
  have hy2 : y < 256 ∧ 1 ≤ y ∧ 65536 * y ≤ x := by omega
  have e : (x : Int) / 65536 = (y : Int) := by omega
  have h3 : ¬ 256 ≤ (y : Int) := by omega
  have hs : y < bitsT.size := by rw [bitsT_size]; exact hy2.1
  have e8 : IntKind.u8.wrap (y : Int) = (y : Int) := by rw [IntKind.wrap_u8]; omega
  have hy3 := hy2.1
  have hy4 : (y : Int) < 256 := by omega
  clear hy
  go_enter Try.func103, Try.ntmps103
  go_upto_region 10 with fail
  go_wp2
  go_ret
  refine lenP_mk (k := 16) hy2.1 hs ?_ (by omega) (fun h => ⟨hy2.2.1, by omega⟩)
  have hb := bitsT_at y hy2.1 hs
  show wrap64 (16 + wrap64 ((bitsT[y]'hs).toNat : Int)) = _
  rw [wrap64_id (x := ((bitsT[y]'hs).toNat : Int)) (by omega) (by omega), wrap64_id (by omega) (by omega)]
  omega
set_option maxHeartbeats 2000000 in
theorem len64_24 (x : Nat) (w : World) (h0 : 16777216 ≤ x) (hx : x < 2147483648) :
   Calls Try.prog 103 #[.int .u64 x] w (LenP x w) := by
  have h1 : ¬ 4294967296 ≤ (x : Int) := by omega
  have h2 : 65536 ≤ (x : Int) := by omega
  obtain ⟨z, hz⟩ : ∃ z, z = x / 65536 := ⟨_, rfl⟩
  have hz2 : z < 65536 ∧ 256 ≤ z ∧ 65536 * z ≤ x := by omega
  have e : (x : Int) / 65536 = (z : Int) := by omega
  have h3 : 256 ≤ (z : Int) := by omega
  obtain ⟨y, hy⟩ : ∃ y, y = z / 256 := ⟨_, rfl⟩
  have hy2 : y < 256 ∧ 1 ≤ y ∧ 16777216 * y ≤ x := by omega
  have e2 : (z : Int) / 256 = (y : Int) := by omega
  have hs : y < bitsT.size := by rw [bitsT_size]; exact hy2.1
  have e8 : IntKind.u8.wrap (y : Int) = (y : Int) := by rw [IntKind.wrap_u8]; omega
  have hy3 := hy2.1
  have hy4 : (y : Int) < 256 := by omega
  clear hy hz
  go_enter Try.func103, Try.ntmps103
  go_upto_region 10 with fail
  go_wp2
  go_ret
  refine lenP_mk (k := 24) hy2.1 hs ?_ (by omega) (fun h => ⟨hy2.2.1, by omega⟩)
  have hb := bitsT_at y hy2.1 hs
  show wrap64 (24 + wrap64 ((bitsT[y]'hs).toNat : Int)) = _
  rw [wrap64_id (x := ((bitsT[y]'hs).toNat : Int)) (by omega) (by omega), wrap64_id (by omega) (by omega)]
  omega
theorem len_any (x : Nat) (w : World) (hx : x < 2147483648) :
   Calls Try.prog 91 #[.int .u64 x] w (LenP x w) := by
  have HL : Hid (∀ w, Calls Try.prog 103 #[.int .u64 x] w (LenP x w)) := Lib.hid (fun w => by
    by_cases h1 : x < 256
    · exact len64_lo x w h1
    · by_cases h2 : x < 65536
      · exact len64_8 x w (by omega) h2
      · by_cases h3 : x < 16777216
        · exact len64_16 x w (by omega) h3
        · exact len64_24 x w (by omega) hx)
  go_enter Try.func91, Try.ntmps91
  go_wp2_with (go_at_call 103; refine (HL.out _).mono ?_; rintro e w' ⟨L, rfl, l1, l2, rfl⟩)
  go_ret
  exact ⟨L, rfl, l1, l2, rfl⟩
theorem power_any (x : Nat) (w : World) (h1 : 1 ≤ x) (hx : x < 2147483648) :
   Calls Try.prog 105 #[.int .i64 x] w fun e w' => ∃ M : Nat, e = .returned (.int .u64 M) ∧ 1 ≤ M ∧ M ≤ 2 * x ∧ w' = w := by
  have e0 : IntKind.u64.wrap (x : Int) = (x : Int) := by rw [IntKind.wrap_u64]; omega
  have HL := Lib.hid (fun w => len_any x w hx)
  go_enter Try.func105, Try.ntmps105
  go_wp2_with fail
  refine (HL.out _).mono ?_; rintro e w' ⟨L, rfl, l1, l2, rfl⟩
  have e1 : IntKind.u64.wrap (L : Int) = (L : Int) := by rw [IntKind.wrap_u64]; omega
  go_wp2
  go_ret
  have h2 := l2 h1
  have h3 : 1 ≤ 2 ^ L := Nat.one_le_two_pow
  refine ⟨2 ^ L, ?_, h3, h2, rfl⟩
  have e2 : (2 : Int) ^ L = ((2 ^ L : Nat) : Int) := by simp
  obtain ⟨M, hM⟩ : ∃ M, M = 2 ^ L := ⟨_, rfl⟩
  rw [← hM] at h2 h3 e2 ⊢
  have e3 : IntKind.u64.wrap (M : Int) = (M : Int) := by rw [IntKind.wrap_u64]; omega
  rw [e2, e3]
  rfl
/-- the cell of the random numbers -/
def Rng (w : World) (q : Nat) : Prop := (∃ r : Int, w.cell? ⟨q, 0, none⟩ = some (.int .u64 r)) ∧ w.frozen? ⟨q, 0, none⟩ = false ∧ q < w.heap.size
set_option maxHeartbeats 2000000 in
theorem next_any (q : Nat) (w : World) (h : Rng w q) :
   Calls Try.prog 106 #[.pointer (some ⟨q, 0, none⟩)] w fun e w' => ∃ r : Int, e = .returned (.int .u64 r) ∧ Rng w' q ∧ w.grownBy w' (some q) := by
  obtain ⟨⟨r, k0⟩, k1, k2⟩ := h
  have K2 := Lib.hid k2
  clear k2
  go_enter Try.func106, Try.ntmps106
  go_wp2_with fail
  go_region
  generalize bits BinOp.xor IntKind.u64 r (IntKind.u64.wrap (r * 8192)) = r1
  have g1 : w.grownBy (w.setCell ⟨q, 0, none⟩ (.int .u64 r1)) (some q) := grown_setS w q 0 _
  have m1 : (w.setCell ⟨q, 0, none⟩ (.int .u64 r1)).cell? ⟨q, 0, none⟩ = some (.int .u64 r1) := World.cell?_setCell_same _ _ _ k0
  have f1 : (w.setCell ⟨q, 0, none⟩ (.int .u64 r1)).frozen? ⟨q, 0, none⟩ = false := by rw [World.frozen?_setCell]; exact k1
  generalize w.setCell ⟨q, 0, none⟩ (.int .u64 r1) = w1 at *
  have G1 := Lib.hid g1
  clear g1
  go_wp2_with fail
  go_region
  generalize bits BinOp.xor IntKind.u64 r1 (r1 / 128) = r2
  have g2 : w1.grownBy (w1.setCell ⟨q, 0, none⟩ (.int .u64 r2)) (some q) := grown_setS w1 q 0 _
  have m2 : (w1.setCell ⟨q, 0, none⟩ (.int .u64 r2)).cell? ⟨q, 0, none⟩ = some (.int .u64 r2) := World.cell?_setCell_same _ _ _ m1
  have f2 : (w1.setCell ⟨q, 0, none⟩ (.int .u64 r2)).frozen? ⟨q, 0, none⟩ = false := by rw [World.frozen?_setCell]; exact f1
  generalize w1.setCell ⟨q, 0, none⟩ (.int .u64 r2) = w2 at *
  have G2 := Lib.hid g2
  clear g2
  go_wp2_with fail
  go_region
  generalize bits BinOp.xor IntKind.u64 r2 (IntKind.u64.wrap (r2 * 131072)) = r3
  have g3 : w2.grownBy (w2.setCell ⟨q, 0, none⟩ (.int .u64 r3)) (some q) := grown_setS w2 q 0 _
  have m3 : (w2.setCell ⟨q, 0, none⟩ (.int .u64 r3)).cell? ⟨q, 0, none⟩ = some (.int .u64 r3) := World.cell?_setCell_same _ _ _ m2
  have f3 : (w2.setCell ⟨q, 0, none⟩ (.int .u64 r3)).frozen? ⟨q, 0, none⟩ = false := by rw [World.frozen?_setCell]; exact f2
  generalize w2.setCell ⟨q, 0, none⟩ (.int .u64 r3) = w3 at *
  have G3 := Lib.hid g3
  clear g3
  go_wp2
  go_ret
  have G := grownBy_trans (grownBy_trans G1.out G2.out) G3.out
  exact ⟨r3, rfl, ⟨⟨r3, m3⟩, f3, Nat.lt_of_lt_of_le K2.out G.size⟩, grown_drewS (grown_drewS (grown_drewS G))⟩
theorem and_le (r : Int) (m : Nat) (hm : m < 18446744073709551616) : ∃ t : Nat, bits .and .u64 r m = (t : Int) ∧ t ≤ m := by
  refine ⟨(BitVec.ofInt 64 r &&& BitVec.ofInt 64 (m : Int)).toNat, ?_, ?_⟩
  · have := (BitVec.ofInt 64 r &&& BitVec.ofInt 64 (m : Int)).isLt
    simp only [bits]
    rw [IntKind.wrap_u64]
    show ((BitVec.ofInt 64 r &&& BitVec.ofInt 64 (m : Int)).toNat : Int) % _ = _
    omega
  · rw [BitVec.toNat_and]
    refine Nat.le_trans Nat.and_le_right ?_
    rw [BitVec.ofInt_natCast, BitVec.toNat_ofNat]
    exact Nat.mod_le _ _
theorem Rng.keep {w w' : World} {q g : Nat} (h : Rng w q) (hg : w.grownBy w' (some g)) (hq : q ≠ g) : Rng w' q := by
  have e := hg.block q h.2.2 (by simp; exact hq)
  refine ⟨?_, ?_, Nat.lt_of_lt_of_le h.2.2 hg.size⟩
  · obtain ⟨r, hr⟩ := h.1
    exact ⟨r, (World.cell?_of_block (a := ⟨q, 0, none⟩) e).trans hr⟩
  · exact (World.frozen?_of_block (a := ⟨q, 0, none⟩) e).trans h.2.1
theorem Row.keep {w w' : World} {base g n c q : Nat} {d : List Int} (h : Row w base g n c d) (hg : w.grownBy w' (some q)) (hq : q ≠ g) : Row w' base g n c d := by
  refine World.ownsRow.kept h (w' := w') (row := some q) hg ?_
  right
  simp [Value.ownBlock]
  exact fun e => hq e.symm
set_option maxHeartbeats 4000000 in
theorem break_any (base g n c a b : Nat) (d0 : List Int) (w : World) (hn : n ≤ 1073741824) (hab : a + 12 < b) (hb : b ≤ n) (h : Row w base g n c d0) :
   Calls Try.prog 95 #[.slice (some ⟨g, 0, none⟩) n c, .int .i64 a, .int .i64 b] w (RowP base g n c w (fun d => Sw a b d0 d)) := by
  have hgw : g < w.heap.size := ((own_lt h) g rfl).2
  obtain ⟨l, hl⟩ : ∃ l, l = b - a := ⟨_, rfl⟩
  obtain ⟨i0, hi0⟩ : ∃ i0, i0 = a + l / 4 * 2 - 1 := ⟨_, rfl⟩
  have hl2 : a + l ≤ b ∧ b ≤ a + l ∧ 13 ≤ l ∧ l ≤ 1073741824 ∧ a ≤ i0 ∧ i0 + 2 < b := by omega
  have e0 : (b : Int) - (a : Int) = (l : Int) := by omega
  have e1 : IntKind.u64.wrap (l : Int) = (l : Int) := by rw [IntKind.wrap_u64]; omega
  have e2 : (a : Int) + (l : Int) / 4 * 2 - 1 = (i0 : Int) := by omega
  have e3 : (a : Int) + (l : Int) / 4 * 2 + 1 = ((i0 + 2 : Nat) : Int) := by omega
  have H : Hid (Row (w.alloc (.cells #[.int .u64 l] 121)) base g n c d0) := Lib.hid (World.ownsRow.alloc h _)
  have K : Hid (Rng (w.alloc (.cells #[.int .u64 l] 121)) w.heap.size) := Lib.hid ⟨⟨l, by go_cell⟩, by go_cell, by simp⟩
  have G : Hid (w.grownBy (w.alloc (.cells #[.int .u64 l] 121)) (some g)) := Lib.hid (grown_belowS ((Below.refl _ _).alloc (Nat.le_refl _) _))
  have Hgq := Lib.hid (show w.heap.size ≠ g by omega)
  have HP := Lib.hid (fun w => power_any l w (by omega) (by omega))
  have hlen0 := h.len
  clear h hl hi0
  go_enter Try.func95, Try.ntmps95
  go_wp2_with (go_at_call 105; refine (HP.out _).mono ?_; rintro e w' ⟨M, rfl, hM1, hM2, rfl⟩; have e4 : (M : Int) - 1 = ((M - 1 : Nat) : Int) := (by omega))
  generalize hQ : w.heap.size = q at *
  generalize hW : w.alloc (.cells #[.int .u64 l] 121) = wa at *
  have HQ := Lib.hid (show w.heap.size ≤ q by omega)
  clear hQ hW
  go_loopw [9] (fun v wr => ∃ (k : Nat) (d' : List Int), i0 ≤ k ∧ k ≤ i0 + 3 ∧ v = .int .i64 k ∧ Sw a b d0 d' ∧ Row wr base g n c d' ∧ Rng wr q ∧ w.grownBy wr (some g)) (fun v _ => i0 + 3 - (intOf v).toNat)
  case atStart => exact ⟨i0, d0, by omega, by omega, by first | rfl | (congr 1; omega), Sw.refl, H.out, K.out, G.out⟩
  case round =>
    clear H K G HP
    obtain ⟨k, d0', hk1, hk2, rfl, hs, hr, hK, hg⟩ := hrel
    have Hs := Lib.hid hs
    clear hs
    have HrA := Lib.hid hr
    have HK := Lib.hid hK
    have HgA := Lib.hid hg
    clear hr hK hg
    by_cases h0 : k ≤ i0 + 2
    · have q9 : (k : Int) ≤ ((i0 + 2 : Nat) : Int) := by omega
      go_wp2_with fail
      refine (next_any q wr HK.out).mono ?_
      rintro e w1 ⟨r, rfl, hK1, hg1⟩
      have HrC := Lib.hid (Row.keep HrA.out hg1 Hgq.out)
      have HKC := Lib.hid hK1
      have HgC := Lib.hid (grown_fresh hg1 0 w HgA.out HQ.out)
      clear hK1 hg1 HrA HK HgA
      obtain ⟨t, ht, ht2⟩ := and_le r (M - 1) (by omega)
      have e5 : IntKind.i64.wrap (t : Int) = (t : Int) := IntWalk.i64_in _ (by omega)
      generalize w1 = wo at *
      by_cases hx : l ≤ t
      · obtain ⟨ak, hak⟩ : ∃ ak, ak = a + (t - l) := ⟨_, rfl⟩
        have hak2 : ak < n ∧ k < n ∧ a ≤ ak ∧ ak < b := by omega
        have q8 : (l : Int) ≤ (t : Int) := by omega
        have e6 : (t : Int) - (l : Int) = ((t - l : Nat) : Int) := by omega
        have w1 : (a : Int) + ((t - l : Nat) : Int) = (ak : Int) := by omega
        clear hak
        have hfz := HrC.out.frozenAt
        have c0 := HrC.out.cell (show k < n by omega)
        have c1 := HrC.out.cell (show ak < n by omega)
        have q0 : (0 : Int) ≤ (k : Int) := by omega
        have q1 : (k : Int) < (n : Int) := by omega
        have q2 : (0 : Int) ≤ (ak : Int) := by omega
        have q3 : (ak : Int) < (n : Int) := by omega
        have RD := Lib.hid (own_drew (HrC.out.ex k ak))
        have GD := Lib.hid (fun u v => grown_drewS (grownBy_trans HgC.out (grown_swp _ g k ak u v)))
        have SD := Lib.hid (Hs.out.ex (i := k) (j := ak) (by omega) (by omega) (by omega) (by omega))
        generalize hD : swp d0' k ak = d2 at *
        generalize nth d0' k = x at *
        generalize nth d0' ak = y at *
        clear hD
        obtain ⟨v9, hy⟩ := cell?_setCell_some (p := ⟨g, k, none⟩) (x := .int .i64 y) (q := ⟨g, ak, none⟩) (v := .int .i64 y) c1
        go_wp2_with fail
        go_region
        have GE := Lib.hid (GD.out (.int .i64 y) (.int .i64 x))
        go_wp2
        go_roundw
        case rel => exact ⟨k + 1, d2, by omega, by omega, by first | rfl | go_num, SD.out, RD.out, HKC.out.keep (grown_drewS (grown_swp _ g k ak _ _)) Hgq.out, GE.out⟩
        case measure => first | (simp [intOf]; omega) | (simp [intOf]; done)
      · obtain ⟨ak, hak⟩ : ∃ ak, ak = a + t := ⟨_, rfl⟩
        have hak2 : ak < n ∧ k < n ∧ a ≤ ak ∧ ak < b := by omega
        have q8 : ¬ (l : Int) ≤ (t : Int) := by omega
        have w1 : (a : Int) + (t : Int) = (ak : Int) := by omega
        clear hak
        have hfz := HrC.out.frozenAt
        have c0 := HrC.out.cell (show k < n by omega)
        have c1 := HrC.out.cell (show ak < n by omega)
        have q0 : (0 : Int) ≤ (k : Int) := by omega
        have q1 : (k : Int) < (n : Int) := by omega
        have q2 : (0 : Int) ≤ (ak : Int) := by omega
        have q3 : (ak : Int) < (n : Int) := by omega
        have RD := Lib.hid (own_drew (HrC.out.ex k ak))
        have GD := Lib.hid (fun u v => grown_drewS (grownBy_trans HgC.out (grown_swp _ g k ak u v)))
        have SD := Lib.hid (Hs.out.ex (i := k) (j := ak) (by omega) (by omega) (by omega) (by omega))
        generalize hD : swp d0' k ak = d2 at *
        generalize nth d0' k = x at *
        generalize nth d0' ak = y at *
        clear hD
        obtain ⟨v9, hy⟩ := cell?_setCell_some (p := ⟨g, k, none⟩) (x := .int .i64 y) (q := ⟨g, ak, none⟩) (v := .int .i64 y) c1
        go_wp2_with fail
        go_region
        have GE := Lib.hid (GD.out (.int .i64 y) (.int .i64 x))
        go_wp2
        go_roundw
        case rel => exact ⟨k + 1, d2, by omega, by omega, by first | rfl | go_num, SD.out, RD.out, HKC.out.keep (grown_drewS (grown_swp _ g k ak _ _)) Hgq.out, GE.out⟩
        case measure => first | (simp [intOf]; omega) | (simp [intOf]; done)
    · have q9 : ¬ (k : Int) ≤ ((i0 + 2 : Nat) : Int) := by omega
      go_wp2
      go_end0
      exact ⟨d0', rfl, Hs.out, HrA.out, HgA.out⟩
end Go.Proofs.Ytmbchcenclfjoaa
