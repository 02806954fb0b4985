/- ArrivalEnergy: walks of the program and of the reference. -/
import Derived.Test.YtooifamckccadaaEc
import Derived.Test.YtooifamckccadaaTp
import Derived.Deep.DeepCutAuto
namespace Go.Proofs.Ytooifamckccadaa
open Go.ChangeShapes Go.WideShapes Go.ChangeAt Go.RowKit
set_option maxRecDepth 20000
set_option linter.unusedVariables false
set_option linter.unusedSimpArgs false
def lastI (e : Ivl) (l : List Ivl) : Ivl := match l.getLast? with | some x => x | none => e
theorem lastI_at (e : Ivl) (l : List Ivl) : (e :: l)[l.length]? = some (lastI e l) := by
  unfold lastI
  rcases List.eq_nil_or_concat l with rfl | ⟨l', x, rfl⟩
  · rfl
  · simp [List.getLast?_concat]
theorem lastI_pos {e : Ivl} {l : List Ivl} {n : Nat} (h : l.length = n + 1) : l[n]? = some (lastI e l) := by
  unfold lastI
  rw [List.getLast?_eq_getElem?, h, Nat.add_sub_cancel]
  rw [List.getElem?_eq_getElem (by omega)]
theorem lastI_nil (e : Ivl) : lastI e [] = e := rfl
def aeP (ls : List Seg) (fs on : List Int) (b lo hi : Int) : List Ivl × Int := runP ls on (endP ls fs b.toNat - 1 - fs.getD b.toNat 0).toNat (fs.getD b.toNat 0).toNat (lo, hi)
def aeC (ls : List Seg) (fs on : List Int) (b lo hi : Int) : Int := if enC ls fs b lo hi = 0 then (if devB ls on then (aeP ls fs on b lo hi).2 else 2) else enC ls fs b lo hi
def aeV (ls : List Seg) (fs on : List Int) (b lo hi : Int) : Ivl := if aeC ls fs on b lo hi = 0 then lastI (lo, hi) (aeP ls fs on b lo hi).1 else (0, 0)
theorem ae_bad1 {ls : List Seg} {fs on : List Int} {b lo hi : Int} (h : enC ls fs b lo hi ≠ 0) : aeC ls fs on b lo hi = enC ls fs b lo hi ∧ aeV ls fs on b lo hi = (0, 0) := by
  have h1 : aeC ls fs on b lo hi = enC ls fs b lo hi := by rw [aeC, if_neg h]
  exact ⟨h1, by rw [aeV, h1, if_neg h]⟩
theorem ae_bad2 {ls : List Seg} {fs on : List Int} {b lo hi : Int} (h : enC ls fs b lo hi = 0) (hd : devB ls on = false) : aeC ls fs on b lo hi = 2 ∧ aeV ls fs on b lo hi = (0, 0) := by
  have h1 : aeC ls fs on b lo hi = 2 := by rw [aeC, if_pos h, hd]; rfl
  exact ⟨h1, by rw [aeV, h1]; rfl⟩
theorem ae_good {ls : List Seg} {fs on : List Int} {b f n : Nat} {lo hi : Int} (h : enC ls fs b lo hi = 0) (hd : devB ls on = true) (hf : fs[b]? = some (f : Int)) (he : endP ls fs b = ((f + n + 1 : Nat) : Int)) :
    aeC ls fs on b lo hi = (runP ls on n f (lo, hi)).2 ∧ aeV ls fs on b lo hi = if (runP ls on n f (lo, hi)).2 = 0 then lastI (lo, hi) (runP ls on n f (lo, hi)).1 else (0, 0) := by
  have hp : aeP ls fs on b lo hi = runP ls on n f (lo, hi) := by
    unfold aeP
    rw [Int.toNat_natCast, he, List.getD_eq_getElem?_getD, hf]
    simp only [Option.getD_some, Int.toNat_natCast]
    congr 1
    omega
  have h1 : aeC ls fs on b lo hi = (runP ls on n f (lo, hi)).2 := by rw [aeC, if_pos h, hd, hp]; rfl
  exact ⟨h1, by rw [aeV, h1, hp]⟩
theorem infoIv : (Try.prog.info? 29).map (fun i => (i.zero, i.size, i.bytes)) = some (some (.agg #[.int .i64 0, .int .i64 0]), 2, 16) := by kernel_rfl
theorem iv_lit (w : World) (lo hi : Int) (base : Nat) (hb : base ≤ w.heap.size) : (w.alloc (.cells #[.int .i64 lo, .int .i64 hi] 29)).ownsRow base 29 2 (.slice (some ⟨w.heap.size, 0, none⟩) 1 1) 1 (eInterval (lo, hi)) :=
  World.ownsRow_lit w #[.int .i64 lo, .int .i64 hi] 1 hb (by unfold maxLen; omega) rfl
set_option maxHeartbeats 4000000 in
theorem arrival_impl (ls : List Seg) (fs on : List Int) (b lo hi : Int) (A : Option Addr) (B c : Nat) (A' : Option Addr) (c' : Nat) (A3 : Option Addr) (c3 : Nat) (w : World) (hs : Rd w B A (ls.flatMap eSegment)) (hf : Rd w B A' (ints fs)) (hr : Rd w B A3 (ints on)) (hB : B ≤ w.heap.size) (hn : ls.length ≤ 1048576) (hn1 : fs.length ≤ 1048576) (hn2 : on.length ≤ 1048576) (hc : fs.length ≤ c') (hcm : c' ≤ 9223372036854775807) :
   Calls Try.prog 20 #[.agg #[.slice A ls.length c], .slice A' fs.length c', .int .i64 b, .agg #[.int .i64 lo, .int .i64 hi], .slice A3 on.length c3] w fun e w' => e = .returned (.tuple #[.agg #[.int .i64 (aeV ls fs on b lo hi).1, .int .i64 (aeV ls fs on b lo hi).2], .int .i64 (aeC ls fs on b lo hi)]) ∧ Below w.heap.size w w' := by
  have Hs := Lib.hid (((hs.alloc hB (.cells #[.slice A ls.length c] 26)).alloc (by simp; omega) (.cells #[.int .i64 lo, .int .i64 hi] 29)).alloc (by simp; omega) (.cells #[.int .i64 0, .int .i64 0] 29))
  have Hf := Lib.hid (((hf.alloc hB (.cells #[.slice A ls.length c] 26)).alloc (by simp; omega) (.cells #[.int .i64 lo, .int .i64 hi] 29)).alloc (by simp; omega) (.cells #[.int .i64 0, .int .i64 0] 29))
  have Hr := Lib.hid (((hr.alloc hB (.cells #[.slice A ls.length c] 26)).alloc (by simp; omega) (.cells #[.int .i64 lo, .int .i64 hi] 29)).alloc (by simp; omega) (.cells #[.int .i64 0, .int .i64 0] 29))
  have hS : B ≤ (((w.alloc (.cells #[.slice A ls.length c] 26)).alloc (.cells #[.int .i64 lo, .int .i64 hi] 29)).alloc (.cells #[.int .i64 0, .int .i64 0] 29)).heap.size := by simp; omega
  clear hs hf hr
  have HE := Lib.hid (fun (w' : World) (h : Rd w' B A (ls.flatMap eSegment)) (h2 : Rd w' B A' (ints fs)) (h3 : B ≤ w'.heap.size) => entryCode_any ls fs b lo hi A B c A' c' w' h h2 h3 hn hn1 hc hcm)
  have HD := Lib.hid (fun (w' : World) (h : Rd w' B A (ls.flatMap eSegment)) (h2 : Rd w' B A3 (ints on)) (h3 : B ≤ w'.heap.size) => areDevices_any ls on A B c A3 c3 w' h h2 h3 hn hn2)
  by_cases h0 : enC ls fs b lo hi = 0
  rotate_left
  · obtain ⟨q1, q2⟩ := ae_bad1 (on := on) h0
    rw [q1, q2]
    generalize enC ls fs b lo hi = C at *
    have h5 : (C != 0) = true := by simpa using h0
    clear q1 q2
    go_enter Try.func20, Try.ntmps20
    go_wp2_with (first | (go_at_call 76; refine (HE.out _ (by exact Hs.out) (by exact Hf.out) hS).mono ?_; rintro e w1 ⟨rfl, b1⟩; obtain ⟨hc1, hf1, hz1⟩ := bstep (N := w.heap.size + 3) (by go_size) b1; have y1 : w.heap.size < w1.heap.size := (by omega); have x1 : w.heap.size + 1 < w1.heap.size := (by omega); have v1 : w.heap.size + 2 < w1.heap.size := (by omega); have Hs1 := Lib.hid (Hs.out.below b1 hS); have Hf1 := Lib.hid (Hf.out.below b1 hS); have Hr1 := Lib.hid (Hr.out.below b1 hS); have hS1 := Nat.le_trans hS b1.size))
    refine bodyPost_ret (v := .tuple #[.agg #[.int .i64 0, .int .i64 0], .int .i64 C]) (by simp [results, Try.results20, go_sem, *]) rfl ?_
    exact ⟨rfl, by repeat' (first | (with_reducible exact Below.refl _ _) | (with_reducible assumption) | (with_reducible refine Below.alloc ?_ ?_ _) | (with_reducible refine Below.drew ?_) | (with_reducible refine below_drewN ?_ _) | (with_reducible refine Below.setCell ?_ ?_ _) | (with_reducible refine Below.trans ?_ (Below.mono (by assumption) ?_)) | go_size | (exact Below.size (by assumption)))⟩
  rw [h0] at HE
  cases hd : devB ls on with
  | false =>
    obtain ⟨q1, q2⟩ := ae_bad2 h0 hd
    rw [q1, q2]
    rw [hd] at HD
    clear q1 q2 h0 hd
    go_enter Try.func20, Try.ntmps20
    go_wp2_with (first | (go_at_call 76; refine (HE.out _ (by exact Hs.out) (by exact Hf.out) hS).mono ?_; rintro e w1 ⟨rfl, b1⟩; obtain ⟨hc1, hf1, hz1⟩ := bstep (N := w.heap.size + 3) (by go_size) b1; have y1 : w.heap.size < w1.heap.size := (by omega); have x1 : w.heap.size + 1 < w1.heap.size := (by omega); have v1 : w.heap.size + 2 < w1.heap.size := (by omega); have Hs1 := Lib.hid (Hs.out.below b1 hS); have Hf1 := Lib.hid (Hf.out.below b1 hS); have Hr1 := Lib.hid (Hr.out.below b1 hS); have hS1 := Nat.le_trans hS b1.size) | (go_at_call 77; refine (HD.out _ (by exact Hs1.out) (by exact Hr1.out) hS1).mono ?_; rintro e w2 ⟨rfl, b2⟩; obtain ⟨hc2, hf2, hz2⟩ := bstep (N := w.heap.size + 3) (by go_size) b2; have y2 : w.heap.size < w2.heap.size := (by omega); have x2 : w.heap.size + 1 < w2.heap.size := (by omega); have v2 : w.heap.size + 2 < w2.heap.size := (by omega); have Hs2 := Lib.hid (Hs1.out.below b2 hS1); have Hf2 := Lib.hid (Hf1.out.below b2 hS1); have Hr2 := Lib.hid (Hr1.out.below b2 hS1); have hS2 := Nat.le_trans hS1 b2.size))
    refine bodyPost_ret (v := .tuple #[.agg #[.int .i64 0, .int .i64 0], .int .i64 2]) (by simp [results, Try.results20, go_sem, *]) rfl ?_
    exact ⟨rfl, by repeat' (first | (with_reducible exact Below.refl _ _) | (with_reducible assumption) | (with_reducible refine Below.alloc ?_ ?_ _) | (with_reducible refine Below.drew ?_) | (with_reducible refine below_drewN ?_ _) | (with_reducible refine Below.setCell ?_ ?_ _) | (with_reducible refine Below.trans ?_ (Below.mono (by assumption) ?_)) | go_size | (exact Below.size (by assumption)))⟩
  | true =>
    rw [hd] at HD
    obtain ⟨hlay, hblk, hen, b', rfl, hb'⟩ := enC_zero h0
    obtain ⟨f, n, hfb, hend, hfn⟩ := blk_nat hblk hb'
    obtain ⟨q1, q2⟩ := ae_good h0 hd hfb hend
    have h24 := (lay_all hlay).2.2
    have HA := Lib.hid (fun (w' : World) (h : Rd w' B A (ls.flatMap eSegment)) (h2 : Rd w' B A3 (ints on)) (h3 : B ≤ w'.heap.size) => activeAlong_any ls on n f lo hi hlay hen (by omega) (by omega) A A3 B c c3 w' h h2 h3 hn2)
    have HL := Lib.hid (fun (w' : World) (h2 : Rd w' B A' (ints fs)) (h3 : B ≤ w'.heap.size) => blockEnd_impl ls fs b' hb' _ hend A B c A' c' w' h2 h3 hn hn1)
    have hlen : (runP ls on n f (lo, hi)).1.length ≤ 24 := by have := runP_len ls on n f (lo, hi); omega
    have Hfb := Lib.hid hfb
    rw [q1, q2]
    generalize runP ls on n f (lo, hi) = R at *
    obtain ⟨R, C⟩ := R
    dsimp only at *
    generalize hV : (if C = 0 then lastI (lo, hi) R else (0, 0)) = V
    have HV := Lib.hid hV
    clear hV
    have e1 : IntKind.i64.wrap (((f + n + 1 : Nat) : Int) - 1) = ((f + n : Nat) : Int) := by rw [show ((f + n + 1 : Nat) : Int) - 1 = ((f + n : Nat) : Int) by omega]; exact IntWalk.i64_in _ (by omega)
    have e2 : IntKind.i64.wrap (((f + n : Nat) : Int) - (f : Int)) = (n : Int) := by rw [show ((f + n : Nat) : Int) - (f : Int) = (n : Int) by omega]; exact IntWalk.i64_in _ (by omega)
    generalize ((f + n + 1 : Nat) : Int) = Ee at *
    generalize ((f + n : Nat) : Int) = Mm at *
    have i0 : (0 : Int) ≤ (b' : Int) := by omega
    have i1 : (b' : Int) < (fs.length : Int) := by omega
    have E1 := Lib.hid e1
    have E2 := Lib.hid e2
    clear q1 q2 h0 hd hlay hblk hen hfb hend e1 e2
    obtain ⟨bf, fo, hA', hbf, d00⟩ := Hf.out.int Hfb.out
    subst hA'
    have hbw0 : bf < w.heap.size + 3 := by omega
    go_enter Try.func20, Try.ntmps20
    go_wp2_with (first | (go_at_call 76; refine (HE.out _ (by exact Hs.out) (by exact Hf.out) hS).mono ?_; rintro e w1 ⟨rfl, b1⟩; obtain ⟨hc1, hf1, hz1⟩ := bstep (N := w.heap.size + 3) (by go_size) b1; have y1 : w.heap.size < w1.heap.size := (by omega); have x1 : w.heap.size + 1 < w1.heap.size := (by omega); have v1 : w.heap.size + 2 < w1.heap.size := (by omega); have Hs1 := Lib.hid (Hs.out.below b1 hS); have Hf1 := Lib.hid (Hf.out.below b1 hS); have Hr1 := Lib.hid (Hr.out.below b1 hS); have hS1 := Nat.le_trans hS b1.size) | (go_at_call 77; refine (HD.out _ (by exact Hs1.out) (by exact Hr1.out) hS1).mono ?_; rintro e w2 ⟨rfl, b2⟩; obtain ⟨hc2, hf2, hz2⟩ := bstep (N := w.heap.size + 3) (by go_size) b2; have y2 : w.heap.size < w2.heap.size := (by omega); have x2 : w.heap.size + 1 < w2.heap.size := (by omega); have v2 : w.heap.size + 2 < w2.heap.size := (by omega); have Hs2 := Lib.hid (Hs1.out.below b2 hS1); have Hf2 := Lib.hid (Hf1.out.below b2 hS1); have Hr2 := Lib.hid (Hr1.out.below b2 hS1); have hS2 := Nat.le_trans hS1 b2.size) | fail)
    have B0 : Below w.heap.size w w2 := by repeat' (first | (with_reducible exact Below.refl _ _) | (with_reducible assumption) | (with_reducible refine Below.alloc ?_ ?_ _) | (with_reducible refine Below.drew ?_) | (with_reducible refine below_drewN ?_ _) | (with_reducible refine Below.setCell ?_ ?_ _) | (with_reducible refine Below.trans ?_ (Below.mono (by assumption) ?_)) | go_size | (exact Below.size (by assumption)))
    have c0 : w2.cell? ⟨w.heap.size, 0, none⟩ = some (.slice A ls.length c) := by go_cell
    have c1 : w2.cell? ⟨w.heap.size + 1, 0, none⟩ = some (.int .i64 lo) := by go_cell
    have c2 : w2.cell? ⟨w.heap.size + 1, 1, none⟩ = some (.int .i64 hi) := by go_cell
    have c3' : w2.cell? ⟨w.heap.size + 2, 0, none⟩ = some (.int .i64 0) := by go_cell
    have c4 : w2.cell? ⟨w.heap.size + 2, 1, none⟩ = some (.int .i64 0) := by go_cell
    have f10 : w2.frozen? ⟨w.heap.size + 1, 0, none⟩ = false := by go_cell
    have f11 : w2.frozen? ⟨w.heap.size + 1, 1, none⟩ = false := by go_cell
    have f20 : w2.frozen? ⟨w.heap.size + 2, 0, none⟩ = false := by go_cell
    have f21 : w2.frozen? ⟨w.heap.size + 2, 1, none⟩ = false := by go_cell
    obtain ⟨bf', fo', hA', hbf', d0⟩ := Hf2.out.int Hfb.out
    injection hA' with hA'
    injection hA' with g1 g2
    subst g1 g2
    have hbw : bf < w2.heap.size := by omega
    clear hbf' d00
    clear hc1 hf1 b1 hc2 hf2 b2 Hs1 Hf1 Hr1 hS1 HD HE Hs Hf Hr hS
    clear y1 x1 v1 hz1
    have HE1 := E1.out
    have HE2 := E2.out
    go_cut [13, 12] (fun s1 s2 wx => ∃ (A5 : Option Addr) (c5 : Nat), s1 = .slice A5 R.length c5 ∧ s2 = .int .i64 C ∧ wx.ownsRow w2.heap.size 29 2 (.slice A5 R.length c5) R.length (R.flatMap eInterval) ∧ Below w2.heap.size w2 wx)
    case first =>
      go_region_held3 (fun w' => w'.cell? ⟨w.heap.size, 0, none⟩ = some (.slice A ls.length c) ∧ w'.cell? ⟨w.heap.size + 1, 0, none⟩ = some (.int .i64 lo) ∧ w'.cell? ⟨w.heap.size + 1, 1, none⟩ = some (.int .i64 hi) ∧ w'.cell? ⟨bf, fo + b', none⟩ = some (.int .i64 (f : Int))) (simp [*, World.cell?_alloc_past, World.cell?_setCell_far])
        ((first | (go_at_call 79; refine (HL.out _ (by exact Hf2.out) (by first | omega | go_size | (simp only [World.size_alloc]; omega) | (simp; omega))).mono ?_; rintro e w7 ⟨rfl, b7⟩; replace b7 : Below w2.heap.size w2 w7 := (by first | exact b7 | exact Below.trans (Below.drew (Below.refl _ _)) b7); have z7 := b7.size; obtain ⟨hc7, hf7, hz7⟩ := bstep (Nat.le_refl _) b7; have y7 : w.heap.size < w7.heap.size := (by omega); have x7 : w.heap.size + 1 < w7.heap.size := (by omega); have u7 : bf < w7.heap.size := (by omega)) | (go_at_call 78; refine (HA.out _ (by exact (Hs2.out.below b7 hS2)) (by exact (Hr2.out.below b7 hS2)) (by first | omega | go_size | (simp only [World.size_alloc]; omega) | (simp; omega))).mono ?_; rintro e w8 ⟨A5, c5, rfl, o5, b8⟩; have O5 := Lib.hid o5; clear o5; replace b8 : Below w7.heap.size w7 w8 := (by first | exact b8 | exact Below.trans (Below.drew (Below.refl _ _)) b8); have z8 := b8.size; obtain ⟨hc8, hf8, hz8⟩ := bstep (Nat.le_refl _) b8)))
      all_goals (go_wp2_with fail; go_meet; refine ⟨A5, c5, rfl, rfl, own_more O5.out (by first | omega | go_size), by repeat' (first | (with_reducible exact Below.refl _ _) | (with_reducible assumption) | (with_reducible refine Below.alloc ?_ ?_ _) | (with_reducible refine Below.drew ?_) | (with_reducible refine below_drewN ?_ _) | (with_reducible refine Below.setCell ?_ ?_ _) | (with_reducible refine Below.trans ?_ (Below.mono (by assumption) ?_)) | go_size | (exact Below.size (by assumption)))⟩)
    case rest =>
      obtain ⟨A5, c5, rfl, rfl, o5, b5⟩ := hcut
      have z5 := b5.size
      have B5 : Below w.heap.size w wc := B0.trans (b5.mono (by omega))
      have k1 := (b5.cell (p := ⟨w.heap.size + 1, 0, none⟩) (by omega)).trans c1
      have k2 := (b5.cell (p := ⟨w.heap.size + 1, 1, none⟩) (by omega)).trans c2
      have k3 := (b5.cell (p := ⟨w.heap.size + 2, 0, none⟩) (by omega)).trans c3'
      have k4 := (b5.cell (p := ⟨w.heap.size + 2, 1, none⟩) (by omega)).trans c4
      have fr10 := (b5.frozen (p := ⟨w.heap.size + 1, 0, none⟩) (by simp; omega)).trans f10
      have fr11 := (b5.frozen (p := ⟨w.heap.size + 1, 1, none⟩) (by simp; omega)).trans f11
      have fr20 := (b5.frozen (p := ⟨w.heap.size + 2, 0, none⟩) (by simp; omega)).trans f20
      have fr21 := (b5.frozen (p := ⟨w.heap.size + 2, 1, none⟩) (by simp; omega)).trans f21
      have sz1 : w.heap.size + 1 < wc.heap.size := by omega
      have sz2 : w.heap.size + 2 < wc.heap.size := by omega
      have sz0 : w.heap.size < wc.heap.size := by omega
      have O5 := Lib.hid o5
      clear o5 b5 c0 c1 c2 c3' c4 f10 f11 f20 f21 HA HL B0 Hs2 Hf2 Hr2 d0
      by_cases hC : C = 0
      · subst hC
        have hVl : V = lastI (lo, hi) R := by rw [← HV.out, if_pos rfl]
        have HVl := Lib.hid hVl
        clear hVl
        have hl24 : 1 + R.length ≤ 1048576 := by omega
        have hla := lastI_at (lo, hi) R
        generalize lastI (lo, hi) R = last at *
        have Hla := Lib.hid hla
        clear hla
        obtain ⟨i0', hi0, hz0, hz1, hz2⟩ := info_parts infoIv
        have hR5 := Lib.hid ((Rd.of_own O5.out).alloc (Nat.le_refl _) (.cells #[.int .i64 lo, .int .i64 hi] 29))
        have hO6 := Lib.hid (iv_lit wc lo hi wc.heap.size (Nat.le_refl _))
        have rl0 : (0 : Int) ≤ (R.length : Int) := by omega
        have rl1 : (R.length : Int) < ((1 + R.length : Nat) : Int) := by omega
        go_wp2_with (at_builtin; refine wpList_append_rd rfl (.tmp 56) (.tmp 57) 64 rfl wc.heap.size 29 i0' _ 2 16 Try.underlying64 hi0 hz0 hz1 hz2 rfl (by decide) _ 1 _ (by rfl) hO6.out _ A5 R.length c5 (R.flatMap eInterval) (by rfl) (flat_len eInterval 2 eInterval_len R) hR5.out (flat_one eInterval eInterval_one R) (by unfold maxLen; omega) (by omega) (by simp) ?_; intro v6 w6 own6 hb6 hz6; obtain ⟨A6, c6, rfl⟩ := own_val own6; have own7 : w6.ownsRow wc.heap.size 29 2 (.slice A6 (1 + R.length) c6) (1 + R.length) (((lo, hi) :: R).flatMap eInterval) := own6; obtain ⟨bb6, oo6, rfl, hb66, m0, m1⟩ := Rd.atInterval (l := (lo, hi) :: R) (k := R.length) (Rd.of_own own7) Hla.out; clear own7; replace hb6 : Below wc.heap.size wc w6 := Below.trans ((Below.refl _ _).alloc (Nat.le_refl _) _) hb6; obtain ⟨hc6, hf6, hz66⟩ := bstep (N := wc.heap.size) (Nat.le_refl _) hb6; have sy2 : w.heap.size + 2 < w6.heap.size := (by omega); clear own6)
        refine bodyPost_ret (v := .tuple #[.agg #[.int .i64 last.1, .int .i64 last.2], .int .i64 0]) (by simp [results, Try.results20, go_sem, *]) rfl ?_
        exact ⟨by rw [HVl.out], by repeat' (first | (with_reducible exact Below.refl _ _) | (with_reducible assumption) | (with_reducible refine Below.alloc ?_ ?_ _) | (with_reducible refine Below.drew ?_) | (with_reducible refine below_drewN ?_ _) | (with_reducible refine Below.setCell ?_ ?_ _) | (with_reducible refine Below.trans ?_ (Below.mono (by assumption) ?_)) | go_size | (exact Below.size (by assumption)))⟩
      · have hVl : V = (0, 0) := by rw [← HV.out, if_neg hC]
        have HVl := Lib.hid hVl
        clear hVl
        have h5 : (C != 0) = true := by simpa using hC
        go_wp2
        refine bodyPost_ret (v := .tuple #[.agg #[.int .i64 0, .int .i64 0], .int .i64 C]) (by simp [results, Try.results20, go_sem, *]) rfl ?_
        exact ⟨by rw [HVl.out], by repeat' (first | (with_reducible exact Below.refl _ _) | (with_reducible assumption) | (with_reducible refine Below.alloc ?_ ?_ _) | (with_reducible refine Below.drew ?_) | (with_reducible refine below_drewN ?_ _) | (with_reducible refine Below.setCell ?_ ?_ _) | (with_reducible refine Below.trans ?_ (Below.mono (by assumption) ?_)) | go_size | (exact Below.size (by assumption)))⟩
set_option maxHeartbeats 4000000 in
theorem arrival_spec (ls : List Seg) (fs on : List Int) (b lo hi : Int) (A : Option Addr) (B c : Nat) (A' : Option Addr) (c' : Nat) (A3 : Option Addr) (c3 : Nat) (w : World) (hs : Rd w B A (ls.flatMap eSegment)) (hf : Rd w B A' (ints fs)) (hr : Rd w B A3 (ints on)) (hB : B ≤ w.heap.size) (hn : ls.length ≤ 1048576) (hn1 : fs.length ≤ 1048576) (hn2 : on.length ≤ 1048576) (hc : fs.length ≤ c') (hcm : c' ≤ 9223372036854775807) :
   Calls Try.prog 21 #[.agg #[.slice A ls.length c], .slice A' fs.length c', .int .i64 b, .agg #[.int .i64 lo, .int .i64 hi], .slice A3 on.length c3] w fun e w' => e = .returned (.tuple #[.agg #[.int .i64 (aeV ls fs on b lo hi).1, .int .i64 (aeV ls fs on b lo hi).2], .int .i64 (aeC ls fs on b lo hi)]) ∧ Below w.heap.size w w' := by
  have Hs := Lib.hid (((hs.alloc hB (.cells #[.slice A ls.length c] 26)).alloc (by simp; omega) (.cells #[.int .i64 lo, .int .i64 hi] 29)).alloc (by simp; omega) (.cells #[.int .i64 0, .int .i64 0] 29))
  have Hf := Lib.hid (((hf.alloc hB (.cells #[.slice A ls.length c] 26)).alloc (by simp; omega) (.cells #[.int .i64 lo, .int .i64 hi] 29)).alloc (by simp; omega) (.cells #[.int .i64 0, .int .i64 0] 29))
  have Hr := Lib.hid (((hr.alloc hB (.cells #[.slice A ls.length c] 26)).alloc (by simp; omega) (.cells #[.int .i64 lo, .int .i64 hi] 29)).alloc (by simp; omega) (.cells #[.int .i64 0, .int .i64 0] 29))
  have hS : B ≤ (((w.alloc (.cells #[.slice A ls.length c] 26)).alloc (.cells #[.int .i64 lo, .int .i64 hi] 29)).alloc (.cells #[.int .i64 0, .int .i64 0] 29)).heap.size := by simp; omega
  clear hs hf hr
  have HB := Lib.hid (fun (w' : World) (h : Rd w' B A (ls.flatMap eSegment)) (h2 : Rd w' B A' (ints fs)) (h3 : B ≤ w'.heap.size) => areBlk_spec ls fs A B c A' c' w' h h2 h3 hn hn1)
  have HD := Lib.hid (fun (w' : World) (h : Rd w' B A (ls.flatMap eSegment)) (h2 : Rd w' B A3 (ints on)) (h3 : B ≤ w'.heap.size) => l08Devices_any ls on A B c A3 c3 w' h h2 h3 hn hn2)
  have HI := Lib.hid (fun (w' : World) => isEnergy_spec lo hi w')
  have HX := Lib.hid (fun (w' : World) => l01In_any b 0 ((fs.length : Int) - 1) w')
  cases h1 : abB ls fs with
  | false =>
    have h0 : enC ls fs b lo hi = 1 := by rw [enC, h1]; rfl
    obtain ⟨q1, q2⟩ := ae_bad1 (on := on) (show enC ls fs b lo hi ≠ 0 by rw [h0]; decide)
    rw [q1, q2, h0]
    rw [h1] at HB
    clear q1 q2 h0 h1
    go_enter Try.func21, Try.ntmps21
    go_wp2_with (first | (go_at_call 80; refine (HB.out _ (by exact Hs.out) (by exact Hf.out) hS).mono ?_; rintro e w1 ⟨rfl, b1⟩; obtain ⟨hc1, hf1, hz1⟩ := bstep (N := w.heap.size + 3) (by go_size) b1; have y1 : w.heap.size < w1.heap.size := (by omega); have x1 : w.heap.size + 1 < w1.heap.size := (by omega); have v1 : w.heap.size + 2 < w1.heap.size := (by omega); have Hs1 := Lib.hid (Hs.out.below b1 hS); have Hf1 := Lib.hid (Hf.out.below b1 hS); have Hr1 := Lib.hid (Hr.out.below b1 hS); have hS1 := Nat.le_trans hS b1.size))
    refine bodyPost_ret (v := .tuple #[.agg #[.int .i64 0, .int .i64 0], .int .i64 1]) (by simp [results, Try.results21, go_sem, *]) rfl ?_
    exact ⟨rfl, by repeat' (first | (with_reducible exact Below.refl _ _) | (with_reducible assumption) | (with_reducible refine Below.alloc ?_ ?_ _) | (with_reducible refine Below.drew ?_) | (with_reducible refine below_drewN ?_ _) | (with_reducible refine Below.setCell ?_ ?_ _) | (with_reducible refine Below.trans ?_ (Below.mono (by assumption) ?_)) | go_size | (exact Below.size (by assumption)))⟩
  | true =>
  cases h2 : enB lo hi with
  | false =>
    have h0 : enC ls fs b lo hi = 1 := by rw [enC, h1, h2]; rfl
    obtain ⟨q1, q2⟩ := ae_bad1 (on := on) (show enC ls fs b lo hi ≠ 0 by rw [h0]; decide)
    rw [q1, q2, h0]
    rw [h1] at HB
    rw [h2] at HI
    clear q1 q2 h0 h1 h2
    go_enter Try.func21, Try.ntmps21
    go_wp2_with (first | (go_at_call 80; refine (HB.out _ (by exact Hs.out) (by exact Hf.out) hS).mono ?_; rintro e w1 ⟨rfl, b1⟩; obtain ⟨hc1, hf1, hz1⟩ := bstep (N := w.heap.size + 3) (by go_size) b1; have y1 : w.heap.size < w1.heap.size := (by omega); have x1 : w.heap.size + 1 < w1.heap.size := (by omega); have v1 : w.heap.size + 2 < w1.heap.size := (by omega); have Hs1 := Lib.hid (Hs.out.below b1 hS); have Hf1 := Lib.hid (Hf.out.below b1 hS); have Hr1 := Lib.hid (Hr.out.below b1 hS); have hS1 := Nat.le_trans hS b1.size) | (go_at_call 81; refine (HI.out _).mono ?_; rintro e w2 ⟨rfl, b2⟩; obtain ⟨hc2, hf2, hz2⟩ := bstep (N := w.heap.size + 3) (by go_size) b2; have y2 : w.heap.size < w2.heap.size := (by omega); have x2 : w.heap.size + 1 < w2.heap.size := (by omega); have v2 : w.heap.size + 2 < w2.heap.size := (by omega); have Hs2 := Lib.hid (Hs1.out.below b2 hS1); have Hf2 := Lib.hid (Hf1.out.below b2 hS1); have Hr2 := Lib.hid (Hr1.out.below b2 hS1); have hS2 := Nat.le_trans hS1 b2.size))
    refine bodyPost_ret (v := .tuple #[.agg #[.int .i64 0, .int .i64 0], .int .i64 1]) (by simp [results, Try.results21, go_sem, *]) rfl ?_
    exact ⟨rfl, by repeat' (first | (with_reducible exact Below.refl _ _) | (with_reducible assumption) | (with_reducible refine Below.alloc ?_ ?_ _) | (with_reducible refine Below.drew ?_) | (with_reducible refine below_drewN ?_ _) | (with_reducible refine Below.setCell ?_ ?_ _) | (with_reducible refine Below.trans ?_ (Below.mono (by assumption) ?_)) | go_size | (exact Below.size (by assumption)))⟩
  | true =>
  cases h3 : inB b 0 ((fs.length : Int) - 1) with
  | false =>
    have h0 : enC ls fs b lo hi = 2 := by rw [enC, h1, h2, h3]; rfl
    obtain ⟨q1, q2⟩ := ae_bad1 (on := on) (show enC ls fs b lo hi ≠ 0 by rw [h0]; decide)
    rw [q1, q2, h0]
    rw [h1] at HB
    rw [h2] at HI
    rw [h3] at HX
    clear q1 q2 h0 h1 h2 h3
    go_enter Try.func21, Try.ntmps21
    go_wp2_with (first | (go_at_call 80; refine (HB.out _ (by exact Hs.out) (by exact Hf.out) hS).mono ?_; rintro e w1 ⟨rfl, b1⟩; obtain ⟨hc1, hf1, hz1⟩ := bstep (N := w.heap.size + 3) (by go_size) b1; have y1 : w.heap.size < w1.heap.size := (by omega); have x1 : w.heap.size + 1 < w1.heap.size := (by omega); have v1 : w.heap.size + 2 < w1.heap.size := (by omega); have Hs1 := Lib.hid (Hs.out.below b1 hS); have Hf1 := Lib.hid (Hf.out.below b1 hS); have Hr1 := Lib.hid (Hr.out.below b1 hS); have hS1 := Nat.le_trans hS b1.size) | (go_at_call 81; refine (HI.out _).mono ?_; rintro e w2 ⟨rfl, b2⟩; obtain ⟨hc2, hf2, hz2⟩ := bstep (N := w.heap.size + 3) (by go_size) b2; have y2 : w.heap.size < w2.heap.size := (by omega); have x2 : w.heap.size + 1 < w2.heap.size := (by omega); have v2 : w.heap.size + 2 < w2.heap.size := (by omega); have Hs2 := Lib.hid (Hs1.out.below b2 hS1); have Hf2 := Lib.hid (Hf1.out.below b2 hS1); have Hr2 := Lib.hid (Hr1.out.below b2 hS1); have hS2 := Nat.le_trans hS1 b2.size) | (go_at_call 82; refine (HX.out _).mono ?_; rintro e w' ⟨rfl, rfl⟩))
    refine bodyPost_ret (v := .tuple #[.agg #[.int .i64 0, .int .i64 0], .int .i64 2]) (by simp [results, Try.results21, go_sem, *]) rfl ?_
    exact ⟨rfl, by repeat' (first | (with_reducible exact Below.refl _ _) | (with_reducible assumption) | (with_reducible refine Below.alloc ?_ ?_ _) | (with_reducible refine Below.drew ?_) | (with_reducible refine below_drewN ?_ _) | (with_reducible refine Below.setCell ?_ ?_ _) | (with_reducible refine Below.trans ?_ (Below.mono (by assumption) ?_)) | go_size | (exact Below.size (by assumption)))⟩
  | true =>
  have h0 : enC ls fs b lo hi = 0 := by rw [enC, h1, h2, h3]; rfl
  rw [h1] at HB
  rw [h2] at HI
  rw [h3] at HX
  clear h1 h2 h3
  cases hd : devB ls on with
  | false =>
    obtain ⟨q1, q2⟩ := ae_bad2 h0 hd
    rw [q1, q2]
    rw [hd] at HD
    clear q1 q2 h0 hd
    go_enter Try.func21, Try.ntmps21
    go_wp2_with (first | (go_at_call 80; refine (HB.out _ (by exact Hs.out) (by exact Hf.out) hS).mono ?_; rintro e w1 ⟨rfl, b1⟩; obtain ⟨hc1, hf1, hz1⟩ := bstep (N := w.heap.size + 3) (by go_size) b1; have y1 : w.heap.size < w1.heap.size := (by omega); have x1 : w.heap.size + 1 < w1.heap.size := (by omega); have v1 : w.heap.size + 2 < w1.heap.size := (by omega); have Hs1 := Lib.hid (Hs.out.below b1 hS); have Hf1 := Lib.hid (Hf.out.below b1 hS); have Hr1 := Lib.hid (Hr.out.below b1 hS); have hS1 := Nat.le_trans hS b1.size) | (go_at_call 81; refine (HI.out _).mono ?_; rintro e w2 ⟨rfl, b2⟩; obtain ⟨hc2, hf2, hz2⟩ := bstep (N := w.heap.size + 3) (by go_size) b2; have y2 : w.heap.size < w2.heap.size := (by omega); have x2 : w.heap.size + 1 < w2.heap.size := (by omega); have v2 : w.heap.size + 2 < w2.heap.size := (by omega); have Hs2 := Lib.hid (Hs1.out.below b2 hS1); have Hf2 := Lib.hid (Hf1.out.below b2 hS1); have Hr2 := Lib.hid (Hr1.out.below b2 hS1); have hS2 := Nat.le_trans hS1 b2.size) | (go_at_call 82; refine (HX.out _).mono ?_; rintro e w' ⟨rfl, rfl⟩) | (go_at_call 83; refine (HD.out _ (by exact Hs2.out) (by exact Hr2.out) hS2).mono ?_; rintro e w3 ⟨rfl, b3⟩; obtain ⟨hc3, hf3, hz3⟩ := bstep (N := w.heap.size + 3) (by go_size) b3; have y3 : w.heap.size < w3.heap.size := (by omega); have x3 : w.heap.size + 1 < w3.heap.size := (by omega); have v3 : w.heap.size + 2 < w3.heap.size := (by omega); have Hs3 := Lib.hid (Hs2.out.below b3 hS2); have Hf3 := Lib.hid (Hf2.out.below b3 hS2); have Hr3 := Lib.hid (Hr2.out.below b3 hS2); have hS3 := Nat.le_trans hS2 b3.size))
    refine bodyPost_ret (v := .tuple #[.agg #[.int .i64 0, .int .i64 0], .int .i64 2]) (by simp [results, Try.results21, go_sem, *]) rfl ?_
    exact ⟨rfl, by repeat' (first | (with_reducible exact Below.refl _ _) | (with_reducible assumption) | (with_reducible refine Below.alloc ?_ ?_ _) | (with_reducible refine Below.drew ?_) | (with_reducible refine below_drewN ?_ _) | (with_reducible refine Below.setCell ?_ ?_ _) | (with_reducible refine Below.trans ?_ (Below.mono (by assumption) ?_)) | go_size | (exact Below.size (by assumption)))⟩
  | true =>
    rw [hd] at HD
    obtain ⟨hlay, hblk, hen, b', rfl, hb'⟩ := enC_zero h0
    obtain ⟨f, n, hfb, hend, hfn⟩ := blk_nat hblk hb'
    obtain ⟨q1, q2⟩ := ae_good h0 hd hfb hend
    have h24 := (lay_all hlay).2.2
    have HA := Lib.hid (fun (w' : World) (h : Rd w' B A (ls.flatMap eSegment)) (h2 : Rd w' B A3 (ints on)) (h3 : B ≤ w'.heap.size) => l08Run_any ls on n f lo hi hlay hen (by omega) (by omega) A A3 B c c3 w' h h2 h3 hn2)
    have HL := Lib.hid (fun (w' : World) (h2 : Rd w' B A' (ints fs)) (h3 : B ≤ w'.heap.size) => blockEnd_spec ls fs b' hb' _ hend A B c A' c' w' h2 h3 hn hn1)
    have hlen : (runP ls on n f (lo, hi)).1.length ≤ 24 := by have := runP_len ls on n f (lo, hi); omega
    have Hfb := Lib.hid hfb
    rw [q1, q2]
    generalize runP ls on n f (lo, hi) = R at *
    obtain ⟨R, C⟩ := R
    dsimp only at *
    generalize hV : (if C = 0 then lastI (lo, hi) R else (0, 0)) = V
    have HV := Lib.hid hV
    clear hV
    have e1 : IntKind.i64.wrap (((f + n + 1 : Nat) : Int) - 1) = ((f + n : Nat) : Int) := by rw [show ((f + n + 1 : Nat) : Int) - 1 = ((f + n : Nat) : Int) by omega]; exact IntWalk.i64_in _ (by omega)
    have e2 : IntKind.i64.wrap (((f + n : Nat) : Int) - (f : Int)) = (n : Int) := by rw [show ((f + n : Nat) : Int) - (f : Int) = (n : Int) by omega]; exact IntWalk.i64_in _ (by omega)
    generalize ((f + n + 1 : Nat) : Int) = Ee at *
    generalize ((f + n : Nat) : Int) = Mm at *
    have i0 : (0 : Int) ≤ (b' : Int) := by omega
    have i1 : (b' : Int) < (fs.length : Int) := by omega
    have E1 := Lib.hid e1
    have E2 := Lib.hid e2
    clear q1 q2 h0 hd hlay hblk hen hfb hend e1 e2
    obtain ⟨bf, fo, hA', hbf, d00⟩ := Hf.out.int Hfb.out
    subst hA'
    have hbw0 : bf < w.heap.size + 3 := by omega
    go_enter Try.func21, Try.ntmps21
    go_wp2_with (first | (go_at_call 80; refine (HB.out _ (by exact Hs.out) (by exact Hf.out) hS).mono ?_; rintro e w1 ⟨rfl, b1⟩; obtain ⟨hc1, hf1, hz1⟩ := bstep (N := w.heap.size + 3) (by go_size) b1; have y1 : w.heap.size < w1.heap.size := (by omega); have x1 : w.heap.size + 1 < w1.heap.size := (by omega); have v1 : w.heap.size + 2 < w1.heap.size := (by omega); have Hs1 := Lib.hid (Hs.out.below b1 hS); have Hf1 := Lib.hid (Hf.out.below b1 hS); have Hr1 := Lib.hid (Hr.out.below b1 hS); have hS1 := Nat.le_trans hS b1.size) | (go_at_call 81; refine (HI.out _).mono ?_; rintro e w2 ⟨rfl, b2⟩; obtain ⟨hc2, hf2, hz2⟩ := bstep (N := w.heap.size + 3) (by go_size) b2; have y2 : w.heap.size < w2.heap.size := (by omega); have x2 : w.heap.size + 1 < w2.heap.size := (by omega); have v2 : w.heap.size + 2 < w2.heap.size := (by omega); have Hs2 := Lib.hid (Hs1.out.below b2 hS1); have Hf2 := Lib.hid (Hf1.out.below b2 hS1); have Hr2 := Lib.hid (Hr1.out.below b2 hS1); have hS2 := Nat.le_trans hS1 b2.size) | (go_at_call 82; refine (HX.out _).mono ?_; rintro e w' ⟨rfl, rfl⟩) | (go_at_call 83; refine (HD.out _ (by exact Hs2.out) (by exact Hr2.out) hS2).mono ?_; rintro e w3 ⟨rfl, b3⟩; obtain ⟨hc3, hf3, hz3⟩ := bstep (N := w.heap.size + 3) (by go_size) b3; have y3 : w.heap.size < w3.heap.size := (by omega); have x3 : w.heap.size + 1 < w3.heap.size := (by omega); have v3 : w.heap.size + 2 < w3.heap.size := (by omega); have Hs3 := Lib.hid (Hs2.out.below b3 hS2); have Hf3 := Lib.hid (Hf2.out.below b3 hS2); have Hr3 := Lib.hid (Hr2.out.below b3 hS2); have hS3 := Nat.le_trans hS2 b3.size) | fail)
    have B0 : Below w.heap.size w w3 := by repeat' (first | (with_reducible exact Below.refl _ _) | (with_reducible assumption) | (with_reducible refine Below.alloc ?_ ?_ _) | (with_reducible refine Below.drew ?_) | (with_reducible refine below_drewN ?_ _) | (with_reducible refine Below.setCell ?_ ?_ _) | (with_reducible refine Below.trans ?_ (Below.mono (by assumption) ?_)) | go_size | (exact Below.size (by assumption)))
    have c0 : w3.cell? ⟨w.heap.size, 0, none⟩ = some (.slice A ls.length c) := by go_cell
    have c1 : w3.cell? ⟨w.heap.size + 1, 0, none⟩ = some (.int .i64 lo) := by go_cell
    have c2 : w3.cell? ⟨w.heap.size + 1, 1, none⟩ = some (.int .i64 hi) := by go_cell
    have c3' : w3.cell? ⟨w.heap.size + 2, 0, none⟩ = some (.int .i64 0) := by go_cell
    have c4 : w3.cell? ⟨w.heap.size + 2, 1, none⟩ = some (.int .i64 0) := by go_cell
    have f10 : w3.frozen? ⟨w.heap.size + 1, 0, none⟩ = false := by go_cell
    have f11 : w3.frozen? ⟨w.heap.size + 1, 1, none⟩ = false := by go_cell
    have f20 : w3.frozen? ⟨w.heap.size + 2, 0, none⟩ = false := by go_cell
    have f21 : w3.frozen? ⟨w.heap.size + 2, 1, none⟩ = false := by go_cell
    obtain ⟨bf', fo', hA', hbf', d0⟩ := Hf3.out.int Hfb.out
    injection hA' with hA'
    injection hA' with g1 g2
    subst g1 g2
    have hbw : bf < w3.heap.size := by omega
    clear hbf' d00
    clear hc1 hf1 b1 hc2 hf2 b2 hc3 hf3 b3 Hs1 Hf1 Hr1 hS1 Hs2 Hf2 Hr2 hS2 HD HB HI HX Hs Hf Hr hS
    clear y1 x1 v1 hz1
    clear y2 x2 v2 hz2
    have HE1 := E1.out
    have HE2 := E2.out
    go_cut [13, 14] (fun s1 s2 wx => ∃ (A5 : Option Addr) (c5 : Nat), s1 = .slice A5 R.length c5 ∧ s2 = .int .i64 C ∧ wx.ownsRow w3.heap.size 29 2 (.slice A5 R.length c5) R.length (R.flatMap eInterval) ∧ Below w3.heap.size w3 wx)
    case first =>
      go_region_held3 (fun w' => w'.cell? ⟨w.heap.size, 0, none⟩ = some (.slice A ls.length c) ∧ w'.cell? ⟨w.heap.size + 1, 0, none⟩ = some (.int .i64 lo) ∧ w'.cell? ⟨w.heap.size + 1, 1, none⟩ = some (.int .i64 hi)) (simp [*, World.cell?_alloc_past, World.cell?_setCell_far])
        ((first | (go_at_call 85; refine (HL.out _ (by exact Hf3.out) (by first | omega | go_size | (simp only [World.size_alloc]; omega) | (simp; omega))).mono ?_; rintro e w7 ⟨rfl, b7⟩; replace b7 : Below w3.heap.size w3 w7 := (by first | exact b7 | exact Below.trans (Below.drew (Below.refl _ _)) b7); have z7 := b7.size; obtain ⟨hc7, hf7, hz7⟩ := bstep (Nat.le_refl _) b7; have y7 : w.heap.size < w7.heap.size := (by omega); have x7 : w.heap.size + 1 < w7.heap.size := (by omega); have u7 : bf < w7.heap.size := (by omega)) | (go_at_call 84; refine (HA.out _ (by exact (Hs3.out.below b7 hS3)) (by exact (Hr3.out.below b7 hS3)) (by first | omega | go_size | (simp only [World.size_alloc]; omega) | (simp; omega))).mono ?_; rintro e w8 ⟨A5, c5, rfl, o5, b8⟩; have O5 := Lib.hid o5; clear o5; replace b8 : Below w7.heap.size w7 w8 := (by first | exact b8 | exact Below.trans (Below.drew (Below.refl _ _)) b8); have z8 := b8.size; obtain ⟨hc8, hf8, hz8⟩ := bstep (Nat.le_refl _) b8)))
      all_goals (go_wp2_with fail; go_meet; refine ⟨A5, c5, rfl, rfl, own_more O5.out (by first | omega | go_size), by repeat' (first | (with_reducible exact Below.refl _ _) | (with_reducible assumption) | (with_reducible refine Below.alloc ?_ ?_ _) | (with_reducible refine Below.drew ?_) | (with_reducible refine below_drewN ?_ _) | (with_reducible refine Below.setCell ?_ ?_ _) | (with_reducible refine Below.trans ?_ (Below.mono (by assumption) ?_)) | go_size | (exact Below.size (by assumption)))⟩)
    case rest =>
      obtain ⟨A5, c5, rfl, rfl, o5, b5⟩ := hcut
      have z5 := b5.size
      have B5 : Below w.heap.size w wc := B0.trans (b5.mono (by omega))
      have k1 := (b5.cell (p := ⟨w.heap.size + 1, 0, none⟩) (by omega)).trans c1
      have k2 := (b5.cell (p := ⟨w.heap.size + 1, 1, none⟩) (by omega)).trans c2
      have k3 := (b5.cell (p := ⟨w.heap.size + 2, 0, none⟩) (by omega)).trans c3'
      have k4 := (b5.cell (p := ⟨w.heap.size + 2, 1, none⟩) (by omega)).trans c4
      have fr10 := (b5.frozen (p := ⟨w.heap.size + 1, 0, none⟩) (by simp; omega)).trans f10
      have fr11 := (b5.frozen (p := ⟨w.heap.size + 1, 1, none⟩) (by simp; omega)).trans f11
      have fr20 := (b5.frozen (p := ⟨w.heap.size + 2, 0, none⟩) (by simp; omega)).trans f20
      have fr21 := (b5.frozen (p := ⟨w.heap.size + 2, 1, none⟩) (by simp; omega)).trans f21
      have sz1 : w.heap.size + 1 < wc.heap.size := by omega
      have sz2 : w.heap.size + 2 < wc.heap.size := by omega
      have sz0 : w.heap.size < wc.heap.size := by omega
      have O5 := Lib.hid o5
      clear o5 b5 c0 c1 c2 c3' c4 f10 f11 f20 f21 HA HL B0 Hs3 Hf3 Hr3 d0
      by_cases hC : C = 0
      · subst hC
        have hVl : V = lastI (lo, hi) R := by rw [← HV.out, if_pos rfl]
        have HVl := Lib.hid hVl
        clear hVl
        rcases Nat.eq_zero_or_pos R.length with h0 | h0
        · have hR : R = [] := List.eq_nil_of_length_eq_zero h0
          subst hR
          go_wp2
          refine bodyPost_ret (v := .tuple #[.agg #[.int .i64 lo, .int .i64 hi], .int .i64 0]) (by simp [results, Try.results21, go_sem, *]) rfl ?_
          exact ⟨by rw [HVl.out, lastI_nil], by repeat' (first | (with_reducible exact Below.refl _ _) | (with_reducible assumption) | (with_reducible refine Below.alloc ?_ ?_ _) | (with_reducible refine Below.drew ?_) | (with_reducible refine below_drewN ?_ _) | (with_reducible refine Below.setCell ?_ ?_ _) | (with_reducible refine Below.trans ?_ (Below.mono (by assumption) ?_)) | go_size | (exact Below.size (by assumption)))⟩
        · obtain ⟨nR, hnR⟩ : ∃ nR, R.length = nR + 1 := ⟨R.length - 1, by omega⟩
          have hla := lastI_pos (e := (lo, hi)) hnR
          generalize lastI (lo, hi) R = last at *
          obtain ⟨bb6, oo6, rfl, hb66, m0, m1⟩ := (Rd.of_own O5.out).atInterval hla
          have hp : decide ((0 : Int) < (R.length : Int)) = true := by simp; omega
          have hp2 : (0 : Int) < (R.length : Int) := by omega
          have r0 : IntKind.i64.wrap ((R.length : Int) - 1) = (nR : Int) := by rw [hnR, show ((nR + 1 : Nat) : Int) - 1 = (nR : Int) by omega]; exact IntWalk.i64_in _ (by omega)
          have r1 : (R.length : Int) - 1 = (nR : Int) := by omega
          have r2 : (0 : Int) ≤ (nR : Int) := by omega
          have r3 : (nR : Int) < (R.length : Int) := by omega
          clear hla hnR h0
          go_wp2
          refine bodyPost_ret (v := .tuple #[.agg #[.int .i64 last.1, .int .i64 last.2], .int .i64 0]) (by simp [results, Try.results21, go_sem, *]) rfl ?_
          exact ⟨by rw [HVl.out], by repeat' (first | (with_reducible exact Below.refl _ _) | (with_reducible assumption) | (with_reducible refine Below.alloc ?_ ?_ _) | (with_reducible refine Below.drew ?_) | (with_reducible refine below_drewN ?_ _) | (with_reducible refine Below.setCell ?_ ?_ _) | (with_reducible refine Below.trans ?_ (Below.mono (by assumption) ?_)) | go_size | (exact Below.size (by assumption)))⟩
      · have hVl : V = (0, 0) := by rw [← HV.out, if_neg hC]
        have HVl := Lib.hid hVl
        clear hVl
        have h5 : (C != 0) = true := by simpa using hC
        go_wp2
        refine bodyPost_ret (v := .tuple #[.agg #[.int .i64 0, .int .i64 0], .int .i64 C]) (by simp [results, Try.results21, go_sem, *]) rfl ?_
        exact ⟨by rw [HVl.out], by repeat' (first | (with_reducible exact Below.refl _ _) | (with_reducible assumption) | (with_reducible refine Below.alloc ?_ ?_ _) | (with_reducible refine Below.drew ?_) | (with_reducible refine below_drewN ?_ _) | (with_reducible refine Below.setCell ?_ ?_ _) | (with_reducible refine Below.trans ?_ (Below.mono (by assumption) ?_)) | go_size | (exact Below.size (by assumption)))⟩
end Go.Proofs.Ytooifamckccadaa
