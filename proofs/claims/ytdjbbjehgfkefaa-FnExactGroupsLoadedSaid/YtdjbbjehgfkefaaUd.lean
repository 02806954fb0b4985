/- Draws of usual seatings; CompanionOf of the program and of the reference. -/
import Derived.Test.YtdjbbjehgfkefaaDis
namespace Go.Proofs.Ytdjbbjehgfkefaa
open Go.ChangeShapes Go.WideShapes Go.ChangeAt Go.RowKit
set_option maxRecDepth 20000
set_option linter.unusedVariables false
set_option linter.unusedSimpArgs false
theorem min_any (s : List Int) (h0 : ∀ x ∈ s, 0 ≤ x) (hs : 0 < s.length) (A : Option Addr) (B cc : Nat) (w : World) (hr : Rd w B A (ints s)) (hn : s.length ≤ 1048576) :
   Calls Try.prog 58 #[.slice A s.length cc] w fun e w' => ∃ m : Int, e = .returned (.int .i64 m) ∧ 0 ≤ m ∧ w = w' := by
  have hy := List.getElem?_eq_getElem hs
  generalize s[0] = y at hy
  obtain ⟨b, o, rfl, hb, c0⟩ := hr.int hy
  have hy0 := h0 y (List.mem_of_getElem? hy)
  have hi1 : (0 : Int) < (s.length : Int) := by omega
  have hlt1 : decide ((s.length : Int) < 1) = false := decide_eq_false (by omega)
  have Hr := Lib.hid hr
  have H0 := Lib.hid h0
  rw [Nat.add_zero] at c0
  clear hy hr h0
  go_enter Try.func58, Try.ntmps58
  go_wp2_with fail
  go_loop [3, 4] (fun q i => ∃ k : Nat, 1 ≤ k ∧ k ≤ s.length ∧ i = .int .i64 k ∧ ∃ m : Int, q = .int .i64 m ∧ 0 ≤ m) (fun _ i => s.length - (intOf i).toNat)
  case atStart => exact ⟨1, Nat.le_refl _, hs, rfl, y, rfl, hy0⟩
  case round =>
    obtain ⟨k, hk1, hk, rfl, m, rfl, hm⟩ := hrel
    by_cases hlt : k < s.length
    · have ht := List.getElem?_eq_getElem hlt
      generalize s[k] = x at ht
      obtain ⟨b', o', he, _, d0⟩ := Hr.out.int ht
      injection he with he
      injection he with he1 he2
      subst he1 he2
      have hx0 := H0.out x (List.mem_of_getElem? ht)
      have hj0 : (0 : Int) ≤ (k : Int) := by omega
      have hj1 : (k : Int) < (s.length : Int) := by omega
      clear ht
      by_cases hc : x < m
      all_goals go_wp2
      all_goals go_round
      all_goals first | exact ⟨k + 1, by omega, by omega, by go_num, _, rfl, by omega⟩ | (simp [intOf]; omega)
    · have hk' : k = s.length := by omega
      subst hk'
      go_wp2
      go_ret
      exact ⟨m, rfl, hm, rfl⟩
theorem companionOf_impl (s : List Int) (g : Nat) (hg : g < s.length) (h24 : s.length ≤ 24) (hb : ∀ x ∈ s, 0 ≤ x ∧ x ≤ 100) (A : Option Addr) (B cc : Nat) (w : World) (hr : Rd w B A (ints s)) (hB : B ≤ w.heap.size) :
   Calls Try.prog 29 #[.slice A s.length cc, .int .i64 g] w fun e w' => e = .returned (.tuple #[.int .i64 (compF (qAll s g) s.length), .int .i64 0]) ∧ Below w.heap.size w w' := by
  have hsb : sBd s := fun k q hq => by have := hb q (List.mem_of_getElem? hq); omega
  have hq : compF (fun j => qAll s g j && (fun _ => true) j) s.length = compF (qAll s g) s.length := by
    congr 1; funext j; exact Bool.and_true _
  have HC := Lib.hid (fun (w' : World) (hr' : Rd w' B A (ints s)) (hB' : B ≤ w'.heap.size) => hq ▸ comp_any s g hg hsb (fun _ => true) A B cc w' hr' hB' (by omega) (fun w'' j hj _ => clo_any j w''))
  have HM := Lib.hid (fun (w' : World) (hr' : Rd w' B A (ints s)) => min_any s (fun x hx => (hb x hx).1) (by omega) A B cc w' hr' (by omega))
  generalize compF (qAll s g) s.length = q at *
  have H1 := Lib.hid (show inB (g : Int) 0 ((s.length : Int) - 1) = true by rw [inB, decide_eq_true (by omega), decide_eq_true (by omega)]; rfl)
  have hd : decide ((24 : Int) < (s.length : Int)) = false := decide_eq_false (by omega)
  have Hr := Lib.hid hr
  clear hq hsb hb hr
  go_enter Try.func29, Try.ntmps29
  go_wp2_with (first | (go_at_call 57; refine (length_any _ _ _ _ (by omega)).mono ?_; rintro e w' ⟨rfl, rfl⟩) | (go_at_call 53; refine (within_r _ _ _ true H1.out _).mono ?_; rintro e w' ⟨rfl, rfl⟩) | (go_at_call 58; refine (HM.out _ Hr.out).mono ?_; rintro e w' ⟨m, rfl, hm, rfl⟩; have hmn : decide (m < 0) = false := decide_eq_false (by omega)) | (go_at_call 55; refine (HC.out _ Hr.out hB).mono ?_; rintro e w2 ⟨rfl, hb2⟩))
  go_ret2
  exact ⟨rfl, hb2⟩
theorem companionOf_spec (s : List Int) (g : Nat) (hg : g < s.length) (h24 : s.length ≤ 24) (hb : ∀ x ∈ s, 0 ≤ x ∧ x ≤ 100) (A : Option Addr) (B cc : Nat) (w : World) (hr : Rd w B A (ints s)) (hB : B ≤ w.heap.size) :
   Calls Try.prog 30 #[.slice A s.length cc, .int .i64 g] w fun e w' => e = .returned (.tuple #[.int .i64 (compF (qAll s g) s.length), .int .i64 0]) ∧ Below w.heap.size w w' := by
  have hsb : sBd s := fun k q hq => by have := hb q (List.mem_of_getElem? hq); omega
  have HC := Lib.hid (fun (w' : World) (hr' : Rd w' B A (ints s)) (hB' : B ≤ w'.heap.size) => comp_spec s g hg hsb A B cc w' hr' hB' (by omega))
  generalize compF (qAll s g) s.length = q at *
  have H1 := Lib.hid (show inB (g : Int) 0 ((s.length : Int) - 1) = true by rw [inB, decide_eq_true (by omega), decide_eq_true (by omega)]; rfl)
  have hd : decide ((24 : Int) < (s.length : Int)) = false := decide_eq_false (by omega)
  have Hr := Lib.hid hr
  have Hb := Lib.hid hb
  clear hsb hb hr
  go_enter Try.func30, Try.ntmps30
  go_wp2_with (go_at_call 32; refine (l01In_r' _ _ _ true H1.out _).mono ?_; rintro e w' ⟨rfl, rfl⟩)
  go_loop [6] (fun i => ∃ k : Nat, k ≤ s.length ∧ i = .int .i64 k) (fun i => s.length - (intOf i).toNat)
  case atStart => exact ⟨0, Nat.zero_le _, rfl⟩
  case round =>
    obtain ⟨k, hk, rfl⟩ := hrel
    by_cases hlt : k < s.length
    · have ht := List.getElem?_eq_getElem hlt
      generalize s[k] = x at ht
      obtain ⟨b, o, rfl, _, d0⟩ := Hr.out.int ht
      have hx := (Hb.out x (List.mem_of_getElem? ht)).1
      have hxn : decide (x < 0) = false := decide_eq_false (by omega)
      have hj0 : (0 : Int) ≤ (k : Int) := by omega
      have hj1 : (k : Int) < (s.length : Int) := by omega
      clear ht
      go_wp2
      go_round
      case rel => exact ⟨k + 1, by omega, by go_num⟩
      case measure => simp [intOf]; omega
    · have hk' : k = s.length := by omega
      subst hk'
      go_wp2_with (go_at_call 56; refine (HC.out _ Hr.out hB).mono ?_; rintro e w2 ⟨rfl, hb2⟩)
      go_ret2
      exact ⟨rfl, hb2⟩
def UseDP (w0 : World) (e : Ending) (w' : World) : Prop :=
  ∃ (x y z : Int) (l : List Int) (A : Option Addr) (c : Nat) (n : Int), e = .returned (.tuple #[.agg #[.int .i64 x, .int .i64 y, .int .i64 z], .slice A l.length c, .int .i64 n]) ∧ l.length ≤ 25 ∧ 0 ≤ n ∧ n ≤ 13 ∧ Rd w' w'.heap.size A (ints l) ∧ Below w0.heap.size w0 w'
theorem ret_useD {fn : Func} {t m v : Tmp} {a : Act} {w : World} {R : Ending → World → Prop} {b : Nat} {A : Option Addr} {k c : Nat} {n x y z : Int} (hres : fn.results = #[.cell t 27, .tmp m, .tmp v]) (ha : a.tmps.getD t undef = .pointer (some ⟨b, 0, none⟩)) (hm : a.tmps.getD m undef = .slice A k c) (hv : a.tmps.getD v undef = .int .i64 n) (hd : a.defers = []) (h : Bk w b #[.int .i64 x, .int .i64 y, .int .i64 z]) (hR : R (.returned (.tuple #[.agg #[.int .i64 x, .int .i64 y, .int .i64 z], .slice A k c, .int .i64 n])) w) : bodyPost Try.prog fn R .ret a w := by
  refine bodyPost_ret ?_ hd hR
  obtain ⟨c0, c1, c2, cf, cs⟩ := bk3 h
  simp only [Array.getD_eq_getD_getElem?] at ha hv hm
  simp [results, hres, ha, hv, hm, go_sem, *]
set_option maxHeartbeats 4000000 in
theorem drawUsualSeating_any (bl : List Int) (hbl : isU8 bl) (hn : bl.length ≤ 4096) (C : Option Addr) (cap : Nat) (w0 : World) (hr : Rd w0 w0.heap.size C (bytesU bl)) :
   Calls Try.prog 27 #[.slice C bl.length cap] w0 (UseDP w0) := by
  have hra := hr.alloc (Nat.le_refl _) (.cells #[.int .i64 0, .int .i64 0, .int .i64 0] 27)
  have HF : Hid (Calls Try.prog 46 #[.slice C bl.length cap] (w0.alloc (.cells #[.int .i64 0, .int .i64 0, .int .i64 0] 27)) (fun e w' => ∃ g : Nat, w0.heap.size + 1 ≤ g ∧ e = .returned (.pointer (some ⟨g, 0, none⟩)) ∧ Src w' g C bl.length cap ∧ Below (w0.heap.size + 1) (w0.alloc (.cells #[.int .i64 0, .int .i64 0, .int .i64 0] 27)) w' ∧ g < w'.heap.size)) := Lib.hid
    ((l01From_any bl hbl hn C w0.heap.size cap _ hra (by simp)).mono fun e w' ⟨a, b, c, d⟩ => ⟨_, by simp, a, b, by simpa using c, d⟩)
  have Hr := Lib.hid hra
  have K0 := Lib.hid (bk_new w0 #[.int .i64 0, .int .i64 0, .int .i64 0] 27)
  have Ba := Lib.hid ((Below.refl w0.heap.size w0).alloc (Nat.le_refl _) (.cells #[.int .i64 0, .int .i64 0, .int .i64 0] 27))
  have Hbl := Lib.hid hbl
  clear hr hbl hra
  go_enter Try.func27, Try.ntmps27
  go_wp2_with fail
  refine HF.out.mono ?_
  rintro e w1 ⟨g, hg, rfl, hs, hb, hz⟩
  have D1 := Lib.hid (DS.start (Hr.out.below hb (by omega)) hs (by omega) Hbl.out hn)
  have K1 := Lib.hid (bk_below K0.out hb (by omega))
  have B1 := Lib.hid (Ba.out.trans (hb.mono (by omega)))
  have hz1 : w0.heap.size + 1 ≤ w1.heap.size := by omega
  have hne0 : w0.heap.size ≠ g := by omega
  clear hs HF Hr hb K0 Ba hz
  go_wp2_with fail
  refine (l28DrawRule_any w1 g _ C cap bl D1.out).mono ?_
  rintro e w2 ⟨x, y, z, rfl, d2⟩
  have z2 := d2.size.1
  have zg := d2.size.2
  have K2 := Lib.hid (bk_alloc (bk_apart K1.out d2.2.2.1 hne0) (.cells #[.int .i64 x, .int .i64 y, .int .i64 z] 27))
  have L2 := Lib.hid (bk_new w2 #[.int .i64 x, .int .i64 y, .int .i64 z] 27)
  have D2 := Lib.hid (d2.alloc (.cells #[.int .i64 x, .int .i64 y, .int .i64 z] 27))
  have B0 := Lib.hid B1.out
  have B2 := Lib.hid ((B1.out.trans (below_of_grownBy (B := w0.heap.size) d2.2.2.1 (by omega) (fun k hk => by injection hk with hk; omega))).alloc (by omega) (.cells #[.int .i64 x, .int .i64 y, .int .i64 z] 27))
  have hwz : w2.heap.size < (w2.alloc (.cells #[.int .i64 x, .int .i64 y, .int .i64 z] 27)).heap.size := by simp
  have hgb : g < w2.heap.size := by omega
  clear d2 K1 D1 B1
  go_wp2_with fail
  generalize hW : (w2.alloc (.cells #[.int .i64 x, .int .i64 y, .int .i64 z] 27)) = W at *
  clear hW
  generalize w2.heap.size = bb at *
  have hbw : w1.heap.size ≤ W.heap.size := by omega
  have hb0 : bb ≠ w0.heap.size := by omega
  have hb1 : w0.heap.size ≠ bb := by omega
  obtain ⟨q0, q1, q2, qf, qs⟩ := bk3 L2.out
  obtain ⟨r0, r1, r2, rf, rs⟩ := bk3 K2.out
  go_region_held3 (fun w' => w'.cell? ⟨bb, 0, none⟩ = some (.int .i64 x) ∧ w'.cell? ⟨bb, 1, none⟩ = some (.int .i64 y) ∧ w'.cell? ⟨bb, 2, none⟩ = some (.int .i64 z)) (first | assumption | (simp [*, World.cell?_alloc_past, World.cell?_setCell_far])) (first | (go_at_call 49; refine (l28DrawHeights_any _ g _ C cap bl x y z 9 (by omega) (by omega) D2.out.drew.again).mono ?_; rintro e w3 ⟨l, A, c, rfl, hl, ol, d3⟩; have g3 : W.grownBy w3 (some g) := (by exact ⟨d3.2.2.1.os, d3.2.2.1.tape, d3.2.2.1.output, d3.2.2.1.size, d3.2.2.1.block⟩); have O3 := Lib.hid (show w3.ownsRow W.heap.size 2 1 (.slice A l.length c) l.length (ints l) from ol); have K3 := Lib.hid (bk_apart K2.out g3 hne0); have L3 := Lib.hid (bk_keep L2.out g3 hgb); have D3 := Lib.hid (D2.out.drew.join d3); clear d3 ol g3; obtain ⟨q0, q1, q2, qf, qs⟩ := bk3 L3.out; obtain ⟨r0, r1, r2, rf, rs⟩ := bk3 K3.out) | (go_at_call 50; refine (l28DrawRows_any _ g _ C cap bl D3.out.again).mono ?_; rintro e w4 ⟨n, rfl, n0, n1, d4, g4⟩; have O4 := Lib.hid (DS.own O3.out g4 (by omega)); have K4 := Lib.hid (bk_apart K3.out g4 hne0); have L4 := Lib.hid (bk_keep L3.out g4 hgb); have D4 := Lib.hid (D3.out.join d4); clear d4 g4; obtain ⟨q0, q1, q2, qf, qs⟩ := bk3 L4.out; obtain ⟨r0, r1, r2, rf, rs⟩ := bk3 K4.out))
  all_goals (
    go_wp2
    (try simp only [Exit.inBlock, Exit.then])
    refine ret_useD rfl rfl rfl rfl rfl (bk_fill3 K4.out _ _ _) ?_
    have e1 : ∀ q, (Value.slice A l.length c).ownBlock = some q → W.heap.size ≤ q := fun q hq => (own_lt O4.out q hq).1
    have B4 := B0.out.trans (below_of_grownBy (B := w0.heap.size) D4.out.2.2.1 (by omega) (fun k hk => by injection hk with hk; omega))
    exact ⟨x, y, z, l, A, c, n, rfl, hl, n0, n1, Rd.of_own (own_set (own_set (own_set O4.out (fun q => by have := e1 _ q; omega) 0 _) (fun q => by have := e1 _ q; omega) 1 _) (fun q => by have := e1 _ q; omega) 2 _), ((B4.setCell (Nat.le_refl _) _).setCell (Nat.le_refl _) _).setCell (Nat.le_refl _) _⟩)
end Go.Proofs.Ytdjbbjehgfkefaa
