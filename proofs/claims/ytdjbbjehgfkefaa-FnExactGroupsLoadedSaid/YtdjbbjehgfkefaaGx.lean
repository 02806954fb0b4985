/- Lists of lists of numbers; GroupsLoaded of the program. -/
import Derived.Test.YtdjbbjehgfkefaaIg
import Derived.Test.YtdjbbjehgfkefaaQs
namespace Go.Proofs.Ytdjbbjehgfkefaa
open Go.ChangeShapes Go.WideShapes Go.ChangeAt Go.RowKit
set_option maxRecDepth 20000
set_option linter.unusedVariables false
set_option linter.unusedSimpArgs false
/-- the slice A reads as the lists G, all below block B -/
def RdG (w : World) (B : Nat) (A : Option Addr) (G : List (List Int)) : Prop :=
  ∃ hs : List Value, hs.length = G.length ∧ Rd w B A hs ∧ ∀ (k : Nat) (l : List Int), G[k]? = some l → ∃ A' c', hs[k]? = some (.slice A' l.length c') ∧ Rd w B A' (ints l)
theorem RdG.below {w w' : World} {B N : Nat} {A : Option Addr} {G : List (List Int)} (h : RdG w B A G) (hb : Below N w w') (hN : B ≤ N) : RdG w' B A G := by
  obtain ⟨hs, h1, h2, h3⟩ := h
  exact ⟨hs, h1, h2.below hb hN, fun k l hk => by obtain ⟨A', c', h4, h5⟩ := h3 k l hk; exact ⟨A', c', h4, h5.below hb hN⟩⟩
theorem RdG.more {w : World} {B B' : Nat} {A : Option Addr} {G : List (List Int)} (h : RdG w B A G) (hB : B ≤ B') : RdG w B' A G := by
  obtain ⟨hs, h1, h2, h3⟩ := h
  exact ⟨hs, h1, h2.more hB, fun k l hk => by obtain ⟨A', c', h4, h5⟩ := h3 k l hk; exact ⟨A', c', h4, h5.more hB⟩⟩
theorem RdG.alloc {w : World} {B : Nat} {A : Option Addr} {G : List (List Int)} (h : RdG w B A G) (hB : B ≤ w.heap.size) (o : Obj) : RdG (w.alloc o) B A G :=
  h.below ((Below.refl w.heap.size w).alloc (Nat.le_refl _) o) hB
theorem RdG.at {w : World} {B : Nat} {A : Option Addr} {G : List (List Int)} (h : RdG w B A G) {k : Nat} {l : List Int} (hk : G[k]? = some l) :
    ∃ b o A' c', A = some ⟨b, o, none⟩ ∧ b < B ∧ w.cell? ⟨b, o + k, none⟩ = some (.slice A' l.length c') ∧ Rd w B A' (ints l) := by
  obtain ⟨hs, h1, h2, h3⟩ := h
  obtain ⟨A', c', h4, h5⟩ := h3 k l hk
  have hl : k < hs.length := (List.getElem?_eq_some_iff.1 h4).1
  obtain ⟨b, o, e, hb, hc⟩ := h2 (by omega)
  exact ⟨b, o, A', c', e, hb, hc k _ h4, h5⟩
theorem g1_any (l : List Int) (A : Option Addr) (c : Nat) (w : World) (hn : l.length ≤ 1048576) : Calls Try.prog 44 #[.slice A l.length c] w fun e w' => e = .returned (.bool (decide (24 < l.length))) ∧ w = w' := by
  have e : decide ((24 : Int) < (l.length : Int)) = decide (24 < l.length) := by
    by_cases h : 24 < l.length
    · rw [decide_eq_true h, decide_eq_true (by omega)]
    · rw [decide_eq_false h, decide_eq_false (by omega)]
  go_enter Try.func44, Try.ntmps44
  go_wp2
  go_ret
  exact ⟨ret_bool (by simp), rfl⟩
theorem g2_any (a b c : Int) (l : List Int) (A : Option Addr) (B cc b1 : Nat) (w : World) (hr : Rd w B A (ints l)) (hB : B ≤ w.heap.size) (hn : l.length ≤ 1048576) (K : Bk w b1 #[.int .i64 a, .int .i64 b, .int .i64 c]) :
   Calls Try.prog 45 #[.slice A l.length cc, .pointer (some ⟨b1, 0, none⟩)] w fun e w' => e = .returned (.bool (hcode a b c l != 0)) ∧ Below w.heap.size w w' := by
  obtain ⟨q0, q1, q2, qf, qs⟩ := bk3 K
  have HC := Lib.hid (hcode_impl a b c l A B cc w hr hB hn)
  generalize hcode a b c l = h at *
  clear K
  go_enter Try.func45, Try.ntmps45
  go_wp2_with (go_at_call 36; refine HC.out.mono ?_; rintro e w1 ⟨rfl, hb⟩)
  go_ret
  exact ⟨rfl, hb⟩
theorem idxG1 (G : List (List Int)) (hG : ∀ l ∈ G, l.length ≤ 1048576) (A : Option Addr) (B cc : Nat) (w : World) (hr : RdG w B A G) (hB : B ≤ w.heap.size) (hn : G.length ≤ 1048576) :
   Calls Try.prog 63 #[.slice A G.length cc, .func (Fn.func 44) #[] #[]] w fun e w' => e = .returned (.int .i64 (idxB (fun l : List Int => decide (24 < l.length)) G)) ∧ Below w.heap.size w w' := by
  have HG := Lib.hid hG
  have HR := Lib.hid hr
  clear hG hr
  go_enter Try.func63, Try.ntmps63
  go_wp2_with fail
  go_loopw [8] (fun i wr => ∃ k : Nat, k ≤ G.length ∧ i = .int .i64 k ∧ (G.take k).any (fun l : List Int => decide (24 < l.length)) = false ∧ Below w.heap.size w wr) (fun i _ => G.length - (intOf i).toNat)
  case atStart => exact ⟨0, Nat.zero_le _, rfl, by simp, Below.refl _ _⟩
  case round =>
    obtain ⟨k, hk, rfl, hall, hbw⟩ := hrel
    have Ha := Lib.hid hall
    have Hb := Lib.hid hbw
    have hsz := hbw.size
    by_cases hlt : k < G.length
    · have ht := List.getElem?_eq_getElem hlt
      generalize G[k] = l at ht
      have hl := HG.out l (List.mem_of_getElem? ht)
      obtain ⟨b', o', A', c', rfl, hb', c0, hrl⟩ := (HR.out.below hbw hB).at ht
      have Ht := Lib.hid ht
      have Hrl := Lib.hid hrl
      have hj0 : (0 : Int) ≤ (k : Int) := by omega
      have hj1 : (k : Int) < (G.length : Int) := by omega
      skip
      have HC := Lib.hid (g1_any l A' c' wr hl)
      obtain ⟨u, hu⟩ : ∃ u : Bool, (fun l : List Int => decide (24 < l.length)) l = u := ⟨_, rfl⟩
      have Hu := Lib.hid hu
      dsimp only at hu
      rw [hu] at HC
      clear ht hall hbw hrl hu
      cases u with
      | true =>
        go_wp2_with (go_at_call 44; refine HC.out.mono ?_; rintro e w1 ⟨rfl, rfl⟩)
        go_ret
        exact ⟨ret_int (by rw [idxB_here _ _ Ht.out Ha.out Hu.out]), Hb.out⟩
      | false =>
        go_wp2_with (go_at_call 44; refine HC.out.mono ?_; rintro e w1 ⟨rfl, rfl⟩)
        go_roundw
        case rel => exact ⟨k + 1, by omega, by go_num, by rw [any_step _ _ Ht.out, Ha.out, Hu.out]; rfl, Hb.out⟩
        case measure => simp [intOf]; omega
    · have hk' : k = G.length := by omega
      subst hk'
      rw [List.take_length] at hall
      have Ha := Lib.hid hall
      clear hall hbw
      go_wp2
      go_ret
      exact ⟨ret_int (by rw [idxB_none _ _ Ha.out]), Hb.out⟩
theorem conG1 (G : List (List Int)) (r : Bool) (hres : G.any (fun l : List Int => decide (24 < l.length)) = r) (hG : ∀ l ∈ G, l.length ≤ 1048576) (A : Option Addr) (B cc : Nat) (w : World) (hr : RdG w B A G) (hB : B ≤ w.heap.size) (hn : G.length ≤ 1048576) :
   Calls Try.prog 43 #[.slice A G.length cc, .func (Fn.func 44) #[] #[]] w fun e w' => e = .returned (.bool r) ∧ Below w.heap.size w w' := by
  subst hres
  have HI := Lib.hid (idxG1 G hG A B cc w hr hB hn)
  clear hr
  go_enter Try.func43, Try.ntmps43
  go_wp2_with (go_at_call 63; refine HI.out.mono ?_; rintro e w1 ⟨rfl, hb⟩)
  go_ret
  exact ⟨ret_bool (idxB_any _ _), hb⟩
theorem idxG2 (G : List (List Int)) (a b c : Int) (b1 : Nat) (hG : ∀ l ∈ G, l.length ≤ 1048576) (A : Option Addr) (B cc : Nat) (w : World) (hr : RdG w B A G) (hB : B ≤ w.heap.size) (hn : G.length ≤ 1048576) (K : Bk w b1 #[.int .i64 a, .int .i64 b, .int .i64 c]) :
   Calls Try.prog 63 #[.slice A G.length cc, .func (Fn.func 45) #[] #[.pointer (some ⟨b1, 0, none⟩)]] w fun e w' => e = .returned (.int .i64 (idxB (fun l : List Int => hcode a b c l != 0) G)) ∧ Below w.heap.size w w' := by
  have HG := Lib.hid hG
  have HR := Lib.hid hr
  clear hG hr
  go_enter Try.func63, Try.ntmps63
  go_wp2_with fail
  go_loopw [8] (fun i wr => ∃ k : Nat, k ≤ G.length ∧ i = .int .i64 k ∧ (G.take k).any (fun l : List Int => hcode a b c l != 0) = false ∧ Below w.heap.size w wr) (fun i _ => G.length - (intOf i).toNat)
  case atStart => exact ⟨0, Nat.zero_le _, rfl, by simp, Below.refl _ _⟩
  case round =>
    obtain ⟨k, hk, rfl, hall, hbw⟩ := hrel
    have Ha := Lib.hid hall
    have Hb := Lib.hid hbw
    have hsz := hbw.size
    by_cases hlt : k < G.length
    · have ht := List.getElem?_eq_getElem hlt
      generalize G[k] = l at ht
      have hl := HG.out l (List.mem_of_getElem? ht)
      obtain ⟨b', o', A', c', rfl, hb', c0, hrl⟩ := (HR.out.below hbw hB).at ht
      have Ht := Lib.hid ht
      have Hrl := Lib.hid hrl
      have hj0 : (0 : Int) ≤ (k : Int) := by omega
      have hj1 : (k : Int) < (G.length : Int) := by omega
      have K1 := bk_below K hbw (bk_lt K)
      have HC := Lib.hid (g2_any a b c l A' B c' b1 wr hrl (by omega) hl K1)
      obtain ⟨u, hu⟩ : ∃ u : Bool, (fun l : List Int => hcode a b c l != 0) l = u := ⟨_, rfl⟩
      have Hu := Lib.hid hu
      dsimp only at hu
      rw [hu] at HC
      clear ht hall hbw hrl hu
      cases u with
      | true =>
        go_wp2_with (go_at_call 45; refine HC.out.mono ?_; rintro e w1 ⟨rfl, hb⟩)
        go_ret
        exact ⟨ret_int (by rw [idxB_here _ _ Ht.out Ha.out Hu.out]), Hb.out.trans (hb.mono hsz)⟩
      | false =>
        go_wp2_with (go_at_call 45; refine HC.out.mono ?_; rintro e w1 ⟨rfl, hb⟩)
        go_roundw
        case rel => exact ⟨k + 1, by omega, by go_num, by rw [any_step _ _ Ht.out, Ha.out, Hu.out]; rfl, Hb.out.trans (hb.mono hsz)⟩
        case measure => simp [intOf]; omega
    · have hk' : k = G.length := by omega
      subst hk'
      rw [List.take_length] at hall
      have Ha := Lib.hid hall
      clear hall hbw
      go_wp2
      go_ret
      exact ⟨ret_int (by rw [idxB_none _ _ Ha.out]), Hb.out⟩
theorem conG2 (G : List (List Int)) (a b c : Int) (b1 : Nat) (r : Bool) (hres : G.any (fun l : List Int => hcode a b c l != 0) = r) (hG : ∀ l ∈ G, l.length ≤ 1048576) (A : Option Addr) (B cc : Nat) (w : World) (hr : RdG w B A G) (hB : B ≤ w.heap.size) (hn : G.length ≤ 1048576) (K : Bk w b1 #[.int .i64 a, .int .i64 b, .int .i64 c]) :
   Calls Try.prog 43 #[.slice A G.length cc, .func (Fn.func 45) #[] #[.pointer (some ⟨b1, 0, none⟩)]] w fun e w' => e = .returned (.bool r) ∧ Below w.heap.size w w' := by
  subst hres
  have HI := Lib.hid (idxG2 G a b c b1 hG A B cc w hr hB hn K)
  clear hr
  go_enter Try.func43, Try.ntmps43
  go_wp2_with (go_at_call 63; refine HI.out.mono ?_; rintro e w1 ⟨rfl, hb⟩)
  go_ret
  exact ⟨ret_bool (idxB_any _ _), hb⟩
theorem hc_any {a b c : Int} : ∀ {G : List (List Int)}, ruleB a b c = true → G.any (fun l => decide (24 < l.length)) = false → G.any (fun l => hcode a b c l != 0) = G.any (fun l => !(l.all (inB · 1 3000)))
  | [], _, _ => rfl
  | l :: G, h1, h2 => by
    rw [List.any_cons, Bool.or_eq_false_iff] at h2
    rw [List.any_cons, List.any_cons, hc_any h1 h2.2]
    congr 1
    have h3 : ¬ 24 < l.length := by have := h2.1; simp at this; omega
    rw [hcode, if_pos h1, if_neg h3]
    cases l.all (inB · 1 3000) <;> rfl
set_option maxHeartbeats 4000000 in
theorem groups_impl (a b c n : Int) (G : List (List Int)) (hG : ∀ l ∈ G, l.length ≤ 1048576) (A : Option Addr) (B cc : Nat) (w : World) (hr : RdG w B A G) (hB : B ≤ w.heap.size) (hn : G.length ≤ 1048576) :
   Calls Try.prog 18 #[.agg #[.int .i64 a, .int .i64 b, .int .i64 c], .slice A G.length cc, .int .i64 n] w fun e w' => e = .returned (.tuple #[.int .i64 (grN a b c G n), .int .i64 (grC a b c G n)]) ∧ Below w.heap.size w w' := by
  have HG := Lib.hid hG
  have R0 := Lib.hid (hr.alloc hB (.cells #[.int .i64 a, .int .i64 b, .int .i64 c] 27))
  have K0 := Lib.hid (bk_new w #[.int .i64 a, .int .i64 b, .int .i64 c] 27)
  have B0 := Lib.hid ((Below.refl w.heap.size w).alloc (Nat.le_refl _) (.cells #[.int .i64 a, .int .i64 b, .int .i64 c] 27))
  clear hG hr
  rcases gr_cases a b c G n with ⟨h1, e1, e2⟩ | ⟨h1, h2, e1, e2⟩ | ⟨h1, h2, h3, e1, e2⟩ | ⟨h1, h2, h3, h4, e1, e2⟩ | ⟨h1, h2, h3, h4, h5, hC, hN1, hN2⟩
  · rw [e1, e2]
    have H1 := Lib.hid h1
    clear h1 e1 e2
    go_enter Try.func18, Try.ntmps18
    go_wp2_with (first | (go_at_call 42; refine (ruleB_impl_r a b c false H1.out _).mono ?_; rintro e w1 ⟨rfl, hb⟩; have hz1 := hb.size; have K1 := Lib.hid (bk_below K0.out hb (bk_lt K0.out)); have R1 := Lib.hid (R0.out.below hb (by simp; omega)); have B1 := Lib.hid (B0.out.trans (hb.mono (by simp))); obtain ⟨q0, q1, q2, qf, qs⟩ := bk3 K1.out; clear hb))
    go_ret2
    exact ⟨rfl, B1.out⟩
  · rw [e1, e2]
    have H1 := Lib.hid h1
    have hd : decide ((24 : Int) < (G.length : Int)) = true := decide_eq_true (by omega)
    clear h1 h2 e1 e2
    go_enter Try.func18, Try.ntmps18
    go_wp2_with (first | (go_at_call 42; refine (ruleB_impl_r a b c true H1.out _).mono ?_; rintro e w1 ⟨rfl, hb⟩; have hz1 := hb.size; have K1 := Lib.hid (bk_below K0.out hb (bk_lt K0.out)); have R1 := Lib.hid (R0.out.below hb (by simp; omega)); have B1 := Lib.hid (B0.out.trans (hb.mono (by simp))); obtain ⟨q0, q1, q2, qf, qs⟩ := bk3 K1.out; clear hb))
    go_ret2
    exact ⟨rfl, B1.out⟩
  · rw [e1, e2]
    have H1 := Lib.hid h1
    have H3 := Lib.hid h3
    have hd : decide ((24 : Int) < (G.length : Int)) = false := decide_eq_false (by omega)
    clear h1 h2 h3 e1 e2
    go_enter Try.func18, Try.ntmps18
    go_wp2_with (first | (go_at_call 42; refine (ruleB_impl_r a b c true H1.out _).mono ?_; rintro e w1 ⟨rfl, hb⟩; have hz1 := hb.size; have K1 := Lib.hid (bk_below K0.out hb (bk_lt K0.out)); have R1 := Lib.hid (R0.out.below hb (by simp; omega)); have B1 := Lib.hid (B0.out.trans (hb.mono (by simp))); obtain ⟨q0, q1, q2, qf, qs⟩ := bk3 K1.out; clear hb) | (go_at_call 43; refine (conG1 G true H3.out HG.out A B cc _ R1.out (by omega) hn).mono ?_; rintro e w2 ⟨rfl, hb⟩; have hz2 := hb.size; have K2 := Lib.hid (bk_below K1.out hb (bk_lt K1.out)); have R2 := Lib.hid (R1.out.below hb (by omega)); have B2 := Lib.hid (B1.out.trans (hb.mono (by omega))); obtain ⟨q0, q1, q2, qf, qs⟩ := bk3 K2.out; clear hb))
    go_ret2
    exact ⟨rfl, B2.out⟩
  · rw [e1, e2]
    have H1 := Lib.hid h1
    have H3 := Lib.hid h3
    have h5 := hc_any h1 h3
    have hd : decide ((24 : Int) < (G.length : Int)) = false := decide_eq_false (by omega)
    clear e1 e2 h2
    cases h4' : inB n 1 12 with
    | false =>
      have H4 := Lib.hid h4'
      clear h1 h3 h4 h4' h5
      go_enter Try.func18, Try.ntmps18
      go_wp2_with (first | (go_at_call 42; refine (ruleB_impl_r a b c true H1.out _).mono ?_; rintro e w1 ⟨rfl, hb⟩; have hz1 := hb.size; have K1 := Lib.hid (bk_below K0.out hb (bk_lt K0.out)); have R1 := Lib.hid (R0.out.below hb (by simp; omega)); have B1 := Lib.hid (B0.out.trans (hb.mono (by simp))); obtain ⟨q0, q1, q2, qf, qs⟩ := bk3 K1.out; clear hb) | (go_at_call 43; refine (conG1 G false H3.out HG.out A B cc _ R1.out (by omega) hn).mono ?_; rintro e w2 ⟨rfl, hb⟩; have hz2 := hb.size; have K2 := Lib.hid (bk_below K1.out hb (bk_lt K1.out)); have R2 := Lib.hid (R1.out.below hb (by omega)); have B2 := Lib.hid (B1.out.trans (hb.mono (by omega))); obtain ⟨q0, q1, q2, qf, qs⟩ := bk3 K2.out; clear hb) | (go_at_call 37; refine (isRowCount_r _ false H4.out _).mono ?_; rintro e w' ⟨rfl, rfl⟩))
      go_ret2
      exact ⟨rfl, B2.out⟩
    | true =>
      have H4 := Lib.hid h4'
      have H5 := Lib.hid (h5.trans (h4.resolve_left (by rw [h4']; decide)))
      clear h1 h3 h4 h4' h5
      go_enter Try.func18, Try.ntmps18
      go_wp2_with fail
      refine (ruleB_impl_r a b c true H1.out _).mono ?_
      rintro e w1 ⟨rfl, hb⟩
      have hz1 := hb.size
      have K1 := Lib.hid (bk_below K0.out hb (bk_lt K0.out))
      have R1 := Lib.hid (R0.out.below hb (by simp; omega))
      have B1 := Lib.hid (B0.out.trans (hb.mono (by simp)))
      obtain ⟨q0, q1, q2, qf, qs⟩ := bk3 K1.out
      clear hb
      go_wp2_with fail
      refine (conG1 G false H3.out HG.out A B cc _ R1.out (by omega) hn).mono ?_
      rintro e w2 ⟨rfl, hb⟩
      have hz2 := hb.size
      have K2 := Lib.hid (bk_below K1.out hb (bk_lt K1.out))
      have R2 := Lib.hid (R1.out.below hb (by omega))
      have B2 := Lib.hid (B1.out.trans (hb.mono (by omega)))
      obtain ⟨q0, q1, q2, qf, qs⟩ := bk3 K2.out
      clear hb
      go_wp2_with (first | (go_at_call 37; refine (isRowCount_r _ true H4.out _).mono ?_; rintro e w' ⟨rfl, rfl⟩) | (go_at_call 43; refine (conG2 G a b c _ true H5.out HG.out A B cc _ R2.out (by omega) hn K2.out).mono ?_; rintro e w3 ⟨rfl, hb⟩; have hz3 := hb.size; have K3 := Lib.hid (bk_below K2.out hb (bk_lt K2.out)); have R3 := Lib.hid (R2.out.below hb (by omega)); have B3 := Lib.hid (B2.out.trans (hb.mono (by omega))); obtain ⟨q0, q1, q2, qf, qs⟩ := bk3 K3.out; clear hb))
      go_ret2
      exact ⟨rfl, B3.out⟩
  · have H1 := Lib.hid h1
    have H3 := Lib.hid h3
    have H4 := Lib.hid h4
    have H5 := Lib.hid ((hc_any h1 h3).trans h5)
    have hd : decide ((24 : Int) < (G.length : Int)) = false := decide_eq_false (by omega)
    generalize hN : grN a b c G n = gn
    have hC' : grC a b c G n = firstC a b c G := hC
    rw [hC']
    have hle : ∀ l ∈ G, l.length ≤ 24 := fun l hl => by
      have := List.any_eq_false.1 h3 l hl
      simp at this; exact this
    have hbd := fun k => preS_bd (a := a) (b := b) (c := c) hle k
    have hbad := Lib.hid (fun (k : Nat) (l : List Int) (hk : G[k]? = some l) (hall : ∀ j x, j < k → G[j]? = some x → rowC a b c x = 0) (hr : rowC a b c l ≠ 0) => show gn = 0 ∧ firstC a b c G = rowC a b c l from ⟨by rw [← hN]; exact hN1 (by rw [firstC_here hk hall hr]; exact hr), firstC_here hk hall hr⟩)
    have hgood := Lib.hid (fun (hall : ∀ j x, j < G.length → G[j]? = some x → rowC a b c x = 0) => show gn = outG (needsG a b c G) n G.length ∧ firstC a b c G = 0 from ⟨by rw [← hN]; exact hN2 (firstC_none hall), firstC_none hall⟩)
    have Hle := Lib.hid hle
    have Hbd := Lib.hid hbd
    have hol := Lib.hid (fun k => outG_le (needsG a b c G) n k)
    generalize firstC a b c G = fc at *
    have hn12 : 1 ≤ n ∧ n ≤ 12 := by rw [inB, Bool.and_eq_true, decide_eq_true_eq, decide_eq_true_eq] at h4; exact h4
    clear h1 h3 h4 h5 hN hC hC' hN1 hN2 hle hbd
    go_enter Try.func18, Try.ntmps18
    go_wp2_with fail
    refine (ruleB_impl_r a b c true H1.out _).mono ?_
    rintro e w1 ⟨rfl, hb⟩
    have hz1 := hb.size
    have K1 := Lib.hid (bk_below K0.out hb (bk_lt K0.out))
    have R1 := Lib.hid (R0.out.below hb (by simp; omega))
    have B1 := Lib.hid (B0.out.trans (hb.mono (by simp)))
    obtain ⟨q0, q1, q2, qf, qs⟩ := bk3 K1.out
    clear hb
    go_wp2_with fail
    refine (conG1 G false H3.out HG.out A B cc _ R1.out (by omega) hn).mono ?_
    rintro e w2 ⟨rfl, hb⟩
    have hz2 := hb.size
    have K2 := Lib.hid (bk_below K1.out hb (bk_lt K1.out))
    have R2 := Lib.hid (R1.out.below hb (by omega))
    have B2 := Lib.hid (B1.out.trans (hb.mono (by omega)))
    obtain ⟨q0, q1, q2, qf, qs⟩ := bk3 K2.out
    clear hb
    go_wp2_with (first | (go_at_call 37; refine (isRowCount_r _ true H4.out _).mono ?_; rintro e w' ⟨rfl, rfl⟩) | (go_at_call 43; refine (conG2 G a b c _ false H5.out HG.out A B cc _ R2.out (by omega) hn K2.out).mono ?_; rintro e w3 ⟨rfl, hb⟩; have hz3 := hb.size; have K3 := Lib.hid (bk_below K2.out hb (bk_lt K2.out)); have R3 := Lib.hid (R2.out.below hb (by omega)); have B3 := Lib.hid (B2.out.trans (hb.mono (by omega))); obtain ⟨q0, q1, q2, qf, qs⟩ := bk3 K3.out; clear hb))
    clear q0 q1 q2 qf qs
    have hwz : w.heap.size ≤ w3.heap.size := by omega
    go_loopw [8, 9, 37] (fun d t i wr => ∃ k : Nat, k ≤ G.length ∧ i = .int .i64 k ∧ t = .int .i64 (preS (needsG a b c G) k) ∧ d = .int .i64 (outG (needsG a b c G) n k : Nat) ∧ (∀ j x, j < k → G[j]? = some x → rowC a b c x = 0) ∧ Bk wr w.heap.size #[.int .i64 a, .int .i64 b, .int .i64 c] ∧ RdG wr B A G ∧ Below w.heap.size w wr) (fun _ _ i _ => G.length - (intOf i).toNat)
    case atStart => exact ⟨0, Nat.zero_le _, rfl, rfl, rfl, fun j x hj => absurd hj (Nat.not_lt_zero _), K3.out, R3.out, B3.out⟩
    case round =>
      clear K3 R3 B3 K2 R2 B2 K1 R1 B1 K0
      obtain ⟨k, hk, rfl, rfl, rfl, hall, hK, hRG, hB'⟩ := hrel
      have HRG := Lib.hid hRG
      have Hall := Lib.hid hall
      have HK := Lib.hid hK
      have HB := Lib.hid hB'
      have hsz := hB'.size
      have hb1 := Hbd.out k
      have ho1 := hol.out k
      by_cases hlt : k < G.length
      · have ht := List.getElem?_eq_getElem hlt
        generalize G[k] = l at ht
        have hl24 := Hle.out l (List.mem_of_getElem? ht)
        have hna := needsG_at (a := a) (b := b) (c := c) ht
        have hps : preS (needsG a b c G) (k + 1) = preS (needsG a b c G) k + rowN a b c l := by rw [preS, hna]
        have hos : outG (needsG a b c G) n (k + 1) = if preS (needsG a b c G) (k + 1) ≤ n then k + 1 else outG (needsG a b c G) n k := rfl
        rw [hps] at hos
        have hrb := rowN_bd a b c l
        have HRW := Lib.hid (fun (A' : Option Addr) (c' : Nat) (w' : World) (hr' : Rd w' B A' (ints l)) (hB' : B ≤ w'.heap.size) => rows_impl a b c l A' B c' w' hr' hB' (by omega))
        have hbd2 := Lib.hid (fun hr : rowC a b c l ≠ 0 => hbad.out k l ht hall hr)
        have hstep := Lib.hid (fun (h0 : rowC a b c l = 0) => show ∀ j x, j < k + 1 → G[j]? = some x → rowC a b c x = 0 from fun j x hj hx => by
          rcases Nat.lt_succ_iff_lt_or_eq.1 hj with h | rfl
          · exact hall j x h hx
          · have := ht.symm.trans hx
            injection this with this
            rw [← this]; exact h0)
        obtain ⟨bb, o, A', c', rfl, hbb, c0, hrl⟩ := hRG.at ht
        have Hrl := Lib.hid hrl
        obtain ⟨q0, q1, q2, qf, qs⟩ := bk3 hK
        have hj0 : (0 : Int) ≤ (k : Int) := by omega
        have hj1 : (k : Int) < (G.length : Int) := by omega
        have HRW2 := Lib.hid (HRW.out A' c' wr Hrl.out (by omega))
        have hrb2 : 0 ≤ rowN a b c l ∧ rowN a b c l ≤ 24 := by omega
        clear ht hna hall hK hRG hB' hrl HRW hrb
        have Hps := Lib.hid hps
        have Hos := Lib.hid hos
        clear hps hos
        by_cases hr0 : rowC a b c l = 0
        rotate_left
        · obtain ⟨e1, e2⟩ := hbd2.out hr0
          generalize rowC a b c l = r at *
          generalize rowN a b c l = q at *
          have hne : (r != 0) = true := by rw [bne_iff_ne]; exact hr0
          have heq : (r == 0) = false := by rw [beq_eq_false_iff_ne]; exact hr0
          subst e1 e2
          clear Hps Hos hbd2 hstep
          go_wp2_with (go_at_call 38; refine HRW2.out.mono ?_; rintro e w4 ⟨rfl, b4⟩)
          go_ret2
          exact ⟨rfl, HB.out.trans (b4.mono hsz)⟩
        · have Hst := Lib.hid (hstep.out hr0)
          rw [hr0] at HRW2
          clear hbd2 hstep hr0
          generalize rowN a b c l = q at *
          generalize hP : preS (needsG a b c G) k = P at *
          generalize hO : outG (needsG a b c G) n k = O at *
          by_cases hc : P + q ≤ n
          · have Ho := Lib.hid (Hos.out.trans (if_pos hc))
            clear hP hO Hos
            go_wp2_with (go_at_call 38; refine HRW2.out.mono ?_; rintro e w4 ⟨rfl, b4⟩)
            go_roundw
            case rel => exact ⟨k + 1, by omega, by go_num, vint Hps.out.symm, by rw [Ho.out]; go_num, Hst.out, bk_below HK.out b4 (bk_lt HK.out), HRG.out.below b4 (by omega), HB.out.trans (b4.mono hsz)⟩
            case measure => simp [intOf]; omega
          · have Ho := Lib.hid (Hos.out.trans (if_neg hc))
            clear hP hO Hos
            go_wp2_with (go_at_call 38; refine HRW2.out.mono ?_; rintro e w4 ⟨rfl, b4⟩)
            go_roundw
            case rel => exact ⟨k + 1, by omega, by go_num, vint Hps.out.symm, by rw [Ho.out], Hst.out, bk_below HK.out b4 (bk_lt HK.out), HRG.out.below b4 (by omega), HB.out.trans (b4.mono hsz)⟩
            case measure => simp [intOf]; omega
      · have hk' : k = G.length := by omega
        subst hk'
        obtain ⟨e1, e2⟩ := hgood.out Hall.out
        have hOe : ∃ O : Nat, outG (needsG a b c G) n G.length = O := ⟨_, rfl⟩
        obtain ⟨O, hO⟩ := hOe
        rw [hO] at e1 ⊢
        subst e1 e2
        clear hall hK hRG hB' hO
        go_wp2
        go_ret2
        exact ⟨rfl, HB.out⟩
end Go.Proofs.Ytdjbbjehgfkefaa
