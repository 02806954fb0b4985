/- Draws of seatings. -/
import Derived.Test.YtdjbbjehgfkefaaGd
import Derived.Test.YtdjbbjehgfkefaaIq
import Derived.Test.YtdjbbjehgfkefaaApp
namespace Go.Proofs.Ytdjbbjehgfkefaa
open Go.ChangeShapes Go.WideShapes Go.ChangeAt Go.RowKit
set_option maxRecDepth 20000
set_option linter.unusedVariables false
set_option linter.unusedSimpArgs false
theorem bk_apart {w w' : World} {g b : Nat} {cs : Array Value} (h : Bk w b cs) (hg : w.grownBy w' (some g)) (hne : b ≠ g) : Bk w' b cs := by
  obtain ⟨t, e⟩ := h
  exact ⟨t, (hg.block b (bk_lt ⟨t, e⟩) (fun e => by injection e with e; omega)).trans e⟩
theorem own_set {w : World} {base : Nat} {e : TypeId} {size n : Nat} {v : Value} {xs : List Value} (h : w.ownsRow base e size v n xs) {b : Nat} (hb : v.ownBlock ≠ some b) (j : Nat) (u : Value) : (w.setCell ⟨b, j, none⟩ u).ownsRow base e size v n xs := by
  refine h.kept (grownBy_set w b j u) ?_
  cases hv : v.ownBlock with
  | none => exact .inl rfl
  | some g => exact .inr (fun e => hb (by rw [hv, ← e]))
theorem usR_bd (a b c : Int) (l : List Int) (n : Int) (hl : l.length ≤ 25) : ∀ x ∈ usR a b c l n, 0 ≤ x ∧ x ≤ 100 := by
  intro x hx
  unfold usR at hx
  split at hx
  · rw [usual_vl] at hx
    obtain ⟨k, hk, rfl⟩ := List.mem_map.1 hx
    rw [List.mem_range, vl_len] at hk
    have h1 : c1 (vl a b c l) k ≤ k := by
      unfold c1
      refine Nat.le_trans List.countP_le_length ?_
      rw [List.length_take]; omega
    have h2 : (vl a b c l).countP (· == 1) ≤ l.length := by
      have := List.countP_le_length (p := (· == 1)) (l := vl a b c l)
      rwa [vl_len] at this
    unfold seatV
    split
    · omega
    · split <;> omega
  · cases hx
theorem usR_le (a b c : Int) (l : List Int) (n : Int) : (usR a b c l n).length ≤ l.length := by
  unfold usR
  split
  · rw [usUp_length _ _ _ _ (Nat.le_refl _)]; exact Nat.le_refl _
  · simp
theorem own_keepN {w w' : World} {base N : Nat} {e : TypeId} {size n : Nat} {v : Value} {xs : List Value} (h : w.ownsRow base e size v n xs) (hb : Below N w w') (hlt : ∀ k, v.ownBlock = some k → k < N) : w'.ownsRow base e size v n xs := by
  refine ⟨h.1, ?_⟩
  rcases h.2 with h2 | ⟨g, cap, cur, hv, hg, hh, r⟩
  · exact .inl h2
  · exact .inr ⟨g, cap, cur, hv, hg, (hb.block g (hlt g (by rw [hv]; rfl))).trans hh, r⟩
theorem div19 {b : Int} (h0 : 0 ≤ b) (h1 : b ≤ 19) : ∃ d : Int, b.tdiv 19 = d ∧ 0 ≤ d ∧ d ≤ 1 := ⟨b / 19, Int.tdiv_eq_ediv_of_nonneg h0, by omega, by omega⟩
theorem own_swap {w : World} {base cap G : Nat} {s : List Int} {n i k : Nat} {p q : Int} (h : w.ownsRow base 2 1 (.slice (some ⟨G, 0, none⟩) n cap) n (ints s)) :
    ((w.setCell ⟨G, i, none⟩ (.int .i64 p)).setCell ⟨G, k, none⟩ (.int .i64 q)).ownsRow base 2 1 (.slice (some ⟨G, 0, none⟩) n cap) n (ints ((s.set i p).set k q)) := by
  have := ((h.stored i (.int .i64 p)).1.stored k (.int .i64 q)).1
  simpa [ints, List.map_set] using this
theorem set_bd {s : List Int} {i : Nat} {p : Int} (h : ∀ q ∈ s, -100 ≤ q ∧ q ≤ 100) (hp : -100 ≤ p ∧ p ≤ 100) : ∀ q ∈ s.set i p, -100 ≤ q ∧ q ≤ 100 := fun q hq => by
  rcases List.mem_or_eq_of_mem_set hq with h1 | rfl
  · exact h q h1
  · exact hp
def SeatDP (w0 : World) (e : Ending) (w' : World) : Prop :=
  ∃ (x y z : Int) (l : List Int) (A : Option Addr) (c : Nat) (s : List Int) (As : Option Addr) (cs : Nat) (n : Int), e = .returned (.tuple #[.agg #[.int .i64 x, .int .i64 y, .int .i64 z], .slice A l.length c, .slice As s.length cs, .int .i64 n]) ∧ l.length ≤ 25 ∧ s.length ≤ 26 ∧ (∀ q ∈ s, -100 ≤ q ∧ q ≤ 100) ∧ s.length ≤ cs ∧ 0 ≤ n ∧ n ≤ 13 ∧ Rd w' w'.heap.size A (ints l) ∧ Rd w' w'.heap.size As (ints s) ∧ Below w0.heap.size w0 w'
theorem ret_seatD {fn : Func} {t m u v : Tmp} {a : Act} {w : World} {R : Ending → World → Prop} {b : Nat} {A As : Option Addr} {k c ks cs : Nat} {n x y z : Int} (hres : fn.results = #[.cell t 27, .tmp m, .tmp u, .tmp v]) (ha : a.tmps.getD t undef = .pointer (some ⟨b, 0, none⟩)) (hm : a.tmps.getD m undef = .slice A k c) (hu : a.tmps.getD u undef = .slice As ks cs) (hv : a.tmps.getD v undef = .int .i64 n) (hd : a.defers = []) (h : Bk w b #[.int .i64 x, .int .i64 y, .int .i64 z]) (hR : R (.returned (.tuple #[.agg #[.int .i64 x, .int .i64 y, .int .i64 z], .slice A k c, .slice As ks cs, .int .i64 n])) w) : bodyPost Try.prog fn R .ret a w := by
  refine bodyPost_ret ?_ hd hR
  obtain ⟨c0, c1, c2, cf, cs⟩ := bk3 h
  simp only [Array.getD_eq_getD_getElem?] at ha hu hv hm
  simp [results, hres, ha, hu, hv, hm, go_sem, *]
set_option maxHeartbeats 4000000 in
theorem drawIsSeating_any (bl : List Int) (hbl : isU8 bl) (hn : bl.length ≤ 4096) (C : Option Addr) (cap : Nat) (w0 : World) (hr : Rd w0 w0.heap.size C (bytesU bl)) :
   Calls Try.prog 23 #[.slice C bl.length cap] w0 (SeatDP w0) := by
  obtain ⟨i0, hi0, hz0, hzz1, hzz2⟩ := info_parts infoInt64
  have hra := hr.alloc (Nat.le_refl _) (.cells #[.int .i64 0, .int .i64 0, .int .i64 0] 27)
  have HF : Hid (Calls Try.prog 46 #[.slice C bl.length cap] (w0.alloc (.cells #[.int .i64 0, .int .i64 0, .int .i64 0] 27)) (fun e w' => ∃ g : Nat, w0.heap.size + 1 ≤ g ∧ e = .returned (.pointer (some ⟨g, 0, none⟩)) ∧ Src w' g C bl.length cap ∧ Below (w0.heap.size + 1) (w0.alloc (.cells #[.int .i64 0, .int .i64 0, .int .i64 0] 27)) w' ∧ g < w'.heap.size)) := Lib.hid
    ((l01From_any bl hbl hn C w0.heap.size cap _ hra (by simp)).mono fun e w' ⟨a, b, c, d⟩ => ⟨_, by simp, a, b, by simpa using c, d⟩)
  have Hr := Lib.hid hra
  have K0 := Lib.hid (bk_new w0 #[.int .i64 0, .int .i64 0, .int .i64 0] 27)
  have Ba := Lib.hid ((Below.refl w0.heap.size w0).alloc (Nat.le_refl _) (.cells #[.int .i64 0, .int .i64 0, .int .i64 0] 27))
  have Hbl := Lib.hid hbl
  clear hr hbl hra
  go_enter Try.func23, Try.ntmps23
  go_wp2_with fail
  refine HF.out.mono ?_
  rintro e w1 ⟨g, hg, rfl, hs, hb, hz⟩
  have D1 := Lib.hid (DS.start (Hr.out.below hb (by omega)) hs (by omega) Hbl.out hn)
  have K1 := Lib.hid (bk_below K0.out hb (by omega))
  have B1 := Lib.hid (Ba.out.trans (hb.mono (by omega)))
  have hz1 : w0.heap.size + 1 ≤ w1.heap.size := by omega
  have hne0 : w0.heap.size ≠ g := by omega
  clear hs HF Hr hb K0 Ba hz
  go_wp2_with fail
  refine (l28DrawRule_any w1 g _ C cap bl D1.out).mono ?_
  rintro e w2 ⟨x, y, z, rfl, d2⟩
  have K2 := Lib.hid (bk_apart K1.out d2.2.2.1 hne0)
  have z2 := d2.size.1
  have zg := d2.size.2
  have D2 := Lib.hid d2
  have B2 := Lib.hid (B1.out.trans (below_of_grownBy (B := w0.heap.size) d2.2.2.1 (by omega) (fun k hk => by injection hk with hk; omega)))
  clear d2 K1 D1 B1
  go_wp2_with fail
  refine (l28DrawHeights_any _ g _ C cap bl x y z 7 (by omega) (by omega) (D2.out.alloc (.cells #[.int .i64 x, .int .i64 y, .int .i64 z] 27)).again).mono ?_
  rintro e w3 ⟨l, A, c, rfl, hl, ol, d3⟩

  have z3 := d3.size.1
  simp only [World.size_alloc] at z3
  have g3 : (w2.alloc (.cells #[.int .i64 x, .int .i64 y, .int .i64 z] 27)).grownBy w3 (some g) := d3.2.2.1
  have K3 := Lib.hid (bk_apart (bk_alloc K2.out (.cells #[.int .i64 x, .int .i64 y, .int .i64 z] 27)) g3 hne0)
  have X3 := Lib.hid (bk_apart (bk_new w2 #[.int .i64 x, .int .i64 y, .int .i64 z] 27) g3 (by omega))
  have B3 := Lib.hid ((B2.out.alloc (by omega) (.cells #[.int .i64 x, .int .i64 y, .int .i64 z] 27)).trans (below_of_grownBy (B := w0.heap.size) g3 (by simp; omega) (fun k hk => by injection hk with hk; omega)))
  have D3 := Lib.hid d3.again
  have O3 : Hid (w3.ownsRow (w2.heap.size + 1) 2 1 (.slice A l.length c) l.length (ints l)) := Lib.hid (by simpa using ol)
  clear d3 g3 K2 D2 B2 ol
  go_wp2_with fail
  refine (l28DrawRows_any _ g _ C cap bl D3.out).mono ?_
  rintro e w4 ⟨n, rfl, n0, n1, d4, g4⟩
  have z4 := d4.size.1
  have K4 := Lib.hid (bk_apart K3.out g4 hne0)
  have X4 := Lib.hid (bk_apart X3.out g4 (by omega))
  have O4 := Lib.hid (DS.own O3.out g4 (by omega))
  have B4 := Lib.hid (B3.out.trans (below_of_grownBy (B := w0.heap.size) g4 (by omega) (fun k hk => by injection hk with hk; omega)))
  have D4 := Lib.hid d4.again
  obtain ⟨q0, q1, q2, qf, qs⟩ := bk3 X4.out
  clear d4 g4 K3 X3 O3 B3 D3
  go_wp2_with fail
  refine (us_spec x y z l n A _ c _ (Rd.of_own O4.out) (Nat.le_refl _) (by omega)).mono ?_
  rintro e w5 ⟨As, cs, rfl, os, b5⟩
  have z5 := b5.size
  have hSl := usR_le x y z l n
  have hSb : ∀ q ∈ usR x y z l n, -100 ≤ q ∧ q ≤ 100 := fun q hq => by have := usR_bd x y z l n hl q hq; omega
  have K5 := Lib.hid (bk_below K4.out b5 (bk_lt K4.out))
  have X5 := Lib.hid (bk_below X4.out b5 (bk_lt X4.out))
  have hol := own_lt O4.out
  have O5 := Lib.hid (own_below O4.out b5)
  have Os := Lib.hid os
  have B5 := Lib.hid (B4.out.trans (b5.mono (by omega)))
  have D5 := Lib.hid (D4.out.below b5)
  have HSb := Lib.hid hSb
  have Hol := Lib.hid (show ∀ k, (Value.slice A l.length c).ownBlock = some k → w2.heap.size + 1 ≤ k ∧ k < w5.heap.size from fun k hk => by have := hol k hk; omega)
  have hz5w : w4.heap.size ≤ w5.heap.size := z5
  have Hol4 := Lib.hid (show ∀ k, (Value.slice A l.length c).ownBlock = some k → k < w4.heap.size from fun k hk => (hol k hk).2)
  have Dsz := D5.out.size
  have hx5 := bk_lt X5.out
  have hk5 := bk_lt K5.out
  clear b5 os hSb hol q0 q1 q2 qf qs K4 X4 O4 B4 D4
  generalize usR x y z l n = S at *
  generalize usC x y z l n = u at *
  by_cases hu : u = 0
  rotate_left
  · have hne : (u != 0) = true := by rw [bne_iff_ne]; exact hu
    have heq : (u == 0) = false := by rw [beq_eq_false_iff_ne]; exact hu
    clear Os HSb hSl
    go_wp2_with fail
    go_loopw [10, 12] (fun v i wr => ∃ (k : Nat) (s : List Int), k ≤ l.length ∧ i = .int .i64 k ∧ s.length = k ∧ (∀ q ∈ s, -100 ≤ q ∧ q ≤ 100) ∧ wr.ownsRow w5.heap.size 2 1 v k (ints s) ∧ Bk wr w0.heap.size #[.int .i64 0, .int .i64 0, .int .i64 0] ∧ Bk wr w2.heap.size #[.int .i64 x, .int .i64 y, .int .i64 z] ∧ wr.ownsRow (w2.heap.size + 1) 2 1 (.slice A l.length c) l.length (ints l) ∧ DS w5 wr g w0.heap.size C cap bl ∧ Below w0.heap.size w0 wr) (fun _ i _ => l.length - (intOf i).toNat)
    case atStart => exact ⟨0, [], Nat.zero_le _, rfl, rfl, fun q hq => by (cases hq), by simpa [ints] using (World.ownsRow_made (base := w5.heap.size) (e := 2) (size := 1) w5 #[] 0 (by omega) (by simp [maxLen]) rfl), bk_alloc (K5.out) _, bk_alloc (X5.out) _, (O5.out).alloc _, (D5.out).again.alloc _, (B5.out).alloc (by omega) _⟩
    case round =>
      obtain ⟨k, s, hk, rfl, hsl, hsb, hown, hK, hX, hO, hD, hB⟩ := hrel
      have hsz := hD.size.1
      have Hs := Lib.hid hown
      have HK := Lib.hid hK
      have HX := Lib.hid hX
      have HO := Lib.hid hO
      have HD := Lib.hid hD
      have HB := Lib.hid hB
      have Hsb := Lib.hid hsb
      have Hsl := Lib.hid hsl
      clear hown hK hX hO hD hB hsb hsl
      by_cases hlt : k < l.length
      · go_wp2_with fail
        refine (next_ds HD.out (2 * n + 1)).mono ?_
        rintro e t1 ⟨a, rfl, a0, a1, d6, g6⟩
        have T6 := Lib.hid (DS.own Hs.out g6 (by omega))
        have K6 := Lib.hid (bk_apart HK.out g6 hne0)
        have X6 := Lib.hid (bk_apart HX.out g6 (by omega))
        have O6 := Lib.hid (DS.own HO.out g6 (by omega))
        have B6 := Lib.hid (HB.out.trans (below_of_grownBy (B := w0.heap.size) g6 (by omega) (fun k hk => by injection hk with hk; omega)))
        have D6 := Lib.hid d6
        have a2 : a ≤ 26 := by omega
        clear d6 g6 a1 Hs HK HX HO HD HB
        go_wp2_with fail
        refine (next_ds D6.out 20).mono ?_
        rintro e t2 ⟨b, rfl, b0, b1, d7, g7⟩
        have T7 := Lib.hid (DS.own T6.out g7 (by omega))
        have K7 := Lib.hid (bk_apart K6.out g7 hne0)
        have X7 := Lib.hid (bk_apart X6.out g7 (by omega))
        have O7 := Lib.hid (DS.own O6.out g7 (by omega))
        have B7 := Lib.hid (B6.out.trans (below_of_grownBy (B := w0.heap.size) g7 (by have := D6.out.size.1; omega) (fun k hk => by injection hk with hk; omega)))
        have D7 := Lib.hid d7
        have zt := d7.size.1
        obtain ⟨d, hd, hd0, hd1⟩ := div19 b0 (by omega)
        clear d7 g7 b1 T6 K6 X6 O6 B6 D6
        go_wp2_with (at_builtin; refine wpList_append_int rfl (.tmp 46) (.tmp 56) 24 rfl (w5.heap.size) 2 i0 Try.underlying24 hi0 hz0 hzz1 hzz2 _ _ _ rfl T7.out _ rfl (by omega) (by omega) ?_; intro v5 t3 own5 hb5 hz5; have O8 := Lib.hid own5)
        go_roundw
        case rel =>
          have hsl := Hsl.out
          exact ⟨k + 1, s ++ [a - d], by omega, by go_num, by simp; omega, fun q hq => by
            rcases List.mem_append.1 hq with hq | hq
            · exact Hsb.out q hq
            · simp at hq; omega, O8.out, bk_below K7.out hb5 (by omega), bk_below X7.out hb5 (by omega), own_keepN O7.out hb5 (fun k hk => by have := Hol.out k hk; omega), D7.out.below (hb5.mono (by omega)), B7.out.trans (hb5.mono (by omega))⟩
        case measure => simp [intOf]; omega
      · have hk' : k = l.length := by omega
        subst hk'
        have hsl := Hsl.out
        rw [← hsl] at Hs
        go_wp2_with fail
        skip
        refine (next_ds (HD.out).again 30).mono ?_
        rintro e t1 ⟨j, rfl, j0, j1, d6, g6⟩
        have zt := g6.size
        have K6 := Lib.hid (bk_apart (HK.out) g6 hne0)
        have X6 := Lib.hid (bk_apart (HX.out) g6 (by omega))
        have O6 := Lib.hid (DS.own (HO.out) g6 (by omega))
        have T6 := Lib.hid (DS.own (Hs.out) g6 (by omega))
        have B6 := Lib.hid ((HB.out).trans (below_of_grownBy (B := w0.heap.size) g6 (by omega) (fun k hk => by injection hk with hk; omega)))
        have hk6 := bk_lt K6.out
        have hx6 := bk_lt X6.out
        clear d6 g6 j1
        by_cases hj : j = 0
        · subst hj
          obtain ⟨q0, q1, q2, qf, qs⟩ := bk3 X6.out
          obtain ⟨r0, r1, r2, rf, rs⟩ := bk3 K6.out
          have hxx := X6.out
          go_wp2_with (at_builtin; refine wpList_append_int rfl (.tmp 92) (.tmp 93) 24 rfl (w5.heap.size) 2 i0 Try.underlying24 hi0 hz0 hzz1 hzz2 _ _ _ rfl T6.out _ rfl (by omega) (by omega) ?_; intro v5 t2 own5 hb5 hz5; obtain ⟨A5, k5, rfl⟩ := own_val own5; obtain ⟨q0, q1, q2, qf, qs⟩ := bk3 (bk_below X6.out hb5 (by omega)); obtain ⟨r0, r1, r2, rf, rs⟩ := bk3 (bk_below K6.out hb5 (by omega)); have K7 := Lib.hid (bk_below K6.out hb5 (by omega)); have T7 := Lib.hid own5; have B7 := Lib.hid (B6.out.trans (hb5.mono (by omega))); have O7 := Lib.hid (own_keepN O6.out hb5 (fun k hk => by have := Hol.out k hk; omega)); clear hb5 own5)
          (try simp only [Exit.inBlock, Exit.then])
          refine ret_seatD rfl rfl rfl rfl rfl rfl (bk_fill3 K7.out _ _ _) ?_
          have e1 : ∀ q, (Value.slice A l.length c).ownBlock = some q → w2.heap.size + 1 ≤ q := fun q hq => (own_lt O7.out q hq).1
          have e2 : ∀ q, (Value.slice A5 (s.length + 1) k5).ownBlock = some q → w5.heap.size ≤ q := fun q hq => (own_lt T7.out q hq).1
          have hcap := own_cap T7.out
          refine ⟨x, y, z, l, A, c, s ++ [0], A5, k5, n, (by first | (simp; done) | (simp; omega)), hl, by simp; omega, fun q hq => ?_, by simp; omega, n0, n1, Rd.of_own (own_set (own_set (own_set O7.out (fun q => by have := e1 _ q; omega) 0 _) (fun q => by have := e1 _ q; omega) 1 _) (fun q => by have := e1 _ q; omega) 2 _), Rd.of_own (own_set (own_set (own_set T7.out (fun q => by have := e2 _ q; omega) 0 _) (fun q => by have := e2 _ q; omega) 1 _) (fun q => by have := e2 _ q; omega) 2 _), ((B7.out.setCell (Nat.le_refl _) _).setCell (Nat.le_refl _) _).setCell (Nat.le_refl _) _⟩
          rcases List.mem_append.1 hq with hq | hq
          · exact Hsb.out q hq
          · simp at hq; omega
        · have bj : (j == 0) = false := by rw [beq_eq_false_iff_ne]; exact hj
          obtain ⟨q0, q1, q2, qf, qs⟩ := bk3 X6.out
          obtain ⟨r0, r1, r2, rf, rs⟩ := bk3 K6.out
          obtain ⟨A5, k5, rfl⟩ := own_val T6.out
          go_wp2
          (try simp only [Exit.inBlock, Exit.then])
          refine ret_seatD rfl rfl rfl rfl rfl rfl (bk_fill3 K6.out _ _ _) ?_
          have e1 : ∀ q, (Value.slice A l.length c).ownBlock = some q → w2.heap.size + 1 ≤ q := fun q hq => (own_lt O6.out q hq).1
          have e2 := fun q hq => (own_lt T6.out q hq).1
          have hcap := own_cap T6.out
          exact ⟨x, y, z, l, A, c, s, A5, k5, n, (by first | rfl | (simp; done) | (simp; omega)), hl, by (first | omega | (simp; omega)), Hsb.out, by simpa using hcap, n0, n1, Rd.of_own (own_set (own_set (own_set O6.out (fun q => by have := e1 _ q; omega) 0 _) (fun q => by have := e1 _ q; omega) 1 _) (fun q => by have := e1 _ q; omega) 2 _), Rd.of_own (own_set (own_set (own_set T6.out (fun q => by have := e2 _ q; omega) 0 _) (fun q => by have := e2 _ q; omega) 1 _) (fun q => by have := e2 _ q; omega) 2 _), ((B6.out.setCell (Nat.le_refl _) _).setCell (Nat.le_refl _) _).setCell (Nat.le_refl _) _⟩
  · subst hu
    go_wp2_with fail
    refine (next_ds D5.out 3).mono ?_
    rintro e t0 ⟨r, rfl, r0, r1, d6, g6⟩
    have z6 := g6.size
    have K6 := Lib.hid (bk_apart K5.out g6 hne0)
    have X6 := Lib.hid (bk_apart X5.out g6 (by omega))
    have O6 := Lib.hid (DS.own O5.out g6 (by omega))
    have T6 := Lib.hid (DS.own Os.out g6 (by omega))
    have B6 := Lib.hid (B5.out.trans (below_of_grownBy (B := w0.heap.size) g6 (by omega) (fun k hk => by injection hk with hk; omega)))
    have D6 := Lib.hid d6
    have Hol6 := Lib.hid (show ∀ k, (Value.slice A l.length c).ownBlock = some k → w2.heap.size + 1 ≤ k ∧ k < t0.heap.size from fun k hk => by have := Hol.out k hk; omega)
    have hx6 := bk_lt X6.out
    have hk6 := bk_lt K6.out
    clear d6 g6 r1 K5 X5 O5 Os B5 D5 Hol hx5 hk5
    have Hol := Hol6
    clear Hol6
    by_cases hr0 : r = 0
    · subst hr0
      clear T6 HSb hSl
      go_wp2_with fail
      go_loopw [10, 12] (fun v i wr => ∃ (k : Nat) (s : List Int), k ≤ l.length ∧ i = .int .i64 k ∧ s.length = k ∧ (∀ q ∈ s, -100 ≤ q ∧ q ≤ 100) ∧ wr.ownsRow t0.heap.size 2 1 v k (ints s) ∧ Bk wr w0.heap.size #[.int .i64 0, .int .i64 0, .int .i64 0] ∧ Bk wr w2.heap.size #[.int .i64 x, .int .i64 y, .int .i64 z] ∧ wr.ownsRow (w2.heap.size + 1) 2 1 (.slice A l.length c) l.length (ints l) ∧ DS t0 wr g w0.heap.size C cap bl ∧ Below w0.heap.size w0 wr) (fun _ i _ => l.length - (intOf i).toNat)
      case atStart => exact ⟨0, [], Nat.zero_le _, rfl, rfl, fun q hq => by (cases hq), by simpa [ints] using (World.ownsRow_made (base := t0.heap.size) (e := 2) (size := 1) t0 #[] 0 (by omega) (by simp [maxLen]) rfl), bk_alloc (K6.out) _, bk_alloc (X6.out) _, (O6.out).alloc _, (D6.out).again.alloc _, (B6.out).alloc (by omega) _⟩
      case round =>
        obtain ⟨k, s, hk, rfl, hsl, hsb, hown, hK, hX, hO, hD, hB⟩ := hrel
        have hsz := hD.size.1
        have Hs := Lib.hid hown
        have HK := Lib.hid hK
        have HX := Lib.hid hX
        have HO := Lib.hid hO
        have HD := Lib.hid hD
        have HB := Lib.hid hB
        have Hsb := Lib.hid hsb
        have Hsl := Lib.hid hsl
        clear hown hK hX hO hD hB hsb hsl
        by_cases hlt : k < l.length
        · go_wp2_with fail
          refine (next_ds HD.out (2 * n + 1)).mono ?_
          rintro e t1 ⟨a, rfl, a0, a1, d6, g6⟩
          have T6 := Lib.hid (DS.own Hs.out g6 (by omega))
          have K6 := Lib.hid (bk_apart HK.out g6 hne0)
          have X6 := Lib.hid (bk_apart HX.out g6 (by omega))
          have O6 := Lib.hid (DS.own HO.out g6 (by omega))
          have B6 := Lib.hid (HB.out.trans (below_of_grownBy (B := w0.heap.size) g6 (by omega) (fun k hk => by injection hk with hk; omega)))
          have D6 := Lib.hid d6
          have a2 : a ≤ 26 := by omega
          clear d6 g6 a1 Hs HK HX HO HD HB
          go_wp2_with fail
          refine (next_ds D6.out 20).mono ?_
          rintro e t2 ⟨b, rfl, b0, b1, d7, g7⟩
          have T7 := Lib.hid (DS.own T6.out g7 (by omega))
          have K7 := Lib.hid (bk_apart K6.out g7 hne0)
          have X7 := Lib.hid (bk_apart X6.out g7 (by omega))
          have O7 := Lib.hid (DS.own O6.out g7 (by omega))
          have B7 := Lib.hid (B6.out.trans (below_of_grownBy (B := w0.heap.size) g7 (by have := D6.out.size.1; omega) (fun k hk => by injection hk with hk; omega)))
          have D7 := Lib.hid d7
          have zt := d7.size.1
          obtain ⟨d, hd, hd0, hd1⟩ := div19 b0 (by omega)
          clear d7 g7 b1 T6 K6 X6 O6 B6 D6
          go_wp2_with (at_builtin; refine wpList_append_int rfl (.tmp 46) (.tmp 56) 24 rfl (t0.heap.size) 2 i0 Try.underlying24 hi0 hz0 hzz1 hzz2 _ _ _ rfl T7.out _ rfl (by omega) (by omega) ?_; intro v5 t3 own5 hb5 hz5; have O8 := Lib.hid own5)
          go_roundw
          case rel =>
            have hsl := Hsl.out
            exact ⟨k + 1, s ++ [a - d], by omega, by go_num, by simp; omega, fun q hq => by
              rcases List.mem_append.1 hq with hq | hq
              · exact Hsb.out q hq
              · simp at hq; omega, O8.out, bk_below K7.out hb5 (by omega), bk_below X7.out hb5 (by omega), own_keepN O7.out hb5 (fun k hk => by have := Hol.out k hk; omega), D7.out.below (hb5.mono (by omega)), B7.out.trans (hb5.mono (by omega))⟩
          case measure => simp [intOf]; omega
        · have hk' : k = l.length := by omega
          subst hk'
          have hsl := Hsl.out
          rw [← hsl] at Hs
          go_wp2_with fail
          skip
          refine (next_ds (HD.out).again 30).mono ?_
          rintro e t1 ⟨j, rfl, j0, j1, d6, g6⟩
          have zt := g6.size
          have K6 := Lib.hid (bk_apart (HK.out) g6 hne0)
          have X6 := Lib.hid (bk_apart (HX.out) g6 (by omega))
          have O6 := Lib.hid (DS.own (HO.out) g6 (by omega))
          have T6 := Lib.hid (DS.own (Hs.out) g6 (by omega))
          have B6 := Lib.hid ((HB.out).trans (below_of_grownBy (B := w0.heap.size) g6 (by omega) (fun k hk => by injection hk with hk; omega)))
          have hk6 := bk_lt K6.out
          have hx6 := bk_lt X6.out
          clear d6 g6 j1
          by_cases hj : j = 0
          · subst hj
            obtain ⟨q0, q1, q2, qf, qs⟩ := bk3 X6.out
            obtain ⟨r0, r1, r2, rf, rs⟩ := bk3 K6.out
            have hxx := X6.out
            go_wp2_with (at_builtin; refine wpList_append_int rfl (.tmp 92) (.tmp 93) 24 rfl (t0.heap.size) 2 i0 Try.underlying24 hi0 hz0 hzz1 hzz2 _ _ _ rfl T6.out _ rfl (by omega) (by omega) ?_; intro v5 t2 own5 hb5 hz5; obtain ⟨A5, k5, rfl⟩ := own_val own5; obtain ⟨q0, q1, q2, qf, qs⟩ := bk3 (bk_below X6.out hb5 (by omega)); obtain ⟨r0, r1, r2, rf, rs⟩ := bk3 (bk_below K6.out hb5 (by omega)); have K7 := Lib.hid (bk_below K6.out hb5 (by omega)); have T7 := Lib.hid own5; have B7 := Lib.hid (B6.out.trans (hb5.mono (by omega))); have O7 := Lib.hid (own_keepN O6.out hb5 (fun k hk => by have := Hol.out k hk; omega)); clear hb5 own5)
            (try simp only [Exit.inBlock, Exit.then])
            refine ret_seatD rfl rfl rfl rfl rfl rfl (bk_fill3 K7.out _ _ _) ?_
            have e1 : ∀ q, (Value.slice A l.length c).ownBlock = some q → w2.heap.size + 1 ≤ q := fun q hq => (own_lt O7.out q hq).1
            have e2 : ∀ q, (Value.slice A5 (s.length + 1) k5).ownBlock = some q → t0.heap.size ≤ q := fun q hq => (own_lt T7.out q hq).1
            have hcap := own_cap T7.out
            refine ⟨x, y, z, l, A, c, s ++ [0], A5, k5, n, (by first | (simp; done) | (simp; omega)), hl, by simp; omega, fun q hq => ?_, by simp; omega, n0, n1, Rd.of_own (own_set (own_set (own_set O7.out (fun q => by have := e1 _ q; omega) 0 _) (fun q => by have := e1 _ q; omega) 1 _) (fun q => by have := e1 _ q; omega) 2 _), Rd.of_own (own_set (own_set (own_set T7.out (fun q => by have := e2 _ q; omega) 0 _) (fun q => by have := e2 _ q; omega) 1 _) (fun q => by have := e2 _ q; omega) 2 _), ((B7.out.setCell (Nat.le_refl _) _).setCell (Nat.le_refl _) _).setCell (Nat.le_refl _) _⟩
            rcases List.mem_append.1 hq with hq | hq
            · exact Hsb.out q hq
            · simp at hq; omega
          · have bj : (j == 0) = false := by rw [beq_eq_false_iff_ne]; exact hj
            obtain ⟨q0, q1, q2, qf, qs⟩ := bk3 X6.out
            obtain ⟨r0, r1, r2, rf, rs⟩ := bk3 K6.out
            obtain ⟨A5, k5, rfl⟩ := own_val T6.out
            go_wp2
            (try simp only [Exit.inBlock, Exit.then])
            refine ret_seatD rfl rfl rfl rfl rfl rfl (bk_fill3 K6.out _ _ _) ?_
            have e1 : ∀ q, (Value.slice A l.length c).ownBlock = some q → w2.heap.size + 1 ≤ q := fun q hq => (own_lt O6.out q hq).1
            have e2 := fun q hq => (own_lt T6.out q hq).1
            have hcap := own_cap T6.out
            exact ⟨x, y, z, l, A, c, s, A5, k5, n, (by first | rfl | (simp; done) | (simp; omega)), hl, by (first | omega | (simp; omega)), Hsb.out, by simpa using hcap, n0, n1, Rd.of_own (own_set (own_set (own_set O6.out (fun q => by have := e1 _ q; omega) 0 _) (fun q => by have := e1 _ q; omega) 1 _) (fun q => by have := e1 _ q; omega) 2 _), Rd.of_own (own_set (own_set (own_set T6.out (fun q => by have := e2 _ q; omega) 0 _) (fun q => by have := e2 _ q; omega) 1 _) (fun q => by have := e2 _ q; omega) 2 _), ((B6.out.setCell (Nat.le_refl _) _).setCell (Nat.le_refl _) _).setCell (Nat.le_refl _) _⟩
    · have br : (r == 0) = false := by rw [beq_eq_false_iff_ne]; exact hr0
      clear hr0
      by_cases hS1 : (1 : Int) < (S.length : Int)
      rotate_left
      · have bS : decide ((1 : Int) < (S.length : Int)) = false := decide_eq_false hS1
        go_wp2_with fail
        skip
        refine (next_ds (D6.out).again 30).mono ?_
        rintro e t1 ⟨j, rfl, j0, j1, d6, g6⟩
        have zt := g6.size
        have K6 := Lib.hid (bk_apart (K6.out) g6 hne0)
        have X6 := Lib.hid (bk_apart (X6.out) g6 (by omega))
        have O6 := Lib.hid (DS.own (O6.out) g6 (by omega))
        have T6 := Lib.hid (DS.own (T6.out) g6 (by omega))
        have B6 := Lib.hid ((B6.out).trans (below_of_grownBy (B := w0.heap.size) g6 (by omega) (fun k hk => by injection hk with hk; omega)))
        have hk6 := bk_lt K6.out
        have hx6 := bk_lt X6.out
        clear d6 g6 j1
        by_cases hj : j = 0
        · subst hj
          obtain ⟨q0, q1, q2, qf, qs⟩ := bk3 X6.out
          obtain ⟨r0, r1, r2, rf, rs⟩ := bk3 K6.out
          have hxx := X6.out
          go_wp2_with (at_builtin; refine wpList_append_int rfl (.tmp 92) (.tmp 93) 24 rfl (w4.heap.size) 2 i0 Try.underlying24 hi0 hz0 hzz1 hzz2 _ _ _ rfl T6.out _ rfl (by omega) (by omega) ?_; intro v5 t2 own5 hb5 hz5; obtain ⟨A5, k5, rfl⟩ := own_val own5; obtain ⟨q0, q1, q2, qf, qs⟩ := bk3 (bk_below X6.out hb5 (by omega)); obtain ⟨r0, r1, r2, rf, rs⟩ := bk3 (bk_below K6.out hb5 (by omega)); have K7 := Lib.hid (bk_below K6.out hb5 (by omega)); have T7 := Lib.hid own5; have B7 := Lib.hid (B6.out.trans (hb5.mono (by omega))); have O7 := Lib.hid (own_keepN O6.out hb5 (fun k hk => by have := Hol4.out k hk; omega)); clear hb5 own5)
          (try simp only [Exit.inBlock, Exit.then])
          refine ret_seatD rfl rfl rfl rfl rfl rfl (bk_fill3 K7.out _ _ _) ?_
          have e1 : ∀ q, (Value.slice A l.length c).ownBlock = some q → w2.heap.size + 1 ≤ q := fun q hq => (own_lt O7.out q hq).1
          have e2 : ∀ q, (Value.slice A5 (S.length + 1) k5).ownBlock = some q → w4.heap.size ≤ q := fun q hq => (own_lt T7.out q hq).1
          have hcap := own_cap T7.out
          refine ⟨x, y, z, l, A, c, S ++ [0], A5, k5, n, (by first | (simp; done) | (simp; omega)), hl, by simp; omega, fun q hq => ?_, by simp; omega, n0, n1, Rd.of_own (own_set (own_set (own_set O7.out (fun q => by have := e1 _ q; omega) 0 _) (fun q => by have := e1 _ q; omega) 1 _) (fun q => by have := e1 _ q; omega) 2 _), Rd.of_own (own_set (own_set (own_set T7.out (fun q => by have := e2 _ q; omega) 0 _) (fun q => by have := e2 _ q; omega) 1 _) (fun q => by have := e2 _ q; omega) 2 _), ((B7.out.setCell (Nat.le_refl _) _).setCell (Nat.le_refl _) _).setCell (Nat.le_refl _) _⟩
          rcases List.mem_append.1 hq with hq | hq
          · exact HSb.out q hq
          · simp at hq; omega
        · have bj : (j == 0) = false := by rw [beq_eq_false_iff_ne]; exact hj
          obtain ⟨q0, q1, q2, qf, qs⟩ := bk3 X6.out
          obtain ⟨r0, r1, r2, rf, rs⟩ := bk3 K6.out
          skip
          go_wp2
          (try simp only [Exit.inBlock, Exit.then])
          refine ret_seatD rfl rfl rfl rfl rfl rfl (bk_fill3 K6.out _ _ _) ?_
          have e1 : ∀ q, (Value.slice A l.length c).ownBlock = some q → w2.heap.size + 1 ≤ q := fun q hq => (own_lt O6.out q hq).1
          have e2 := fun q hq => (own_lt T6.out q hq).1
          have hcap := own_cap T6.out
          exact ⟨x, y, z, l, A, c, S, As, cs, n, (by first | rfl | (simp; done) | (simp; omega)), hl, by (first | omega | (simp; omega)), HSb.out, by simpa using hcap, n0, n1, Rd.of_own (own_set (own_set (own_set O6.out (fun q => by have := e1 _ q; omega) 0 _) (fun q => by have := e1 _ q; omega) 1 _) (fun q => by have := e1 _ q; omega) 2 _), Rd.of_own (own_set (own_set (own_set T6.out (fun q => by have := e2 _ q; omega) 0 _) (fun q => by have := e2 _ q; omega) 1 _) (fun q => by have := e2 _ q; omega) 2 _), ((B6.out.setCell (Nat.le_refl _) _).setCell (Nat.le_refl _) _).setCell (Nat.le_refl _) _⟩
      · go_wp2_with fail
        refine (next_ds D6.out 2).mono ?_
        rintro e t8 ⟨b, rfl, b0, b1, d8, g8⟩
        have z8 := g8.size
        have K8 := Lib.hid (bk_apart K6.out g8 hne0)
        have X8 := Lib.hid (bk_apart X6.out g8 (by omega))
        have O8 := Lib.hid (DS.own O6.out g8 (by omega))
        have T8 := Lib.hid (DS.own T6.out g8 (by omega))
        have B8 := Lib.hid (B6.out.trans (below_of_grownBy (B := w0.heap.size) g8 (by omega) (fun k hk => by injection hk with hk; omega)))
        have D8 := Lib.hid d8
        clear d8 g8 b1 K6 X6 O6 T6 B6 D6
        by_cases hb0 : b = 0
        rotate_left
        · have bb : (b == 0) = false := by rw [beq_eq_false_iff_ne]; exact hb0
          clear hb0
          go_wp2_with fail
          skip
          refine (next_ds (D8.out).again 30).mono ?_
          rintro e t1 ⟨j, rfl, j0, j1, d6, g6⟩
          have zt := g6.size
          have K6 := Lib.hid (bk_apart (K8.out) g6 hne0)
          have X6 := Lib.hid (bk_apart (X8.out) g6 (by omega))
          have O6 := Lib.hid (DS.own (O8.out) g6 (by omega))
          have T6 := Lib.hid (DS.own (T8.out) g6 (by omega))
          have B6 := Lib.hid ((B8.out).trans (below_of_grownBy (B := w0.heap.size) g6 (by omega) (fun k hk => by injection hk with hk; omega)))
          have hk6 := bk_lt K6.out
          have hx6 := bk_lt X6.out
          clear d6 g6 j1
          by_cases hj : j = 0
          · subst hj
            obtain ⟨q0, q1, q2, qf, qs⟩ := bk3 X6.out
            obtain ⟨r0, r1, r2, rf, rs⟩ := bk3 K6.out
            have hxx := X6.out
            go_wp2_with (at_builtin; refine wpList_append_int rfl (.tmp 92) (.tmp 93) 24 rfl (w4.heap.size) 2 i0 Try.underlying24 hi0 hz0 hzz1 hzz2 _ _ _ rfl T6.out _ rfl (by omega) (by omega) ?_; intro v5 t2 own5 hb5 hz5; obtain ⟨A5, k5, rfl⟩ := own_val own5; obtain ⟨q0, q1, q2, qf, qs⟩ := bk3 (bk_below X6.out hb5 (by omega)); obtain ⟨r0, r1, r2, rf, rs⟩ := bk3 (bk_below K6.out hb5 (by omega)); have K7 := Lib.hid (bk_below K6.out hb5 (by omega)); have T7 := Lib.hid own5; have B7 := Lib.hid (B6.out.trans (hb5.mono (by omega))); have O7 := Lib.hid (own_keepN O6.out hb5 (fun k hk => by have := Hol4.out k hk; omega)); clear hb5 own5)
            (try simp only [Exit.inBlock, Exit.then])
            refine ret_seatD rfl rfl rfl rfl rfl rfl (bk_fill3 K7.out _ _ _) ?_
            have e1 : ∀ q, (Value.slice A l.length c).ownBlock = some q → w2.heap.size + 1 ≤ q := fun q hq => (own_lt O7.out q hq).1
            have e2 : ∀ q, (Value.slice A5 (S.length + 1) k5).ownBlock = some q → w4.heap.size ≤ q := fun q hq => (own_lt T7.out q hq).1
            have hcap := own_cap T7.out
            refine ⟨x, y, z, l, A, c, S ++ [0], A5, k5, n, (by first | (simp; done) | (simp; omega)), hl, by simp; omega, fun q hq => ?_, by simp; omega, n0, n1, Rd.of_own (own_set (own_set (own_set O7.out (fun q => by have := e1 _ q; omega) 0 _) (fun q => by have := e1 _ q; omega) 1 _) (fun q => by have := e1 _ q; omega) 2 _), Rd.of_own (own_set (own_set (own_set T7.out (fun q => by have := e2 _ q; omega) 0 _) (fun q => by have := e2 _ q; omega) 1 _) (fun q => by have := e2 _ q; omega) 2 _), ((B7.out.setCell (Nat.le_refl _) _).setCell (Nat.le_refl _) _).setCell (Nat.le_refl _) _⟩
            rcases List.mem_append.1 hq with hq | hq
            · exact HSb.out q hq
            · simp at hq; omega
          · have bj : (j == 0) = false := by rw [beq_eq_false_iff_ne]; exact hj
            obtain ⟨q0, q1, q2, qf, qs⟩ := bk3 X6.out
            obtain ⟨r0, r1, r2, rf, rs⟩ := bk3 K6.out
            skip
            go_wp2
            (try simp only [Exit.inBlock, Exit.then])
            refine ret_seatD rfl rfl rfl rfl rfl rfl (bk_fill3 K6.out _ _ _) ?_
            have e1 : ∀ q, (Value.slice A l.length c).ownBlock = some q → w2.heap.size + 1 ≤ q := fun q hq => (own_lt O6.out q hq).1
            have e2 := fun q hq => (own_lt T6.out q hq).1
            have hcap := own_cap T6.out
            exact ⟨x, y, z, l, A, c, S, As, cs, n, (by first | rfl | (simp; done) | (simp; omega)), hl, by (first | omega | (simp; omega)), HSb.out, by simpa using hcap, n0, n1, Rd.of_own (own_set (own_set (own_set O6.out (fun q => by have := e1 _ q; omega) 0 _) (fun q => by have := e1 _ q; omega) 1 _) (fun q => by have := e1 _ q; omega) 2 _), Rd.of_own (own_set (own_set (own_set T6.out (fun q => by have := e2 _ q; omega) 0 _) (fun q => by have := e2 _ q; omega) 1 _) (fun q => by have := e2 _ q; omega) 2 _), ((B6.out.setCell (Nat.le_refl _) _).setCell (Nat.le_refl _) _).setCell (Nat.le_refl _) _⟩
        · subst hb0
          go_wp2_with fail
          refine (next_ds D8.out S.length).mono ?_
          rintro e t9 ⟨i, rfl, i0', i1, d9, g9⟩
          have i2 : i < (S.length : Int) := by omega
          have z9 := g9.size
          have K9 := Lib.hid (bk_apart K8.out g9 hne0)
          have X9 := Lib.hid (bk_apart X8.out g9 (by omega))
          have O9 := Lib.hid (DS.own O8.out g9 (by omega))
          have T9 := Lib.hid (DS.own T8.out g9 (by omega))
          have B9 := Lib.hid (B8.out.trans (below_of_grownBy (B := w0.heap.size) g9 (by omega) (fun k hk => by injection hk with hk; omega)))
          have D9 := Lib.hid d9
          clear d9 g9 i1 K8 X8 O8 T8 B8 D8
          go_wp2_with fail
          refine (next_ds D9.out S.length).mono ?_
          rintro e u9 ⟨k, rfl, k0', k1, d9, g9⟩
          have k2 : k < (S.length : Int) := by omega
          have zz9 := g9.size
          have KA := Lib.hid (bk_apart K9.out g9 hne0)
          have XA := Lib.hid (bk_apart X9.out g9 (by omega))
          have OA := Lib.hid (DS.own O9.out g9 (by omega))
          have TA := Lib.hid (DS.own T9.out g9 (by omega))
          have BA := Lib.hid (B9.out.trans (below_of_grownBy (B := w0.heap.size) g9 (by omega) (fun k hk => by injection hk with hk; omega)))
          have DA := Lib.hid d9
          clear d9 g9 k1 K9 X9 O9 T9 B9 D9
          obtain ⟨i, rfl⟩ : ∃ m : Nat, i = m := ⟨i.toNat, by omega⟩
          obtain ⟨k, rfl⟩ : ∃ m : Nat, k = m := ⟨k.toNat, by omega⟩
          have hiS : i < S.length := by omega
          have hkS : k < S.length := by omega
          obtain ⟨G, rfl, hG1, hG2⟩ := own_form TA.out (by omega)
          have hli : (ints S).length = S.length := ints_length S
          have ci := TA.out.cellAt i (by omega)
          have ck := TA.out.cellAt k (by omega)
          have hpi := List.getElem?_eq_getElem hiS
          have hpk := List.getElem?_eq_getElem hkS
          generalize S[i] = p at hpi
          generalize S[k] = q at hpk
          have hpi2 : (ints S)[i]? = some (.int .i64 p) := by simp [ints, hpi]
          have hpk2 : (ints S)[k]? = some (.int .i64 q) := by simp [ints, hpk]
          rw [hpi2] at ci
          rw [hpk2] at ck
          have hfz := TA.out.frozenAt
          obtain ⟨v', hy⟩ := cell?_setCell_some (w := u9) (p := ⟨G, i, none⟩) (x := .int .i64 q) (q := ⟨G, k, none⟩) (v := .int .i64 q) ck
          have TB := Lib.hid (own_swap (i := i) (k := k) (p := q) (q := p) TA.out)
          have hlB : ((S.set i q).set k p).length = S.length := by simp
          have bp := HSb.out p (List.mem_of_getElem? hpi)
          have bq := HSb.out q (List.mem_of_getElem? hpk)
          have HSB := Lib.hid (set_bd (i := k) (set_bd (i := i) HSb.out bq) bp)
          have KB := Lib.hid (bk_other (bk_other KA.out (b' := G) (by omega) i (.int .i64 q)) (b' := G) (by omega) k (.int .i64 p))
          have XB := Lib.hid (bk_other (bk_other XA.out (b' := G) (by omega) i (.int .i64 q)) (b' := G) (by omega) k (.int .i64 p))
          have hGl : ∀ m, (Value.slice A l.length c).ownBlock = some m → m < w4.heap.size := fun m hm => Hol4.out m hm
          have OB := Lib.hid (own_set (b := G) (own_set (b := G) OA.out (fun e => by have := hGl _ e; omega) i (.int .i64 q)) (fun e => by have := hGl _ e; omega) k (.int .i64 p))
          have DB := Lib.hid ((DA.out.set hG1 i (.int .i64 q)).set hG1 k (.int .i64 p))
          have BB := Lib.hid ((BA.out.setCell (p := ⟨G, i, none⟩) (by show w0.heap.size ≤ G; omega) (.int .i64 q)).setCell (p := ⟨G, k, none⟩) (by show w0.heap.size ≤ G; omega) (.int .i64 p))
          have hii0 : (0 : Int) ≤ (i : Int) := by omega
          have hkk0 : (0 : Int) ≤ (k : Int) := by omega
          have hWz : u9.heap.size ≤ ((u9.setCell ⟨G, i, none⟩ (.int .i64 q)).setCell ⟨G, k, none⟩ (.int .i64 p)).heap.size := by simp
          have hlB2 : ((S.set i q).set k p).length = S.length := hlB
          clear hpi hpk hpi2 hpk2 KA XA OA BA DA TA
          go_wp2_with fail
          generalize ((u9.setCell ⟨G, i, none⟩ (.int .i64 q)).setCell ⟨G, k, none⟩ (.int .i64 p)) = W at *
          refine (next_ds (DB.out).again 30).mono ?_
          rintro e t1 ⟨j, rfl, j0, j1, d6, g6⟩
          have zt := g6.size
          have K6 := Lib.hid (bk_apart (KB.out) g6 hne0)
          have X6 := Lib.hid (bk_apart (XB.out) g6 (by omega))
          have O6 := Lib.hid (DS.own (OB.out) g6 (by omega))
          have T6 := Lib.hid (DS.own (TB.out) g6 (by omega))
          have B6 := Lib.hid ((BB.out).trans (below_of_grownBy (B := w0.heap.size) g6 (by omega) (fun k hk => by injection hk with hk; omega)))
          have hk6 := bk_lt K6.out
          have hx6 := bk_lt X6.out
          clear d6 g6 j1
          by_cases hj : j = 0
          · subst hj
            obtain ⟨q0, q1, q2, qf, qs⟩ := bk3 X6.out
            obtain ⟨r0, r1, r2, rf, rs⟩ := bk3 K6.out
            have hxx := X6.out
            go_wp2_with (at_builtin; refine wpList_append_int rfl (.tmp 92) (.tmp 93) 24 rfl (w4.heap.size) 2 i0 Try.underlying24 hi0 hz0 hzz1 hzz2 _ _ _ rfl T6.out _ rfl (by omega) (by omega) ?_; intro v5 t2 own5 hb5 hz5; obtain ⟨A5, k5, rfl⟩ := own_val own5; obtain ⟨q0, q1, q2, qf, qs⟩ := bk3 (bk_below X6.out hb5 (by omega)); obtain ⟨r0, r1, r2, rf, rs⟩ := bk3 (bk_below K6.out hb5 (by omega)); have K7 := Lib.hid (bk_below K6.out hb5 (by omega)); have T7 := Lib.hid own5; have B7 := Lib.hid (B6.out.trans (hb5.mono (by omega))); have O7 := Lib.hid (own_keepN O6.out hb5 (fun k hk => by have := Hol4.out k hk; omega)); clear hb5 own5)
            (try simp only [Exit.inBlock, Exit.then])
            refine ret_seatD rfl rfl rfl rfl rfl rfl (bk_fill3 K7.out _ _ _) ?_
            have e1 : ∀ q, (Value.slice A l.length c).ownBlock = some q → w2.heap.size + 1 ≤ q := fun q hq => (own_lt O7.out q hq).1
            have e2 : ∀ q, (Value.slice A5 (S.length + 1) k5).ownBlock = some q → w4.heap.size ≤ q := fun q hq => (own_lt T7.out q hq).1
            have hcap := own_cap T7.out
            refine ⟨x, y, z, l, A, c, ((S.set i q).set k p) ++ [0], A5, k5, n, (by first | (simp; done) | (simp; omega)), hl, by simp; omega, fun q hq => ?_, by simp; omega, n0, n1, Rd.of_own (own_set (own_set (own_set O7.out (fun q => by have := e1 _ q; omega) 0 _) (fun q => by have := e1 _ q; omega) 1 _) (fun q => by have := e1 _ q; omega) 2 _), Rd.of_own (own_set (own_set (own_set T7.out (fun q => by have := e2 _ q; omega) 0 _) (fun q => by have := e2 _ q; omega) 1 _) (fun q => by have := e2 _ q; omega) 2 _), ((B7.out.setCell (Nat.le_refl _) _).setCell (Nat.le_refl _) _).setCell (Nat.le_refl _) _⟩
            rcases List.mem_append.1 hq with hq | hq
            · exact HSB.out q hq
            · simp at hq; omega
          · have bj : (j == 0) = false := by rw [beq_eq_false_iff_ne]; exact hj
            obtain ⟨q0, q1, q2, qf, qs⟩ := bk3 X6.out
            obtain ⟨r0, r1, r2, rf, rs⟩ := bk3 K6.out
            skip
            go_wp2
            (try simp only [Exit.inBlock, Exit.then])
            refine ret_seatD rfl rfl rfl rfl rfl rfl (bk_fill3 K6.out _ _ _) ?_
            have e1 : ∀ q, (Value.slice A l.length c).ownBlock = some q → w2.heap.size + 1 ≤ q := fun q hq => (own_lt O6.out q hq).1
            have e2 := fun q hq => (own_lt T6.out q hq).1
            have hcap := own_cap T6.out
            exact ⟨x, y, z, l, A, c, ((S.set i q).set k p), some ⟨G, 0, none⟩, cs, n, (by first | rfl | (simp; done) | (simp; omega)), hl, by (first | omega | (simp; omega)), HSB.out, by simpa using hcap, n0, n1, Rd.of_own (own_set (own_set (own_set O6.out (fun q => by have := e1 _ q; omega) 0 _) (fun q => by have := e1 _ q; omega) 1 _) (fun q => by have := e1 _ q; omega) 2 _), Rd.of_own (own_set (own_set (own_set T6.out (fun q => by have := e2 _ q; omega) 0 _) (fun q => by have := e2 _ q; omega) 1 _) (fun q => by have := e2 _ q; omega) 2 _), ((B6.out.setCell (Nat.le_refl _) _).setCell (Nat.le_refl _) _).setCell (Nat.le_refl _) _⟩
end Go.Proofs.Ytdjbbjehgfkefaa
