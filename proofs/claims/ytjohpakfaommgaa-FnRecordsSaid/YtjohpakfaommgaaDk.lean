/- Draws of journals. -/
import Derived.Test.YtjohpakfaommgaaDj
import Derived.Test.YtjohpakfaommgaaJr
import Derived.Deep.RegionWith
import Derived.Deep.RegionHeld3
import Derived.Maps.AppendAt
namespace Go.Proofs.Ytjohpakfaommgaa
open Go.ChangeShapes Go.WideShapes Go.ChangeAt Go.RowKit
set_option maxRecDepth 20000
set_option linter.unusedVariables false
set_option linter.unusedSimpArgs false
theorem jourR_bd (l : List Rec3) : (jourR l).length ≤ 1400 := by
  rcases jour_cases l with ⟨_, _, e⟩ | ⟨_, _, _, e⟩ | ⟨h, _, _, e⟩
  · rw [e]; simp
  · rw [e]; simp
  · rw [e, jourUp_length _ (Nat.le_refl _)]; omega
theorem own_down {w : World} {base base' : Nat} {e : TypeId} {size n : Nat} {v : Value} {xs : List Value} (h : w.ownsRow base e size v n xs) (hb : base' ≤ base) : w.ownsRow base' e size v n xs := by
  refine ⟨h.1, ?_⟩
  rcases h.2 with hn | ⟨g, cap, cur, e1, hg, rest⟩
  · exact .inl hn
  · exact .inr ⟨g, cap, cur, e1, Nat.le_trans hb hg, rest⟩
theorem own_take {w : World} {base : Nat} {e : TypeId} {size n c k : Nat} {A : Option Addr} {xs : List Value} (h : w.ownsRow base e size (.slice A n c) n xs) (hk : k ≤ n) : w.ownsRow base e size (.slice A k c) k (xs.take (k * size)) := by
  have hm := Nat.mul_le_mul_right size hk
  refine ⟨by rw [List.length_take, h.1]; omega, ?_⟩
  rcases h.2 with ⟨e1, hn⟩ | ⟨g, cap, cur, e1, hg, hh, hc, hm2, hs, ht⟩
  · injection e1 with q1 q2 q3
    left
    have : k = 0 := by omega
    subst this q1 q3
    exact ⟨rfl, rfl⟩
  · injection e1 with q1 q2 q3
    subst q1 q3
    right
    exact ⟨g, c, cur, rfl, hg, hh, Nat.le_trans hk hc, hm2, hs, by rw [← ht, List.take_take, Nat.min_eq_left hm]⟩
theorem own_capm {w : World} {base : Nat} {e : TypeId} {size n c : Nat} {A : Option Addr} {xs : List Value} (h : w.ownsRow base e size (.slice A n c) n xs) : n ≤ c ∧ c ≤ maxLen := by
  rcases h.2 with ⟨e1, hn⟩ | ⟨g, cap, cur, e1, hg, hh, hc, hm2, hs, ht⟩
  · injection e1 with q1 q2 q3
    subst q3 hn
    exact ⟨Nat.le_refl _, Nat.zero_le _⟩
  · injection e1 with q1 q2 q3
    subst q3
    exact ⟨hc, hm2⟩
theorem run_append_rd2 {P : Program} {w : World} (t ty : TypeId) (base : Nat) (e : TypeId) (i : TypeInfo) (z : Value) (size bytes : Nat) (ht : P.underlying t = some (.slice e)) (hi : P.info? e = some i) (hz : i.zero = some z)
    (hsize : i.size = size) (hby : i.bytes = bytes) (hzs : z.cells.size = size) (hsz : 0 < size) (v : Value) (n : Nat) (xs : List Value) (hown : w.ownsRow base e size v n xs)
    (B : Nat) (A : Option Addr) (m c : Nat) (news : List Value) (hl : news.length = m * size) (hr : Rd w B A news) (h1 : ∀ u ∈ news, u.oneCell' = true)
    (h63 : n + m ≤ maxLen) (hbytes : (n + m) * bytes ≤ 140737488355328) (hbase : base ≤ w.heap.size) :
    ∃ v' w', (Builtin.append_ #[t, t] ty #[v, .slice A m c]).run P w = .ok v' w' ∧ w'.ownsRow base e size v' (n + m) (xs ++ news) ∧ Below base w w' ∧ w.heap.size ≤ w'.heap.size := by
  rcases Nat.eq_zero_or_pos m with h0 | h0
  · subst h0
    have hn : news = [] := List.eq_nil_of_length_eq_zero (by simpa using hl)
    subst hn
    cases A with
    | none => exact ⟨v, w, run_append_of_nil (P := P) w base t ty e i size ht hi v n xs hown c, by simpa using hown, Below.refl _ _, Nat.le_refl _⟩
    | some ad =>
      obtain ⟨v', w', hr, h2, h3, _, _⟩ := run_append_own_at (P := P) w base t ty e i z size bytes ht hi hz hsize hby hzs hsz v n xs hown ad 0 c [] (by simp) (by simp) (by simp) h63 hbytes hbase
      exact ⟨v', w', hr, h2, (Below.refl base _).grown h3 hbase (fun k hk => (hown.lt k hk).1), h3.size⟩
  · have hpos : 0 < news.length := by rw [hl]; exact Nat.mul_pos h0 hsz
    obtain ⟨b, off, rfl, hb, hc⟩ := hr hpos
    obtain ⟨v', w', hr, h2, h3, _, _⟩ := run_append_own_at (P := P) w base t ty e i z size bytes ht hi hz hsize hby hzs hsz v n xs hown ⟨b, off, none⟩ m c news hl (fun j u hu => by by_cases hj : j = 0 <;> simpa [Addr.add, hj] using hc j u hu) h1 h63 hbytes hbase
    exact ⟨v', w', hr, h2, (Below.refl base _).grown h3 hbase (fun k hk => (hown.lt k hk).1), h3.size⟩
/-- an append at a step of a region that draws its order -/
theorem step_append_rd2 {P : Program} {w : World} {ops : Array Oper} {o : Oper} {a : Act} {K : Act → World → Prop} {Q : Exit → Act → World → Prop} {E : Prop} (hgd : o.guard = none) (s x : Operand) (t : TypeId)
    (ho : o.op = .call { callee := .builtin .append, args := #[s, x], argTypes := #[t, t] })
    (base : Nat) (e : TypeId) (i : TypeInfo) (z : Value) (size bytes : Nat) (ht : P.underlying t = some (.slice e)) (hi : P.info? e = some i) (hz : i.zero = some z)
    (hsize : i.size = size) (hby : i.bytes = bytes) (hzs : z.cells.size = size) (hsz : 0 < size)
    (v : Value) (n : Nat) (xs : List Value) (hs : a.eval s = v) (hown : w.ownsRow base e size v n xs)
    (B : Nat) (A : Option Addr) (m c : Nat) (news : List Value) (hx : a.eval x = .slice A m c) (hl : news.length = m * size) (hr : Rd w B A news) (h1 : ∀ u ∈ news, u.oneCell' = true)
    (h63 : n + m ≤ maxLen) (hbytes : (n + m) * bytes ≤ 140737488355328) (hbase : base ≤ w.heap.size)
    (h : ∀ v' w', w'.ownsRow base e size v' (n + m) (xs ++ news) → Below base w w' → w.heap.size ≤ w'.heap.size → K (a.put o.dst v') w') :
    if Region.wanted o (yielded ops a.tmps) = true then Oper.wp P o a w K Q else E := by
  have hw : Region.wanted o (yielded ops a.tmps) = true := by simp [Region.wanted, hgd]
  rw [if_pos hw]
  obtain ⟨v', w', hrun, h2, h3, h4⟩ := run_append_rd2 (P := P) t o.type base e i z size bytes ht hi hz hsize hby hzs hsz v n xs hown B A m c news hl hr h1 h63 hbytes hbase
  unfold Oper.wp execOp
  simp only [ho, resolve, invoke, builtin, Sem.run_bind, Sem.run_pure, Result.andThen_ok, List.map_toArray, List.map_cons, List.map_nil, hs, hx, hrun]
  exact h v' w' h2 h3 h4
set_option maxHeartbeats 2000000 in
theorem l32DrawJournal_any (w0 : World) (g B : Nat) (C : Option Addr) (cap : Nat) (bl : List Int) (h : DS w0 w0 g B C cap bl) :
   Calls Try.prog 77 #[.pointer (some ⟨g, 0, none⟩)] w0 (IntsP 3500 w0 g B C cap bl) := by
  have hg0 := h.size.2
  have H := Lib.hid h
  clear h
  go_enter Try.func77, Try.ntmps77
  go_wp2_with fail
  refine (l32DrawList_any w0 g B C cap bl H.out).mono ?_
  rintro e w1 ⟨l, A, c, rfl, hl, o1, d1⟩
  have D1 := Lib.hid d1
  have hR := jourR_bd l
  have R1 := Lib.hid (Rd.of_own o1)
  have z1 := d1.size.1
  clear o1 d1
  go_wp2_with fail
  refine (jour_spec l A _ c w1 R1.out (Nat.le_refl _) (by omega)).mono ?_
  rintro e w2 ⟨A2, c2, rfl, o2, b2⟩
  have D2 := Lib.hid (D1.out.below (b2.mono z1))
  have O2 := Lib.hid (own_down o2 z1)
  have z2 := D2.out.size.1
  clear o2 b2 R1
  generalize jourC l = K at *
  generalize jourR l = R at *
  by_cases hK : K = 0
  rotate_left
  · have h5 : (K != 0) = true := by simpa using hK
    have h5' : (K == 0) = false := by simpa using hK
    go_wp2_with fail
    refine (l32DrawBytes_any w2 g B C cap bl 40 (by omega) (by omega) D2.out.again).mono ?_
    rintro e w3 ⟨l3, A3, c3, rfl, hl3, o3, d3⟩
    have O3 := Lib.hid (own_down o3 z2)
    have D3 := Lib.hid (D2.out.join d3)
    clear o3 d3
    go_wp2
    go_ret
    exact ⟨l3, A3, c3, rfl, by omega, O3.out, D3.out⟩
  · subst hK
    go_wp2_with fail
    refine (next_ds D2.out 12).mono ?_
    rintro e w3 ⟨x, rfl, x0, x1, d3, g3⟩
    have O3 := Lib.hid (DS.own O2.out g3 hg0)
    have D3 := Lib.hid d3
    have z3 := d3.size.1
    clear d3 g3 x1 O2
    by_cases hx : x = 0
    · subst hx
      go_wp2_with fail
      refine (l32DrawBytes_any w3 g B C cap bl 40 (by omega) (by omega) D3.out.again).mono ?_
      rintro e w4 ⟨l3, A3, c3, rfl, hl3, o3, d3⟩
      have O4 := Lib.hid (own_down o3 z3)
      have D4 := Lib.hid (D3.out.join d3)
      clear o3 d3
      go_wp2
      go_ret
      exact ⟨l3, A3, c3, rfl, by omega, O4.out, D4.out⟩
    · have hxb : (x == 0) = false := by rw [beq_eq_false_iff_ne]; exact hx
      go_wp2_with fail
      refine (next_ds D3.out 4).mono ?_
      rintro e w4 ⟨y, rfl, y0, y1, d4, g4⟩
      have O4 := Lib.hid (DS.own O3.out g4 hg0)
      have D4 := Lib.hid d4
      have z4 := d4.size.1
      clear d4 g4 y1 O3
      rcases (show y = 0 ∨ y = 1 ∨ (y ≠ 0 ∧ y ≠ 1) by omega) with rfl | rfl | ⟨n0, n1⟩
      · by_cases hp : 0 < R.length
        · have hpi : (0 : Int) < (R.length : Int) := by omega
          go_wp2_with fail
          refine (next_ds D4.out _).mono ?_
          rintro e w5 ⟨k, rfl, k0, k1, d5, g5⟩
          have O5 := Lib.hid (DS.own O4.out g5 hg0)
          have D5 := Lib.hid d5
          have z5 := d5.size.1
          obtain ⟨j, rfl⟩ : ∃ j : Nat, k = j := ⟨k.toNat, by omega⟩
          have hj : j < R.length := by omega
          clear d5 g5 k1
          obtain ⟨gb, rfl, hgb, hgb2⟩ := own_form O5.out hp
          have ht := List.getElem?_eq_getElem hj
          generalize R[j] = v at ht
          have cv : w5.cell? ⟨gb, j, none⟩ = some (.int .i64 v) := by
            rw [O5.out.cellAt j (by omega)]
            simp [ints, ht]
          have hk1 : (j : Int) < (R.length : Int) := by omega
          have hgg : gb ≠ g := by omega
          have hgg2 : g ≠ gb := by omega
          clear ht
          go_wp2_with fail
          go_region_with ((go_at_call 71; refine (next_ds (by first | exact D5.out.drew | exact D5.out) 8).mono ?_; rintro e w6 ⟨s, rfl, s0, s1, d6, g6⟩; have O6 := Lib.hid (DS.own (by first | exact O5.out.drew | exact O5.out) g6 hg0); have D6 := Lib.hid d6; have z6 := d6.size.1; have s7 : s ≤ 7 := (by omega); have cv6 : w6.cell? ⟨gb, j, none⟩ = some (.int .i64 v) := (by have h1 := g6.block gb (by simpa using hgb2) (fun e => by injection e with e; omega); first | exact (cell_of_heap h1).trans cv | (simp only [World.cell?] at cv ⊢; rw [h1]; exact cv)); have fv6 := O6.out.frozenAt; clear d6 g6 s1))
          all_goals generalize bits BinOp.xor IntKind.i64 v (IntKind.i64.wrap (2 ^ min (IntKind.u64.wrap s).toNat 64)) = V
          all_goals (
            have o7 := World.ownsRow.stored O6.out j (.int .i64 V)
            have hset : (ints R).set j (.int .i64 V) = ints (R.set j V) := by simp [ints, List.map_set]
            have o8 := o7.1
            rw [hset] at o8
            have O7 := Lib.hid o8
            have D7 := Lib.hid (D6.out.below (below_of_grownBy (B := w0.heap.size) o7.2 z6 (fun k e => by injection e with e; omega)))
            clear o7 o8 hset
            go_wp2
            go_ret
            exact ⟨R.set j V, some ⟨gb, 0, none⟩, c2, by rw [List.length_set]; rfl, by rw [List.length_set]; omega, by rw [List.length_set]; exact O7.out, D7.out⟩)
        · have hpi : ¬ (0 : Int) < (R.length : Int) := by omega
          have hpd : decide ((0 : Int) < (R.length : Int)) = false := by simpa using hp
          go_wp2
          go_ret
          exact ⟨R, A2, c2, rfl, by omega, O4.out, D4.out⟩
      · obtain ⟨hc1, hc2⟩ := own_capm O4.out
        obtain ⟨i0, hi0, hz0, hz1, hz2⟩ := info_parts infoInt64
        have hw1 : IntKind.i64.wrap ((R.length : Int) + 1) = (R.length : Int) + 1 := IntWalk.i64_in _ (by omega)
        unfold maxLen at hc2
        go_wp2_with fail
        go_region_held3 (fun w' => w0.heap.size ≤ w'.heap.size) (first | assumption | omega | (simp; omega)) (first | (go_at_call 72; have h20 := l32DrawBytes_any w5 g B C cap bl 20 (by omega) (by omega) D5.out.again; refine h20.mono ?_; clear h20; rintro e w6 ⟨l6, A6, c6, rfl, hl6, o6, d6⟩; have O6 := Lib.hid (DS.own O5.out d6.2.2.1 hg0); have R6 := Lib.hid (Rd.of_own o6); have D6 := Lib.hid (D5.out.join d6); have z6 : w0.heap.size ≤ w6.heap.size := D6.out.size.1; clear o6 d6) | (go_at_call 71; refine (next_ds (by first | exact D4.out.drew | exact D4.out) _).mono ?_; rintro e w5 ⟨k, rfl, k0, k1, d5, g5⟩; have O5 := Lib.hid (DS.own (by first | exact O4.out.drew | exact O4.out) g5 hg0); have D5 := Lib.hid d5; have z5 := d5.size.1; obtain ⟨j, rfl⟩ : ∃ j : Nat, k = j := ⟨k.toNat, by omega⟩; have hj : j ≤ R.length := (by omega); have hjc : j ≤ c2 := (by omega); have hjc2 : (j : Int) ≤ (c2 : Int) := (by omega); clear d5 g5 k1) | (refine step_append_rd2 rfl (.tmp 52) (.tmp 54) 22 rfl w0.heap.size 2 i0 (.int .i64 0) 1 8 Try.underlying22 hi0 hz0 hz1 hz2 rfl (by decide) _ _ _ rfl (own_take O6.out hj) _ A6 l6.length c6 (ints l6) rfl (by simp [ints]) R6.out (ints_one _) (by unfold maxLen; omega) (by omega) z6 ?_; intro v7 w7 o7 hb7 hz7; have O7 := Lib.hid o7; have D7 := Lib.hid (D6.out.below hb7); clear o7))
        all_goals (
          have e7 : (ints R).take (j * 1) ++ ints l6 = ints (R.take j ++ l6) := by simp [ints, List.map_take]
          have o7 := O7.out
          rw [e7] at o7
          have hl7 : (R.take j ++ l6).length = j + l6.length := by rw [List.length_append, List.length_take]; omega
          rw [← hl7] at o7
          have O8 := Lib.hid o7
          clear o7 O7
          obtain ⟨A8, c8, rfl⟩ := own_val O8.out
          go_wp2
          go_ret
          exact ⟨R.take j ++ l6, A8, c8, rfl, by omega, O8.out, D7.out⟩)
      · have m0 : (y == 0) = false := by rw [beq_eq_false_iff_ne]; exact n0
        have m1 : (y == 1) = false := by rw [beq_eq_false_iff_ne]; exact n1
        go_wp2
        go_ret
        exact ⟨R, A2, c2, rfl, by omega, O4.out, D4.out⟩
end Go.Proofs.Ytjohpakfaommgaa
