/- The ways from a mode to all modes: a walk of the program. -/
import Derived.Test.YtakchdkoildkbaaDoorWm
import Derived.Test.YtakchdkoildkbaaDoorApp
namespace Go.Proofs.YtakchdkoildkbaaDoor
open Go.ChangeShapes Go.WideShapes Go.ChangeAt Go.RowKit
set_option maxRecDepth 20000
set_option linter.unusedVariables false
set_option linter.unusedSimpArgs false
theorem cloneInt_any (l : List Int) (n : Nat) (hl : l.length = n) (A : Option Addr) (B c : Nat) (w : World) (hr : Rd w B A (ints l)) (hB : B ≤ w.heap.size) (hn : n ≤ 1048576) :
   Calls Tryd.prog 55 #[.slice A n c] w fun e w' => ∃ A' c', e = .returned (.slice A' n c') ∧ w'.ownsRow w.heap.size 2 1 (.slice A' n c') n (ints l) ∧ Below w.heap.size w w' := by
  obtain ⟨i0, hi0, hz0, hz1, hz2⟩ := info_parts infoInt64
  have heq := fun W n => Lib.run_eql_slice_nil (P := Tryd.prog) W 22 2 A n c 0 0 Tryd.underlying22
  cases A with
  | none =>
    have h0 : n = 0 := by
      rcases Nat.eq_zero_or_pos n with h | h
      · exact h
      · obtain ⟨b, o, e, _⟩ := hr (by rw [ints_length]; omega)
        cases e
    subst h0
    have hl0 : l = [] := List.eq_nil_of_length_eq_zero hl
    subst hl0
    clear hl
    go_enter Tryd.func55, Tryd.ntmps55
    go_wp2
    go_ret
    exact ⟨none, 0, rfl, World.ownsRow_nil _ _ _ _, Below.refl _ _⟩
  | some ad =>
    have Hl := Lib.hid hl
    clear hl
    go_enter Tryd.func55, Tryd.ntmps55
    go_wp2_with (at_builtin; refine wpList_append_rd rfl (.tmp 5) (.tmp 6) 22 rfl w.heap.size 2 i0 _ 1 8 Tryd.underlying22 hi0 hz0 hz1 hz2 rfl (by decide) _ 0 [] rfl (World.ownsRow_made w #[] 0 (Nat.le_refl _) (by simp [maxLen]) rfl) B (some ad) n c (ints l) rfl (by rw [ints_length, Hl.out, Nat.mul_one]) (hr.alloc hB _) (ints_one l) (by unfold maxLen; omega) (by omega) (by simp) ?_; intro v1 w1 own1 hb1 hz3; rw [Nat.zero_add, List.nil_append] at own1; obtain ⟨A1, c1, rfl⟩ := own_val own1; have O1 := Lib.hid own1; clear own1)
    go_ret
    exact ⟨A1, c1, rfl, O1.out, ((Below.refl _ _).alloc (Nat.le_refl _) _).trans hb1⟩
theorem arr6 {cs : Array Value} (h : cs.size = 6) : ∃ v0 v1 v2 v3 v4 v5, cs = #[v0, v1, v2, v3, v4, v5] := by
  obtain ⟨l⟩ := cs
  match l, h with
  | [v0, v1, v2, v3, v4, v5], _ => exact ⟨v0, v1, v2, v3, v4, v5, rfl⟩
theorem bk_fill6 {w : World} {b : Nat} {c0 c1 c2 c3 c4 c5 : Value} (h : Bk w b #[c0, c1, c2, c3, c4, c5]) (v0 v1 v2 v3 v4 v5 : Value) : Bk ((((((w.setCell ⟨b, 0, none⟩ v0).setCell ⟨b, 1, none⟩ v1).setCell ⟨b, 2, none⟩ v2).setCell ⟨b, 3, none⟩ v3).setCell ⟨b, 4, none⟩ v4).setCell ⟨b, 5, none⟩ v5) b #[v0, v1, v2, v3, v4, v5] := by
  replace h := bk_set h 0 v0 #[v0, c1, c2, c3, c4, c5] rfl
  replace h := bk_set h 1 v1 #[v0, v1, c2, c3, c4, c5] rfl
  replace h := bk_set h 2 v2 #[v0, v1, v2, c3, c4, c5] rfl
  replace h := bk_set h 3 v3 #[v0, v1, v2, v3, c4, c5] rfl
  replace h := bk_set h 4 v4 #[v0, v1, v2, v3, v4, c5] rfl
  replace h := bk_set h 5 v5 #[v0, v1, v2, v3, v4, v5] rfl
  exact h
theorem ret_arr {fn : Func} {t : Tmp} {a : Act} {w : World} {R : Ending → World → Prop} {b : Nat} {v0 v1 v2 v3 v4 v5 : Value} (hres : fn.results = #[.cell t 56]) (ha : a.tmps.getD t undef = .pointer (some ⟨b, 0, none⟩)) (hd : a.defers = []) (h : Bk w b #[v0, v1, v2, v3, v4, v5]) (hR : R (.returned (.agg #[v0, v1, v2, v3, v4, v5])) w) : bodyPost Tryd.prog fn R .ret a w := by
  refine bodyPost_ret ?_ hd hR
  obtain ⟨c0, c1, c2, c3, c4, c5, cf, cs⟩ := bk6 h
  simp only [Array.getD_eq_getD_getElem?] at ha
  simp [results, hres, ha, go_sem, *]
theorem RowsM.set {w : World} {base g b : Nat} {cs : Array Value} {M : List (Option (List Int))} (h : RowsM w base cs M g) (hb : b < base) (j : Nat) (u : Value) : RowsM (w.setCell ⟨b, j, none⟩ u) base cs M g := fun i hi => by
  rcases h i hi with h1 | ⟨l, A, c, h1, h2, h3, h4⟩
  · exact .inl h1
  · exact .inr ⟨l, A, c, h1, h2, own_apart h3 (row := some b) ⟨rfl, rfl, rfl, by simp, fun k _ hk => heap_setCell_other w ⟨b, j, none⟩ k u (fun e => hk (by simp [e]))⟩ (fun k hk => by injection hk with hk; omega), h4⟩
theorem stay {r : Int} {b : Bool} {F : Nat → WSt} (hs : ∀ n, F (n + 1) = roundW r b (F n)) {n : Nat} (h : (F n).2 = []) : ∀ j, F (n + j) = F n
  | 0 => rfl
  | j + 1 => by
    have ih := stay hs h j
    rw [← Nat.add_assoc, hs, ih, roundW_nil h]
def NIL6 : Array Value := #[.slice none 0 0, .slice none 0 0, .slice none 0 0, .slice none 0 0, .slice none 0 0, .slice none 0 0]
theorem bk_apart {w w' : World} {b g : Nat} {cs : Array Value} (h : Bk w b cs) (hg : w.grownBy w' (some g)) (hne : g ≠ b) : Bk w' b cs := by
  obtain ⟨t, e⟩ := h
  exact ⟨t, (hg.block b (bk_lt ⟨t, e⟩) (fun q => hne (by injection q with q; exact q.symm))).trans e⟩
theorem Que.set {w : World} {base b j : Nat} {u v : Value} {L : List Int} {g cap : Nat} (h : Que w base v L g cap) (hb : b < base) : Que (w.setCell ⟨b, j, none⟩ u) base v L g cap := h.keep (heap_setCell_other w ⟨b, j, none⟩ g u (fun e => by have := h.lt.1; simp at e; omega))
theorem Que.tail1 {w : World} {base : Nat} {x : Int} {T : List Int} {off n g cap : Nat} (h : Que w base (.slice (some ⟨g, off, none⟩) n cap) (x :: T) g cap) (hc : cap = 1) : Que w base (.slice (some ⟨g, off, none⟩) T.length 0) T g 0 := by
  obtain ⟨off', cur, hv, hb, hg, h1, h2, h3, h4⟩ := h
  injection hv with e1 e2 e3
  injection e1 with e1
  injection e1 with _ e4
  subst e4
  simp only [List.length_cons] at h1
  have hT : T = [] := List.eq_nil_of_length_eq_zero (by omega)
  subst hT
  exact ⟨off, cur, rfl, hb, hg, Nat.le_refl _, by simp [maxLen], by omega, fun j u hu => by simp [ints] at hu⟩
theorem own_lower {w : World} {base base' : Nat} {e : TypeId} {size : Nat} {v : Value} {n : Nat} {xs : List Value} (h : w.ownsRow base e size v n xs) (hb : base' ≤ base) : w.ownsRow base' e size v n xs :=
  ⟨h.1, h.2.imp id fun ⟨g, cap, cur, h1, h2, h3⟩ => ⟨g, cap, cur, h1, Nat.le_trans hb h2, h3⟩⟩
theorem own_some {w : World} {base n c : Nat} {e : TypeId} {A : Option Addr} {xs : List Value} (h : w.ownsRow base e 1 (.slice A (n + 1) c) (n + 1) xs) : ∃ A', A = some A' ∧ base ≤ A'.block := by
  have hb := own_base h
  rcases h.2 with ⟨_, h0⟩ | ⟨g, cap, cur, h1, _⟩
  · cases h0
  · injection h1 with h1 _ _
    subst h1
    exact ⟨_, rfl, hb _ rfl⟩
/-- a state of the search in memory -/
def WSt1 (b1 B : Nat) (w0 w : World) (v : Value) (s : WSt) : Prop :=
  ∃ (cs : Array Value) (g cap : Nat), cs.size = 6 ∧ Bk w (b1 + 1) cs ∧ RowsM w (b1 + 2) cs s.1 g ∧ Que w (b1 + 2) v s.2 g cap ∧ Bk w b1 NIL6 ∧ Rd w B (some ⟨0, 0, none⟩) tabL ∧ Below b1 w0 w
theorem next_impl_r (k : Nat) (hk : k < 10) (m r : Int) (b : Bool) (t : Nat) (ht : nextK k m r b = (t : Int)) (hm : 0 ≤ m) (hm5 : m ≤ 5) (w : World) (B : Nat) (hT : Rd w B (some ⟨0, 0, none⟩) tabL) (hB : B ≤ w.heap.size) :
   Calls Tryd.prog 47 #[.agg #[.int .i64 k, .int .i64 r, .bool b], .int .i64 m] w fun e w' => e = .returned (.int .i64 (t : Int)) ∧ Below w.heap.size w w' := ht ▸ next_impl k hk m r b hm hm5 w B hT hB
set_option maxHeartbeats 1000000 in
theorem ways_any (f : Nat) (r : Int) (b : Bool) (hf : f < 6) (hr : 0 ≤ r ∧ r ≤ 3) (w : World) (B : Nat) (hT : Rd w B (some ⟨0, 0, none⟩) tabL) (hB : B ≤ w.heap.size) :
   Calls Tryd.prog 39 #[.int .i64 f, .int .i64 r, .bool b] w fun e w' => ∃ (cs : Array Value) (g : Nat), cs.size = 6 ∧ e = .returned (.agg cs) ∧ RowsM w' (w.heap.size + 2) cs (waysW f r b 6).1 g ∧ Below w.heap.size w w' := by
  have hi0 : (0 : Int) ≤ (f : Int) := by omega
  have hi6 : (f : Int) < 6 := by omega
  go_enter Tryd.func39, Tryd.ntmps39
  go_wp2_with fail
  have hf0 := startW_inv (f := (f : Int)) (by omega)
  have K0 := Lib.hid (bk_alloc (bk_alloc (bk_alloc (bk_new w #[.slice none 0 0, .slice none 0 0, .slice none 0 0, .slice none 0 0, .slice none 0 0, .slice none 0 0] 56) (.cells (([Value.slice none 0 0, Value.slice none 0 0, Value.slice none 0 0, Value.slice none 0 0, Value.slice none 0 0, Value.slice none 0 0].set f (Value.slice (some ⟨w.heap.size + 1 + 1, 0, none⟩) 0 0)).toArray) 56)) (.cells #[] 2)) (.cells #[.int .i64 f] 2))
  have K1 : Hid (Bk ((((w.alloc (.cells #[.slice none 0 0, .slice none 0 0, .slice none 0 0, .slice none 0 0, .slice none 0 0, .slice none 0 0] 56)).alloc (.cells (([Value.slice none 0 0, Value.slice none 0 0, Value.slice none 0 0, Value.slice none 0 0, Value.slice none 0 0, Value.slice none 0 0].set f (Value.slice (some ⟨w.heap.size + 1 + 1, 0, none⟩) 0 0)).toArray) 56)).alloc (.cells #[] 2)).alloc (.cells #[.int .i64 f] 2)) (w.heap.size + 1) (([Value.slice none 0 0, Value.slice none 0 0, Value.slice none 0 0, Value.slice none 0 0, Value.slice none 0 0, Value.slice none 0 0].set f (Value.slice (some ⟨w.heap.size + 1 + 1, 0, none⟩) 0 0)).toArray)) := Lib.hid (bk_alloc (bk_alloc (by simpa using bk_new (w.alloc (.cells #[.slice none 0 0, .slice none 0 0, .slice none 0 0, .slice none 0 0, .slice none 0 0, .slice none 0 0] 56)) (([Value.slice none 0 0, Value.slice none 0 0, Value.slice none 0 0, Value.slice none 0 0, Value.slice none 0 0, Value.slice none 0 0].set f (Value.slice (some ⟨w.heap.size + 1 + 1, 0, none⟩) 0 0)).toArray) 56) (.cells #[] 2)) (.cells #[.int .i64 f] 2))
  have QQ : Hid (Que ((((w.alloc (.cells #[.slice none 0 0, .slice none 0 0, .slice none 0 0, .slice none 0 0, .slice none 0 0, .slice none 0 0] 56)).alloc (.cells (([Value.slice none 0 0, Value.slice none 0 0, Value.slice none 0 0, Value.slice none 0 0, Value.slice none 0 0, Value.slice none 0 0].set f (Value.slice (some ⟨w.heap.size + 1 + 1, 0, none⟩) 0 0)).toArray) 56)).alloc (.cells #[] 2)).alloc (.cells #[.int .i64 f] 2)) (w.heap.size + 2) (.slice (some ⟨w.heap.size + 3, 0, none⟩) 1 1) [(f : Int)] (w.heap.size + 3) 1) := Lib.hid (by simpa using que_new (base := w.heap.size + 2) (w := (((w.alloc (.cells #[.slice none 0 0, .slice none 0 0, .slice none 0 0, .slice none 0 0, .slice none 0 0, .slice none 0 0] 56)).alloc (.cells (([Value.slice none 0 0, Value.slice none 0 0, Value.slice none 0 0, Value.slice none 0 0, Value.slice none 0 0, Value.slice none 0 0].set f (Value.slice (some ⟨w.heap.size + 1 + 1, 0, none⟩) 0 0)).toArray) 56)).alloc (.cells #[] 2))) (f : Int) (by simp))
  have EE : Hid (((((w.alloc (.cells #[.slice none 0 0, .slice none 0 0, .slice none 0 0, .slice none 0 0, .slice none 0 0, .slice none 0 0] 56)).alloc (.cells (([Value.slice none 0 0, Value.slice none 0 0, Value.slice none 0 0, Value.slice none 0 0, Value.slice none 0 0, Value.slice none 0 0].set f (Value.slice (some ⟨w.heap.size + 1 + 1, 0, none⟩) 0 0)).toArray) 56)).alloc (.cells #[] 2)).alloc (.cells #[.int .i64 f] 2)).ownsRow (w.heap.size + 2) 2 1 (.slice (some ⟨w.heap.size + 2, 0, none⟩) 0 0) 0 (ints [])) := Lib.hid ((by simpa [ints] using (World.ownsRow_made (base := w.heap.size + 2) (e := 2) (size := 1) ((w.alloc (.cells #[.slice none 0 0, .slice none 0 0, .slice none 0 0, .slice none 0 0, .slice none 0 0, .slice none 0 0] 56)).alloc (.cells (([Value.slice none 0 0, Value.slice none 0 0, Value.slice none 0 0, Value.slice none 0 0, Value.slice none 0 0, Value.slice none 0 0].set f (Value.slice (some ⟨w.heap.size + 1 + 1, 0, none⟩) 0 0)).toArray) 56)) #[] 0 (by simp) (by simp [maxLen]) rfl) : (((w.alloc (.cells #[.slice none 0 0, .slice none 0 0, .slice none 0 0, .slice none 0 0, .slice none 0 0, .slice none 0 0] 56)).alloc (.cells (([Value.slice none 0 0, Value.slice none 0 0, Value.slice none 0 0, Value.slice none 0 0, Value.slice none 0 0, Value.slice none 0 0].set f (Value.slice (some ⟨w.heap.size + 1 + 1, 0, none⟩) 0 0)).toArray) 56)).alloc (.cells #[] 2)).ownsRow (w.heap.size + 2) 2 1 (.slice (some ⟨w.heap.size + 2, 0, none⟩) 0 0) 0 []).alloc (.cells #[.int .i64 f] 2))
  have TT := Lib.hid ((((hT.alloc hB (.cells #[.slice none 0 0, .slice none 0 0, .slice none 0 0, .slice none 0 0, .slice none 0 0, .slice none 0 0] 56)).alloc (by simp; omega) (.cells (([Value.slice none 0 0, Value.slice none 0 0, Value.slice none 0 0, Value.slice none 0 0, Value.slice none 0 0, Value.slice none 0 0].set f (Value.slice (some ⟨w.heap.size + 1 + 1, 0, none⟩) 0 0)).toArray) 56)).alloc (by simp; omega) (.cells #[] 2)).alloc (by simp; omega) (.cells #[.int .i64 f] 2))
  have BB := Lib.hid (((((Below.refl w.heap.size w).alloc (Nat.le_refl _) (.cells #[.slice none 0 0, .slice none 0 0, .slice none 0 0, .slice none 0 0, .slice none 0 0, .slice none 0 0] 56)).alloc (by simp) (.cells (([Value.slice none 0 0, Value.slice none 0 0, Value.slice none 0 0, Value.slice none 0 0, Value.slice none 0 0, Value.slice none 0 0].set f (Value.slice (some ⟨w.heap.size + 1 + 1, 0, none⟩) 0 0)).toArray) 56)).alloc (by simp; omega) (.cells #[] 2)).alloc (by simp; omega) (.cells #[.int .i64 f] 2))
  have START : Hid (WSt1 w.heap.size B w ((((w.alloc (.cells #[.slice none 0 0, .slice none 0 0, .slice none 0 0, .slice none 0 0, .slice none 0 0, .slice none 0 0] 56)).alloc (.cells (([Value.slice none 0 0, Value.slice none 0 0, Value.slice none 0 0, Value.slice none 0 0, Value.slice none 0 0, Value.slice none 0 0].set f (Value.slice (some ⟨w.heap.size + 1 + 1, 0, none⟩) 0 0)).toArray) 56)).alloc (.cells #[] 2)).alloc (.cells #[.int .i64 f] 2)) (.slice (some ⟨w.heap.size + 3, 0, none⟩) 1 1) (startW (f : Int))) := Lib.hid ⟨(([Value.slice none 0 0, Value.slice none 0 0, Value.slice none 0 0, Value.slice none 0 0, Value.slice none 0 0, Value.slice none 0 0].set f (Value.slice (some ⟨w.heap.size + 1 + 1, 0, none⟩) 0 0)).toArray), w.heap.size + 3, 1, by simp, K1.out, fun i hi => by
    have hl : f < (List.replicate 6 (none : Option (List Int))).length := by rw [List.length_replicate]; omega
    rw [startW, Int.toNat_natCast, getD_set hl]
    by_cases e : i = f
    · subst e
      rw [if_pos rfl]
      refine .inr ⟨[], ⟨w.heap.size + 2, 0, none⟩, 0, rfl, ?_, by simpa using EE.out, by simp⟩
      simp [hi]
    · rw [if_neg e]
      refine .inl ⟨by rw [List.getD_eq_getElem?_getD, List.getElem?_replicate, if_pos hi]; rfl, ?_⟩
      have : i = 0 ∨ i = 1 ∨ i = 2 ∨ i = 3 ∨ i = 4 ∨ i = 5 := by omega
      simp only [List.getElem?_toArray, List.getElem?_set]
      rw [if_neg (fun q => e q.symm)]
      rcases this with rfl | rfl | rfl | rfl | rfl | rfl <;> rfl, QQ.out, K0.out, TT.out, BB.out⟩
  have hWz : w.heap.size + 4 ≤ ((((w.alloc (.cells #[.slice none 0 0, .slice none 0 0, .slice none 0 0, .slice none 0 0, .slice none 0 0, .slice none 0 0] 56)).alloc (.cells (([Value.slice none 0 0, Value.slice none 0 0, Value.slice none 0 0, Value.slice none 0 0, Value.slice none 0 0, Value.slice none 0 0].set f (Value.slice (some ⟨w.heap.size + 1 + 1, 0, none⟩) 0 0)).toArray) 56)).alloc (.cells #[] 2)).alloc (.cells #[.int .i64 f] 2)).heap.size := by simp
  clear K0 K1 QQ EE TT BB
  generalize ((((w.alloc (.cells #[.slice none 0 0, .slice none 0 0, .slice none 0 0, .slice none 0 0, .slice none 0 0, .slice none 0 0] 56)).alloc (.cells (([Value.slice none 0 0, Value.slice none 0 0, Value.slice none 0 0, Value.slice none 0 0, Value.slice none 0 0, Value.slice none 0 0].set f (Value.slice (some ⟨w.heap.size + 1 + 1, 0, none⟩) 0 0)).toArray) 56)).alloc (.cells #[] 2)).alloc (.cells #[.int .i64 f] 2)) = ws at *
  have hend := ways_end ⟨f, hf⟩ ⟨r.toNat, by omega⟩ b
  rw [show (((⟨r.toNat, by omega⟩ : Fin 4).val : Nat) : Int) = r by simp; omega] at hend
  have Hend := Lib.hid hend
  have Hinv := Lib.hid (fun n => waysW_inv (f := (f : Int)) (r := r) (b := b) (by omega) n)
  have hfin : waysW (f : Int) r b 6 = waysW (f : Int) r b 6 := rfl
  generalize hWS : waysW (f : Int) r b = WS at *
  have hW0 : WS 0 = startW (f : Int) := by rw [← hWS]; rfl
  have hstep := Lib.hid (show ∀ n, WS (n + 1) = roundW r b (WS n) from fun n => by rw [← hWS]; rfl)
  rw [← hW0] at START
  have HWS := Lib.hid hWS
  clear hWS hW0 hf0 hfin hend
  go_loopg [8] 6 (fun gk v wr => gk ≤ 6 ∧ WSt1 w.heap.size B w wr v (WS (6 - gk)))
  case atStart => exact ⟨Nat.le_refl _, START.out⟩
  case round =>
    clear START
    obtain ⟨hgk, hst⟩ := hrel
    have hinv := Hinv.out (6 - gk)
    have Hst := Lib.hid hst
    cases hq : (WS (6 - gk)).2 with
    | nil =>
      obtain ⟨cs, g, cap, hcs, hK, hR, hQ, hZ, hTb, hBw⟩ := hst
      rw [hq] at hQ
      obtain ⟨off, hv, _, _⟩ := hQ.val
      subst hv
      obtain ⟨v0, v1, v2, v3, v4, v5, rfl⟩ := arr6 hcs
      obtain ⟨c0, c1, c2, c3, c4, c5, cf, cz⟩ := bk6 hK
      obtain ⟨d0, d1, d2, d3, d4, d5, df, dz⟩ := bk6 (show Bk wr w.heap.size #[.slice none 0 0, .slice none 0 0, .slice none 0 0, .slice none 0 0, .slice none 0 0, .slice none 0 0] from hZ)
      have he := stay hstep.out hq gk
      rw [show 6 - gk + gk = 6 by omega] at he
      have He := Lib.hid he
      have HZ := Lib.hid hZ
      have HR := Lib.hid hR
      have HB := Lib.hid hBw
      have hne : w.heap.size ≠ w.heap.size + 1 := by omega
      have hne2 : w.heap.size + 1 ≠ w.heap.size := by omega
      have hsl : ∀ i (u : Value), i < 6 → #[v0, v1, v2, v3, v4, v5][i]? = some u → ∃ A n c, u = .slice A n c := fun i u hi hu => by
        rcases hR i hi with ⟨_, h2⟩ | ⟨l, A, c, _, h2, _⟩
        · exact ⟨_, _, _, Option.some.inj (hu.symm.trans h2)⟩
        · exact ⟨_, _, _, Option.some.inj (hu.symm.trans h2)⟩
      obtain ⟨a0, n0, p0, rfl⟩ := hsl 0 v0 (by decide) rfl
      obtain ⟨a1, n1, p1, rfl⟩ := hsl 1 v1 (by decide) rfl
      obtain ⟨a2, n2, p2, rfl⟩ := hsl 2 v2 (by decide) rfl
      obtain ⟨a3, n3, p3, rfl⟩ := hsl 3 v3 (by decide) rfl
      obtain ⟨a4, n4, p4, rfl⟩ := hsl 4 v4 (by decide) rfl
      obtain ⟨a5, n5, p5, rfl⟩ := hsl 5 v5 (by decide) rfl
      clear hK hR hQ hZ hTb hBw he Hst hinv
      go_wp2
      (try simp only [Exit.inBlock, Exit.then])
      refine ret_arr (t := 6) (b := w.heap.size) (v0 := .slice a0 n0 p0) (v1 := .slice a1 n1 p1) (v2 := .slice a2 n2 p2) (v3 := .slice a3 n3 p3) (v4 := .slice a4 n4 p4) (v5 := .slice a5 n5 p5) ?hres ?ha ?hd ?hb ?hR
      case hres => exact rfl
      case ha => exact rfl
      case hd => exact rfl
      case hb => exact bk_fill6 (show Bk wr w.heap.size #[.slice none 0 0, .slice none 0 0, .slice none 0 0, .slice none 0 0, .slice none 0 0, .slice none 0 0] from HZ.out) _ _ _ _ _ _
      refine ⟨_, g, rfl, rfl, ?_, (((((HB.out.setCell (Nat.le_refl _) _).setCell (Nat.le_refl _) _).setCell (Nat.le_refl _) _).setCell (Nat.le_refl _) _).setCell (Nat.le_refl _) _).setCell (Nat.le_refl _) _⟩
      rw [HWS.out, He.out]
      exact (((((HR.out.set (by omega) 0 _).set (by omega) 1 _).set (by omega) 2 _).set (by omega) 3 _).set (by omega) 4 _).set (by omega) 5 _
    | cons m q =>
      have hgk0 : 0 < gk := by
        rcases Nat.eq_zero_or_pos gk with h | h
        · subst h
          have := Hend.out
          rw [Nat.sub_zero] at hq
          rw [hq] at this
          cases this
        · exact h
      obtain ⟨hm0, hm5, hms⟩ := hinv.2.2.2 m (by rw [hq]; exact List.mem_cons_self)
      have hnext := hstep.out (6 - gk)
      rw [roundW_eq hq] at hnext
      generalize hS : WS (6 - gk) = S at *
      have Hnext := Lib.hid hnext
      have hlen := hinv.2.1
      have hinv2 := fun k hk => kindsW_inv (r := r) (b := b) hinv ⟨hm0, hm5⟩ hms k hk
      have Hinv2 := Lib.hid hinv2
      have hhd := Lib.hid (fun k => (show ∃ q', (kindsW r b m S k).2 = m :: q' by
        have := kindsW_head (r := r) (m := m) (x := m) (b := b) (M := S.1) (q := q) k
        rw [← hq] at this
        exact this))
      obtain ⟨cs, g, cap, hcs, hK, hR, hQ, hZ, hTb, hBw⟩ := hst
      rw [hq] at hQ
      obtain ⟨off, hv, hle, hcm⟩ := hQ.val
      subst hv
      have c0 := hQ.head
      have hl1 : (0 : Int) < ((m :: q).length : Int) := by first | (simp; done) | (simp; omega)
      have hd : decide ((0 : Int) < ((m :: q).length : Int)) = true := decide_eq_true hl1
      obtain ⟨mm, hmm⟩ : ∃ mm : Nat, m = (mm : Int) := ⟨m.toNat, by omega⟩
      subst hmm
      have hmm6 : mm < 6 := by omega
      rw [Int.toNat_natCast] at hms
      clear hnext hinv2 hK hR hQ hZ hTb hBw hinv hms
      go_wp2_with fail
      clear c0
      generalize hWo : wr = wo at *
      clear hWo wr
      obtain ⟨GK, hGK⟩ : ∃ n : Nat, n = gk := ⟨_, rfl⟩
      subst hGK
      go_loopg [8, 10] 10 (fun gi v i wr => ∃ k : Nat, k + gi = 10 ∧ i = .int .i64 k ∧ WSt1 w.heap.size B w wr v (kindsW r b (mm : Int) S k))
      case atStart => exact ⟨0, rfl, rfl, Hst.out⟩
      case round =>
        obtain ⟨k, hkg, rfl, hst⟩ := hrel
        have hk : k ≤ 10 := by omega
        obtain ⟨hik, hmk⟩ := Hinv2.out k hk
        obtain ⟨q', hq'⟩ := hhd.out k
        by_cases hlt : k < 10
        · have hstepk : kindsW r b (mm : Int) S (k + 1) = kindW r b (mm : Int) (kindsW r b (mm : Int) S k) k := rfl
          have hnr := next_range hlt (m := (mm : Int)) (r := r) (b := b) ⟨hm0, hm5⟩
          obtain ⟨t, ht⟩ : ∃ t : Nat, nextK k (mm : Int) r b = (t : Int) := ⟨(nextK k (mm : Int) r b).toNat, by omega⟩
          have ht6 : t < 6 := by omega
          rw [kindW, ht, Int.toNat_natCast, Int.toNat_natCast] at hstepk
          rw [Int.toNat_natCast] at hmk
          generalize kindsW r b (mm : Int) S k = s at *
          have Hstk := Lib.hid hstepk
          have Hst1 := Lib.hid hst
          obtain ⟨cs, g, cap, hcs, hK, hR, hQ, hZ, hTb, hBw⟩ := hst
          obtain ⟨off, hv, hle, hcm⟩ := hQ.val
          subst hv
          have hBz := hBw.size
          have HN := Lib.hid (next_impl_r k hlt (mm : Int) r b t ht hm0 hm5 wr B hTb (by omega))
          obtain ⟨lm, Am, cm, hm1, hm2, hm3, hm4⟩ : ∃ (l : List Int) (A : Addr) (c : Nat), s.1.getD mm none = some l ∧ cs[mm]? = some (.slice (some A) l.length c) ∧ wr.ownsRow (w.heap.size + 2) 2 1 (.slice (some A) l.length c) l.length (ints l) ∧ A.block ≠ g := by
            rcases hR mm hmm6 with ⟨h1, _⟩ | h1
            · exact absurd h1 hmk
            · exact h1
          obtain ⟨cK, fK⟩ := bk_at hK
          have hkz := bk_lt hK
          have HK := Lib.hid hK
          have HR := Lib.hid hR
          have HQ := Lib.hid hQ
          have HZ := Lib.hid hZ
          have HT := Lib.hid hTb
          have HB := Lib.hid hBw
          have Hm3 := Lib.hid hm3
          have Hm1 := Lib.hid hm1
          have hlm := hik.2.2.1 mm lm hm1
          have hln := hik.2.1
          have hd9 : decide ((k : Int) ≤ 9) = true := decide_eq_true (by omega)
          have ht0 : (0 : Int) ≤ (t : Int) := by omega
          have htI : (t : Int) < 6 := by omega
          have hmI : (mm : Int) < 6 := by omega
          rcases hR t ht6 with ⟨hn1, hn2⟩ | ⟨lt, At, ct, hn1, hn2, hn3, _⟩
          · rw [hn1, if_pos rfl] at hstepk
            have hk2 := hstepk
            have Hk2 := Lib.hid hstepk
            have ct0 := (cK t).trans hn2
            have heq := fun W => Lib.run_eql_slice_nil (P := Tryd.prog) W 22 2 none 0 0 0 0 Tryd.underlying22
            obtain ⟨i0, hi0, hz0, hz1, hz2⟩ := info_parts infoInt64
            have hQlt := HQ.out.lt
            have hln6 := hik.1
            clear hK hR hQ hZ hTb hBw hm3 hik hstepk hk2 hq' hn1 hm1
            go_wp2_with fail
            refine HN.out.mono ?_
            rintro e w1 ⟨rfl, b1⟩
            have z1 := b1.size
            have HK1 := Lib.hid (bk_below HK.out b1 hkz)
            have HR1 := Lib.hid (HR.out.below b1)
            have HQ1 := Lib.hid (HQ.out.below b1)
            have HZ1 := Lib.hid (bk_below HZ.out b1 (bk_lt HZ.out))
            have HT1 := Lib.hid (HT.out.below b1 (by omega))
            have HB1 := Lib.hid (HB.out.trans (b1.mono (by omega)))
            have HC := Lib.hid (cloneInt_any lm lm.length rfl (some Am) w1.heap.size cm w1 (Rd.of_own (own_below Hm3.out b1)) (Nat.le_refl _) (by omega))
            obtain ⟨cK1, fK1⟩ := bk_at HK1.out
            have ct1 := (cK1 t).trans hn2
            have cm1 := (cK1 mm).trans hm2
            clear ct0 cK fK cK1
            go_wp2_with fail
            refine HC.out.mono ?_
            rintro e w2 ⟨A2, c2, rfl, own2, b2⟩
            have z2 := b2.size
            have O2 := Lib.hid own2
            have HK2 := Lib.hid (bk_below HK1.out b2 (by omega))
            have HB2 := Lib.hid b2
            clear own2 b2 ct1 cm1 fK1
            have hlen3 : (lm ++ [(k : Int)]).length = lm.length + 1 := by rw [List.length_append]; rfl
            have HG := Lib.hid hQlt
            go_wp2_with (first
              | (at_builtin; refine wpList_append_int rfl (.tmp 43) (.tmp 45) 22 rfl w1.heap.size 2 i0 Tryd.underlying22 hi0 hz0 hz1 hz2 _ _ lm rfl O2.out (k : Int) rfl (by omega) (by omega) ?_; intro v3 w3 own3 b3 z3; obtain ⟨A3', c3, rfl⟩ := own_val own3; obtain ⟨A3, rfl, hA3⟩ := own_some own3; have HB3 := Lib.hid (HB2.out.trans b3); have O3 := Lib.hid own3; have HK3 := Lib.hid (bk_below HK2.out b3 (by omega)); obtain ⟨cK3, fK3⟩ := bk_at HK3.out; have ct3 := (cK3 t).trans hn2; clear cK3 b3 own3; have zz3 := HB3.out.size; have HQ3 := Lib.hid (Que.set (j := t) (u := .slice (some A3) (lm.length + 1) c3) (HQ1.out.below HB3.out) (Nat.lt_succ_self (w.heap.size + 1))))
              | (at_builtin; go_loud (refine wpList_append_que rfl (.tmp 48) (.tmp 50) rfl (w.heap.size + 2) _ _ _ _ rfl HQ3.out (t : Int) (by rw [World.size_setCell]; rfl) (by omega) (by simp; omega) ?_); intro v4 w4 g4 cap4 hq4 hg4 gr4 z4; have HQ4 := Lib.hid hq4; have HG4 := Lib.hid gr4; clear hq4 gr4))
            have SL := RowsM.store (b1 := w.heap.size + 1) (t := t) (l := lm ++ [(k : Int)]) (A := A3) (c := c3) (HR1.out.below (HB3.out)) (Nat.lt_succ_self _) hcs hln6 ht6 (by rw [hlen3]; exact own_lower O3.out (by omega)) (by have := HG.out.2; omega)
            rw [hlen3] at SL
            have hT3 := (HT1.out.below HB3.out (by omega))
            have hZ3 := bk_below HZ1.out HB3.out (by have := bk_lt HZ.out; omega)
            have hB3 := HB1.out.trans (HB3.out.mono (by omega))
            have hzz : (w3.setCell ⟨w.heap.size + 1, t, none⟩ (.slice (some A3) (lm.length + 1) c3)).heap.size = w3.heap.size := World.size_setCell ..
            have hb1g := HG.out.1
            go_roundg (10 - (k + 1))
            case rel => exact ⟨k + 1, by omega, by go_num, by
              rw [Hk2.out, Hm1.out]
              exact ⟨_, g4, cap4, by rw [Array.size_setIfInBounds]; exact hcs, bk_apart (bk_set HK3.out t _ _ rfl) HG4.out (by omega), SL.que HG4.out (by omega), HQ4.out, bk_apart (bk_other hZ3 (by omega) _ _) HG4.out (by omega),
                (hT3.below ((Below.refl B _).setCell (by simp; omega) _) (Nat.le_refl _)).grown HG4.out (by omega) (fun q hq => by injection hq with hq; omega),
                (hB3.setCell (by simp) _).grown HG4.out (by omega) (fun q hq => by injection hq with hq; omega)⟩⟩
            all_goals omega
          · have Hst2 := Lib.hid (hstepk.trans (if_neg (by rw [hn1]; simp)))
            have ct0 := (cK t).trans hn2
            have heq := fun W => Lib.run_eql_slice_nil (P := Tryd.prog) W 22 2 (some At) lt.length ct 0 0 Tryd.underlying22
            clear hK hR hQ hZ hTb hBw hm3 hn3 hik hstepk hq' hn1 hm1
            go_wp2_with fail
            refine HN.out.mono ?_
            rintro e w1 ⟨rfl, b1⟩
            have HK1 := Lib.hid (bk_below HK.out b1 hkz)
            have HR1 := Lib.hid (HR.out.below b1)
            have HQ1 := Lib.hid (HQ.out.below b1)
            have HZ1 := Lib.hid (bk_below HZ.out b1 (bk_lt HZ.out))
            have HT1 := Lib.hid (HT.out.below b1 (by omega))
            have HB1 := Lib.hid (HB.out.trans (b1.mono (by omega)))
            obtain ⟨cK1, fK1⟩ := bk_at HK1.out
            have ct1 := (cK1 t).trans hn2
            clear ct0 cK fK cK1 fK1
            go_wp2
            go_roundg (10 - (k + 1))
            case rel => exact ⟨k + 1, by omega, by go_num, by rw [Hst2.out]; exact ⟨cs, g, cap, hcs, HK1.out, HR1.out, HQ1.out, HZ1.out, HT1.out, HB1.out⟩⟩
            all_goals omega
        · have hk10 : k = 10 := by omega
          have hd9 : decide ((k : Int) ≤ 9) = false := decide_eq_false (by omega)
          have Hst1 := Lib.hid hst
          have hnx := Lib.hid (show WS (6 - GK + 1) = ((kindsW r b (mm : Int) S k).1, (kindsW r b (mm : Int) S k).2.tail) by rw [hk10]; exact Hnext.out)
          clear Hnext Hinv2 hhd
          generalize kindsW r b (mm : Int) S k = s at *
          obtain ⟨cs, g, cap, hcs, hK, hR, hQ, hZ, hTb, hBw⟩ := hst
          have hqt := Lib.hid (show Que wr (w.heap.size + 2) _ ((mm : Int) :: q') g cap by rw [← hq']; exact hQ)
          obtain ⟨off, hv, hle, hcm⟩ := hQ.val
          subst hv
          have hlq : s.2.length = q'.length + 1 := by rw [hq']; rfl
          have hKR := Lib.hid (And.intro hK hR)
          have hZT := Lib.hid (And.intro hZ (And.intro hTb hBw))
          have h1c : (1 : Int) ≤ (s.2.length : Int) := by omega
          have h2c : s.2.length ≤ cap := hle
          clear hK hR hQ hZ hTb hBw hik
          go_wp2_with fail
          · go_roundg (GK - 1)
            case rel => exact ⟨by omega, by rw [show 6 - (GK - 1) = 6 - GK + 1 by omega, hnx.out, hq']; exact ⟨cs, g, 0, hcs, hKR.out.1, hKR.out.2, hqt.out.tail1 (by assumption), hZT.out.1, hZT.out.2.1, hZT.out.2.2⟩⟩
            all_goals omega
          · go_roundg (GK - 1)
            case rel => exact ⟨by omega, by rw [show 6 - (GK - 1) = 6 - GK + 1 by omega, hnx.out, hq']; exact ⟨cs, g, cap - 1, hcs, hKR.out.1, hKR.out.2, hqt.out.tail, hZT.out.1, hZT.out.2.1, hZT.out.2.2⟩⟩
            all_goals omega
end Go.Proofs.YtakchdkoildkbaaDoor
