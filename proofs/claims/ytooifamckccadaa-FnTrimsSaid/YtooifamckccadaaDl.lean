/- Draws of layouts. -/
import Derived.Test.YtooifamckccadaaDa
import Derived.Test.YtooifamckccadaaApp
import Derived.Test.YtooifamckccadaaSg
import Derived.Test.YtooifamckccadaaLy
import Derived.Deep.MidRow
namespace Go.Proofs.Ytooifamckccadaa
open Go.ChangeShapes Go.WideShapes Go.ChangeAt Go.RowKit
set_option maxRecDepth 20000
set_option linter.unusedVariables false
set_option linter.unusedSimpArgs false
theorem eSeg_one (t : Seg) : ∀ u ∈ eSegment t, u.oneCell' = true := by
  intro u hu
  simp only [eSegment, List.mem_cons, List.not_mem_nil, or_false] at hu
  rcases hu with rfl | rfl | rfl | rfl | rfl | rfl | rfl <;> rfl
theorem rd_litc (w : World) (xs : List Value) (e : TypeId) (B : Nat) (hB : w.heap.size < B) : Rd (w.alloc (.cells xs.toArray e)) B (some ⟨w.heap.size, 0, none⟩) xs := fun hn => by
  refine ⟨w.heap.size, 0, rfl, hB, fun j u hu => ?_⟩
  have hh := heap_alloc_new w (.cells xs.toArray e)
  simp only [World.cell?, Nat.zero_add]
  rw [hh]
  simpa using hu
theorem wpList_append_seg {w : World} {ops : Array Oper} {rest : List Oper} {o : Oper} {a : Act} {Q : Exit → Act → World → Prop} (hgd : o.guard = none) (s x : Operand)
    (ho : o.op = .call { callee := .builtin .append, args := #[s, x], argTypes := #[24, 24] })
    (base : Nat) (v : Value) (n : Nat) (l : List Seg) (hs : a.eval s = v) (hown : w.ownsRow base 39 7 v n (l.flatMap eSegment)) (t0 t1 t2 t3 t4 t5 t6 : Int) (q : Nat) (hq : w.heap.size = q) (hx : a.eval x = .slice (some ⟨q, 0, none⟩) 1 1)
    (hn : n ≤ 1048576) (hbase : base ≤ w.heap.size)
    (h : ∀ v' w', w'.ownsRow base 39 7 v' (n + 1) ((l ++ [(t0, t1, t2, t3, t4, t5, t6)]).flatMap eSegment) → Below base w w' → w.heap.size < w'.heap.size → wpList Try.prog ops Q rest (a.put o.dst v') w') :
    wpList Try.prog ops Q (o :: rest) a (w.alloc (.cells #[.int .i64 t0, .int .i64 t1, .int .i64 t2, .int .i64 t3, .int .i64 t4, .int .i64 t5, .int .i64 t6] 39)) := by
  subst hq
  obtain ⟨i0, hi0, hz0, hz1, hz2⟩ := info_parts infoSegment
  refine wpList_append_rd hgd s x 24 ho base 39 i0 _ 7 56 Try.underlying24 hi0 hz0 hz1 hz2 rfl (by decide) v n _ hs (hown.alloc _) (w.heap.size + 1) _ 1 1 (eSegment (t0, t1, t2, t3, t4, t5, t6)) hx rfl (rd_litc w _ _ _ (by omega)) (eSeg_one _) (by unfold maxLen; omega) (by omega) (by simp; omega) ?_
  intro v' w' h1 h2 h3
  refine h v' w' (by simpa using h1) (((Below.refl _ _).alloc hbase _).trans h2) (by simp at h3; omega)
theorem wpList_append_seg2 {w : World} {ops : Array Oper} {rest : List Oper} {o : Oper} {a : Act} {Q : Exit → Act → World → Prop} (hgd : o.guard = none) (s x : Operand)
    (ho : o.op = .call { callee := .builtin .append, args := #[s, x], argTypes := #[24, 24] })
    (base : Nat) (v : Value) (n : Nat) (l : List Seg) (hs : a.eval s = v) (hown : w.ownsRow base 39 7 v n (l.flatMap eSegment)) (t u : Seg) (cs : Array Value) (hcs : cs = (eSegment t ++ eSegment u).toArray) (q : Nat) (hq : w.heap.size = q) (hx : a.eval x = .slice (some ⟨q, 0, none⟩) 2 2)
    (hn : n ≤ 1048576) (hbase : base ≤ w.heap.size)
    (h : ∀ v' w', w'.ownsRow base 39 7 v' (n + 2) ((l ++ [t, u]).flatMap eSegment) → Below base w w' → w.heap.size < w'.heap.size → wpList Try.prog ops Q rest (a.put o.dst v') w') :
    wpList Try.prog ops Q (o :: rest) a (w.alloc (.cells cs 39)) := by
  subst hcs
  subst hq
  obtain ⟨i0, hi0, hz0, hz1, hz2⟩ := info_parts infoSegment
  refine wpList_append_rd hgd s x 24 ho base 39 i0 _ 7 56 Try.underlying24 hi0 hz0 hz1 hz2 rfl (by decide) v n _ hs (hown.alloc _) (w.heap.size + 1) _ 2 2 (eSegment t ++ eSegment u) hx rfl (rd_litc w _ _ _ (by omega)) (fun x hx => by rw [List.mem_append] at hx; rcases hx with hx | hx <;> exact eSeg_one _ x hx) (by unfold maxLen; omega) (by omega) (by simp; omega) ?_
  intro v' w' h1 h2 h3
  refine h v' w' (by simpa using h1) (((Below.refl _ _).alloc hbase _).trans h2) (by simp at h3; omega)
theorem l01Abs_some (n : Int) (w : World) : Calls Try.prog 153 #[.int .i64 n] w fun e w' => (∃ x : Int, e = .returned (.int .i64 x)) ∧ w = w' := by
  go_enter Try.func153, Try.ntmps153
  go_wp2
  all_goals go_ret
  all_goals exact ⟨⟨_, rfl⟩, rfl⟩
theorem flat7_set {l : List Seg} {i : Nat} (hi : i < l.length) (t : Seg) : (((((((l.flatMap eSegment).set (i * 7) (.int .i64 t.1)).set (i * 7 + 1) (.int .i64 t.2.1)).set (i * 7 + 2) (.int .i64 t.2.2.1)).set (i * 7 + 3) (.int .i64 t.2.2.2.1)).set (i * 7 + 4) (.int .i64 t.2.2.2.2.1)).set (i * 7 + 5) (.int .i64 t.2.2.2.2.2.1)).set (i * 7 + 6) (.int .i64 t.2.2.2.2.2.2) = (l.set i t).flatMap eSegment := by
  have e1 : l = l.take i ++ l[i] :: l.drop (i + 1) := by rw [← List.drop_eq_getElem_cons hi, List.take_append_drop]
  have e2 : l.set i t = l.take i ++ t :: l.drop (i + 1) := by rw [List.set_eq_take_append_cons_drop, if_pos hi]
  have el : ((l.take i).flatMap eSegment).length = i * 7 := by
    have : ∀ l : List Seg, (l.flatMap eSegment).length = l.length * 7 := by
      intro l
      induction l with
      | nil => rfl
      | cons a l ih => rw [List.flatMap_cons, List.length_append, ih, List.length_cons]; simp [eSegment]; omega
    rw [this, List.length_take, Nat.min_eq_left (by omega)]
  rw [e2]
  conv => lhs; rw [e1]
  rw [List.flatMap_append, List.flatMap_append, List.flatMap_cons, List.flatMap_cons]
  generalize (l.take i).flatMap eSegment = P at *
  generalize (l.drop (i + 1)).flatMap eSegment = S at *
  rw [← el]
  simp only [List.set_append_right _ _ (Nat.le_refl _), List.set_append_right _ _ (Nat.le_add_right _ _), Nat.sub_self, Nat.add_sub_cancel_left]
  rfl
theorem flat7_len (l : List Seg) : (l.flatMap eSegment).length = l.length * 7 := by
  induction l with
  | nil => rfl
  | cons a l ih => rw [List.flatMap_cons, List.length_append, ih, List.length_cons]; simp [eSegment]; omega
theorem flat7_take (l : List Seg) {k : Nat} (hk : k ≤ l.length) : (l.flatMap eSegment).take (k * 7) = (l.take k).flatMap eSegment := by
  have e : l.flatMap eSegment = (l.take k).flatMap eSegment ++ (l.drop k).flatMap eSegment := by rw [← List.flatMap_append, List.take_append_drop]
  have el : ((l.take k).flatMap eSegment).length = k * 7 := by rw [flat7_len, List.length_take, Nat.min_eq_left hk]
  rw [e, ← el, List.take_left]
theorem own_take {w : World} {base : Nat} {e : TypeId} {size n c k : Nat} {A : Option Addr} {xs : List Value} (h : w.ownsRow base e size (.slice A n c) n xs) (hk : k ≤ n) : w.ownsRow base e size (.slice A k c) k (xs.take (k * size)) := by
  have hm := Nat.mul_le_mul_right size hk
  refine ⟨by rw [List.length_take, h.1]; omega, ?_⟩
  rcases h.2 with ⟨e1, hn⟩ | ⟨g, cap, cur, e1, hg, hh, hc, hm2, hs, ht⟩
  · injection e1 with q1 q2 q3
    left
    have : k = 0 := by omega
    subst this q1 q3
    exact ⟨rfl, rfl⟩
  · injection e1 with q1 q2 q3
    subst q1 q3
    right
    exact ⟨g, c, cur, rfl, hg, hh, Nat.le_trans hk hc, hm2, hs, by rw [← ht, List.take_take, Nat.min_eq_left hm]⟩
theorem own_set {w : World} {base : Nat} {e : TypeId} {size n : Nat} {v : Value} {xs : List Value} (h : w.ownsRow base e size v n xs) {b : Nat} (hb : v.ownBlock ≠ some b) (j : Nat) (u : Value) : (w.setCell ⟨b, j, none⟩ u).ownsRow base e size v n xs := by
  refine ⟨h.1, ?_⟩
  rcases h.2 with hn | ⟨g, cap, cur, rfl, hg, hgg, rest⟩
  · exact .inl hn
  · exact .inr ⟨g, cap, cur, rfl, hg, (heap_setCell_other w ⟨b, j, none⟩ g u (fun e => hb (by simp [Value.ownBlock, e]))).trans hgg, rest⟩
theorem row_there {w : World} {base g c n : Nat} {e : TypeId} {l : List Seg} (h : w.ownsRow base e 7 (.slice (some ⟨g, 0, none⟩) n c) n (l.flatMap eSegment)) {i : Nat} (hi : i < n) : w.there g (i * 7) 7 := fun j hj => by
  have hl := h.1
  have hc := h.cellAt (i * 7 + j) (by omega)
  have hf := h.frozenAt (i * 7 + j)
  refine ⟨?_, hf⟩
  rw [hc, List.getElem?_eq_getElem (by omega)]
  rfl
theorem row_set {w : World} {base g c : Nat} {e : TypeId} {l : List Seg} (h : w.ownsRow base e 7 (.slice (some ⟨g, 0, none⟩) l.length c) l.length (l.flatMap eSegment)) {i : Nat} (hi : i < l.length) (t : Seg) :
    (w.setCells g (i * 7) (eSegment t)).ownsRow base e 7 (.slice (some ⟨g, 0, none⟩) l.length c) l.length ((l.set i t).flatMap eSegment) := by
  rw [← flat7_set hi]
  have h0 := (World.ownsRow.stored h (i * 7) (.int .i64 t.1)).1
  have h1 := (World.ownsRow.stored h0 (i * 7 + 1) (.int .i64 t.2.1)).1
  have h2 := (World.ownsRow.stored h1 (i * 7 + 2) (.int .i64 t.2.2.1)).1
  have h3 := (World.ownsRow.stored h2 (i * 7 + 3) (.int .i64 t.2.2.2.1)).1
  have h4 := (World.ownsRow.stored h3 (i * 7 + 4) (.int .i64 t.2.2.2.2.1)).1
  have h5 := (World.ownsRow.stored h4 (i * 7 + 5) (.int .i64 t.2.2.2.2.2.1)).1
  have h6 := (World.ownsRow.stored h5 (i * 7 + 6) (.int .i64 t.2.2.2.2.2.2)).1
  exact h6
theorem below_setCells (g : Nat) {N : Nat} (h : N ≤ g) : ∀ (vs : List Value) (o : Nat) (w : World), Below N w (w.setCells g o vs)
  | [], _, w => Below.refl _ _
  | v :: vs, o, w => ((Below.refl N w).setCell h v).trans (below_setCells g h vs (o + 1) _)
theorem bk_setCells {b : Nat} {cs : Array Value} {g : Nat} (hne : g ≠ b) : ∀ (vs : List Value) (o : Nat) (w : World), Bk w b cs → Bk (w.setCells g o vs) b cs
  | [], _, w, h => h
  | v :: vs, o, w, h => bk_setCells hne vs (o + 1) _ (bk_other h hne o v)
theorem wpList_store_seg {w : World} {ops : Array Oper} {rest : List Oper} {o : Oper} {a : Act} {Q : Exit → Act → World → Prop} (hgd : o.guard = none) (x y : Operand)
    (ho : o.op = .store 39 x y) (base g c n : Nat) (l : List Seg) (hown : w.ownsRow base 39 7 (.slice (some ⟨g, 0, none⟩) n c) n (l.flatMap eSegment)) (i : Nat) (hi : i < n) (t : Seg)
    (hx : a.eval x = .pointer (some ⟨g, i * 7, none⟩)) (hy : a.eval y = .agg (eSegment t).toArray)
    (hn : l.length = n) (h : ∀ w', w'.ownsRow base 39 7 (.slice (some ⟨g, 0, none⟩) n c) n ((l.set i t).flatMap eSegment) → (∀ N, N ≤ g → Below N w w') → (∀ b cs, g ≠ b → Bk w b cs → Bk w' b cs) → wpList Try.prog ops Q rest (a.put o.dst undef) w') : wpList Try.prog ops Q (o :: rest) a w := by
  subst hn
  exact wpList_store_mid hgd 39 x y ho g (i * 7) (eSegment t).toArray hx hy (row_there hown hi) (by
    obtain ⟨i0, hi0, hz0, hz1, hz2⟩ := info_parts infoSegment
    rw [hi0]
    simp [hz1, eSegment]) (all_oneCell_toArray (eSeg_one t)) (h _ (row_set hown hi t) (fun N hN => below_setCells g hN _ _ _) (fun b cs hne hb => bk_setCells hne _ _ _ hb))
set_option maxRecDepth 20000 in
theorem made_segs (n : Nat) (hn : n = 24 ∨ n = 25) : (madeCells (Value.agg #[.int .i64 0, .int .i64 0, .int .i64 0, .int .i64 0, .int .i64 0, .int .i64 0, .int .i64 0]).cells (n * 7)).toList = (List.replicate n ((0 : Int), (0 : Int), (0 : Int), (0 : Int), (0 : Int), (0 : Int), (0 : Int))).flatMap eSegment := by
  rcases hn with rfl | rfl <;> kernel_rfl
def LayP (w0 : World) (g B : Nat) (C : Option Addr) (cap : Nat) (bl : List Int) (e : Ending) (w' : World) : Prop :=
  ∃ (l : List Seg) (A : Option Addr) (c : Nat), e = .returned (.agg #[.slice A l.length c]) ∧ l.length ≤ 25 ∧ w'.ownsRow (w0.heap.size + 1) 39 7 (.slice A l.length c) l.length (l.flatMap eSegment) ∧ DS w0 w' g B C cap bl
theorem ret_lay {fn : Func} {t : Tmp} {a : Act} {w : World} {R : Ending → World → Prop} {b : Nat} {x : Value} (hres : fn.results = #[.cell t 26]) (ha : a.tmps.getD t undef = .pointer (some ⟨b, 0, none⟩)) (hd : a.defers = []) (h : Bk w b #[x]) (h1 : ∃ A n c, x = .slice A n c) (hR : R (.returned (.agg #[x])) w) : bodyPost Try.prog fn R .ret a w := by
  obtain ⟨A, n, c, rfl⟩ := h1
  refine bodyPost_ret ?_ hd hR
  obtain ⟨k1, k2⟩ := bk_at h
  have c0 : w.cell? ⟨b, 0, none⟩ = some (.slice A n c) := k1 0
  simp only [Array.getD_eq_getD_getElem?] at ha
  simp [results, hres, ha, go_sem, *]
set_option maxHeartbeats 4000000 in
theorem l03Draw_any (w0 : World) (g B : Nat) (C : Option Addr) (cap : Nat) (bl : List Int) (h : DS w0 w0 g B C cap bl) :
   Calls Try.prog 182 #[.pointer (some ⟨g, 0, none⟩)] w0 (LayP w0 g B C cap bl) := by
  have hg0 := h.size.2
  have H := Lib.hid h
  clear h
  have K0 := Lib.hid (bk_alloc (bk_new w0 #[.slice none 0 0] 26) (.cells #[] 39))
  go_enter Try.func182, Try.ntmps182
  go_wp2_with fail
  refine (next_ds ((H.out.alloc (.cells #[.slice none 0 0] 26)).alloc (.cells #[] 39)) 7).mono ?_
  rintro e w1 ⟨q, rfl, q0, q1, d1, g1⟩
  have o1 := DS.own (World.ownsRow_made (base := w0.heap.size + 1) (e := 39) (size := 7) (w0.alloc (.cells #[.slice none 0 0] 26)) #[] 0 (by simp) (by simp [maxLen]) rfl) g1 (by omega)
  have K1 := Lib.hid (bk_keep K0.out g1 hg0)
  have hq4 : q ≤ 6 := by omega
  have hqw : IntKind.i64.wrap (1 + q) = 1 + q := IntWalk.i64_in _ (by omega)
  clear q1
  have O1 := Lib.hid o1
  have D1 := Lib.hid d1
  clear o1 d1 g1 K0
  go_wp2_with fail
  go_loopw [3, 4, 5] (fun v r n wr => ∃ (l : List Seg) (rise q : Int), r = .int .i64 rise ∧ n = .int .i64 q ∧ 0 ≤ q ∧ l.length + q ≤ 7 ∧ wr.ownsRow (w0.heap.size + 1) 39 7 v l.length (l.flatMap eSegment) ∧ Bk wr w0.heap.size #[.slice none 0 0] ∧ DS w0 wr g B C cap bl) (fun _ _ n _ => (intOf n).toNat)
  case atStart => exact ⟨[], 0, 1 + q, rfl, rfl, by omega, by simp; omega, by simpa using O1.out, K1.out, D1.out⟩
  case round =>
    clear q0 hq4 hqw
    obtain ⟨l, rise, q, rfl, rfl, q0, hq4, hown, hbk, hd⟩ := hrel
    have hsz := hd.size.1
    have Ho := Lib.hid hown
    have Hd := Lib.hid hd
    have Hk := Lib.hid hbk
    have hbl := bk_lt hbk
    clear hown hd hbk
    by_cases hlt : 0 < q
    · have hqw : IntKind.i64.wrap (q - 1) = q - 1 := IntWalk.i64_in _ (by omega)
      go_wp2_with fail
      refine (pick_al Hd.out [0, 0, 0, 1, 2, 3, 3] 7 _ (by rfl) _ (by rfl) rfl (by omega) (by omega)).mono ?_
      rintro e w2 ⟨kd, rfl, d2, g2⟩
      have O2 := Lib.hid (DS.own (Ho.out.alloc _) g2 (by omega))
      have K2 := Lib.hid (bk_keep (bk_alloc Hk.out _) g2 hg0)
      have D2 := Lib.hid d2
      clear d2 g2 Ho Hd Hk
      go_wp2_with fail
      refine (l03DrawSegment_any w2 g B C cap bl kd D2.out.again).mono ?_
      rintro e w3 ⟨k, len, rs, rl, rh, fl, fh, rfl, d3⟩
      have O3 := Lib.hid (DS.own O2.out d3.2.2.1 (by omega))
      have K3 := Lib.hid (bk_keep K2.out d3.2.2.1 hg0)
      have D3 := Lib.hid (D2.out.join d3)
      have hs3 := D3.out.size.1
      have hln : l.length ≤ 1048576 := by omega
      have hb3 := bk_lt K3.out
      clear d3 O2 K2 D2
      go_wp2_with (at_builtin; refine wpList_append_seg rfl (.tmp 27) (.tmp 29) rfl (w0.heap.size + 1) _ _ _ rfl (O3.out.alloc _) _ _ _ _ _ _ _ (w3.heap.size + 1) (by simp) rfl hln (by first | omega | (simp only [World.size_alloc]; omega)) ?_; intro v5 w5 own5 hb5 hz5; have O5 := Lib.hid own5; have K5 := Lib.hid (bk_below (bk_alloc K3.out _) hb5 (by omega)); have D5 := Lib.hid ((D3.out.alloc _).below (hb5.mono (by omega))); clear own5)
      go_roundw
      case rel => exact ⟨l ++ [(k, len, rs, rl, rh, fl, fh)], _, q - 1, rfl, by go_num, by omega, by simp; omega, by simpa using O5.out, K5.out, D5.out⟩
      case measure => simp [intOf]; omega
    · have hl7 : l.length ≤ 7 := by omega
      go_wp2_with fail
      refine (l01Abs_some rise _).mono ?_; rintro e w' ⟨⟨x, rfl⟩, rfl⟩
      obtain ⟨X, hX⟩ : ∃ X, wrap64 (2 * x) = X := ⟨_, rfl⟩
      have hX2 : IntKind.i64.wrap (2 * x) = X := (IntWalk.i64_left _).trans hX
      obtain ⟨M, hM⟩ : ∃ M, (if X < 200000 then X else 200000) = M := ⟨_, rfl⟩
      obtain ⟨Y, hY⟩ : ∃ Y, (if 2000 < M then M else 2000) = Y := ⟨_, rfl⟩
      obtain ⟨R, hR⟩ : ∃ R, wrap64 (-rise) = R := ⟨_, rfl⟩
      have hR2 : IntKind.i64.wrap (-rise) = R := (IntWalk.i64_left _).trans hR
      go_wp2_with fail
      clear hM hY hR hX hX2 hR2
      refine (l03DrawSegment_any _ g B C cap bl 4 (Hd.out.alloc (.cells #[.int .i64 0, .int .i64 Y, .int .i64 R, .int .i64 10, .int .i64 60, .int .i64 0, .int .i64 0] 39)).again).mono ?_
      rintro e w3 ⟨k, len, rs, rl, rh, fl, fh, rfl, d3⟩
      have O3 := Lib.hid (DS.own (Ho.out.alloc _) d3.2.2.1 (by omega))
      have K3 := Lib.hid (bk_keep (bk_alloc Hk.out _) d3.2.2.1 hg0)
      have L3 := Lib.hid (bk_keep (bk_new wr #[.int .i64 0, .int .i64 Y, .int .i64 R, .int .i64 10, .int .i64 60, .int .i64 0, .int .i64 0] 39) d3.2.2.1 (by omega))
      have D3 := Lib.hid ((Hd.out.alloc _).join d3)
      have hs3 := D3.out.size.1
      have hb3 := bk_lt K3.out
      have hL3 := bk_lt L3.out
      have hneb : wr.heap.size ≠ w3.heap.size := by omega
      have hneb2 : w3.heap.size ≠ wr.heap.size := by omega
      have hln : l.length ≤ 1048576 := by omega
      have hvb : u3.ownBlock ≠ some w3.heap.size := fun e => by have := (own_lt O3.out _ e).2; omega
      clear d3 Ho Hk Hd
      obtain ⟨q0', q1', q2', q3', q4', q5', q6', qf', qs'⟩ := bk7 L3.out
      go_wp2_with (at_builtin; refine wpList_append_seg2 rfl (.tmp 43) (.tmp 46) rfl (w0.heap.size + 1) _ _ _ rfl (O3.out.alloc _) (0, Y, R, 10, 60, 0, 0) (k, len, 0, rl, rh, fl, fh) _ rfl (w3.heap.size + 1) (by simp) rfl hln (by first | omega | (simp; omega)) ?_; intro v5 w5 own5 hb5 hz5; have O5 := Lib.hid own5; have K5 := Lib.hid (bk_below (bk_alloc K3.out _) hb5 (by omega)); have D5 := Lib.hid ((D3.out.alloc _).below (hb5.mono (by omega))); clear own5)
      refine (next_ds D5.out 40).mono ?_
      rintro e w6 ⟨y, rfl, y0, y1, d6, g6⟩
      have O6 := Lib.hid (DS.own O5.out g6 (by omega))
      have K6 := Lib.hid (bk_keep K5.out g6 hg0)
      have D6 := Lib.hid d6
      have hL : (l ++ [(0, Y, R, 10, 60, 0, 0), (k, len, 0, rl, rh, fl, fh)]).length = l.length + 2 := by simp
      have hs6 := d6.size.1
      clear d6 g6 y1 O3 K3 L3 D3 O5 K5 D5 q0' q1' q2' q3' q4' q5' q6' qf' qs'
      rw [← hL] at O6
      have hL9 : (l ++ [(0, Y, R, 10, 60, 0, 0), (k, len, 0, rl, rh, fl, fh)]).length ≤ 9 := by omega
      have hL2 : 2 ≤ (l ++ [(0, Y, R, 10, 60, 0, 0), (k, len, 0, rl, rh, fl, fh)]).length := by omega
      clear hL
      generalize l ++ [(0, Y, R, 10, 60, 0, 0), (k, len, 0, rl, rh, fl, fh)] = L at *
      have FIN : ∀ (w' : World) (l : List Seg) (A : Option Addr) (c : Nat), l.length ≤ 25 → w'.ownsRow (w0.heap.size + 1) 39 7 (.slice A l.length c) l.length (l.flatMap eSegment) → DS w0 w' g B C cap bl → LayP w0 g B C cap bl (.returned (.agg #[.slice A l.length c])) (w'.setCell ⟨w0.heap.size, 0, none⟩ (.slice A l.length c)) := fun w' l A c h1 h2 h3 => ⟨l, A, c, rfl, h1, own_set h2 (fun e => by have := (own_lt h2 _ e).1; omega) 0 _, h3.set (Nat.le_refl _) 0 _⟩
      have Fin := Lib.hid FIN
      clear FIN
      obtain ⟨A6, c6, rfl⟩ := own_val O6.out
      rcases (show y = 0 ∨ y = 1 ∨ y = 2 ∨ y = 3 ∨ (y ≠ 0 ∧ y ≠ 1 ∧ y ≠ 2 ∧ y ≠ 3) by omega) with rfl | rfl | rfl | rfl | ⟨n0, n1, n2, n3⟩
      · go_wp2_with fail
        refine (next_ds D6.out _).mono ?_
        rintro e w7 ⟨i, rfl, i0', i1, d7, g7⟩
        have O7 := Lib.hid (DS.own O6.out g7 (by omega))
        have K7 := Lib.hid (bk_keep K6.out g7 hg0)
        have D7 := Lib.hid d7
        obtain ⟨i, rfl⟩ : ∃ k : Nat, i = k := ⟨i.toNat, by omega⟩
        have hi : i < L.length := by omega
        clear d7 g7 i1 O6 K6 D6
        go_wp2_with fail
        refine (l03DrawAny_any w7 g B C cap bl D7.out.again).mono ?_
        rintro e w8 ⟨t0, t1, t2, t3, t4, t5, t6, rfl, d8⟩
        have O8 := Lib.hid (DS.own O7.out d8.2.2.1 (by omega))
        have K8 := Lib.hid (bk_keep K7.out d8.2.2.1 hg0)
        have D8 := Lib.hid (D7.out.join d8)
        clear d8 O7 K7 D7
        obtain ⟨gb, rfl, hgb, hgb2⟩ := own_form O8.out (by omega)
        have hii : (i : Int) < (L.length : Int) := by omega
        go_wp2_with ((with_reducible show Go.wpList _ _ _ _ _ _); refine wpList_store_seg rfl (.tmp 59) (.tmp 58) rfl _ gb c6 _ L O8.out i hi (t0, t1, t2, t3, t4, t5, t6) (by rfl) (by rfl) rfl ?_; intro w9 o9 b9 k9; have O9 := Lib.hid o9; have K9 := Lib.hid (k9 w0.heap.size _ (show gb ≠ w0.heap.size by omega) K8.out); have D9 := Lib.hid (D8.out.below (b9 _ (show w0.heap.size ≤ gb by omega))); clear o9 b9 k9; obtain ⟨r1, r2⟩ := bk_at K9.out; have r0 : w9.cell? ⟨w0.heap.size, 0, none⟩ = some (.slice none 0 0) := r1 0; clear r1)
        (try simp only [Exit.inBlock, Exit.then])
        refine ret_lay rfl rfl rfl (bk_set K9.out 0 _ _ rfl) ⟨_, _, _, rfl⟩ ?_
        have := Fin.out _ (L.set i (t0, t1, t2, t3, t4, t5, t6)) (some ⟨gb, 0, none⟩) c6 (by rw [List.length_set]; omega) (by rw [List.length_set]; exact O9.out) D9.out
        rw [List.length_set] at this
        exact this
      · have hcap := own_cap O6.out
        have hw1 : IntKind.i64.wrap ((L.length : Int) - 1) = ((L.length - 1 : Nat) : Int) := by rw [show (L.length : Int) - 1 = ((L.length - 1 : Nat) : Int) by omega]; exact IntWalk.i64_in _ (by omega)
        have hw2 : L.length - 1 ≤ c6 := by omega
        have ot := own_take O6.out (show L.length - 1 ≤ L.length by omega)
        have e7 : (L.flatMap eSegment).take ((L.length - 1) * 7) = (L.take (L.length - 1)).flatMap eSegment := flat7_take L (by omega)
        rw [e7] at ot
        have hl7 : (L.take (L.length - 1)).length = L.length - 1 := by rw [List.length_take]; omega
        have OT := Lib.hid ot
        obtain ⟨r1, r2⟩ := bk_at K6.out
        have r0 : w6.cell? ⟨w0.heap.size, 0, none⟩ = some (.slice none 0 0) := r1 0
        clear r1 ot e7
        go_wp2
        (try simp only [Exit.inBlock, Exit.then])
        refine ret_lay rfl rfl rfl (bk_set K6.out 0 _ _ rfl) ⟨_, _, _, rfl⟩ ?_
        have := Fin.out _ (L.take (L.length - 1)) A6 c6 (by omega) (by rw [hl7]; exact OT.out) D6.out
        rw [hl7] at this
        exact this
      · go_wp2_with fail
        refine (next_ds D6.out 2).mono ?_
        rintro e w7 ⟨z, rfl, z0, z1, d7, g7⟩
        have K7 := Lib.hid (bk_keep K6.out g7 hg0)
        have D7 := Lib.hid d7
        have hz7 := d7.size.1
        have hb7 := bk_lt K7.out
        have z2 : z = 0 ∨ z = 1 := by omega
        clear d7 g7 z1 O6 K6 D6
        obtain ⟨i0, hi0, hz0, hz1, hz2⟩ := info_parts infoSegment
        rcases z2 with rfl | rfl
        · obtain ⟨w8, xs, hmk, hown, hxs, hb8, hz8⟩ := mk_own (P := Try.prog) 24 39 i0 _ 7 56 Try.underlying24 hi0 hz0 hz1 hz2 .i64 .i64 24 (by omega) (by unfold maxLen; omega) (w0.heap.size + 1) w7 (by omega)
          rw [made_segs 24 (by omega)] at hxs
          subst hxs
          have O8 := Lib.hid hown
          have K8 := Lib.hid (bk_below K7.out hb8 hb7)
          have D8 := Lib.hid (D7.out.below (hb8.mono hz7))
          replace hmk := (show (Instr.makeSlice 24 (.int .i64 24) (.int .i64 24)).run Try.prog w7 = _ from hmk)
          clear hown hb8
          have hgq : w0.heap.size < w7.heap.size := hb7
          generalize w7.heap.size = gq at *
          go_wp2_with fail
          clear hmk
          go_loopw [9] (fun iv wr => ∃ (i : Nat) (L : List Seg), i ≤ 24 ∧ iv = .int .i64 i ∧ L.length = 24 ∧ wr.ownsRow (w0.heap.size + 1) 39 7 (.slice (some ⟨gq, 0, none⟩) 24 24) 24 (L.flatMap eSegment) ∧ Bk wr w0.heap.size #[.slice none 0 0] ∧ DS w0 wr g B C cap bl) (fun iv _ => 24 - (intOf iv).toNat)
          case atStart => exact ⟨0, List.replicate 24 (0, 0, 0, 0, 0, 0, 0), by omega, rfl, by rw [List.length_replicate], O8.out, K8.out, D8.out⟩
          case round =>
            clear O8 K8 D8
            obtain ⟨i, L, hi, rfl, hLn, hown, hbk, hd⟩ := hrel
            have Ho := Lib.hid hown
            have Hk := Lib.hid hbk
            have Hd := Lib.hid hd
            have HLn := Lib.hid hLn
            clear hown hbk hd hLn
            by_cases hlt : i < 24
            · go_wp2_with ((with_reducible show Go.wpList _ _ _ _ _ _); refine wpList_store_seg rfl (.tmp 83) (.tmp 82) rfl _ gq 24 _ L Ho.out i hlt (4, 1, 0, 0, 0, 1, 1) (by rfl) (by rfl) HLn.out ?_; intro w9 o9 b9 k9; have O9 := Lib.hid o9; have K9 := Lib.hid (k9 w0.heap.size _ (show gq ≠ w0.heap.size by omega) Hk.out); have D9 := Lib.hid (Hd.out.below (b9 _ (show w0.heap.size ≤ gq by omega))); clear o9 b9 k9)
              go_roundw
              case rel => exact ⟨i + 1, L.set i (4, 1, 0, 0, 0, 1, 1), by omega, by go_num, by rw [List.length_set]; exact HLn.out, O9.out, K9.out, D9.out⟩
              case measure => simp [intOf]; omega
            · obtain ⟨r1, r2⟩ := bk_at Hk.out
              have r0 : wr.cell? ⟨w0.heap.size, 0, none⟩ = some (.slice none 0 0) := r1 0
              clear r1
              go_wp2
              (try simp only [Exit.inBlock, Exit.then])
              refine ret_lay rfl rfl rfl (bk_set Hk.out 0 _ _ rfl) ⟨_, _, _, rfl⟩ ?_
              have := Fin.out _ L (some ⟨gq, 0, none⟩) 24 (by have := HLn.out; omega) (by rw [HLn.out]; exact Ho.out) Hd.out
              rw [HLn.out] at this
              exact this
        · obtain ⟨w8, xs, hmk, hown, hxs, hb8, hz8⟩ := mk_own (P := Try.prog) 24 39 i0 _ 7 56 Try.underlying24 hi0 hz0 hz1 hz2 .i64 .i64 25 (by omega) (by unfold maxLen; omega) (w0.heap.size + 1) w7 (by omega)
          rw [made_segs 25 (by omega)] at hxs
          subst hxs
          have O8 := Lib.hid hown
          have K8 := Lib.hid (bk_below K7.out hb8 hb7)
          have D8 := Lib.hid (D7.out.below (hb8.mono hz7))
          replace hmk := (show (Instr.makeSlice 24 (.int .i64 25) (.int .i64 25)).run Try.prog w7 = _ from hmk)
          clear hown hb8
          have hgq : w0.heap.size < w7.heap.size := hb7
          generalize w7.heap.size = gq at *
          go_wp2_with fail
          clear hmk
          go_loopw [9] (fun iv wr => ∃ (i : Nat) (L : List Seg), i ≤ 25 ∧ iv = .int .i64 i ∧ L.length = 25 ∧ wr.ownsRow (w0.heap.size + 1) 39 7 (.slice (some ⟨gq, 0, none⟩) 25 25) 25 (L.flatMap eSegment) ∧ Bk wr w0.heap.size #[.slice none 0 0] ∧ DS w0 wr g B C cap bl) (fun iv _ => 25 - (intOf iv).toNat)
          case atStart => exact ⟨0, List.replicate 25 (0, 0, 0, 0, 0, 0, 0), by omega, rfl, by rw [List.length_replicate], O8.out, K8.out, D8.out⟩
          case round =>
            clear O8 K8 D8
            obtain ⟨i, L, hi, rfl, hLn, hown, hbk, hd⟩ := hrel
            have Ho := Lib.hid hown
            have Hk := Lib.hid hbk
            have Hd := Lib.hid hd
            have HLn := Lib.hid hLn
            clear hown hbk hd hLn
            by_cases hlt : i < 25
            · go_wp2_with ((with_reducible show Go.wpList _ _ _ _ _ _); refine wpList_store_seg rfl (.tmp 83) (.tmp 82) rfl _ gq 25 _ L Ho.out i hlt (4, 1, 0, 0, 0, 1, 1) (by rfl) (by rfl) HLn.out ?_; intro w9 o9 b9 k9; have O9 := Lib.hid o9; have K9 := Lib.hid (k9 w0.heap.size _ (show gq ≠ w0.heap.size by omega) Hk.out); have D9 := Lib.hid (Hd.out.below (b9 _ (show w0.heap.size ≤ gq by omega))); clear o9 b9 k9)
              go_roundw
              case rel => exact ⟨i + 1, L.set i (4, 1, 0, 0, 0, 1, 1), by omega, by go_num, by rw [List.length_set]; exact HLn.out, O9.out, K9.out, D9.out⟩
              case measure => simp [intOf]; omega
            · obtain ⟨r1, r2⟩ := bk_at Hk.out
              have r0 : wr.cell? ⟨w0.heap.size, 0, none⟩ = some (.slice none 0 0) := r1 0
              clear r1
              go_wp2
              (try simp only [Exit.inBlock, Exit.then])
              refine ret_lay rfl rfl rfl (bk_set Hk.out 0 _ _ rfl) ⟨_, _, _, rfl⟩ ?_
              have := Fin.out _ L (some ⟨gq, 0, none⟩) 25 (by have := HLn.out; omega) (by rw [HLn.out]; exact Ho.out) Hd.out
              rw [HLn.out] at this
              exact this
      · obtain ⟨r1, r2⟩ := bk_at K6.out
        have r0 : w6.cell? ⟨w0.heap.size, 0, none⟩ = some (.slice none 0 0) := r1 0
        clear r1
        go_wp2
        (try simp only [Exit.inBlock, Exit.then])
        refine ret_lay rfl rfl rfl (bk_set K6.out 0 _ _ rfl) ⟨_, _, _, rfl⟩ ?_
        exact Fin.out _ [] none 0 (by simp) (World.ownsRow_nil _ _ _ _) D6.out
      · have m0 : (y == 0) = false := by rw [beq_eq_false_iff_ne]; exact n0
        have m1 : (y == 1) = false := by rw [beq_eq_false_iff_ne]; exact n1
        have m2 : (y == 2) = false := by rw [beq_eq_false_iff_ne]; exact n2
        have m3 : (y == 3) = false := by rw [beq_eq_false_iff_ne]; exact n3
        obtain ⟨r1, r2⟩ := bk_at K6.out
        have r0 : w6.cell? ⟨w0.heap.size, 0, none⟩ = some (.slice none 0 0) := r1 0
        clear r1
        go_wp2
        (try simp only [Exit.inBlock, Exit.then])
        refine ret_lay rfl rfl rfl (bk_set K6.out 0 _ _ rfl) ⟨_, _, _, rfl⟩ ?_
        exact Fin.out _ L A6 c6 (by omega) O6.out D6.out
end Go.Proofs.Ytooifamckccadaa
