/- Draws of groups. -/
import Derived.Test.YtdjbbjehgfkefaaUd
import Derived.Test.YtdjbbjehgfkefaaGy
namespace Go.Proofs.Ytdjbbjehgfkefaa
open Go.ChangeShapes Go.WideShapes Go.ChangeAt Go.RowKit
set_option maxRecDepth 20000
set_option linter.unusedVariables false
set_option linter.unusedSimpArgs false
theorem infoSl : (Try.prog.info? 24).map (fun i => (i.zero, i.size, i.bytes)) = some (some (.slice none 0 0), 1, 24) := by kernel_rfl
/-- v is a row of the call's own whose elements are rows of its own -/
def GOwn (w : World) (base : Nat) (v : Value) (G : List (List Int)) : Prop :=
  ∃ hs, w.ownsRow base 24 1 v G.length hs ∧ ∀ (k : Nat) (l : List Int), G[k]? = some l → ∃ A' c', hs[k]? = some (.slice A' l.length c') ∧ w.ownsRow base 2 1 (.slice A' l.length c') l.length (ints l)
theorem own_types {w : World} {b1 b2 : Nat} {e1 e2 : TypeId} {s1 s2 n m : Nat} {v u : Value} {xs ys : List Value} (h1 : w.ownsRow b1 e1 s1 v n xs) (h2 : w.ownsRow b2 e2 s2 u m ys) (he : e1 ≠ e2) : ∀ b, u.ownBlock = some b → v.ownBlock ≠ some b := by
  intro b hu hv
  rcases h1.2 with ⟨rfl, _⟩ | ⟨g, cap, cur, rfl, _, hh, _⟩
  · cases hv
  · rcases h2.2 with ⟨rfl, _⟩ | ⟨g', cap', cur', rfl, _, hh', _⟩
    · cases hu
    · cases hu
      cases hv
      rw [hh] at hh'
      injection hh' with hq
      injection hq with _ hq2
      exact he hq2
section
variable {w w' : World} {base : Nat} {v : Value} {G : List (List Int)}
theorem GOwn.apart {row : Option Nat} (h : GOwn w base v G) (hg : w.grownBy w' row) (hne : ∀ k, row = some k → k < base) : GOwn w' base v G := by
  obtain ⟨hs, h1, h2⟩ := h
  exact ⟨hs, own_apart h1 hg hne, fun k l hk => by obtain ⟨A', c', h3, h4⟩ := h2 k l hk; exact ⟨A', c', h3, own_apart h4 hg hne⟩⟩
theorem GOwn.alloc (h : GOwn w base v G) (o : Obj) : GOwn (w.alloc o) base v G := h.apart (World.grownBy_alloc w o none) (fun k hk => by cases hk)
theorem GOwn.keepB (h : GOwn w base v G) (hb : Below w.heap.size w w') : GOwn w' base v G := h.apart (grownBy_below (row := none) hb) (fun k hk => by cases hk)
theorem GOwn.set (h : GOwn w base v G) {b : Nat} (hb : b < base) (j : Nat) (u : Value) : GOwn (w.setCell ⟨b, j, none⟩ u) base v G := h.apart (grownBy_set w b j u) (fun k hk => by injection hk with hk; omega)
theorem GOwn.val (h : GOwn w base v G) : ∃ A c, v = .slice A G.length c := by obtain ⟨hs, h1, _⟩ := h; exact own_val h1
theorem GOwn.rd {A : Option Addr} {c : Nat} (h : GOwn w base (.slice A G.length c) G) : RdG w w.heap.size A G := by
  obtain ⟨hs, h1, h2⟩ := h
  exact ⟨hs, by have := h1.1; omega, Rd.of_own h1, fun k l hk => by obtain ⟨A', c', h3, h4⟩ := h2 k l hk; exact ⟨A', c', h3, Rd.of_own h4⟩⟩
end
theorem wpList_append_grp {w : World} {ops : Array Oper} {rest : List Oper} {o : Oper} {a : Act} {Q : Exit → Act → World → Prop} (hgd : o.guard = none) (s x : Operand)
    (ho : o.op = .call { callee := .builtin .append, args := #[s, x], argTypes := #[33, 33] }) (base : Nat) (i : TypeInfo) (hi : Try.prog.info? 24 = some i) (hz : i.zero = some (.slice none 0 0)) (hsize : i.size = 1) (hby : i.bytes = 24)
    (v : Value) (G : List (List Int)) (hs : a.eval s = v) (h : GOwn w base v G) (l : List Int) (A' : Option Addr) (c' : Nat) (hl : w.ownsRow base 2 1 (.slice A' l.length c') l.length (ints l))
    (hx : a.eval x = .slice (some ⟨w.heap.size, 0, none⟩) 1 1) (hn : G.length ≤ 1048576) (hbase : base ≤ w.heap.size)
    (hk : ∀ v' w', GOwn w' base v' (G ++ [l]) → Below base w w' → w.heap.size < w'.heap.size → wpList Try.prog ops Q rest (a.put o.dst v') w') : wpList Try.prog ops Q (o :: rest) a (w.alloc (.cells #[.slice A' l.length c'] 24)) := by
  obtain ⟨hh, h1, h2⟩ := h
  refine wpList_append_own _ hgd s x 33 ho base 24 i (.slice none 0 0) 1 24 Try.underlying33 hi hz hsize hby rfl (by decide) v G.length hh hs (h1.alloc _) ⟨w.heap.size, 0, none⟩ 1 1 [.slice A' l.length c'] hx rfl (one_new _ _ _) (by simp [Value.oneCell']) (by unfold maxLen; omega) (by omega) (by simp; omega) ?_
  intro v' w' k1 k2 _
  refine hk v' w' ⟨hh ++ [.slice A' l.length c'], by simpa using k1, fun k l' hk' => ?_⟩ (((Below.refl _ _).alloc hbase _).trans ((Below.refl base _).grown k2 (by simp; omega) (fun k hk => (h1.lt k hk).1))) (by have := k2.size; simp at this; omega)
  have hlen : hh.length = G.length := by have := h1.1; omega
  by_cases hlt : k < G.length
  · rw [List.getElem?_append_left hlt] at hk'
    obtain ⟨B', d', h3, h4⟩ := h2 k l' hk'
    refine ⟨B', d', by rw [List.getElem?_append_left (by omega)]; exact h3, ?_⟩
    refine (h4.alloc (.cells #[.slice A' l.length c'] 24)).kept k2 ?_
    cases hb : (Value.slice B' l'.length d').ownBlock with
    | none => exact .inl rfl
    | some b => exact .inr (fun e => own_types h1 h4 (by decide) b hb e.symm)
  · have hkG : k = G.length := by
      have := (List.getElem?_eq_some_iff.1 hk').1
      rw [List.length_append] at this
      simp at this; omega
    subst hkG
    rw [List.getElem?_append_right (Nat.le_refl _)] at hk'
    simp at hk'
    subst hk'
    refine ⟨A', c', by rw [List.getElem?_append_right (by omega), hlen]; simp, ?_⟩
    refine (hl.alloc (.cells #[.slice A' l.length c'] 24)).kept k2 ?_
    cases hb : (Value.slice A' l.length c').ownBlock with
    | none => exact .inl rfl
    | some b => exact .inr (fun e => own_types h1 hl (by decide) b hb e.symm)
theorem gown_nils {w : World} {base n g c : Nat} (h : w.ownsRow base 24 1 (.slice (some ⟨g, 0, none⟩) n c) n (List.replicate n (.slice none 0 0))) : GOwn w base (.slice (some ⟨g, 0, none⟩) n c) (List.replicate n []) := by
  refine ⟨List.replicate n (.slice none 0 0), by rw [List.length_replicate]; exact h, fun k l hk => ⟨none, 0, ?_, ?_⟩⟩
  · rw [List.getElem?_replicate] at hk ⊢
    split at hk
    · rename_i hlt
      cases hk
      rw [if_pos hlt]; rfl
    · cases hk
  · rw [List.getElem?_replicate] at hk
    split at hk
    · cases hk
      exact World.ownsRow_nil _ _ _ _
    · cases hk
def GrpDP (w0 : World) (e : Ending) (w' : World) : Prop :=
  ∃ (x y z : Int) (G : List (List Int)) (A : Option Addr) (c : Nat) (n : Int), e = .returned (.tuple #[.agg #[.int .i64 x, .int .i64 y, .int .i64 z], .slice A G.length c, .int .i64 n]) ∧ G.length ≤ 25 ∧ (∀ l ∈ G, l.length ≤ 25) ∧ 0 ≤ n ∧ n ≤ 13 ∧ RdG w' w'.heap.size A G ∧ Below w0.heap.size w0 w'
set_option maxHeartbeats 4000000 in
theorem drawGroups_any (bl : List Int) (hbl : isU8 bl) (hn : bl.length ≤ 4096) (C : Option Addr) (cap : Nat) (w0 : World) (hr : Rd w0 w0.heap.size C (bytesU bl)) :
   Calls Try.prog 21 #[.slice C bl.length cap] w0 (GrpDP w0) := by
  obtain ⟨i0, hi0, hz0, hzz1, hzz2⟩ := info_parts infoSl
  have hra := hr.alloc (Nat.le_refl _) (.cells #[.int .i64 0, .int .i64 0, .int .i64 0] 27)
  have HF : Hid (Calls Try.prog 46 #[.slice C bl.length cap] (w0.alloc (.cells #[.int .i64 0, .int .i64 0, .int .i64 0] 27)) (fun e w' => ∃ g : Nat, w0.heap.size + 1 ≤ g ∧ e = .returned (.pointer (some ⟨g, 0, none⟩)) ∧ Src w' g C bl.length cap ∧ Below (w0.heap.size + 1) (w0.alloc (.cells #[.int .i64 0, .int .i64 0, .int .i64 0] 27)) w' ∧ g < w'.heap.size)) := Lib.hid
    ((l01From_any bl hbl hn C w0.heap.size cap _ hra (by simp)).mono fun e w' ⟨a, b, c, d⟩ => ⟨_, by simp, a, b, by simpa using c, d⟩)
  have Hr := Lib.hid hra
  have K0 := Lib.hid (bk_new w0 #[.int .i64 0, .int .i64 0, .int .i64 0] 27)
  have Ba := Lib.hid ((Below.refl w0.heap.size w0).alloc (Nat.le_refl _) (.cells #[.int .i64 0, .int .i64 0, .int .i64 0] 27))
  have Hbl := Lib.hid hbl
  clear hr hbl hra
  go_enter Try.func21, Try.ntmps21
  go_wp2_with fail
  refine HF.out.mono ?_
  rintro e w1 ⟨g, hg, rfl, hs, hb, hz⟩
  have D1 := Lib.hid (DS.start (Hr.out.below hb (by omega)) hs (by omega) Hbl.out hn)
  have K1 := Lib.hid (bk_below K0.out hb (by omega))
  have B1 := Lib.hid (Ba.out.trans (hb.mono (by omega)))
  have hz1 : w0.heap.size + 1 ≤ w1.heap.size := by omega
  have hne0 : w0.heap.size ≠ g := by omega
  clear hs HF Hr hb K0 Ba hz
  go_wp2_with fail
  refine (l28DrawRule_any w1 g _ C cap bl D1.out).mono ?_
  rintro e w2 ⟨x, y, z, rfl, d2⟩
  have z2 := d2.size.1
  have zg := d2.size.2
  have K2 := Lib.hid (bk_alloc (bk_alloc (bk_apart K1.out d2.2.2.1 hne0) (.cells #[.int .i64 x, .int .i64 y, .int .i64 z] 27)) (.cells #[] 24))
  have L2 := Lib.hid (bk_alloc (bk_new w2 #[.int .i64 x, .int .i64 y, .int .i64 z] 27) (.cells #[] 24))
  have D2 := Lib.hid ((d2.alloc (.cells #[.int .i64 x, .int .i64 y, .int .i64 z] 27)).alloc (.cells #[] 24))
  have B2 := Lib.hid ((((B1.out.trans (below_of_grownBy (B := w0.heap.size) d2.2.2.1 (by omega) (fun k hk => by injection hk with hk; omega)))).alloc (by omega) (.cells #[.int .i64 x, .int .i64 y, .int .i64 z] 27)).alloc (by simp; omega) (.cells #[] 24))
  have hwz : w2.heap.size + 1 < ((w2.alloc (.cells #[.int .i64 x, .int .i64 y, .int .i64 z] 27)).alloc (.cells #[] 24)).heap.size := by simp
  have O2 : Hid (GOwn ((w2.alloc (.cells #[.int .i64 x, .int .i64 y, .int .i64 z] 27)).alloc (.cells #[] 24)) (w2.heap.size + 1) (.slice (some ⟨w2.heap.size + 1, 0, none⟩) 0 0) []) := Lib.hid ⟨[], by simpa using (World.ownsRow_made (base := w2.heap.size + 1) (e := 24) (size := 1) (w2.alloc (.cells #[.int .i64 x, .int .i64 y, .int .i64 z] 27)) #[] 0 (by simp) (by simp [maxLen]) rfl), fun k l hk => by simp at hk⟩
  have hgb : g < w2.heap.size := by omega
  clear d2 K1 D1 B1
  go_wp2_with fail
  generalize hW : ((w2.alloc (.cells #[.int .i64 x, .int .i64 y, .int .i64 z] 27)).alloc (.cells #[] 24)) = W at *
  clear hW
  generalize w2.heap.size = bb at *
  refine (next_ds D2.out 6).mono ?_
  rintro e w3 ⟨q, rfl, q0, q1, d3, g3⟩
  have z3 := g3.size
  have K3 := Lib.hid (bk_apart K2.out g3 hne0)
  have X3 := Lib.hid (bk_apart L2.out g3 (by omega))
  have O3 := Lib.hid (O2.out.apart g3 (fun k hk => by injection hk with hk; omega))
  have B3 := Lib.hid (B2.out.trans (below_of_grownBy (B := w0.heap.size) g3 (by omega) (fun k hk => by injection hk with hk; omega)))
  have D3 := Lib.hid d3
  have q5 : q ≤ 5 := by omega
  have hb0w : w0.heap.size < bb := by omega
  have hb0 : bb ≠ w0.heap.size := by omega
  have hb1 : w0.heap.size ≠ bb := by omega
  clear d3 g3 q1 K2 L2 O2 B2 D2
  go_wp2_with fail
  go_loopw [7, 8] (fun v i wr => ∃ (G : List (List Int)) (q : Int), i = .int .i64 q ∧ 0 ≤ q ∧ (G.length : Int) + q ≤ 5 ∧ (∀ l ∈ G, l.length ≤ 25) ∧ GOwn wr (bb + 1) v G ∧ Bk wr w0.heap.size #[.int .i64 0, .int .i64 0, .int .i64 0] ∧ Bk wr bb #[.int .i64 x, .int .i64 y, .int .i64 z] ∧ DS w1 wr g w0.heap.size C cap bl ∧ Below w0.heap.size w0 wr) (fun _ i _ => (intOf i).toNat)
  case atStart => exact ⟨[], q, rfl, q0, by simpa using q5, (fun l hl => by cases hl), O3.out, K3.out, X3.out, D3.out, B3.out⟩
  case round =>
    clear O3 K3 X3 D3 B3 q0 q5
    obtain ⟨G, q, rfl, q0, q5, hGe, hO, hK, hX, hD, hB⟩ := hrel
    have HO := Lib.hid hO
    have HK := Lib.hid hK
    have HX := Lib.hid hX
    have HD := Lib.hid hD
    have HB := Lib.hid hB
    have HGe := Lib.hid hGe
    have hsz := hD.size.1
    have hxl := bk_lt hX
    obtain ⟨c0, c1, c2, cf, cs⟩ := bk3 hX
    clear hO hK hX hD hB hGe
    by_cases hlt : 0 < q
    · have hd : decide ((0 : Int) < q) = true := decide_eq_true hlt
      go_wp2_with fail
      clear c0 c1 c2 cf cs
      refine (l28DrawHeights_any _ g _ C cap bl x y z 4 (by omega) (by omega) HD.out.again).mono ?_
      rintro e w6 ⟨l, A, c, rfl, hl, ol, d6⟩
      have g6 := d6.2.2.1
      have z6 := g6.size
      have O6 := Lib.hid (HO.out.apart g6 (fun k hk => by injection hk with hk; omega))
      have K6 := Lib.hid (bk_apart HK.out g6 hne0)
      have X6 := Lib.hid (bk_apart HX.out g6 (by omega))
      have D6 := Lib.hid (HD.out.join d6)
      have B6 := Lib.hid (HB.out.trans (below_of_grownBy (B := w0.heap.size) g6 (by omega) (fun k hk => by injection hk with hk; omega)))
      have L6 := Lib.hid (own_more ol (show bb + 1 ≤ wr.heap.size by omega))
      clear d6 g6 ol HO HK HX HD HB
      go_wp2_with (at_builtin; refine wpList_append_grp rfl (.tmp 20) (.tmp 24) rfl (bb + 1) i0 hi0 hz0 hzz1 hzz2 _ G rfl O6.out l A c L6.out rfl (by omega) (by omega) ?_; intro v5 w7 own5 hb5 hz5; have O7 := Lib.hid own5)
      go_roundw
      case rel =>
        exact ⟨G ++ [l], q - 1, by go_num, by omega, by simp; omega, fun t ht => by
          rcases List.mem_append.1 ht with ht | ht
          · exact HGe.out t ht
          · simp at ht; rw [ht]; exact hl, O7.out, bk_below K6.out hb5 (by omega), bk_below X6.out hb5 (by omega), D6.out.below (hb5.mono (by omega)), B6.out.trans (hb5.mono (by omega))⟩
      case measure => simp [intOf]; omega
    · have hd : decide ((0 : Int) < q) = false := decide_eq_false hlt
      clear c0 c1 c2 cf cs
      go_wp2_with fail
      refine (next_ds HD.out 60).mono ?_
      rintro e w6 ⟨r, rfl, r0, r1, d6, g6⟩
      have z6 := g6.size
      have O6 := Lib.hid (HO.out.apart g6 (fun k hk => by injection hk with hk; omega))
      have K6 := Lib.hid (bk_apart HK.out g6 hne0)
      have X6 := Lib.hid (bk_apart HX.out g6 (by omega))
      have D6 := Lib.hid d6
      have B6 := Lib.hid (HB.out.trans (below_of_grownBy (B := w0.heap.size) g6 (by omega) (fun k hk => by injection hk with hk; omega)))
      clear d6 g6 r1 HO HK HX HD HB
      by_cases hr0 : r = 0
      · subst hr0
        go_wp2_with fail
        refine (next_ds D6.out 2).mono ?_
        rintro e w7 ⟨t, rfl, t0, t1, d7, g7⟩
        have z7 := g7.size
        have K7 := Lib.hid (bk_apart K6.out g7 hne0)
        have X7 := Lib.hid (bk_apart X6.out g7 (by omega))
        have D7 := Lib.hid d7
        have B7 := Lib.hid (B6.out.trans (below_of_grownBy (B := w0.heap.size) g7 (by omega) (fun k hk => by injection hk with hk; omega)))
        have t2 : t ≤ 1 := by omega
        clear d7 g7 t1 O6 K6 X6 D6 B6
        obtain ⟨N, hN⟩ : ∃ N : Nat, 24 + t = (N : Int) := ⟨(24 + t).toNat, by omega⟩
        have hN25 : N ≤ 25 := by omega
        obtain ⟨W9, xs, hmk, hown, hxs, hb9, hz9⟩ := mk_own (P := Try.prog) 33 24 i0 _ 1 24 Try.underlying33 hi0 hz0 hzz1 hzz2 .i64 .i64 N (by omega) (by unfold maxLen; omega) (bb + 1) w7 (by omega)
        have hxs2 : xs = List.replicate N (.slice none 0 0) := by rw [hxs, Nat.mul_one]; exact toList_madeCells_one _ _
        have O9 := Lib.hid (show GOwn W9 (bb + 1) (.slice (some ⟨w7.heap.size, 0, none⟩) (List.replicate N ([] : List Int)).length N) (List.replicate N []) by rw [List.length_replicate]; exact gown_nils (hxs2 ▸ hown))
        have K9 := Lib.hid (bk_below K7.out hb9 (bk_lt K7.out))
        have X9 := Lib.hid (bk_below X7.out hb9 (bk_lt X7.out))
        have D9 := Lib.hid (D7.out.below (hb9.mono (by omega)))
        have B9 := Lib.hid (B7.out.trans (hb9.mono (by omega)))
        have hsz9 := hb9.size
        have hGl : (List.replicate N ([] : List Int)).length ≤ 25 := by simp; omega
        have hGe : ∀ l ∈ List.replicate N ([] : List Int), l.length ≤ 25 := fun l hl => by rw [List.eq_of_mem_replicate hl]; simp
        clear hxs hxs2 hown hb9 K7 X7 D7 B7
        go_wp2_with fail
        obtain ⟨q0, q1, q2, qf, qs⟩ := bk3 X9.out
        obtain ⟨r0, r1, r2, rf, rs⟩ := bk3 K9.out
        go_region_held3 (fun w' => w'.cell? ⟨bb, 0, none⟩ = some (.int .i64 x) ∧ w'.cell? ⟨bb, 1, none⟩ = some (.int .i64 y) ∧ w'.cell? ⟨bb, 2, none⟩ = some (.int .i64 z)) (first | assumption | (simp [*, World.cell?_alloc_past, World.cell?_setCell_far])) (first | (go_at_call 50; refine (l28DrawRows_any _ g _ C cap bl D9.out.drew.again).mono ?_; rintro e u9 ⟨n, rfl, n0, n1, d9, g9'⟩; have g9 : W9.grownBy u9 (some g) := (by exact ⟨g9'.os, g9'.tape, g9'.output, g9'.size, g9'.block⟩); have OA := Lib.hid (O9.out.apart g9 (fun k hk => by injection hk with hk; omega)); have KA := Lib.hid (bk_apart K9.out g9 hne0); have XA := Lib.hid (bk_apart X9.out g9 (by omega)); have BA := Lib.hid (B9.out.trans (below_of_grownBy (B := w0.heap.size) g9 (by omega) (fun k hk => by injection hk with hk; omega))); clear d9 g9 g9'; obtain ⟨q0, q1, q2, qf, qs⟩ := bk3 XA.out; obtain ⟨r0, r1, r2, rf, rs⟩ := bk3 KA.out))
        all_goals (
          go_wp2
          (try simp only [Exit.inBlock, Exit.then])
          refine ret_useD rfl rfl rfl rfl rfl (bk_fill3 KA.out _ _ _) ?_
          exact ⟨x, y, z, (List.replicate N []), some ⟨w7.heap.size, 0, none⟩, N, n, (by simp), hGl, hGe, n0, n1, (((OA.out.set (by omega) 0 _).set (by omega) 1 _).set (by omega) 2 _).rd, ((BA.out.setCell (Nat.le_refl _) _).setCell (Nat.le_refl _) _).setCell (Nat.le_refl _) _⟩)
      · have br : (r == 0) = false := by rw [beq_eq_false_iff_ne]; exact hr0
        clear hr0
        obtain ⟨A5, c5, rfl⟩ := O6.out.val
        have O9 := Lib.hid O6.out
        have K9 := Lib.hid K6.out
        have X9 := Lib.hid X6.out
        have D9 := Lib.hid D6.out
        have B9 := Lib.hid B6.out
        have hGl : G.length ≤ 25 := by omega
        have hGe := HGe.out
        clear O6 K6 X6 D6 B6
        go_wp2_with fail
        generalize w6 = W9 at *
        obtain ⟨q0, q1, q2, qf, qs⟩ := bk3 X9.out
        obtain ⟨r0, r1, r2, rf, rs⟩ := bk3 K9.out
        go_region_held3 (fun w' => w'.cell? ⟨bb, 0, none⟩ = some (.int .i64 x) ∧ w'.cell? ⟨bb, 1, none⟩ = some (.int .i64 y) ∧ w'.cell? ⟨bb, 2, none⟩ = some (.int .i64 z)) (first | assumption | (simp [*, World.cell?_alloc_past, World.cell?_setCell_far])) (first | (go_at_call 50; refine (l28DrawRows_any _ g _ C cap bl D9.out.drew.again).mono ?_; rintro e u9 ⟨n, rfl, n0, n1, d9, g9'⟩; have g9 : W9.grownBy u9 (some g) := (by exact ⟨g9'.os, g9'.tape, g9'.output, g9'.size, g9'.block⟩); have OA := Lib.hid (O9.out.apart g9 (fun k hk => by injection hk with hk; omega)); have KA := Lib.hid (bk_apart K9.out g9 hne0); have XA := Lib.hid (bk_apart X9.out g9 (by omega)); have BA := Lib.hid (B9.out.trans (below_of_grownBy (B := w0.heap.size) g9 (by omega) (fun k hk => by injection hk with hk; omega))); clear d9 g9 g9'; obtain ⟨q0, q1, q2, qf, qs⟩ := bk3 XA.out; obtain ⟨r0, r1, r2, rf, rs⟩ := bk3 KA.out))
        all_goals (
          go_wp2
          (try simp only [Exit.inBlock, Exit.then])
          refine ret_useD rfl rfl rfl rfl rfl (bk_fill3 KA.out _ _ _) ?_
          exact ⟨x, y, z, G, A5, c5, n, rfl, hGl, hGe, n0, n1, (((OA.out.set (by omega) 0 _).set (by omega) 1 _).set (by omega) 2 _).rd, ((BA.out.setCell (Nat.le_refl _) _).setCell (Nat.le_refl _) _).setCell (Nat.le_refl _) _⟩)
end Go.Proofs.Ytdjbbjehgfkefaa
