/- RunCommands of the program and of the reference: walks. -/
import Derived.Test.YtakchdkoildkbaaDoorRn
import Derived.Test.YtakchdkoildkbaaDoorI
namespace Go.Proofs.YtakchdkoildkbaaDoor
open Go.ChangeShapes Go.WideShapes Go.ChangeAt Go.RowKit
set_option maxRecDepth 20000
set_option linter.unusedVariables false
set_option linter.unusedSimpArgs false
theorem wpList_append_intg {P : Program} {w : World} {ops : Array Oper} {rest : List Oper} {o : Oper} {a : Act} {Q : Exit → Act → World → Prop} (hgd : o.guard = none) (s x : Operand) (t : TypeId)
    (ho : o.op = .call { callee := .builtin .append, args := #[s, x], argTypes := #[t, t] })
    (base : Nat) (e : TypeId) (i : TypeInfo) (ht : P.underlying t = some (.slice e)) (hi : P.info? e = some i) (hz : i.zero = some (.int .i64 0)) (hsize : i.size = 1) (hby : i.bytes = 8)
    (v : Value) (n : Nat) (l : List Int) (hs : a.eval s = v) (hown : w.ownsRow base e 1 v n (ints l)) (z : Int) (hx : a.eval x = .slice (some ⟨w.heap.size, 0, none⟩) 1 1)
    (hn : n ≤ 1048576) (hbase : base ≤ w.heap.size)
    (h : ∀ v' w', w'.ownsRow base e 1 v' (n + 1) (ints (l ++ [z])) → Below base w w' → w.heap.size < w'.heap.size → (w.alloc (.cells #[.int .i64 z] e)).grownBy w' v.ownBlock → wpList P ops Q rest (a.put o.dst v') w') : wpList P ops Q (o :: rest) a (w.alloc (.cells #[.int .i64 z] e)) :=
  wpList_append_own _ hgd s x t ho base e i (.int .i64 0) 1 8 ht hi hz hsize hby rfl (by decide) v n (ints l) hs (hown.alloc _) ⟨w.heap.size, 0, none⟩ 1 1 [.int .i64 z] hx rfl (one_new _ _ _) (by simp [Value.oneCell']) (by unfold maxLen; omega) (by omega) (by simp; omega)
    (fun v' w' h1 h2 _ => h v' w' (by simpa [ints] using h1) (((Below.refl _ _).alloc hbase _).trans ((Below.refl base _).grown h2 (by simp; omega) (fun k hk => (hown.lt k hk).1))) (by have := h2.size; simp at this; omega) h2)
theorem verdict_spec_r (k : Nat) (hk : k < 10) (m r : Int) (b : Bool) (v : Int) (hv : verd k m r b = v) (w : World) :
   Calls Tryd.prog 46 #[.int .i64 m, .agg #[.int .i64 k, .int .i64 r, .bool b]] w fun e w' => e = .returned (.int .i64 v) ∧ Below w.heap.size w w' := hv ▸ verdict_spec k hk m r b w
theorem next_spec (k : Nat) (hk : k < 10) (m r : Int) (b : Bool) (w : World) :
   Calls Tryd.prog 48 #[.int .i64 m, .agg #[.int .i64 k, .int .i64 r, .bool b]] w fun e w' => e = .returned (.int .i64 (nextK k m r b)) ∧ Below w.heap.size w w' := by
  have hn : nextK k m r b = if verd k m r b = 0 then toK k else m := rfl
  rw [hn]
  clear hn
  have HTo := Lib.hid (l27To_any k hk)
  generalize hv : verd k m r b = v
  have Hv := Lib.hid hv
  clear hv
  generalize toK k = t at *
  by_cases hz : v = 0
  · subst hz
    go_enter Tryd.func48, Tryd.ntmps48
    go_wp2_with (first | (go_at_call 46; refine (verdict_spec_r k hk m r b 0 Hv.out _).mono ?_; rintro e w1 ⟨rfl, hb1⟩; obtain ⟨hc1, hf1, hs1⟩ := bstep (N := w.heap.size + 1) (by go_size) hb1; have hy1 : w.heap.size < w1.heap.size := hs1) | (go_at_call 63; refine (HTo.out _).mono ?_; rintro e w2 ⟨rfl, hb2⟩; have hs2 := hb2.size))
    go_ret
    exact ⟨rfl, by repeat' (first | (with_reducible exact Below.refl _ _) | (with_reducible assumption) | (with_reducible refine Below.alloc ?_ ?_ _) | (with_reducible refine Below.drew ?_) | (with_reducible refine below_drewN ?_ _) | (with_reducible refine Below.setCell ?_ ?_ _) | (with_reducible refine Below.trans ?_ (Below.mono (by assumption) ?_)) | go_size | (exact Below.size (by assumption)))⟩
  · have hzb : (v == 0) = false := by rw [beq_eq_false_iff_ne]; exact hz
    rw [if_neg hz]
    go_enter Tryd.func48, Tryd.ntmps48
    go_wp2_with (go_at_call 46; refine (verdict_spec_r k hk m r b v Hv.out _).mono ?_; rintro e w1 ⟨rfl, hb1⟩; have hs1 := hb1.size)
    go_ret
    exact ⟨rfl, by repeat' (first | (with_reducible exact Below.refl _ _) | (with_reducible assumption) | (with_reducible refine Below.alloc ?_ ?_ _) | (with_reducible refine Below.drew ?_) | (with_reducible refine below_drewN ?_ _) | (with_reducible refine Below.setCell ?_ ?_ _) | (with_reducible refine Below.trans ?_ (Below.mono (by assumption) ?_)) | go_size | (exact Below.size (by assumption)))⟩
set_option maxHeartbeats 2000000 in
theorem run_impl (l : List Cmd) (m : Int) (A : Option Addr) (B c : Nat) (w : World) (hr : Rd w B A (l.flatMap eCommand)) (hB : B ≤ w.heap.size) (hn : l.length ≤ 1048576) (hT : Rd w B (some ⟨0, 0, none⟩) tabL) :
   Calls Tryd.prog 22 #[.int .i64 m, .slice A l.length c] w fun e w' => ∃ A' c', e = .returned (.tuple #[.int .i64 (rnM l m), .slice A' (rnR l m).length c', .int .i64 (rnC l m)]) ∧ w'.ownsRow w.heap.size 2 1 (.slice A' (rnR l m).length c') (rnR l m).length (ints (rnR l m)) ∧ Below w.heap.size w w' := by
  obtain ⟨i0, hi0, hz0, hz1, hz2⟩ := info_parts infoInt64
  rcases rn_cases l m with ⟨h, h1, h2, h3⟩ | ⟨h, ha, h1, h2, h3⟩ | ⟨h, ha, hq, h1, h2, h3⟩ | ⟨h, ha, hq, h1, h2, h3⟩
  · rw [h1, h2, h3]
    clear h1 h2 h3
    go_enter Tryd.func22, Tryd.ntmps22
    go_wp2
    refine bodyPost_ret (v := .tuple #[.int .i64 (0), .slice none 0 0, .int .i64 (3)]) (by simp [results, Tryd.results22, go_sem, *]) rfl ?_
    exact ⟨none, 0, rfl, World.ownsRow_nil _ _ _ _, by repeat' (first | (with_reducible exact Below.refl _ _) | (with_reducible assumption) | (with_reducible refine Below.alloc ?_ ?_ _) | (with_reducible refine Below.drew ?_) | (with_reducible refine below_drewN ?_ _) | (with_reducible refine Below.setCell ?_ ?_ _) | (with_reducible refine Below.trans ?_ (Below.mono (by assumption) ?_)) | go_size | (exact Below.size (by assumption)))⟩
  · rw [h1, h2, h3]
    have Ha := Lib.hid ha
    have Hq := Lib.hid (rfl : inB m 0 5 = inB m 0 5)
    clear h1 h2 h3 ha
    go_enter Tryd.func22, Tryd.ntmps22
    go_wp2_with (go_at_call 43; refine (cmdCode_any l m 1 false _ Ha.out Hq.out rfl A B c _ hr hB hn).mono ?_; rintro e w1 ⟨rfl, hb1⟩; have hs1 := hb1.size)
    refine bodyPost_ret (v := .tuple #[.int .i64 (0), .slice none 0 0, .int .i64 (1)]) (by simp [results, Tryd.results22, go_sem, *]) rfl ?_
    exact ⟨none, 0, rfl, World.ownsRow_nil _ _ _ _, by repeat' (first | (with_reducible exact Below.refl _ _) | (with_reducible assumption) | (with_reducible refine Below.alloc ?_ ?_ _) | (with_reducible refine Below.drew ?_) | (with_reducible refine below_drewN ?_ _) | (with_reducible refine Below.setCell ?_ ?_ _) | (with_reducible refine Below.trans ?_ (Below.mono (by assumption) ?_)) | go_size | (exact Below.size (by assumption)))⟩
  · rw [h1, h2, h3]
    have Ha := Lib.hid ha
    have Hq := Lib.hid hq
    clear h1 h2 h3 ha hq
    go_enter Tryd.func22, Tryd.ntmps22
    go_wp2_with (go_at_call 43; refine (cmdCode_any l m 2 true false Ha.out Hq.out rfl A B c _ hr hB hn).mono ?_; rintro e w1 ⟨rfl, hb1⟩; have hs1 := hb1.size)
    refine bodyPost_ret (v := .tuple #[.int .i64 (0), .slice none 0 0, .int .i64 (2)]) (by simp [results, Tryd.results22, go_sem, *]) rfl ?_
    exact ⟨none, 0, rfl, World.ownsRow_nil _ _ _ _, by repeat' (first | (with_reducible exact Below.refl _ _) | (with_reducible assumption) | (with_reducible refine Below.alloc ?_ ?_ _) | (with_reducible refine Below.drew ?_) | (with_reducible refine below_drewN ?_ _) | (with_reducible refine Below.setCell ?_ ?_ _) | (with_reducible refine Below.trans ?_ (Below.mono (by assumption) ?_)) | go_size | (exact Below.size (by assumption)))⟩
  · rw [h1, h2, h3]
    have Ha := Lib.hid ha
    have Hq := Lib.hid hq
    have HR := Lib.hid (mode_range ha (m := m) (by unfold inB at hq; simpa using hq))
    have Hlen := Lib.hid (verdUp_length (l := l) (m := m) l.length (Nat.le_refl _))
    clear h1 h2 h3 ha hq
    go_enter Tryd.func22, Tryd.ntmps22
    go_wp2_with (go_at_call 43; refine (cmdCode_any l m 0 true true Ha.out Hq.out rfl A B c _ hr hB hn).mono ?_; rintro e w1 ⟨rfl, hb1⟩; have hs1 := hb1.size)
    go_loopw [0, 8, 22] (fun mv v i wr => ∃ k : Nat, k ≤ l.length ∧ mv = .int .i64 (modeAt l m k) ∧ i = .int .i64 k ∧ wr.ownsRow w.heap.size 2 1 v k (ints (verdUp l m k)) ∧ Below w.heap.size w wr) (fun _ _ i _ => l.length - (intOf i).toNat)
    case atStart => exact ⟨0, Nat.zero_le _, rfl, rfl, World.ownsRow_nil _ _ _ _, by repeat' (first | (with_reducible exact Below.refl _ _) | (with_reducible assumption) | (with_reducible refine Below.alloc ?_ ?_ _) | (with_reducible refine Below.drew ?_) | (with_reducible refine below_drewN ?_ _) | (with_reducible refine Below.setCell ?_ ?_ _) | (with_reducible refine Below.trans ?_ (Below.mono (by assumption) ?_)) | go_size | (exact Below.size (by assumption)))⟩
    case round =>
      obtain ⟨k, hk, rfl, rfl, hown, hbw⟩ := hrel
      have hsz := hbw.size
      obtain ⟨Ao, co, rfl⟩ := own_val hown
      by_cases hlt : k < l.length
      · have ht := List.getElem?_eq_getElem hlt
        generalize l[k] = t at ht
        obtain ⟨b, o, rfl, hbb, c0, c1, c2⟩ := (hr.below hbw hB).atCommand ht
        obtain ⟨n1, n2⟩ := cmdB_nat (all_atC Ha.out ht)
        obtain ⟨g1, g2⟩ := HR.out k
        have hs := modeAt_step (m := m) ht
        have hu := verdUp_step (m := m) ht
        obtain ⟨x1, x2, x3⟩ := t
        simp only at n1 n2 c0 c1 c2 hs hu
        generalize x1.toNat = q at n1 n2 hs hu
        subst n2
        have Hs := Lib.hid hs
        have Hu := Lib.hid hu
        have Ho := Lib.hid hown
        have HTr := Lib.hid (hT.below hbw hB)
        have Hr := Lib.hid hr
        have HT := Lib.hid hT
        have hbwr : b < wr.heap.size := by omega
        clear ht hs hu hown hr hT
        generalize hmm : modeAt l m k = mm at *
        generalize hnn : nextK q mm x2 x3 = nn at *
        generalize hvv : verd q mm x2 x3 = vv at *
        go_wp2_with (first | (go_at_call 44; refine (verdict_impl_r q n1 mm x2 x3 vv hvv g1 g2 _ B (by exact (HTr.out.alloc (by omega) _)) (by simp; omega)).mono ?_; rintro e w3 ⟨rfl, b1⟩; obtain ⟨hc1, hf1, hs1⟩ := bstep (N := wr.heap.size + 1) (by go_size) b1; have hy1 : wr.heap.size < w3.heap.size := hs1; have f0 : w3.cell? ⟨wr.heap.size, 0, none⟩ = some (.int .i64 q) := (hc1 _ _ (Nat.lt_succ_self _)).trans (by simp); have f1 : w3.cell? ⟨wr.heap.size, 1, none⟩ = some (.int .i64 x2) := (hc1 _ _ (Nat.lt_succ_self _)).trans (by simp); have f2 : w3.cell? ⟨wr.heap.size, 2, none⟩ = some (.bool x3) := (hc1 _ _ (Nat.lt_succ_self _)).trans (by simp); have O1 := Lib.hid (own_below (Ho.out.alloc _) b1); have T1 := Lib.hid ((HTr.out.alloc (by omega) _).below b1 (by simp; omega))) | (at_builtin; go_loud (refine wpList_append_intg rfl (.tmp 26) (.tmp 30) 22 rfl w.heap.size 2 i0 Tryd.underlying22 hi0 hz0 hz1 hz2 _ _ (verdUp l m k) rfl O1.out _ rfl (by omega) (by omega) ?_); intro v2 w4 o2 hb2 hs2 gr; have O2 := Lib.hid o2; have e0 : w4.cell? ⟨wr.heap.size, 0, none⟩ = some (.int .i64 q) := grownBy_cell gr ((World.cell?_alloc_lt _ _ ⟨wr.heap.size, 0, none⟩ hy1).trans f0) (fun kk hkk => by have := (own_lt Ho.out kk hkk).2; omega); have e1 : w4.cell? ⟨wr.heap.size, 1, none⟩ = some (.int .i64 x2) := grownBy_cell gr ((World.cell?_alloc_lt _ _ ⟨wr.heap.size, 1, none⟩ hy1).trans f1) (fun kk hkk => by have := (own_lt Ho.out kk hkk).2; omega); have e2 : w4.cell? ⟨wr.heap.size, 2, none⟩ = some (.bool x3) := grownBy_cell gr ((World.cell?_alloc_lt _ _ ⟨wr.heap.size, 2, none⟩ hy1).trans f2) (fun kk hkk => by have := (own_lt Ho.out kk hkk).2; omega); have T2 := Lib.hid (T1.out.below hb2 hB); clear o2 gr) | (go_at_call 47; refine (next_impl q n1 mm x2 x3 g1 g2 _ B (by exact T2.out) (by omega)).mono ?_; rintro e w5 ⟨rfl, b3⟩; have hs3 := b3.size; have O3 := Lib.hid (own_below O2.out b3)))
        go_roundw
        case rel => exact ⟨k + 1, by omega, by first | rw [Hs.out, ← hnn] | rw [Hs.out, hnn] | rw [Hs.out], by go_num, by rw [Hu.out]; simpa using O3.out, by repeat' (first | (with_reducible exact Below.refl _ _) | (with_reducible assumption) | (with_reducible refine Below.alloc ?_ ?_ _) | (with_reducible refine Below.drew ?_) | (with_reducible refine below_drewN ?_ _) | (with_reducible refine Below.setCell ?_ ?_ _) | (with_reducible refine Below.trans ?_ (Below.mono (by assumption) ?_)) | go_size | (exact Below.size (by assumption)))⟩
        case measure => simp [intOf]; omega
      · have hk' : k = l.length := by omega
        subst hk'
        have Ho := Lib.hid hown
        clear hown hr hT
        go_wp2
        rw [Hlen.out]
        refine bodyPost_ret (v := .tuple #[.int .i64 (modeAt l m l.length), .slice Ao l.length co, .int .i64 (0)]) (by simp [results, Tryd.results22, go_sem, *]) rfl ?_
        exact ⟨Ao, co, rfl, Ho.out, hbw⟩
theorem all_stepC {l : List Cmd} {k : Nat} {t : Cmd} (h : l[k]? = some t) : (l.take (k + 1)).all okC = ((l.take k).all okC && okC t) := by
  have hl : k < l.length := (List.getElem?_eq_some_iff.1 h).1
  have : l[k] = t := by rw [List.getElem?_eq_getElem hl] at h; exact Option.some.inj h
  rw [List.take_succ_eq_append_getElem hl, List.all_append, this]; simp
theorem all_falseC {l : List Cmd} {k : Nat} {t : Cmd} (h : l[k]? = some t) (hp : okC t = false) : l.all okC = false := by
  rw [List.all_eq_false]
  exact ⟨t, List.mem_of_getElem? h, by simp [hp]⟩
set_option maxHeartbeats 4000000 in
theorem run_spec (l : List Cmd) (m : Int) (A : Option Addr) (B c : Nat) (w : World) (hr : Rd w B A (l.flatMap eCommand)) (hB : B ≤ w.heap.size) (hn : l.length ≤ 1048576) :
   Calls Tryd.prog 23 #[.int .i64 m, .slice A l.length c] w fun e w' => ∃ A' c', e = .returned (.tuple #[.int .i64 (rnM l m), .slice A' (rnR l m).length c', .int .i64 (rnC l m)]) ∧ w'.ownsRow w.heap.size 2 1 (.slice A' (rnR l m).length c') (rnR l m).length (ints (rnR l m)) ∧ Below w.heap.size w w' := by
  obtain ⟨i0, hi0, hz0, hz1, hz2⟩ := info_parts infoInt64
  by_cases h : 200 < l.length
  · have h1 : rnC l m = 3 := if_pos h
    rw [h1, show rnM l m = 0 by simp [rnM, h1], show rnR l m = [] by simp [rnR, h1]]
    go_enter Tryd.func23, Tryd.ntmps23
    go_wp2
    refine bodyPost_ret (v := .tuple #[.int .i64 (0), .slice none 0 0, .int .i64 (3)]) (by simp [results, Tryd.results23, go_sem, *]) rfl ?_
    exact ⟨none, 0, rfl, World.ownsRow_nil _ _ _ _, by repeat' (first | (with_reducible exact Below.refl _ _) | (with_reducible assumption) | (with_reducible refine Below.alloc ?_ ?_ _) | (with_reducible refine Below.drew ?_) | (with_reducible refine below_drewN ?_ _) | (with_reducible refine Below.setCell ?_ ?_ _) | (with_reducible refine Below.trans ?_ (Below.mono (by assumption) ?_)) | go_size | (exact Below.size (by assumption)))⟩
  have h' : l.length ≤ 200 := by omega
  have Hcs := Lib.hid (rn_cases l m)
  clear h
  go_enter Tryd.func23, Tryd.ntmps23
  go_wp2_with fail
  go_loopw [7] (fun i wr => ∃ k : Nat, k ≤ l.length ∧ i = .int .i64 k ∧ (l.take k).all okC = true ∧ Below w.heap.size w wr) (fun i _ => l.length - (intOf i).toNat)
  case atStart => exact ⟨0, Nat.zero_le _, rfl, by simp, Below.refl _ _⟩
  case round =>
    obtain ⟨k, hk, rfl, hall, hbw⟩ := hrel
    have hsz := hbw.size
    by_cases hlt : k < l.length
    · have ht := List.getElem?_eq_getElem hlt
      generalize l[k] = t at ht
      obtain ⟨b, o, rfl, hbb, c0, c1, c2⟩ := (hr.below hbw hB).atCommand ht
      have Ht := Lib.hid ht
      have Hall := Lib.hid hall
      have Hr := Lib.hid hr
      clear ht hall hr
      cases hp : cmdB t.1 t.2.1 with
      | false =>
        have Hp := Lib.hid hp
        clear hp
        go_wp2_with (go_at_call 20; refine (isCmd_spec_r _ _ _ false Hp.out _).mono ?_; rintro e w1 ⟨rfl, hb⟩; have hs1 := hb.size)
        have hf := all_falseC Ht.out Hp.out
        obtain ⟨g1, g2, g3⟩ : rnC l m = 1 ∧ rnM l m = 0 ∧ rnR l m = [] := by
          rcases Hcs.out with ⟨q, _⟩ | ⟨_, _, q1, q2, q3⟩ | ⟨_, q, _⟩ | ⟨_, q, _⟩
          · omega
          · exact ⟨q1, q2, q3⟩
          · rw [hf] at q; cases q
          · rw [hf] at q; cases q
        rw [g1, g2, g3]
        clear g1 g2 g3 hf
        refine bodyPost_ret (v := .tuple #[.int .i64 (0), .slice none 0 0, .int .i64 (1)]) (by simp [results, Tryd.results23, go_sem, *]) rfl ?_
        exact ⟨none, 0, rfl, World.ownsRow_nil _ _ _ _, by repeat' (first | (with_reducible exact Below.refl _ _) | (with_reducible assumption) | (with_reducible refine Below.alloc ?_ ?_ _) | (with_reducible refine Below.drew ?_) | (with_reducible refine below_drewN ?_ _) | (with_reducible refine Below.setCell ?_ ?_ _) | (with_reducible refine Below.trans ?_ (Below.mono (by assumption) ?_)) | go_size | (exact Below.size (by assumption)))⟩
      | true =>
        have Hp := Lib.hid hp
        clear hp
        go_wp2_with (go_at_call 20; refine (isCmd_spec_r _ _ _ true Hp.out _).mono ?_; rintro e w1 ⟨rfl, hb⟩; have hs1 := hb.size)
        go_roundw
        case rel => exact ⟨k + 1, by omega, by go_num, by rw [all_stepC Ht.out, Hall.out, okC, Hp.out]; rfl, by repeat' (first | (with_reducible exact Below.refl _ _) | (with_reducible assumption) | (with_reducible refine Below.alloc ?_ ?_ _) | (with_reducible refine Below.drew ?_) | (with_reducible refine below_drewN ?_ _) | (with_reducible refine Below.setCell ?_ ?_ _) | (with_reducible refine Below.trans ?_ (Below.mono (by assumption) ?_)) | go_size | (exact Below.size (by assumption)))⟩
        case measure => simp [intOf]; omega
    · have hk' : k = l.length := by omega
      subst hk'
      rw [List.take_length] at hall
      have Ha := Lib.hid hall
      clear hall
      cases hq : inB m 0 5 with
      | false =>
        have Hq := Lib.hid hq
        clear hq
        go_wp2_with (go_at_call 34; refine (l27Mode_r m false Hq.out _).mono ?_; rintro e w' ⟨rfl, rfl⟩)
        obtain ⟨g1, g2, g3⟩ : rnC l m = 2 ∧ rnM l m = 0 ∧ rnR l m = [] := by
          have ha := Ha.out
          have hq := Hq.out
          rcases Hcs.out with ⟨q, _⟩ | ⟨_, q, _⟩ | ⟨_, _, _, q1, q2, q3⟩ | ⟨_, _, q, _⟩
          · omega
          · rw [ha] at q; cases q
          · exact ⟨q1, q2, q3⟩
          · rw [hq] at q; cases q
        rw [g1, g2, g3]
        clear g1 g2 g3
        refine bodyPost_ret (v := .tuple #[.int .i64 (0), .slice none 0 0, .int .i64 (2)]) (by simp [results, Tryd.results23, go_sem, *]) rfl ?_
        exact ⟨none, 0, rfl, World.ownsRow_nil _ _ _ _, by repeat' (first | (with_reducible exact Below.refl _ _) | (with_reducible assumption) | (with_reducible refine Below.alloc ?_ ?_ _) | (with_reducible refine Below.drew ?_) | (with_reducible refine below_drewN ?_ _) | (with_reducible refine Below.setCell ?_ ?_ _) | (with_reducible refine Below.trans ?_ (Below.mono (by assumption) ?_)) | go_size | (exact Below.size (by assumption)))⟩
      | true =>
        have Hq := Lib.hid hq
        have HR := Lib.hid (mode_range Ha.out (m := m) (by unfold inB at hq; simpa using hq))
        have Hlen := Lib.hid (verdUp_length (l := l) (m := m) l.length (Nat.le_refl _))
        obtain ⟨g1, g2, g3⟩ : rnC l m = 0 ∧ rnM l m = modeAt l m l.length ∧ rnR l m = verdUp l m l.length := by
          have ha := Ha.out
          rcases Hcs.out with ⟨q, _⟩ | ⟨_, q, _⟩ | ⟨_, _, q, _⟩ | ⟨_, _, _, q1, q2, q3⟩
          · omega
          · rw [ha] at q; cases q
          · rw [hq] at q; cases q
          · exact ⟨q1, q2, q3⟩
        have G1 := Lib.hid g1
        have G2 := Lib.hid g2
        have G3 := Lib.hid g3
        clear g1 g2 g3 hq
        have hr1 := hr.below hbw hB
        clear hr
        go_wp2_with (go_at_call 34; refine (l27Mode_r m true Hq.out _).mono ?_; rintro e w' ⟨rfl, rfl⟩)
        obtain ⟨wo, hwo⟩ : ∃ x, x = wr := ⟨_, rfl⟩
        subst hwo
        go_loopw [0, 8, 9] (fun mv v i wr => ∃ k : Nat, k ≤ l.length ∧ mv = .int .i64 (modeAt l m k) ∧ i = .int .i64 k ∧ wr.ownsRow wo.heap.size 2 1 v k (ints (verdUp l m k)) ∧ Below wo.heap.size wo wr) (fun _ _ i _ => l.length - (intOf i).toNat)
        case atStart => exact ⟨0, Nat.zero_le _, rfl, rfl, World.ownsRow_made wo #[] 0 (Nat.le_refl _) (by simp [maxLen]) rfl, by repeat' (first | (with_reducible exact Below.refl _ _) | (with_reducible assumption) | (with_reducible refine Below.alloc ?_ ?_ _) | (with_reducible refine Below.drew ?_) | (with_reducible refine below_drewN ?_ _) | (with_reducible refine Below.setCell ?_ ?_ _) | (with_reducible refine Below.trans ?_ (Below.mono (by assumption) ?_)) | go_size | (exact Below.size (by assumption)))⟩
        case round =>
          obtain ⟨k, hk, rfl, rfl, hown, hbq⟩ := hrel
          have hsq := hbq.size
          obtain ⟨Ao, co, rfl⟩ := own_val hown
          by_cases hlt : k < l.length
          · have ht := List.getElem?_eq_getElem hlt
            generalize l[k] = t at ht
            obtain ⟨b, o, rfl, hbb, c0, c1, c2⟩ := (hr1.below hbq (by omega)).atCommand ht
            obtain ⟨n1, n2⟩ := cmdB_nat (all_atC Ha.out ht)
            have hs := modeAt_step (m := m) ht
            have hu := verdUp_step (m := m) ht
            obtain ⟨x1, x2, x3⟩ := t
            simp only at n1 n2 c0 c1 c2 hs hu
            generalize x1.toNat = q at n1 n2 hs hu
            subst n2
            have Hs := Lib.hid hs
            have Hu := Lib.hid hu
            have Ho := Lib.hid hown
            have Hr := Lib.hid hr1
            have hbwr : b < wo.heap.size := by omega
            have hbwq : b < wr.heap.size := by omega
            clear ht hs hu hown hr1
            generalize hmm : modeAt l m k = mm at *
            generalize hnn : nextK q mm x2 x3 = nn at *
            generalize hvv : verd q mm x2 x3 = vv at *
            go_wp2_with (first | (go_at_call 46; go_loud (refine (verdict_spec_r q n1 mm x2 x3 vv hvv _).mono ?_); rintro e w3 ⟨rfl, b1⟩; obtain ⟨hc1, hf1, hs1⟩ := bstep (N := wr.heap.size) (by go_size) b1; have hbq1 : b < w3.heap.size := (by omega); have O1 := Lib.hid (own_below Ho.out b1)) | (at_builtin; go_loud (refine wpList_append_int rfl (.tmp 35) (.tmp 42) 22 rfl wo.heap.size 2 i0 Tryd.underlying22 hi0 hz0 hz1 hz2 _ _ (verdUp l m k) rfl O1.out _ rfl (by omega) (by omega) ?_); intro v2 w4 o2 hb2 hs2; have O2 := Lib.hid o2; have hcc := (fun bb oo (hh : bb < wo.heap.size) => hb2.cell (p := ⟨bb, oo, none⟩) hh); clear o2) | (go_at_call 48; go_loud (refine (next_spec q n1 mm x2 x3 _).mono ?_); rintro e w5 ⟨rfl, b3⟩; have hs3 := b3.size; have O3 := Lib.hid (own_below O2.out b3)))
            go_roundw
            case rel => exact ⟨k + 1, by omega, by first | rw [Hs.out, ← hnn] | rw [Hs.out, hnn] | rw [Hs.out], by go_num, by rw [Hu.out]; simpa using O3.out, by repeat' (first | (with_reducible exact Below.refl _ _) | (with_reducible assumption) | (with_reducible refine Below.alloc ?_ ?_ _) | (with_reducible refine Below.drew ?_) | (with_reducible refine below_drewN ?_ _) | (with_reducible refine Below.setCell ?_ ?_ _) | (with_reducible refine Below.trans ?_ (Below.mono (by assumption) ?_)) | go_size | (exact Below.size (by assumption)))⟩
            case measure => simp [intOf]; omega
          · have hk' : k = l.length := by omega
            subst hk'
            have Ho := Lib.hid (own_more hown hsz)
            clear hown hr1
            go_wp2
            rw [G1.out, G2.out, G3.out, Hlen.out]
            refine bodyPost_ret (v := .tuple #[.int .i64 (modeAt l m l.length), .slice Ao l.length co, .int .i64 (0)]) (by simp [results, Tryd.results23, go_sem, *]) rfl ?_
            exact ⟨Ao, co, rfl, Ho.out, by repeat' (first | (with_reducible exact Below.refl _ _) | (with_reducible assumption) | (with_reducible refine Below.alloc ?_ ?_ _) | (with_reducible refine Below.drew ?_) | (with_reducible refine below_drewN ?_ _) | (with_reducible refine Below.setCell ?_ ?_ _) | (with_reducible refine Below.trans ?_ (Below.mono (by assumption) ?_)) | go_size | (exact Below.size (by assumption)))⟩
end Go.Proofs.YtakchdkoildkbaaDoor
