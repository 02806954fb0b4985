/- The draw of lists of commands, and the law on resets: walks. -/
import Derived.Test.YtakchdkoildkbaaDoorCd
import Derived.Test.YtakchdkoildkbaaDoorApp
import Derived.Test.YtakchdkoildkbaaDoorB
namespace Go.Proofs.YtakchdkoildkbaaDoor
open Go.ChangeShapes Go.WideShapes Go.ChangeAt Go.RowKit
set_option maxRecDepth 20000
set_option linter.unusedVariables false
set_option linter.unusedSimpArgs false
theorem eCommand_one (t : Int × Int × Bool) : ∀ u ∈ eCommand t, u.oneCell' = true := by
  intro u hu
  simp [eCommand] at hu
  rcases hu with rfl | rfl | rfl <;> rfl
theorem rd_cmd3 (w : World) (x y : Int) (b : Bool) (e : TypeId) : Rd (w.alloc (.cells #[.int .i64 x, .int .i64 y, .bool b] e)) (w.heap.size + 1) (some ⟨w.heap.size, 0, none⟩) (eCommand (x, y, b)) := rd_newL _ _ _ _ rfl
/-- append of one command to a row of the call's own -/
theorem wpList_append_cmd {w : World} {ops : Array Oper} {rest : List Oper} {o : Oper} {a : Act} {Q : Exit → Act → World → Prop} (hgd : o.guard = none) (s x : Operand)
    (ho : o.op = .call { callee := .builtin .append, args := #[s, x], argTypes := #[37, 37] })
    (base : Nat) (v : Value) (n : Nat) (l : List (Int × Int × Bool)) (hs : a.eval s = v) (hown : w.ownsRow base 31 3 v n (l.flatMap eCommand)) (p q : Int) (b : Bool) (hx : a.eval x = .slice (some ⟨w.heap.size, 0, none⟩) 1 1)
    (hn : n ≤ 1048576) (hbase : base ≤ w.heap.size)
    (h : ∀ v' w', w'.ownsRow base 31 3 v' (n + 1) ((l ++ [(p, q, b)]).flatMap eCommand) → Below base w w' → w.heap.size < w'.heap.size → wpList Tryd.prog ops Q rest (a.put o.dst v') w') :
    wpList Tryd.prog ops Q (o :: rest) a (w.alloc (.cells #[.int .i64 p, .int .i64 q, .bool b] 31)) := by
  obtain ⟨i0, hi0, hz0, hz1, hz2⟩ := info_parts infoCommand
  refine wpList_append_rd hgd s x 37 ho base 31 i0 _ 3 24 Tryd.underlying37 hi0 hz0 hz1 hz2 rfl (by decide) v n _ hs (hown.alloc _) (w.heap.size + 1) _ 1 1 (eCommand (p, q, b)) hx rfl (rd_cmd3 w p q b _) (eCommand_one _) (by unfold maxLen; omega) (by omega) (by simp; omega) ?_
  intro v' w' h1 h2 h3
  refine h v' w' (by simpa using h1) (((Below.refl _ _).alloc hbase _).trans h2) (by simp at h3; omega)
def cOk (t : Int × Int × Bool) : Prop := (-1 ≤ t.1 ∧ t.1 ≤ 10) ∧ (-1 ≤ t.2.1 ∧ t.2.1 ≤ 4)
theorem cOk_app {l : List (Int × Int × Bool)} (h : ∀ t ∈ l, cOk t) {t : Int × Int × Bool} (ht : cOk t) : ∀ x ∈ l ++ [t], cOk x := by
  intro x hx
  rw [List.mem_append, List.mem_singleton] at hx
  rcases hx with hx | rfl
  · exact h x hx
  · exact ht
theorem made200 : (madeCells (Value.agg #[.int .i64 0, .int .i64 0, .bool false]).cells (200 * 3)).toList = (List.replicate 200 ((0, 0, false) : Int × Int × Bool)).flatMap eCommand := by kernel_rfl
theorem made201 : (madeCells (Value.agg #[.int .i64 0, .int .i64 0, .bool false]).cells (201 * 3)).toList = (List.replicate 201 ((0, 0, false) : Int × Int × Bool)).flatMap eCommand := by kernel_rfl
def RunsP (w0 : World) (e : Ending) (w' : World) : Prop :=
  ∃ (m : Int) (l : List (Int × Int × Bool)) (A : Option Addr) (c : Nat), e = .returned (.tuple #[.int .i64 m, .slice A l.length c]) ∧ (-1 ≤ m ∧ m ≤ 6) ∧ (∀ t ∈ l, cOk t) ∧ l.length ≤ 201 ∧ w'.ownsRow w0.heap.size 31 3 (.slice A l.length c) l.length (l.flatMap eCommand) ∧ Below w0.heap.size w0 w'
set_option maxHeartbeats 2000000 in
theorem drawRuns_any (bl : List Int) (hbl : isU8 bl) (hn : bl.length ≤ 4096) (C : Option Addr) (cap : Nat) (w0 : World) (hr : Rd w0 w0.heap.size C (bytesU bl)) :
   Calls Tryd.prog 21 #[.slice C bl.length cap] w0 (RunsP w0) := by
  obtain ⟨i0, hi0, ez0, ez1, ez2⟩ := info_parts infoCommand
  have Hr := Lib.hid hr
  clear hr
  go_enter Tryd.func21, Tryd.ntmps21
  go_wp2_with fail
  refine (l01From_any bl hbl hn C w0.heap.size cap w0 Hr.out (Nat.le_refl _)).mono ?_
  rintro e w1 ⟨rfl, hs1, hb1, hz1⟩
  have d1 := DS.start (Hr.out.below hb1 (Nat.le_refl _)) hs1 (Nat.le_refl _) hbl hn
  have Hb1 := Lib.hid hb1
  clear hb1 hs1 hbl
  go_wp2_with fail
  refine (l27DrawMode_any w1 _ _ _ _ _ d1).mono ?_
  rintro e w2 ⟨m, rfl, m0, m6, d2⟩
  have hs2 := d2.size.1
  clear d1
  go_wp2_with fail
  refine (next_ds (d2.alloc (.cells #[] 31)) 12).mono ?_
  rintro e w3 ⟨q, rfl, q0, q1, d3, g3⟩
  have O3 := Lib.hid (DS.own (World.ownsRow_made (base := w1.heap.size) (e := 31) (size := 3) w2 #[] 0 hs2 (by simp [maxLen]) rfl) g3 hz1)
  have q2 : q ≤ 11 := by omega
  have D3 := Lib.hid d3
  clear d2 d3 g3 q1
  go_wp2_with fail
  go_loopw [6, 7] (fun v n wr => ∃ (l : List (Int × Int × Bool)) (q : Int), n = .int .i64 q ∧ 0 ≤ q ∧ l.length + q ≤ 11 ∧ (∀ t ∈ l, cOk t) ∧ wr.ownsRow w1.heap.size 31 3 v l.length (l.flatMap eCommand) ∧ DS w1 wr w0.heap.size w0.heap.size C cap bl) (fun _ n _ => (intOf n).toNat)
  case atStart => exact ⟨[], q, rfl, q0, by simpa using q2, by simp, O3.out, D3.out⟩
  case round =>
    clear q0 q2 O3 D3
    obtain ⟨l, q, rfl, q0, hq4, hok, hown, hd⟩ := hrel
    by_cases hlt : 0 < q
    · have Hok := Lib.hid hok
      have hsz := hd.size.1
      clear hok
      go_wp2_with fail
      refine (l27Draw_any wr _ _ _ _ _ hd.again).mono ?_
      rintro e w4 ⟨a, r, b, rfl, ha, hrr, d4⟩
      have d5 := hd.join d4
      have hs4 := d5.size.1
      have O4 := Lib.hid (DS.own hown d4.2.2.1 hz1)
      have D5 := Lib.hid d5
      clear hown hd d4 d5
      go_wp2_with (at_builtin; go_loud (refine wpList_append_cmd rfl (.tmp 19) (.tmp 22) rfl w1.heap.size _ l.length l rfl O4.out a r b rfl (by omega) hs4 ?_); intro v5 w5 own5 hb5 hz5; have O5 := Lib.hid own5; clear own5)
      go_roundw
      case rel => exact ⟨l ++ [(a, r, b)], q - 1, by first | rfl | go_num, by omega, by simp; omega, cOk_app Hok.out ⟨ha, hrr⟩, by simpa using O5.out, D5.out.below hb5⟩
      case measure => simp [intOf]; omega
    · have hq0 : q = 0 := by omega
      subst hq0
      obtain ⟨A, c, rfl⟩ := own_val hown
      have Hok := Lib.hid hok
      have Ho := Lib.hid hown
      clear hok hown
      have hl11 : l.length ≤ 11 := by omega
      go_wp2_with fail
      refine (next_ds hd 60).mono ?_
      rintro e w4 ⟨x, rfl, x0, x1, d4, g4⟩
      have O4 := Lib.hid (DS.own Ho.out g4 hz1)
      clear hd g4 x1 Ho
      by_cases hx : x = 0
      · subst hx
        go_wp2_with fail
        refine (next_ds d4 2).mono ?_
        rintro e w5 ⟨y, rfl, y0, y1, d5, g5⟩
        have hs5 := d5.size.1
        have hb5 := below_of_grownBy (B := w0.heap.size) d5.2.2.1 (by omega) (fun k hk => by injection hk with hk; omega)
        have Hb5 := Lib.hid (Hb1.out.trans hb5)
        clear d4 d5 g5 O4 hb5
        have hy : y = 0 ∨ y = 1 := by omega
        clear y0 y1
        rcases hy with rfl | rfl
        · obtain ⟨w6, xs, hmk, hown6, hxs, hb6, hz6⟩ := mk_own (P := Tryd.prog) 37 31 i0 _ 3 24 Tryd.underlying37 hi0 ez0 ez1 ez2 .i64 .i64 200 (by omega) (by unfold maxLen; omega) w0.heap.size w5 (by omega)
          have hmk2 : (Instr.makeSlice 37 (.int .i64 200) (.int .i64 200)).run Tryd.prog w5 = .ok (.slice (some ⟨w5.heap.size, 0, none⟩) 200 200) w6 := hmk
          clear hmk
          rw [made200] at hxs
          subst hxs
          have O6 := Lib.hid hown6
          clear hown6
          go_wp2
          go_ret2
          exact ⟨m, List.replicate 200 (0, 0, false), _, _, rfl, ⟨m0, m6⟩, (fun t ht => by rw [List.eq_of_mem_replicate ht]; simp [cOk]), by simp, by simpa using O6.out, Hb5.out.trans (hb6.mono (by omega))⟩
        · obtain ⟨w6, xs, hmk, hown6, hxs, hb6, hz6⟩ := mk_own (P := Tryd.prog) 37 31 i0 _ 3 24 Tryd.underlying37 hi0 ez0 ez1 ez2 .i64 .i64 201 (by omega) (by unfold maxLen; omega) w0.heap.size w5 (by omega)
          have hmk2 : (Instr.makeSlice 37 (.int .i64 201) (.int .i64 201)).run Tryd.prog w5 = .ok (.slice (some ⟨w5.heap.size, 0, none⟩) 201 201) w6 := hmk
          clear hmk
          rw [made201] at hxs
          subst hxs
          have O6 := Lib.hid hown6
          clear hown6
          go_wp2
          go_ret2
          exact ⟨m, List.replicate 201 (0, 0, false), _, _, rfl, ⟨m0, m6⟩, (fun t ht => by rw [List.eq_of_mem_replicate ht]; simp [cOk]), by simp, by simpa using O6.out, Hb5.out.trans (hb6.mono (by omega))⟩
      · have hbx : (x == 0) = false := by rw [beq_eq_false_iff_ne]; exact hx
        have hb4 := below_of_grownBy (B := w0.heap.size) d4.2.2.1 (by omega) (fun k hk => by injection hk with hk; omega)
        have Hb4 := Lib.hid (Hb1.out.trans hb4)
        clear d4 hb4
        go_wp2
        go_ret2
        exact ⟨m, l, A, c, rfl, ⟨m0, m6⟩, Hok.out, by omega, own_more O4.out (by omega), Hb4.out⟩
theorem likeInts_same (l : List Int) (A A' : Option Addr) (B B' c c' : Nat) (w : World) (hr : Rd w B A (ints l)) (hr2 : Rd w B' A' (ints l)) (hn : l.length ≤ 1048576) :
   Calls Tryd.prog 24 #[.slice A l.length c, .slice A' l.length c'] w fun e w' => e = .returned (.bool true) ∧ Below w.heap.size w w' := by
  go_enter Tryd.func24, Tryd.ntmps24
  go_wp2_with fail
  go_loopw [5] (fun i wr => ∃ k : Nat, k ≤ l.length ∧ i = .int .i64 k ∧ ∃ q, wr = w.drewN q) (fun i _ => l.length - (intOf i).toNat)
  case atStart => exact ⟨0, Nat.zero_le _, rfl, 0, rfl⟩
  case round =>
    obtain ⟨k, hk, rfl, q, rfl⟩ := hrel
    by_cases hlt : k < l.length
    · have ht := List.getElem?_eq_getElem hlt
      generalize l[k] = t at ht
      obtain ⟨b, o, rfl, _, c0⟩ := hr.int ht
      obtain ⟨b2, o2, rfl, _, d0⟩ := hr2.int ht
      clear ht hr hr2
      go_wp2_with fail
      go_quiet (fail)
      go_wp2
      go_roundw
      case rel => exact ⟨k + 1, by omega, by go_num, _, rfl⟩
      case measure => simp [intOf]; omega
    · have hk' : k = l.length := by omega
      subst hk'
      clear hr hr2
      go_wp2
      go_ret
      exact ⟨rfl, by repeat' (first | (with_reducible exact Below.refl _ _) | (with_reducible assumption) | (with_reducible refine Below.alloc ?_ ?_ _) | (with_reducible refine Below.drew ?_) | (with_reducible refine below_drewN ?_ _) | (with_reducible refine Below.setCell ?_ ?_ _) | (with_reducible refine Below.trans ?_ (Below.mono (by assumption) ?_)) | go_size | (exact Below.size (by assumption)))⟩
def rstB (t : Cmd) (v : Int) : Bool := (t.1 == 4) && (v == 0) && decide (2 ≤ t.2.1) && t.2.2
def rstUp (l : List Cmd) (vs : List Int) : Nat → Bool
  | 0 => false
  | k + 1 => rstUp l vs k || (match l[k]?, vs[k]? with | some t, some v => rstB t v | _, _ => false)
theorem rstUp_step {l : List Cmd} {vs : List Int} {k : Nat} {t : Cmd} {v : Int} (h : l[k]? = some t) (hv : vs[k]? = some v) : rstUp l vs (k + 1) = (rstUp l vs k || rstB t v) := by simp [rstUp, h, hv]
theorem verdUp_at {l : List Cmd} {m : Int} {k : Nat} {t : Cmd} (h : l[k]? = some t) : ∀ n, k < n → n ≤ l.length → (verdUp l m n)[k]? = some (verd t.1.toNat (modeAt l m k) t.2.1 t.2.2)
  | 0, h1, _ => by omega
  | n + 1, h1, h2 => by
    have hl := verdUp_length (l := l) (m := m) n (by omega)
    rw [verdUp_step (List.getElem?_eq_getElem (show n < l.length by omega))]
    by_cases hk : k = n
    · subst hk
      have : l[k]'(by omega) = t := by rw [List.getElem?_eq_getElem (show k < l.length by omega)] at h; exact Option.some.inj h
      rw [List.getElem?_append_right (by omega), hl, this]
      simp
    · rw [List.getElem?_append_left (by omega)]
      exact verdUp_at h n (by omega) (by omega)
theorem reset_law {l : List Cmd} (h : l.all okC = true) : ∀ k, k ≤ l.length → rstUp l (verdUp l 4 l.length) k = true ∨ modeAt l 4 k = 4 ∨ modeAt l 4 k = 5
  | 0, _ => .inr (.inl rfl)
  | k + 1, hk => by
    have ht := List.getElem?_eq_getElem (show k < l.length by omega)
    generalize l[k] = t at ht
    have hv := verdUp_at (m := 4) ht l.length (by omega) (Nat.le_refl _)
    have ih := reset_law h k (by omega)
    rw [rstUp_step ht hv, modeAt_step ht]
    obtain ⟨h1, h2⟩ := cmdB_nat (all_atC h ht)
    obtain ⟨a, r, b⟩ := t
    simp only at h1 h2 hv ⊢
    generalize a.toNat = n at *
    subst h2
    rcases ih with ih | ih | ih
    · left; simp [ih]
    · rw [ih]
      by_cases hr : rstB ((n : Int), r, b) (verd n 4 r b) = true
      · left; simp [hr]
      · right
        rcases k_cases h1 with rfl | rfl | rfl | rfl | rfl | rfl | rfl | rfl | rfl | rfl <;> simp [nextK, verd, fromK, toK, leastK, keyK, rstB] at * <;> (try (split <;> simp_all)) <;> (try omega)
    · rw [ih]
      right
      rcases k_cases h1 with rfl | rfl | rfl | rfl | rfl | rfl | rfl | rfl | rfl | rfl <;> simp [nextK, verd, fromK, toK, leastK, keyK] <;> (try (split <;> simp_all)) <;> (try omega)
end Go.Proofs.YtakchdkoildkbaaDoor
