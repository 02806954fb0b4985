/- Draws of locks. -/
import Derived.Test.YtmbchcenclfjoaaDx
import Derived.Test.YtmbchcenclfjoaaDel
namespace Go.Proofs.Ytmbchcenclfjoaa
open Go.ChangeShapes Go.WideShapes Go.ChangeAt Go.RowKit
set_option maxRecDepth 20000
set_option linter.unusedVariables false
set_option linter.unusedSimpArgs false
theorem wpList_append_lock {w : World} {ops : Array Oper} {rest : List Oper} {o : Oper} {a : Act} {Q : Exit → Act → World → Prop} (hgd : o.guard = none) (s x : Operand)
    (ho : o.op = .call { callee := .builtin .append, args := #[s, x], argTypes := #[32, 32] })
    (base : Nat) (v : Value) (n : Nat) (l : List (Int × Int)) (hs : a.eval s = v) (hown : w.ownsRow base 75 2 v n (l.flatMap eLock)) (p q : Int) (hx : a.eval x = .slice (some ⟨w.heap.size, 0, none⟩) 1 1)
    (hn : n ≤ 1048576) (hbase : base ≤ w.heap.size)
    (h : ∀ v' w', w'.ownsRow base 75 2 v' (n + 1) ((l ++ [(p, q)]).flatMap eLock) → Below base w w' → w.heap.size < w'.heap.size → wpList Try.prog ops Q rest (a.put o.dst v') w') :
    wpList Try.prog ops Q (o :: rest) a (w.alloc (.cells #[.int .i64 p, .int .i64 q] 75)) := by
  obtain ⟨i0, hi0, hz0, hz1, hz2⟩ := info_parts infoLock
  refine wpList_append_rd hgd s x 32 ho base 75 i0 _ 2 16 Try.underlying32 hi0 hz0 hz1 hz2 rfl (by decide) v n _ hs (hown.alloc _) (w.heap.size + 1) _ 1 1 (eLock (p, q)) hx rfl (rd_new2 w p q _) (eLock_one _) (by unfold maxLen; omega) (by omega) (by simp; omega) ?_
  intro v' w' h1 h2 h3
  refine h v' w' (by simpa using h1) (((Below.refl _ _).alloc hbase _).trans h2) (by simp at h3; omega)
def lOk (t : Int × Int) : Prop := -1 ≤ t.1 ∧ t.1 ≤ 400 ∧ -1 ≤ t.2 ∧ t.2 ≤ 100001
theorem lOk_app {l m : List (Int × Int)} (h : ∀ t ∈ l, lOk t) (hm : ∀ t ∈ m, lOk t) : ∀ x ∈ l ++ m, lOk x := by
  intro x hx
  rw [List.mem_append] at hx
  rcases hx with hx | hx
  · exact h x hx
  · exact hm x hx
theorem lOk_one {t : Int × Int} (h : lOk t) : ∀ x ∈ [t], lOk x := by
  intro x hx
  rw [List.mem_singleton] at hx
  subst hx
  exact h
def LocksP (w0 : World) (g B : Nat) (C : Option Addr) (cap : Nat) (bl : List Int) (e : Ending) (w' : World) : Prop :=
  ∃ (l : List (Int × Int)) (A : Option Addr) (c : Nat), e = .returned (.slice A l.length c) ∧ (∀ t ∈ l, lOk t) ∧ l.length ≤ 14 ∧ w'.ownsRow w0.heap.size 75 2 (.slice A l.length c) l.length (l.flatMap eLock) ∧ DS w0 w' g B C cap bl
set_option maxHeartbeats 1000000 in
theorem l29DrawLocks_any (w0 : World) (g B : Nat) (C : Option Addr) (cap : Nat) (bl : List Int) (h : DS w0 w0 g B C cap bl) :
   Calls Try.prog 84 #[.pointer (some ⟨g, 0, none⟩)] w0 (LocksP w0 g B C cap bl) := by
  obtain ⟨i0, hi0, hz0, hz1, hz2⟩ := info_parts infoLock
  have hg0 := h.size.2
  have H := Lib.hid h
  clear h
  go_enter Try.func84, Try.ntmps84
  go_wp2_with fail
  refine (next_ds (H.out.alloc (.cells #[] 75)) 3).mono ?_
  rintro e w1 ⟨q, rfl, q0, q1, d1, g1⟩
  have O1 := Lib.hid (DS.own (World.ownsRow_made (base := w0.heap.size) (e := 75) (size := 2) w0 #[] 0 (Nat.le_refl _) (by simp [maxLen]) rfl) g1 hg0)
  have q2 : q ≤ 2 := by omega
  clear g1 q1
  go_wp2_with fail
  refine (next_ds d1 5).mono ?_
  rintro e w2 ⟨p, rfl, p0, p1, d2, g2⟩
  have O2 := Lib.hid (DS.own O1.out g2 hg0)
  have p2 : p ≤ 4 := by omega
  have D2 := Lib.hid d2
  clear d1 d2 g2 p1
  go_wp2_with fail
  go_loopw [3, 4, 5] (fun v ow n wr => ∃ (l : List (Int × Int)) (q r : Int), n = .int .i64 q ∧ ow = .int .i64 r ∧ 0 ≤ q ∧ l.length + q ≤ 4 ∧ 1 ≤ r ∧ r ≤ 3 + 3 * l.length ∧ (∀ t ∈ l, lOk t) ∧ wr.ownsRow w0.heap.size 75 2 v l.length (l.flatMap eLock) ∧ DS w0 wr g B C cap bl) (fun _ _ n _ => (intOf n).toNat)
  case atStart => exact ⟨[], p, 1 + q, rfl, rfl, p0, by simpa using p2, by omega, by simp; omega, by simp, O2.out, D2.out⟩
  case round =>
    clear q0 q2 p0 p2
    obtain ⟨l, q, r, rfl, rfl, q0, hq4, r0, r1, hok, hown, hd⟩ := hrel
    by_cases hlt : 0 < q
    · have Hok := Lib.hid hok
      have hsz := hd.size.1
      clear hok
      go_wp2_with fail
      refine (next_ds hd 4).mono ?_
      rintro e w3 ⟨x, rfl, x0, x1, d3, g3⟩
      have O3 := Lib.hid (DS.own hown g3 hg0)
      have D3 := Lib.hid d3
      have x2 : x ≤ 3 := by omega
      have hs3 := d3.size.1
      have hln : l.length ≤ 1048576 := by omega
      clear hown hd d3 g3 x1
      go_wp2_with (at_builtin; refine wpList_append_lock rfl (.tmp 17) (.tmp 22) rfl w0.heap.size _ _ _ rfl O3.out _ _ rfl hln hs3 ?_; intro v5 w5 own5 hb5 hz5; have O5 := Lib.hid own5; have D5 := Lib.hid (D3.out.below hb5); clear own5 hb5)
      refine (next_ds D5.out 3).mono ?_
      rintro e w6 ⟨y, rfl, y0, y1, d6, g6⟩
      have O6 := Lib.hid (DS.own O5.out g6 hg0)
      have D6 := Lib.hid d6
      have y2 : y ≤ 2 := by omega
      clear d6 g6 y1
      go_wp2
      go_roundw
      case rel => exact ⟨l ++ [(x, r)], q - 1, r + 1 + y, by go_num, by go_num, by omega, by simp; omega, by omega, by simp; omega, lOk_app Hok.out (lOk_one ⟨by simp only; omega, by simp only; omega, by simp only; omega, by simp only; omega⟩), by simpa using O6.out, D6.out⟩
      case measure => simp [intOf]; omega
    · have Hok := Lib.hid hok
      have Ho := Lib.hid hown
      have hsz := hd.size.1
      clear hok hown
      have Hl4 : l.length ≤ 4 := by omega
      go_wp2_with fail
      refine (next_ds hd 40).mono ?_
      rintro e w2 ⟨x, rfl, x0, x1, d2, g2⟩
      have O2 := Lib.hid (DS.own Ho.out g2 hg0)
      have D2 := Lib.hid d2
      have hs2 := d2.size.1
      clear d2 hd g2 x1
      have hln : l.length ≤ 1048576 := by omega
      by_cases hx0 : x = 0
      · subst hx0
        go_wp2_with fail
        refine (pick_ds D2.out [-1, 0, 23, 24] 4 _ (by rfl) _ (by rfl) rfl (by omega) (by omega)).mono ?_
        rintro e w3 ⟨y, rfl, hy, d3, g3⟩
        have hyb : -1 ≤ y ∧ y ≤ 24 := by
          simp only [List.mem_cons, List.not_mem_nil, or_false] at hy
          omega
        have O3 := Lib.hid (DS.own (O2.out.alloc _) g3 hg0)
        have D3 := Lib.hid d3
        clear hy g3 d3
        go_wp2_with fail
        refine (pick_ds D3.out [0, 999, 1000] 3 _ (by rfl) _ (by rfl) rfl (by omega) (by omega)).mono ?_
        rintro e w4 ⟨z, rfl, hz, d4, g4⟩
        have hzb : 0 ≤ z ∧ z ≤ 1000 := by
          simp only [List.mem_cons, List.not_mem_nil, or_false] at hz
          omega
        have hs4 := d4.size.1
        have O4 := Lib.hid (DS.own (O3.out.alloc _) g4 hg0)
        have D4 := Lib.hid d4
        clear hz g4 d4
        go_wp2_with (at_builtin; refine wpList_append_lock rfl (.tmp 33) (.tmp 41) rfl w0.heap.size _ _ _ rfl O4.out _ _ rfl hln hs4 ?_; intro v5 w5 own5 hb5 hz5; have O5 := Lib.hid own5; clear own5)
        obtain ⟨A5, c5, rfl⟩ := own_val O5.out
        go_ret
        exact ⟨l ++ [(y, z)], A5, c5, by simp, lOk_app Hok.out (lOk_one ⟨by simp only; omega, by simp only; omega, by simp only; omega, by simp only; omega⟩), by simp; omega, by simpa using O5.out, D4.out.below hb5⟩
      · have b0 : (x == 0) = false := by rw [beq_eq_false_iff_ne]; exact hx0
        by_cases hx1 : x = 1
        · subst hx1
          clear hx0
          have O3 := Lib.hid (World.ownsRow_made (base := w0.heap.size) (e := 75) (size := 2) w2 #[] 0 D2.out.size.1 (by simp [maxLen]) rfl)
          go_wp2_with fail
          go_loopw [3, 6] (fun v k wr => ∃ l : List (Int × Int), k = .int .i64 (l.length : Int) ∧ l.length ≤ 13 ∧ (∀ t ∈ l, lOk t) ∧ wr.ownsRow w0.heap.size 75 2 v l.length (l.flatMap eLock) ∧ DS w0 wr g B C cap bl) (fun _ k _ => (13 - intOf k).toNat)
          case atStart => exact ⟨[], rfl, by simp, by simp, O3.out, D2.out.alloc _⟩
          case round =>
            clear Hok Ho Hl4 hln O3
            obtain ⟨l, rfl, hl13, hok, hown, hd⟩ := hrel
            have Hok := Lib.hid hok
            have hln : l.length ≤ 1048576 := by omega
            clear hok
            go_wp2_with fail
            refine (next_ds hd 2).mono ?_
            rintro e w3 ⟨y, rfl, y0, y1, d3, g3⟩
            have O3 := Lib.hid (DS.own hown g3 hg0)
            have D3 := Lib.hid d3
            have hs3 := d3.size.1
            have y2 : y ≤ 1 := by omega
            clear hown hd g3 d3 y1
            by_cases hlt : (l.length : Int) < 8 + y
            · go_wp2_with (at_builtin; refine wpList_append_lock rfl (.tmp 53) (.tmp 59) rfl w0.heap.size _ _ _ rfl O3.out _ _ rfl hln hs3 ?_; intro v5 w5 own5 hb5 hz5; have O5 := Lib.hid own5; clear own5)
              go_roundw
              case rel => exact ⟨l ++ [((l.length : Int), 1 + (l.length : Int) % 3)], by simp, by simp; omega, lOk_app Hok.out (lOk_one ⟨by simp only; omega, by simp only; omega, by simp only; omega, by simp only; omega⟩), by simpa using O5.out, D3.out.below hb5⟩
              case measure => simp [intOf]; omega
            · go_wp2
              obtain ⟨A5, c5, rfl⟩ := own_val O3.out
              go_ret
              exact ⟨l, A5, c5, rfl, Hok.out, by omega, O3.out, D3.out⟩
        · have b1 : (x == 1) = false := by rw [beq_eq_false_iff_ne]; exact hx1
          by_cases hx2 : x = 2
          · subst hx2
            clear hx0 hx1
            obtain ⟨A2, c2, hv⟩ := own_val O2.out
            subst hv
            have Rr := Lib.hid (Rd.of_own O2.out)
            go_wp2_with (at_builtin; refine wpList_append_rd rfl (.tmp 63) (.tmp 64) 32 rfl w0.heap.size 75 i0 _ 2 16 Try.underlying32 hi0 hz0 hz1 hz2 rfl (by decide) _ l.length _ rfl O2.out _ A2 l.length c2 (l.flatMap eLock) rfl (flat_len eLock 2 eLock_len l) Rr.out (flat_one _ eLock_one l) (by unfold maxLen; omega) (by omega) hs2 ?_; intro v5 w5 own5 hb5 hz5; have O5 := Lib.hid own5; clear own5)
            obtain ⟨A5, c5, rfl⟩ := own_val O5.out
            go_ret
            exact ⟨l ++ l, A5, c5, by simp, lOk_app Hok.out Hok.out, by simp; omega, by simpa using O5.out, D2.out.below hb5⟩
          · have b2 : (x == 2) = false := by rw [beq_eq_false_iff_ne]; exact hx2
            go_wp2
            obtain ⟨A5, c5, rfl⟩ := own_val O2.out
            go_ret
            exact ⟨l, A5, c5, rfl, Hok.out, by omega, O2.out, D2.out⟩
end Go.Proofs.Ytmbchcenclfjoaa
