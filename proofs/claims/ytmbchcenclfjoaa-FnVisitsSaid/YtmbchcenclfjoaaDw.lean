/- Draws of plans and of days. -/
import Derived.Test.YtmbchcenclfjoaaDr
import Derived.Test.YtmbchcenclfjoaaPf
import Derived.Test.YtmbchcenclfjoaaApp
namespace Go.Proofs.Ytmbchcenclfjoaa
open Go.ChangeShapes Go.WideShapes Go.ChangeAt Go.RowKit
set_option maxRecDepth 20000
set_option linter.unusedVariables false
set_option linter.unusedSimpArgs false
def tOk (t : Int × Int) : Prop := -1 ≤ t.1 ∧ t.1 ≤ 400 ∧ -1 ≤ t.2 ∧ t.2 ≤ 100001
theorem rd_task (w : World) (x y : Int) (e : TypeId) : Rd (w.alloc (.cells #[.int .i64 x, .int .i64 y] e)) (w.heap.size + 1) (some ⟨w.heap.size, 0, none⟩) (eTask (x, y)) := fun _ => by
  refine ⟨w.heap.size, 0, rfl, by omega, fun j u hu => ?_⟩
  have hh := heap_alloc_new w (.cells #[.int .i64 x, .int .i64 y] e)
  simp only [World.cell?, Nat.zero_add]
  rw [hh]
  simpa [eTask] using hu
/-- append of one task to a row of the call's own -/
theorem wpList_append_task {w : World} {ops : Array Oper} {rest : List Oper} {o : Oper} {a : Act} {Q : Exit → Act → World → Prop} (hgd : o.guard = none) (s x : Operand)
    (ho : o.op = .call { callee := .builtin .append, args := #[s, x], argTypes := #[25, 25] })
    (base : Nat) (v : Value) (n : Nat) (l : List (Int × Int)) (hs : a.eval s = v) (hown : w.ownsRow base 65 2 v n (l.flatMap eTask)) (p q : Int) (hx : a.eval x = .slice (some ⟨w.heap.size, 0, none⟩) 1 1)
    (hn : n ≤ 1048576) (hbase : base ≤ w.heap.size)
    (h : ∀ v' w', w'.ownsRow base 65 2 v' (n + 1) ((l ++ [(p, q)]).flatMap eTask) → Below base w w' → w.heap.size < w'.heap.size → wpList Try.prog ops Q rest (a.put o.dst v') w') :
    wpList Try.prog ops Q (o :: rest) a (w.alloc (.cells #[.int .i64 p, .int .i64 q] 65)) := by
  obtain ⟨i0, hi0, hz0, hz1, hz2⟩ := info_parts infoTask
  refine wpList_append_rd hgd s x 25 ho base 65 i0 _ 2 16 Try.underlying25 hi0 hz0 hz1 hz2 rfl (by decide) v n _ hs (hown.alloc _) (w.heap.size + 1) _ 1 1 (eTask (p, q)) hx rfl (rd_task w p q _) (eTask_one _) (by unfold maxLen; omega) (by omega) (by simp; omega) ?_
  intro v' w' h1 h2 h3
  refine h v' w' (by simpa using h1) (((Below.refl _ _).alloc hbase _).trans h2) (by simp at h3; omega)
def DrawP (w0 : World) (g B : Nat) (C : Option Addr) (cap : Nat) (bl : List Int) (e : Ending) (w' : World) : Prop :=
  ∃ (l : List (Int × Int)) (A : Option Addr) (c : Nat), e = .returned (.slice A l.length c) ∧ (∀ t ∈ l, tOk t) ∧ l.length ≤ 14 ∧ w'.ownsRow w0.heap.size 65 2 (.slice A l.length c) l.length (l.flatMap eTask) ∧ DS w0 w' g B C cap bl
def Dr29 (w0 : World) (g B : Nat) (C : Option Addr) (cap : Nat) (bl : List Int) (m : Nat) (v : Value) (wr : World) : Prop :=
  ∃ l : List (Int × Int), (∀ t ∈ l, tOk t) ∧ l.length ≤ m ∧ wr.ownsRow w0.heap.size 65 2 v l.length (l.flatMap eTask) ∧ DS w0 wr g B C cap bl
theorem tOk_app {l : List (Int × Int)} (h : ∀ t ∈ l, tOk t) {t : Int × Int} (ht : tOk t) : ∀ x ∈ l ++ [t], tOk x := by
  intro x hx
  rw [List.mem_append, List.mem_singleton] at hx
  rcases hx with hx | rfl
  · exact h x hx
  · exact ht
set_option maxHeartbeats 1000000 in
theorem l29Draw_any (w0 : World) (g B : Nat) (C : Option Addr) (cap : Nat) (bl : List Int) (h : DS w0 w0 g B C cap bl) :
   Calls Try.prog 80 #[.pointer (some ⟨g, 0, none⟩)] w0 (DrawP w0 g B C cap bl) := by
  have hg0 := h.size.2
  have H := Lib.hid h
  clear h
  go_enter Try.func80, Try.ntmps80
  go_wp2_with fail
  refine (next_ds (H.out.alloc (.cells #[] 65)) 5).mono ?_
  rintro e w1 ⟨q, rfl, q0, q1, d1, g1⟩
  have o1 := DS.own (World.ownsRow_made (base := w0.heap.size) (e := 65) (size := 2) w0 #[] 0 (Nat.le_refl _) (by simp [maxLen]) rfl) g1 hg0
  have hq4 : q ≤ 4 := by omega
  clear q1
  have O1 := Lib.hid o1
  have D1 := Lib.hid d1
  clear o1 d1 g1
  go_wp2_with fail
  go_loopw [3, 4] (fun v n wr => ∃ (l : List (Int × Int)) (q : Int), n = .int .i64 q ∧ 0 ≤ q ∧ l.length + q ≤ 4 ∧ (∀ t ∈ l, tOk t) ∧ wr.ownsRow w0.heap.size 65 2 v l.length (l.flatMap eTask) ∧ DS w0 wr g B C cap bl) (fun _ n _ => (intOf n).toNat)
  case atStart => exact ⟨[], q, rfl, q0, by simpa using hq4, by simp, O1.out, D1.out⟩
  case round =>
    clear q0 hq4
    obtain ⟨l, q, rfl, q0, hq4, hok, hown, hd⟩ := hrel
    by_cases hlt : 0 < q
    · have Hok := Lib.hid hok
      have hsz := hd.size.1
      clear hok
      go_wp2_with fail
      refine (next_ds hd 40).mono ?_
      rintro e w2 ⟨x, rfl, x0, x1, d2, g2⟩
      have o2 := DS.own hown g2 hg0
      have x2 : x ≤ 39 := by omega
      clear hown hd g2 x1
      have O2 := Lib.hid o2
      have D2 := Lib.hid d2
      clear o2 d2
      go_wp2_with fail
      refine (pick_ds D2.out [1, 7, 30, 1 + x, 366] 5 _ (by rfl) _ (by rfl) rfl (by omega) (by omega)).mono ?_
      rintro e w3 ⟨y, rfl, hy, d3, g3⟩
      have hyb : 1 ≤ y ∧ y ≤ 366 := by
        simp only [List.mem_cons, List.not_mem_nil, or_false] at hy
        omega
      have o3 := DS.own (O2.out.alloc _) g3 hg0
      have O3 := Lib.hid o3
      clear hy g3 o3
      go_wp2_with fail
      refine (next_ds d3 60).mono ?_
      rintro e w4 ⟨z, rfl, z0, z1, d4, g4⟩
      have o4 := DS.own O3.out g4 hg0
      have z2 : z ≤ 59 := by omega
      have hs4 := d4.size.1
      have O4 := Lib.hid o4
      have D4 := Lib.hid d4
      have hln : l.length ≤ 1048576 := by omega
      clear g4 o4 d4 d3 z1
      go_wp2_with (at_builtin; refine wpList_append_task rfl (.tmp 13) (.tmp 23) rfl w0.heap.size _ _ _ rfl O4.out _ _ rfl hln hs4 ?_; intro v5 w5 own5 hb5 hz5; have O5 := Lib.hid own5; clear own5)
      go_roundw
      case rel => exact ⟨l ++ [(y, z)], q - 1, by go_num, by omega, by simp; omega, tOk_app Hok.out ⟨by simp only; omega, by simp only; omega, by simp only; omega, by simp only; omega⟩, by simpa using O5.out, D4.out.below hb5⟩
      case measure => simp [intOf]; omega
    · have Hok := Lib.hid hok
      have Ho := Lib.hid hown
      have hsz := hd.size.1
      clear hok hown
      have Hl4 : l.length ≤ 4 := by omega
      go_wp2_with fail
      refine (next_ds hd 40).mono ?_
      rintro e w2 ⟨x, rfl, x0, x1, d2, g2⟩
      have o2 := DS.own Ho.out g2 hg0
      have O2 := Lib.hid o2
      have D2 := Lib.hid d2
      clear o2 d2 hd g2 x1
      have hln : l.length ≤ 1048576 := by omega
      by_cases hx0 : x = 0
      · subst hx0
        go_wp2_with fail
        refine (pick_ds D2.out [0, 1, 367] 3 _ (by rfl) _ (by rfl) rfl (by omega) (by omega)).mono ?_
        rintro e w3 ⟨y, rfl, hy, d3, g3⟩
        have hyb : 0 ≤ y ∧ y ≤ 367 := by
          simp only [List.mem_cons, List.not_mem_nil, or_false] at hy
          omega
        have O3 := Lib.hid (DS.own (O2.out.alloc _) g3 hg0)
        have D3 := Lib.hid d3
        clear hy g3 d3
        go_wp2_with fail
        refine (pick_ds D3.out [-1, 100000, 100001] 3 _ (by rfl) _ (by rfl) rfl (by omega) (by omega)).mono ?_
        rintro e w4 ⟨z, rfl, hz, d4, g4⟩
        have hzb : -1 ≤ z ∧ z ≤ 100001 := by
          simp only [List.mem_cons, List.not_mem_nil, or_false] at hz
          omega
        have hs4 := d4.size.1
        have O4 := Lib.hid (DS.own (O3.out.alloc _) g4 hg0)
        have D4 := Lib.hid d4
        clear hz g4 d4
        go_wp2_with (at_builtin; refine wpList_append_task rfl (.tmp 29) (.tmp 37) rfl w0.heap.size _ _ _ rfl O4.out _ _ rfl hln hs4 ?_; intro v5 w5 own5 hb5 hz5; have O5 := Lib.hid own5; clear own5)
        obtain ⟨A5, c5, rfl⟩ := own_val O5.out
        go_ret
        exact ⟨l ++ [(y, z)], A5, c5, by simp, tOk_app Hok.out ⟨by simp only; omega, by simp only; omega, by simp only; omega, by simp only; omega⟩, by simp; omega, by simpa using O5.out, D4.out.below hb5⟩
      · have b0 : (x == 0) = false := by rw [beq_eq_false_iff_ne]; exact hx0
        by_cases hx1 : x = 1
        · subst hx1
          clear hx0
          have O3 := Lib.hid (World.ownsRow_made (base := w0.heap.size) (e := 65) (size := 2) w2 #[] 0 D2.out.size.1 (by simp [maxLen]) rfl)
          go_wp2_with fail
          go_loopw [3, 5] (fun v k wr => ∃ l : List (Int × Int), k = .int .i64 (l.length : Int) ∧ l.length ≤ 13 ∧ (∀ t ∈ l, tOk t) ∧ wr.ownsRow w0.heap.size 65 2 v l.length (l.flatMap eTask) ∧ DS w0 wr g B C cap bl) (fun _ k _ => (13 - intOf k).toNat)
          case atStart => exact ⟨[], rfl, by simp, by simp, O3.out, D2.out.alloc _⟩
          case round =>
            clear Hok Ho Hl4 hln O3
            obtain ⟨l, rfl, hl13, hok, hown, hd⟩ := hrel
            have Hok := Lib.hid hok
            have hln : l.length ≤ 1048576 := by omega
            clear hok
            go_wp2_with fail
            refine (next_ds hd 2).mono ?_
            rintro e w3 ⟨y, rfl, y0, y1, d3, g3⟩
            have O3 := Lib.hid (DS.own hown g3 hg0)
            have D3 := Lib.hid d3
            have hs3 := d3.size.1
            have y2 : y ≤ 1 := by omega
            clear hown hd g3 d3 y1
            by_cases hlt : (l.length : Int) < 12 + y
            · go_wp2_with (at_builtin; refine wpList_append_task rfl (.tmp 49) (.tmp 53) rfl w0.heap.size _ _ _ rfl O3.out _ _ rfl hln hs3 ?_; intro v5 w5 own5 hb5 hz5; have O5 := Lib.hid own5; clear own5)
              go_roundw
              case rel => exact ⟨l ++ [(1 + (l.length : Int), 0)], by simp, by simp; omega, tOk_app Hok.out ⟨by simp only; omega, by simp only; omega, by simp only; omega, by simp only; omega⟩, by simpa using O5.out, D3.out.below hb5⟩
              case measure => simp [intOf]; omega
            · go_wp2
              obtain ⟨A5, c5, rfl⟩ := own_val O3.out
              go_ret
              exact ⟨l, A5, c5, rfl, Hok.out, by omega, O3.out, D3.out⟩
        · have b1 : (x == 1) = false := by rw [beq_eq_false_iff_ne]; exact hx1
          go_wp2
          obtain ⟨A5, c5, rfl⟩ := own_val O2.out
          go_ret
          exact ⟨l, A5, c5, rfl, Hok.out, by omega, O2.out, D2.out⟩
end Go.Proofs.Ytmbchcenclfjoaa
