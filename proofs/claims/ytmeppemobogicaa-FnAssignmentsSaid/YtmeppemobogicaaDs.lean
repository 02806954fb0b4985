/- Draws of stops and of crews. -/
import Derived.Test.YtmeppemobogicaaDr
import Derived.Test.YtmeppemobogicaaB
import Derived.Test.YtmeppemobogicaaApp
namespace Go.Proofs.Ytmeppemobogicaa
open Go.ChangeShapes Go.WideShapes Go.ChangeAt Go.RowKit
set_option maxRecDepth 20000
set_option linter.unusedVariables false
set_option linter.unusedSimpArgs false
theorem infoStop : (Try.prog.info? 54).map (fun i => (i.zero, i.size, i.bytes)) = some (some (.agg #[.int .i64 0, .int .i64 0]), 2, 16) := by kernel_rfl
theorem eStop_one (t : Int × Int) : ∀ u ∈ eEvacuationStop t, u.oneCell' = true := by
  intro u hu
  simp only [eEvacuationStop, List.mem_cons, List.not_mem_nil, or_false] at hu
  rcases hu with rfl | rfl <;> rfl
theorem rd_stop (w : World) (x y : Int) (e : TypeId) : Rd (w.alloc (.cells #[.int .i64 x, .int .i64 y] e)) (w.heap.size + 1) (some ⟨w.heap.size, 0, none⟩) (eEvacuationStop (x, y)) := fun _ => by
  refine ⟨w.heap.size, 0, rfl, by omega, fun j u hu => ?_⟩
  have hh := heap_alloc_new w (.cells #[.int .i64 x, .int .i64 y] e)
  simp only [World.cell?, Nat.zero_add]
  rw [hh]
  simpa [eEvacuationStop] using hu
theorem wpList_append_stop {w : World} {ops : Array Oper} {rest : List Oper} {o : Oper} {a : Act} {Q : Exit → Act → World → Prop} (hgd : o.guard = none) (s x : Operand)
    (ho : o.op = .call { callee := .builtin .append, args := #[s, x], argTypes := #[25, 25] })
    (base : Nat) (v : Value) (n : Nat) (l : List (Int × Int)) (hs : a.eval s = v) (hown : w.ownsRow base 54 2 v n (l.flatMap eEvacuationStop)) (p q : Int) (hx : a.eval x = .slice (some ⟨w.heap.size, 0, none⟩) 1 1)
    (hn : n ≤ 1048576) (hbase : base ≤ w.heap.size)
    (h : ∀ v' w', w'.ownsRow base 54 2 v' (n + 1) ((l ++ [(p, q)]).flatMap eEvacuationStop) → Below base w w' → w.heap.size < w'.heap.size → wpList Try.prog ops Q rest (a.put o.dst v') w') :
    wpList Try.prog ops Q (o :: rest) a (w.alloc (.cells #[.int .i64 p, .int .i64 q] 54)) := by
  obtain ⟨i0, hi0, hz0, hz1, hz2⟩ := info_parts infoStop
  refine wpList_append_rd hgd s x 25 ho base 54 i0 _ 2 16 Try.underlying25 hi0 hz0 hz1 hz2 rfl (by decide) v n _ hs (hown.alloc _) (w.heap.size + 1) _ 1 1 (eEvacuationStop (p, q)) hx rfl (rd_stop w p q _) (eStop_one _) (by unfold maxLen; omega) (by omega) (by simp; omega) ?_
  intro v' w' h1 h2 h3
  refine h v' w' (by simpa using h1) (((Below.refl _ _).alloc hbase _).trans h2) (by simp at h3; omega)
def StopsP (w0 : World) (g B : Nat) (C : Option Addr) (cap : Nat) (bl : List Int) (e : Ending) (w' : World) : Prop :=
  ∃ (l : List (Int × Int)) (A : Option Addr) (c : Nat), e = .returned (.slice A l.length c) ∧ l.length ≤ 8 ∧ w'.ownsRow w0.heap.size 54 2 (.slice A l.length c) l.length (l.flatMap eEvacuationStop) ∧ DS w0 w' g B C cap bl
set_option maxHeartbeats 1000000 in
theorem l30Draw_any (w0 : World) (g B : Nat) (C : Option Addr) (cap : Nat) (bl : List Int) (h : DS w0 w0 g B C cap bl) :
   Calls Try.prog 65 #[.pointer (some ⟨g, 0, none⟩)] w0 (StopsP w0 g B C cap bl) := by
  have hg0 := h.size.2
  have H := Lib.hid h
  clear h
  go_enter Try.func65, Try.ntmps65
  go_wp2_with fail
  refine (next_ds (H.out.alloc (.cells #[] 54)) 7).mono ?_
  rintro e w1 ⟨q, rfl, q0, q1, d1, g1⟩
  have o1 := DS.own (World.ownsRow_made (base := w0.heap.size) (e := 54) (size := 2) w0 #[] 0 (Nat.le_refl _) (by simp [maxLen]) rfl) g1 hg0
  have hq4 : q ≤ 6 := by omega
  clear q1
  have O1 := Lib.hid o1
  have D1 := Lib.hid d1
  clear o1 d1 g1
  go_wp2_with fail
  go_loopw [3, 4] (fun v n wr => ∃ (l : List (Int × Int)) (q : Int), n = .int .i64 q ∧ 0 ≤ q ∧ l.length + q ≤ 6 ∧ wr.ownsRow w0.heap.size 54 2 v l.length (l.flatMap eEvacuationStop) ∧ DS w0 wr g B C cap bl) (fun _ n _ => (intOf n).toNat)
  case atStart => exact ⟨[], q, rfl, q0, by simpa using hq4, O1.out, D1.out⟩
  case round =>
    clear q0 hq4
    obtain ⟨l, q, rfl, q0, hq4, hown, hd⟩ := hrel
    by_cases hlt : 0 < q
    · have hsz := hd.size.1
      go_wp2_with fail
      refine (next_ds hd 12).mono ?_
      rintro e w2 ⟨x, rfl, x0, x1, d2, g2⟩
      have o2 := DS.own hown g2 hg0
      have x2 : x ≤ 11 := by omega
      clear hown hd g2 x1
      have O2 := Lib.hid o2
      have D2 := Lib.hid d2
      clear o2 d2
      go_wp2_with fail
      refine (next_ds D2.out 30000).mono ?_
      rintro e w4 ⟨z, rfl, z0, z1, d4, g4⟩
      have O4 := Lib.hid (DS.own O2.out g4 hg0)
      have D4 := Lib.hid d4
      have hln : l.length ≤ 1048576 := by omega
      clear g4 d4
      go_wp2_with fail
      refine (pick_ds D4.out [0, 5000, z, 5001, 10000] 5 _ (by rfl) _ (by rfl) rfl (by omega) (by omega)).mono ?_
      rintro e w3 ⟨y, rfl, hy, d3, g3⟩
      have o3 := DS.own (O4.out.alloc _) g3 hg0
      have O3 := Lib.hid o3
      have hs3 := d3.size.1
      have D3 := Lib.hid d3
      clear hy g3 o3 d3 z1
      go_wp2_with (at_builtin; refine wpList_append_stop rfl (.tmp 12) (.tmp 22) rfl w0.heap.size _ _ _ rfl O3.out _ _ rfl hln hs3 ?_; intro v5 w5 own5 hb5 hz5; have O5 := Lib.hid own5; clear own5)
      go_roundw
      case rel => exact ⟨l ++ [(1 + x, y)], q - 1, by go_num, by omega, by simp; omega, by simpa using O5.out, D3.out.below hb5⟩
      case measure => simp [intOf]; omega
    · have Ho := Lib.hid hown
      have hsz := hd.size.1
      clear hown
      have Hl4 : l.length ≤ 6 := by omega
      go_wp2_with fail
      refine (next_ds hd 40).mono ?_
      rintro e w2 ⟨x, rfl, x0, x1, d2, g2⟩
      have o2 := DS.own Ho.out g2 hg0
      have O2 := Lib.hid o2
      have D2 := Lib.hid d2
      clear o2 d2 hd g2 x1
      have hln : l.length ≤ 1048576 := by omega
      by_cases hx0 : x = 0
      · subst hx0
        go_wp2_with fail
        refine (pick_ds D2.out [0, 1, 13] 3 _ (by rfl) _ (by rfl) rfl (by omega) (by omega)).mono ?_
        rintro e w3 ⟨y, rfl, hy, d3, g3⟩
        have O3 := Lib.hid (DS.own (O2.out.alloc _) g3 hg0)
        have D3 := Lib.hid d3
        clear hy g3 d3
        go_wp2_with fail
        refine (pick_ds D3.out [-1, 0, 100000, 100001] 4 _ (by rfl) _ (by rfl) rfl (by omega) (by omega)).mono ?_
        rintro e w4 ⟨z, rfl, hz, d4, g4⟩
        have hs4 := d4.size.1
        have O4 := Lib.hid (DS.own (O3.out.alloc _) g4 hg0)
        have D4 := Lib.hid d4
        clear hz g4 d4
        go_wp2_with (at_builtin; refine wpList_append_stop rfl (.tmp 28) (.tmp 36) rfl w0.heap.size _ _ _ rfl O4.out _ _ rfl hln hs4 ?_; intro v5 w5 own5 hb5 hz5; have O5 := Lib.hid own5; clear own5)
        obtain ⟨A5, c5, rfl⟩ := own_val O5.out
        go_ret
        exact ⟨l ++ [(y, z)], A5, c5, by simp, by simp; omega, by simpa using O5.out, D4.out.below hb5⟩
      · have b0 : (x == 0) = false := by rw [beq_eq_false_iff_ne]; exact hx0
        by_cases hx1 : x = 1
        · subst hx1
          clear hx0
          have O3 := Lib.hid (World.ownsRow_made (base := w0.heap.size) (e := 54) (size := 2) w2 #[] 0 D2.out.size.1 (by simp [maxLen]) rfl)
          go_wp2_with fail
          go_loopw [3] (fun v wr => ∃ l : List (Int × Int), l.length ≤ 7 ∧ wr.ownsRow w0.heap.size 54 2 v l.length (l.flatMap eEvacuationStop) ∧ DS w0 wr g B C cap bl) (fun v _ => match v with | .slice _ n _ => 8 - n | _ => 0)
          case atStart => exact ⟨[], by simp, O3.out, D2.out.alloc _⟩
          case round =>
            clear Ho Hl4 hln O3
            obtain ⟨l, hl13, hown, hd⟩ := hrel
            obtain ⟨A0, k0, rfl⟩ := own_val hown
            have hln : l.length ≤ 1048576 := by omega
            go_wp2_with fail
            refine (next_ds hd 2).mono ?_
            rintro e w3 ⟨y, rfl, y0, y1, d3, g3⟩
            have O3 := Lib.hid (DS.own hown g3 hg0)
            have D3 := Lib.hid d3
            have hs3 := d3.size.1
            have y2 : y ≤ 1 := by omega
            clear hown hd g3 d3 y1
            by_cases hlt : (l.length : Int) < 6 + y
            · go_wp2_with (at_builtin; refine wpList_append_stop rfl (.tmp 47) (.tmp 49) rfl w0.heap.size _ _ _ rfl O3.out _ _ rfl hln hs3 ?_; intro v5 w5 own5 hb5 hz5; obtain ⟨A5, c5, rfl⟩ := own_val own5; have O5 := Lib.hid own5; clear own5)
              go_roundw
              case rel => exact ⟨l ++ [(1, 0)], by simp; omega, by simpa using O5.out, D3.out.below hb5⟩
              case measure => first | (simp; omega) | omega
            · go_wp2
              go_ret
              exact ⟨l, A0, k0, rfl, by omega, O3.out, D3.out⟩
        · have b1 : (x == 1) = false := by rw [beq_eq_false_iff_ne]; exact hx1
          go_wp2
          obtain ⟨A5, c5, rfl⟩ := own_val O2.out
          go_ret
          exact ⟨l, A5, c5, rfl, by omega, O2.out, D2.out⟩
def NumP (w0 : World) (g B : Nat) (C : Option Addr) (cap : Nat) (bl : List Int) (e : Ending) (w' : World) : Prop := ∃ n : Int, e = .returned (.int .i64 n) ∧ -1000 ≤ n ∧ n ≤ 1000 ∧ DS w0 w' g B C cap bl
theorem l30DrawCrews_any (w0 : World) (g B : Nat) (C : Option Addr) (cap : Nat) (bl : List Int) (h : DS w0 w0 g B C cap bl) :
   Calls Try.prog 78 #[.pointer (some ⟨g, 0, none⟩)] w0 (NumP w0 g B C cap bl) := by
  have H := Lib.hid h
  clear h
  go_enter Try.func78, Try.ntmps78
  go_wp2_with fail
  refine (next_ds H.out 24).mono ?_
  rintro e w1 ⟨q, rfl, q0, q1, d1, g1⟩
  have D1 := Lib.hid d1
  clear d1 g1 q1
  by_cases hq : q = 0
  · subst hq
    go_wp2_with fail
    refine (pick_ds D1.out [0, 4, -1] 3 _ (by rfl) _ (by rfl) rfl (by omega) (by omega)).mono ?_
    rintro e w2 ⟨y, rfl, hy, d2, g2⟩
    have hyb : -1 ≤ y ∧ y ≤ 4 := by
      simp only [List.mem_cons, List.not_mem_nil, or_false] at hy
      omega
    have D2 := Lib.hid d2
    clear hy g2 d2
    go_wp2
    go_ret
    exact ⟨y, rfl, by omega, by omega, D2.out⟩
  · have b0 : (q == 0) = false := by rw [beq_eq_false_iff_ne]; exact hq
    go_wp2_with fail
    refine (next_ds D1.out 3).mono ?_
    rintro e w2 ⟨y, rfl, y0, y1, d2, g2⟩
    have D2 := Lib.hid d2
    have y2 : y ≤ 2 := by omega
    clear g2 d2 y1
    go_wp2
    go_ret
    exact ⟨1 + y, rfl, by omega, by omega, D2.out⟩
end Go.Proofs.Ytmeppemobogicaa
