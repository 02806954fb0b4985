/- A queue of numbers: a slice that lies somewhere in a block of the call's own, is cut at its front and appended to. -/
import Derived.Test.YtakchdkoildkbaaDoorRu
import Derived.Deep.AppendSrc
namespace Go.Proofs.YtakchdkoildkbaaDoor
open Go.ChangeShapes Go.WideShapes Go.ChangeAt Go.RowKit
set_option linter.unusedVariables false
set_option linter.unusedSimpArgs false
/-- v lies in block g and reads as L -/
def Que (w : World) (base : Nat) (v : Value) (L : List Int) (g cap : Nat) : Prop :=
  ∃ off cur, v = .slice (some ⟨g, off, none⟩) L.length cap ∧ base ≤ g ∧ w.heap[g]? = some (.cells cur 2 (0, 0)) ∧ L.length ≤ cap ∧ cap ≤ maxLen ∧ off + cap ≤ cur.size ∧ ∀ j u, (ints L)[j]? = some u → cur[off + j]? = some u
section
variable {w w' : World} {base : Nat} {v : Value} {L : List Int} {g cap : Nat}
theorem Que.lt (h : Que w base v L g cap) : base ≤ g ∧ g < w.heap.size := by
  obtain ⟨off, cur, _, hb, hg, _⟩ := h
  refine ⟨hb, ?_⟩
  rcases Nat.lt_or_ge g w.heap.size with h1 | h1
  · exact h1
  · rw [Array.getElem?_eq_none h1] at hg; cases hg
theorem Que.keep (h : Que w base v L g cap) (hk : w'.heap[g]? = w.heap[g]?) : Que w' base v L g cap := by
  obtain ⟨off, cur, hv, hb, hg, r⟩ := h
  exact ⟨off, cur, hv, hb, hk.trans hg, r⟩
theorem Que.below (h : Que w base v L g cap) (hb : Below w.heap.size w w') : Que w' base v L g cap := h.keep (hb.block g h.lt.2)
theorem Que.alloc (h : Que w base v L g cap) (o : Obj) : Que (w.alloc o) base v L g cap := h.keep (Below.heap_alloc w o g h.lt.2)
theorem Que.grown {row : Option Nat} (h : Que w base v L g cap) (hg : w.grownBy w' row) (hne : row ≠ some g) : Que w' base v L g cap := h.keep (hg.block g h.lt.2 (fun e => hne e.symm))
theorem Que.val (h : Que w base v L g cap) : ∃ off, v = .slice (some ⟨g, off, none⟩) L.length cap ∧ L.length ≤ cap ∧ cap ≤ maxLen := by
  obtain ⟨off, cur, hv, _, _, h1, h2, _⟩ := h
  exact ⟨off, hv, h1, h2⟩
theorem Que.head {x : Int} {T : List Int} {off n : Nat} (h : Que w base (.slice (some ⟨g, off, none⟩) n cap) (x :: T) g cap) : w.cell? ⟨g, off, none⟩ = some (.int .i64 x) := by
  obtain ⟨off', cur, hv, hb, hg, h1, h2, h3, h4⟩ := h
  injection hv with e1 e2 e3
  injection e1 with e1
  injection e1 with _ e4
  subst e4
  have := h4 0 (.int .i64 x) rfl
  rw [cell_of_row w g off _ _ _ hg]
  simpa using this
theorem Que.tail {x : Int} {T : List Int} {off n : Nat} (h : Que w base (.slice (some ⟨g, off, none⟩) n cap) (x :: T) g cap) : Que w base (.slice (some ⟨g, off + 1, none⟩) T.length (cap - 1)) T g (cap - 1) := by
  obtain ⟨off', cur, hv, hb, hg, h1, h2, h3, h4⟩ := h
  injection hv with e1 e2 e3
  injection e1 with e1
  injection e1 with _ e4
  subst e4
  simp only [List.length_cons] at h1
  refine ⟨off + 1, cur, rfl, hb, hg, by omega, by unfold maxLen at *; omega, by omega, fun j u hu => ?_⟩
  have := h4 (j + 1) u (by simpa [ints] using hu)
  rw [show off + 1 + j = off + (j + 1) by omega]
  exact this
theorem que_new (x : Int) (hb : base ≤ w.heap.size) : Que (w.alloc (.cells #[.int .i64 x] 2)) base (.slice (some ⟨w.heap.size, 0, none⟩) 1 1) [x] w.heap.size 1 := by
  refine ⟨0, #[.int .i64 x], rfl, hb, heap_alloc_new w _, by simp, by simp [maxLen], by simp, fun j u hu => ?_⟩
  cases j with
  | zero => simp [ints] at hu; subst hu; rfl
  | succ j => simp [ints] at hu
end
theorem run_append_que {w : World} (base : Nat) (ty : TypeId) (i : TypeInfo) (hi : Tryd.prog.info? 2 = some i) (hz : i.zero = some (.int .i64 0)) (hsize : i.size = 1) (hby : i.bytes = 8)
    (v : Value) (L : List Int) (g cap : Nat) (h : Que w base v L g cap) (q : Nat) (z : Int) (hq : w.cell? ⟨q, 0, none⟩ = some (.int .i64 z)) (hn : L.length ≤ 1048576) (hbase : base ≤ w.heap.size) :
    ∃ v' w' g' cap', (Builtin.append_ #[22, 22] ty #[v, .slice (some ⟨q, 0, none⟩) 1 1]).run Tryd.prog w = .ok v' w' ∧ Que w' base v' (L ++ [z]) g' cap' ∧ (g' = g ∨ w.heap.size ≤ g') ∧ w.grownBy w' (some g) := by
  obtain ⟨off, cur, hv, hb, hg, h1, h2, h3, h4⟩ := h
  subst hv
  have hsrc : Src Tryd.prog i.size 22 (.slice (some ⟨q, 0, none⟩) 1 1) 1 [.int .i64 z] w := Src.ofSlice (P := Tryd.prog) w Tryd.underlying22 ⟨q, 0, none⟩ 1 1 [.int .i64 z] (by rw [hsize]; rfl) (fun j u hu => by
    cases j with
    | zero => simp at hu; subst hu; simpa [Addr.add] using hq
    | succ j => simp at hu) (by simp [Value.oneCell'])
  have hglt : g < w.heap.size := by
    rcases Nat.lt_or_ge g w.heap.size with h | h
    · exact h
    · rw [Array.getElem?_eq_none h] at hg; cases hg
  by_cases hroom : L.length + 1 ≤ cap
  · have hcell : w.cell? ⟨g, off + L.length, none⟩ = cur[off + L.length]? := cell_of_row w g _ _ _ _ hg
    have hin : off + L.length < cur.size := by omega
    have hr := run_append_room_src (P := Tryd.prog) w 22 22 ty 2 i Tryd.underlying22 hi g off L.length cap _ 1 _ hsrc hroom
      (fun j hj => by
        have : j = 0 := by simp at hj; omega
        subst this
        rw [hsize, Nat.mul_one, Nat.add_zero, hcell, Array.getElem?_eq_getElem hin]; rfl)
      (fun j hj => by simp [World.frozen?, hg])
    rw [hsize, Nat.mul_one] at hr
    refine ⟨_, _, g, cap, hr, ⟨off, cur.setIfInBounds (off + L.length) (.int .i64 z), by rw [List.length_append]; rfl, hb, ?_, by rw [List.length_append]; exact hroom, h2, by simpa using h3, fun j u hu => ?_⟩, .inl rfl, ?_⟩
    · show (w.setCell ⟨g, off + L.length, none⟩ (.int .i64 z)).heap[g]? = _
      rw [heap_setCell_same w g _ _ _ _ hg]
    · rw [Array.getElem?_setIfInBounds]
      have hj : j < L.length + 1 := by have := (List.getElem?_eq_some_iff.1 hu).1; simpa [ints] using this
      by_cases e : j = L.length
      · subst e
        rw [if_pos rfl, if_pos hin]
        simp [ints] at hu
        rw [← hu]
      · rw [if_neg (by omega)]
        refine h4 j u ?_
        rw [← hu]
        simp only [ints, List.map_append]
        rw [List.getElem?_append_left (by simp; omega)]
    · show w.grownBy (w.setCell ⟨g, off + L.length, none⟩ (.int .i64 z)) (some g)
      exact ⟨rfl, rfl, rfl, by simp, fun k _ hk => heap_setCell_other w ⟨g, off + L.length, none⟩ k _ (fun e => hk (by simp [e]))⟩
  · have hfc : (Builtin.firstCells i.size L.length (.slice (some ⟨g, off, none⟩) L.length cap)).run Tryd.prog w.drew = .ok (ints L).toArray w.drew :=
      run_firstCells_some (P := Tryd.prog) w.drew i.size L.length ⟨g, off, none⟩ L.length cap (ints L) (by rw [hsize, ints_length, Nat.mul_one]) (fun j u hu => by
        have := h4 j u hu
        have hc := cell_of_row w g (off + j) _ _ _ hg
        rw [this] at hc
        by_cases h0 : j = 0
        · subst h0; simpa [Addr.add] using hc
        · simpa [Addr.add, h0] using hc)
    have hr := run_append_grow_src (P := Tryd.prog) w 22 22 ty 2 i (.int .i64 0) Tryd.underlying22 hi hz (some ⟨g, off, none⟩) L.length cap (ints L) hfc _ 1 _ hsrc (by omega) (by omega) (by rw [hby]; exact growslice_fits (by omega) (by omega))
    have hge := grownCap_ge w (L.length + 1) cap 2
    have hcm := grownCap_le_maxLen w (L.length + 1) cap 2 (by unfold maxLen; omega)
    refine ⟨_, _, w.heap.size, _, hr, ⟨0, _, by rw [List.length_append]; rfl, hbase, heap_alloc_new w.drew _, by rw [List.length_append]; exact hge, hcm, ?_, fun j u hu => ?_⟩, .inr (Nat.le_refl _), ?_⟩
    · rw [Array.size_append, size_zeroCells]
      simp [ints_length, Value.cells]
      omega
    · rw [Nat.zero_add]
      have hj : j < (ints L ++ [Value.int .i64 z]).toArray.size := by have := (List.getElem?_eq_some_iff.1 hu).1; simpa [ints] using this
      rw [Array.getElem?_append_left hj]
      rw [← hu]
      simp [ints]
    · exact ⟨rfl, rfl, rfl, by simp, fun k hk _ => Below.heap_alloc w.drew _ k hk⟩
theorem wpList_append_que {w : World} {ops : Array Oper} {rest : List Oper} {o : Oper} {a : Act} {Q : Exit → Act → World → Prop} (hgd : o.guard = none) (s x : Operand)
    (ho : o.op = .call { callee := .builtin .append, args := #[s, x], argTypes := #[22, 22] }) (base : Nat)
    (v : Value) (L : List Int) (g cap : Nat) (hs : a.eval s = v) (h : Que w base v L g cap) (z : Int) (hx : a.eval x = .slice (some ⟨w.heap.size, 0, none⟩) 1 1) (hn : L.length ≤ 1048576) (hbase : base ≤ w.heap.size)
    (hk : ∀ v' w' g' cap', Que w' base v' (L ++ [z]) g' cap' → (g' = g ∨ w.heap.size ≤ g') → w.grownBy w' (some g) → w.heap.size < w'.heap.size → wpList Tryd.prog ops Q rest (a.put o.dst v') w') : wpList Tryd.prog ops Q (o :: rest) a (w.alloc (.cells #[.int .i64 z] 2)) := by
  obtain ⟨i0, hi0, hz0, hz1, hz2⟩ := info_parts infoInt64
  obtain ⟨v', w', g', cap', hr, h1, h2, h3⟩ := run_append_que (w := w.alloc (.cells #[.int .i64 z] 2)) base o.type i0 hi0 hz0 hz1 hz2 v L g cap (h.alloc _) w.heap.size z (by simp) hn (by simp; omega)
  refine wpList_plain hgd fun _ hK => ?_
  unfold Oper.wp execOp
  simp only [ho, resolve, invoke, builtin, Sem.run_bind, Sem.run_pure, Result.andThen_ok, List.map_toArray, List.map_cons, List.map_nil, hs, hx, hr]
  have hsz := h3.size
  simp only [World.size_alloc] at hsz h2
  refine hK _ _ (hk v' w' g' cap' h1 (by omega) ?_ (by omega))
  exact ⟨h3.os, h3.tape, h3.output, by omega, fun k hk hne => (h3.block k (by simp; omega) hne).trans (Below.heap_alloc w _ k hk)⟩
end Go.Proofs.YtakchdkoildkbaaDoor
