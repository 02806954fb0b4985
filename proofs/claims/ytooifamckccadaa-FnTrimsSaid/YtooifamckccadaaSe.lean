/- The segment at a place of a run; a list of intervals made longer. -/
import Derived.Test.YtooifamckccadaaDe
import Derived.Test.YtooifamckccadaaIv
import Derived.Test.YtooifamckccadaaApp
import Derived.Deep.DeepCutAuto
import Derived.Deep.RegionHeld3
namespace Go.Proofs.Ytooifamckccadaa
open Go.ChangeShapes Go.WideShapes Go.ChangeAt Go.RowKit
set_option maxRecDepth 20000
set_option linter.unusedVariables false
set_option linter.unusedSimpArgs false
theorem eInterval_one (t : Int × Int) : ∀ u ∈ eInterval t, u.oneCell' = true := by
  intro u hu
  simp only [eInterval, List.mem_cons, List.not_mem_nil, or_false] at hu
  rcases hu with rfl | rfl <;> rfl
theorem rd_iv (w : World) (x y : Int) (e : TypeId) : Rd (w.alloc (.cells #[.int .i64 x, .int .i64 y] e)) (w.heap.size + 1) (some ⟨w.heap.size, 0, none⟩) (eInterval (x, y)) := fun _ => by
  refine ⟨w.heap.size, 0, rfl, by omega, fun j u hu => ?_⟩
  have hh := heap_alloc_new w (.cells #[.int .i64 x, .int .i64 y] e)
  simp only [World.cell?, Nat.zero_add]
  rw [hh]
  simpa [eInterval] using hu
/-- append of one interval to a row of the call's own -/
theorem wpList_append_iv {w : World} {ops : Array Oper} {rest : List Oper} {o : Oper} {a : Act} {Q : Exit → Act → World → Prop} (hgd : o.guard = none) (s x : Operand)
    (ho : o.op = .call { callee := .builtin .append, args := #[s, x], argTypes := #[64, 64] })
    (base : Nat) (v : Value) (n : Nat) (l : List (Int × Int)) (hs : a.eval s = v) (hown : w.ownsRow base 29 2 v n (l.flatMap eInterval)) (p q : Int) (g : Nat) (hgw : g = w.heap.size) (hx : a.eval x = .slice (some ⟨g, 0, none⟩) 1 1)
    (hn : n ≤ 1048576) (hbase : base ≤ w.heap.size)
    (h : ∀ v' w', w'.ownsRow base 29 2 v' (n + 1) ((l ++ [(p, q)]).flatMap eInterval) → Below base w w' → w.heap.size < w'.heap.size → wpList Try.prog ops Q rest (a.put o.dst v') w') :
    wpList Try.prog ops Q (o :: rest) a (w.alloc (.cells #[.int .i64 p, .int .i64 q] 29)) := by
  subst hgw
  obtain ⟨i0, hi0, hz0, hz1, hz2⟩ := info_parts infoInterval
  refine wpList_append_rd hgd s x 64 ho base 29 i0 _ 2 16 Try.underlying64 hi0 hz0 hz1 hz2 rfl (by decide) v n _ hs (hown.alloc _) (w.heap.size + 1) _ 1 1 (eInterval (p, q)) hx rfl (rd_iv w p q _) (eInterval_one _) (by unfold maxLen; omega) (by omega) (by simp; omega) ?_
  intro v' w' h1 h2 h3
  refine h v' w' (by simpa using h1) (((Below.refl _ _).alloc hbase _).trans h2) (by simp at h3; omega)
theorem segT_at {ls : List Seg} (h : layB ls = true) {k : Nat} {t : Seg} (hk : ls[k]? = some t) : segT t = true := by
  have := (lay_all h).1
  rw [List.all_eq_true] at this
  exact this t (List.mem_of_getElem? hk)
theorem tmod_nat (a b : Nat) : Int.tmod (a : Int) (b : Int) = ((a % b : Nat) : Int) := by
  rw [Int.tmod_eq_emod_of_nonneg (by omega)]; exact (Int.natCast_emod a b).symm
theorem l06Segment_any (ls : List Seg) (k : Nat) (t : Seg) (h0 : 0 < ls.length) (hk : ls[k % ls.length]? = some t) (A : Option Addr) (B c : Nat) (w : World) (hr : Rd w B A (ls.flatMap eSegment)) (hB : B ≤ w.heap.size) :
   Calls Try.prog 150 #[.agg #[.slice A ls.length c], .int .i64 k] w fun e w' => e = .returned (.agg #[.int .i64 t.1, .int .i64 t.2.1, .int .i64 t.2.2.1, .int .i64 t.2.2.2.1, .int .i64 t.2.2.2.2.1, .int .i64 t.2.2.2.2.2.1, .int .i64 t.2.2.2.2.2.2]) ∧ Below w.heap.size w w' := by
  have hm := Nat.mod_lt k h0
  have e1 := tmod_nat k ls.length
  generalize k % ls.length = j at hk hm e1
  obtain ⟨b, o, rfl, hbB, c0, c1, c2, c3, c4, c5, c6⟩ := (hr.alloc hB (.cells #[.slice A ls.length c] 26)).atSegment hk
  have hbw : b < w.heap.size := by omega
  have hi0 : (0 : Int) ≤ (j : Int) := by omega
  have hi1 : (j : Int) < (ls.length : Int) := by omega
  have hne : ((ls.length : Int) == 0) = false := by rw [beq_eq_false_iff_ne]; omega
  clear hr hk
  go_enter Try.func150, Try.ntmps150
  go_wp2_with fail
  go_region
  all_goals go_wp2
  all_goals refine bodyPost_ret (v := .agg #[.int .i64 t.1, .int .i64 t.2.1, .int .i64 t.2.2.1, .int .i64 t.2.2.2.1, .int .i64 t.2.2.2.2.1, .int .i64 t.2.2.2.2.2.1, .int .i64 t.2.2.2.2.2.2]) (by simp [results, Try.results150, go_sem, *]) rfl ?_
  all_goals exact ⟨rfl, by repeat' (first | (with_reducible exact Below.refl _ _) | (with_reducible assumption) | (with_reducible refine Below.alloc ?_ ?_ _) | (with_reducible refine Below.drew ?_) | (with_reducible refine below_drewN ?_ _) | (with_reducible refine Below.setCell ?_ ?_ _) | (with_reducible refine Below.trans ?_ (Below.mono (by assumption) ?_)) | go_size | (exact Below.size (by assumption)))⟩
end Go.Proofs.Ytooifamckccadaa
