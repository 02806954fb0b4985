/- The table of commands, read off the row's premise. -/
import Derived.Test.YtakchdkoildkbaaDoorV
import Derived.ChangeSame
import Derived.ChangeVars
import Derived.LaidLaws
import Derived.Stop.Joined
namespace Go.Proofs.YtakchdkoildkbaaDoor
open Go.ChangeShapes Go.WideShapes Go.ChangeAt Go.RowKit
set_option linter.unusedVariables false
set_option linter.unusedSimpArgs false
set_option maxRecDepth 20000
theorem gTab : Tryd.prog.globalNamed "loop.example/g00916/impl.commandRows" = some 0 := by kernel_rfl
theorem gTabType : (Tryd.prog.globals[0]?).map (·.type) = some 79 := by kernel_rfl
theorem cells79 : Tryd.prog.cellsOf 79 = 40 := by kernel_rfl
theorem cells78 : Tryd.prog.cellsOf 78 = 4 := by kernel_rfl
theorem cells2 : Tryd.prog.cellsOf 2 = 1 := by kernel_rfl
theorem cells4 : Tryd.prog.cellsOf 4 = 1 := by kernel_rfl
section
variable {H : Type} {enc : TypeId × Value → H} {w : World} {base : Nat} {sp : Nat → Bool} {held : Bool}
theorem int_of_trod {fuel : Nat} {c : Value} {y : DataW H × List MemPlace} (h : DataW.trod enc Tryd.prog w base sp held fuel 2 [c] = some y) : ∃ n, c = .int .i64 n ∧ y = (.lit (.int .i64 n), []) := by
  cases fuel with
  | zero => simp [DataW.trod] at h
  | succ fuel =>
    cases c <;> simp [DataW.trod, Tryd.underlying2] at h
    rename_i k' n
    obtain ⟨⟨rfl, _⟩, rfl⟩ := h
    exact ⟨n, rfl, rfl⟩
theorem bool_of_trod {fuel : Nat} {c : Value} {y : DataW H × List MemPlace} (h : DataW.trod enc Tryd.prog w base sp held fuel 4 [c] = some y) : ∃ n, c = .bool n ∧ y = (.lit (.bool n), []) := by
  cases fuel with
  | zero => simp [DataW.trod] at h
  | succ fuel =>
    cases c <;> simp [DataW.trod, Tryd.underlying4] at h
    subst h
    exact ⟨_, rfl, rfl⟩
theorem row_of_trod {fuel : Nat} {cs : List Value} {y : DataW H × List MemPlace} (h : DataW.trod enc Tryd.prog w base sp held fuel 78 cs = some y) :
    ∃ a b c q, cs = [.int .i64 a, .int .i64 b, .int .i64 c, .bool q] ∧ y = (.agg [.lit (.int .i64 a), .lit (.int .i64 b), .lit (.int .i64 c), .lit (.bool q)], []) := by
  cases fuel with
  | zero => simp [DataW.trod] at h
  | succ fuel =>
    simp only [DataW.trod, Tryd.underlying78, cells78, cells2, cells4] at h
    split at h
    · rename_i hl
      obtain ⟨c0, c1, c2, c3, rfl⟩ : ∃ c0 c1 c2 c3, cs = [c0, c1, c2, c3] := by
        match cs, hl with
        | [a, b, c, d], _ => exact ⟨a, b, c, d, rfl⟩
      simp only [Option.map_eq_some_iff, List.mapM_cons, List.mapM_nil, Option.bind_eq_bind, Option.bind_eq_some_iff, Option.pure_def, Option.some.injEq, cells2, cells4] at h
      obtain ⟨xs, ⟨y0, h0, _, ⟨y1, h1, _, ⟨y2, h2, _, ⟨y3, h3, _, rfl, rfl⟩, rfl⟩, rfl⟩, rfl⟩, rfl⟩ := h
      simp at h0 h1 h2 h3
      obtain ⟨n0, rfl, rfl⟩ := int_of_trod h0
      obtain ⟨n1, rfl, rfl⟩ := int_of_trod h1
      obtain ⟨n2, rfl, rfl⟩ := int_of_trod h2
      obtain ⟨n3, rfl, rfl⟩ := bool_of_trod h3
      exact ⟨_, _, _, _, rfl, rfl⟩
    · cases h
end
abbrev tabName : String := "loop.example/g00916/impl.commandRows"
theorem four (cs : List Value) (n : Nat) : cs.drop n = (cs.drop n).take 4 ++ cs.drop (n + 4) := by
  conv => lhs; rw [← List.take_append_drop 4 (cs.drop n)]
  rw [List.drop_drop]
theorem forty {cs : List Value} (h : cs.length = 40) : cs = (cs.drop 0).take 4 ++ ((cs.drop 4).take 4 ++ ((cs.drop 8).take 4 ++ ((cs.drop 12).take 4 ++ ((cs.drop 16).take 4 ++ ((cs.drop 20).take 4 ++ ((cs.drop 24).take 4 ++ ((cs.drop 28).take 4 ++ ((cs.drop 32).take 4 ++ (cs.drop 36).take 4)))))))) := by
  have e : cs = cs.drop 0 := rfl
  have l : cs.drop 40 = [] := by rw [List.drop_eq_nil_iff]; omega
  conv => lhs; rw [e, four cs 0, four cs 4, four cs 8, four cs 12, four cs 16, four cs 20, four cs 24, four cs 28, four cs 32, four cs 36, l, List.append_nil]
theorem tab_of_laid {W : World} (h : laidMet Tryd.prog [(tabName, Rows.laid_loop_example_g00916_impl_commandRows)] W) : W.var? Tryd.prog tabName = some tabL.toArray := by
  obtain ⟨ps, ⟨g, t, cs, fuel, p, q, hg, ht, hvar, hd, _, _⟩, _⟩ := h
  obtain rfl := Option.some.inj (gTab.symm.trans hg)
  obtain rfl := Option.some.inj (gTabType.symm.trans ht)
  rw [hvar]
  congr 1
  obtain ⟨l⟩ := cs
  cases fuel with
  | zero => simp [DataW.trod] at hd
  | succ fuel =>
    simp only [DataW.trod, Tryd.underlying79, cells79, cells78] at hd
    split at hd
    · rename_i hl
      have e : List.range 10 = [0, 1, 2, 3, 4, 5, 6, 7, 8, 9] := rfl
      rw [e] at hd
      simp only [Option.map_eq_some_iff, List.mapM_cons, List.mapM_nil, Option.bind_eq_bind, Option.bind_eq_some_iff, Option.pure_def, Option.some.injEq] at hd
      obtain ⟨xs, ⟨y0, h0, _, ⟨y1, h1, _, ⟨y2, h2, _, ⟨y3, h3, _, ⟨y4, h4, _, ⟨y5, h5, _, ⟨y6, h6, _, ⟨y7, h7, _, ⟨y8, h8, _, ⟨y9, h9, _, rfl, rfl⟩, rfl⟩, rfl⟩, rfl⟩, rfl⟩, rfl⟩, rfl⟩, rfl⟩, rfl⟩, rfl⟩, hx⟩ := hd
      obtain ⟨a0, b0, c0, q0, r0, rfl⟩ := row_of_trod h0
      obtain ⟨a1, b1, c1, q1, r1, rfl⟩ := row_of_trod h1
      obtain ⟨a2, b2, c2, q2, r2, rfl⟩ := row_of_trod h2
      obtain ⟨a3, b3, c3, q3, r3, rfl⟩ := row_of_trod h3
      obtain ⟨a4, b4, c4, q4, r4, rfl⟩ := row_of_trod h4
      obtain ⟨a5, b5, c5, q5, r5, rfl⟩ := row_of_trod h5
      obtain ⟨a6, b6, c6, q6, r6, rfl⟩ := row_of_trod h6
      obtain ⟨a7, b7, c7, q7, r7, rfl⟩ := row_of_trod h7
      obtain ⟨a8, b8, c8, q8, r8, rfl⟩ := row_of_trod h8
      obtain ⟨a9, b9, c9, q9, r9, rfl⟩ := row_of_trod h9
      clear h0 h1 h2 h3 h4 h5 h6 h7 h8 h9
      have hf := forty hl
      simp only [Nat.reduceMul] at r0 r1 r2 r3 r4 r5 r6 r7 r8 r9
      rw [r0, r1, r2, r3, r4, r5, r6, r7, r8, r9] at hf
      simp [Rows.laid_loop_example_g00916_impl_commandRows] at hx
      rw [hf]
      obtain ⟨hx, _⟩ := hx
      simp_all [tabL, tabC, fK, toK, leastK, keyK, List.range, List.range.loop]
    · cases hd
theorem reads_table {H : Type} (enc : TypeId × Value → H) (W : World) (sp : Nat → Bool) : DataW.trod enc Tryd.prog W 0 sp true 4 79 tabL = some (Rows.laid_loop_example_g00916_impl_commandRows, []) := by kernel_rfl
theorem rd_of_var {W : World} (h : W.var? Tryd.prog tabName = some tabL.toArray) (h0 : 0 < W.heap.size) : Rd W W.heap.size (some ⟨0, 0, none⟩) tabL := fun _ =>
  ⟨0, 0, rfl, h0, fun j u hu => by
    rw [Nat.zero_add, World.var?_cell gTab h j]
    simpa using hu⟩
noncomputable def laidWorld (os : Os) : World :=
  { World.holding Tryd.prog os ⟨#[], #[], []⟩ with heap := (World.holding Tryd.prog os ⟨#[], #[], []⟩).heap.modify 0 fun
      | .cells _ t frozen => .cells tabL.toArray t frozen
      | o => o }
theorem laid_met (os : Os) (args : Array Value) : laidMet Tryd.prog [(tabName, Rows.laid_loop_example_g00916_impl_commandRows)] ((laidWorld os).forCall (fun _ _ => 0) ⟨#[], args, []⟩).memory :=
  laidMet_of_run' 8 (by kernel_rfl) (by kernel_rfl)
end Go.Proofs.YtakchdkoildkbaaDoor
