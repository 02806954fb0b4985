/- A layout that came in reads as a list of segments. -/
import Derived.Test.YtooifamckccadaaSg
import Derived.Test.YtooifamckccadaaI
import Derived.ChangeSame
namespace Go.Proofs.Ytooifamckccadaa
open Go.ChangeShapes Go.WideShapes Go.ChangeAt Go.RowKit
set_option linter.unusedVariables false
theorem openLayout {H : Type} {enc : TypeId × Value → H} {W : World} {cs : Array Value} {d : DataW H} {p : List MemPlace} {b0 : Nat} {sp : Nat → Bool} {hd : Bool} (h : DataW.Trod enc Try.prog W b0 sp hd 50 (.agg cs) d p) :
    ∃ (l : List (Int × Int × Int × Int × Int × Int × Int)) (A : Option Addr) (c : Nat), cs = #[.slice A l.length c] ∧ Rd W W.heap.size A (l.flatMap eSegment) ∧ l.length ≤ c ∧ c ≤ maxLen ∧ ∀ t ∈ l, okSegment t := by
  obtain ⟨fuel, hf⟩ := h
  obtain ⟨y0, n, _, hl, h0⟩ := trod_struct1 Try.underlying50 hf
  have hl1 : (Value.agg cs).cells.toList.length = 1 := hl.trans (by kernel_rfl)
  have hc1 : Try.prog.cellsOf 48 = 1 := by kernel_rfl
  simp only [Value.cells] at hl1 h0
  have he : (cs.toList.drop 0).take (Try.prog.cellsOf 48) = cs.toList := by rw [hc1, List.drop_zero]; exact List.take_of_length_le (by omega)
  have h1 : DataW.trod enc Try.prog W b0 sp hd n 48 cs.toList = some y0 := by
    have := h0
    rw [he] at this
    exact this
  have hform : ∃ (A : Option Addr) (m c : Nat), cs.toList = [.slice A m c] := by
    rcases Go.Deep.open_slice Try.underlying48 h1 with ⟨hcs, _⟩ | ⟨a, len, cap, m, n', D, Pl, hcs, _⟩
    · exact ⟨_, _, _, hcs⟩
    · exact ⟨_, _, _, hcs⟩
  obtain ⟨A, m, c, hcs⟩ := hform
  have hT : DataW.Trod enc Try.prog W b0 sp hd 48 (.slice A m c) y0.1 y0.2 := ⟨n, by simpa [Value.cells, hcs] using h1⟩
  obtain ⟨l, rfl, hr, h2, h3, h4⟩ := openlawsSegmentS hT
  exact ⟨l, A, c, Array.ext' (by simpa using hcs), hr, h2, h3, h4⟩
end Go.Proofs.Ytooifamckccadaa
