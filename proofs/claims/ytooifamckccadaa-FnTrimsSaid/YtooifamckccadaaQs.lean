/- A region that draws its order, whose operations read and whose calls leave all older blocks as they were: one walk in the order of the text. The class of worlds is that of Below (for any seat). -/
import Derived.Test.YtooifamckccadaaRd
import Derived.Deep.QuietTactic
import Derived.BigQuiet
namespace Go.Proofs.Ytooifamckccadaa
open Go.ChangeShapes Go.WideShapes Go.ChangeAt Go.RowKit
set_option linter.unusedVariables false
/-- a world of a class -/
structure Cls (S : World → Prop) where
  val : World
  ok : S val
instance (N : Nat) (w : World) : Nonempty (Cls (Below N w)) := ⟨⟨w, Below.refl N w⟩⟩
theorem wp_region_cls {P : Program} {S : World → Prop} {id : Nat} {Q : Exit → Act → World → Prop} {a : Act} {w : World} {l : List Oper} (hm : P.follows .mixedOrders = true) (hB : Region.lexB .any l.toArray = true) (hS : S w.drew)
    (h : wpQuiet P l.toArray (fun w' => ∃ x : Cls S, w' = x.val) (fun a' => ∀ w', (∃ x : Cls S, w' = x.val) → Q .normal a' w') l a) : (Code.region id l.toArray true).wp P Q a w :=
  wp_region_quiet (C := fun w' => ∃ x : Cls S, w' = x.val) hm hB ⟨⟨_, hS⟩, rfl⟩ (by simpa using h)
theorem below_drew1 (N : Nat) (w : World) : Below N w w.drew := (Below.refl _ _).drew
theorem cls_cell {N b o : Nat} {w : World} {v : Value} (h : w.cell? ⟨b, o, none⟩ = some v) (hb : b < N) : ∀ x : Cls (Below N w), x.val.cell? ⟨b, o, none⟩ = some v := fun x => (x.ok.cell (p := ⟨b, o, none⟩) hb).trans h
theorem cls_call {P : Program} {f : FuncId} {args : Array Value} {N : Nat} {w : World} {x : Cls (Below N w)} {v : Value} (hN : N ≤ w.heap.size)
    (h : Calls P f args x.val fun e w' => e = .returned v ∧ Below x.val.heap.size x.val w') : Calls P f args x.val fun e w'' => e = .returned v ∧ ∃ y : Cls (Below N w), w'' = y.val :=
  h.mono fun _ w'' ⟨he, hb⟩ => ⟨he, ⟨w'', x.ok.trans (hb.mono (Nat.le_trans hN x.ok.size))⟩, rfl⟩
theorem cls_same {P : Program} {f : FuncId} {args : Array Value} {S : World → Prop} {x : Cls S} {v : Value}
    (h : Calls P f args x.val fun e w' => e = .returned v ∧ x.val = w') : Calls P f args x.val fun e w'' => e = .returned v ∧ ∃ y : Cls S, w'' = y.val :=
  h.mono fun _ w'' ⟨he, hb⟩ => ⟨he, x, hb.symm⟩
end Go.Proofs.Ytooifamckccadaa
