/- Sizes and rows in the worlds of a class (for any seat). -/
import Derived.Test.YtooifamckccadaaQs
namespace Go.Proofs.Ytooifamckccadaa
open Go.ChangeShapes Go.WideShapes Go.ChangeAt Go.RowKit
theorem cls_le {N B : Nat} {w : World} (x : Cls (Below N w)) (h : B ≤ w.heap.size) : B ≤ x.val.heap.size := Nat.le_trans h x.ok.size
theorem cls_rd {N B : Nat} {w : World} {A : Option Addr} {xs : List Value} (x : Cls (Below N w)) (hr : Rd w B A xs) (h : B ≤ N) : Rd x.val B A xs := hr.below x.ok h
end Go.Proofs.Ytooifamckccadaa
