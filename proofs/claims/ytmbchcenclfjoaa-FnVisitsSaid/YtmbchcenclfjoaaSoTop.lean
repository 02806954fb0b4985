/- slices.Sort at int64 over this program: the sorted list; of a row that the call owns. -/
import Derived.Sort.AssemblyPlain
import Derived.Sort.OwnSortedInts
import Derived.Test.YtmbchcenclfjoaaSoANil
import Derived.Test.YtmbchcenclfjoaaSo7
import Derived.Test.YtmbchcenclfjoaaSo11
import Derived.Test.YtmbchcenclfjoaaSoC4
import Derived.Test.YtmbchcenclfjoaaSo13
import Derived.Test.YtmbchcenclfjoaaSoD2
import Derived.Test.YtmbchcenclfjoaaRd
namespace Go.Proofs.Ytmbchcenclfjoaa.Srt
open Go.Sort
theorem callees13 : Callees13 where
  ins := insertionSort_int
  brk := breakPatterns_int
  piv := choosePivot_int
  par := partialInsertionSort_int
  peq := partitionEqualOrdered_int
  prt := partitionOrdered_int
theorem plain13 : Plain13 where
  swo := swo_ltInt
  ins := insertionSort_holds
  par := partialInsertionSort_holds
  prt := partition_holds _
  peq := partitionEqual_holds _
  pdq := pdq_sorts _
theorem pdqWalkInt : pdqWalk_int := fun blk off cap a b limit d w hH hb hab hbd hsz hl hB =>
  pdqsort_int callees13 plain13 (b - a + 1) blk off cap a b limit d w (by omega) hH hb hab hbd hsz hl hB
theorem sort_int_eq (zs : List Int) : Sort.sort ltInt zs.toArray = (zs.mergeSort fun x y => decide (x ≤ y)).toArray := by
  rw [← sortInt zs]
theorem slices_Sort_int (blk off cap : Nat) (zs : List Int) (w : World) (hH : Holds (Value.int .i64) w blk off zs.toArray) (hblk : blk < w.heap.size) (hsz : zs.length < 4611686018427387904) :
    Calls Try.prog 86 #[.slice (some ⟨blk, off, none⟩) zs.length cap] w fun e w' =>
      e = .returned (.tuple #[]) ∧ ∃ n os, w' = grow (putRow (Value.int .i64) (Sort.ahead w n) blk off (zs.mergeSort fun x y => decide (x ≤ y)).toArray) os := by
  have h := Sort_int pdqWalkInt blk off cap zs.toArray w hH hblk (by simpa using hsz)
  rw [sort_int_eq] at h
  simpa using h
end Go.Proofs.Ytmbchcenclfjoaa.Srt
namespace Go.Proofs.Ytmbchcenclfjoaa
open Go.ChangeShapes Go.WideShapes Go.ChangeAt Go.RowKit Go.Sort
def sortL (zs : List Int) : List Int := zs.mergeSort fun x y => decide (x ≤ y)
theorem sortL_length (zs : List Int) : (sortL zs).length = zs.length := List.length_mergeSort _
theorem sort_own {base : Nat} {e : TypeId} {n c : Nat} {A : Option Addr} (zs : List Int) (w : World) (hn : zs.length = n) (h : w.ownsRow base e 1 (.slice A n c) n (ints zs)) (hsz : n < 4611686018427387904) :
    Calls Try.prog 86 #[.slice A n c] w fun e' w' => e' = .returned (.tuple #[]) ∧ w'.ownsRow base e 1 (.slice A n c) n (ints (sortL zs)) ∧ w.grownBy w' (Value.ownBlock (.slice A n c)) := by
  subst hn
  rcases h.2 with ⟨hv, h0⟩ | ⟨g, cap, cur, hv, hg, hh, h1, h2, h3, h4⟩
  · injection hv with e1 e2 e3
    have hz : zs = [] := List.eq_nil_of_length_eq_zero h0
    subst hz e1 e3
    refine (Srt.Sort_int_nil none 0 w).mono ?_
    rintro e' w' ⟨rfl, rfl⟩
    have e0 : sortL [] = [] := by simp [sortL]
    rw [e0]
    exact ⟨rfl, World.ownsRow_nil _ base e 1, World.grownBy.refl _ _⟩
  · injection hv with e1 e2 e3
    subst e1 e3
    have hH := holds_of_blockI (ss := zs) hh (by rw [Nat.mul_one] at h4; exact h4)
    have hlt : g < w.heap.size := (Array.getElem?_eq_some_iff.1 hh).1
    refine (Srt.slices_Sort_int g 0 c zs w hH hlt hsz).mono ?_
    rintro e' w' ⟨rfl, m, os, rfl⟩
    have hl : (sortL zs).length = zs.length := sortL_length zs
    exact ⟨rfl, ownsRow_sortedI (ts := sortL zs) hl hg hh h1 h2 h3, grownBy_sortedI _⟩
end Go.Proofs.Ytmbchcenclfjoaa
