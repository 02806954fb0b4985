/- Small facts over any program: worlds that only grow, values whose cells are plain numbers, slices that read as lists. -/
import Derived.WalkKit
import Derived.ProofKit
import Derived.OpenShut
import Derived.Handy
import Derived.BigQuiet
import Derived.BigGuardPart
import Derived.Below
import Derived.Carry
import Derived.Laws.OwnMore
import Derived.Deep.Slices
import Derived.Lib.Hide
import Derived.Deep.Draws
import Derived.Deep.QuietTactic
namespace Go.Proofs.Ytooifamckccadaa
open Go.ChangeShapes Go.WideShapes Go.ChangeAt Go.RowKit

def inB (n lo hi : Int) : Bool := decide (lo ≤ n) && decide (n ≤ hi)

theorem bstep {W w1 : World} {N : Nat} (hN : N ≤ W.heap.size) (hb : Below W.heap.size W w1) : (∀ b o, b < N → w1.cell? ⟨b, o, none⟩ = W.cell? ⟨b, o, none⟩) ∧ (∀ b o, b < N → w1.frozen? ⟨b, o, none⟩ = W.frozen? ⟨b, o, none⟩) ∧ N ≤ w1.heap.size :=
  ⟨fun b o h => hb.cell (p := ⟨b, o, none⟩) (Nat.lt_of_lt_of_le h hN), fun b o h => hb.frozen (p := ⟨b, o, none⟩) (Nat.lt_of_lt_of_le h hN), Nat.le_trans hN hb.size⟩

theorem ret_bool {a b : Bool} (h : a = b) : Ending.returned (.bool a) = .returned (.bool b) := by rw [h]
theorem ret_int {k : IntKind} {a b : Int} (h : a = b) : Ending.returned (.int k a) = .returned (.int k b) := by rw [h]
theorem ret_int2 {k k' : IntKind} {a b a' b' : Int} (h : a = b) (h' : a' = b') : Ending.returned (.tuple #[.int k a, .int k' a']) = .returned (.tuple #[.int k b, .int k' b']) := by rw [h, h']
theorem below_drewN {B : Nat} {a w : World} (h : Below B a w) (n : Nat) : Below B a (w.drewN n) := ⟨h.os, h.tape, h.output, h.size, h.block⟩

/-! ### values whose cells are integers and bools alone -/
def isKind : Option IntKind → Value → Prop
  | some k, v => ∃ n, v = .int k n ∧ (Lit.int k n).wf = true
  | none, v => ∃ b, v = .bool b
def AreKinds : List (Option IntKind) → List Value → Prop
  | [], cs => cs = []
  | k :: ks, cs => ∃ v r, cs = v :: r ∧ isKind k v ∧ AreKinds ks r
theorem AreKinds.append {k1 k2 : List (Option IntKind)} : ∀ {c1 c2 : List Value}, AreKinds k1 c1 → AreKinds k2 c2 → AreKinds (k1 ++ k2) (c1 ++ c2) := by
  induction k1 with
  | nil => intro c1 c2 h1 h2; simp only [AreKinds] at h1; subst h1; exact h2
  | cons k ks ih =>
    intro c1 c2 h1 h2
    obtain ⟨v, r, rfl, hv, hr⟩ := h1
    exact ⟨v, r ++ c2, rfl, hv, ih hr h2⟩

def flatFields (P : Program) (g : TypeId → Option (List (Option IntKind))) (total : Nat) : List Field → Nat → Option (List (Option IntKind))
  | [], o => if o = total then some [] else none
  | fd :: r, o => if fd.offset = o then (g fd.type).bind fun ks => (flatFields P g total r (o + P.cellsOf fd.type)).map (ks ++ ·) else none
def flatKinds (P : Program) : Nat → TypeId → Option (List (Option IntKind))
  | 0, _ => none
  | f + 1, t => match P.underlying t with
    | some .bool => some [none]
    | some (.int k) => some [some k]
    | some (.struct fs) => flatFields P (flatKinds P f) (P.cellsOf t) fs.toList 0
    | _ => none

section
variable {H : Type} {enc : TypeId × Value → H} {P : Program} {w : World} {base : Nat} {spare : Nat → Bool} {held : Bool}
theorem flat_fields {g : TypeId → Option (List (Option IntKind))} {n : Nat} (hg : ∀ t ks cs x, g t = some ks → DataW.trod enc P w base spare held n t cs = some x → AreKinds ks cs) (cs : List Value) :
    ∀ (fl : List Field) (o : Nat) (ks : List (Option IntKind)), (∀ fd ∈ fl, ∃ y, DataW.trod enc P w base spare held n fd.type ((cs.drop fd.offset).take (P.cellsOf fd.type)) = some y) →
      flatFields P g cs.length fl o = some ks → AreKinds ks (cs.drop o) := by
  intro fl
  induction fl with
  | nil =>
    intro o ks _ h
    simp only [flatFields] at h
    split at h
    · rename_i he
      injection h with h
      subst h he
      simp [AreKinds]
    · cases h
  | cons fd r ih =>
    intro o ks hf h
    simp only [flatFields] at h
    split at h
    · rename_i he
      subst he
      simp only [Option.bind_eq_some_iff, Option.map_eq_some_iff] at h
      obtain ⟨k1, h1, k2, h2, rfl⟩ := h
      obtain ⟨y, hy⟩ := hf fd (by simp)
      have a1 := hg _ _ _ _ h1 hy
      have a2 := ih _ _ (fun fd' hm => hf fd' (by simp [hm])) h2
      have hsplit : cs.drop fd.offset = (cs.drop fd.offset).take (P.cellsOf fd.type) ++ cs.drop (fd.offset + P.cellsOf fd.type) := by
        rw [← List.drop_drop, List.take_append_drop]
      rw [hsplit]
      exact a1.append a2
    · cases h
theorem flat_trod : ∀ (f n : Nat) (t : TypeId) (ks : List (Option IntKind)) (cs : List Value) (x : DataW H × List MemPlace), flatKinds P f t = some ks → DataW.trod enc P w base spare held n t cs = some x → AreKinds ks cs := by
  intro f
  induction f with
  | zero => intro n t ks cs x h; simp [flatKinds] at h
  | succ f ih =>
    intro n t ks cs x h hx
    unfold flatKinds at h
    split at h
    · rename_i hu
      injection h with h
      subst h
      obtain ⟨b, rfl, _⟩ := DataW.trod_bool hu hx
      exact ⟨_, _, rfl, ⟨b, rfl⟩, rfl⟩
    · rename_i k hu
      injection h with h
      subst h
      obtain ⟨m, rfl, _, hw⟩ := DataW.trod_int hu hx
      exact ⟨_, _, rfl, ⟨m, rfl, hw⟩, rfl⟩
    · rename_i fs hu
      obtain ⟨xs, m, rfl, _, hlen, hxl, hf⟩ := DataW.trod_struct hu hx
      rw [← hlen] at h
      have := flat_fields (enc := enc) (P := P) (w := w) (base := base) (spare := spare) (held := held) (n := m) (g := flatKinds P f) (fun t ks cs x h1 h2 => ih m t ks cs x h1 h2) cs fs.toList 0 ks (fun fd hm => by
        obtain ⟨i, hi, he⟩ := List.getElem_of_mem hm
        have hi' : fs[i]? = some fd := by
          rw [← Array.getElem?_toList, List.getElem?_eq_getElem hi, he]
        have h1 := hf i fd hi'
        have h2 : xs[i]? = some (xs[i]'(by rw [hxl]; simpa using hi)) := List.getElem?_eq_getElem _
        exact ⟨_, h1.trans h2⟩) h
      simpa using this
    · cases h
end
end Go.Proofs.Ytooifamckccadaa
