/- A function whose calls go down a given list does not come back to itself. -/
import Derived.Test.YtooifamckccadaaRows
import Derived.ProofKit
namespace Go.Proofs.Ytooifamckccadaa
def rkIn : List FuncId → FuncId → Nat
  | [], _ => 0
  | a :: l, x => bif Nat.beq a x then l.length + 1 else rkIn l x
theorem rkIn_mem : ∀ {L : List FuncId} {x : FuncId}, 0 < rkIn L x → x ∈ L
  | [], x, h => by simp [rkIn] at h
  | a :: l, x, h => by
    unfold rkIn at h
    cases hb : Nat.beq a x with
    | true => rw [Nat.eq_of_beq_eq_true hb]; simp
    | false => rw [hb] at h; exact List.mem_cons_of_mem _ (rkIn_mem h)
def calls (P : Program) (g : FuncId) : List FuncId := (P.funcs[g]?).elim [] P.leadsTo
def downB (P : Program) (L : List FuncId) : Bool := L.all fun g => (calls P g).all fun h => Nat.blt 0 (rkIn L h) && Nat.blt (rkIn L h) (rkIn L g)
theorem downB_at {P : Program} {L : List FuncId} (h : downB P L = true) {g x : FuncId} (hg : 0 < rkIn L g) (hx : x ∈ calls P g) : 0 < rkIn L x ∧ rkIn L x < rkIn L g := by
  unfold downB at h
  rw [List.all_eq_true] at h
  have h1 := h g (rkIn_mem hg)
  rw [List.all_eq_true] at h1
  have h2 := h1 x hx
  rw [Bool.and_eq_true] at h2
  exact ⟨Nat.le_of_ble_eq_true h2.1, Nat.le_of_ble_eq_true h2.2⟩
theorem via_down {P : Program} {L : List FuncId} (h : downB P L = true) (R : Nat) : ∀ (n : Nat) (todo seen : List FuncId), (∀ x, x ∈ todo → 0 < rkIn L x ∧ rkIn L x < R) → (∀ x, x ∈ seen → 0 < rkIn L x ∧ rkIn L x < R) → ∀ x, x ∈ P.closureVia n todo seen → 0 < rkIn L x ∧ rkIn L x < R
  | 0, todo, seen, h1, h2, x, hx => by
    simp only [Program.closureVia, List.mem_reverse] at hx
    exact h2 x hx
  | n + 1, [], seen, h1, h2, x, hx => by
    simp only [Program.closureVia, List.mem_reverse] at hx
    exact h2 x hx
  | n + 1, f :: todo, seen, h1, h2, x, hx => by
    simp only [Program.closureVia] at hx
    split at hx
    · exact via_down h R n todo seen (fun y hy => h1 y (List.mem_cons_of_mem _ hy)) h2 x hx
    · refine via_down h R n _ _ (fun y hy => ?_) (fun y hy => ?_) x hx
      · rw [List.mem_append] at hy
        rcases hy with hy | hy
        · have := downB_at h (h1 f (by simp)).1 hy
          exact ⟨this.1, by have := (h1 f (by simp)).2; omega⟩
        · exact h1 y (List.mem_cons_of_mem _ hy)
      · rcases List.mem_cons.mp hy with rfl | hy
        · exact h1 _ (by simp)
        · exact h2 y hy
theorem recurses_down {P : Program} {f : FuncId} (L : List FuncId) (hf : Nat.blt 0 (rkIn L f) = true) (h : downB P L = true) (hu : P.unfollowed f = false) : P.recurses f = false := by
  unfold Program.recurses
  rw [hu, Bool.false_or, List.any_eq_false]
  intro g hg hb
  rw [List.any_eq_true] at hb
  obtain ⟨x, hx, hc⟩ := hb
  have hf' : 0 < rkIn L f := Nat.le_of_ble_eq_true hf
  have hgL : 0 < rkIn L g := (via_down h (rkIn L f + 1) _ [f] [] (fun y hy => by rw [List.mem_singleton] at hy; subst hy; omega) (fun y hy => by simp at hy) g hg).1
  have hx' := downB_at h hgL hx
  have hc' : g ∈ P.closure x := by simpa [List.contains_iff_mem] using hc
  have := via_down h (rkIn L g) _ [x] [] (fun y hy => by rw [List.mem_singleton] at hy; subst hy; exact hx') (fun y hy => by simp at hy) g hc'
  omega
end Go.Proofs.Ytooifamckccadaa
