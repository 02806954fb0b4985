/- Energies along runs of segments: what they are. Plain. -/
import Derived.Test.YtooifamckccadaaDe
import Derived.Test.YtooifamckccadaaAf
namespace Go.Proofs.Ytooifamckccadaa
open Go.ChangeShapes Go.WideShapes Go.ChangeAt Go.RowKit
set_option linter.unusedVariables false
abbrev Ivl := Int × Int
def coastP (t : Seg) (e : Ivl) : Ivl := (e.1 + (-19612 * t.2.2.1 - 2 * t.2.2.2.2.1 * t.2.1), e.2 + (-19612 * t.2.2.1 - 2 * t.2.2.2.1 * t.2.1))
def actT (t : Seg) (e : Ivl) : Ivl := actP t.1 t.2.1 t.2.2.1 t.2.2.2.1 t.2.2.2.2.1 t.2.2.2.2.2.1 t.2.2.2.2.2.2 e.1 e.2
def nextP (on : List Int) (j : Nat) (t : Seg) (e : Ivl) : Ivl := if on.any (· == (j : Int)) then actT t e else coastP t e
def badP (e : Ivl) : Int := if e.1 < 0 then 5 else if 10000000000 < e.2 then 3 else 0
def runP (ls : List Seg) (on : List Int) : Nat → Nat → Ivl → List Ivl × Int
  | 0, _, _ => ([], 0)
  | n + 1, k, e => match ls[k % ls.length]? with
    | some t => if badP (nextP on (k % ls.length) t e) = 0 then (nextP on (k % ls.length) t e :: (runP ls on n (k + 1) (nextP on (k % ls.length) t e)).1, (runP ls on n (k + 1) (nextP on (k % ls.length) t e)).2)
      else ([], badP (nextP on (k % ls.length) t e))
    | none => ([], 0)
theorem chkV_bad {a b : Int} (h : badP (a, b) ≠ 0) : chkV a b = .tuple #[.agg #[.int .i64 0, .int .i64 0], .int .i64 (badP (a, b))] := by
  unfold badP at h
  simp only [chkV, badP]
  by_cases h1 : a < 0
  · rw [if_pos h1, if_pos h1]
  · by_cases h2 : 10000000000 < b
    · rw [if_neg h1, if_neg h1, if_pos h2, if_pos h2]
    · simp [h1, h2] at h
theorem chkV_ok {a b : Int} (h : badP (a, b) = 0) : chkV a b = .tuple #[.agg #[.int .i64 a, .int .i64 b], .int .i64 0] := by
  unfold badP at h
  simp only [chkV]
  by_cases h1 : a < 0
  · simp [h1] at h
  · by_cases h2 : 10000000000 < b
    · simp [h1, h2] at h
    · rw [if_neg h1, if_neg h2]
theorem badP_ok {e : Ivl} (h : badP e = 0) : 0 ≤ e.1 ∧ e.2 ≤ 10000000000 := by
  unfold badP at h
  by_cases h1 : e.1 < 0
  · simp [h1] at h
  · by_cases h2 : 10000000000 < e.2
    · simp [h1, h2] at h
    · omega
theorem badP_cases (e : Ivl) : badP e = 0 ∨ badP e = 3 ∨ badP e = 5 := by
  unfold badP
  split
  · exact .inr (.inr rfl)
  · split
    · exact .inr (.inl rfl)
    · exact .inl rfl
theorem prod_mono {a b len : Int} (h : a ≤ b) (hl : 1 ≤ len) : 2 * a * len ≤ 2 * b * len := by
  exact Int.mul_le_mul_of_nonneg_right (by omega) (by omega)
theorem enB_iff {lo hi : Int} : enB lo hi = true ↔ 0 ≤ lo ∧ lo ≤ hi ∧ hi ≤ 10000000000 := by
  simp only [enB, witB, ivB, inB, Bool.and_eq_true, decide_eq_true_eq]
  omega
theorem coast_le {t : Seg} {e : Ivl} (h : segT t = true) (he : e.1 ≤ e.2) : (coastP t e).1 ≤ (coastP t e).2 := by
  obtain ⟨⟨k0, k4⟩, ⟨l1, l2⟩, ⟨r1, r2⟩, ⟨a0, a1, a2⟩, f0, f1, f2⟩ := seg_bds h
  have := prod_mono a1 l1
  simp only [coastP]
  omega
theorem act_le {t : Seg} {e : Ivl} (h : segT t = true) (he : e.1 ≤ e.2) : (actT t e).1 ≤ (actT t e).2 := by
  obtain ⟨⟨k0, k4⟩, ⟨l1, l2⟩, ⟨r1, r2⟩, ⟨a0, a1, a2⟩, f0, f1, f2⟩ := seg_bds h
  have h1 := prod_mono a1 l1
  have h2 := prod_mono f1 l1
  have h3 : t.2.2.2.2.2.1 * t.2.2.2.2.2.1 ≤ t.2.2.2.2.2.2 * t.2.2.2.2.2.2 := Int.mul_le_mul f1 f1 f0 (by omega)
  have n1 : -2 * t.2.2.2.2.2.1 * t.2.1 = -(2 * t.2.2.2.2.2.1 * t.2.1) := by rw [Int.neg_mul, Int.neg_mul]
  have n2 : -2 * t.2.2.2.2.2.2 * t.2.1 = -(2 * t.2.2.2.2.2.2 * t.2.1) := by rw [Int.neg_mul, Int.neg_mul]
  simp only [actT, actP]
  split
  · simp only []; omega
  · split
    · exact h3
    · split
      · simp only []; omega
      · simp only []; omega
theorem next_le {on : List Int} {j : Nat} {t : Seg} {e : Ivl} (h : segT t = true) (he : e.1 ≤ e.2) : (nextP on j t e).1 ≤ (nextP on j t e).2 := by
  unfold nextP
  split
  · exact act_le h he
  · exact coast_le h he
theorem next_en {on : List Int} {j : Nat} {t : Seg} {e : Ivl} (h : segT t = true) (he : enB e.1 e.2 = true) (hb : badP (nextP on j t e) = 0) : enB (nextP on j t e).1 (nextP on j t e).2 = true := by
  have h1 := next_le (on := on) (j := j) h (enB_iff.1 he).2.1
  have h2 := badP_ok hb
  exact enB_iff.2 ⟨h2.1, h1, h2.2⟩
theorem runP_zero (ls : List Seg) (on : List Int) (k : Nat) (e : Ivl) : runP ls on 0 k e = ([], 0) := rfl
theorem runP_ok {ls : List Seg} {on : List Int} {n k : Nat} {e : Ivl} {t : Seg} (ht : ls[k % ls.length]? = some t) (hb : badP (nextP on (k % ls.length) t e) = 0) :
    runP ls on (n + 1) k e = (nextP on (k % ls.length) t e :: (runP ls on n (k + 1) (nextP on (k % ls.length) t e)).1, (runP ls on n (k + 1) (nextP on (k % ls.length) t e)).2) := by
  rw [runP, ht]
  simp only [hb, if_true]
theorem runP_bad {ls : List Seg} {on : List Int} {n k : Nat} {e : Ivl} {t : Seg} (ht : ls[k % ls.length]? = some t) (hb : badP (nextP on (k % ls.length) t e) ≠ 0) :
    runP ls on (n + 1) k e = ([], badP (nextP on (k % ls.length) t e)) := by
  rw [runP, ht]
  simp only [hb, if_false]
theorem runP_len (ls : List Seg) (on : List Int) : ∀ (n k : Nat) (e : Ivl), (runP ls on n k e).1.length ≤ n
  | 0, _, _ => by simp [runP]
  | n + 1, k, e => by
    unfold runP
    split
    · split
      · have := runP_len ls on n (k + 1) (nextP on (k % ls.length) (by assumption) e)
        simp only [List.length_cons]
        omega
      · simp
    · simp
/-- After some rounds that went well: what stands in the list, and the energy. -/
def upTo (ls : List Seg) (on : List Int) (n f : Nat) (e0 : Ivl) (i : Nat) (acc : List Ivl) (e : Ivl) : Prop :=
  acc.length = i ∧ (runP ls on n f e0) = (acc ++ (runP ls on (n - i) (f + i) e).1, (runP ls on (n - i) (f + i) e).2)
theorem upTo_start (ls : List Seg) (on : List Int) (n f : Nat) (e0 : Ivl) : upTo ls on n f e0 0 [] e0 := ⟨rfl, by simp⟩
theorem upTo_step {ls : List Seg} {on : List Int} {n f : Nat} {e0 : Ivl} {i : Nat} {acc : List Ivl} {e : Ivl} {t : Seg} (h : upTo ls on n f e0 i acc e) (hi : i < n) (ht : ls[(f + i) % ls.length]? = some t) (hb : badP (nextP on ((f + i) % ls.length) t e) = 0) :
    upTo ls on n f e0 (i + 1) (acc ++ [nextP on ((f + i) % ls.length) t e]) (nextP on ((f + i) % ls.length) t e) := by
  refine ⟨by simp [h.1], ?_⟩
  rw [h.2, show n - i = (n - (i + 1)) + 1 by omega, runP_ok ht hb]
  simp [Nat.add_assoc]
theorem upTo_bad {ls : List Seg} {on : List Int} {n f : Nat} {e0 : Ivl} {i : Nat} {acc : List Ivl} {e : Ivl} {t : Seg} (h : upTo ls on n f e0 i acc e) (hi : i < n) (ht : ls[(f + i) % ls.length]? = some t) (hb : badP (nextP on ((f + i) % ls.length) t e) ≠ 0) :
    runP ls on n f e0 = (acc, badP (nextP on ((f + i) % ls.length) t e)) := by
  rw [h.2, show n - i = (n - (i + 1)) + 1 by omega, runP_bad ht hb]
  simp
theorem upTo_end {ls : List Seg} {on : List Int} {n f : Nat} {e0 : Ivl} {acc : List Ivl} {e : Ivl} (h : upTo ls on n f e0 n acc e) : runP ls on n f e0 = (acc, 0) := by
  rw [h.2, Nat.sub_self, runP_zero]
  simp
end Go.Proofs.Ytooifamckccadaa
