/- What is encoded is decoded: records and journals (plain). -/
import Derived.Test.YtjohpakfaommgaaRc
import Derived.Test.YtjohpakfaommgaaJr
namespace Go.Proofs.Ytjohpakfaommgaa
open Go.ChangeShapes Go.WideShapes Go.ChangeAt Go.RowKit
set_option linter.unusedVariables false
set_option linter.unusedSimpArgs false
theorem bytes4 (t : Nat) : bytesL t 4 = [((t / 16777216 % 256 : Nat) : Int), ((t / 65536 % 256 : Nat) : Int), ((t / 256 % 256 : Nat) : Int), ((t % 256 : Nat) : Int)] := by
  simp [bytesL, byteAt, List.range_succ]
theorem bytes2 (t : Nat) : bytesL t 2 = [((t / 256 % 256 : Nat) : Int), ((t % 256 : Nat) : Int)] := by
  simp [bytesL, byteAt, List.range_succ]
theorem num4 {t : Nat} (h : t < 4294967296) : numL [((t / 16777216 % 256 : Nat) : Int), ((t / 65536 % 256 : Nat) : Int), ((t / 256 % 256 : Nat) : Int), ((t % 256 : Nat) : Int)] = t := by
  simp only [numL, List.foldl_cons, List.foldl_nil]
  omega
theorem num2 {t : Nat} (h : t < 65536) : numL [((t / 256 % 256 : Nat) : Int), ((t % 256 : Nat) : Int)] = t := by
  simp only [numL, List.foldl_cons, List.foldl_nil]
  omega
theorem dec_enc {t k v n : Nat} (ht : t < 4294967296) (hk : k ≤ 255) (hv : v < 4294967296) (hn : n ≤ 99) :
    dT (encL t k v n) = t ∧ dK (encL t k v n) = k ∧ dV (encL t k v n) = v ∧ dN (encL t k v n) = n ∧ (encL t k v n).length = 14 ∧ decOk (encL t k v n) = true := by
  have e : encL t k v n = [82, (k : Int)] ++ [((t / 16777216 % 256 : Nat) : Int), ((t / 65536 % 256 : Nat) : Int), ((t / 256 % 256 : Nat) : Int), ((t % 256 : Nat) : Int)] ++ [((v / 16777216 % 256 : Nat) : Int), ((v / 65536 % 256 : Nat) : Int), ((v / 256 % 256 : Nat) : Int), ((v % 256 : Nat) : Int)] ++ [((n / 256 % 256 : Nat) : Int), ((n % 256 : Nat) : Int)] ++ bytesL (crc (preL t k v n)) 2 := by
    rw [encL, preL, bytes4, bytes4, bytes2 n]
  have h1 : dT (encL t k v n) = t := by rw [dT, e]; exact num4 ht
  have h2 : dK (encL t k v n) = k := by rw [dK, e]; rfl
  have h3 : dV (encL t k v n) = v := by rw [dV, e]; exact num4 hv
  have h4 : dN (encL t k v n) = n := by rw [dN, e]; exact num2 (by omega)
  have h5 : (encL t k v n).length = 14 := by rw [e, bytes2]; rfl
  refine ⟨h1, h2, h3, h4, h5, ?_⟩
  rw [decOk, h1, h2, h3, h4, h5]
  simp only [Int.toNat_natCast, inB]
  simp
  omega
theorem chunk_left {a b : List Int} {i : Nat} (h : 14 * (i + 1) ≤ a.length) : chunk (a ++ b) i = chunk a i := by
  unfold chunk
  rw [List.drop_append_of_le_length (by omega), List.take_append_of_le_length (by rw [List.length_drop]; omega)]
theorem chunk_last {a b : List Int} {i : Nat} (h : a.length = 14 * i) (hb : b.length = 14) : chunk (a ++ b) i = b := by
  unfold chunk
  rw [← h, List.drop_left, ← hb, List.take_length]
theorem enc_okR {t : Rec3} {k : Nat} (h : okR t = true) (hk : k ≤ 99) : dT (encT t k) = t.1 ∧ dK (encT t k) = t.2.1 ∧ dV (encT t k) = t.2.2 ∧ dN (encT t k) = k ∧ (encT t k).length = 14 ∧ decOk (encT t k) = true := by
  obtain ⟨x, y, z⟩ := t
  simp only [okR, recB, inB, Bool.and_eq_true, decide_eq_true_eq] at h
  obtain ⟨a1, a2, a3, a4, a5, a6⟩ := dec_enc (t := x.toNat) (k := y.toNat) (v := z.toNat) (n := k) (by omega) (by omega) (by omega) hk
  simp only [encT]
  refine ⟨by rw [a1]; omega, by rw [a2]; omega, by rw [a3]; omega, a4, a5, a6⟩
theorem jour_chunk {l : List Rec3} (hl : l.all okR = true) (hn : l.length ≤ 100) : ∀ k, k ≤ l.length → ∀ i t, i < k → l[i]? = some t → chunk (jourUp l k) i = encT t i
  | 0, _, i, t, h, _ => absurd h (Nat.not_lt_zero _)
  | k + 1, hk, i, t, h, ht => by
    have hx := List.getElem?_eq_getElem (show k < l.length by omega)
    have hlen := jourUp_length (l := l) k (by omega)
    rw [jourUp_step hx]
    by_cases e : i = k
    · subst e
      rw [hx] at ht
      injection ht with ht
      subst ht
      exact chunk_last hlen (enc_okR (List.all_eq_true.1 hl _ (List.getElem_mem _)) (by omega)).2.2.2.2.1
    · rw [chunk_left (by omega)]
      exact jour_chunk hl hn k (by omega) i t (by omega) ht
theorem jour_good {l : List Rec3} (hl : l.all okR = true) (hn : l.length ≤ 100) {i : Nat} {t : Rec3} (ht : l[i]? = some t) : goodR (jourUp l l.length) i = true ∧ recAt (jourUp l l.length) i = t := by
  obtain ⟨hi, e⟩ := List.getElem?_eq_some_iff.1 ht
  have hc := jour_chunk hl hn l.length (Nat.le_refl _) i t hi ht
  have hok : okR t = true := List.all_eq_true.1 hl _ (by rw [← e]; exact List.getElem_mem _)
  obtain ⟨a1, a2, a3, a4, a5, a6⟩ := enc_okR hok (show i ≤ 99 by omega)
  unfold goodR recAt
  rw [hc]
  exact ⟨by rw [a6, a4]; simp, by rw [a1, a2, a3]⟩
theorem takeWhile_all {α : Type} (p : α → Bool) : ∀ (l : List α), (∀ x ∈ l, p x = true) → l.takeWhile p = l
  | [], _ => rfl
  | a :: l, h => by rw [List.takeWhile_cons, h a (by simp)]; simp only [if_true]; rw [takeWhile_all p l (fun x hx => h x (by simp [hx]))]
theorem jour_back {l : List Rec3} (hl : l.all okR = true) (hn : l.length ≤ 100) : recN (jourUp l l.length) = l.length ∧ recUp (jourUp l l.length) l.length = l := by
  constructor
  · unfold recN
    rw [takeWhile_all]
    · rw [List.length_range, jourUp_length _ (Nat.le_refl _)]; omega
    · intro i hi
      rw [List.mem_range, jourUp_length _ (Nat.le_refl _)] at hi
      exact (jour_good hl hn (List.getElem?_eq_getElem (show i < l.length by omega))).1
  · unfold recUp
    apply List.ext_getElem?
    intro i
    by_cases h : i < l.length
    · rw [List.getElem?_map, List.getElem?_range h]
      simp only [Option.map_some]
      rw [List.getElem?_eq_getElem h]
      exact congrArg some (jour_good hl hn (List.getElem?_eq_getElem h)).2
    · rw [List.getElem?_eq_none (by simp; omega), List.getElem?_eq_none (by omega)]
theorem chunk_take {a : List Int} {n i : Nat} (h : 14 * (i + 1) ≤ n) (hn : n ≤ a.length) : chunk (a.take n) i = chunk a i := by
  have e := chunk_left (a := a.take n) (b := a.drop n) (i := i) (by rw [List.length_take]; omega)
  rw [List.take_append_drop] at e
  exact e.symm
theorem tw_ge {α : Type} (p : α → Bool) : ∀ (w : Nat) (l : List α), w ≤ l.length → (∀ (i : Nat) (x : α), i < w → l[i]? = some x → p x = true) → w ≤ (l.takeWhile p).length
  | 0, _, _, _ => Nat.zero_le _
  | w + 1, [], h, _ => by simp at h
  | w + 1, a :: l, h, hp => by
    rw [List.takeWhile_cons, hp 0 a (by omega) rfl]
    simp only [if_true, List.length_cons]
    have := tw_ge p w l (by simpa using h) (fun i x hi hx => hp (i + 1) x (by omega) (by simpa using hx))
    omega
theorem cut_back {l : List Rec3} (hl : l.all okR = true) (hn : l.length ≤ 100) {n : Nat} (hm : n ≤ (jourUp l l.length).length) (tail : List Int) : n / 14 ≤ recN ((jourUp l l.length).take n ++ tail) ∧ recUp ((jourUp l l.length).take n ++ tail) (n / 14) = l.take (n / 14) := by
  have hlen := jourUp_length (l := l) l.length (Nat.le_refl _)
  have hc : ∀ i, i < n / 14 → chunk ((jourUp l l.length).take n ++ tail) i = chunk (jourUp l l.length) i := fun i hi => by
    rw [chunk_left (by rw [List.length_take]; omega), chunk_take (by omega) hm]
  constructor
  · unfold recN
    apply tw_ge
    · rw [List.length_range, List.length_append, List.length_take]
      omega
    · intro i x hi hx
      rw [List.getElem?_range (by rw [List.length_append, List.length_take]; omega)] at hx
      injection hx with hx
      subst hx
      have hg := (jour_good hl hn (List.getElem?_eq_getElem (show i < l.length by omega))).1
      unfold goodR at hg ⊢
      rw [hc i hi]
      exact hg
  · unfold recUp
    apply List.ext_getElem?
    intro i
    by_cases h : i < n / 14
    · rw [List.getElem?_map, List.getElem?_range h, List.getElem?_take_of_lt h]
      simp only [Option.map_some]
      have hi : i < l.length := by omega
      rw [List.getElem?_eq_getElem hi]
      have hr := (jour_good hl hn (List.getElem?_eq_getElem hi)).2
      unfold recAt at hr ⊢
      rw [hc i h]
      exact congrArg some hr
    · rw [List.getElem?_eq_none (by simp; omega), List.getElem?_eq_none (by simp; omega)]
end Go.Proofs.Ytjohpakfaommgaa
