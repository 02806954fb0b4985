/- The index of the first element for which a test holds. -/
import Derived.Test.YtdjbbjehgfkefaaGs0
namespace Go.Proofs.Ytdjbbjehgfkefaa
open Go.ChangeShapes Go.WideShapes Go.ChangeAt Go.RowKit
set_option linter.unusedVariables false
set_option linter.unusedSimpArgs false
/-- The index of the first element for which p holds, -1 if there is none. -/
def idxB {τ : Type} (p : τ → Bool) (l : List τ) : Int := match l.findIdx? p with | some i => (i : Int) | none => -1
theorem idxB_any {τ : Type} (p : τ → Bool) (l : List τ) : decide (0 ≤ idxB p l) = l.any p := by
  unfold idxB
  cases h : l.findIdx? p with
  | none =>
    rw [List.findIdx?_eq_none_iff] at h
    have : l.any p = false := by rw [List.any_eq_false]; intro x hx; simp [h x hx]
    simp [this]
  | some i =>
    rw [List.findIdx?_eq_some_iff_getElem] at h
    obtain ⟨hi, hp, _⟩ := h
    have : l.any p = true := List.any_eq_true.2 ⟨_, List.getElem_mem hi, hp⟩
    rw [this]
    simp
theorem idxB_here {τ : Type} (p : τ → Bool) (l : List τ) {k : Nat} {t : τ} (hk : l[k]? = some t) (hb : (l.take k).any p = false) (hp : p t = true) : idxB p l = k := by
  have hl : k < l.length := (List.getElem?_eq_some_iff.1 hk).1
  have ht : l[k] = t := by rw [List.getElem?_eq_getElem hl] at hk; exact Option.some.inj hk
  have : l.findIdx? p = some k := by
    rw [List.findIdx?_eq_some_iff_getElem]
    refine ⟨hl, by rw [ht]; exact hp, fun j hj => ?_⟩
    rw [List.any_eq_false] at hb
    have hm : l[j]'(by omega) ∈ l.take k := by
      rw [List.mem_take_iff_getElem]
      exact ⟨j, by omega, rfl⟩
    exact hb _ hm
  simp [idxB, this]
theorem idxB_none {τ : Type} (p : τ → Bool) (l : List τ) (hb : l.any p = false) : idxB p l = -1 := by
  have : l.findIdx? p = none := by
    rw [List.findIdx?_eq_none_iff]
    intro x hx
    rw [List.any_eq_false] at hb
    simpa using hb x hx
  simp [idxB, this]
theorem any_step {τ : Type} (p : τ → Bool) (l : List τ) {k : Nat} {t : τ} (hk : l[k]? = some t) : (l.take (k + 1)).any p = ((l.take k).any p || p t) := by
  have hl : k < l.length := (List.getElem?_eq_some_iff.1 hk).1
  have : l[k] = t := by rw [List.getElem?_eq_getElem hl] at hk; exact Option.some.inj hk
  rw [List.take_succ_eq_append_getElem hl, List.any_append, this]; simp
theorem any_not_all {τ : Type} (p : τ → Bool) (l : List τ) : l.any (fun t => !p t) = !l.all p := by
  induction l with
  | nil => rfl
  | cons a l ih => simp [ih, Bool.not_and]
theorem idxHts1 (l : List (Int)) (A : Option Addr) (B c : Nat)  (w : World) (hr : Rd w B A (ints l)) (hB : B ≤ w.heap.size) (hn : l.length ≤ 1048576)  :
   Calls Try.prog 67 #[.slice A l.length c, .func (Fn.func 61) #[] #[]] w fun e w' => e = .returned (.int .i64 (idxB (fun x => !inB x 1 3000) l)) ∧ Below w.heap.size w w' := by
  go_enter Try.func67, Try.ntmps67
  go_wp2_with fail
  go_loopw [8] (fun i wr => ∃ k : Nat, k ≤ l.length ∧ i = .int .i64 k ∧ (l.take k).any (fun x => !inB x 1 3000) = false ∧ Below w.heap.size w wr) (fun i _ => l.length - (intOf i).toNat)
  case atStart => exact ⟨0, Nat.zero_le _, rfl, by simp, Below.refl _ _⟩
  case round =>
    obtain ⟨k, hk, rfl, hall, hbw⟩ := hrel
    by_cases hlt : k < l.length
    · have ht := List.getElem?_eq_getElem hlt
      generalize l[k] = t at ht
      have hsz := hbw.size
      have hr' := hr.below hbw hB
      obtain ⟨b, o, rfl, _, c0⟩ := hr'.int ht
      have Ht := Lib.hid ht
      have Ha := Lib.hid hall
      have Hr := Lib.hid hr
      have Hr' := Lib.hid hr'
      clear ht hall hr hr'
      go_wp2_with (go_at_call 61; refine (heights1_any _ _).mono ?_; rintro e w1 ⟨rfl, hb⟩)
      · go_ret
        exact ⟨ret_int (by rw [idxB_here _ _ Ht.out Ha.out (by simp_all)]), by repeat' (first | (with_reducible exact Below.refl _ _) | (with_reducible assumption) | (with_reducible refine Below.alloc ?_ ?_ _) | (with_reducible refine Below.drew ?_) | (with_reducible refine below_drewN ?_ _) | (with_reducible refine Below.setCell ?_ ?_ _) | (with_reducible refine Below.trans ?_ (Below.mono (by assumption) ?_)) | go_size | (exact Below.size (by assumption)))⟩
      · go_roundw
        case rel => exact ⟨k + 1, by omega, by go_num, by rw [any_step _ _ Ht.out, Ha.out]; simp_all, by repeat' (first | (with_reducible exact Below.refl _ _) | (with_reducible assumption) | (with_reducible refine Below.alloc ?_ ?_ _) | (with_reducible refine Below.drew ?_) | (with_reducible refine below_drewN ?_ _) | (with_reducible refine Below.setCell ?_ ?_ _) | (with_reducible refine Below.trans ?_ (Below.mono (by assumption) ?_)) | go_size | (exact Below.size (by assumption)))⟩
        case measure => simp [intOf]; omega
    · have hk' : k = l.length := by omega
      subst hk'
      rw [List.take_length] at hall
      have Ha := Lib.hid hall
      clear hall
      go_wp2
      go_ret
      exact ⟨ret_int (by rw [idxB_none _ _ Ha.out]), by repeat' (first | (with_reducible exact Below.refl _ _) | (with_reducible assumption) | (with_reducible refine Below.alloc ?_ ?_ _) | (with_reducible refine Below.drew ?_) | (with_reducible refine below_drewN ?_ _) | (with_reducible refine Below.setCell ?_ ?_ _) | (with_reducible refine Below.trans ?_ (Below.mono (by assumption) ?_)) | go_size | (exact Below.size (by assumption)))⟩
theorem conHts1 (l : List (Int)) (A : Option Addr) (B c : Nat)  (w : World) (hr : Rd w B A (ints l)) (hB : B ≤ w.heap.size) (hn : l.length ≤ 1048576)  :
   Calls Try.prog 60 #[.slice A l.length c, .func (Fn.func 61) #[] #[]] w fun e w' => e = .returned (.bool (l.any (fun x => !inB x 1 3000))) ∧ Below w.heap.size w w' := by
  go_enter Try.func60, Try.ntmps60
  go_wp2_with (go_at_call 67; refine (idxHts1 l A B c  w hr hB hn ).mono ?_; rintro e w1 ⟨rfl, hb⟩)
  go_ret
  exact ⟨ret_bool (idxB_any _ _), by repeat' (first | (with_reducible exact Below.refl _ _) | (with_reducible assumption) | (with_reducible refine Below.alloc ?_ ?_ _) | (with_reducible refine Below.drew ?_) | (with_reducible refine below_drewN ?_ _) | (with_reducible refine Below.setCell ?_ ?_ _) | (with_reducible refine Below.trans ?_ (Below.mono (by assumption) ?_)) | go_size | (exact Below.size (by assumption)))⟩
end Go.Proofs.Ytdjbbjehgfkefaa
