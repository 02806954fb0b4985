/- RunCommands of the program and of the reference: walks. -/
import Derived.Test.YtakchdkoildkbaaDoorV
import Derived.Test.YtakchdkoildkbaaDoorCm
namespace Go.Proofs.YtakchdkoildkbaaDoor
open Go.ChangeShapes Go.WideShapes Go.ChangeAt Go.RowKit
set_option maxRecDepth 20000
set_option linter.unusedVariables false
set_option linter.unusedSimpArgs false
abbrev Cmd := Int × Int × Bool
def okC (t : Cmd) : Bool := cmdB t.1 t.2.1
def modeAt (l : List Cmd) (m : Int) : Nat → Int
  | 0 => m
  | k + 1 => match l[k]? with | some t => nextK t.1.toNat (modeAt l m k) t.2.1 t.2.2 | none => modeAt l m k
def verdUp (l : List Cmd) (m : Int) : Nat → List Int
  | 0 => []
  | k + 1 => verdUp l m k ++ (match l[k]? with | some t => [verd t.1.toNat (modeAt l m k) t.2.1 t.2.2] | none => [])
theorem modeAt_step {l : List Cmd} {m : Int} {k : Nat} {t : Cmd} (h : l[k]? = some t) : modeAt l m (k + 1) = nextK t.1.toNat (modeAt l m k) t.2.1 t.2.2 := by simp [modeAt, h]
theorem verdUp_step {l : List Cmd} {m : Int} {k : Nat} {t : Cmd} (h : l[k]? = some t) : verdUp l m (k + 1) = verdUp l m k ++ [verd t.1.toNat (modeAt l m k) t.2.1 t.2.2] := by simp [verdUp, h]
theorem verdUp_length {l : List Cmd} {m : Int} : ∀ k, k ≤ l.length → (verdUp l m k).length = k
  | 0, _ => rfl
  | k + 1, h => by rw [verdUp_step (List.getElem?_eq_getElem (by omega)), List.length_append, verdUp_length k (by omega)]; rfl
theorem toK_range {k : Nat} (hk : k < 10) : 0 ≤ toK k ∧ toK k ≤ 5 := by
  rcases k_cases hk with rfl | rfl | rfl | rfl | rfl | rfl | rfl | rfl | rfl | rfl <;> decide
theorem next_range {k : Nat} (hk : k < 10) {m r : Int} {b : Bool} (h : 0 ≤ m ∧ m ≤ 5) : 0 ≤ nextK k m r b ∧ nextK k m r b ≤ 5 := by
  unfold nextK
  split
  · exact toK_range hk
  · exact h
theorem cmdB_nat {t : Cmd} (h : okC t = true) : t.1.toNat < 10 ∧ t.1 = (t.1.toNat : Int) := by
  unfold okC cmdB inB at h
  simp only [Bool.and_eq_true, decide_eq_true_eq] at h
  omega
theorem all_atC {l : List Cmd} (h : l.all okC = true) {k : Nat} {t : Cmd} (hk : l[k]? = some t) : okC t = true := by
  rw [List.all_eq_true] at h
  exact h t (List.mem_of_getElem? hk)
theorem mode_range {l : List Cmd} (h : l.all okC = true) {m : Int} (hm : 0 ≤ m ∧ m ≤ 5) : ∀ k, 0 ≤ modeAt l m k ∧ modeAt l m k ≤ 5
  | 0 => hm
  | k + 1 => by
    cases ht : l[k]? with
    | none => simp only [modeAt, ht]; exact mode_range h hm k
    | some t => rw [modeAt_step ht]; exact next_range (cmdB_nat (all_atC h ht)).1 (mode_range h hm k)
def rnC (l : List Cmd) (m : Int) : Int := if 200 < l.length then 3 else if l.all okC then (if inB m 0 5 then 0 else 2) else 1
def rnM (l : List Cmd) (m : Int) : Int := if rnC l m = 0 then modeAt l m l.length else 0
def rnR (l : List Cmd) (m : Int) : List Int := if rnC l m = 0 then verdUp l m l.length else []
theorem rn_cases (l : List Cmd) (m : Int) : (200 < l.length ∧ rnC l m = 3 ∧ rnM l m = 0 ∧ rnR l m = []) ∨ (l.length ≤ 200 ∧ l.all okC = false ∧ rnC l m = 1 ∧ rnM l m = 0 ∧ rnR l m = []) ∨
    (l.length ≤ 200 ∧ l.all okC = true ∧ inB m 0 5 = false ∧ rnC l m = 2 ∧ rnM l m = 0 ∧ rnR l m = []) ∨ (l.length ≤ 200 ∧ l.all okC = true ∧ inB m 0 5 = true ∧ rnC l m = 0 ∧ rnM l m = modeAt l m l.length ∧ rnR l m = verdUp l m l.length) := by
  by_cases h : 200 < l.length
  · left; have hc : rnC l m = 3 := if_pos h
    exact ⟨h, hc, by simp [rnM, hc], by simp [rnR, hc]⟩
  · right
    cases ha : l.all okC with
    | false => left; have hc : rnC l m = 1 := by rw [rnC, if_neg h, ha]; rfl
               exact ⟨by omega, rfl, hc, by simp [rnM, hc], by simp [rnR, hc]⟩
    | true =>
      right
      cases hb : inB m 0 5 with
      | false => left; have hc : rnC l m = 2 := by rw [rnC, if_neg h, ha, hb]; rfl
                 exact ⟨by omega, rfl, rfl, hc, by simp [rnM, hc], by simp [rnR, hc]⟩
      | true => right; have hc : rnC l m = 0 := by rw [rnC, if_neg h, ha, hb]; rfl
                exact ⟨by omega, rfl, rfl, hc, by simp [rnM, hc], by simp [rnR, hc]⟩
theorem rnR_len (l : List Cmd) (m : Int) : (rnR l m).length ≤ 1048576 := by
  rcases rn_cases l m with ⟨_, _, _, h⟩ | ⟨_, _, _, _, h⟩ | ⟨_, _, _, _, _, h⟩ | ⟨h2, _, _, _, _, h⟩ <;> rw [h]
  · simp
  · simp
  · simp
  · rw [verdUp_length _ (Nat.le_refl _)]; omega
theorem conCmd_r (l : List Cmd) (A : Option Addr) (B c : Nat) (r : Bool) (h : l.all okC = r) (w : World) (hr : Rd w B A (l.flatMap eCommand)) (hB : B ≤ w.heap.size) (hn : l.length ≤ 1048576) :
   Calls Tryd.prog 57 #[.slice A l.length c, .func (Fn.func 58) #[] #[]] w fun e w' => e = .returned (.bool (!r)) ∧ Below w.heap.size w w' := by
  have hx := conCmd1 l A B c w hr hB hn
  have he : l.any (fun t => !cmdB t.1 t.2.1) = !l.all okC := any_not_all okC l
  rw [he, h] at hx
  exact hx
theorem cmdCode_any (l : List Cmd) (m : Int) (v : Int) (a q : Bool) (ha : l.all okC = a) (hq : inB m 0 5 = q) (hv : (if a then (if q then 0 else 2) else 1) = v) (A : Option Addr) (B c : Nat) (w : World) (hr : Rd w B A (l.flatMap eCommand)) (hB : B ≤ w.heap.size) (hn : l.length ≤ 1048576) :
   Calls Tryd.prog 43 #[.int .i64 m, .slice A l.length c] w fun e w' => e = .returned (.int .i64 v) ∧ Below w.heap.size w w' := by
  subst hv
  have Ha := Lib.hid ha
  have Hq := Lib.hid hq
  clear ha hq
  cases a <;> cases q <;> go_enter Tryd.func43, Tryd.ntmps43
  · go_wp2_with (first | (go_at_call 57; refine (conCmd_r l A B c false Ha.out w hr hB hn).mono ?_; rintro e w1 ⟨rfl, hb⟩) | (go_at_call 37; refine (isMode_r m false Hq.out _).mono ?_; rintro e w' ⟨rfl, rfl⟩))
    go_ret
    exact ⟨rfl, by repeat' (first | (with_reducible exact Below.refl _ _) | (with_reducible assumption) | (with_reducible refine Below.alloc ?_ ?_ _) | (with_reducible refine Below.drew ?_) | (with_reducible refine below_drewN ?_ _) | (with_reducible refine Below.setCell ?_ ?_ _) | (with_reducible refine Below.trans ?_ (Below.mono (by assumption) ?_)) | go_size | (exact Below.size (by assumption)))⟩
  · go_wp2_with (first | (go_at_call 57; refine (conCmd_r l A B c false Ha.out w hr hB hn).mono ?_; rintro e w1 ⟨rfl, hb⟩) | (go_at_call 37; refine (isMode_r m true Hq.out _).mono ?_; rintro e w' ⟨rfl, rfl⟩))
    go_ret
    exact ⟨rfl, by repeat' (first | (with_reducible exact Below.refl _ _) | (with_reducible assumption) | (with_reducible refine Below.alloc ?_ ?_ _) | (with_reducible refine Below.drew ?_) | (with_reducible refine below_drewN ?_ _) | (with_reducible refine Below.setCell ?_ ?_ _) | (with_reducible refine Below.trans ?_ (Below.mono (by assumption) ?_)) | go_size | (exact Below.size (by assumption)))⟩
  · go_wp2_with (first | (go_at_call 57; refine (conCmd_r l A B c true Ha.out w hr hB hn).mono ?_; rintro e w1 ⟨rfl, hb⟩) | (go_at_call 37; refine (isMode_r m false Hq.out _).mono ?_; rintro e w' ⟨rfl, rfl⟩))
    go_ret
    exact ⟨rfl, by repeat' (first | (with_reducible exact Below.refl _ _) | (with_reducible assumption) | (with_reducible refine Below.alloc ?_ ?_ _) | (with_reducible refine Below.drew ?_) | (with_reducible refine below_drewN ?_ _) | (with_reducible refine Below.setCell ?_ ?_ _) | (with_reducible refine Below.trans ?_ (Below.mono (by assumption) ?_)) | go_size | (exact Below.size (by assumption)))⟩
  · go_wp2_with (first | (go_at_call 57; refine (conCmd_r l A B c true Ha.out w hr hB hn).mono ?_; rintro e w1 ⟨rfl, hb⟩) | (go_at_call 37; refine (isMode_r m true Hq.out _).mono ?_; rintro e w' ⟨rfl, rfl⟩))
    go_ret
    exact ⟨rfl, by repeat' (first | (with_reducible exact Below.refl _ _) | (with_reducible assumption) | (with_reducible refine Below.alloc ?_ ?_ _) | (with_reducible refine Below.drew ?_) | (with_reducible refine below_drewN ?_ _) | (with_reducible refine Below.setCell ?_ ?_ _) | (with_reducible refine Below.trans ?_ (Below.mono (by assumption) ?_)) | go_size | (exact Below.size (by assumption)))⟩
end Go.Proofs.YtakchdkoildkbaaDoor
