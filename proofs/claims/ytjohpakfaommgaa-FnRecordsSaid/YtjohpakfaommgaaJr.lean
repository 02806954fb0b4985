/- Journals of the program and of the reference: walks. -/
import Derived.Test.YtjohpakfaommgaaEr
import Derived.Test.YtjohpakfaommgaaJr0
namespace Go.Proofs.Ytjohpakfaommgaa
open Go.ChangeShapes Go.WideShapes Go.ChangeAt Go.RowKit
set_option maxRecDepth 20000
set_option linter.unusedVariables false
set_option linter.unusedSimpArgs false
abbrev Rec3 := Int × Int × Int
def okR (t : Rec3) : Bool := recB t.1 t.2.1 t.2.2
def encT (t : Rec3) (k : Nat) : List Int := encL t.1.toNat t.2.1.toNat t.2.2.toNat k
def jourUp (l : List Rec3) : Nat → List Int
  | 0 => []
  | k + 1 => jourUp l k ++ (match l[k]? with | some t => encT t k | none => [])
theorem jourUp_step {l : List Rec3} {k : Nat} {t : Rec3} (h : l[k]? = some t) : jourUp l (k + 1) = jourUp l k ++ encT t k := by simp [jourUp, h]
theorem jourUp_length {l : List Rec3} : ∀ k, k ≤ l.length → (jourUp l k).length = 14 * k
  | 0, _ => rfl
  | k + 1, h => by
    rw [jourUp_step (List.getElem?_eq_getElem (by omega)), List.length_append, jourUp_length k (by omega), encT, encL_length]
    omega
def jourC (l : List Rec3) : Int := if 100 < l.length then 3 else if l.all okR then 0 else 1
def jourR (l : List Rec3) : List Int := if jourC l = 0 then jourUp l l.length else []
theorem jourR_len (l : List Rec3) (hn : l.length ≤ 1048576) : (jourR l).length ≤ 1048576 := by
  unfold jourR
  split
  · rename_i h
    rw [jourUp_length _ (Nat.le_refl _)]
    unfold jourC at h
    split at h
    · omega
    · omega
  · simp
theorem jour_cases (l : List Rec3) : (100 < l.length ∧ jourC l = 3 ∧ jourR l = []) ∨ (l.length ≤ 100 ∧ l.all okR = false ∧ jourC l = 1 ∧ jourR l = []) ∨ (l.length ≤ 100 ∧ l.all okR = true ∧ jourC l = 0 ∧ jourR l = jourUp l l.length) := by
  by_cases h : 100 < l.length
  · left
    have hc : jourC l = 3 := if_pos h
    exact ⟨h, hc, by simp [jourR, hc]⟩
  · right
    cases ha : l.all okR with
    | false => left; have hc : jourC l = 1 := by rw [jourC, if_neg h, ha]; rfl
               exact ⟨by omega, rfl, hc, by simp [jourR, hc]⟩
    | true => right; have hc : jourC l = 0 := by rw [jourC, if_neg h, ha]; rfl
              exact ⟨by omega, rfl, hc, by simp [jourR, hc]⟩
theorem all_at {l : List Rec3} (h : l.all okR = true) {k : Nat} {t : Rec3} (hk : l[k]? = some t) : recB t.1 t.2.1 t.2.2 = true := by
  rw [List.all_eq_true] at h
  exact h t (List.mem_of_getElem? hk)
theorem journal_any (l : List Rec3) (ha : l.all okR = true) (hl : l.length ≤ 100) (A : Option Addr) (B c : Nat) (w : World) (hr : Rd w B A (l.flatMap eEventRecord)) (hB : B ≤ w.heap.size) :
   Calls Try.prog 65 #[.slice A l.length c] w fun e w' => ∃ A' c', e = .returned (.slice A' (jourUp l l.length).length c') ∧ w'.ownsRow w.heap.size 2 1 (.slice A' (jourUp l l.length).length c') (jourUp l l.length).length (ints (jourUp l l.length)) ∧ Below w.heap.size w w' := by
  obtain ⟨i0, hi0, hz0, hz1, hz2⟩ := info_parts infoInt64
  have Hat := Lib.hid (fun (k : Nat) (t : Rec3) (h : l[k]? = some t) => all_at ha h)
  have Hlen := Lib.hid (jourUp_length (l := l) l.length (Nat.le_refl _))
  clear ha
  go_enter Try.func65, Try.ntmps65
  go_wp2_with fail
  go_loopw [3, 8] (fun v i wr => ∃ k : Nat, k ≤ l.length ∧ i = .int .i64 k ∧ wr.ownsRow w.heap.size 2 1 v (14 * k) (ints (jourUp l k)) ∧ Below w.heap.size w wr) (fun _ i _ => l.length - (intOf i).toNat)
  case atStart => exact ⟨0, Nat.zero_le _, rfl, World.ownsRow_nil _ _ _ _, by repeat' (first | (with_reducible exact Below.refl _ _) | (with_reducible assumption) | (with_reducible refine Below.alloc ?_ ?_ _) | (with_reducible refine Below.drew ?_) | (with_reducible refine below_drewN ?_ _) | (with_reducible refine Below.setCell ?_ ?_ _) | (with_reducible refine Below.trans ?_ (Below.mono (by assumption) ?_)) | go_size | (exact Below.size (by assumption)))⟩
  case round =>
    obtain ⟨k, hk, rfl, hown, hbw⟩ := hrel
    have hsz := hbw.size
    by_cases hlt : k < l.length
    · have ht := List.getElem?_eq_getElem hlt
      generalize l[k] = t at ht
      obtain ⟨b, o, rfl, _, c0, c1, c2⟩ := (hr.below hbw hB).atEventRecord ht
      obtain ⟨t1, k1, v1, q1, q2, q3, p1, p2, p3⟩ := recB_nat (Hat.out k t ht)
      have hs := jourUp_step ht
      obtain ⟨x1, x2, x3⟩ := t
      simp only at q1 q2 q3 c0 c1 c2
      subst q1 q2 q3
      have he : encT ((t1 : Int), (k1 : Int), (v1 : Int)) k = encL t1 k1 v1 k := by simp [encT]
      rw [he] at hs
      have Hs := Lib.hid hs
      have Ho := Lib.hid hown
      have Hr := Lib.hid hr
      clear ht hown hr he hs
      go_wp2_with (first | (go_at_call 59; refine (encode_any t1 k1 v1 k p1 p2 p3 (by omega) _).mono ?_; rintro e w1 ⟨A1, c3, rfl, o1, b1⟩; have R1 := Lib.hid (Rd.of_own o1); have O1 := Lib.hid (own_below (Ho.out.alloc _) b1); have hs1 := b1.size; (try simp only [World.size_alloc] at hs1); clear o1) | (at_builtin; refine wpList_append_rd rfl (.tmp 13) (.tmp 16) 22 rfl w.heap.size 2 i0 _ 1 8 Try.underlying22 hi0 hz0 hz1 hz2 rfl (by decide) _ (14 * k) _ rfl O1.out _ A1 14 c3 _ rfl (by simp [ints, encL_length]) R1.out (ints_one _) (by unfold maxLen; omega) (by omega) (by omega) ?_; intro v2 w2 o2 hb2 hz4; have O2 := Lib.hid o2; clear o2))
      go_roundw
      case rel =>
        have o2 := O2.out
        refine ⟨k + 1, by omega, by go_num, ?_, by repeat' (first | (with_reducible exact Below.refl _ _) | (with_reducible assumption) | (with_reducible refine Below.alloc ?_ ?_ _) | (with_reducible refine Below.drew ?_) | (with_reducible refine below_drewN ?_ _) | (with_reducible refine Below.setCell ?_ ?_ _) | (with_reducible refine Below.trans ?_ (Below.mono (by assumption) ?_)) | go_size | (exact Below.size (by assumption)))⟩
        rw [Hs.out, show 14 * (k + 1) = 14 * k + 14 by omega]
        simpa [ints] using o2
      case measure => simp [intOf]; omega
    · have hk' : k = l.length := by omega
      subst hk'
      obtain ⟨A', c', rfl⟩ := own_val hown
      have Ho := Lib.hid hown
      clear hown
      go_wp2
      go_ret
      rw [Hlen.out]
      exact ⟨_, _, rfl, Ho.out, hbw⟩
theorem l32Journal_any (l : List Rec3) (ha : l.all okR = true) (hl : l.length ≤ 100) (A : Option Addr) (B c : Nat) (w : World) (hr : Rd w B A (l.flatMap eEventRecord)) (hB : B ≤ w.heap.size) :
   Calls Try.prog 62 #[.slice A l.length c] w fun e w' => ∃ A' c', e = .returned (.slice A' (jourUp l l.length).length c') ∧ w'.ownsRow w.heap.size 2 1 (.slice A' (jourUp l l.length).length c') (jourUp l l.length).length (ints (jourUp l l.length)) ∧ Below w.heap.size w w' := by
  obtain ⟨i0, hi0, hz0, hz1, hz2⟩ := info_parts infoInt64
  have Hat := Lib.hid (fun (k : Nat) (t : Rec3) (h : l[k]? = some t) => all_at ha h)
  have Hlen := Lib.hid (jourUp_length (l := l) l.length (Nat.le_refl _))
  clear ha
  go_enter Try.func62, Try.ntmps62
  go_wp2_with fail
  go_loopw [3, 4] (fun v i wr => ∃ k : Nat, k ≤ l.length ∧ i = .int .i64 k ∧ wr.ownsRow w.heap.size 2 1 v (14 * k) (ints (jourUp l k)) ∧ Below w.heap.size w wr) (fun _ i _ => l.length - (intOf i).toNat)
  case atStart => exact ⟨0, Nat.zero_le _, rfl, World.ownsRow_made w #[] 0 (Nat.le_refl _) (by simp [maxLen]) rfl, by repeat' (first | (with_reducible exact Below.refl _ _) | (with_reducible assumption) | (with_reducible refine Below.alloc ?_ ?_ _) | (with_reducible refine Below.drew ?_) | (with_reducible refine below_drewN ?_ _) | (with_reducible refine Below.setCell ?_ ?_ _) | (with_reducible refine Below.trans ?_ (Below.mono (by assumption) ?_)) | go_size | (exact Below.size (by assumption)))⟩
  case round =>
    obtain ⟨k, hk, rfl, hown, hbw⟩ := hrel
    have hsz := hbw.size
    by_cases hlt : k < l.length
    · have ht := List.getElem?_eq_getElem hlt
      generalize l[k] = t at ht
      obtain ⟨b, o, rfl, _, c0, c1, c2⟩ := (hr.below hbw hB).atEventRecord ht
      obtain ⟨t1, k1, v1, q1, q2, q3, p1, p2, p3⟩ := recB_nat (Hat.out k t ht)
      have hs := jourUp_step ht
      obtain ⟨x1, x2, x3⟩ := t
      simp only at q1 q2 q3 c0 c1 c2
      subst q1 q2 q3
      have he : encT ((t1 : Int), (k1 : Int), (v1 : Int)) k = encL t1 k1 v1 k := by simp [encT]
      rw [he] at hs
      have Hs := Lib.hid hs
      have Ho := Lib.hid hown
      have Hr := Lib.hid hr
      clear ht hown hr he hs
      go_wp2_with (first | (go_at_call 57; refine (l32Encode_any t1 k1 v1 k p1 p2 p3 (by omega) _).mono ?_; rintro e w1 ⟨A1, c3, rfl, o1, b1⟩; have R1 := Lib.hid (Rd.of_own o1); have O1 := Lib.hid (own_below Ho.out b1); have hs1 := b1.size; (try simp only [World.size_alloc] at hs1); clear o1) | (at_builtin; refine wpList_append_rd rfl (.tmp 12) (.tmp 18) 22 rfl w.heap.size 2 i0 _ 1 8 Try.underlying22 hi0 hz0 hz1 hz2 rfl (by decide) _ (14 * k) _ rfl O1.out _ A1 14 c3 _ rfl (by simp [ints, encL_length]) R1.out (ints_one _) (by unfold maxLen; omega) (by omega) (by omega) ?_; intro v2 w2 o2 hb2 hz4; have O2 := Lib.hid o2; clear o2))
      go_roundw
      case rel =>
        have o2 := O2.out
        refine ⟨k + 1, by omega, by go_num, ?_, by repeat' (first | (with_reducible exact Below.refl _ _) | (with_reducible assumption) | (with_reducible refine Below.alloc ?_ ?_ _) | (with_reducible refine Below.drew ?_) | (with_reducible refine below_drewN ?_ _) | (with_reducible refine Below.setCell ?_ ?_ _) | (with_reducible refine Below.trans ?_ (Below.mono (by assumption) ?_)) | go_size | (exact Below.size (by assumption)))⟩
        rw [Hs.out, show 14 * (k + 1) = 14 * k + 14 by omega]
        simpa [ints] using o2
      case measure => simp [intOf]; omega
    · have hk' : k = l.length := by omega
      subst hk'
      obtain ⟨A', c', rfl⟩ := own_val hown
      have Ho := Lib.hid hown
      clear hown
      go_wp2
      go_ret
      rw [Hlen.out]
      exact ⟨_, _, rfl, Ho.out, hbw⟩
theorem conRec_r (l : List Rec3) (A : Option Addr) (B c : Nat) (r : Bool) (h : l.all okR = r) (w : World) (hr : Rd w B A (l.flatMap eEventRecord)) (hB : B ≤ w.heap.size) (hn : l.length ≤ 1048576) :
   Calls Try.prog 63 #[.slice A l.length c, .func (Fn.func 64) #[] #[]] w fun e w' => e = .returned (.bool (!r)) ∧ Below w.heap.size w w' := by
  have hx := conRec1 l A B c w hr hB hn
  have he : l.any (fun t => !recB t.1 t.2.1 t.2.2) = !l.all okR := any_not_all okR l
  rw [he, h] at hx
  exact hx
theorem jour_impl (l : List Rec3) (A : Option Addr) (B c : Nat) (w : World) (hr : Rd w B A (l.flatMap eEventRecord)) (hB : B ≤ w.heap.size) (hn : l.length ≤ 1048576) :
   Calls Try.prog 29 #[.slice A l.length c] w fun e w' => ∃ A' c', e = .returned (.tuple #[.slice A' (jourR l).length c', .int .i64 (jourC l)]) ∧ w'.ownsRow w.heap.size 2 1 (.slice A' (jourR l).length c') (jourR l).length (ints (jourR l)) ∧ Below w.heap.size w w' := by
  rcases jour_cases l with ⟨h, h1, h2⟩ | ⟨h, ha, h1, h2⟩ | ⟨h, ha, h1, h2⟩
  · rw [h1, h2]
    clear h1 h2
    go_enter Try.func29, Try.ntmps29
    go_wp2
    go_ret2
    exact ⟨none, 0, rfl, World.ownsRow_nil _ _ _ _, by repeat' (first | (with_reducible exact Below.refl _ _) | (with_reducible assumption) | (with_reducible refine Below.alloc ?_ ?_ _) | (with_reducible refine Below.drew ?_) | (with_reducible refine below_drewN ?_ _) | (with_reducible refine Below.setCell ?_ ?_ _) | (with_reducible refine Below.trans ?_ (Below.mono (by assumption) ?_)) | go_size | (exact Below.size (by assumption)))⟩
  · rw [h1, h2]
    have Ha := Lib.hid ha
    clear h1 h2 ha
    go_enter Try.func29, Try.ntmps29
    go_wp2_with (first | (go_at_call 63; refine (conRec_r l A B c false Ha.out w hr hB hn).mono ?_; rintro e w1 ⟨rfl, hb⟩))
    go_ret2
    exact ⟨none, 0, rfl, World.ownsRow_nil _ _ _ _, by repeat' (first | (with_reducible exact Below.refl _ _) | (with_reducible assumption) | (with_reducible refine Below.alloc ?_ ?_ _) | (with_reducible refine Below.drew ?_) | (with_reducible refine below_drewN ?_ _) | (with_reducible refine Below.setCell ?_ ?_ _) | (with_reducible refine Below.trans ?_ (Below.mono (by assumption) ?_)) | go_size | (exact Below.size (by assumption)))⟩
  · rw [h1, h2]
    have Ha := Lib.hid ha
    clear h1 h2 ha
    go_enter Try.func29, Try.ntmps29
    go_wp2_with (first | (go_at_call 63; refine (conRec_r l A B c true Ha.out w hr hB hn).mono ?_; rintro e w1 ⟨rfl, hb⟩; have hz := hb.size; have hr1 := Lib.hid (hr.below hb hB)) | (go_at_call 65; refine (journal_any l Ha.out h A B c _ hr1.out (by omega)).mono ?_; rintro e w2 ⟨A2, c2, rfl, o2, b2⟩; have O2 := Lib.hid (own_more o2 hz); clear o2))
    go_ret2
    exact ⟨A2, c2, rfl, O2.out, by repeat' (first | (with_reducible exact Below.refl _ _) | (with_reducible assumption) | (with_reducible refine Below.alloc ?_ ?_ _) | (with_reducible refine Below.drew ?_) | (with_reducible refine below_drewN ?_ _) | (with_reducible refine Below.setCell ?_ ?_ _) | (with_reducible refine Below.trans ?_ (Below.mono (by assumption) ?_)) | go_size | (exact Below.size (by assumption)))⟩
theorem jour_spec (l : List Rec3) (A : Option Addr) (B c : Nat) (w : World) (hr : Rd w B A (l.flatMap eEventRecord)) (hB : B ≤ w.heap.size) (hn : l.length ≤ 1048576) :
   Calls Try.prog 27 #[.slice A l.length c] w fun e w' => ∃ A' c', e = .returned (.tuple #[.slice A' (jourR l).length c', .int .i64 (jourC l)]) ∧ w'.ownsRow w.heap.size 2 1 (.slice A' (jourR l).length c') (jourR l).length (ints (jourR l)) ∧ Below w.heap.size w w' := by
  by_cases h : 100 < l.length
  · have h1 : jourC l = 3 := if_pos h
    have h2 : jourR l = [] := by simp [jourR, h1]
    rw [h1, h2]
    clear h1 h2
    go_enter Try.func27, Try.ntmps27
    go_wp2
    go_ret2
    exact ⟨none, 0, rfl, World.ownsRow_nil _ _ _ _, by repeat' (first | (with_reducible exact Below.refl _ _) | (with_reducible assumption) | (with_reducible refine Below.alloc ?_ ?_ _) | (with_reducible refine Below.drew ?_) | (with_reducible refine below_drewN ?_ _) | (with_reducible refine Below.setCell ?_ ?_ _) | (with_reducible refine Below.trans ?_ (Below.mono (by assumption) ?_)) | go_size | (exact Below.size (by assumption)))⟩
  · have h' : l.length ≤ 100 := by omega
    have hbad : l.all okR = false → jourC l = 1 ∧ jourR l = [] := fun ha => by
      have hc : jourC l = 1 := by rw [jourC, if_neg h, ha]; rfl
      exact ⟨hc, by simp [jourR, hc]⟩
    have hgood : l.all okR = true → jourC l = 0 ∧ jourR l = jourUp l l.length := fun ha => by
      have hc : jourC l = 0 := by rw [jourC, if_neg h, ha]; rfl
      exact ⟨hc, by simp [jourR, hc]⟩
    have Hbad := Lib.hid hbad
    have Hgood := Lib.hid hgood
    clear hbad hgood h
    go_enter Try.func27, Try.ntmps27
    go_wp2_with fail
    go_loopw [4] (fun i wr => ∃ k : Nat, k ≤ l.length ∧ i = .int .i64 k ∧ (l.take k).all okR = true ∧ Below w.heap.size w wr) (fun i _ => l.length - (intOf i).toNat)
    case atStart => exact ⟨0, Nat.zero_le _, rfl, by simp, Below.refl _ _⟩
    case round =>
      obtain ⟨k, hk, rfl, hall, hbw⟩ := hrel
      have hsz := hbw.size
      by_cases hlt : k < l.length
      · have ht := List.getElem?_eq_getElem hlt
        generalize l[k] = t at ht
        obtain ⟨b, o, rfl, _, c0, c1, c2⟩ := (hr.below hbw hB).atEventRecord ht
        have Ht := Lib.hid ht
        have Ha := Lib.hid hall
        have Hr := Lib.hid hr
        clear ht hall hr
        cases hp : recB t.1 t.2.1 t.2.2 with
        | false =>
          have Hp := Lib.hid hp
          clear hp
          go_wp2_with (go_at_call 42; refine (isER_spec_r _ _ _ false Hp.out _).mono ?_; rintro e w1 ⟨rfl, hb⟩)
          go_ret2
          obtain ⟨g1, g2⟩ := Hbad.out (all_false okR l Ht.out Hp.out)
          rw [g1, g2]
          exact ⟨none, 0, rfl, World.ownsRow_nil _ _ _ _, by repeat' (first | (with_reducible exact Below.refl _ _) | (with_reducible assumption) | (with_reducible refine Below.alloc ?_ ?_ _) | (with_reducible refine Below.drew ?_) | (with_reducible refine below_drewN ?_ _) | (with_reducible refine Below.setCell ?_ ?_ _) | (with_reducible refine Below.trans ?_ (Below.mono (by assumption) ?_)) | go_size | (exact Below.size (by assumption)))⟩
        | true =>
          have Hp := Lib.hid hp
          clear hp
          go_wp2_with (go_at_call 42; refine (isER_spec_r _ _ _ true Hp.out _).mono ?_; rintro e w1 ⟨rfl, hb⟩)
          go_roundw
          case rel => exact ⟨k + 1, by omega, by go_num, by rw [all_step okR l Ht.out, Ha.out, okR, Hp.out]; rfl, by repeat' (first | (with_reducible exact Below.refl _ _) | (with_reducible assumption) | (with_reducible refine Below.alloc ?_ ?_ _) | (with_reducible refine Below.drew ?_) | (with_reducible refine below_drewN ?_ _) | (with_reducible refine Below.setCell ?_ ?_ _) | (with_reducible refine Below.trans ?_ (Below.mono (by assumption) ?_)) | go_size | (exact Below.size (by assumption)))⟩
          case measure => simp [intOf]; omega
      · have hk' : k = l.length := by omega
        subst hk'
        rw [List.take_length] at hall
        have Ha := Lib.hid hall
        have hr1 := Lib.hid (hr.below hbw hB)
        clear hall hr
        go_wp2_with (go_at_call 62; refine (l32Journal_any l Ha.out h' A B c _ hr1.out (by omega)).mono ?_; rintro e w2 ⟨A2, c2, rfl, o2, b2⟩; have O2 := Lib.hid (own_more o2 hsz); clear o2)
        go_ret2
        obtain ⟨g1, g2⟩ := Hgood.out Ha.out
        rw [g1, g2]
        exact ⟨A2, c2, rfl, O2.out, by repeat' (first | (with_reducible exact Below.refl _ _) | (with_reducible assumption) | (with_reducible refine Below.alloc ?_ ?_ _) | (with_reducible refine Below.drew ?_) | (with_reducible refine below_drewN ?_ _) | (with_reducible refine Below.setCell ?_ ?_ _) | (with_reducible refine Below.trans ?_ (Below.mono (by assumption) ?_)) | go_size | (exact Below.size (by assumption)))⟩
end Go.Proofs.Ytjohpakfaommgaa
