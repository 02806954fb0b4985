/- AddLock of the program and of the reference: walks. -/
import Derived.Test.YtmbchcenclfjoaaLk2
import Derived.Test.YtmbchcenclfjoaaB
import Derived.Test.YtmbchcenclfjoaaApp
import Derived.Test.YtmbchcenclfjoaaStep
import Derived.Deep.RegionWith
import Derived.Deep.RegionHeld3
namespace Go.Proofs.Ytmbchcenclfjoaa
open Go.ChangeShapes Go.WideShapes Go.ChangeAt Go.RowKit
set_option maxRecDepth 20000
set_option linter.unusedVariables false
set_option linter.unusedSimpArgs false
def lcC (l : List (Int × Int)) (d o : Int) : Int := if locksB l then (if lockB (d, o) then 0 else 2) else 1
def addC (l : List (Int × Int)) (d o : Int) : Int := if lcC l d o ≠ 0 then lcC l d o else if l.any (· == (d, o)) then 5 else if l.length = 8 then 3 else 0
def addR (l : List (Int × Int)) (d o : Int) : List (Int × Int) := if addC l d o = 0 then l ++ [(d, o)] else []
theorem addR_len (l : List (Int × Int)) (d o : Int) : (addR l d o).length ≤ 1048576 := by
  unfold addR
  split
  · rename_i h
    unfold addC lcC at h
    have hb : l.length ≤ 8 := by
      cases hp : locksB l with
      | false => simp [hp] at h
      | true => unfold locksB at hp; simp only [Bool.and_eq_true, decide_eq_true_eq] at hp; exact hp.2
    simp; omega
  · simp
theorem locks_len {l : List (Int × Int)} (h : locksB l = true) : l.length ≤ 8 := by unfold locksB at h; simp only [Bool.and_eq_true, decide_eq_true_eq] at h; exact h.2
theorem eLock_one : ∀ t, ∀ u ∈ eLock t, u.oneCell' = true := by intro t u hu; simp [eLock] at hu; rcases hu with rfl | rfl <;> rfl
theorem areLocks_spec_r (l : List (Int × Int)) (A : Option Addr) (B c : Nat) (r : Bool) (h : locksB l = r) (w : World) (hr : Rd w B A (l.flatMap eLock)) (hB : B ≤ w.heap.size) (hn : l.length ≤ 1048576) :
   Calls Try.prog 21 #[.slice A l.length c] w fun e w' => e = .returned (.bool r) ∧ Below w.heap.size w w' := h ▸ areLocks_spec l A B c w hr hB hn
theorem areLocks_impl_r (l : List (Int × Int)) (A : Option Addr) (B c : Nat) (hlc : l.length ≤ c) (r : Bool) (h : locksB l = r) (w : World) (hr : Rd w B A (l.flatMap eLock)) (hB : B ≤ w.heap.size) (hn : l.length ≤ 1048576) :
   Calls Try.prog 23 #[.slice A l.length c] w fun e w' => e = .returned (.bool r) ∧ Below w.heap.size w w' := h ▸ areLocks_impl l A B c w hr hB hlc hn
theorem isLock_rr (a b : Int) (r : Bool) (h : lockB (a, b) = r) (w : World) : Calls Try.prog 65 #[.agg #[.int .i64 a, .int .i64 b]] w fun e w' => e = .returned (.bool r) ∧ Below w.heap.size w w' := h ▸ isLock_any a b w
theorem l29Lock_r' (a b : Int) (r : Bool) (h : lockB (a, b) = r) (w : World) : Calls Try.prog 62 #[.int .i64 a, .int .i64 b] w fun e w' => e = .returned (.bool r) ∧ w = w' := h ▸ l29Lock_any a b w
theorem l29Locks_any (l : List (Int × Int)) (d o : Int) (A : Option Addr) (B c : Nat) (w : World) (hr : Rd w B A (l.flatMap eLock)) (hB : B ≤ w.heap.size) (hn : l.length ≤ 1048576) :
   Calls Try.prog 74 #[.slice A l.length c, .int .i64 d, .int .i64 o] w fun e w' => e = .returned (.int .i64 (lcC l d o)) ∧ Below w.heap.size w w' := by
  cases hp : locksB l with
  | false =>
    have hc : lcC l d o = 1 := by simp [lcC, hp]
    rw [hc]
    have Hp := Lib.hid hp
    clear hp hc
    go_enter Try.func74, Try.ntmps74
    go_wp2_with ((go_at_call 21; refine (areLocks_spec_r l A B c false Hp.out w hr hB hn).mono ?_; rintro e w1 ⟨rfl, hb⟩))
    go_ret
    exact ⟨rfl, hb⟩
  | true =>
    cases hk : lockB (d, o) with
    | false =>
      have hc : lcC l d o = 2 := by simp [lcC, hp, hk]
      rw [hc]
      have Hp := Lib.hid hp
      have Hk := Lib.hid hk
      clear hp hc hk
      go_enter Try.func74, Try.ntmps74
      go_wp2_with (first | (go_at_call 21; refine (areLocks_spec_r l A B c true Hp.out w hr hB hn).mono ?_; rintro e w1 ⟨rfl, hb⟩) | (go_at_call 62; refine (l29Lock_r' d o false Hk.out _).mono ?_; rintro e w' ⟨rfl, rfl⟩))
      go_ret
      exact ⟨rfl, hb⟩
    | true =>
      have hc : lcC l d o = 0 := by simp [lcC, hp, hk]
      rw [hc]
      have Hp := Lib.hid hp
      have Hk := Lib.hid hk
      clear hp hc hk
      go_enter Try.func74, Try.ntmps74
      go_wp2_with (first | (go_at_call 21; refine (areLocks_spec_r l A B c true Hp.out w hr hB hn).mono ?_; rintro e w1 ⟨rfl, hb⟩) | (go_at_call 62; refine (l29Lock_r' d o true Hk.out _).mono ?_; rintro e w' ⟨rfl, rfl⟩))
      go_ret
      exact ⟨rfl, hb⟩
theorem lockCode_any (l : List (Int × Int)) (d o : Int) (A : Option Addr) (B c : Nat) (hlc : l.length ≤ c) (w : World) (hr : Rd w B A (l.flatMap eLock)) (hB : B ≤ w.heap.size) (hn : l.length ≤ 1048576) :
   Calls Try.prog 75 #[.slice A l.length c, .agg #[.int .i64 d, .int .i64 o]] w fun e w' => e = .returned (.int .i64 (lcC l d o)) ∧ Below w.heap.size w w' := by
  cases hp : locksB l with
  | false =>
    have hc : lcC l d o = 1 := by simp [lcC, hp]
    rw [hc]
    have Hp := Lib.hid hp
    clear hp hc
    go_enter Try.func75, Try.ntmps75
    go_wp2_with ((go_at_call 23; refine (areLocks_impl_r l A B c hlc false Hp.out _ (hr.alloc hB _) (by simp; omega) hn).mono ?_; rintro e w1 ⟨rfl, hb⟩; obtain ⟨hc, hf, hz⟩ := bstep (N := w.heap.size + 1) (by go_size) hb))
    go_ret
    exact ⟨rfl, by repeat' (first | (with_reducible exact Below.refl _ _) | (with_reducible assumption) | (with_reducible refine Below.alloc ?_ ?_ _) | (with_reducible refine Below.drew ?_) | (with_reducible refine below_drewN ?_ _) | (with_reducible refine Below.setCell ?_ ?_ _) | (with_reducible refine Below.trans ?_ (Below.mono (by assumption) ?_)) | go_size | (exact Below.size (by assumption)))⟩
  | true =>
    cases hk : lockB (d, o) with
    | false =>
      have hc : lcC l d o = 2 := by simp [lcC, hp, hk]
      rw [hc]
      have Hp := Lib.hid hp
      have Hk := Lib.hid hk
      clear hp hc hk
      go_enter Try.func75, Try.ntmps75
      go_wp2_with (first | (go_at_call 23; refine (areLocks_impl_r l A B c hlc true Hp.out _ (hr.alloc hB _) (by simp; omega) hn).mono ?_; rintro e w1 ⟨rfl, hb⟩; obtain ⟨hc, hf, hz⟩ := bstep (N := w.heap.size + 1) (by go_size) hb) | (go_at_call 65; refine (isLock_rr d o false Hk.out _).mono ?_; rintro e w2 ⟨rfl, hb2⟩; have hz2 := hb2.size))
      go_ret
      exact ⟨rfl, by repeat' (first | (with_reducible exact Below.refl _ _) | (with_reducible assumption) | (with_reducible refine Below.alloc ?_ ?_ _) | (with_reducible refine Below.drew ?_) | (with_reducible refine below_drewN ?_ _) | (with_reducible refine Below.setCell ?_ ?_ _) | (with_reducible refine Below.trans ?_ (Below.mono (by assumption) ?_)) | go_size | (exact Below.size (by assumption)))⟩
    | true =>
      have hc : lcC l d o = 0 := by simp [lcC, hp, hk]
      rw [hc]
      have Hp := Lib.hid hp
      have Hk := Lib.hid hk
      clear hp hc hk
      go_enter Try.func75, Try.ntmps75
      go_wp2_with (first | (go_at_call 23; refine (areLocks_impl_r l A B c hlc true Hp.out _ (hr.alloc hB _) (by simp; omega) hn).mono ?_; rintro e w1 ⟨rfl, hb⟩; obtain ⟨hc, hf, hz⟩ := bstep (N := w.heap.size + 1) (by go_size) hb) | (go_at_call 65; refine (isLock_rr d o true Hk.out _).mono ?_; rintro e w2 ⟨rfl, hb2⟩; have hz2 := hb2.size))
      go_ret
      exact ⟨rfl, by repeat' (first | (with_reducible exact Below.refl _ _) | (with_reducible assumption) | (with_reducible refine Below.alloc ?_ ?_ _) | (with_reducible refine Below.drew ?_) | (with_reducible refine below_drewN ?_ _) | (with_reducible refine Below.setCell ?_ ?_ _) | (with_reducible refine Below.trans ?_ (Below.mono (by assumption) ?_)) | go_size | (exact Below.size (by assumption)))⟩
theorem lcC_spec_r (l : List (Int × Int)) (d o : Int) (r : Int) (h : lcC l d o = r) (A : Option Addr) (B c : Nat) (w : World) (hr : Rd w B A (l.flatMap eLock)) (hB : B ≤ w.heap.size) (hn : l.length ≤ 1048576) :
   Calls Try.prog 74 #[.slice A l.length c, .int .i64 d, .int .i64 o] w fun e w' => e = .returned (.int .i64 r) ∧ Below w.heap.size w w' := h ▸ l29Locks_any l d o A B c w hr hB hn
theorem lcC_impl_r (l : List (Int × Int)) (d o : Int) (r : Int) (h : lcC l d o = r) (A : Option Addr) (B c : Nat) (hlc : l.length ≤ c) (w : World) (hr : Rd w B A (l.flatMap eLock)) (hB : B ≤ w.heap.size) (hn : l.length ≤ 1048576) :
   Calls Try.prog 75 #[.slice A l.length c, .agg #[.int .i64 d, .int .i64 o]] w fun e w' => e = .returned (.int .i64 r) ∧ Below w.heap.size w w' := h ▸ lockCode_any l d o A B c hlc w hr hB hn
theorem containsLock_r (l : List (Int × Int)) (d o : Int) (r : Bool) (h : l.any (· == (d, o)) = r) (A : Option Addr) (B c : Nat) (w : World) (hr : Rd w B A (l.flatMap eLock)) (hB : B ≤ w.heap.size) (hn : l.length ≤ 1048576) :
   Calls Try.prog 66 #[.slice A l.length c, .agg #[.int .i64 d, .int .i64 o]] w fun e w' => e = .returned (.bool r) ∧ Below w.heap.size w w' := h ▸ containsLock_any l A B c (d, o) w hr hB hn
theorem cloneLock_any (l : List (Int × Int)) (A : Option Addr) (B c : Nat) (w : World) (hr : Rd w B A (l.flatMap eLock)) (hB : B ≤ w.heap.size) (hn : l.length ≤ 1048576) :
   Calls Try.prog 76 #[.slice A l.length c] w fun e w' => ∃ A' c', e = .returned (.slice A' l.length c') ∧ w'.ownsRow w.heap.size 75 2 (.slice A' l.length c') l.length (l.flatMap eLock) ∧ Below w.heap.size w w' := by
  obtain ⟨i0, hi0, hz0, hz1, hz2⟩ := info_parts infoLock
  have heq := fun W n => Lib.run_eql_slice_nil (P := Try.prog) W 32 75 A n c 0 0 Try.underlying32
  cases A with
  | none =>
    have h0 : l.length = 0 := by
      rcases Nat.eq_zero_or_pos l.length with h | h
      · exact h
      · obtain ⟨b, o, e, _⟩ := hr (by rw [flat_len eLock 2 eLock_len]; omega)
        cases e
    have hl : l = [] := List.eq_nil_of_length_eq_zero h0
    subst hl
    go_enter Try.func76, Try.ntmps76
    go_wp2
    go_ret
    exact ⟨none, 0, rfl, World.ownsRow_nil _ _ _ _, Below.refl _ _⟩
  | some ad =>
    go_enter Try.func76, Try.ntmps76
    go_wp2_with (at_builtin; refine wpList_append_rd rfl (.tmp 5) (.tmp 6) 32 rfl w.heap.size 75 i0 _ 2 16 Try.underlying32 hi0 hz0 hz1 hz2 rfl (by decide) _ 0 [] rfl (World.ownsRow_made w #[] 0 (Nat.le_refl _) (by simp [maxLen]) rfl) B (some ad) l.length c (l.flatMap eLock) rfl (flat_len eLock 2 eLock_len l) (hr.alloc hB _) (flat_one _ eLock_one l) (by unfold maxLen; omega) (by omega) (by simp) ?_; intro v1 w1 own1 hb1 hz3; rw [Nat.zero_add, List.nil_append] at own1; obtain ⟨A1, c1, rfl⟩ := own_val own1; have O1 := Lib.hid own1; clear own1)
    go_ret
    exact ⟨A1, c1, rfl, O1.out, ((Below.refl _ _).alloc (Nat.le_refl _) _).trans hb1⟩
theorem add_cases (l : List (Int × Int)) (d o : Int) :
    (∃ r : Int, r ≠ 0 ∧ lcC l d o = r ∧ addC l d o = r ∧ addR l d o = []) ∨
    (lcC l d o = 0 ∧ l.any (· == (d, o)) = true ∧ addC l d o = 5 ∧ addR l d o = []) ∨
    (lcC l d o = 0 ∧ l.any (· == (d, o)) = false ∧ l.length = 8 ∧ addC l d o = 3 ∧ addR l d o = []) ∨
    (lcC l d o = 0 ∧ l.any (· == (d, o)) = false ∧ l.length < 8 ∧ addC l d o = 0 ∧ addR l d o = l ++ [(d, o)]) := by
  by_cases h : lcC l d o = 0
  · right
    have hlen : l.length ≤ 8 := by
      cases hp : locksB l with
      | false => simp [lcC, hp] at h
      | true => exact locks_len hp
    cases ha : l.any (· == (d, o)) with
    | true => left; have hc : addC l d o = 5 := by rw [addC, if_neg (by simp [h]), if_pos ha]
              exact ⟨h, rfl, hc, by simp [addR, hc]⟩
    | false =>
      right
      by_cases h8 : l.length = 8
      · left; have hc : addC l d o = 3 := by rw [addC, if_neg (by simp [h]), if_neg (by simp [ha]), if_pos h8]
        exact ⟨h, rfl, h8, hc, by simp [addR, hc]⟩
      · right; have hc : addC l d o = 0 := by rw [addC, if_neg (by simp [h]), if_neg (by simp [ha]), if_neg h8]
        exact ⟨h, rfl, by omega, hc, by simp [addR, hc]⟩
  · left
    have hc : addC l d o = lcC l d o := by rw [addC, if_pos h]
    exact ⟨_, h, rfl, hc, by simp [addR, hc, h]⟩
theorem lcC_12 {l : List (Int × Int)} {d o r : Int} (h : lcC l d o = r) (h0 : r ≠ 0) : r = 1 ∨ r = 2 := by
  unfold lcC at h
  split at h
  · split at h
    · omega
    · exact .inr h.symm
  · exact .inl h.symm

theorem idxB_true {p : Int × Int → Bool} {l : List (Int × Int)} (h : l.any p = true) (hn : l.length ≤ 1048576) : 0 ≤ idxB p l ∧ idxB p l ≤ 1048576 := by
  unfold idxB
  cases hf : l.findIdx? p with
  | none =>
    rw [List.findIdx?_eq_none_iff] at hf
    rw [List.any_eq_true] at h
    obtain ⟨x, hx, hp⟩ := h
    simp [hf x hx] at hp
  | some i =>
    rw [List.findIdx?_eq_some_iff_getElem] at hf
    obtain ⟨hi, _⟩ := hf
    simp
    omega
theorem l29Find_r (l : List (Int × Int)) (x y : Int) (r : Int) (h : idxB (· == (x, y)) l = r) (A : Option Addr) (B c : Nat) (w : World) (hr : Rd w B A (l.flatMap eLock)) (hn : l.length ≤ 1048576) :
   Calls Try.prog 63 #[.slice A l.length c, .int .i64 x, .int .i64 y] w fun e w' => e = .returned (.int .i64 r) ∧ w = w' := h ▸ l29Find_any l A B c x y w hr hn
theorem rd_new2 (w : World) (d o : Int) (e : TypeId) : Rd (w.alloc (.cells #[.int .i64 d, .int .i64 o] e)) (w.heap.size + 1) (some ⟨w.heap.size, 0, none⟩) (eLock (d, o)) := fun _ => by
  refine ⟨w.heap.size, 0, rfl, by omega, fun j u hu => ?_⟩
  have hh := heap_alloc_new w (.cells #[.int .i64 d, .int .i64 o] e)
  simp only [World.cell?, Nat.zero_add]
  rw [hh]
  simpa [eLock] using hu
theorem rd_new2d (w : World) (d o : Int) (e : TypeId) : Rd (World.drew (w.alloc (.cells #[.int .i64 d, .int .i64 o] e))) (w.heap.size + 1) (some ⟨w.heap.size, 0, none⟩) (eLock (d, o)) := rd_new2 w d o e
theorem add_spec (l : List (Int × Int)) (d o : Int) (A : Option Addr) (B c : Nat) (w : World) (hr : Rd w B A (l.flatMap eLock)) (hB : B ≤ w.heap.size) (hn : l.length ≤ 1048576) (hlc : l.length ≤ c) :
   Calls Try.prog 36 #[.slice A l.length c, .int .i64 d, .int .i64 o] w fun e w' => ∃ A' c', e = .returned (.tuple #[.slice A' (addR l d o).length c', .int .i64 (addC l d o)]) ∧ w'.ownsRow w.heap.size 75 2 (.slice A' (addR l d o).length c') (addR l d o).length ((addR l d o).flatMap eLock) ∧ Below w.heap.size w w' := by
  obtain ⟨i0, hi0, hz0, hz1, hz2⟩ := info_parts infoLock
  rcases add_cases l d o with ⟨r, h0, hc, h1, h2⟩ | ⟨hc, ha, h1, h2⟩ | ⟨hc, ha, h8, h1, h2⟩ | ⟨hc, ha, h8, h1, h2⟩
  · rw [h1, h2]
    have h12 := lcC_12 hc h0
    have hne : (r != 0) = true := by rw [bne_iff_ne]; exact h0
    have Hc := Lib.hid hc
    clear h1 h2 hc h0
    go_enter Try.func36, Try.ntmps36
    go_wp2_with ((go_at_call 74; refine (lcC_spec_r l d o r Hc.out A B c w hr hB hn).mono ?_; rintro e w1 ⟨rfl, hb⟩; have hz := hb.size; have hr1 := Lib.hid (hr.below hb hB)))
    go_ret2
    exact ⟨none, 0, rfl, World.ownsRow_nil _ _ _ _, by repeat' (first | (with_reducible exact Below.refl _ _) | (with_reducible assumption) | (with_reducible refine Below.alloc ?_ ?_ _) | (with_reducible refine Below.drew ?_) | (with_reducible refine below_drewN ?_ _) | (with_reducible refine Below.setCell ?_ ?_ _) | (with_reducible refine Below.trans ?_ (Below.mono (by assumption) ?_)) | go_size | (exact Below.size (by assumption)))⟩
  · rw [h1, h2]
    obtain ⟨q, hgi, hq1, hq2⟩ : ∃ q : Int, idxB (· == (d, o)) l = q ∧ 0 ≤ q ∧ q ≤ 1048576 := ⟨_, rfl, idxB_true ha hn⟩
    have Hi := Lib.hid hgi
    clear hgi ha
    have Hc := Lib.hid hc
    clear h1 h2 hc
    go_enter Try.func36, Try.ntmps36
    go_wp2_with (first | (go_at_call 74; refine (lcC_spec_r l d o 0 Hc.out A B c w hr hB hn).mono ?_; rintro e w1 ⟨rfl, hb⟩; have hz := hb.size; have hr1 := Lib.hid (hr.below hb hB)) | (go_at_call 63; go_loud (refine (l29Find_r l d o _ Hi.out A B c _ hr1.out hn).mono ?_); rintro e w' ⟨rfl, rfl⟩))
    go_ret2
    exact ⟨none, 0, rfl, World.ownsRow_nil _ _ _ _, by repeat' (first | (with_reducible exact Below.refl _ _) | (with_reducible assumption) | (with_reducible refine Below.alloc ?_ ?_ _) | (with_reducible refine Below.drew ?_) | (with_reducible refine below_drewN ?_ _) | (with_reducible refine Below.setCell ?_ ?_ _) | (with_reducible refine Below.trans ?_ (Below.mono (by assumption) ?_)) | go_size | (exact Below.size (by assumption)))⟩
  · rw [h1, h2]
    have Hi := Lib.hid (idxB_none (· == (d, o)) l ha)
    clear ha
    have Hc := Lib.hid hc
    have h8b : ((l.length : Int) == 8) = true := by rw [h8]; rfl
    have H8 := Lib.hid h8
    clear h1 h2 hc h8
    go_enter Try.func36, Try.ntmps36
    go_wp2_with (first | (go_at_call 74; refine (lcC_spec_r l d o 0 Hc.out A B c w hr hB hn).mono ?_; rintro e w1 ⟨rfl, hb⟩; have hz := hb.size; have hr1 := Lib.hid (hr.below hb hB)) | (go_at_call 63; go_loud (refine (l29Find_r l d o _ Hi.out A B c _ hr1.out hn).mono ?_); rintro e w' ⟨rfl, rfl⟩))
    go_ret2
    exact ⟨none, 0, rfl, World.ownsRow_nil _ _ _ _, by repeat' (first | (with_reducible exact Below.refl _ _) | (with_reducible assumption) | (with_reducible refine Below.alloc ?_ ?_ _) | (with_reducible refine Below.drew ?_) | (with_reducible refine below_drewN ?_ _) | (with_reducible refine Below.setCell ?_ ?_ _) | (with_reducible refine Below.trans ?_ (Below.mono (by assumption) ?_)) | go_size | (exact Below.size (by assumption)))⟩
  · rw [h1, h2]
    have Hi := Lib.hid (idxB_none (· == (d, o)) l ha)
    clear ha
    have Hc := Lib.hid hc
    have h8b : ((l.length : Int) == 8) = false := by rw [beq_eq_false_iff_ne]; omega
    clear h1 h2 hc
    go_enter Try.func36, Try.ntmps36
    go_wp2_with (first | (go_at_call 74; refine (lcC_spec_r l d o 0 Hc.out A B c w hr hB hn).mono ?_; rintro e w1 ⟨rfl, hb⟩; have hz := hb.size; have hr1 := Lib.hid (hr.below hb hB)) | (go_at_call 63; go_loud (refine (l29Find_r l d o _ Hi.out A B c _ hr1.out hn).mono ?_); rintro e w' ⟨rfl, rfl⟩) | (at_builtin; refine wpList_append_rd rfl (.tmp 27) (.tmp 28) 32 rfl w.heap.size 75 i0 _ 2 16 Try.underlying32 hi0 hz0 hz1 hz2 rfl (by decide) _ 0 [] rfl (World.ownsRow_made w1 #[] 0 hz (by simp [maxLen]) rfl) B A l.length c (l.flatMap eLock) rfl (flat_len eLock 2 eLock_len l) (hr1.out.alloc (by omega) _) (flat_one _ eLock_one l) (by unfold maxLen; omega) (by omega) (by simp; omega) ?_; intro v2 w2 own2 hb2 hz3; rw [Nat.zero_add, List.nil_append] at own2; obtain ⟨A2, c2, rfl⟩ := own_val own2; have O2 := Lib.hid own2; simp only [World.size_alloc] at hz3; clear own2) | (at_builtin; go_loud (refine wpList_append_rd rfl (.tmp 29) (.tmp 33) 32 rfl w.heap.size 75 i0 _ 2 16 Try.underlying32 hi0 hz0 hz1 hz2 rfl (by decide) _ _ _ rfl (O2.out.alloc _) (w2.heap.size + 1) (some ⟨w2.heap.size, 0, none⟩) 1 1 (eLock (d, o)) rfl rfl (rd_new2 w2 d o 75) (eLock_one _) (by unfold maxLen; omega) (by omega) (by simp; omega) ?_); intro v3 w3 own3 hb3 hz4; obtain ⟨A3, c3, rfl⟩ := own_val own3; have O3 := Lib.hid own3; simp only [World.size_alloc] at hz4; clear own3))
    go_ret2
    refine ⟨A3, c3, by simp, ?_, ?_⟩
    · simpa using O3.out
    · repeat' (first | (with_reducible exact Below.refl _ _) | (with_reducible assumption) | (with_reducible refine Below.alloc ?_ ?_ _) | (with_reducible refine Below.drew ?_) | (with_reducible refine below_drewN ?_ _) | (with_reducible refine Below.setCell ?_ ?_ _) | (with_reducible refine Below.trans ?_ (Below.mono (by assumption) ?_)) | go_size | (exact Below.size (by assumption)))
theorem add_impl (l : List (Int × Int)) (d o : Int) (A : Option Addr) (B c : Nat) (w : World) (hr : Rd w B A (l.flatMap eLock)) (hB : B ≤ w.heap.size) (hn : l.length ≤ 1048576) (hlc : l.length ≤ c) :
   Calls Try.prog 37 #[.slice A l.length c, .int .i64 d, .int .i64 o] w fun e w' => ∃ A' c', e = .returned (.tuple #[.slice A' (addR l d o).length c', .int .i64 (addC l d o)]) ∧ w'.ownsRow w.heap.size 75 2 (.slice A' (addR l d o).length c') (addR l d o).length ((addR l d o).flatMap eLock) ∧ Below w.heap.size w w' := by
  obtain ⟨i0, hi0, hz0, hz1, hz2⟩ := info_parts infoLock
  rcases add_cases l d o with ⟨r, h0, hc, h1, h2⟩ | ⟨hc, ha, h1, h2⟩ | ⟨hc, ha, h8, h1, h2⟩ | ⟨hc, ha, h8, h1, h2⟩
  · rw [h1, h2]
    have h12 := lcC_12 hc h0
    have hne : (r != 0) = true := by rw [bne_iff_ne]; exact h0
    have Hc := Lib.hid hc
    clear h1 h2 hc h0
    go_enter Try.func37, Try.ntmps37
    go_wp2_with ((go_at_call 75; refine (lcC_impl_r l d o r Hc.out A B c hlc _ (hr.alloc hB _) (by simp; omega) hn).mono ?_; rintro e w1 ⟨rfl, hb⟩; obtain ⟨hc, hf, hz⟩ := bstep (N := w.heap.size + 1) (by go_size) hb; have hr1 := Lib.hid ((hr.alloc hB _).below hb (by simp; omega))))
    go_ret2
    exact ⟨none, 0, rfl, World.ownsRow_nil _ _ _ _, by repeat' (first | (with_reducible exact Below.refl _ _) | (with_reducible assumption) | (with_reducible refine Below.alloc ?_ ?_ _) | (with_reducible refine Below.drew ?_) | (with_reducible refine below_drewN ?_ _) | (with_reducible refine Below.setCell ?_ ?_ _) | (with_reducible refine Below.trans ?_ (Below.mono (by assumption) ?_)) | go_size | (exact Below.size (by assumption)))⟩
  · rw [h1, h2]
    have Ha := Lib.hid ha
    clear ha
    have Hc := Lib.hid hc
    clear h1 h2 hc
    go_enter Try.func37, Try.ntmps37
    go_wp2_with (first | (go_at_call 75; refine (lcC_impl_r l d o 0 Hc.out A B c hlc _ (hr.alloc hB _) (by simp; omega) hn).mono ?_; rintro e w1 ⟨rfl, hb⟩; obtain ⟨hc, hf, hz⟩ := bstep (N := w.heap.size + 1) (by go_size) hb; have hr1 := Lib.hid ((hr.alloc hB _).below hb (by simp; omega))) | (go_at_call 66; refine (containsLock_r l d o true Ha.out A B c _ hr1.out (by omega) hn).mono ?_; rintro e w2 ⟨rfl, hb2⟩; have hs2 := hb2.size; obtain ⟨hc2, hf2, hs2'⟩ := bstep (N := w.heap.size + 1) (by go_size) hb2; have hy2 : w.heap.size < w2.heap.size := hs2'; have hr2 := Lib.hid (hr1.out.below hb2 (by omega))))
    go_ret2
    exact ⟨none, 0, rfl, World.ownsRow_nil _ _ _ _, by repeat' (first | (with_reducible exact Below.refl _ _) | (with_reducible assumption) | (with_reducible refine Below.alloc ?_ ?_ _) | (with_reducible refine Below.drew ?_) | (with_reducible refine below_drewN ?_ _) | (with_reducible refine Below.setCell ?_ ?_ _) | (with_reducible refine Below.trans ?_ (Below.mono (by assumption) ?_)) | go_size | (exact Below.size (by assumption)))⟩
  · rw [h1, h2]
    have Ha := Lib.hid ha
    clear ha
    have Hc := Lib.hid hc
    have h8b : ((l.length : Int) == 8) = true := by rw [h8]; rfl
    have H8 := Lib.hid h8
    clear h1 h2 hc h8
    go_enter Try.func37, Try.ntmps37
    go_wp2_with (first | (go_at_call 75; refine (lcC_impl_r l d o 0 Hc.out A B c hlc _ (hr.alloc hB _) (by simp; omega) hn).mono ?_; rintro e w1 ⟨rfl, hb⟩; obtain ⟨hc, hf, hz⟩ := bstep (N := w.heap.size + 1) (by go_size) hb; have hr1 := Lib.hid ((hr.alloc hB _).below hb (by simp; omega))) | (go_at_call 66; refine (containsLock_r l d o false Ha.out A B c _ hr1.out (by omega) hn).mono ?_; rintro e w2 ⟨rfl, hb2⟩; have hs2 := hb2.size; obtain ⟨hc2, hf2, hs2'⟩ := bstep (N := w.heap.size + 1) (by go_size) hb2; have hy2 : w.heap.size < w2.heap.size := hs2'; have hr2 := Lib.hid (hr1.out.below hb2 (by omega))))
    go_ret2
    exact ⟨none, 0, rfl, World.ownsRow_nil _ _ _ _, by repeat' (first | (with_reducible exact Below.refl _ _) | (with_reducible assumption) | (with_reducible refine Below.alloc ?_ ?_ _) | (with_reducible refine Below.drew ?_) | (with_reducible refine below_drewN ?_ _) | (with_reducible refine Below.setCell ?_ ?_ _) | (with_reducible refine Below.trans ?_ (Below.mono (by assumption) ?_)) | go_size | (exact Below.size (by assumption)))⟩
  · rw [h1, h2]
    have Ha := Lib.hid ha
    clear ha
    have Hc := Lib.hid hc
    have h8b : ((l.length : Int) == 8) = false := by rw [beq_eq_false_iff_ne]; omega
    clear h1 h2 hc
    go_enter Try.func37, Try.ntmps37
    go_wp2_with (first | (go_at_call 75; refine (lcC_impl_r l d o 0 Hc.out A B c hlc _ (hr.alloc hB _) (by simp; omega) hn).mono ?_; rintro e w1 ⟨rfl, hb⟩; obtain ⟨hc, hf, hz⟩ := bstep (N := w.heap.size + 1) (by go_size) hb; have hr1 := Lib.hid ((hr.alloc hB _).below hb (by simp; omega))) | (go_at_call 66; refine (containsLock_r l d o false Ha.out A B c _ hr1.out (by omega) hn).mono ?_; rintro e w2 ⟨rfl, hb2⟩; have hs2 := hb2.size; obtain ⟨hc2, hf2, hs2'⟩ := bstep (N := w.heap.size + 1) (by go_size) hb2; have hy2 : w.heap.size < w2.heap.size := hs2'; have hr2 := Lib.hid (hr1.out.below hb2 (by omega))))
    go_region_held3 (fun w' => w'.cell? ⟨w.heap.size, 0, none⟩ = some (.int .i64 d) ∧ w'.cell? ⟨w.heap.size, 1, none⟩ = some (.int .i64 o)) (simp [*, World.cell?_alloc_past])
     (first | (go_at_call 76; refine (cloneLock_any l A B c _ (by first | exact hr2.out | exact (hr2.out.alloc (by omega) _)) (by first | omega | (simp; omega)) hn).mono ?_; rintro e w3 ⟨A3, c3, rfl, o3, b3⟩; have O3 := Lib.hid (own_more o3 (show w.heap.size + 1 ≤ _ by first | omega | (simp; omega))); have hz3 := b3.size; simp only [World.size_alloc, World.size_drew] at hz3; obtain ⟨hc3, hf3, hz3'⟩ := bstep (N := w.heap.size + 1) (by first | omega | (simp; omega)) b3; have hy3 : w.heap.size < w3.heap.size := hz3'; clear o3) | (refine step_append_rd (w := w3.alloc (.cells #[.int .i64 d, .int .i64 o] 75)) rfl (.tmp 29) (.tmp 31) 32 (by rfl) (w.heap.size + 1) 75 i0 _ 2 16 Try.underlying32 hi0 hz0 hz1 hz2 rfl (by decide) _ l.length (l.flatMap eLock) (by rfl) (O3.out.alloc _) (w3.heap.size + 1) (some ⟨w3.heap.size, 0, none⟩) 1 1 (eLock (d, o)) (by rfl) rfl (rd_new2 w3 d o _) (eLock_one _) (by unfold maxLen; omega) (by omega) (by simp; omega) ?_; intro v4 w4 own4 hb4 hz4; obtain ⟨A4, c4, rfl⟩ := own_val own4; have O4 := Lib.hid (own_more own4 (show w.heap.size ≤ w.heap.size + 1 by omega)); have hc4 := fun (b o : Nat) (h : b < w.heap.size + 1) => hb4.cell (p := ⟨b, o, none⟩) h; clear own4) | (refine step_append_rd (w := w3) rfl (.tmp 29) (.tmp 31) 32 (by rfl) (w.heap.size + 1) 75 i0 _ 2 16 Try.underlying32 hi0 hz0 hz1 hz2 rfl (by decide) _ l.length (l.flatMap eLock) (by rfl) O3.out (w2.heap.size + 1) (some ⟨w2.heap.size, 0, none⟩) 1 1 (eLock (d, o)) (by rfl) rfl ((rd_new2d w2 d o _).below b3 (by simp)) (eLock_one _) (by unfold maxLen; omega) (by omega) (by omega) ?_; intro v4 w4 own4 hb4 hz4; obtain ⟨A4, c4, rfl⟩ := own_val own4; have O4 := Lib.hid (own_more own4 (show w.heap.size ≤ w.heap.size + 1 by omega)); have hc4 := fun (b o : Nat) (h : b < w.heap.size + 1) => hb4.cell (p := ⟨b, o, none⟩) h; clear own4))
    all_goals go_wp2
    all_goals go_ret2
    all_goals refine ⟨A4, c4, by simp, by simpa using O4.out, ?_⟩
    all_goals repeat' (first | (with_reducible exact Below.refl _ _) | (with_reducible assumption) | (with_reducible refine Below.alloc ?_ ?_ _) | (with_reducible refine Below.drew ?_) | (with_reducible refine below_drewN ?_ _) | (with_reducible refine Below.setCell ?_ ?_ _) | (with_reducible refine Below.trans ?_ (Below.mono (by assumption) ?_)) | go_size | (exact Below.size (by assumption)))
end Go.Proofs.Ytmbchcenclfjoaa
