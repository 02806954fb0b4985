/- slices.Sort of numbers, at any length: the sorted list, of a row that the call owns. -/
import Derived.Test.YtmbchcenclfjoaaSq7
namespace Go.Proofs.Ytmbchcenclfjoaa
open Go.ChangeShapes Go.WideShapes Go.ChangeAt Go.RowKit
set_option maxRecDepth 20000
set_option linter.unusedVariables false
set_option linter.unusedSimpArgs false
/-- a call that does nothing -/
def NilP (w : World) (e : Ending) (w' : World) : Prop := e = .returned (.tuple #[]) ∧ w' = w
theorem insertion_nil (w : World) : Calls Try.prog 93 #[.slice none 0 0, .int .i64 0, .int .i64 0] w (NilP w) := by
  go_enter Try.func93, Try.ntmps93
  go_wp2_with fail
  go_loopw [6] (fun v wr => ∃ i : Int, 1 ≤ i ∧ v = .int .i64 i ∧ wr = w) (fun _ _ => 0)
  case atStart => exact ⟨1, by omega, by go_num, rfl⟩
  case round =>
    obtain ⟨i, hi, rfl, rfl⟩ := hrel
    have q1 : ¬ i < 0 := by omega
    go_wp2
    go_end0
    exact ⟨rfl, rfl⟩
theorem pdq_nil (L : Int) (w : World) : Calls Try.prog 90 #[.slice none 0 0, .int .i64 0, .int .i64 0, .int .i64 L] w (NilP w) := by
  go_enter Try.func90, Try.ntmps90
  go_wp2_with fail
  go_loopw [1, 2, 3, 8, 9] (fun v1 v2 v3 v8 v9 wr => v1 = .int .i64 0 ∧ v2 = .int .i64 0 ∧ v3 = .int .i64 L ∧ v8 = .bool true ∧ v9 = .bool true ∧ wr = w) (fun _ _ _ _ _ _ => 0)
  case atStart => exact ⟨rfl, rfl, rfl, rfl, rfl, rfl⟩
  case round =>
    obtain ⟨rfl, rfl, rfl, rfl, rfl, rfl⟩ := hrel
    go_wp2_with fail
    refine (insertion_nil _).mono ?_
    rintro e w1 ⟨rfl, rfl⟩
    go_wp2
    go_end0
    exact ⟨rfl, rfl⟩
theorem sort_nil (w : World) : Calls Try.prog 86 #[.slice none 0 0] w (NilP w) := by
  have HL := Lib.hid (len_any 0 w (by omega))
  go_enter Try.func86, Try.ntmps86
  go_wp2_with fail
  refine HL.out.mono ?_
  rintro e w' ⟨L, rfl, l0, l1, rfl⟩
  go_wp2_with fail
  refine (pdq_nil L _).mono ?_
  rintro e w' ⟨rfl, rfl⟩
  go_wp2
  go_end0
  exact ⟨rfl, rfl⟩
/-- the numbers, sorted -/
def sortL (zs : List Int) : List Int := zs.mergeSort fun x y => decide (x ≤ y)
theorem sortL_length (zs : List Int) : (sortL zs).length = zs.length := List.length_mergeSort _
theorem sortL_of {ys zs : List Int} (hp : ys.Perm zs) (hs : ys.Pairwise (· ≤ ·)) : ys = sortL zs := by
  have h := List.pairwise_mergeSort (le := fun x y : Int => decide (x ≤ y)) (fun a b c h1 h2 => by simp at *; omega) (fun a b => by simp; omega) zs
  exact (hp.trans (List.mergeSort_perm zs _).symm).eq_of_pairwise (fun a b _ _ x y => by omega) hs (h.imp (fun h => by simpa using h))
def SortP (base n c : Nat) (A : Option Addr) (zs : List Int) (w : World) (e' : Ending) (w' : World) : Prop := e' = .returned (.tuple #[]) ∧ w'.ownsRow base 2 1 (.slice A n c) n (ints (sortL zs)) ∧ w.grownBy w' (Value.ownBlock (.slice A n c))
theorem sort_some {base n c g : Nat} (zs : List Int) (w : World) (hn : zs.length = n) (h : Row w base g n c zs) (hsz : n ≤ 1073741824) :
    Calls Try.prog 86 #[.slice (some ⟨g, 0, none⟩) n c] w (SortP base n c (some ⟨g, 0, none⟩) zs w) := by
  have HL := Lib.hid (len_any n w (by omega))
  have Hn := Lib.hid hn
  have e1 : IntKind.u64.wrap (n : Int) = (n : Int) := by rw [IntKind.wrap_u64]; omega
  have HP := Lib.hid (fun (L : Nat) (h1 : L ≤ 32) => pdq_any base g n c hsz (n + 1) 0 n L zs w (by omega) (by omega) (by omega) (by omega) (by omega) (.inl rfl) h)
  clear h hn
  go_enter Try.func86, Try.ntmps86
  go_wp2_with fail
  refine HL.out.mono ?_
  rintro e w' ⟨L, rfl, l0, l1, rfl⟩
  go_wp2_with fail
  refine (HP.out L l0).mono ?_
  rintro e w' ⟨ys, rfl, ⟨hp, hst⟩, hr, hg⟩
  have Hr := Lib.hid hr
  have Hg := Lib.hid hg
  have Hp := Lib.hid hp
  have Hst := Lib.hid hst
  clear hr hg hp hst
  go_wp2
  go_end0
  have hlen := Hr.out.len
  have hzs := Hn.out
  have e2 : ys = sortL zs := sortL_of (Hp.out.perm (by omega)) (srt_list (by rw [hlen]; exact Hst.out))
  have hr := Hr.out
  rw [e2] at hr
  exact ⟨rfl, hr, Hg.out⟩
theorem sort_own {base n c : Nat} {A : Option Addr} (zs : List Int) (w : World) (hn : zs.length = n) (h : w.ownsRow base 2 1 (.slice A n c) n (ints zs)) (hsz : n ≤ 1073741824) :
    Calls Try.prog 86 #[.slice A n c] w fun e' w' => e' = .returned (.tuple #[]) ∧ w'.ownsRow base 2 1 (.slice A n c) n (ints (sortL zs)) ∧ w.grownBy w' (Value.ownBlock (.slice A n c)) := by
  rcases h.2 with ⟨h1, h2⟩ | ⟨g, cap, cur, hv, _⟩
  · injection h1 with h3 h4 h5
    subst h3; subst h4; subst h5
    refine (sort_nil w).mono ?_
    rintro e w' ⟨rfl, rfl⟩
    have hz : zs = [] := List.length_eq_zero_iff.mp hn
    subst hz
    have e0 : sortL [] = [] := by simp [sortL]
    exact ⟨rfl, by rw [e0]; exact h, World.grownBy.refl _ _⟩
  · injection hv with h3 h4 h5
    subst h3
    exact (sort_some zs w hn h hsz).mono (fun _ _ h => h)
end Go.Proofs.Ytmbchcenclfjoaa
