/- slices.Sort of 24 numbers or fewer. -/
import Derived.Test.YtooifamckccadaaSr6
namespace Go.Proofs.Ytooifamckccadaa
open Go.ChangeShapes Go.WideShapes Go.ChangeAt Go.RowKit
set_option maxRecDepth 20000
set_option linter.unusedVariables false
set_option linter.unusedSimpArgs false
def SortedAs (zs ys : List Int) : Prop := ys.length = zs.length ∧ (zs.length ≤ 12 → ys.Perm zs ∧ ys.Pairwise (· ≤ ·))
def SrtP (base n c : Nat) (A : Option Addr) (zs : List Int) (w : World) (e' : Ending) (w' : World) : Prop := ∃ ys : List Int, e' = .returned (.tuple #[]) ∧ SortedAs zs ys ∧ w'.ownsRow base 2 1 (.slice A n c) n (ints ys) ∧ w.grownBy w' (Value.ownBlock (.slice A n c))
theorem w64_0 : wrap64 (wrap64 (0 : Int)) = 0 := by simp [wrap64]
theorem w64_1 : wrap64 (wrap64 (1 : Int)) = 1 := by simp [wrap64]
theorem w64_2 : wrap64 (wrap64 (2 : Int)) = 2 := by simp [wrap64]
theorem w64_3 : wrap64 (wrap64 (3 : Int)) = 3 := by simp [wrap64]
/-- a number of bits -/
def LenP (w : World) (e : Ending) (w' : World) : Prop := ∃ L : Int, e = .returned (.int .i64 L) ∧ 0 ≤ L ∧ L ≤ 64 ∧ w' = w
theorem len64_n (x : Nat) (w : World) (h1 : x ≤ 24) :
   Calls Try.prog 202 #[.int .u64 x] w (LenP w) := by
  by_cases h0 : 13 ≤ x
  · refine (len64_any x w h0 h1).mono ?_
    rintro e w' ⟨rfl, rfl⟩
    exact ⟨_, rfl, by split <;> omega, by split <;> omega, rfl⟩
  · rcases (by omega : x = 0 ∨ x = 1 ∨ x = 2 ∨ x = 3 ∨ x = 4 ∨ x = 5 ∨ x = 6 ∨ x = 7 ∨ x = 8 ∨ x = 9 ∨ x = 10 ∨ x = 11 ∨ x = 12) with rfl | rfl | rfl | rfl | rfl | rfl | rfl | rfl | rfl | rfl | rfl | rfl | rfl
    all_goals
      go_enter Try.func202, Try.ntmps202
      go_wp2
      go_ret
      first | exact ⟨0, congrArg (fun x => Ending.returned (.int .i64 x)) w64_0, by omega, by omega, rfl⟩ | exact ⟨1, congrArg (fun x => Ending.returned (.int .i64 x)) w64_1, by omega, by omega, rfl⟩ | exact ⟨2, congrArg (fun x => Ending.returned (.int .i64 x)) w64_2, by omega, by omega, rfl⟩ | exact ⟨3, congrArg (fun x => Ending.returned (.int .i64 x)) w64_3, by omega, by omega, rfl⟩ | exact ⟨4, congrArg (fun x => Ending.returned (.int .i64 x)) w64_4, by omega, by omega, rfl⟩
theorem len_n (x : Nat) (w : World) (h1 : x ≤ 24) :
   Calls Try.prog 181 #[.int .u64 x] w (LenP w) := by
  have HL := Lib.hid (len64_n x w h1)
  go_enter Try.func181, Try.ntmps181
  go_wp2_with (go_at_call 202; refine HL.out.mono ?_; rintro e w' ⟨L, rfl, l0, l1, rfl⟩)
  go_ret
  exact ⟨L, rfl, l0, l1, rfl⟩
/-- a call that does nothing -/
def NilP (w : World) (e : Ending) (w' : World) : Prop := e = .returned (.tuple #[]) ∧ w' = w
theorem insertion_nil (w : World) : Calls Try.prog 192 #[.slice none 0 0, .int .i64 0, .int .i64 0] w (NilP w) := by
  go_enter Try.func192, Try.ntmps192
  go_wp2_with fail
  go_loopw [6] (fun v wr => ∃ i : Int, 1 ≤ i ∧ v = .int .i64 i ∧ wr = w) (fun _ _ => 0)
  case atStart => exact ⟨1, by omega, by go_num, rfl⟩
  case round =>
    obtain ⟨i, hi, rfl, rfl⟩ := hrel
    have q1 : ¬ i < 0 := by omega
    go_wp2
    go_end0
    exact ⟨rfl, rfl⟩
theorem pdq_nil (L : Int) (w : World) : Calls Try.prog 180 #[.slice none 0 0, .int .i64 0, .int .i64 0, .int .i64 L] w (NilP w) := by
  go_enter Try.func180, Try.ntmps180
  go_wp2_with fail
  go_loopw [1, 2, 3, 8, 9] (fun v1 v2 v3 v8 v9 wr => v1 = .int .i64 0 ∧ v2 = .int .i64 0 ∧ v3 = .int .i64 L ∧ v8 = .bool true ∧ v9 = .bool true ∧ wr = w) (fun _ _ _ _ _ _ => 0)
  case atStart => exact ⟨rfl, rfl, rfl, rfl, rfl, rfl⟩
  case round =>
    obtain ⟨rfl, rfl, rfl, rfl, rfl, rfl⟩ := hrel
    go_wp2_with fail
    refine (insertion_nil _).mono ?_
    rintro e w1 ⟨rfl, rfl⟩
    go_wp2
    go_end0
    exact ⟨rfl, rfl⟩
theorem sort_nil (w : World) : Calls Try.prog 156 #[.slice none 0 0] w (NilP w) := by
  have HL := Lib.hid (len_n 0 w (by omega))
  go_enter Try.func156, Try.ntmps156
  go_wp2_with fail
  refine HL.out.mono ?_
  rintro e w' ⟨L, rfl, l0, l1, rfl⟩
  go_wp2_with fail
  refine (pdq_nil L _).mono ?_
  rintro e w' ⟨rfl, rfl⟩
  go_wp2
  go_end0
  exact ⟨rfl, rfl⟩
theorem sort_some {base n c g : Nat} (zs : List Int) (w : World) (hn : zs.length = n) (h : Row w base g n c zs) (hsz : n ≤ 24) :
    Calls Try.prog 156 #[.slice (some ⟨g, 0, none⟩) n c] w (SrtP base n c (some ⟨g, 0, none⟩) zs w) := by
  have HL := Lib.hid (len_n n w hsz)
  have Hn := Lib.hid hn
  have e1 : IntKind.u64.wrap (n : Int) = (n : Int) := by rw [IntKind.wrap_u64]; omega
  by_cases hs : n ≤ 12
  · have HP := Lib.hid (fun L => pdq_small base g n c 0 n L zs w hsz (by omega) (by omega) (by omega) h)
    clear h hn
    go_enter Try.func156, Try.ntmps156
    go_wp2_with fail
    refine HL.out.mono ?_
    rintro e w' ⟨L, rfl, l0, l1, rfl⟩
    go_wp2_with fail
    refine (HP.out L).mono ?_
    rintro e w' ⟨ys, rfl, ⟨hp, hst⟩, hr, hg⟩
    go_wp2
    go_end0
    refine ⟨ys, rfl, ⟨hp.length_eq, fun _ => ⟨hp, ?_⟩⟩, hr, hg⟩
    have := hr.len
    exact srt_list (by rw [this]; exact hst)
  · have HP := Lib.hid (fun L h0 h1 => pdq_any base g n c 0 n L zs w hsz (by omega) (by omega) h0 h1 h)
    clear h hn
    go_enter Try.func156, Try.ntmps156
    go_wp2_with fail
    refine HL.out.mono ?_
    rintro e w' ⟨L, rfl, l0, l1, rfl⟩
    go_wp2_with fail
    refine (HP.out L l0 l1).mono ?_
    rintro e w' ⟨ys, rfl, _, hr, hg⟩
    go_wp2
    go_end0
    have := Hn.out
    exact ⟨ys, rfl, ⟨hr.len.trans this.symm, fun h => absurd h (by omega)⟩, hr, hg⟩
theorem sort_24 {base n c : Nat} {A : Option Addr} (zs : List Int) (w : World) (hn : zs.length = n) (h : w.ownsRow base 2 1 (.slice A n c) n (ints zs)) (hsz : n ≤ 24) :
    Calls Try.prog 156 #[.slice A n c] w (SrtP base n c A zs w) := by
  rcases h.2 with ⟨h1, h2⟩ | ⟨g, cap, cur, hv, _⟩
  · injection h1 with h3 h4 h5
    subst h3; subst h4; subst h5
    refine (sort_nil w).mono ?_
    rintro e w' ⟨rfl, rfl⟩
    have hz : zs = [] := List.length_eq_zero_iff.mp hn
    subst hz
    exact ⟨[], rfl, ⟨rfl, fun _ => ⟨List.Perm.refl _, List.Pairwise.nil⟩⟩, h, World.grownBy.refl _ _⟩
  · injection hv with h3 h4 h5
    subst h3
    exact sort_some zs w hn h hsz
end Go.Proofs.Ytooifamckccadaa
