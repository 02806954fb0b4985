/- Guests: verdicts, counts and rows, of the program and of the reference. -/
import Derived.Test.YtdjbbjehgfkefaaGs0
import Derived.Test.YtdjbbjehgfkefaaP
import Derived.Deep.RegionHeld3
namespace Go.Proofs.Ytdjbbjehgfkefaa
open Go.ChangeShapes Go.WideShapes Go.ChangeAt Go.RowKit
set_option maxRecDepth 20000
set_option linter.unusedVariables false
set_option linter.unusedSimpArgs false
def cntV (a b c v : Int) (l : List Int) : Int := ((l.filter fun h => verd a b c h == v).length : Nat)
theorem cnt_step (a b c v : Int) {l : List Int} {k : Nat} {x : Int} (h : l[k]? = some x) : cntV a b c v (l.take (k + 1)) = cntV a b c v (l.take k) + if verd a b c x == v then 1 else 0 := by
  have hl : k < l.length := (List.getElem?_eq_some_iff.1 h).1
  have : l[k] = x := by rw [List.getElem?_eq_getElem hl] at h; exact Option.some.inj h
  unfold cntV
  rw [List.take_succ_eq_append_getElem hl, List.filter_append, this, List.length_append]
  cases hv : (verd a b c x == v) <;> simp [hv]
theorem cnt_le (a b c v : Int) (l : List Int) (k : Nat) : 0 ≤ cntV a b c v (l.take k) ∧ cntV a b c v (l.take k) ≤ k := by
  unfold cntV
  have h1 := List.length_filter_le (fun h => verd a b c h == v) (l.take k)
  have h2 := List.length_take_le k l
  omega
theorem cnt_le' (a b c v : Int) (l : List Int) : 0 ≤ cntV a b c v l ∧ cntV a b c v l ≤ l.length := by
  have := cnt_le a b c v l l.length
  rwa [List.take_length] at this
theorem verd_impl_r (a b c h r : Int) (hr : verd a b c h = r) (w : World) : Calls Try.prog 52 #[.agg #[.int .i64 a, .int .i64 b, .int .i64 c], .int .i64 h] w fun e w' => e = .returned (.int .i64 r) ∧ Below w.heap.size w w' := hr ▸ verd_impl a b c h w
theorem verd_spec_r (a b c h r : Int) (hr : verd a b c h = r) (w : World) : Calls Try.prog 35 #[.agg #[.int .i64 a, .int .i64 b, .int .i64 c], .int .i64 h] w fun e w' => e = .returned (.int .i64 r) ∧ Below w.heap.size w w' := hr ▸ verd_spec a b c h w
theorem truth_t (w : World) : Calls Try.prog 68 #[.bool true] w fun e w' => e = .returned (.int .i64 1) ∧ w = w' := truth_any true w
theorem truth_f (w : World) : Calls Try.prog 68 #[.bool false] w fun e w' => e = .returned (.int .i64 0) ∧ w = w' := truth_any false w
theorem length_any (l : Nat) (A : Option Addr) (c : Nat) (w : World) (hn : l ≤ 1048576) : Calls Try.prog 57 #[.slice A l c] w fun e w' => e = .returned (.int .i64 (l : Int)) ∧ w = w' := by
  go_enter Try.func57, Try.ntmps57
  go_wp2
  go_ret
  exact ⟨rfl, rfl⟩
theorem below_of_drew {W w1 : World} {N : Nat} (hb : Below W.drew.heap.size W.drew w1) (hN : N ≤ W.heap.size) : Below N W w1 :=
  ((Below.refl _ _).drew).trans (hb.mono hN)
theorem count_impl (a b c v : Int) (l : List Int) (A : Option Addr) (B cc : Nat) (w : World) (hr : Rd w B A (ints l)) (hB : B ≤ w.heap.size) (hn : l.length ≤ 1048576) :
   Calls Try.prog 62 #[.agg #[.int .i64 a, .int .i64 b, .int .i64 c], .slice A l.length cc, .int .i64 v] w fun e w' => e = .returned (.int .i64 (cntV a b c v l)) ∧ Below w.heap.size w w' := by
  go_enter Try.func62, Try.ntmps62
  go_wp2_with fail
  go_loopw [7, 12] (fun q i wr => ∃ k : Nat, k ≤ l.length ∧ i = .int .i64 k ∧ q = .int .i64 (cntV a b c v (l.take k)) ∧ Below (w.heap.size + 1) (w.alloc (.cells #[.int .i64 a, .int .i64 b, .int .i64 c] 27)) wr) (fun _ i _ => l.length - (intOf i).toNat)
  case atStart => exact ⟨0, Nat.zero_le _, rfl, rfl, Below.refl _ _⟩
  case round =>
    obtain ⟨k, hk, rfl, rfl, hbw⟩ := hrel
    by_cases hlt : k < l.length
    · have ht := List.getElem?_eq_getElem hlt
      generalize l[k] = x at ht
      have hr' := (hr.alloc hB _).below hbw (by omega)
      obtain ⟨bb, o, rfl, _, c0⟩ := hr'.int ht
      have e0 := hbw.cell (p := ⟨w.heap.size, 0, none⟩) (by simp)
      have e1 := hbw.cell (p := ⟨w.heap.size, 1, none⟩) (by simp)
      have e2 := hbw.cell (p := ⟨w.heap.size, 2, none⟩) (by simp)
      simp at e0 e1 e2
      have hz := hbw.size
      simp at hz
      have hs := cnt_step a b c v ht
      have hle := cnt_le a b c v l k
      obtain ⟨r, hvr⟩ : ∃ r, verd a b c x = r := ⟨_, rfl⟩
      rw [hvr] at hs
      have Hvr := Lib.hid hvr
      generalize cntV a b c v (l.take k) = q at *
      cases hv : (r == v) with
      | true =>
        rw [hv] at hs
        have Hs := Lib.hid hs
        have Hr := Lib.hid hr
        clear ht hs hvr hr hr'
        go_wp2_with (first | (go_at_call 52; refine (verd_impl_r a b c x r Hvr.out _).mono ?_; rintro e w1 ⟨rfl, hb⟩) | (go_at_call 68; refine (truth_t _).mono ?_; rintro e w' ⟨rfl, rfl⟩))
        go_roundw
        case rel => exact ⟨k + 1, by omega, by go_num, by rw [Hs.out]; rfl, hbw.trans (hb.mono (by omega))⟩
        case measure => simp [intOf]; omega
      | false =>
        rw [hv] at hs
        have Hs := Lib.hid hs
        have Hr := Lib.hid hr
        clear ht hs hvr hr hr'
        go_wp2_with (first | (go_at_call 52; refine (verd_impl_r a b c x r Hvr.out _).mono ?_; rintro e w1 ⟨rfl, hb⟩) | (go_at_call 68; refine (truth_f _).mono ?_; rintro e w' ⟨rfl, rfl⟩))
        go_roundw
        case rel => exact ⟨k + 1, by omega, by go_num, by rw [Hs.out]; exact vint (by simp), hbw.trans (hb.mono (by omega))⟩
        case measure => simp [intOf]; omega
    · have hk' : k = l.length := by omega
      subst hk'
      rw [List.take_length]
      clear hr
      go_wp2
      go_ret
      exact ⟨rfl, ((Below.refl _ _).alloc (Nat.le_refl _) _).trans (hbw.mono (by omega))⟩
theorem count_spec (a b c v : Int) (l : List Int) (A : Option Addr) (B cc : Nat) (w : World) (hr : Rd w B A (ints l)) (hB : B ≤ w.heap.size) (hn : l.length ≤ 1048576) :
   Calls Try.prog 34 #[.agg #[.int .i64 a, .int .i64 b, .int .i64 c], .slice A l.length cc, .int .i64 v] w fun e w' => e = .returned (.int .i64 (cntV a b c v l)) ∧ Below w.heap.size w w' := by
  go_enter Try.func34, Try.ntmps34
  go_wp2_with fail
  go_loopw [7, 8] (fun q i wr => ∃ k : Nat, k ≤ l.length ∧ i = .int .i64 k ∧ q = .int .i64 (cntV a b c v (l.take k)) ∧ Below (w.heap.size + 1) (w.alloc (.cells #[.int .i64 a, .int .i64 b, .int .i64 c] 27)) wr) (fun _ i _ => l.length - (intOf i).toNat)
  case atStart => exact ⟨0, Nat.zero_le _, rfl, rfl, Below.refl _ _⟩
  case round =>
    obtain ⟨k, hk, rfl, rfl, hbw⟩ := hrel
    by_cases hlt : k < l.length
    · have ht := List.getElem?_eq_getElem hlt
      generalize l[k] = x at ht
      have hr' := (hr.alloc hB _).below hbw (by omega)
      obtain ⟨bb, o, rfl, hbB, c0⟩ := hr'.int ht
      have e0 := hbw.cell (p := ⟨w.heap.size, 0, none⟩) (by simp)
      have e1 := hbw.cell (p := ⟨w.heap.size, 1, none⟩) (by simp)
      have e2 := hbw.cell (p := ⟨w.heap.size, 2, none⟩) (by simp)
      simp at e0 e1 e2
      have hz := hbw.size
      simp at hz
      have hbz : bb < wr.heap.size := by omega
      have hyz : w.heap.size < wr.heap.size := by omega
      have hi0 : (0 : Int) ≤ (k : Int) := by omega
      have hi1 : (k : Int) < (l.length : Int) := by omega
      have hs := cnt_step a b c v ht
      have hle := cnt_le a b c v l k
      obtain ⟨r, hvr⟩ : ∃ r, verd a b c x = r := ⟨_, rfl⟩
      rw [hvr] at hs
      have Hvr := Lib.hid hvr
      generalize cntV a b c v (l.take k) = q at *
      cases hv : (r == v)
      all_goals
        rw [hv] at hs
        have Hs := Lib.hid hs
        have Hr := Lib.hid hr
        clear ht hs hvr hr hr'
        go_wp2_with fail
        first | (go_region_held3 (fun w' => w'.cell? ⟨w.heap.size, 0, none⟩ = some (.int .i64 a) ∧ w'.cell? ⟨w.heap.size, 1, none⟩ = some (.int .i64 b) ∧ w'.cell? ⟨w.heap.size, 2, none⟩ = some (.int .i64 c) ∧ w'.cell? ⟨bb, o + k, none⟩ = some (.int .i64 x)) (simp [*, World.cell?_alloc_past]) ((go_at_call 35; refine (verd_spec_r a b c x r Hvr.out _).mono ?_; rintro e w1 ⟨rfl, hb⟩; obtain ⟨hc, hf, hz1⟩ := bstep (N := wr.heap.size) (by simp) hb))) | fail
        all_goals go_wp2
        all_goals go_roundw
        all_goals first | exact ⟨k + 1, by omega, by go_num, by rw [Hs.out]; exact vint (by simp), hbw.trans (below_of_drew hb (by omega))⟩ | (simp [intOf]; omega)
    · have hk' : k = l.length := by omega
      subst hk'
      rw [List.take_length]
      clear hr
      go_wp2
      go_ret
      exact ⟨rfl, ((Below.refl _ _).alloc (Nat.le_refl _) _).trans (hbw.mono (by omega))⟩
end Go.Proofs.Ytdjbbjehgfkefaa
