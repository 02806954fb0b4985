/- Companions in a row of the program and of the reference. -/
import Derived.Test.YtdjbbjehgfkefaaPs
namespace Go.Proofs.Ytdjbbjehgfkefaa
open Go.ChangeShapes Go.WideShapes Go.ChangeAt Go.RowKit
set_option maxRecDepth 20000
set_option linter.unusedVariables false
set_option linter.unusedSimpArgs false
theorem index_any (l : List Int) (x : Int) (A : Option Addr) (B c : Nat) (w : World) (hr : Rd w B A (ints l)) (hn : l.length ≤ 1048576) :
   Calls Try.prog 66 #[.slice A l.length c, .int .i64 x] w fun e w' => e = .returned (.int .i64 (idxB (· == x) l)) ∧ w = w' := by
  go_enter Try.func66, Try.ntmps66
  go_wp2_with fail
  go_loop [8] (fun i => ∃ k : Nat, k ≤ l.length ∧ i = .int .i64 k ∧ (l.take k).any (· == x) = false) (fun i => l.length - (intOf i).toNat)
  case atStart => exact ⟨0, Nat.zero_le _, rfl, by simp⟩
  case round =>
    obtain ⟨k, hk, rfl, hall⟩ := hrel
    by_cases hlt : k < l.length
    · have ht := List.getElem?_eq_getElem hlt
      generalize l[k] = t at ht
      obtain ⟨b, o, rfl, _, c0⟩ := hr.int ht
      have Ht := Lib.hid ht
      have Ha := Lib.hid hall
      clear ht hall hr
      by_cases hx : x = t
      · have Hx := Lib.hid hx
        have hb : (x == t) = true := by rw [beq_iff_eq]; exact hx
        clear hx
        go_wp2
        go_ret
        exact ⟨ret_int (by rw [idxB_here _ _ Ht.out Ha.out (by rw [Hx.out]; simp)]), rfl⟩
      · have Hx := Lib.hid hx
        have hb : (x == t) = false := by rw [beq_eq_false_iff_ne]; exact hx
        clear hx
        go_wp2
        go_round
        case rel => exact ⟨k + 1, by omega, by go_num, by rw [any_step _ _ Ht.out, Ha.out]; simp; exact fun h => Hx.out h.symm⟩
        case measure => simp [intOf]; omega
    · have hk' : k = l.length := by omega
      subst hk'
      rw [List.take_length] at hall
      have Ha := Lib.hid hall
      clear hall hr
      go_wp2
      go_ret
      exact ⟨ret_int (idxB_none _ _ Ha.out).symm, rfl⟩
theorem contains_any (l : List Int) (x : Int) (A : Option Addr) (B c : Nat) (w : World) (hr : Rd w B A (ints l)) (hn : l.length ≤ 1048576) :
   Calls Try.prog 54 #[.slice A l.length c, .int .i64 x] w fun e w' => e = .returned (.bool (l.any (· == x))) ∧ w = w' := by
  have Hi := Lib.hid (index_any l x A B c w hr hn)
  clear hr
  go_enter Try.func54, Try.ntmps54
  go_wp2_with (go_at_call 66; refine (Hi.out).mono ?_; rintro e w' ⟨rfl, rfl⟩)
  go_ret
  exact ⟨ret_bool (idxB_any _ _), rfl⟩
theorem tdiv2_bd {x : Int} (h1 : -1000000 ≤ x) (h2 : x ≤ 1000000) : -1000000 ≤ x.tdiv 2 ∧ x.tdiv 2 ≤ 1000000 := by
  rcases Int.le_total 0 x with h | h
  · rw [Int.tdiv_eq_ediv_of_nonneg h]; omega
  · have e : x = -(-x) := by omega
    rw [e, Int.neg_tdiv, Int.tdiv_eq_ediv_of_nonneg (by omega)]; omega
theorem tdiv2_wrap {x : Int} (h1 : -1000000 ≤ x) (h2 : x ≤ 1000000) : wrap64 (x.tdiv 2) = x.tdiv 2 := by
  have := tdiv2_bd h1 h2
  exact IntWalk.wrap64_in _ (by omega)
def sBd (s : List Int) : Prop := ∀ (k : Nat) (x : Int), s[k]? = some x → -1000000 ≤ x ∧ x ≤ 1000000
theorem qAll_at {s : List Int} {g k : Nat} {x y : Int} (hx : s[k]? = some x) (hy : s[g]? = some y) : qAll s g k = (!(k == g) && (x.tdiv 2 == y.tdiv 2)) := by
  rw [qAll, List.getD_eq_getElem?_getD, List.getD_eq_getElem?_getD, hx, hy]; rfl
theorem comp_alone (s : List Int) (g : Nat) (hg : g < s.length) (hsb : sBd s) (p : Nat → Bool) (A : Option Addr) (B cc : Nat) (b1 b2 : Nat) (w : World) (hr : Rd w B A (ints s)) (hB : B ≤ w.heap.size) (hn : s.length ≤ 1048576)
    (HK : ∀ (w' : World) (j : Nat), j < s.length → Below w.heap.size w w' → Calls Try.prog 51 #[.int .i64 j, .pointer (some ⟨b1, 0, none⟩), .pointer (some ⟨b2, 0, none⟩)] w' fun e w'' => e = .returned (.bool (p j)) ∧ Below w'.heap.size w' w'') :
   Calls Try.prog 55 #[.slice A s.length cc, .int .i64 g, .func (Fn.func 51) #[] #[.pointer (some ⟨b1, 0, none⟩), .pointer (some ⟨b2, 0, none⟩)]] w fun e w' => e = .returned (.int .i64 (compF (fun j => qAll s g j && p j) s.length)) ∧ Below w.heap.size w w' := by
  have HKc := Lib.hid HK
  clear HK
  go_enter Try.func55, Try.ntmps55
  go_wp2_with fail
  go_loopw [11] (fun i wr => ∃ k : Nat, k ≤ s.length ∧ i = .int .i64 k ∧ (∀ j, j < k → (qAll s g j && p j) = false) ∧ Below w.heap.size w wr) (fun i _ => s.length - (intOf i).toNat)
  case atStart => exact ⟨0, Nat.zero_le _, rfl, fun j hj => absurd hj (Nat.not_lt_zero _), Below.refl _ _⟩
  case round =>
    obtain ⟨k, hk, rfl, hall, hbw⟩ := hrel
    have Hall := Lib.hid hall
    clear hall
    by_cases hlt : k < s.length
    · have ht := List.getElem?_eq_getElem hlt
      generalize s[k] = x at ht
      have hy := List.getElem?_eq_getElem hg
      generalize s[g] = y at hy
      have hq := qAll_at ht hy
      have hx1 := hsb k x ht
      have hy1 := hsb g y hy
      have ex := tdiv2_wrap hx1.1 hx1.2
      have ey := tdiv2_wrap hy1.1 hy1.2
      have hsz := hbw.size
      have hr' := hr.below hbw hB
      obtain ⟨bb, o, rfl, hbB, c0⟩ := hr'.int ht
      obtain ⟨bb2, o2, he, _, d0⟩ := hr'.int hy
      injection he with he
      injection he with he1 he2
      subst he1 he2
      have hi0 : (0 : Int) ≤ (k : Int) := by omega
      have hi1 : (k : Int) < (s.length : Int) := by omega
      have hj0 : (0 : Int) ≤ (g : Int) := by omega
      have hj1 : (g : Int) < (s.length : Int) := by omega
      clear ht hy hr' hr hx1 hy1
      by_cases hkg : k = g
      · have hq0 : (qAll s g k && p k) = false := by rw [hq, hkg]; simp
        have Hq := Lib.hid hq0
        clear hq0 hq HKc
        have hne : ((k : Int) == (g : Int)) = true := by simp [hkg]
        have hne2 : ((k : Int) != (g : Int)) = false := by simp [hkg]
        clear hkg
        go_wp2
        go_roundw
        case rel => exact ⟨k + 1, by omega, by go_num, fun j hj => by
          rcases Nat.lt_succ_iff_lt_or_eq.1 hj with h | rfl
          · exact Hall.out j h
          · exact Hq.out, hbw⟩
        case measure => simp [intOf]; omega
      · have hne : ((k : Int) == (g : Int)) = false := by rw [beq_eq_false_iff_ne]; omega
        have hne2 : ((k : Int) != (g : Int)) = true := by rw [bne_iff_ne]; omega
        have hb0 : (k == g) = false := by rw [beq_eq_false_iff_ne]; exact hkg
        rw [hb0] at hq
        clear hb0 hkg
        cases hxy : (x.tdiv 2 == y.tdiv 2) with
        | false =>
          rw [hxy] at hq
          have hq0 : (qAll s g k && p k) = false := by rw [hq]; rfl
          have Hq := Lib.hid hq0
          clear hq0 hq HKc
          go_wp2
          go_roundw
          case rel => exact ⟨k + 1, by omega, by go_num, fun j hj => by
            rcases Nat.lt_succ_iff_lt_or_eq.1 hj with h | rfl
            · exact Hall.out j h
            · exact Hq.out, hbw⟩
          case measure => simp [intOf]; omega
        | true =>
          rw [hxy] at hq
          have hq0 : (qAll s g k && p k) = p k := by rw [hq]; simp
          have HKk := HKc.out _ k hlt hbw
          cases hp : p k with
          | false =>
            replace hq0 := hq0.trans hp
            rw [hp] at HKk
            have Hq := Lib.hid hq0
            have HKh := Lib.hid HKk
            clear hq0 hq HKc HKk hp
            go_wp2_with (go_at_call 51; refine HKh.out.mono ?_; rintro e w1 ⟨rfl, hb⟩)
            go_roundw
            case rel => exact ⟨k + 1, by omega, by go_num, fun j hj => by
              rcases Nat.lt_succ_iff_lt_or_eq.1 hj with h | rfl
              · exact Hall.out j h
              · exact Hq.out, hbw.trans (hb.mono hsz)⟩
            case measure => simp [intOf]; omega
          | true =>
            replace hq0 := hq0.trans hp
            rw [hp] at HKk
            have Hq := Lib.hid hq0
            have HKh := Lib.hid HKk
            clear hq0 hq HKc HKk hp
            go_wp2_with (go_at_call 51; refine HKh.out.mono ?_; rintro e w1 ⟨rfl, hb⟩)
            go_ret
            exact ⟨ret_int (compF_found hlt Hq.out Hall.out).symm, hbw.trans (hb.mono hsz)⟩
    · have hk' : k = s.length := by omega
      subst hk'
      clear hr HKc
      go_wp2
      go_ret
      exact ⟨ret_int (compF_none Hall.out).symm, hbw⟩
theorem comp_any (s : List Int) (g : Nat) (hg : g < s.length) (hsb : sBd s) (p : Nat → Bool) (A : Option Addr) (B cc : Nat)  (w : World) (hr : Rd w B A (ints s)) (hB : B ≤ w.heap.size) (hn : s.length ≤ 1048576)
    (HK : ∀ (w' : World) (j : Nat), j < s.length → Below w.heap.size w w' → Calls Try.prog 59 #[.int .i64 j] w' fun e w'' => e = .returned (.bool (p j)) ∧ Below w'.heap.size w' w'') :
   Calls Try.prog 55 #[.slice A s.length cc, .int .i64 g, .func (Fn.func 59) #[] #[]] w fun e w' => e = .returned (.int .i64 (compF (fun j => qAll s g j && p j) s.length)) ∧ Below w.heap.size w w' := by
  have HKc := Lib.hid HK
  clear HK
  go_enter Try.func55, Try.ntmps55
  go_wp2_with fail
  go_loopw [11] (fun i wr => ∃ k : Nat, k ≤ s.length ∧ i = .int .i64 k ∧ (∀ j, j < k → (qAll s g j && p j) = false) ∧ Below w.heap.size w wr) (fun i _ => s.length - (intOf i).toNat)
  case atStart => exact ⟨0, Nat.zero_le _, rfl, fun j hj => absurd hj (Nat.not_lt_zero _), Below.refl _ _⟩
  case round =>
    obtain ⟨k, hk, rfl, hall, hbw⟩ := hrel
    have Hall := Lib.hid hall
    clear hall
    by_cases hlt : k < s.length
    · have ht := List.getElem?_eq_getElem hlt
      generalize s[k] = x at ht
      have hy := List.getElem?_eq_getElem hg
      generalize s[g] = y at hy
      have hq := qAll_at ht hy
      have hx1 := hsb k x ht
      have hy1 := hsb g y hy
      have ex := tdiv2_wrap hx1.1 hx1.2
      have ey := tdiv2_wrap hy1.1 hy1.2
      have hsz := hbw.size
      have hr' := hr.below hbw hB
      obtain ⟨bb, o, rfl, hbB, c0⟩ := hr'.int ht
      obtain ⟨bb2, o2, he, _, d0⟩ := hr'.int hy
      injection he with he
      injection he with he1 he2
      subst he1 he2
      have hi0 : (0 : Int) ≤ (k : Int) := by omega
      have hi1 : (k : Int) < (s.length : Int) := by omega
      have hj0 : (0 : Int) ≤ (g : Int) := by omega
      have hj1 : (g : Int) < (s.length : Int) := by omega
      clear ht hy hr' hr hx1 hy1
      by_cases hkg : k = g
      · have hq0 : (qAll s g k && p k) = false := by rw [hq, hkg]; simp
        have Hq := Lib.hid hq0
        clear hq0 hq HKc
        have hne : ((k : Int) == (g : Int)) = true := by simp [hkg]
        have hne2 : ((k : Int) != (g : Int)) = false := by simp [hkg]
        clear hkg
        go_wp2
        go_roundw
        case rel => exact ⟨k + 1, by omega, by go_num, fun j hj => by
          rcases Nat.lt_succ_iff_lt_or_eq.1 hj with h | rfl
          · exact Hall.out j h
          · exact Hq.out, hbw⟩
        case measure => simp [intOf]; omega
      · have hne : ((k : Int) == (g : Int)) = false := by rw [beq_eq_false_iff_ne]; omega
        have hne2 : ((k : Int) != (g : Int)) = true := by rw [bne_iff_ne]; omega
        have hb0 : (k == g) = false := by rw [beq_eq_false_iff_ne]; exact hkg
        rw [hb0] at hq
        clear hb0 hkg
        cases hxy : (x.tdiv 2 == y.tdiv 2) with
        | false =>
          rw [hxy] at hq
          have hq0 : (qAll s g k && p k) = false := by rw [hq]; rfl
          have Hq := Lib.hid hq0
          clear hq0 hq HKc
          go_wp2
          go_roundw
          case rel => exact ⟨k + 1, by omega, by go_num, fun j hj => by
            rcases Nat.lt_succ_iff_lt_or_eq.1 hj with h | rfl
            · exact Hall.out j h
            · exact Hq.out, hbw⟩
          case measure => simp [intOf]; omega
        | true =>
          rw [hxy] at hq
          have hq0 : (qAll s g k && p k) = p k := by rw [hq]; simp
          have HKk := HKc.out _ k hlt hbw
          cases hp : p k with
          | false =>
            replace hq0 := hq0.trans hp
            rw [hp] at HKk
            have Hq := Lib.hid hq0
            have HKh := Lib.hid HKk
            clear hq0 hq HKc HKk hp
            go_wp2_with (go_at_call 59; refine HKh.out.mono ?_; rintro e w1 ⟨rfl, hb⟩)
            go_roundw
            case rel => exact ⟨k + 1, by omega, by go_num, fun j hj => by
              rcases Nat.lt_succ_iff_lt_or_eq.1 hj with h | rfl
              · exact Hall.out j h
              · exact Hq.out, hbw.trans (hb.mono hsz)⟩
            case measure => simp [intOf]; omega
          | true =>
            replace hq0 := hq0.trans hp
            rw [hp] at HKk
            have Hq := Lib.hid hq0
            have HKh := Lib.hid HKk
            clear hq0 hq HKc HKk hp
            go_wp2_with (go_at_call 59; refine HKh.out.mono ?_; rintro e w1 ⟨rfl, hb⟩)
            go_ret
            exact ⟨ret_int (compF_found hlt Hq.out Hall.out).symm, hbw.trans (hb.mono hsz)⟩
    · have hk' : k = s.length := by omega
      subst hk'
      clear hr HKc
      go_wp2
      go_ret
      exact ⟨ret_int (compF_none Hall.out).symm, hbw⟩
theorem clo_alone (a b c : Int) (l : List Int) (A : Option Addr) (B cc b1 b2 j : Nat) (hj : j < l.length) (w : World) (hr : Rd w B A (ints l)) (hB : B ≤ w.heap.size) (h0 : w.cell? ⟨b1, 0, none⟩ = some (.int .i64 a)) (h1 : w.cell? ⟨b1, 1, none⟩ = some (.int .i64 b)) (h2 : w.cell? ⟨b1, 2, none⟩ = some (.int .i64 c)) (h3 : w.cell? ⟨b2, 0, none⟩ = some (.slice A l.length cc)) (hb1 : b1 < w.heap.size) (hb2 : b2 < w.heap.size) :
   Calls Try.prog 51 #[.int .i64 j, .pointer (some ⟨b1, 0, none⟩), .pointer (some ⟨b2, 0, none⟩)] w fun e w' => e = .returned (.bool ((vl a b c l).getD j 0 == 2)) ∧ Below w.heap.size w w' := by
  have ht := List.getElem?_eq_getElem hj
  generalize l[j] = x at ht
  rw [vl_get a b c ht]
  obtain ⟨bb, o, rfl, hbB, c0⟩ := hr.int ht
  have hbz : bb < w.heap.size := by omega
  have hi0 : (0 : Int) ≤ (j : Int) := by omega
  have hi1 : (j : Int) < (l.length : Int) := by omega
  obtain ⟨r, hvr⟩ : ∃ r, verd a b c x = r := ⟨_, rfl⟩
  rw [hvr]
  have Hvr := Lib.hid hvr
  clear ht hr hvr
  go_enter Try.func51, Try.ntmps51
  go_wp2_with fail
  go_region_held3 (fun w' => w'.cell? ⟨b1, 0, none⟩ = some (.int .i64 a) ∧ w'.cell? ⟨b1, 1, none⟩ = some (.int .i64 b) ∧ w'.cell? ⟨b1, 2, none⟩ = some (.int .i64 c) ∧ w'.cell? ⟨b2, 0, none⟩ = some (.slice (some ⟨bb, o, none⟩) l.length cc) ∧ w'.cell? ⟨bb, o + j, none⟩ = some (.int .i64 x)) (simp [*, World.cell?_alloc_past]) ((go_at_call 52; refine (verd_impl_r a b c x r Hvr.out _).mono ?_; rintro e w1 ⟨rfl, hb⟩; obtain ⟨hc, hf, hz1⟩ := bstep (N := w.heap.size) (by simp) hb))
  all_goals go_wp2
  all_goals go_ret
  all_goals exact ⟨rfl, below_of_drew hb (Nat.le_refl _)⟩
theorem clo_any (j : Nat) (w : World) :
   Calls Try.prog 59 #[.int .i64 j] w fun e w' => e = .returned (.bool true) ∧ Below w.heap.size w w' := by
  go_enter Try.func59, Try.ntmps59
  go_wp2
  go_ret
  exact ⟨rfl, Below.refl _ _⟩
theorem comp_spec (s : List Int) (g : Nat) (hg : g < s.length) (hsb : sBd s) (A : Option Addr) (B cc : Nat) (w : World) (hr : Rd w B A (ints s)) (hB : B ≤ w.heap.size) (hn : s.length ≤ 1048576) :
   Calls Try.prog 56 #[.slice A s.length cc, .int .i64 g] w fun e w' => e = .returned (.int .i64 (compF (qAll s g) s.length)) ∧ Below w.heap.size w w' := by
  go_enter Try.func56, Try.ntmps56
  go_wp2_with fail
  go_loopw [5] (fun i wr => ∃ k : Nat, k ≤ s.length ∧ i = .int .i64 k ∧ (∀ j, j < k → qAll s g j = false) ∧ ∃ q, wr = w.drewN q) (fun i _ => s.length - (intOf i).toNat)
  case atStart => exact ⟨0, Nat.zero_le _, rfl, fun j hj => absurd hj (Nat.not_lt_zero _), 0, rfl⟩
  case round =>
    obtain ⟨k, hk, rfl, hall, q, rfl⟩ := hrel
    have Hall := Lib.hid hall
    clear hall
    by_cases hlt : k < s.length
    · have ht := List.getElem?_eq_getElem hlt
      generalize s[k] = x at ht
      have hy := List.getElem?_eq_getElem hg
      generalize s[g] = y at hy
      have hq := qAll_at ht hy
      have hx1 := hsb k x ht
      have hy1 := hsb g y hy
      have ex := tdiv2_wrap hx1.1 hx1.2
      have ey := tdiv2_wrap hy1.1 hy1.2
      obtain ⟨bb, o, rfl, hbB, c0⟩ := hr.int ht
      obtain ⟨bb2, o2, he, _, d0⟩ := hr.int hy
      injection he with he
      injection he with he1 he2
      subst he1 he2
      have hi0 : (0 : Int) ≤ (k : Int) := by omega
      have hi1 : (k : Int) < (s.length : Int) := by omega
      have hj0 : (0 : Int) ≤ (g : Int) := by omega
      have hj1 : (g : Int) < (s.length : Int) := by omega
      clear ht hy hr hx1 hy1
      by_cases hkg : k = g
      · have hq0 : qAll s g k = false := by rw [hq, hkg]; simp
        have Hq := Lib.hid hq0
        clear hq0 hq
        have hne : ((k : Int) == (g : Int)) = true := by simp [hkg]
        have hne2 : ((k : Int) != (g : Int)) = false := by simp [hkg]
        clear hkg
        go_wp2_with fail
        go_quiet (fail)
        go_wp2
        go_roundw
        case rel => exact ⟨k + 1, by omega, by go_num, fun j hj => by
          rcases Nat.lt_succ_iff_lt_or_eq.1 hj with h | rfl
          · exact Hall.out j h
          · exact Hq.out, _, rfl⟩
        case measure => simp [intOf]; omega
      · have hne : ((k : Int) == (g : Int)) = false := by rw [beq_eq_false_iff_ne]; omega
        have hne2 : ((k : Int) != (g : Int)) = true := by rw [bne_iff_ne]; omega
        have hb0 : (k == g) = false := by rw [beq_eq_false_iff_ne]; exact hkg
        rw [hb0] at hq
        clear hb0 hkg
        cases hxy : (x.tdiv 2 == y.tdiv 2)
        all_goals rw [hxy] at hq
        all_goals have Hq := Lib.hid hq
        all_goals clear hq
        all_goals go_wp2_with fail
        all_goals go_quiet (fail)
        all_goals go_wp2
        · go_roundw
          case rel => exact ⟨k + 1, by omega, by go_num, fun j hj => by
            rcases Nat.lt_succ_iff_lt_or_eq.1 hj with h | rfl
            · exact Hall.out j h
            · exact Hq.out, _, rfl⟩
          case measure => simp [intOf]; omega
        · go_ret
          exact ⟨ret_int (compF_found hlt Hq.out Hall.out).symm, by repeat' (first | (with_reducible exact Below.refl _ _) | (with_reducible assumption) | (with_reducible refine Below.alloc ?_ ?_ _) | (with_reducible refine Below.drew ?_) | (with_reducible refine below_drewN ?_ _) | (with_reducible refine Below.setCell ?_ ?_ _) | (with_reducible refine Below.trans ?_ (Below.mono (by assumption) ?_)) | go_size | (exact Below.size (by assumption)))⟩
    · have hk' : k = s.length := by omega
      subst hk'
      clear hr
      go_wp2
      go_ret
      exact ⟨ret_int (compF_none Hall.out).symm, by repeat' (first | (with_reducible exact Below.refl _ _) | (with_reducible assumption) | (with_reducible refine Below.alloc ?_ ?_ _) | (with_reducible refine Below.drew ?_) | (with_reducible refine below_drewN ?_ _) | (with_reducible refine Below.setCell ?_ ?_ _) | (with_reducible refine Below.trans ?_ (Below.mono (by assumption) ?_)) | go_size | (exact Below.size (by assumption)))⟩
end Go.Proofs.Ytdjbbjehgfkefaa
