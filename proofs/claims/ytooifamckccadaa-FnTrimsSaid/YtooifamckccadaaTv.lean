/- With the least brakes the limit is kept, and without one of them it is not: the plain law and the walk. -/
import Derived.Test.YtooifamckccadaaLbj
import Derived.Test.YtooifamckccadaaDr
import Derived.Test.YtooifamckccadaaP
import Derived.Test.YtooifamckccadaaTu
namespace Go.Proofs.Ytooifamckccadaa
open Go.ChangeShapes Go.WideShapes Go.ChangeAt Go.RowKit
set_option linter.unusedVariables false
set_option linter.unusedSimpArgs false
theorem cmb_sub : ∀ {l : List Int} {k : Nat} {y : List Int}, y ∈ cmb l k → List.Sublist y l
  | l, 0, y, h => by
    rw [cmb_zero] at h
    have hy : y = [] := by simpa using h
    rw [hy]; exact List.nil_sublist _
  | [], k + 1, y, h => by simp [cmb] at h
  | a :: l, k + 1, y, h => by
    rw [cmb_cons, List.mem_append, List.mem_map] at h
    rcases h with ⟨z, hz, rfl⟩ | h
    · exact (cmb_sub hz).cons_cons a
    · exact (cmb_sub h).cons a
theorem sub_cmb {y l : List Int} (h : List.Sublist y l) : y ∈ cmb l y.length := by
  induction h with
  | slnil => simp [cmb]
  | @cons y l a hs ih =>
    cases hk : y.length with
    | zero =>
      rw [cmb_zero]
      have := List.eq_nil_of_length_eq_zero hk
      rw [this]; simp
    | succ k =>
      rw [cmb_cons]
      rw [hk] at ih
      exact List.mem_append_right _ ih
  | @cons_cons y l a hs ih =>
    rw [List.length_cons, cmb_cons]
    exact List.mem_append_left _ (List.mem_map_of_mem ih)
theorem imp_least {kp : List Int → Bool} {l x : List Int} (hs : l.Pairwise (· < ·)) (h : impS kp l (l.length + 1) = some x) :
    kp x = true ∧ List.Sublist x l ∧ ∀ y, List.Sublist y x → y.length < x.length → kp y = false := by
  rcases impS_inv (kp := kp) hs (l.length + 1) with ⟨e, _⟩ | ⟨x', e, f, _, g, q⟩
  · rw [e] at h; cases h
  · rw [e] at h
    injection h with h
    subst h
    refine ⟨f, cmb_sub g, fun y hy hl => ?_⟩
    cases hk : kp y with
    | false => rfl
    | true =>
      have := q _ _ (sub_cmb (hy.trans (cmb_sub g))) hk
      unfold befB at this
      rw [if_neg (by omega), decide_eq_true hl] at this
      cases this
theorem ris_of {y : List Int} {n : Int} (hp : y.Pairwise (· < ·)) (hb : ∀ x ∈ y, 0 ≤ x ∧ x < n) : risB y n = true := by
  unfold risB
  rw [List.all_eq_true]
  intro k hk
  have hk := List.mem_range.1 hk
  have hx := List.getElem?_eq_getElem hk
  have h1 := hb _ (List.getElem_mem hk)
  cases k with
  | zero => rw [riseT_zero hx, decide_eq_true h1.1, decide_eq_true h1.2]; rfl
  | succ j =>
    have hy := List.getElem?_eq_getElem (show j < y.length by omega)
    have h2 : y[j] < y[j + 1] := List.pairwise_iff_getElem.1 hp j (j + 1) (by omega) hk (by omega)
    rw [riseT_succ hx hy, decide_eq_true h1.1, decide_eq_true h1.2, decide_eq_true h2]; rfl
theorem dev_sub {ls : List Seg} {f n : Nat} {y : List Int} (h : List.Sublist y (brkK ls f n ls.length)) : devB ls y = true := by
  obtain ⟨h1, h2⟩ := brk_sorted ls f n ls.length
  unfold devB
  rw [Bool.and_eq_true]
  refine ⟨ris_of (h1.sublist h) (fun x hx => h2 x (h.subset hx)), ?_⟩
  rw [List.all_eq_true]
  intro x hx
  obtain ⟨j, t, hj, rfl, ht, hk, _⟩ := (mem_brkK ls.length).1 (h.subset hx)
  rw [kindAt_nat ht, hk]
  rfl
/-- does the program find that a train with these devices passes and keeps the limit -/
def okT (ls : List Seg) (f d lo hi limit : Int) (on : List Int) : Bool := (alC ls on f d lo hi == 0) && decide ((lastI (lo, hi) (alR ls on f d lo hi)).2 ≤ limit)
theorem ok_kp {ls : List Seg} {f n : Nat} {lo hi limit : Int} {on : List Int} (hlay : layB ls = true) (he : enB lo hi = true) (hr : runB ls f n = true) (hd : devB ls on = true) : okT ls f n lo hi limit on = kpB ls f n lo hi limit on := by
  have hc : rcC ls f n lo hi on = 0 := by rw [rcC, hlay, he, hr, hd]; rfl
  have ha : alC ls on f n lo hi = (runP ls on n f (lo, hi)).2 := by rw [alC, if_pos hc]; rfl
  unfold okT kpB
  rw [ha]
  by_cases h0 : (runP ls on n f (lo, hi)).2 = 0
  · have hb : alR ls on f n lo hi = (runP ls on n f (lo, hi)).1 := by rw [alR, ha, if_pos h0]; rfl
    rw [hb]
  · have : ((runP ls on n f (lo, hi)).2 == 0) = false := by simpa using h0
    rw [this, Bool.false_and, Bool.false_and]
/-- the first k of a list, without the one at place s -/
def skL (X : List Int) (s : Int) : Nat → List Int
  | 0 => []
  | k + 1 => skL X s k ++ (match X[k]? with | some x => if (k : Int) = s then [] else [x] | none => [])
theorem skL_at {X : List Int} {s : Int} {k : Nat} {x : Int} (h : X[k]? = some x) : skL X s (k + 1) = skL X s k ++ (if (k : Int) = s then [] else [x]) := by simp [skL, h]
theorem skL_len (X : List Int) (s : Int) : ∀ k, (skL X s k).length ≤ k
  | 0 => by simp [skL]
  | k + 1 => by
    have := skL_len X s k
    simp only [skL, List.length_append]
    split
    · split <;> simp <;> omega
    · simp; omega
theorem skL_all {X : List Int} {s : Int} (hs : s < 0) : ∀ k, k ≤ X.length → skL X s k = X.take k
  | 0, _ => by simp [skL]
  | k + 1, hk => by
    have hx := List.getElem?_eq_getElem (show k < X.length by omega)
    rw [skL_at hx, skL_all hs k (by omega), if_neg (by omega), List.take_succ_eq_append_getElem (by omega)]
theorem skL_sub (X : List Int) (s : Int) : ∀ k, k ≤ X.length → List.Sublist (skL X s k) (X.take k)
  | 0, _ => by simp [skL]
  | k + 1, hk => by
    have hx := List.getElem?_eq_getElem (show k < X.length by omega)
    rw [skL_at hx, List.take_succ_eq_append_getElem (by omega)]
    refine (skL_sub X s k (by omega)).append ?_
    split
    · exact List.nil_sublist _
    · exact List.Sublist.refl _
theorem skL_less {X : List Int} {s : Nat} : ∀ k, s < k → k ≤ X.length → (skL X s k).length < k
  | 0, h, _ => by omega
  | k + 1, h, hk => by
    have hx := List.getElem?_eq_getElem (show k < X.length by omega)
    have h1 := skL_len X s k
    rw [skL_at hx, List.length_append]
    by_cases e : k = s
    · rw [if_pos (by omega)]; simp; omega
    · have h2 := skL_less (X := X) (s := s) k (by omega) (by omega)
      rw [if_neg (by omega)]; simp; omega
/-- the law -/
theorem trim_law {ls : List Seg} {f d lo hi limit : Int} (h : (lbX ls f d lo hi limit).2 = 0) :
    layB ls = true ∧ l9B ls f d = true ∧ (brkK ls f.toNat d.toNat ls.length).length ≤ 8 ∧ (lbX ls f d lo hi limit).1.length ≤ 8 ∧
    (∀ x ∈ (lbX ls f d lo hi limit).1, x ∈ brkK ls f.toNat d.toNat ls.length) ∧
    ∀ s : Int, -1 ≤ s → s < (lbX ls f d lo hi limit).1.length → okT ls f d lo hi limit (skL (lbX ls f d lo hi limit).1 s (lbX ls f d lo hi limit).1.length) = decide (s < 0) := by
  unfold lbX at h ⊢
  split at h
  rotate_left
  · simp at h
  rename_i h1
  rw [if_pos h1]
  split at h
  rotate_left
  · simp at h
  rename_i h2
  rw [if_pos h2]
  split at h
  rotate_left
  · simp at h
  rename_i h3
  rw [if_pos h3]
  split at h
  rotate_left
  · simp at h
  rename_i X hX
  dsimp only
  rw [Bool.and_eq_true] at h1 h2
  obtain ⟨f', n, rfl, rfl, hn, hf, hn2⟩ := l9_nat h2.1
  rw [Int.toNat_natCast, Int.toNat_natCast] at *
  obtain ⟨g1, g2, g3⟩ := imp_least (brk_sorted ls f' n ls.length).1 hX
  have hr : runB ls f' n = true := by
    have := h2.1
    rw [l9B, Bool.and_eq_true] at this
    exact this.1
  refine ⟨h1.1, h2.1, h3, Nat.le_trans g2.length_le h3, fun x hx => g2.subset hx, fun s hs1 hs2 => ?_⟩
  have hsub : List.Sublist (skL X s X.length) X := by
    have := skL_sub X s X.length (Nat.le_refl _)
    rwa [List.take_length] at this
  rw [ok_kp h1.1 h1.2 hr (dev_sub (hsub.trans g2))]
  by_cases hs : s < 0
  · rw [skL_all hs _ (Nat.le_refl _), List.take_length, g1, decide_eq_true hs]
  · obtain ⟨s', rfl⟩ : ∃ s' : Nat, s = s' := ⟨s.toNat, by omega⟩
    rw [decide_eq_false hs]
    exact g3 _ hsub (skL_less X.length (by omega) (Nat.le_refl _))
end Go.Proofs.Ytooifamckccadaa
namespace Go.Proofs.Ytooifamckccadaa
open Go.ChangeShapes Go.WideShapes Go.ChangeAt Go.RowKit
set_option maxRecDepth 20000
set_option linter.unusedVariables false
set_option linter.unusedSimpArgs false
def BknP (Y : List Int) (w : World) (e : Ending) (w' : World) : Prop := ∃ (A2 : Option Addr) (c2 : Nat), e = .returned (.tuple #[.slice A2 Y.length c2, .int .i64 0]) ∧ w'.ownsRow w.heap.size 2 1 (.slice A2 Y.length c2) Y.length (ints Y) ∧ Below w.heap.size w w'
set_option maxHeartbeats 2000000 in
theorem brakesOf_any (ls : List Seg) (f n : Nat) (hlay : layB ls = true) (hr : runB ls f n = true) (hc : n ≤ ls.length) (h8 : (brkK ls f n ls.length).length ≤ 8) (hl : ls.length ≤ 24) (hf : f < ls.length) (A : Option Addr) (B c : Nat) (w : World) (hs : Rd w B A (ls.flatMap eSegment)) (hB : B ≤ w.heap.size) :
   Calls Try.prog 43 #[.agg #[.slice A ls.length c], .int .i64 f, .int .i64 n] w (BknP (brkK ls f n ls.length) w) := by
  have hn : ls.length ≤ 1048576 := by omega
  have HB := Lib.hid (fun (w' : World) (h : Rd w' B A (ls.flatMap eSegment)) (h3 : B ≤ w'.heap.size) => brakesIn_any ls f n hl hf hc A B c w' h h3)
  have HL := Lib.hid (fun (w' : World) (h : Rd w' B A (ls.flatMap eSegment)) (h3 : B ≤ w'.heap.size) => isLayout_impl ls A B c w' h h3 hn)
  rw [hlay] at HL
  have HR := Lib.hid (fun w' => isRun_any ls.length A c f n true hr hn w')
  have Hs := Lib.hid (hs.alloc hB (.cells #[.slice A ls.length c] 26))
  have L0 := Lib.hid (bk_new w #[.slice A ls.length c] 26)
  have B0 := Lib.hid ((Below.refl w.heap.size w).alloc (Nat.le_refl _) (.cells #[.slice A ls.length c] 26))
  have hz0 : (w.alloc (.cells #[.slice A ls.length c] 26)).heap.size = w.heap.size + 1 := by simp
  have H8 := Lib.hid h8
  have hd : decide ((ls.length : Int) < (n : Int)) = false := by simp; omega
  clear hs hlay hr h8
  go_enter Try.func43, Try.ntmps43
  go_wp2_with fail
  refine (HL.out _ Hs.out (by omega)).mono ?_
  rintro e w1 ⟨rfl, b1⟩
  have z1 := b1.size
  have Hs1 := Lib.hid (Hs.out.below b1 (by omega))
  have L1 := Lib.hid (bk_below L0.out b1 (by omega))
  have B1 := Lib.hid (B0.out.trans (b1.mono (by omega)))
  clear b1 Hs L0 B0 HL
  obtain ⟨s0, sf, ss⟩ := bk1 L1.out
  go_wp2_with fail
  refine (HR.out _).mono ?_
  rintro e w2 ⟨rfl, b2⟩
  have z2 := b2.size
  have Hs2 := Lib.hid (Hs1.out.below b2 (by omega))
  have L2 := Lib.hid (bk_below L1.out b2 (by omega))
  have B2 := Lib.hid (B1.out.trans (b2.mono (by omega)))
  clear b2 Hs1 L1 B1 HR s0 sf ss
  obtain ⟨s0, sf, ss⟩ := bk1 L2.out
  go_wp2_with (go_at_call 108; refine (length_seg _ _ _ hn _).mono ?_; rintro e w' ⟨rfl, rfl⟩)
  refine (HB.out _ Hs2.out (by omega)).mono ?_
  rintro e w3 ⟨ys, A2, c2, rfl, o3, b3, hy1, hy2⟩
  have hye := hy2 (by have := H8.out; omega)
  subst hye
  have O3 := Lib.hid (own_more o3 (show w.heap.size ≤ w2.heap.size by omega))
  have B3 := Lib.hid (B2.out.trans (b3.mono (by omega)))
  clear o3 b3 hy1 hy2 s0 sf ss HB
  go_wp2
  go_ret2
  exact ⟨A2, c2, rfl, O3.out, B3.out⟩
end Go.Proofs.Ytooifamckccadaa
namespace Go.Proofs.Ytooifamckccadaa
open Go.ChangeShapes Go.WideShapes Go.ChangeAt Go.RowKit
set_option maxRecDepth 20000
set_option linter.unusedVariables false
set_option linter.unusedSimpArgs false
theorem big_any (n cap : Nat) (C : Option Addr) (w : World) (hn : n ≤ 9223372036854775807) : Calls Try.prog 18 #[.slice C n cap] w fun e w' => e = .returned (.bool (decide (4096 < (n : Int)))) ∧ w = w' := by
  go_enter Try.func18, Try.ntmps18
  go_wp2
  go_ret
  exact ⟨rfl, rfl⟩
theorem likeInts_same (l : List Int) (A A' : Option Addr) (B B' c c' : Nat) (w : World) (hr : Rd w B A (ints l)) (hr2 : Rd w B' A' (ints l)) (hn : l.length ≤ 1048576) :
   Calls Try.prog 42 #[.slice A l.length c, .slice A' l.length c'] w fun e w' => e = .returned (.bool true) ∧ Below w.heap.size w w' := by
  go_enter Try.func42, Try.ntmps42
  go_wp2_with fail
  go_loopw [5] (fun i wr => ∃ k : Nat, k ≤ l.length ∧ i = .int .i64 k ∧ ∃ q, wr = w.drewN q) (fun i _ => l.length - (intOf i).toNat)
  case atStart => exact ⟨0, Nat.zero_le _, rfl, 0, rfl⟩
  case round =>
    obtain ⟨k, hk, rfl, q, rfl⟩ := hrel
    by_cases hlt : k < l.length
    · have ht := List.getElem?_eq_getElem hlt
      generalize l[k] = t at ht
      obtain ⟨b, o, rfl, _, c0⟩ := hr.int ht
      obtain ⟨b2, o2, rfl, _, d0⟩ := hr2.int ht
      clear ht hr hr2
      go_wp2_with fail
      go_quiet (fail)
      go_wp2
      go_roundw
      case rel => exact ⟨k + 1, by omega, by go_num, _, rfl⟩
      case measure => simp [intOf]; omega
    · have hk' : k = l.length := by omega
      subst hk'
      clear hr hr2
      go_wp2
      go_ret
      exact ⟨rfl, by repeat' (first | (with_reducible exact Below.refl _ _) | (with_reducible assumption) | (with_reducible refine Below.alloc ?_ ?_ _) | (with_reducible refine Below.drew ?_) | (with_reducible refine below_drewN ?_ _) | (with_reducible refine Below.setCell ?_ ?_ _) | (with_reducible refine Below.trans ?_ (Below.mono (by assumption) ?_)) | go_size | (exact Below.size (by assumption)))⟩
theorem hasInt_any (l : List Int) (x : Int) (A : Option Addr) (B c : Nat) (w : World) (hr : Rd w B A (ints l)) (hn : l.length ≤ 1048576) :
   Calls Try.prog 44 #[.slice A l.length c, .int .i64 x] w fun e w' => e = .returned (.bool (l.any (· == x))) ∧ w = w' := by
  go_enter Try.func44, Try.ntmps44
  go_wp2_with fail
  go_loop [5] (fun i => ∃ k : Nat, k ≤ l.length ∧ i = .int .i64 k ∧ (l.take k).any (· == x) = false) (fun i => l.length - (intOf i).toNat)
  case atStart => exact ⟨0, Nat.zero_le _, rfl, by simp⟩
  case round =>
    obtain ⟨k, hk, rfl, hall⟩ := hrel
    by_cases hlt : k < l.length
    · have ht := List.getElem?_eq_getElem hlt
      generalize l[k] = t at ht
      obtain ⟨b, o, rfl, _, c0⟩ := hr.int ht
      have Ht := Lib.hid ht
      have Ha := Lib.hid hall
      clear ht hall hr
      cases hb : (t == x) with
      | true =>
        have Hb := Lib.hid hb
        go_wp2
        go_ret
        exact ⟨ret_bool (by rw [Eq.comm, List.any_eq_true]; exact ⟨t, List.mem_of_getElem? Ht.out, Hb.out⟩), rfl⟩
      | false =>
        have Hb := Lib.hid hb
        go_wp2
        go_round
        case rel => exact ⟨k + 1, by omega, by go_num, by rw [any_step _ _ Ht.out, Ha.out, Hb.out]; rfl⟩
        case measure => simp [intOf]; omega
    · have hk' : k = l.length := by omega
      subst hk'
      rw [List.take_length] at hall
      have Ha := Lib.hid hall
      clear hall hr
      go_wp2
      go_ret
      exact ⟨ret_bool Ha.out.symm, rfl⟩
end Go.Proofs.Ytooifamckccadaa
namespace Go.Proofs.Ytooifamckccadaa
open Go.ChangeShapes Go.WideShapes Go.ChangeAt Go.RowKit
set_option maxRecDepth 20000
set_option linter.unusedVariables false
set_option linter.unusedSimpArgs false
set_option maxHeartbeats 8000000 in
theorem walkFnTrims (bl : List Int) (hbl : isU8 bl) (C : Option Addr) (cap : Nat) (w : World) (hr : Rd w w.heap.size C (bytesU bl)) (hlc : bl.length ≤ cap) (hm : cap ≤ maxLen) :
   Calls Try.prog 6 #[.slice C bl.length cap] w fun e w' => e = .returned (.bool true) ∧ Below w.heap.size w w' := by
  unfold maxLen at hm
  by_cases hn : bl.length ≤ 4096
  rotate_left
  · have hd : decide ((4096 : Int) < (bl.length : Int)) = true := by simp; omega
    go_enter Try.func6, Try.ntmps6
    go_wp2_with (go_at_call 18; refine (big_any _ _ _ _ (by omega)).mono ?_; rintro e w' ⟨rfl, rfl⟩)
    go_ret
    exact ⟨rfl, Below.refl _ _⟩
  have hd : decide ((4096 : Int) < (bl.length : Int)) = false := by simp; omega
  go_enter Try.func6, Try.ntmps6
  go_wp2_with fail
  refine (big_any _ _ _ _ (by omega)).mono ?_; rintro e w' ⟨rfl, rfl⟩
  go_wp2_with fail
  refine (drawLeast_any bl hbl hn C cap _ hr).mono ?_
  rintro e w0 ⟨l, A, c, f, n, x, y, m, rfl, hl, Rl, b0⟩
  clear hr hbl hd
  have z0 := b0.size
  have hl2 : l.length ≤ 1048576 := by omega
  have HI := Lib.hid (fun (w' : World) (h1 : Rd w' w0.heap.size A (l.flatMap eSegment)) (hB : w0.heap.size ≤ w'.heap.size) => leastBrakes_impl l f n x y m A w0.heap.size c w' h1 hB hl2)
  have HS := Lib.hid (fun (w' : World) (h1 : Rd w' w0.heap.size A (l.flatMap eSegment)) (hB : w0.heap.size ≤ w'.heap.size) => leastBrakes_spec l f n x y m A w0.heap.size c w' h1 hB hl2)
  have LAW := Lib.hid (fun h : (lbX l f n x y m).2 = 0 => trim_law h)
  have hXl := lbX_len l f n x y m
  generalize lbX l f n x y m = X at *
  obtain ⟨Z, K⟩ := X
  dsimp only at hXl LAW
  have Rl1 := Lib.hid ((Rl.alloc (Nat.le_refl _) (.cells #[.slice A l.length c] 26)).alloc (by simp) (.cells #[.int .i64 x, .int .i64 y] 29))
  have L1 := Lib.hid (bk_alloc (bk_new w0 #[.slice A l.length c] 26) (.cells #[.int .i64 x, .int .i64 y] 29))
  have I1 : Hid (Bk ((w0.alloc (.cells #[.slice A l.length c] 26)).alloc (.cells #[.int .i64 x, .int .i64 y] 29)) (w0.heap.size + 1) #[.int .i64 x, .int .i64 y]) := Lib.hid (by simpa using bk_new (w0.alloc (.cells #[.slice A l.length c] 26)) #[.int .i64 x, .int .i64 y] 29)
  have B1 := Lib.hid (show Below w.heap.size w ((w0.alloc (.cells #[.slice A l.length c] 26)).alloc (.cells #[.int .i64 x, .int .i64 y] 29)) from b0.trans ((((Below.refl w0.heap.size w0).alloc (Nat.le_refl _) _).alloc (by simp) _).mono z0))
  clear Rl b0
  go_wp2_with fail
  have hz1 : w0.heap.size + 1 < ((w0.alloc (.cells #[.slice A l.length c] 26)).alloc (.cells #[.int .i64 x, .int .i64 y] 29)).heap.size := by simp
  generalize ((w0.alloc (.cells #[.slice A l.length c] 26)).alloc (.cells #[.int .i64 x, .int .i64 y] 29)) = w1 at *
  refine (HI.out w1 Rl1.out (by omega)).mono ?_; rintro e w2 ⟨Ai, ci, rfl, oi, b2⟩
  dsimp only at oi
  have Ri2 := Lib.hid (Rd.of_own oi)
  have L2 := Lib.hid (bk_below L1.out b2 (by omega))
  have I2 := Lib.hid (bk_below I1.out b2 (by omega))
  have Rl2 := Lib.hid (Rl1.out.below b2 (by omega))
  have B2 := Lib.hid (B1.out.trans (b2.mono (by omega)))
  have z2 := b2.size
  obtain ⟨s0, sf, ss⟩ := bk1 L2.out
  obtain ⟨q0, q1, qf, qs⟩ := bk2 I2.out
  clear b2 oi HI L1 I1 Rl1 B1
  go_wp2_with fail
  refine (HS.out w2 Rl2.out (by omega)).mono ?_; rintro e w3 ⟨As, cs, rfl, os, b3⟩
  dsimp only at os
  have Rs3 := Lib.hid (Rd.of_own os)
  have Ri3 := Lib.hid (Ri2.out.below b3 (Nat.le_refl _))
  have L3 := Lib.hid (bk_below L2.out b3 (by omega))
  have I3 := Lib.hid (bk_below I2.out b3 (by omega))
  have Rl3 := Lib.hid (Rl2.out.below b3 (by omega))
  have B3 := Lib.hid (B2.out.trans (b3.mono (by omega)))
  have z3 := b3.size
  clear s0 sf ss q0 q1 qf qs b3 os HS L2 I2 Rl2 Ri2 B2
  go_wp2_with fail
  refine (likeInts_same Z _ _ _ _ _ _ w3 Ri3.out Rs3.out hXl).mono ?_; rintro e w4 ⟨rfl, b4⟩
  have Rs4 := Lib.hid (Rs3.out.below b4 (Nat.le_refl _))
  have L4 := Lib.hid (bk_below L3.out b4 (by omega))
  have I4 := Lib.hid (bk_below I3.out b4 (by omega))
  have Rl4 := Lib.hid (Rl3.out.below b4 (by omega))
  have B4 := Lib.hid (B3.out.trans (b4.mono (by omega)))
  have z4 := b4.size
  clear b4 L3 I3 Rl3 Ri3 Rs3 B3
  by_cases hK : K = 0
  rotate_left
  · have h5 : (K != 0) = true := by simpa using hK
    have h6 : (K == 0) = false := by simpa using hK
    go_wp2
    go_ret
    exact ⟨rfl, B4.out⟩
  obtain ⟨l1, l2, l3, l4, l5, l6⟩ := LAW.out hK
  subst hK
  clear LAW
  obtain ⟨f', n', rfl, rfl, hn24, hf, hnl⟩ := l9_nat l2
  rw [Int.toNat_natCast, Int.toNat_natCast] at l3 l5
  have hrun : runB l f' n' = true := by
    rw [l9B, Bool.and_eq_true] at l2
    exact l2.1
  obtain ⟨_, _, hl24⟩ := lay_all l1
  have HT := Lib.hid l6
  have HM := Lib.hid l5
  have HB := Lib.hid (fun (w' : World) (h : Rd w' w0.heap.size A (l.flatMap eSegment)) (hB : w0.heap.size ≤ w'.heap.size) => brakesOf_any l f' n' l1 hrun hnl l3 hl24 hf A w0.heap.size c w' h hB)
  have HA := Lib.hid (fun (on : List Int) (hon : on.length ≤ 1048576) (Ao : Option Addr) (co : Nat) (w' : World) (h : Rd w' w'.heap.size A (l.flatMap eSegment)) (h2 : Rd w' w'.heap.size Ao (ints on)) => activeAlong_impl l on f' n' x y A w'.heap.size c Ao co w' h h2 (Nat.le_refl _) hl2 hon)
  clear l1 l2 l5 l6 hn24 hf hnl hrun
  generalize brkK l f' n' l.length = Y at *
  obtain ⟨s0, sf, ss⟩ := bk1 L4.out
  go_wp2_with fail
  refine (HB.out w4 Rl4.out (by omega)).mono ?_; rintro e w5 ⟨Ab, cb, rfl, ob, b5⟩
  have Rb5 := Lib.hid (Rd.of_own ob)
  have Rs5 := Lib.hid (Rs4.out.below b5 (by omega))
  have L5 := Lib.hid (bk_below L4.out b5 (by omega))
  have I5 := Lib.hid (bk_below I4.out b5 (by omega))
  have Rl5 := Lib.hid (Rl4.out.below b5 (by omega))
  have B5 := Lib.hid (B4.out.trans (b5.mono (by omega)))
  have z5 := b5.size
  clear s0 sf ss b5 ob HB L4 I4 Rl4 Rs4 B4
  obtain ⟨i0, hi0, hz0, hz1', hz2⟩ := info_parts infoInt64
  go_wp2_with fail
  go_loopw [14, 15, 16, 17, 18, 19] (fun sv _ _ _ _ _ wr => ∃ s : Int, -1 ≤ s ∧ s ≤ Z.length ∧ sv = .int .i64 s ∧ Below w5.heap.size w5 wr) (fun sv _ _ _ _ _ _ => ((Z.length : Int) - intOf sv).toNat)
  case atStart => exact ⟨-1, by omega, by omega, rfl, Below.refl _ _⟩
  case round =>
    obtain ⟨s, hs1, hs2, rfl, hbw⟩ := hrel
    have zr := hbw.size
    have Rb6 := Lib.hid (Rb5.out.below hbw (Nat.le_refl _))
    have Rs6 := Lib.hid (Rs5.out.below hbw (by omega))
    have L6 := Lib.hid (bk_below L5.out hbw (by omega))
    have I6 := Lib.hid (bk_below I5.out hbw (by omega))
    have Rl6 := Lib.hid (Rl5.out.below hbw (by omega))
    have Bw := Lib.hid hbw
    clear hbw
    by_cases hlt : s < Z.length
    · generalize h : wr = wo at *
      clear h wr
      go_wp2_with fail
      go_loopw [15, 16] (fun v i w2 => ∃ k : Nat, k ≤ Z.length ∧ i = .int .i64 k ∧ w2.ownsRow wo.heap.size 2 1 v (skL Z s k).length (ints (skL Z s k)) ∧ Below wo.heap.size wo w2) (fun _ i _ => Z.length - (intOf i).toNat)
      case atStart => exact ⟨0, Nat.zero_le _, rfl, World.ownsRow_made (base := wo.heap.size) (e := 2) (size := 1) wo #[] 0 (Nat.le_refl _) (by simp [maxLen]) rfl, (Below.refl _ _).alloc (Nat.le_refl _) _⟩
      case round =>
        obtain ⟨k, hk, rfl, ho, hb⟩ := hrel
        have z6 := hb.size
        have hls := skL_len Z s k
        have Ho := Lib.hid ho
        have Hb := Lib.hid hb
        clear ho hb
        by_cases hlt2 : k < Z.length
        · have ht := List.getElem?_eq_getElem hlt2
          have hmem := HM.out _ (List.getElem_mem hlt2)
          generalize Z[k] = t at ht hmem
          have hany : Y.any (· == t) = true := List.any_eq_true.2 ⟨t, hmem, by simp⟩
          have hst := skL_at (s := s) ht
          have HH := hasInt_any Y t Ab _ cb wr (Rb6.out.below Hb.out (by omega)) (by omega)
          rw [hany] at HH
          have HH2 := Lib.hid HH
          obtain ⟨b, o, rfl, hbb, d0⟩ := (Rs6.out.below Hb.out (by omega)).int ht
          have j0 : (0 : Int) ≤ (k : Int) := by omega
          have j1 : (k : Int) < (Z.length : Int) := by omega
          clear ht hmem hany HH
          go_wp2_with fail
          refine HH2.out.mono ?_; rintro e w' ⟨rfl, rfl⟩
          by_cases hks : (k : Int) = s
          · have hkb : ((k : Int) != s) = false := by simpa using hks
            rw [if_pos hks, List.append_nil] at hst
            have Hst := Lib.hid hst
            clear hst hks
            go_wp2
            go_roundw
            case rel => exact ⟨k + 1, by omega, by go_num, by rw [Hst.out]; exact Ho.out, Hb.out⟩
            case measure => simp [intOf]; omega
          · have hkb : ((k : Int) != s) = true := by simpa using hks
            rw [if_neg hks] at hst
            have Hst := Lib.hid hst
            have hln : (skL Z s k).length ≤ 1048576 := by omega
            clear hst hks
            generalize skL Z s k = V at *
            go_wp2_with (at_builtin; refine wpList_append_int rfl (.tmp 89) (.tmp 94) 27 rfl wo.heap.size 2 i0 Try.underlying27 hi0 hz0 hz1' hz2 _ _ V (by rfl) Ho.out t (by rfl) hln z6 ?_; intro v5 w8 own5 hb5 hz5; have O8 := Lib.hid own5; have B8 := Lib.hid (Hb.out.trans hb5); clear own5 hb5)
            go_roundw
            case rel => exact ⟨k + 1, by omega, by go_num, by rw [Hst.out]; simpa using O8.out, B8.out⟩
            case measure => simp [intOf]; omega
        · have hk' : k = Z.length := by omega
          subst hk'
          have HTs := HT.out s hs1 hlt
          unfold okT at HTs
          have hon : (skL Z s Z.length).length ≤ 1048576 := by omega
          have HAs := fun (Ao : Option Addr) (co : Nat) (w' : World) (h : Rd w' w'.heap.size A (l.flatMap eSegment)) (h2 : Rd w' w'.heap.size Ao (ints (skL Z s Z.length))) => HA.out (skL Z s Z.length) hon Ao co w' h h2
          have hRl := alR_len l (skL Z s Z.length) f' n' x y
          generalize alR l (skL Z s Z.length) f' n' x y = R at *
          generalize alC l (skL Z s Z.length) f' n' x y = AC at *
          generalize skL Z s Z.length = V at *
          have HTs := Lib.hid HTs
          have HAs := Lib.hid HAs
          obtain ⟨Af, cf, rfl⟩ := own_val Ho.out
          have Rf := Lib.hid (Rd.of_own Ho.out)
          have L7 := Lib.hid (bk_below L6.out Hb.out (by omega))
          have I7 := Lib.hid (bk_below I6.out Hb.out (by omega))
          have Rl7 := Lib.hid ((Rl6.out.below Hb.out (by omega)).more (show w0.heap.size ≤ wr.heap.size by omega))
          have B6 := Lib.hid (Bw.out.trans (Hb.out.mono zr))
          clear Ho Hb L6 Rl6 Rb6 Rs6 I6
          obtain ⟨s0, sf, ss⟩ := bk1 L7.out
          obtain ⟨q0, q1, qf, qs⟩ := bk2 I7.out
          go_wp2_with fail
          refine (HAs.out Af cf wr Rl7.out Rf.out).mono ?_; rintro e w7 ⟨A2, c2, rfl, o7, b7⟩
          have z7 := b7.size
          have I8 := Lib.hid (bk_below I7.out b7 (by omega))
          have O7 := Lib.hid o7
          have B7 := Lib.hid (B6.out.trans (b7.mono (by omega)))
          clear s0 sf ss q0 q1 qf qs o7 b7 L7 I7 Rl7 Rf B6 HAs
          obtain ⟨q0, q1, qf, qs⟩ := bk2 I8.out
          have hqn : w0.heap.size + 1 ≠ w7.heap.size := by omega
          rcases Nat.eq_zero_or_pos R.length with h1 | h1
          · have hR : R = [] := List.eq_nil_of_length_eq_zero h1
            subst hR
            rw [lastI_nil] at HTs
            clear h1
            by_cases hA : AC = 0
            · have ha : (AC == 0) = true := by simpa using hA
              have hq : decide (y ≤ m) = decide (s < 0) := by rw [← HTs.out, ha]; rfl
              have HQ := Lib.hid hq
              clear hq HTs hA
              by_cases hs0 : s < 0
              · have e1 : y ≤ m := of_decide_eq_true (by rw [HQ.out]; exact decide_eq_true hs0)
                have e2 : decide (y ≤ m) = true := decide_eq_true e1
                have e3 : decide (s < 0) = true := decide_eq_true hs0
                clear HQ
                go_wp2
                go_roundw
                case rel => exact ⟨s + 1, by omega, by omega, by first | go_num | (exact congrArg _ (IntWalk.i64_in _ (by omega))), by have := B7.out; repeat' (first | (with_reducible exact Below.refl _ _) | (with_reducible assumption) | (with_reducible refine Below.alloc ?_ ?_ _) | (with_reducible refine Below.drew ?_) | (with_reducible refine below_drewN ?_ _) | (with_reducible refine Below.setCell ?_ ?_ _) | (with_reducible refine Below.trans ?_ (Below.mono (by assumption) ?_)) | go_size | (exact Below.size (by assumption)))⟩
                case measure => simp [intOf]; omega

              · have e1 : ¬ y ≤ m := of_decide_eq_false (by rw [HQ.out]; exact decide_eq_false hs0)
                have e2 : decide (y ≤ m) = false := decide_eq_false e1
                have e3 : decide (s < 0) = false := decide_eq_false hs0
                clear HQ
                go_wp2
                go_roundw
                case rel => exact ⟨s + 1, by omega, by omega, by first | go_num | (exact congrArg _ (IntWalk.i64_in _ (by omega))), by have := B7.out; repeat' (first | (with_reducible exact Below.refl _ _) | (with_reducible assumption) | (with_reducible refine Below.alloc ?_ ?_ _) | (with_reducible refine Below.drew ?_) | (with_reducible refine below_drewN ?_ _) | (with_reducible refine Below.setCell ?_ ?_ _) | (with_reducible refine Below.trans ?_ (Below.mono (by assumption) ?_)) | go_size | (exact Below.size (by assumption)))⟩
                case measure => simp [intOf]; omega

            · have ha : (AC == 0) = false := by simpa using hA
              have hq : false = decide (s < 0) := by rw [← HTs.out, ha]; rfl
              have hs0 : ¬ s < 0 := of_decide_eq_false hq.symm
              have e3 : decide (s < 0) = false := hq.symm
              clear hq HTs hA
              go_wp2
              go_roundw
              case rel => exact ⟨s + 1, by omega, by omega, by first | go_num | (exact congrArg _ (IntWalk.i64_in _ (by omega))), by have := B7.out; repeat' (first | (with_reducible exact Below.refl _ _) | (with_reducible assumption) | (with_reducible refine Below.alloc ?_ ?_ _) | (with_reducible refine Below.drew ?_) | (with_reducible refine below_drewN ?_ _) | (with_reducible refine Below.setCell ?_ ?_ _) | (with_reducible refine Below.trans ?_ (Below.mono (by assumption) ?_)) | go_size | (exact Below.size (by assumption)))⟩
              case measure => simp [intOf]; omega

          · obtain ⟨nR, hnR⟩ : ∃ nR, R.length = nR + 1 := ⟨R.length - 1, by omega⟩
            have hla := lastI_pos (e := (x, y)) hnR
            generalize lastI (x, y) R = last at *
            obtain ⟨la, lb⟩ := last
            obtain ⟨bb6, oo6, rfl, hb66, m0, m1⟩ := (Rd.of_own O7.out).atInterval hla
            dsimp only at HTs m0 m1
            have hne : bb6 ≠ w7.heap.size := by omega
            have hne2 : w7.heap.size ≠ bb6 := by omega
            have hp : decide ((0 : Int) < (R.length : Int)) = true := by simp; omega
            have hp2 : (0 : Int) < (R.length : Int) := by omega
            have r0 : IntKind.i64.wrap ((R.length : Int) - 1) = (nR : Int) := by rw [hnR, show ((nR + 1 : Nat) : Int) - 1 = (nR : Int) by omega]; exact IntWalk.i64_in _ (by omega)
            have r1 : (R.length : Int) - 1 = (nR : Int) := by omega
            have r2 : (0 : Int) ≤ (nR : Int) := by omega
            have r3 : (nR : Int) < (R.length : Int) := by omega
            clear hla hnR h1
            by_cases hA : AC = 0
            · have ha : (AC == 0) = true := by simpa using hA
              have hq : decide (lb ≤ m) = decide (s < 0) := by rw [← HTs.out, ha]; rfl
              have HQ := Lib.hid hq
              clear hq HTs hA
              by_cases hs0 : s < 0
              · have e1 : lb ≤ m := of_decide_eq_true (by rw [HQ.out]; exact decide_eq_true hs0)
                have e2 : decide (lb ≤ m) = true := decide_eq_true e1
                have e3 : decide (s < 0) = true := decide_eq_true hs0
                clear HQ
                go_wp2
                go_roundw
                case rel => exact ⟨s + 1, by omega, by omega, by first | go_num | (exact congrArg _ (IntWalk.i64_in _ (by omega))), by have := B7.out; repeat' (first | (with_reducible exact Below.refl _ _) | (with_reducible assumption) | (with_reducible refine Below.alloc ?_ ?_ _) | (with_reducible refine Below.drew ?_) | (with_reducible refine below_drewN ?_ _) | (with_reducible refine Below.setCell ?_ ?_ _) | (with_reducible refine Below.trans ?_ (Below.mono (by assumption) ?_)) | go_size | (exact Below.size (by assumption)))⟩
                case measure => simp [intOf]; omega

              · have e1 : ¬ lb ≤ m := of_decide_eq_false (by rw [HQ.out]; exact decide_eq_false hs0)
                have e2 : decide (lb ≤ m) = false := decide_eq_false e1
                have e3 : decide (s < 0) = false := decide_eq_false hs0
                clear HQ
                go_wp2
                go_roundw
                case rel => exact ⟨s + 1, by omega, by omega, by first | go_num | (exact congrArg _ (IntWalk.i64_in _ (by omega))), by have := B7.out; repeat' (first | (with_reducible exact Below.refl _ _) | (with_reducible assumption) | (with_reducible refine Below.alloc ?_ ?_ _) | (with_reducible refine Below.drew ?_) | (with_reducible refine below_drewN ?_ _) | (with_reducible refine Below.setCell ?_ ?_ _) | (with_reducible refine Below.trans ?_ (Below.mono (by assumption) ?_)) | go_size | (exact Below.size (by assumption)))⟩
                case measure => simp [intOf]; omega

            · have ha : (AC == 0) = false := by simpa using hA
              have hq : false = decide (s < 0) := by rw [← HTs.out, ha]; rfl
              have hs0 : ¬ s < 0 := of_decide_eq_false hq.symm
              have e3 : decide (s < 0) = false := hq.symm
              clear hq HTs hA
              go_wp2
              go_roundw
              case rel => exact ⟨s + 1, by omega, by omega, by first | go_num | (exact congrArg _ (IntWalk.i64_in _ (by omega))), by have := B7.out; repeat' (first | (with_reducible exact Below.refl _ _) | (with_reducible assumption) | (with_reducible refine Below.alloc ?_ ?_ _) | (with_reducible refine Below.drew ?_) | (with_reducible refine below_drewN ?_ _) | (with_reducible refine Below.setCell ?_ ?_ _) | (with_reducible refine Below.trans ?_ (Below.mono (by assumption) ?_)) | go_size | (exact Below.size (by assumption)))⟩
              case measure => simp [intOf]; omega

    · go_wp2
      go_ret
      exact ⟨rfl, B5.out.trans (Bw.out.mono (by have := B5.out.size; omega))⟩
end Go.Proofs.Ytooifamckccadaa
