/- Draws of a lock and of what may operate; the law on lockouts. -/
import Derived.Test.YtmbchcenclfjoaaLo
import Derived.Test.YtmbchcenclfjoaaMo
namespace Go.Proofs.Ytmbchcenclfjoaa
open Go.ChangeShapes Go.WideShapes Go.ChangeAt Go.RowKit
set_option maxRecDepth 20000
set_option linter.unusedVariables false
set_option linter.unusedSimpArgs false
def LockP (w0 : World) (g B : Nat) (C : Option Addr) (cap : Nat) (bl : List Int) (e : Ending) (w' : World) : Prop :=
  ∃ (l : List (Int × Int)) (A : Option Addr) (c : Nat) (d o : Int), e = .returned (.tuple #[.slice A l.length c, .int .i64 d, .int .i64 o]) ∧ (∀ t ∈ l, lOk t) ∧ l.length ≤ 14 ∧ w'.ownsRow w0.heap.size 75 2 (.slice A l.length c) l.length (l.flatMap eLock) ∧ DS w0 w' g B C cap bl
set_option maxHeartbeats 1000000 in
theorem l29DrawLock_any (w0 : World) (g B : Nat) (C : Option Addr) (cap : Nat) (bl : List Int) (h : DS w0 w0 g B C cap bl) :
   Calls Try.prog 83 #[.pointer (some ⟨g, 0, none⟩)] w0 (LockP w0 g B C cap bl) := by
  have hg0 := h.size.2
  have H := Lib.hid h
  clear h
  go_enter Try.func83, Try.ntmps83
  go_wp2_with fail
  refine (l29DrawLocks_any w0 g B C cap bl H.out).mono ?_
  rintro e w1 ⟨l, A, c, rfl, hok, hl, o1, d1⟩
  have O1 := Lib.hid o1
  have D1 := Lib.hid d1
  have Hok := Lib.hid hok
  clear o1 d1 hok
  by_cases hpos : 0 < l.length
  · have hli : (0 : Int) < (l.length : Int) := by omega
    go_wp2_with fail
    refine (next_ds D1.out 2).mono ?_
    rintro e w2 ⟨x, rfl, x0, x1, d2, g2⟩
    have O2 := Lib.hid (DS.own O1.out g2 hg0)
    have D2 := Lib.hid d2
    clear d2 g2 x1
    by_cases hx0 : x = 0
    · subst hx0
      go_wp2_with fail
      refine (next_ds D2.out (l.length : Int)).mono ?_
      rintro e w3 ⟨y, rfl, y0, y1, d3, g3⟩
      have o3 := DS.own O2.out g3 hg0
      have O3 := Lib.hid o3
      obtain ⟨i, rfl⟩ : ∃ i : Nat, y = i := ⟨y.toNat, by omega⟩
      have hi : i < l.length := by omega
      have ht := List.getElem?_eq_getElem hi
      generalize l[i] = t at ht
      obtain ⟨bb, o, rfl, hbb, c0, c1⟩ := (Rd.of_own o3).atLock ht
      have D3 := Lib.hid d3
      have hs3 := d3.size.1
      have hi0 : (0 : Int) ≤ (i : Int) := by omega
      have hi1 : (i : Int) < (l.length : Int) := by omega
      clear o3 d3 g3 ht y1
      go_wp2_with fail
      go_quiet (fail)
      go_wp2
      go_ret3
      exact ⟨l, _, c, _, _, rfl, Hok.out, hl, own_drewN (O3.out.alloc _) _, by
        have h := D3.out.alloc (.cells #[.int .i64 t.1, .int .i64 t.2] 75)
        exact ⟨h.1, h.2.1, grownBy_drewN h.2.2.1 _, h.2.2.2⟩⟩
    · have b0 : (x == 0) = false := by rw [beq_eq_false_iff_ne]; exact hx0
      go_wp2_with fail
      refine (next_ds D2.out 12).mono ?_
      rintro e w4 ⟨y, rfl, y0, y1, d4, g4⟩
      have O4 := Lib.hid (DS.own O2.out g4 hg0)
      have D4 := Lib.hid d4
      clear d4 g4 y1
      by_cases hy : y = 0
      · subst hy
        go_wp2_with fail
        refine (pick_ds D4.out [-1, 24, 0] 3 _ (by rfl) _ (by rfl) rfl (by omega) (by omega)).mono ?_
        rintro e w5 ⟨z, rfl, hz, d5, g5⟩
        have O5 := Lib.hid (DS.own (O4.out.alloc _) g5 hg0)
        have D5 := Lib.hid d5
        clear hz d5 g5
        go_wp2_with fail
        refine (pick_ds D5.out [0, 1000, 1] 3 _ (by rfl) _ (by rfl) rfl (by omega) (by omega)).mono ?_
        rintro e w6 ⟨u, rfl, hu, d6, g6⟩
        have O6 := Lib.hid (DS.own (O5.out.alloc _) g6 hg0)
        have D6 := Lib.hid d6
        clear hu d6 g6
        go_wp2
        go_ret3
        exact ⟨l, A, c, _, _, rfl, Hok.out, hl, O6.out, D6.out⟩
      · have b3 : (y == 0) = false := by rw [beq_eq_false_iff_ne]; exact hy
        go_wp2_with fail
        refine (next_ds D4.out 8).mono ?_
        rintro e w5 ⟨z, rfl, z0, z1, d5, g5⟩
        have O5 := Lib.hid (DS.own O4.out g5 hg0)
        have D5 := Lib.hid d5
        clear d5 g5
        go_wp2_with fail
        refine (next_ds D5.out 9).mono ?_
        rintro e w6 ⟨u, rfl, u0, u1, d6, g6⟩
        have O6 := Lib.hid (DS.own O5.out g6 hg0)
        have D6 := Lib.hid d6
        clear d6 g6
        go_wp2
        go_ret3
        exact ⟨l, A, c, _, _, rfl, Hok.out, hl, O6.out, D6.out⟩
  · have hd : decide (0 < l.length) = false := by simpa using hpos
    have O2 := O1
    have D2 := D1
    go_wp2_with fail
    refine (next_ds D2.out 12).mono ?_
    rintro e w4 ⟨y, rfl, y0, y1, d4, g4⟩
    have O4 := Lib.hid (DS.own O2.out g4 hg0)
    have D4 := Lib.hid d4
    clear d4 g4 y1
    by_cases hy : y = 0
    · subst hy
      go_wp2_with fail
      refine (pick_ds D4.out [-1, 24, 0] 3 _ (by rfl) _ (by rfl) rfl (by omega) (by omega)).mono ?_
      rintro e w5 ⟨z, rfl, hz, d5, g5⟩
      have O5 := Lib.hid (DS.own (O4.out.alloc _) g5 hg0)
      have D5 := Lib.hid d5
      clear hz d5 g5
      go_wp2_with fail
      refine (pick_ds D5.out [0, 1000, 1] 3 _ (by rfl) _ (by rfl) rfl (by omega) (by omega)).mono ?_
      rintro e w6 ⟨u, rfl, hu, d6, g6⟩
      have O6 := Lib.hid (DS.own (O5.out.alloc _) g6 hg0)
      have D6 := Lib.hid d6
      clear hu d6 g6
      go_wp2
      go_ret3
      exact ⟨l, A, c, _, _, rfl, Hok.out, hl, O6.out, D6.out⟩
    · have b3 : (y == 0) = false := by rw [beq_eq_false_iff_ne]; exact hy
      go_wp2_with fail
      refine (next_ds D4.out 8).mono ?_
      rintro e w5 ⟨z, rfl, z0, z1, d5, g5⟩
      have O5 := Lib.hid (DS.own O4.out g5 hg0)
      have D5 := Lib.hid d5
      clear d5 g5
      go_wp2_with fail
      refine (next_ds D5.out 9).mono ?_
      rintro e w6 ⟨u, rfl, u0, u1, d6, g6⟩
      have O6 := Lib.hid (DS.own O5.out g6 hg0)
      have D6 := Lib.hid d6
      clear d6 g6
      go_wp2
      go_ret3
      exact ⟨l, A, c, _, _, rfl, Hok.out, hl, O6.out, D6.out⟩
def AddP (w0 : World) (e : Ending) (w' : World) : Prop :=
  ∃ (l : List (Int × Int)) (A : Option Addr) (c : Nat) (d o : Int), e = .returned (.tuple #[.slice A l.length c, .int .i64 d, .int .i64 o]) ∧ (∀ t ∈ l, lOk t) ∧ l.length ≤ 14 ∧ w'.ownsRow w0.heap.size 75 2 (.slice A l.length c) l.length (l.flatMap eLock) ∧ Below w0.heap.size w0 w'
theorem drawAdd_any (bl : List Int) (hbl : isU8 bl) (hn : bl.length ≤ 4096) (C : Option Addr) (B cap : Nat) (w0 : World) (hr : Rd w0 B C (bytesU bl)) (hB : B ≤ w0.heap.size) :
   Calls Try.prog 49 #[.slice C bl.length cap] w0 (AddP w0) := by
  have Hr := Lib.hid hr
  clear hr
  go_enter Try.func49, Try.ntmps49
  go_wp2_with fail
  refine (l01From_any bl hbl hn C B cap w0 Hr.out hB).mono ?_
  rintro e w1 ⟨rfl, hs1, hb1, hz1⟩
  have d1 := DS.start (Hr.out.below hb1 hB) hs1 hB hbl hn
  have Hb1 := Lib.hid hb1
  clear hb1 hs1 hbl
  go_wp2_with fail
  refine (l29DrawLock_any w1 _ _ _ _ _ d1).mono ?_
  rintro e w2 ⟨l, A, c, d, o, rfl, hok, hl, o2, d2⟩
  have hb6 := below_of_grownBy (B := w0.heap.size) d2.2.2.1 (by omega) (fun k hk => by injection hk with hk; omega)
  have Hb6 := Lib.hid (Hb1.out.trans hb6)
  have O2 := Lib.hid o2
  have Hok := Lib.hid hok
  clear d1 d2 hb6 o2 hok
  go_wp2
  go_ret3
  exact ⟨l, A, c, d, o, rfl, Hok.out, hl, own_more O2.out (by omega), Hb6.out⟩
def MayP (w0 : World) (e : Ending) (w' : World) : Prop :=
  ∃ (p l : List (Int × Int)) (A A' : Option Addr) (c c' : Nat) (day : Int), e = .returned (.tuple #[.slice A p.length c, .slice A' l.length c', .int .i64 day]) ∧ p.length ≤ 14 ∧ l.length ≤ 14 ∧ w'.ownsRow w0.heap.size 65 2 (.slice A p.length c) p.length (p.flatMap eTask) ∧ w'.ownsRow w0.heap.size 75 2 (.slice A' l.length c') l.length (l.flatMap eLock) ∧ Below w0.heap.size w0 w'
theorem drawMay_any (bl : List Int) (hbl : isU8 bl) (hn : bl.length ≤ 4096) (C : Option Addr) (B cap : Nat) (w0 : World) (hr : Rd w0 B C (bytesU bl)) (hB : B ≤ w0.heap.size) :
   Calls Try.prog 50 #[.slice C bl.length cap] w0 (MayP w0) := by
  have Hr := Lib.hid hr
  clear hr
  go_enter Try.func50, Try.ntmps50
  go_wp2_with fail
  refine (l01From_any bl hbl hn C B cap w0 Hr.out hB).mono ?_
  rintro e w1 ⟨rfl, hs1, hb1, hz1⟩
  have d1 := DS.start (Hr.out.below hb1 hB) hs1 hB hbl hn
  have Hb1 := Lib.hid hb1
  clear hb1 hs1 hbl
  go_wp2_with fail
  refine (l29Draw_any w1 _ _ _ _ _ d1).mono ?_
  rintro e w2 ⟨p, A, c, rfl, hok, hp, o2, d2⟩
  have Hok := Lib.hid hok
  have hs2 := d2.size.1
  have O2 := Lib.hid o2
  clear o2 hok d1
  go_wp2_with fail
  refine (l29DrawLocks_any w2 _ _ _ _ _ d2.again).mono ?_
  rintro e w3 ⟨l, A', c', rfl, _, hl, ol3, d3⟩
  have O3 := Lib.hid (DS.own O2.out d3.2.2.1 hz1)
  have L3 := Lib.hid ol3
  have d3' := d2.join d3
  have hs3 := d3'.size.1
  have hg2 : w0.heap.size < w2.heap.size := by omega
  clear d2 d3 ol3
  go_wp2_with fail
  refine (next_ds d3' 3).mono ?_
  rintro e w4 ⟨x, rfl, x0, x1, d4, g4⟩
  have O4 := Lib.hid (DS.own O3.out g4 hz1)
  have L4 := Lib.hid (DS.own L3.out g4 hg2)
  have hs4 := d4.size.1
  clear d3' g4 x1
  by_cases hx : 0 < x
  · go_wp2_with fail
    refine (l29DrawDay_any w4 _ _ _ _ _ d4.again p Hok.out (by omega) A c w1.heap.size hz1 O4.out).mono ?_
    rintro e w5 ⟨z, rfl, z0, z1, d5⟩
    have d6 := d4.join d5
    have O5 := Lib.hid (DS.own O4.out d5.2.2.1 hz1)
    have hb6 := below_of_grownBy (B := w0.heap.size) d6.2.2.1 (by omega) (fun k hk => by injection hk with hk; omega)
    have Hb6 := Lib.hid (Hb1.out.trans hb6)
    clear d4 d5 d6 hb6
    go_wp2
    go_ret3
    exact ⟨p, [], A, none, c, 0, z, rfl, hp, by simp, own_more O5.out (by omega), World.ownsRow_nil _ _ _ _, Hb6.out⟩
  · go_wp2_with fail
    refine (l29DrawDay_any w4 _ _ _ _ _ d4.again p Hok.out (by omega) A c w1.heap.size hz1 O4.out).mono ?_
    rintro e w5 ⟨z, rfl, z0, z1, d5⟩
    have d6 := d4.join d5
    have O5 := Lib.hid (DS.own O4.out d5.2.2.1 hz1)
    have L5 := Lib.hid (DS.own L4.out d5.2.2.1 hg2)
    have hb6 := below_of_grownBy (B := w0.heap.size) d6.2.2.1 (by omega) (fun k hk => by injection hk with hk; omega)
    have Hb6 := Lib.hid (Hb1.out.trans hb6)
    clear d4 d5 d6 hb6
    go_wp2
    go_ret3
    exact ⟨p, l, A, A', c, c', z, rfl, hp, hl, own_more O5.out (by omega), own_more L5.out (by omega), Hb6.out⟩
theorem likeLocks_same (l : List (Int × Int)) (A A' : Option Addr) (B B' c c' : Nat) (w : World) (hr : Rd w B A (l.flatMap eLock)) (hr2 : Rd w B' A' (l.flatMap eLock)) (hn : l.length ≤ 1048576) :
   Calls Try.prog 51 #[.slice A l.length c, .slice A' l.length c'] w fun e w' => e = .returned (.bool true) ∧ Below w.heap.size w w' := by
  go_enter Try.func51, Try.ntmps51
  go_wp2_with fail
  go_loopw [5] (fun i wr => ∃ k : Nat, k ≤ l.length ∧ i = .int .i64 k ∧ ∃ q, wr = w.drewN q) (fun i _ => l.length - (intOf i).toNat)
  case atStart => exact ⟨0, Nat.zero_le _, rfl, 0, rfl⟩
  case round =>
    obtain ⟨k, hk, rfl, q, rfl⟩ := hrel
    by_cases hlt : k < l.length
    · have ht := List.getElem?_eq_getElem hlt
      generalize l[k] = t at ht
      obtain ⟨b, o, rfl, _, c0, c1⟩ := hr.atLock ht
      obtain ⟨b2, o2, rfl, _, d0, d1⟩ := hr2.atLock ht
      clear ht hr hr2
      go_wp2_with fail
      go_quiet (fail)
      go_wp2
      go_roundw
      case rel => exact ⟨k + 1, by omega, by go_num, _, rfl⟩
      case measure => simp [intOf]; omega
    · have hk' : k = l.length := by omega
      subst hk'
      clear hr hr2
      go_wp2
      go_ret
      exact ⟨rfl, by repeat' (first | (with_reducible exact Below.refl _ _) | (with_reducible assumption) | (with_reducible refine Below.alloc ?_ ?_ _) | (with_reducible refine Below.drew ?_) | (with_reducible refine below_drewN ?_ _) | (with_reducible refine Below.setCell ?_ ?_ _) | (with_reducible refine Below.trans ?_ (Below.mono (by assumption) ?_)) | go_size | (exact Below.size (by assumption)))⟩
/-! ### the law -/
theorem locksUp_append (l : List (Int × Int)) (t : Int × Int) : ∀ k, k ≤ l.length → locksUp (l ++ [t]) k = locksUp l k
  | 0, _ => rfl
  | k + 1, h => by
    have hk : k < l.length := by omega
    have h1 : (l ++ [t])[k]? = l[k]? := List.getElem?_append_left hk
    have h2 := List.getElem?_eq_getElem hk
    rw [locksUp_step (h1.trans h2), locksUp_step h2, locksUp_append l t k (by omega)]
    unfold okLk
    rw [List.take_append_of_le_length (by omega)]
theorem locksB_add {l : List (Int × Int)} {d o : Int} (h : addC l d o = 0) : locksB (l ++ [(d, o)]) = true ∧ lcC (l ++ [(d, o)]) d o = 0 ∧ l.any (· == (d, o)) = false := by
  rcases add_cases l d o with ⟨r, h0, _, h1, _⟩ | ⟨_, _, h1, _⟩ | ⟨_, _, _, h1, _⟩ | ⟨hc, ha, h8, _, _⟩
  · exact absurd (h1.symm.trans h) h0
  · rw [h1] at h; omega
  · rw [h1] at h; omega
  · have hlk : locksB l = true ∧ lockB (d, o) = true := by
      unfold lcC at hc
      split at hc
      · rename_i h1
        split at hc
        · rename_i h2; exact ⟨h1, h2⟩
        · omega
      · omega
    have hup : locksUp l l.length = true := by
      have := hlk.1
      unfold locksB at this
      simp only [Bool.and_eq_true] at this
      exact this.1
    have hb : locksB (l ++ [(d, o)]) = true := by
      unfold locksB
      have he : (l ++ [(d, o)]).length = l.length + 1 := by simp
      have h3 : (l ++ [(d, o)])[l.length]? = some (d, o) := by simp
      rw [he, locksUp_step h3, locksUp_append l (d, o) _ (Nat.le_refl _), hup]
      unfold okLk
      rw [List.take_left' rfl, ha, hlk.2]
      simp
      omega
    exact ⟨hb, by simp [lcC, hb, hlk.2], ha⟩
theorem rem_back {l : List (Int × Int)} {d o : Int} (h : addC l d o = 0) (hn : l.length ≤ 1048575) : addR l d o = l ++ [(d, o)] ∧ remC (l ++ [(d, o)]) d o = 0 ∧ remR (l ++ [(d, o)]) d o = l := by
  obtain ⟨hb, hc, ha⟩ := locksB_add h
  have hr : addR l d o = l ++ [(d, o)] := if_pos h
  have hx : idxB (· == (d, o)) (l ++ [(d, o)]) = (l.length : Int) := idxB_here (t := (d, o)) _ _ (by simp) (by rw [List.take_left' rfl]; exact ha) (by simp)
  rcases rem_cases (l ++ [(d, o)]) d o (by simp; omega) with ⟨r, h0, h1, _⟩ | ⟨_, h1, _⟩ | ⟨q, _, hq, _, h2, h3⟩
  · exact absurd (h1.symm.trans hc) h0
  · rw [List.any_append] at h1
    simp at h1
  · have hq' : q = l.length := by rw [hx] at hq; omega
    subst hq'
    exact ⟨hr, h2, by rw [h3, List.eraseIdx_eq_take_drop_succ, List.take_left' rfl, List.drop_of_length_le (by simp), List.append_nil]⟩
theorem rem_of_5 {l : List (Int × Int)} {d o : Int} (h : addC l d o = 5) (hn : l.length ≤ 1048576) : remC l d o = 0 ∧ (remR l d o).length + 1 = l.length := by
  rcases add_cases l d o with ⟨r, h0, hc, h1, _⟩ | ⟨hc, ha, h1, _⟩ | ⟨_, _, _, h1, _⟩ | ⟨_, _, _, h1, _⟩
  · have := lcC_12 hc h0
    rw [h1] at h
    omega
  · rcases rem_cases l d o hn with ⟨r, h0, h1, _⟩ | ⟨_, h1, _⟩ | ⟨q, _, hq, hlt, h2, h3⟩
    · exact absurd (h1.symm.trans hc) h0
    · rw [ha] at h1; cases h1
    · exact ⟨h2, by rw [h3, List.length_eraseIdx_of_lt hlt]; omega⟩
  · rw [h1] at h; omega
  · rw [h1] at h; omega
set_option maxHeartbeats 2000000 in
theorem walkFnLockouts (bl : List Int) (hbl : isU8 bl) (C : Option Addr) (cap : Nat) (w : World) (hr : Rd w w.heap.size C (bytesU bl)) (hlc : bl.length ≤ cap) (hm : cap ≤ maxLen) :
   Calls Try.prog 12 #[.slice C bl.length cap] w fun e w' => e = .returned (.bool true) ∧ Below w.heap.size w w' := by
  unfold maxLen at hm
  by_cases hn : bl.length ≤ 4096
  rotate_left
  · have hd : decide ((4096 : Int) < (bl.length : Int)) = true := by simp; omega
    go_enter Try.func12, Try.ntmps12
    go_wp2_with (go_at_call 44; refine (big_any _ _ _ _ (by omega)).mono ?_; rintro e w' ⟨rfl, rfl⟩)
    go_ret
    exact ⟨rfl, Below.refl _ _⟩
  have hd : decide ((4096 : Int) < (bl.length : Int)) = false := by simp; omega
  go_enter Try.func12, Try.ntmps12
  go_wp2_with fail
  refine (big_any _ _ _ _ (by omega)).mono ?_; rintro e w' ⟨rfl, rfl⟩
  go_wp2_with fail
  refine (drawAdd_any bl hbl hn C _ cap _ hr (Nat.le_refl _)).mono ?_
  rintro e w0 ⟨l, A, c, d, o, rfl, hok, hl, o0, b0⟩
  have Rl := Rd.of_own o0
  have kl := own_cap o0
  have ml := own_capmax o0 trivial
  have Rb := hr.step b0
  clear o0 hok hr hd
  have hn2 : l.length ≤ 1048576 := by omega
  have hal := addR_len l d o
  have hrl := remR_len l d o hn2
  go_wp2_with fail
  refine (add_impl l d o A _ c _ Rl (Nat.le_refl _) hn2 kl).mono ?_; rintro e w1 ⟨Ax, cx, rfl, ox, b1⟩
  replace Rl := Rl.step b1
  replace Rb := Rb.step b1
  have Rx := Rd.of_own ox
  have kx := own_cap ox
  have mx := own_capmax ox trivial
  clear ox
  go_wp2_with fail
  refine (add_spec l d o A _ c _ Rl (Nat.le_refl _) hn2 kl).mono ?_; rintro e w2 ⟨Am, cm, rfl, om, b2⟩
  replace Rl := Rl.step b2
  replace Rb := Rb.step b2
  replace Rx := Rx.step b2
  have Rm := Rd.of_own om
  clear om
  go_wp2_with fail
  refine (rem_impl l d o A _ c _ Rl (Nat.le_refl _) hn2 kl ml).mono ?_; rintro e w3 ⟨Ay, cy, rfl, oy, b3⟩
  replace Rl := Rl.step b3
  replace Rb := Rb.step b3
  replace Rx := Rx.step b3
  replace Rm := Rm.step b3
  have Ry := Rd.of_own oy
  clear oy
  go_wp2_with fail
  refine (rem_spec l d o A _ c _ Rl (Nat.le_refl _) hn2 kl ml).mono ?_; rintro e w4 ⟨Ar, cr, rfl, orr, b4⟩
  replace Rl := Rl.step b4
  replace Rb := Rb.step b4
  replace Rx := Rx.step b4
  replace Rm := Rm.step b4
  replace Ry := Ry.step b4
  have Rrr := Rd.of_own orr
  clear orr
  go_wp2_with fail
  refine (drawMay_any bl hbl hn C _ cap _ Rb (Nat.le_refl _)).mono ?_; rintro e w5 ⟨p, l2, Ap, Al, cp, cl, day, rfl, hp14, hl14, op, ol, b5⟩
  replace Rl := Rl.step b5
  replace Rb := Rb.step b5
  replace Rx := Rx.step b5
  replace Rm := Rm.step b5
  replace Ry := Ry.step b5
  replace Rrr := Rrr.step b5
  have Rp := Rd.of_own op
  have Rl2 := Rd.of_own ol
  have kl2 := own_cap ol
  clear op ol
  have hn3 : p.length ≤ 1048576 := by omega
  have hn4 : l2.length ≤ 1048576 := by omega
  go_wp2_with fail
  refine (likeLocks_same (addR l d o) Ax Am _ _ _ _ _ Rx Rm hal).mono ?_; rintro e w6 ⟨rfl, b6⟩
  replace Rl := Rl.step b6
  replace Rb := Rb.step b6
  replace Rx := Rx.step b6
  replace Rm := Rm.step b6
  replace Ry := Ry.step b6
  replace Rrr := Rrr.step b6
  replace Rp := Rp.step b6
  replace Rl2 := Rl2.step b6
  go_wp2_with fail
  refine (likeLocks_same (remR l d o) Ay Ar _ _ _ _ _ Ry Rrr hrl).mono ?_; rintro e w7 ⟨rfl, b7⟩
  replace Rl := Rl.step b7
  replace Rb := Rb.step b7
  replace Rx := Rx.step b7
  replace Rm := Rm.step b7
  replace Ry := Ry.step b7
  replace Rrr := Rrr.step b7
  replace Rp := Rp.step b7
  replace Rl2 := Rl2.step b7
  go_wp2_with fail
  refine (may_impl p l2 day Ap Al _ cp cl _ Rp Rl2 (Nat.le_refl _) hn3 kl2 hn4).mono ?_; rintro e w8 ⟨rfl, b8⟩
  replace Rl := Rl.step b8
  replace Rb := Rb.step b8
  replace Rx := Rx.step b8
  replace Rm := Rm.step b8
  replace Ry := Ry.step b8
  replace Rrr := Rrr.step b8
  replace Rp := Rp.step b8
  replace Rl2 := Rl2.step b8
  go_wp2_with fail
  refine (may_spec p l2 day Ap Al _ cp cl _ Rp Rl2 (Nat.le_refl _) hn3 hn4).mono ?_; rintro e w9 ⟨rfl, b9⟩
  replace Rl := Rl.step b9
  replace Rb := Rb.step b9
  replace Rx := Rx.step b9
  replace Rm := Rm.step b9
  replace Ry := Ry.step b9
  replace Rrr := Rrr.step b9
  replace Rp := Rp.step b9
  replace Rl2 := Rl2.step b9
  go_wp2_with fail
  refine (areLocks_impl l A _ c _ Rl (Nat.le_refl _) kl hn2).mono ?_; rintro e w10 ⟨rfl, b10⟩
  replace Rl := Rl.step b10
  replace Rb := Rb.step b10
  replace Rx := Rx.step b10
  replace Rm := Rm.step b10
  replace Ry := Ry.step b10
  replace Rrr := Rrr.step b10
  replace Rp := Rp.step b10
  replace Rl2 := Rl2.step b10
  go_wp2_with fail
  refine (areLocks_spec l A _ c _ Rl (Nat.le_refl _) hn2).mono ?_; rintro e w11 ⟨rfl, b11⟩
  replace Rl := Rl.step b11
  replace Rb := Rb.step b11
  replace Rx := Rx.step b11
  replace Rm := Rm.step b11
  replace Ry := Ry.step b11
  replace Rrr := Rrr.step b11
  replace Rp := Rp.step b11
  replace Rl2 := Rl2.step b11
  have z0 := b0.size
  have z1 := b1.size
  have z2 := b2.size
  have z3 := b3.size
  have z4 := b4.size
  have z5 := b5.size
  have z6 := b6.size
  have z7 := b7.size
  have z8 := b8.size
  have z9 := b9.size
  have z10 := b10.size
  have z11 := b11.size
  have hbel : Below w.heap.size w w11 := (((((((((((b0.trans (b1.mono (by omega))).trans (b2.mono (by omega))).trans (b3.mono (by omega))).trans (b4.mono (by omega))).trans (b5.mono (by omega))).trans (b6.mono (by omega))).trans (b7.mono (by omega))).trans (b8.mono (by omega))).trans (b9.mono (by omega))).trans (b10.mono (by omega))).trans (b11.mono (by omega)))
  have Hbel := Lib.hid hbel
  clear hbel b0 b1 b2 b3 b4 b5 b6 b7 b8 b9 b10 b11
  by_cases h0 : addC l d o = 0
  · have g2 : (addC l d o != 0) = false := by simp [h0]
    obtain ⟨hx1, hx2, hx3⟩ := rem_back h0 (by omega)
    obtain ⟨hb1, _, _⟩ := locksB_add h0
    have hmay : mayB p (l ++ [(d, o)]) day = false := by simp [mayB]
    rw [hx1] at Rx kx hal
    rw [hx1]
    have hl9 : (l ++ [(d, o)]).length ≤ 1048576 := by simp; omega
    have X2 := Lib.hid hx2
    have X3 := Lib.hid hx3
    have HB := Lib.hid hb1
    have HM := Lib.hid hmay
    clear hx1 hx2 hx3 hb1 hmay h0
    generalize hgl : l ++ [(d, o)] = x at *
    clear hgl
    go_wp2_with fail
    refine (rem_impl x d o Ax _ cx _ Rx (Nat.le_refl _) hl9 kx mx).mono ?_; rintro e w20 ⟨Ab, cb, rfl, ob, b20⟩
    rw [X2.out, X3.out]
    rw [X3.out] at ob
    have z20 := b20.size
    have Rb2 := Rd.of_own ob
    replace Rl := Rl.step b20
    replace Rx := Rx.step b20
    replace Rp := Rp.step b20
    clear ob
    go_wp2_with fail
    refine (likeLocks_same l Ab A _ _ _ _ _ Rb2 Rl hn2).mono ?_; rintro e w21 ⟨rfl, b21⟩
    have z21 := b21.size
    replace Rx := Rx.step b21
    replace Rp := Rp.step b21
    go_wp2_with fail
    refine (areLocks_impl x Ax _ cx _ Rx (Nat.le_refl _) kx hl9).mono ?_; rintro e w22 ⟨rfl, b22⟩
    rw [HB.out]
    have z22 := b22.size
    replace Rx := Rx.step b22
    replace Rp := Rp.step b22
    go_wp2_with fail
    refine (may_impl p x day Ap Ax _ cp cx _ Rp Rx (Nat.le_refl _) hn3 kx hl9).mono ?_; rintro e w23 ⟨rfl, b23⟩
    rw [HM.out]
    go_wp2
    go_ret
    exact ⟨rfl, (((Hbel.out.trans (b20.mono (by omega))).trans (b21.mono (by omega))).trans (b22.mono (by omega))).trans (b23.mono (by omega))⟩
  · have g2 : (addC l d o != 0) = true := by rw [bne_iff_ne]; exact h0
    by_cases h5 : addC l d o = 5
    · have g3 : (addC l d o != 5) = false := by simp [h5]
      obtain ⟨hx1, hx2⟩ := rem_of_5 h5 hn2
      have g4 : (remC l d o == 0) = true := by simp [hx1]
      have g5 : (((remR l d o).length : Int) == (l.length : Int) - 1) = true := by rw [beq_iff_eq]; omega
      clear h0 h5 hx1 hx2
      go_wp2
      go_ret
      exact ⟨rfl, Hbel.out⟩
    · have g3 : (addC l d o != 5) = true := by rw [bne_iff_ne]; exact h5
      clear h0 h5
      go_wp2
      go_ret
      exact ⟨rfl, Hbel.out⟩
end Go.Proofs.Ytmbchcenclfjoaa
