/- AppendRecord of the program and of the reference: walks. -/
import Derived.Test.YtjohpakfaommgaaRi
import Derived.Test.YtjohpakfaommgaaStep
import Derived.Deep.RegionWith
import Derived.Deep.RegionHeld3
namespace Go.Proofs.Ytjohpakfaommgaa
open Go.ChangeShapes Go.WideShapes Go.ChangeAt Go.RowKit
set_option maxRecDepth 20000
set_option linter.unusedVariables false
set_option linter.unusedSimpArgs false
def appC (l : List Int) (x y z : Int) : Int := if recB x y z then (if bytesB l then jourC (recUp l (recN l) ++ [(x, y, z)]) else 2) else 1
def appR (l : List Int) (x y z : Int) : List Int := if recB x y z then (if bytesB l then jourR (recUp l (recN l) ++ [(x, y, z)]) else []) else []
theorem recN_good {l : List Int} {j : Nat} (h : j < recN l) : goodR l j = true := by
  have hs : ((List.range (l.length / 14)).takeWhile (goodR l))[j]? = some j := by
    have hp := List.takeWhile_prefix (p := goodR l) (l := List.range (l.length / 14))
    obtain ⟨s, hs⟩ := hp
    have h1 : (List.range (l.length / 14))[j]? = some j := by
      have := recN_le l
      rw [List.getElem?_range (by omega)]
    rw [← hs, List.getElem?_append_left (by unfold recN at h; exact h)] at h1
    exact h1
  have hm := List.mem_of_getElem? hs
  have := List.all_takeWhile (p := goodR l) (l := List.range (l.length / 14))
  rw [List.all_eq_true] at this
  exact this j hm
theorem recN_100 (l : List Int) : recN l ≤ 100 := by
  rcases Nat.lt_or_ge 100 (recN l) with h | h
  · have hg := recN_good (l := l) (j := 100) h
    unfold goodR decOk at hg
    simp only [Bool.and_eq_true, beq_iff_eq] at hg
    obtain ⟨⟨_, h2, _⟩, h3⟩ := hg
    rw [h3] at h2
    simp [inB] at h2
  · exact h
theorem recAt_ok {l : List Int} (hb : isBytes l) {j : Nat} (h : j < recN l) : okR (recAt l j) = true := by
  have hg := recN_good h
  have hl := recN_le l
  obtain ⟨t, k, v, n, h1, h2, h3, h4, b1, b2, b3, b4, _⟩ := dec_nats (chunk_bytes hb j) (chunk_length (l := l) (i := j) (by omega))
  unfold okR recAt recB
  simp only [h1, h2, h3, inB]
  simp
  omega
theorem recUp_ok {l : List Int} (hb : isBytes l) : (recUp l (recN l)).all okR = true := by
  rw [List.all_eq_true]
  intro t ht
  simp only [recUp, List.mem_map, List.mem_range] at ht
  obtain ⟨j, hj, rfl⟩ := ht
  exact recAt_ok hb hj
theorem bytes_2000 {l : List Int} (h : bytesB l = true) : l.length ≤ 2000 := by simp only [bytesB, Bool.and_eq_true, decide_eq_true_eq] at h; exact h.1
theorem app_cases (l : List Int) (x y z : Int) : (recB x y z = false ∧ appC l x y z = 1 ∧ appR l x y z = []) ∨ (recB x y z = true ∧ bytesB l = false ∧ appC l x y z = 2 ∧ appR l x y z = []) ∨
   (∃ k, recB x y z = true ∧ bytesB l = true ∧ recN l = k ∧ k ≤ 100 ∧ appC l x y z = jourC (recUp l k ++ [(x, y, z)]) ∧ appR l x y z = jourR (recUp l k ++ [(x, y, z)]) ∧ (recUp l k ++ [(x, y, z)]).all okR = true ∧ (recUp l k ++ [(x, y, z)]).length = k + 1) := by
  cases h : recB x y z with
  | false => left; exact ⟨rfl, by simp [appC, h], by simp [appR, h]⟩
  | true =>
    right
    cases hb : bytesB l with
    | false => left; exact ⟨rfl, rfl, by simp [appC, h, hb], by simp [appR, h, hb]⟩
    | true => right; exact ⟨_, rfl, rfl, rfl, recN_100 l, by simp [appC, h, hb], by simp [appR, h, hb], by rw [List.all_append, recUp_ok (isBytes_of hb)]; simp [okR, h], by simp [recUp_length]⟩
theorem appR_len (l : List Int) (x y z : Int) : (appR l x y z).length ≤ 1048576 := by
  rcases app_cases l x y z with ⟨_, _, h⟩ | ⟨_, _, _, h⟩ | ⟨k, _, _, _, hk, _, h, _, hl⟩
  · rw [h]; simp
  · rw [h]; simp
  · rw [h]; exact jourR_len _ (by omega)
theorem jour_100 {L : List Rec3} {k : Nat} (hl : L.length = k + 1) (hk : k ≤ 100) (ha : L.all okR = true) : (k = 100 ∧ jourC L = 3 ∧ jourR L = []) ∨ (k < 100 ∧ jourC L = 0 ∧ jourR L = jourUp L (k + 1)) := by
  rcases jour_cases L with ⟨h, h1, h2⟩ | ⟨h, h1, _, _⟩ | ⟨h, _, h1, h2⟩
  · exact .inl ⟨by omega, h1, h2⟩
  · rw [ha] at h1; cases h1
  · right; rw [hl] at h2; exact ⟨by omega, h1, h2⟩
theorem l32Journal_n (l : List Rec3) (n : Nat) (hl : l.length = n) (ha : l.all okR = true) (h100 : n ≤ 100) (A : Option Addr) (B c : Nat) (w : World) (hr : Rd w B A (l.flatMap eEventRecord)) (hB : B ≤ w.heap.size) :
   Calls Try.prog 62 #[.slice A n c] w fun e w' => ∃ A' c', e = .returned (.slice A' (jourUp l n).length c') ∧ w'.ownsRow w.heap.size 2 1 (.slice A' (jourUp l n).length c') (jourUp l n).length (ints (jourUp l n)) ∧ Below w.heap.size w w' := by
  subst hl; exact l32Journal_any l ha h100 A B c w hr hB
theorem jour_n (l : List Rec3) (n : Nat) (hl : l.length = n) (h100 : n ≤ 200) (A : Option Addr) (B c : Nat) (w : World) (hr : Rd w B A (l.flatMap eEventRecord)) (hB : B ≤ w.heap.size) :
   Calls Try.prog 29 #[.slice A n c] w fun e w' => ∃ A' c', e = .returned (.tuple #[.slice A' (jourR l).length c', .int .i64 (jourC l)]) ∧ w'.ownsRow w.heap.size 2 1 (.slice A' (jourR l).length c') (jourR l).length (ints (jourR l)) ∧ Below w.heap.size w w' := by
  subst hl; exact jour_impl l A B c w hr hB (by omega)
theorem recover_impl_k (l : List Int) (k : Nat) (hk : recN l = k) (hbt : isBytes l) (A : Option Addr) (B c : Nat) (w : World) (hr : Rd w B A (ints l)) (hB : B ≤ w.heap.size) (hlc : l.length ≤ c) (hcm : c ≤ 9223372036854775807) (hn : l.length ≤ 2000) :
   Calls Try.prog 67 #[.slice A l.length c] w fun e w' => ∃ A' c', e = .returned (.slice A' k c') ∧ w'.ownsRow w.heap.size 35 3 (.slice A' k c') k ((recUp l k).flatMap eEventRecord) ∧ Below w.heap.size w w' := by
  subst hk; exact recover_impl l hbt A B c w hr hB hlc hcm hn
theorem recover_spec_k (l : List Int) (k : Nat) (hk : recN l = k) (hbt : isBytes l) (A : Option Addr) (B c : Nat) (w : World) (hr : Rd w B A (ints l)) (hB : B ≤ w.heap.size) (hlc : l.length ≤ c) (hcm : c ≤ 9223372036854775807) (hn : l.length ≤ 2000) :
   Calls Try.prog 66 #[.slice A l.length c] w fun e w' => ∃ A' c', e = .returned (.slice A' k c') ∧ w'.ownsRow w.heap.size 35 3 (.slice A' k c') k ((recUp l k).flatMap eEventRecord) ∧ Below w.heap.size w w' := by
  subst hk; exact recover_spec l hbt A B c w hr hB hlc hcm hn
theorem rd_new3d (w : World) (x y z : Int) (e : TypeId) : Rd (World.drew (w.alloc (.cells #[.int .i64 x, .int .i64 y, .int .i64 z] e))) (w.heap.size + 1) (some ⟨w.heap.size, 0, none⟩) (eEventRecord (x, y, z)) := rd_new3 w x y z e
set_option maxHeartbeats 2000000 in
theorem app_spec (l : List Int) (x y z : Int) (A : Option Addr) (B c : Nat) (w : World) (hr : Rd w B A (ints l)) (hB : B ≤ w.heap.size) (hlc : l.length ≤ c) (hcm : c ≤ maxLen) (hn : l.length ≤ 1048576) :
   Calls Try.prog 35 #[.slice A l.length c, .agg #[.int .i64 x, .int .i64 y, .int .i64 z]] w fun e w' => ∃ A' c', e = .returned (.tuple #[.slice A' (appR l x y z).length c', .int .i64 (appC l x y z)]) ∧ w'.ownsRow w.heap.size 2 1 (.slice A' (appR l x y z).length c') (appR l x y z).length (ints (appR l x y z)) ∧ Below w.heap.size w w' := by
  obtain ⟨i0, hi0, hz0, hz1, hz2⟩ := info_parts infoEventRecord
  unfold maxLen at hcm
  rcases app_cases l x y z with ⟨hx, h1, h2⟩ | ⟨hx, hb, h1, h2⟩ | ⟨k, hx, hb, hk, hk1, h1, h2, hall, hL⟩
  · rw [h1, h2]
    have Hx := Lib.hid hx
    clear h1 h2 hx
    go_enter Try.func35, Try.ntmps35
    go_wp2_with (go_at_call 42; refine (isER_spec_r x y z false Hx.out _).mono ?_; rintro e w1 ⟨rfl, hb1⟩; obtain ⟨hc1, hf1, hs1⟩ := bstep (N := w.heap.size + 1) (by go_size) hb1; have hy1 : w.heap.size < w1.heap.size := hs1; have hr1 := Lib.hid ((hr.alloc hB _).below hb1 (by simp; omega)))
    go_ret2
    exact ⟨none, 0, rfl, World.ownsRow_nil _ _ _ _, by repeat' (first | (with_reducible exact Below.refl _ _) | (with_reducible assumption) | (with_reducible refine Below.alloc ?_ ?_ _) | (with_reducible refine Below.drew ?_) | (with_reducible refine below_drewN ?_ _) | (with_reducible refine Below.setCell ?_ ?_ _) | (with_reducible refine Below.trans ?_ (Below.mono (by assumption) ?_)) | go_size | (exact Below.size (by assumption)))⟩
  · rw [h1, h2]
    have Hx := Lib.hid hx
    have Hb := Lib.hid hb
    clear h1 h2 hx hb
    go_enter Try.func35, Try.ntmps35
    go_wp2_with (first | (go_at_call 42; refine (isER_spec_r x y z true Hx.out _).mono ?_; rintro e w1 ⟨rfl, hb1⟩; obtain ⟨hc1, hf1, hs1⟩ := bstep (N := w.heap.size + 1) (by go_size) hb1; have hy1 : w.heap.size < w1.heap.size := hs1; have hr1 := Lib.hid ((hr.alloc hB _).below hb1 (by simp; omega))) | (go_at_call 49; refine (l32Bytes_r l A B c false Hb.out _ hr1.out hn).mono ?_; rintro e w' ⟨rfl, rfl⟩))
    go_ret2
    exact ⟨none, 0, rfl, World.ownsRow_nil _ _ _ _, by repeat' (first | (with_reducible exact Below.refl _ _) | (with_reducible assumption) | (with_reducible refine Below.alloc ?_ ?_ _) | (with_reducible refine Below.drew ?_) | (with_reducible refine below_drewN ?_ _) | (with_reducible refine Below.setCell ?_ ?_ _) | (with_reducible refine Below.trans ?_ (Below.mono (by assumption) ?_)) | go_size | (exact Below.size (by assumption)))⟩
  · rw [h1, h2]
    have hl2 := bytes_2000 hb
    have Hx := Lib.hid hx
    have Hb := Lib.hid hb
    have Hk := Lib.hid hk
    have hk2 : k ≤ 1048576 := by omega
    have Hall := Lib.hid hall
    have HL := Lib.hid hL
    have H100 := Lib.hid (jour_100 hL hk1 hall)
    clear h1 h2 hx hb hk hall hL
    rcases H100.out with ⟨hk3, h1, h2⟩ | ⟨hk3, h1, h2⟩
    · rw [h1, h2]
      have hkb : ((k : Int) == 100) = true := by rw [hk3]; rfl
      have Hk3 := Lib.hid hk3
      clear h1 h2 hk3
      go_enter Try.func35, Try.ntmps35
      go_wp2_with (first | (go_at_call 42; refine (isER_spec_r x y z true Hx.out _).mono ?_; rintro e w1 ⟨rfl, hb1⟩; obtain ⟨hc1, hf1, hs1⟩ := bstep (N := w.heap.size + 1) (by go_size) hb1; have hy1 : w.heap.size < w1.heap.size := hs1; have hr1 := Lib.hid ((hr.alloc hB _).below hb1 (by simp; omega))) | (go_at_call 49; refine (l32Bytes_r l A B c true Hb.out _ hr1.out hn).mono ?_; rintro e w' ⟨rfl, rfl⟩) | (go_at_call 66; refine (recover_spec_k l k Hk.out (isBytes_of Hb.out) A B c _ hr1.out (by omega) hlc hcm hl2).mono ?_; rintro e w2 ⟨A2, c2, rfl, o2, hb2⟩; have O2 := Lib.hid (own_more o2 (show w.heap.size ≤ _ by omega)); clear o2; obtain ⟨hc2, hf2, hs2⟩ := bstep (N := w.heap.size + 1) (by go_size) hb2; have hy2 : w.heap.size ≤ w2.heap.size := by omega))
      go_ret2
      exact ⟨none, 0, rfl, World.ownsRow_nil _ _ _ _, by repeat' (first | (with_reducible exact Below.refl _ _) | (with_reducible assumption) | (with_reducible refine Below.alloc ?_ ?_ _) | (with_reducible refine Below.drew ?_) | (with_reducible refine below_drewN ?_ _) | (with_reducible refine Below.setCell ?_ ?_ _) | (with_reducible refine Below.trans ?_ (Below.mono (by assumption) ?_)) | go_size | (exact Below.size (by assumption)))⟩
    · rw [h1, h2]
      have hkb : ((k : Int) == 100) = false := by rw [beq_eq_false_iff_ne]; omega
      clear h1 h2
      go_enter Try.func35, Try.ntmps35
      go_wp2_with (first | (go_at_call 42; refine (isER_spec_r x y z true Hx.out _).mono ?_; rintro e w1 ⟨rfl, hb1⟩; obtain ⟨hc1, hf1, hs1⟩ := bstep (N := w.heap.size + 1) (by go_size) hb1; have hy1 : w.heap.size < w1.heap.size := hs1; have hr1 := Lib.hid ((hr.alloc hB _).below hb1 (by simp; omega))) | (go_at_call 49; refine (l32Bytes_r l A B c true Hb.out _ hr1.out hn).mono ?_; rintro e w' ⟨rfl, rfl⟩) | (go_at_call 66; refine (recover_spec_k l k Hk.out (isBytes_of Hb.out) A B c _ hr1.out (by omega) hlc hcm hl2).mono ?_; rintro e w2 ⟨A2, c2, rfl, o2, hb2⟩; have O2 := Lib.hid (own_more o2 (show w.heap.size ≤ _ by omega)); clear o2; obtain ⟨hc2, hf2, hs2⟩ := bstep (N := w.heap.size + 1) (by go_size) hb2; have hy2 : w.heap.size ≤ w2.heap.size := by omega) | (at_builtin; refine wpList_append_rec rfl (.tmp 18) (.tmp 20) rfl w.heap.size _ k _ rfl O2.out _ _ _ (by simp [Act.eval, Act.put]) hk2 hy2 ?_; intro v5 w5 own5 hb5 hz5; obtain ⟨A5, c5, rfl⟩ := own_val own5; have R5 := Lib.hid (Rd.of_own own5); clear own5) | (go_at_call 62; refine (l32Journal_n _ (k + 1) HL.out Hall.out (by omega) A5 _ c5 _ R5.out (by omega)).mono ?_; rintro e w6 ⟨A6, c6, rfl, o6, hb6⟩; have O6 := Lib.hid (own_more o6 (show w.heap.size ≤ _ by omega)); clear o6))
      go_ret2
      exact ⟨A6, c6, rfl, O6.out, by repeat' (first | (with_reducible exact Below.refl _ _) | (with_reducible assumption) | (with_reducible refine Below.alloc ?_ ?_ _) | (with_reducible refine Below.drew ?_) | (with_reducible refine below_drewN ?_ _) | (with_reducible refine Below.setCell ?_ ?_ _) | (with_reducible refine Below.trans ?_ (Below.mono (by assumption) ?_)) | go_size | (exact Below.size (by assumption)))⟩
set_option maxHeartbeats 2000000 in
theorem app_impl (l : List Int) (x y z : Int) (A : Option Addr) (B c : Nat) (w : World) (hr : Rd w B A (ints l)) (hB : B ≤ w.heap.size) (hlc : l.length ≤ c) (hcm : c ≤ maxLen) (hn : l.length ≤ 1048576) :
   Calls Try.prog 36 #[.slice A l.length c, .agg #[.int .i64 x, .int .i64 y, .int .i64 z]] w fun e w' => ∃ A' c', e = .returned (.tuple #[.slice A' (appR l x y z).length c', .int .i64 (appC l x y z)]) ∧ w'.ownsRow w.heap.size 2 1 (.slice A' (appR l x y z).length c') (appR l x y z).length (ints (appR l x y z)) ∧ Below w.heap.size w w' := by
  obtain ⟨i0, hi0, hz0, hz1, hz2⟩ := info_parts infoEventRecord
  unfold maxLen at hcm
  rcases app_cases l x y z with ⟨hx, h1, h2⟩ | ⟨hx, hb, h1, h2⟩ | ⟨k, hx, hb, hk, hk1, h1, h2, hall, hL⟩
  · rw [h1, h2]
    have Hx := Lib.hid hx
    clear h1 h2 hx
    go_enter Try.func36, Try.ntmps36
    go_wp2_with (go_at_call 41; refine (isER_impl_r x y z false Hx.out _).mono ?_; rintro e w1 ⟨rfl, hb1⟩; obtain ⟨hc1, hf1, hs1⟩ := bstep (N := w.heap.size + 1) (by go_size) hb1; have hy1 : w.heap.size < w1.heap.size := hs1; have hr1 := Lib.hid ((hr.alloc hB _).below hb1 (by simp; omega)))
    go_ret2
    exact ⟨none, 0, rfl, World.ownsRow_nil _ _ _ _, by repeat' (first | (with_reducible exact Below.refl _ _) | (with_reducible assumption) | (with_reducible refine Below.alloc ?_ ?_ _) | (with_reducible refine Below.drew ?_) | (with_reducible refine below_drewN ?_ _) | (with_reducible refine Below.setCell ?_ ?_ _) | (with_reducible refine Below.trans ?_ (Below.mono (by assumption) ?_)) | go_size | (exact Below.size (by assumption)))⟩
  · rw [h1, h2]
    have Hx := Lib.hid hx
    have Hb := Lib.hid hb
    clear h1 h2 hx hb
    go_enter Try.func36, Try.ntmps36
    go_wp2_with (first | (go_at_call 41; refine (isER_impl_r x y z true Hx.out _).mono ?_; rintro e w1 ⟨rfl, hb1⟩; obtain ⟨hc1, hf1, hs1⟩ := bstep (N := w.heap.size + 1) (by go_size) hb1; have hy1 : w.heap.size < w1.heap.size := hs1; have hr1 := Lib.hid ((hr.alloc hB _).below hb1 (by simp; omega))) | (go_at_call 51; refine (areBytes_r l A B c false Hb.out _ hr1.out (by omega) hn).mono ?_; rintro e w2 ⟨rfl, hb2⟩; obtain ⟨hc2, hf2, hs2⟩ := bstep (N := w.heap.size + 1) (by go_size) hb2; have hy2 : w.heap.size < w2.heap.size := hs2; have hr2 := Lib.hid (hr1.out.below hb2 (by omega))))
    go_ret2
    exact ⟨none, 0, rfl, World.ownsRow_nil _ _ _ _, by repeat' (first | (with_reducible exact Below.refl _ _) | (with_reducible assumption) | (with_reducible refine Below.alloc ?_ ?_ _) | (with_reducible refine Below.drew ?_) | (with_reducible refine below_drewN ?_ _) | (with_reducible refine Below.setCell ?_ ?_ _) | (with_reducible refine Below.trans ?_ (Below.mono (by assumption) ?_)) | go_size | (exact Below.size (by assumption)))⟩
  · rw [h1, h2]
    have hl2 := bytes_2000 hb
    have Hx := Lib.hid hx
    have Hb := Lib.hid hb
    have Hk := Lib.hid hk
    have hk2 : k ≤ 1048576 := by omega
    have Hall := Lib.hid hall
    have HL := Lib.hid hL
    have H100 := Lib.hid (jour_100 hL hk1 hall)
    clear h1 h2 hx hb hk hall hL
    go_enter Try.func36, Try.ntmps36
    go_wp2_with (first | (go_at_call 41; refine (isER_impl_r x y z true Hx.out _).mono ?_; rintro e w1 ⟨rfl, hb1⟩; obtain ⟨hc1, hf1, hs1⟩ := bstep (N := w.heap.size + 1) (by go_size) hb1; have hy1 : w.heap.size < w1.heap.size := hs1; have hr1 := Lib.hid ((hr.alloc hB _).below hb1 (by simp; omega))) | (go_at_call 51; refine (areBytes_r l A B c true Hb.out _ hr1.out (by omega) hn).mono ?_; rintro e w2 ⟨rfl, hb2⟩; obtain ⟨hc2, hf2, hs2⟩ := bstep (N := w.heap.size + 1) (by go_size) hb2; have hy2 : w.heap.size < w2.heap.size := hs2; have hr2 := Lib.hid (hr1.out.below hb2 (by omega))))
    go_region_held3 (fun w' => w'.cell? ⟨w.heap.size, 0, none⟩ = some (.int .i64 x) ∧ w'.cell? ⟨w.heap.size, 1, none⟩ = some (.int .i64 y) ∧ w'.cell? ⟨w.heap.size, 2, none⟩ = some (.int .i64 z)) (simp [*, World.cell?_alloc_past])
     (first | (go_at_call 67; refine (recover_impl_k l k Hk.out (isBytes_of Hb.out) A B c _ (by first | exact hr2.out | exact (hr2.out.alloc (by omega) _)) (by first | omega | (simp; omega)) hlc hcm hl2).mono ?_; rintro e w3 ⟨A3, c3, rfl, o3, b3⟩; have O3 := Lib.hid (own_more o3 (show w.heap.size + 1 ≤ _ by first | omega | (simp; omega))); have hz3 := b3.size; simp only [World.size_alloc, World.size_drew] at hz3; obtain ⟨hc3, hf3, hz3'⟩ := bstep (N := w.heap.size + 1) (by first | omega | (simp; omega)) b3; have hy3 : w.heap.size < w3.heap.size := hz3'; clear o3) | (refine step_append_rd (w := w3.alloc (.cells #[.int .i64 x, .int .i64 y, .int .i64 z] 35)) rfl (.tmp 15) (.tmp 17) 44 (by rfl) (w.heap.size + 1) 35 i0 _ 3 24 Try.underlying44 hi0 hz0 hz1 hz2 rfl (by decide) _ k ((recUp l k).flatMap eEventRecord) (by rfl) (O3.out.alloc _) (w3.heap.size + 1) (some ⟨w3.heap.size, 0, none⟩) 1 1 (eEventRecord (x, y, z)) (by rfl) rfl (rd_new3 w3 x y z _) (eRec_one _) (by unfold maxLen; omega) (by omega) (by simp; omega) ?_; intro v4 w4 own4 hb4 hz4; obtain ⟨A4, c4, rfl⟩ := own_val own4; have R4 := Lib.hid (show Rd w4 w4.heap.size A4 ((recUp l k ++ [(x, y, z)]).flatMap eEventRecord) by simpa using Rd.of_own own4); have hc4 := fun (b o : Nat) (h : b < w.heap.size + 1) => hb4.cell (p := ⟨b, o, none⟩) h; have hy4 : w.heap.size < w4.heap.size := (by first | omega | (simp only [World.size_alloc] at hz4; omega)); clear own4) | (refine step_append_rd (w := w3) rfl (.tmp 15) (.tmp 17) 44 (by rfl) (w.heap.size + 1) 35 i0 _ 3 24 Try.underlying44 hi0 hz0 hz1 hz2 rfl (by decide) _ k ((recUp l k).flatMap eEventRecord) (by rfl) O3.out (w2.heap.size + 1) (some ⟨w2.heap.size, 0, none⟩) 1 1 (eEventRecord (x, y, z)) (by rfl) rfl ((rd_new3d w2 x y z _).below b3 (by simp)) (eRec_one _) (by unfold maxLen; omega) (by omega) (by omega) ?_; intro v4 w4 own4 hb4 hz4; obtain ⟨A4, c4, rfl⟩ := own_val own4; have R4 := Lib.hid (show Rd w4 w4.heap.size A4 ((recUp l k ++ [(x, y, z)]).flatMap eEventRecord) by simpa using Rd.of_own own4); have hc4 := fun (b o : Nat) (h : b < w.heap.size + 1) => hb4.cell (p := ⟨b, o, none⟩) h; have hy4 : w.heap.size < w4.heap.size := (by first | omega | (simp only [World.size_alloc] at hz4; omega)); clear own4) | (go_at_call 29; refine (jour_n _ (k + 1) HL.out (by omega) A4 _ c4 _ R4.out (by omega)).mono ?_; rintro e w5 ⟨A5, c5, rfl, o5, b5⟩; have O5 := Lib.hid (own_more o5 (show w.heap.size ≤ _ by omega)); clear o5; obtain ⟨hc5, hf5, hz5'⟩ := bstep (N := w.heap.size + 1) (by first | omega | (simp; omega)) b5; have hy5 : w.heap.size < w5.heap.size := hz5'))
    all_goals go_wp2
    all_goals go_ret2
    all_goals refine ⟨A5, c5, rfl, O5.out, ?_⟩
    all_goals repeat' (first | (with_reducible exact Below.refl _ _) | (with_reducible assumption) | (with_reducible refine Below.alloc ?_ ?_ _) | (with_reducible refine Below.drew ?_) | (with_reducible refine below_drewN ?_ _) | (with_reducible refine Below.setCell ?_ ?_ _) | (with_reducible refine Below.trans ?_ (Below.mono (by assumption) ?_)) | go_size | (exact Below.size (by assumption)))
end Go.Proofs.Ytjohpakfaommgaa
