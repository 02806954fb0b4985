/- A mode is reachable exactly if there are least commands to it, and these lead there: a walk. -/
import Derived.Test.YtakchdkoildkbaaDoorRw
import Derived.Test.YtakchdkoildkbaaDoorWs
import Derived.Test.YtakchdkoildkbaaDoorWd
namespace Go.Proofs.YtakchdkoildkbaaDoor
open Go.ChangeShapes Go.WideShapes Go.ChangeAt Go.RowKit
set_option maxRecDepth 20000
set_option linter.unusedVariables false
set_option linter.unusedSimpArgs false
theorem hasInt_any (l : List Int) (x : Int) (A : Option Addr) (B c : Nat) (w : World) (hr : Rd w B A (ints l)) (hn : l.length ≤ 1048576) :
   Calls Tryd.prog 32 #[.slice A l.length c, .int .i64 x] w fun e w' => e = .returned (.bool (l.any (· == x))) ∧ w = w' := by
  go_enter Tryd.func32, Tryd.ntmps32
  go_wp2_with fail
  go_loop [5] (fun i => ∃ k : Nat, k ≤ l.length ∧ i = .int .i64 k ∧ (l.take k).any (· == x) = false) (fun i => l.length - (intOf i).toNat)
  case atStart => exact ⟨0, Nat.zero_le _, rfl, by simp⟩
  case round =>
    obtain ⟨k, hk, rfl, hall⟩ := hrel
    by_cases hlt : k < l.length
    · have ht := List.getElem?_eq_getElem hlt
      generalize l[k] = t at ht
      obtain ⟨b, o, rfl, _, c0⟩ := hr.int ht
      have Ht := Lib.hid ht
      have Ha := Lib.hid hall
      clear ht hall hr
      cases hb : (t == x) with
      | true =>
        have Hb := Lib.hid hb
        go_wp2
        go_ret
        exact ⟨ret_bool (by rw [Eq.comm, List.any_eq_true]; exact ⟨t, List.mem_of_getElem? Ht.out, Hb.out⟩), rfl⟩
      | false =>
        have Hb := Lib.hid hb
        go_wp2
        go_round
        case rel => exact ⟨k + 1, by omega, by go_num, by rw [any_step _ _ Ht.out, Ha.out, Hb.out]; rfl⟩
        case measure => simp [intOf]; omega
    · have hk' : k = l.length := by omega
      subst hk'
      rw [List.take_length] at hall
      have Ha := Lib.hid hall
      clear hall hr
      go_wp2
      go_ret
      exact ⟨ret_bool Ha.out.symm, rfl⟩
theorem sum_zero (T : List Int) (hl : T.length ≤ 1048576) (ht : ∀ (k : Nat) (x : Int), T[k]? = some x → x = 0) (A : Option Addr) (B c : Nat) (w : World) (hr : Rd w B A (ints T)) (hB : B ≤ w.heap.size) :
   Calls Tryd.prog 33 #[.slice A T.length c] w fun e w' => e = .returned (.int .i64 0) ∧ w = w' := by
  have HR := Lib.hid hr
  clear hr
  go_enter Tryd.func33, Tryd.ntmps33
  go_wp2_with fail
  go_loop [3, 4] (fun s i => ∃ k : Nat, k ≤ T.length ∧ i = .int .i64 k ∧ s = .int .i64 0) (fun _ i => T.length - (intOf i).toNat)
  case atStart => exact ⟨0, Nat.zero_le _, rfl, rfl⟩
  case round =>
    obtain ⟨k, hk, rfl, rfl⟩ := hrel
    by_cases hlt : k < T.length
    · have hki : (k : Int) < (T.length : Int) := by omega
      have hx := List.getElem?_eq_getElem hlt
      generalize T[k] = x at hx
      obtain rfl := ht k x hx
      obtain ⟨b, o, rfl, _, cx⟩ := HR.out.int hx
      clear HR hx
      go_wp2
      go_round
      case rel => exact ⟨k + 1, by omega, by go_num, rfl⟩
      case measure => simp [intOf]; omega
    · have hk' : k = T.length := by omega
      subst hk'
      go_wp2
      go_ret
      exact ⟨rfl, rfl⟩
def cmdsOf (r : Int) (b : Bool) (l : List Int) : List Cmd := l.map fun k => (k, r, b)
theorem cmdsOf_len (r : Int) (b : Bool) (l : List Int) : (cmdsOf r b l).length = l.length := List.length_map _
theorem cmdsOf_step (r : Int) (b : Bool) {l : List Int} {k : Nat} {x : Int} (h : l[k]? = some x) : cmdsOf r b (l.take (k + 1)) = cmdsOf r b (l.take k) ++ [(x, r, b)] := by
  obtain ⟨h1, h2⟩ := List.getElem?_eq_some_iff.1 h
  subst h2
  unfold cmdsOf
  rw [List.take_succ_eq_append_getElem h1, List.map_append]
  rfl
def lawW (f t r : Int) (b : Bool) : Bool :=
  (reachL f r b).any (· == t) == (leastS f t r b).isSome && match leastS f t r b with
    | none => true
    | some l => decide (rnC (cmdsOf r b l) f = 0) && decide (rnM (cmdsOf r b l) f = t) && (rnR (cmdsOf r b l) f).all (· == 0)
theorem lawW_all : ∀ f : Fin 6, ∀ t : Fin 6, ∀ r : Fin 4, ∀ b : Bool, lawW (f.val : Int) (t.val : Int) (r.val : Int) b = true := by decide +kernel
theorem lawW_of {f t r : Int} (b : Bool) (h : okW f t r = true) : lawW f t r b = true := by
  unfold okW inB at h
  simp only [Bool.and_eq_true, decide_eq_true_eq] at h
  have := lawW_all ⟨f.toNat, by omega⟩ ⟨t.toNat, by omega⟩ ⟨r.toNat, by omega⟩ b
  rw [show (((⟨f.toNat, by omega⟩ : Fin 6).val : Nat) : Int) = f by simp; omega, show (((⟨t.toNat, by omega⟩ : Fin 6).val : Nat) : Int) = t by simp; omega, show (((⟨r.toNat, by omega⟩ : Fin 4).val : Nat) : Int) = r by simp; omega] at this
  exact this
/-- the three ways out -/
theorem ways_cases (f t r : Int) (b : Bool) :
    (lcC f t r b = 2) ∨ (lcC f t r b = 4 ∧ reachC f r = 0 ∧ (reachL f r b).any (· == t) = false) ∨
    (lcC f t r b = 0 ∧ reachC f r = 0 ∧ (reachL f r b).any (· == t) = true ∧ rnC (cmdsOf r b (lcL f t r b)) f = 0 ∧ rnM (cmdsOf r b (lcL f t r b)) f = t ∧ ∀ (k : Nat) (x : Int), (rnR (cmdsOf r b (lcL f t r b)) f)[k]? = some x → x = 0) := by
  cases hok : okW f t r with
  | false => left; unfold lcC; rw [hok]; rfl
  | true =>
    right
    have hl := lawW_of b hok
    have hC : lcC f t r b = lcS (leastS f t r b) := by unfold lcC; rw [hok]; exact if_pos rfl
    have hL : lcL f t r b = (leastS f t r b).getD [] := by unfold lcL; rw [hok]; exact if_pos rfl
    have hR : reachC f r = 0 := by
      unfold reachC
      unfold okW at hok
      simp only [Bool.and_eq_true] at hok
      rw [hok.1.1, hok.2]; rfl
    unfold lawW at hl
    rw [hC, hL]
    simp only [Bool.and_eq_true, beq_iff_eq] at hl
    cases hS : leastS f t r b with
    | none =>
      left
      rw [hS] at hl
      exact ⟨rfl, hR, hl.1⟩
    | some l =>
      right
      rw [hS] at hl
      obtain ⟨h1, h2⟩ := hl
      simp only [Bool.and_eq_true, decide_eq_true_eq, List.all_eq_true, beq_iff_eq] at h2
      exact ⟨rfl, hR, h1, h2.1.1, h2.1.2, fun k x hx => h2.2 x (List.mem_of_getElem? hx)⟩
set_option maxHeartbeats 2000000 in
theorem walkFnModeWays (bl : List Int) (hbl : isU8 bl) (C : Option Addr) (cap : Nat) (w : World) (hr : Rd w w.heap.size C (bytesU bl)) (hlc : bl.length ≤ cap) (hm : cap ≤ maxLen) (T : Rd w w.heap.size (some ⟨0, 0, none⟩) tabL) :
   Calls Tryd.prog 7 #[.slice C bl.length cap] w fun e w' => e = .returned (.bool true) ∧ Below w.heap.size w w' := by
  unfold maxLen at hm
  by_cases hn : bl.length ≤ 4096
  rotate_left
  · have hd : decide ((4096 : Int) < (bl.length : Int)) = true := by simp; omega
    clear T hr
    go_enter Tryd.func7, Tryd.ntmps7
    go_wp2_with (go_at_call 13; refine (big_any _ _ _ _ (by omega)).mono ?_; rintro e w' ⟨rfl, rfl⟩)
    go_ret
    exact ⟨rfl, Below.refl _ _⟩
  have hd : decide ((4096 : Int) < (bl.length : Int)) = false := by simp; omega
  have HT := Lib.hid T
  clear T
  go_enter Tryd.func7, Tryd.ntmps7
  go_wp2_with fail
  refine (big_any _ _ _ _ (by omega)).mono ?_; rintro e w' ⟨rfl, rfl⟩
  go_wp2_with fail
  refine (drawLeast_any bl hbl hn C cap _ hr).mono ?_
  rintro e w0 ⟨f, t, r, b, rfl, b0⟩
  have T0 := Lib.hid ((HT.out.below b0 (Nat.le_refl _)).more b0.size)
  have z0 := b0.size
  have H0 := Lib.hid b0
  clear hr hbl hd HT b0 hn hlc hm
  have hW := ways_cases f t r b
  have HWc := Lib.hid hW
  have hLl := lcL_len f t r b
  have hRl := reachL_len f r b
  clear hW
  have HL1 := Lib.hid (least_impl f t r b)
  have HL2 := Lib.hid (least_spec f t r b)
  have HR1 := Lib.hid (reach_impl_l f r b)
  have HR2 := Lib.hid (reach_spec f r b)
  generalize lcL f t r b = L at *
  generalize lcC f t r b = CC at *
  generalize reachL f r b = R at *
  generalize reachC f r = RC at *
  have hLl2 : L.length ≤ 1048576 := by omega
  go_wp2_with fail
  refine (HL1.out _ _ T0.out (Nat.le_refl _)).mono ?_
  rintro e w1 ⟨A1, c1, rfl, o1, b1⟩
  have z1 := b1.size
  have T1 := Lib.hid (Rd.more (T0.out.below b1 (Nat.le_refl _)) z1)
  have V1 := Lib.hid (Rd.of_own o1)
  have H1 := Lib.hid (Below.trans H0.out (b1.mono (by omega)))
  clear T0 H0 o1 b1
  go_wp2_with fail
  refine (HL2.out _).mono ?_
  rintro e w2 ⟨A2, c2, rfl, o2, b2⟩
  have z2 := b2.size
  have T2 := Lib.hid (Rd.more (T1.out.below b2 (Nat.le_refl _)) z2)
  have V12 := Lib.hid (Rd.more (V1.out.below b2 (Nat.le_refl _)) z2)
  have V2 := Lib.hid (Rd.of_own o2)
  have H2 := Lib.hid (Below.trans H1.out (b2.mono (by omega)))
  clear T1 V1 H1 o2 b2
  go_wp2_with fail
  refine (HR1.out _ _ T2.out (Nat.le_refl _)).mono ?_
  rintro e w3 ⟨A3, c3, rfl, o3, b3⟩
  have z3 := b3.size
  have T3 := Lib.hid (Rd.more (T2.out.below b3 (Nat.le_refl _)) z3)
  have V13 := Lib.hid (Rd.more (V12.out.below b3 (Nat.le_refl _)) z3)
  have V23 := Lib.hid (Rd.more (V2.out.below b3 (Nat.le_refl _)) z3)
  have V3 := Lib.hid (Rd.of_own o3)
  have H3 := Lib.hid (Below.trans H2.out (b3.mono (by omega)))
  clear T2 V12 V2 H2 o3 b3
  go_wp2_with fail
  refine (HR2.out _).mono ?_
  rintro e w4 ⟨A4, c4, rfl, o4, b4⟩
  have z4 := b4.size
  have T4 := Lib.hid (Rd.more (T3.out.below b4 (Nat.le_refl _)) z4)
  have V14 := Lib.hid (Rd.more (V13.out.below b4 (Nat.le_refl _)) z4)
  have V24 := Lib.hid (Rd.more (V23.out.below b4 (Nat.le_refl _)) z4)
  have V34 := Lib.hid (Rd.more (V3.out.below b4 (Nat.le_refl _)) z4)
  have V4 := Lib.hid (Rd.of_own o4)
  have H4 := Lib.hid (Below.trans H3.out (b4.mono (by omega)))
  clear T3 V13 V23 V3 H3 o4 b4 HL1 HL2 HR1 HR2
  go_wp2_with fail
  refine (likeInts_same L A1 A2 _ _ _ _ _ V14.out V24.out hLl2).mono ?_
  rintro e w5 ⟨rfl, b5⟩
  have z5 := b5.size
  have T5 := Lib.hid (Rd.more (T4.out.below b5 (Nat.le_refl _)) z5)
  have V25 := Lib.hid (Rd.more (V24.out.below b5 (Nat.le_refl _)) z5)
  have V35 := Lib.hid (Rd.more (V34.out.below b5 (Nat.le_refl _)) z5)
  have V45 := Lib.hid (Rd.more (V4.out.below b5 (Nat.le_refl _)) z5)
  have H5 := Lib.hid (Below.trans H4.out (b5.mono (by omega)))
  clear T4 V14 V24 V34 V4 H4 b5
  go_wp2_with fail
  refine (likeInts_same R A3 A4 _ _ _ _ _ V35.out V45.out hRl).mono ?_
  rintro e w6 ⟨rfl, b6⟩
  have z6 := b6.size
  have T6 := Lib.hid (Rd.more (T5.out.below b6 (Nat.le_refl _)) z6)
  have V26 := Lib.hid (Rd.more (V25.out.below b6 (Nat.le_refl _)) z6)
  have V46 := Lib.hid (Rd.more (V45.out.below b6 (Nat.le_refl _)) z6)
  have H6 := Lib.hid (Below.trans H5.out (b6.mono (by omega)))
  clear T5 V25 V35 V45 H5 b6
  rcases HWc.out with rfl | ⟨rfl, rfl, hR⟩ | ⟨rfl, rfl, hR, hr0, hr1, hr2⟩
  · go_wp2
    go_ret
    exact ⟨rfl, H6.out⟩
  · have HI := hasInt_any R t A4 _ c4 _ V46.out hRl
    rw [hR] at HI
    have HH := Lib.hid HI
    have HRI := Lib.hid (fun (A : Option Addr) (B c : Nat) (w : World) (hr : Rd w B A ((cmdsOf r b L).flatMap eCommand)) (hB : B ≤ w.heap.size) (hT : Rd w B (some ⟨0, 0, none⟩) tabL) => (by
      have h := run_impl (cmdsOf r b L) f A B c w hr hB (by rw [cmdsOf_len]; omega) hT
      rw [cmdsOf_len] at h
      exact h : Calls Tryd.prog 22 #[.int .i64 f, .slice A L.length c] w fun e w' => ∃ A' c', e = .returned (.tuple #[.int .i64 (rnM (cmdsOf r b L) f), .slice A' (rnR (cmdsOf r b L) f).length c', .int .i64 (rnC (cmdsOf r b L) f)]) ∧ w'.ownsRow w.heap.size 2 1 (.slice A' (rnR (cmdsOf r b L) f).length c') (rnR (cmdsOf r b L) f).length (ints (rnR (cmdsOf r b L) f)) ∧ Below w.heap.size w w'))
    have hVl := rnR_len (cmdsOf r b L) f
    generalize rnM (cmdsOf r b L) f = mm at *
    generalize rnC (cmdsOf r b L) f = cc at *
    generalize rnR (cmdsOf r b L) f = V at *
    skip
    clear HI HWc hR
    go_wp2_with (go_at_call 32; refine HH.out.mono ?_; rintro e w' ⟨rfl, rfl⟩)
    have START := Lib.hid (World.ownsRow_made (base := w6.heap.size) (e := 31) (size := 3) w6 #[] 0 (Nat.le_refl _) (by simp [maxLen]) rfl)
    have BST := Lib.hid ((Below.refl w6.heap.size w6).alloc (Nat.le_refl _) (.cells #[] 31))
    generalize w6.alloc (.cells #[] 31) = ws at *
    go_loopg [15, 16] L.length (fun gk v i wr => ∃ k A c, k + gk = L.length ∧ i = .int .i64 (k : Nat) ∧ v = .slice A k c ∧ wr.ownsRow w6.heap.size 31 3 (.slice A k c) k ((cmdsOf r b (L.take k)).flatMap eCommand) ∧ Below w6.heap.size w6 wr)
    case atStart => exact ⟨0, _, _, Nat.zero_add _, rfl, rfl, START.out, BST.out⟩
    case round =>
      clear START BST
      obtain ⟨k, A, c, hk, rfl, rfl, how, hbw⟩ := hrel
      have How := Lib.hid how
      have Hbw := Lib.hid hbw
      have hbz := hbw.size
      by_cases hlt : k < L.length
      · have hki : (k : Int) < (L.length : Int) := by omega
        have hk0 : (0 : Int) ≤ (k : Int) := by omega
        have hx := List.getElem?_eq_getElem hlt
        generalize L[k] = x at hx
        obtain ⟨bb, oo, rfl, _, cx⟩ := (V26.out.below hbw (Nat.le_refl _)).int hx
        have Hs := Lib.hid (cmdsOf_step r b hx)
        generalize cmdsOf r b (L.take k) = cs at *
        clear how hbw hx
        go_wp2_with (at_builtin; refine wpList_append_cmd rfl (.tmp 98) (.tmp 106) rfl w6.heap.size _ k cs rfl How.out x r b rfl (by omega) hbz ?_; intro v5 w7 own5 hb5 hz5; obtain ⟨A5, c5, rfl⟩ := own_val own5; have O5 := Lib.hid own5; have B5 := Lib.hid hb5; clear own5 hb5)
        go_roundg (L.length - (k + 1))
        case rel => exact ⟨k + 1, A5, c5, by omega, by go_num, rfl, by rw [Hs.out]; exact O5.out, Hbw.out.trans B5.out⟩
        all_goals omega
      · have hk' : k = L.length := by omega
        subst hk'
        rw [List.take_length] at how
        have hR6 := Lib.hid (Rd.of_own how)
        have T7 := Lib.hid ((T6.out.below hbw (Nat.le_refl _)).more hbz)
        clear how hbw How hk hlt
        go_wp2_with fail
        refine (HRI.out _ _ _ _ hR6.out (Nat.le_refl _) T7.out).mono ?_
        rintro e w8 ⟨A8, c8, rfl, o8, b8⟩
        have H8 := Lib.hid (Below.trans (Below.trans H6.out (Hbw.out.mono (by omega))) (b8.mono (by omega)))
        have z8 := b8.size
        have O8 := Lib.hid (Rd.of_own o8)
        clear o8 b8
        go_wp2
        go_ret
        exact ⟨rfl, H8.out⟩
  · have HI := hasInt_any R t A4 _ c4 _ V46.out hRl
    rw [hR] at HI
    have HH := Lib.hid HI
    have HRI := Lib.hid (fun (A : Option Addr) (B c : Nat) (w : World) (hr : Rd w B A ((cmdsOf r b L).flatMap eCommand)) (hB : B ≤ w.heap.size) (hT : Rd w B (some ⟨0, 0, none⟩) tabL) => (by
      have h := run_impl (cmdsOf r b L) f A B c w hr hB (by rw [cmdsOf_len]; omega) hT
      rw [cmdsOf_len] at h
      exact h : Calls Tryd.prog 22 #[.int .i64 f, .slice A L.length c] w fun e w' => ∃ A' c', e = .returned (.tuple #[.int .i64 (rnM (cmdsOf r b L) f), .slice A' (rnR (cmdsOf r b L) f).length c', .int .i64 (rnC (cmdsOf r b L) f)]) ∧ w'.ownsRow w.heap.size 2 1 (.slice A' (rnR (cmdsOf r b L) f).length c') (rnR (cmdsOf r b L) f).length (ints (rnR (cmdsOf r b L) f)) ∧ Below w.heap.size w w'))
    have hVl := rnR_len (cmdsOf r b L) f
    generalize rnM (cmdsOf r b L) f = mm at *
    generalize rnC (cmdsOf r b L) f = cc at *
    generalize rnR (cmdsOf r b L) f = V at *
    subst hr0; subst hr1; have hr3 := Lib.hid hr2; clear hr2
    clear HI HWc hR
    go_wp2_with (go_at_call 32; refine HH.out.mono ?_; rintro e w' ⟨rfl, rfl⟩)
    have START := Lib.hid (World.ownsRow_made (base := w6.heap.size) (e := 31) (size := 3) w6 #[] 0 (Nat.le_refl _) (by simp [maxLen]) rfl)
    have BST := Lib.hid ((Below.refl w6.heap.size w6).alloc (Nat.le_refl _) (.cells #[] 31))
    generalize w6.alloc (.cells #[] 31) = ws at *
    go_loopg [15, 16] L.length (fun gk v i wr => ∃ k A c, k + gk = L.length ∧ i = .int .i64 (k : Nat) ∧ v = .slice A k c ∧ wr.ownsRow w6.heap.size 31 3 (.slice A k c) k ((cmdsOf r b (L.take k)).flatMap eCommand) ∧ Below w6.heap.size w6 wr)
    case atStart => exact ⟨0, _, _, Nat.zero_add _, rfl, rfl, START.out, BST.out⟩
    case round =>
      clear START BST
      obtain ⟨k, A, c, hk, rfl, rfl, how, hbw⟩ := hrel
      have How := Lib.hid how
      have Hbw := Lib.hid hbw
      have hbz := hbw.size
      by_cases hlt : k < L.length
      · have hki : (k : Int) < (L.length : Int) := by omega
        have hk0 : (0 : Int) ≤ (k : Int) := by omega
        have hx := List.getElem?_eq_getElem hlt
        generalize L[k] = x at hx
        obtain ⟨bb, oo, rfl, _, cx⟩ := (V26.out.below hbw (Nat.le_refl _)).int hx
        have Hs := Lib.hid (cmdsOf_step r b hx)
        generalize cmdsOf r b (L.take k) = cs at *
        clear how hbw hx
        go_wp2_with (at_builtin; refine wpList_append_cmd rfl (.tmp 98) (.tmp 106) rfl w6.heap.size _ k cs rfl How.out x r b rfl (by omega) hbz ?_; intro v5 w7 own5 hb5 hz5; obtain ⟨A5, c5, rfl⟩ := own_val own5; have O5 := Lib.hid own5; have B5 := Lib.hid hb5; clear own5 hb5)
        go_roundg (L.length - (k + 1))
        case rel => exact ⟨k + 1, A5, c5, by omega, by go_num, rfl, by rw [Hs.out]; exact O5.out, Hbw.out.trans B5.out⟩
        all_goals omega
      · have hk' : k = L.length := by omega
        subst hk'
        rw [List.take_length] at how
        have hR6 := Lib.hid (Rd.of_own how)
        have T7 := Lib.hid ((T6.out.below hbw (Nat.le_refl _)).more hbz)
        clear how hbw How hk hlt
        go_wp2_with fail
        refine (HRI.out _ _ _ _ hR6.out (Nat.le_refl _) T7.out).mono ?_
        rintro e w8 ⟨A8, c8, rfl, o8, b8⟩
        have H8 := Lib.hid (Below.trans (Below.trans H6.out (Hbw.out.mono (by omega))) (b8.mono (by omega)))
        have z8 := b8.size
        have O8 := Lib.hid (Rd.of_own o8)
        clear o8 b8
        have hl6 : decide ((L.length : Int) < 6) = true := decide_eq_true (by omega)
        have HSM := Lib.hid (sum_zero V hVl hr3.out A8 _ c8 _ O8.out (Nat.le_refl _))
        go_wp2_with (go_at_call 33; refine HSM.out.mono ?_; rintro e w' ⟨rfl, rfl⟩)
        go_ret
        exact ⟨rfl, H8.out⟩
end Go.Proofs.YtakchdkoildkbaaDoor
