/- The law on limits. -/
import Derived.Test.YtooifamckccadaaDp
import Derived.Test.YtooifamckccadaaAdw
import Derived.Test.YtooifamckccadaaFv
import Derived.Test.YtooifamckccadaaPk
namespace Go.Proofs.Ytooifamckccadaa
open Go.ChangeShapes Go.WideShapes Go.ChangeAt Go.RowKit
set_option maxRecDepth 20000
set_option linter.unusedVariables false
set_option linter.unusedSimpArgs false
theorem runP_top (ls : List Seg) (on : List Int) : ∀ (n k : Nat) (e x : Ivl), x ∈ (runP ls on n k e).1 → x.2 ≤ 10000000000
  | 0, k, e, x, h => by simp [runP] at h
  | n + 1, k, e, x, h => by
    unfold runP at h
    cases ht : ls[k % ls.length]? with
    | none => rw [ht] at h; simp at h
    | some t =>
      rw [ht] at h
      simp only at h
      by_cases hb : badP (nextP on (k % ls.length) t e) = 0
      · rw [if_pos hb] at h
        rw [List.mem_cons] at h
        rcases h with rfl | h
        · exact (badP_ok hb).2
        · exact runP_top ls on n (k + 1) _ x h
      · rw [if_neg hb] at h
        simp at h
theorem alR_top {ls : List Seg} {on : List Int} {f n lo hi : Int} : ∀ x ∈ alR ls on f n lo hi, x.2 ≤ 10000000000 := by
  intro x hx
  unfold alR at hx
  split at hx
  · exact runP_top ls on _ _ _ x hx
  · simp at hx
theorem pkUp_bd {hi : Int} {l : List Ivl} (hh : hi ≤ 10000000000) (hl : ∀ x ∈ l, x.2 ≤ 10000000000) : ∀ k, hi ≤ pkUp hi l k ∧ pkUp hi l k ≤ 10000000000
  | 0 => ⟨Int.le_refl _, hh⟩
  | k + 1 => by
    obtain ⟨h1, h2⟩ := pkUp_bd hh hl k
    cases ht : l[k]? with
    | none => simp only [pkUp, ht]; exact ⟨h1, h2⟩
    | some x =>
      have hx := hl x (List.mem_of_getElem? ht)
      rw [pkUp_step ht]
      split <;> constructor <;> omega
theorem wl_law (ls : List Seg) (on lim : List Int) (f n lo hi : Int) : wlB ls on lim f n lo hi = (decide (foC ls on lim f n lo hi = 0) && decide (foV ls on lim f n lo hi < 0)) := by
  unfold wlB
  by_cases h : foC ls on lim f n lo hi = 0
  · have hv : foV ls on lim f n lo hi = ovF lim f.toNat (alR ls on f n lo hi) := by rw [foV, if_pos h]
    have := ovF_ge lim f.toNat (alR ls on f n lo hi)
    rw [hv, h]
    simp only [beq_self_eq_true, Bool.true_and, decide_true]
    rw [Bool.eq_iff_iff, beq_iff_eq, decide_eq_true_eq]
    omega
  · have e1 : (foC ls on lim f n lo hi == 0) = false := by rw [beq_eq_false_iff_ne]; exact h
    rw [e1, decide_eq_false h, Bool.false_and, Bool.false_and]
theorem lim_law {ls : List Seg} {on lim : List Int} {f n lo hi : Int} (h : foC ls on lim f n lo hi = 0) : alC ls on f n lo hi = 0 ∧ hi ≤ pkV ls on f n lo hi ∧ pkV ls on f n lo hi ≤ 10000000000 ∧ wlB ls on (List.replicate lim.length 100000) f n lo hi = true := by
  unfold foC at h
  split at h
  · rename_i hle
    split at h
    · rename_i hlim
      have hen : enB lo hi = true := by rw [Bool.and_eq_true] at hle; exact hle.2
      obtain ⟨_, _, h10⟩ := enB_iff.1 hen
      obtain ⟨p1, p2⟩ := pkUp_bd h10 (alR_top (ls := ls) (on := on) (f := f) (n := n) (lo := lo) (hi := hi)) (alR ls on f n lo hi).length
      have hpk : pkV ls on f n lo hi = pkUp hi (alR ls on f n lo hi) (alR ls on f n lo hi).length := by rw [pkV, if_pos h]
      refine ⟨h, by rw [hpk]; exact p1, by rw [hpk]; exact p2, ?_⟩
      have hlf : limB ls (List.replicate lim.length 100000) = true := by
        simp only [limB, Bool.and_eq_true, decide_eq_true_eq, List.length_replicate]
        refine ⟨lim_len hlim, ?_⟩
        rw [List.all_eq_true]
        intro x hx
        rw [List.eq_of_mem_replicate hx]
        decide
      have hc : foC ls on (List.replicate lim.length 100000) f n lo hi = 0 := by rw [foC, if_pos hle, if_pos hlf]; exact h
      rw [wl_law, hc]
      have hv : foV ls on (List.replicate lim.length 100000) f n lo hi = -1 := by
        rw [foV, if_pos hc]
        apply ovF_none
        intro j hj
        have hx := List.getElem?_eq_getElem hj
        have htop := alR_top (ls := ls) (on := on) (f := f) (n := n) (lo := lo) (hi := hi) _ (List.getElem_mem hj)
        cases hm : (List.replicate lim.length (100000 : Int))[(f.toNat + j) % (List.replicate lim.length (100000 : Int)).length]? with
        | none =>
          unfold ovT
          rw [hx, hm]
        | some m =>
          have hm2 := List.eq_of_mem_replicate (List.mem_of_getElem? hm)
          rw [ovT_at hx hm, hm2]
          simp
          omega
      rw [hv]
      rfl
    · omega
  · omega
set_option maxHeartbeats 4000000 in
theorem walkFnLimits (bl : List Int) (hbl : isU8 bl) (C : Option Addr) (cap : Nat) (w : World) (hr : Rd w w.heap.size C (bytesU bl)) (hlc : bl.length ≤ cap) (hm : cap ≤ maxLen) :
   Calls Try.prog 16 #[.slice C bl.length cap] w fun e w' => e = .returned (.bool true) ∧ Below w.heap.size w w' := by
  unfold maxLen at hm
  by_cases hn : bl.length ≤ 4096
  rotate_left
  · have hd : decide ((4096 : Int) < (bl.length : Int)) = true := by simp; omega
    go_enter Try.func16, Try.ntmps16
    go_wp2_with (go_at_call 18; refine (big_any _ _ _ _ (by omega)).mono ?_; rintro e w' ⟨rfl, rfl⟩)
    go_ret
    exact ⟨rfl, Below.refl _ _⟩
  have hd : decide ((4096 : Int) < (bl.length : Int)) = false := by simp; omega
  go_enter Try.func16, Try.ntmps16
  go_wp2_with fail
  refine (big_any _ _ _ _ (by omega)).mono ?_; rintro e w' ⟨rfl, rfl⟩
  go_wp2_with fail
  refine (drawOver_any bl hbl hn C cap _ hr).mono ?_
  rintro e w0 ⟨l, A, c, lim, Am, cm, f, n, x, y, on, Ao, co, rfl, hl, hlim, hon, Rl, Rm, Ro, b0⟩
  clear hr hbl hd
  have z0 := b0.size
  have HO := Lib.hid (fun (w' : World) (h1 : Rd w' w0.heap.size A (l.flatMap eSegment)) (h2 : Rd w' w0.heap.size Ao (ints on)) (h3 : Rd w' w0.heap.size Am (ints lim)) (hB : w0.heap.size ≤ w'.heap.size) => over_impl l on lim f n x y A w0.heap.size c Ao co Am cm w' h1 h2 h3 hB (by omega) (by omega) (by omega))
  have HOs := Lib.hid (fun (w' : World) (h1 : Rd w' w0.heap.size A (l.flatMap eSegment)) (h2 : Rd w' w0.heap.size Ao (ints on)) (h3 : Rd w' w0.heap.size Am (ints lim)) (hB : w0.heap.size ≤ w'.heap.size) => over_spec l on lim f n x y A w0.heap.size c Ao co Am cm w' h1 h2 h3 hB (by omega) (by omega) (by omega))
  have HW := Lib.hid (fun (w' : World) (h1 : Rd w' w0.heap.size A (l.flatMap eSegment)) (h2 : Rd w' w0.heap.size Ao (ints on)) (h3 : Rd w' w0.heap.size Am (ints lim)) (hB : w0.heap.size ≤ w'.heap.size) => within_impl l on lim f n x y A w0.heap.size c Ao co Am cm w' h1 h2 h3 hB (by omega) (by omega) (by omega))
  have HP := Lib.hid (fun (w' : World) (h1 : Rd w' w0.heap.size A (l.flatMap eSegment)) (h2 : Rd w' w0.heap.size Ao (ints on)) (hB : w0.heap.size ≤ w'.heap.size) => peak_impl l on f n x y A w0.heap.size c Ao co w' h1 h2 hB (by omega) (by omega))
  have hwf := fun (B : Nat) (Af : Option Addr) (cf : Nat) (w' : World) (h1 : Rd w' B A (l.flatMap eSegment)) (h2 : Rd w' B Ao (ints on)) (h3 : Rd w' B Af (ints (List.replicate lim.length 100000))) (hB : B ≤ w'.heap.size) => within_impl l on (List.replicate lim.length 100000) f n x y A B c Ao co Af cf w' h1 h2 h3 hB (by omega) (by omega) (by rw [List.length_replicate]; omega)
  rw [List.length_replicate] at hwf
  have HWf := Lib.hid hwf
  have LAW := Lib.hid (fun h : foC l on lim f n x y = 0 => lim_law h)
  have WL := wl_law l on lim f n x y
  generalize wlB l on lim f n x y = WB at *
  generalize wlB l on (List.replicate lim.length 100000) f n x y = WF at *
  generalize foV l on lim f n x y = V at *
  generalize foC l on lim f n x y = K at *
  generalize pkV l on f n x y = PK at *
  generalize alC l on f n x y = AC at *
  have Rl1 := Lib.hid ((Rl.alloc (Nat.le_refl _) (.cells #[.slice A l.length c] 26)).alloc (by simp) (.cells #[.int .i64 x, .int .i64 y] 29))
  have Rm1 := Lib.hid ((Rm.alloc (Nat.le_refl _) (.cells #[.slice A l.length c] 26)).alloc (by simp) (.cells #[.int .i64 x, .int .i64 y] 29))
  have Ro1 := Lib.hid ((Ro.alloc (Nat.le_refl _) (.cells #[.slice A l.length c] 26)).alloc (by simp) (.cells #[.int .i64 x, .int .i64 y] 29))
  have L1 := Lib.hid (bk_alloc (bk_new w0 #[.slice A l.length c] 26) (.cells #[.int .i64 x, .int .i64 y] 29))
  have I1 : Hid (Bk ((w0.alloc (.cells #[.slice A l.length c] 26)).alloc (.cells #[.int .i64 x, .int .i64 y] 29)) (w0.heap.size + 1) #[.int .i64 x, .int .i64 y]) := Lib.hid (by simpa using bk_new (w0.alloc (.cells #[.slice A l.length c] 26)) #[.int .i64 x, .int .i64 y] 29)
  have B1 := Lib.hid (show Below w.heap.size w ((w0.alloc (.cells #[.slice A l.length c] 26)).alloc (.cells #[.int .i64 x, .int .i64 y] 29)) from b0.trans ((((Below.refl w0.heap.size w0).alloc (Nat.le_refl _) _).alloc (by simp) _).mono z0))
  clear Rl Rm Ro b0 hwf
  go_wp2_with fail
  have hz1 : w0.heap.size + 1 < ((w0.alloc (.cells #[.slice A l.length c] 26)).alloc (.cells #[.int .i64 x, .int .i64 y] 29)).heap.size := by simp
  generalize ((w0.alloc (.cells #[.slice A l.length c] 26)).alloc (.cells #[.int .i64 x, .int .i64 y] 29)) = w1 at *
  refine (HO.out w1 Rl1.out Ro1.out Rm1.out (by omega)).mono ?_; rintro e w2 ⟨rfl, b2⟩
  have L2 := Lib.hid (bk_below L1.out b2 (by omega))
  have I2 := Lib.hid (bk_below I1.out b2 (by omega))
  have Rl2 := Lib.hid (Rl1.out.below b2 (by omega))
  have Rm2 := Lib.hid (Rm1.out.below b2 (by omega))
  have Ro2 := Lib.hid (Ro1.out.below b2 (by omega))
  have B2 := Lib.hid (B1.out.trans (b2.mono (by omega)))
  have z2 := b2.size
  obtain ⟨s0, sf, ss⟩ := bk1 L2.out
  obtain ⟨q0, q1, qf, qs⟩ := bk2 I2.out
  clear b2 HO L1 I1 Rl1 Rm1 Ro1 B1
  go_wp2_with fail
  refine (HOs.out w2 Rl2.out Ro2.out Rm2.out (by omega)).mono ?_; rintro e w3 ⟨rfl, b3⟩
  have L3 := Lib.hid (bk_below L2.out b3 (by omega))
  have I3 := Lib.hid (bk_below I2.out b3 (by omega))
  have Rl3 := Lib.hid (Rl2.out.below b3 (by omega))
  have Rm3 := Lib.hid (Rm2.out.below b3 (by omega))
  have Ro3 := Lib.hid (Ro2.out.below b3 (by omega))
  have B3 := Lib.hid (B2.out.trans (b3.mono (by omega)))
  have z3 := b3.size
  clear s0 sf ss q0 q1 qf qs
  obtain ⟨s0, sf, ss⟩ := bk1 L3.out
  obtain ⟨q0, q1, qf, qs⟩ := bk2 I3.out
  clear b3 HOs L2 I2 Rl2 Rm2 Ro2 B2
  go_wp2_with fail
  refine (HW.out w3 Rl3.out Ro3.out Rm3.out (by omega)).mono ?_; rintro e w4 ⟨rfl, b4⟩
  have L4 := Lib.hid (bk_below L3.out b4 (by omega))
  have I4 := Lib.hid (bk_below I3.out b4 (by omega))
  have Rl4 := Lib.hid (Rl3.out.below b4 (by omega))
  have Ro4 := Lib.hid (Ro3.out.below b4 (by omega))
  have B4 := Lib.hid (B3.out.trans (b4.mono (by omega)))
  have z4 := b4.size
  clear s0 sf ss q0 q1 qf qs
  clear b4 HW L3 I3 Rl3 Rm3 Ro3 B3
  by_cases hK : K = 0
  rotate_left
  · have h5 : (K != 0) = true := by simpa using hK
    have h6 : (K == 0) = false := by simpa using hK
    rw [decide_eq_false hK, Bool.false_and] at WL
    subst WL
    go_wp2
    go_ret
    exact ⟨rfl, B4.out⟩
  obtain ⟨l1, l2, l3, l4⟩ := LAW.out hK
  subst hK l1 l4
  rw [decide_eq_true (rfl : (0 : Int) = 0), Bool.true_and] at WL
  have WLh := Lib.hid WL
  clear LAW WL
  have HWB : (V < 0 ∧ WB = true) ∨ (¬ V < 0 ∧ WB = false) := by
    by_cases hV : V < 0
    · exact .inl ⟨hV, by rw [WLh.out, decide_eq_true hV]⟩
    · exact .inr ⟨hV, by rw [WLh.out, decide_eq_false hV]⟩
  clear WLh
  obtain ⟨i0, hi0, hz0, hz1', hz2⟩ := info_parts infoInt64
  have z0' : w0.heap.size + 1 < w4.heap.size := by omega
  have L2' := l2
  have L3' := l3
  rcases HWB with ⟨hV, rfl⟩ | ⟨hV, rfl⟩
  all_goals (
    go_wp2_with fail
    go_loopw [13, 14] (fun v i wr => ∃ k : Nat, k ≤ lim.length ∧ i = .int .i64 k ∧ wr.ownsRow w4.heap.size 2 1 v k (ints (List.replicate k 100000)) ∧ Below w4.heap.size w4 wr) (fun _ i _ => lim.length - (intOf i).toNat)
    case atStart => exact ⟨0, Nat.zero_le _, rfl, World.ownsRow_made (base := w4.heap.size) (e := 2) (size := 1) w4 #[] 0 (Nat.le_refl _) (by simp [maxLen]) rfl, (Below.refl _ _).alloc (Nat.le_refl _) _⟩
    case round =>
      obtain ⟨k, hk, rfl, hown, hbw⟩ := hrel
      have hsz := hbw.size
      have Ho := Lib.hid hown
      have Hb := Lib.hid hbw
      clear hown hbw
      by_cases hlt : k < lim.length
      · have hln : k ≤ 1048576 := by omega
        go_wp2_with (at_builtin; refine wpList_append_int rfl (.tmp 81) (.tmp 82) 27 rfl w4.heap.size 2 i0 Try.underlying27 hi0 hz0 hz1' hz2 _ _ (List.replicate k 100000) (by rfl) Ho.out 100000 (by rfl) hln hsz ?_; intro v5 w5 own5 hb5 hz5; have O5 := Lib.hid own5; have B5 := Lib.hid (Hb.out.trans hb5); clear own5 hb5)
        go_roundw
        case rel => exact ⟨k + 1, by omega, by go_num, by rw [List.replicate_succ']; exact O5.out, B5.out⟩
        case measure => simp [intOf]; omega
      · have hk' : k = lim.length := by omega
        subst hk'
        obtain ⟨Af, cf, rfl⟩ := own_val Ho.out
        have L5 := Lib.hid (bk_below L4.out Hb.out (by omega))
        have I5 := Lib.hid (bk_below I4.out Hb.out (by omega))
        have Rl5 := Lib.hid (Rl4.out.below Hb.out (by omega))
        have Ro5 := Lib.hid (Ro4.out.below Hb.out (by omega))
        have B5 := Lib.hid (B4.out.trans (Hb.out.mono (by omega)))
        obtain ⟨s0, sf, ss⟩ := bk1 L5.out
        obtain ⟨q0, q1, qf, qs⟩ := bk2 I5.out
        go_wp2_with fail
        refine (HP.out wr Rl5.out Ro5.out (by omega)).mono ?_; rintro e w6 ⟨rfl, b6⟩
        have L6 := Lib.hid (bk_below L5.out b6 ss)
        have I6 := Lib.hid (bk_below I5.out b6 qs)
        have z6 := b6.size
        have Rl6 := Lib.hid ((Rl5.out.below b6 (by omega)).more (show w0.heap.size ≤ w6.heap.size by omega))
        have Ro6 := Lib.hid ((Ro5.out.below b6 (by omega)).more (show w0.heap.size ≤ w6.heap.size by omega))
        have Rf6 := Lib.hid (Rd.of_own (own_below Ho.out b6))
        have B6 := Lib.hid (B5.out.trans (b6.mono (by omega)))
        clear s0 sf ss q0 q1 qf qs b6 L5 I5 Rl5 Ro5 B5 Ho Hb
        obtain ⟨s0, sf, ss⟩ := bk1 L6.out
        obtain ⟨q0, q1, qf, qs⟩ := bk2 I6.out
        go_wp2_with fail
        refine (HWf.out w6.heap.size Af cf w6 Rl6.out Ro6.out Rf6.out (Nat.le_refl _)).mono ?_; rintro e w7 ⟨rfl, b7⟩
        have B7 := B6.out.trans (b7.mono (by have := B6.out.size; omega))
        go_wp2
        go_ret
        exact ⟨rfl, B7⟩)
end Go.Proofs.Ytooifamckccadaa
