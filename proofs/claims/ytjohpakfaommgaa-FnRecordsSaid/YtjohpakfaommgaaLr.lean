/- The law on records: walk. -/
import Derived.Test.YtjohpakfaommgaaDf
import Derived.Test.YtjohpakfaommgaaDd
import Derived.Test.YtjohpakfaommgaaLik
import Derived.Test.YtjohpakfaommgaaPj
import Derived.Test.YtjohpakfaommgaaPx
import Derived.Deep.RegionHeld3
namespace Go.Proofs.Ytjohpakfaommgaa
open Go.ChangeShapes Go.WideShapes Go.ChangeAt Go.RowKit
set_option maxRecDepth 20000
set_option linter.unusedVariables false
set_option linter.unusedSimpArgs false
theorem own_belowN {w w' : World} {N base : Nat} {e : TypeId} {size n : Nat} {v : Value} {xs : List Value} (h : w.ownsRow base e size v n xs) (hb : Below N w w') (hN : ∀ k, v.ownBlock = some k → k < N) : w'.ownsRow base e size v n xs := by
  refine ⟨h.1, ?_⟩
  rcases h.2 with hn | ⟨g, cap, cur, rfl, hg, hgg, rest⟩
  · exact .inl hn
  · exact .inr ⟨g, cap, cur, rfl, hg, (hb.block g (hN g rfl)).trans hgg, rest⟩
theorem rec_law {x y z n : Int} (h0 : encC x y z n = 0) : bytesB (encR x y z n) = true ∧ decOk (encR x y z n) = true ∧ dT (encR x y z n) = x ∧ dK (encR x y z n) = y ∧ dV (encR x y z n) = z ∧ dN (encR x y z n) = n ∧ (encR x y z n).length = 14 := by
  rcases enc_cases x y z n with ⟨_, e, _⟩ | ⟨_, _, e, _⟩ | ⟨t, k, v, m, rfl, rfl, rfl, rfl, ht, hk, hv, hm, hrb, _, _, hR⟩
  · omega
  · omega
  rw [hR]
  obtain ⟨a1, a2, a3, a4, a5, a6⟩ := dec_enc ht hk hv hm
  refine ⟨bytesB_of (by omega) (fun u hu => ?_), a6, a1, a2, a3, a4, a5⟩
  simp only [encL, List.mem_append] at hu
  rcases hu with hu | hu
  · obtain ⟨i, hi, rfl⟩ := List.getElem_of_mem hu
    exact preL_bytes hk i _ (List.getElem?_eq_getElem hi)
  · exact bytesL_mem hu
theorem shl_nat : ∀ r : Nat, r < 8 → wrap64 ((2 : Int) ^ r) = ((2 ^ r : Nat) : Int) := by decide +kernel
theorem xor_byte {v : Int} {r : Nat} (h0 : 0 ≤ v) (h1 : v ≤ 255) (hr : r < 8) : bits .xor .i64 v ((2 ^ r : Nat) : Int) = ((v.toNat ^^^ 2 ^ r : Nat) : Int) := by
  have hp : 2 ^ r < 2 ^ 8 := Nat.pow_lt_pow_right (by decide) hr
  have := i64_xor_nat v.toNat (2 ^ r) (by omega) (by omega)
  rw [Int.toNat_of_nonneg h0] at this
  exact this
theorem any_cast (bs : List Nat) (b : Nat) : (bs.map (fun k : Nat => (k : Int))).any (· == (b : Int)) = bs.any (· == b) := by
  induction bs with
  | nil => rfl
  | cons a bs ih =>
    simp only [List.map_cons, List.any_cons, ih]
    congr 1
    rw [Bool.eq_iff_iff, beq_iff_eq, beq_iff_eq]
    omega
theorem bytesB_isBytes {l : List Int} (h : l.length ≤ 2000) (hb : isBytes l) : bytesB l = true := bytesB_of h (fun x hx => by
  obtain ⟨i, hi, rfl⟩ := List.getElem_of_mem hx
  exact hb i _ (List.getElem?_eq_getElem hi))
set_option maxHeartbeats 4000000 in
theorem walkFnRecords (bl : List Int) (hbl : isU8 bl) (C : Option Addr) (cap : Nat) (w : World) (hr : Rd w w.heap.size C (bytesU bl)) (hlc : bl.length ≤ cap) (hm : cap ≤ maxLen) :
   Calls Try.prog 10 #[.slice C bl.length cap] w fun e w' => e = .returned (.bool true) ∧ Below w.heap.size w w' := by
  unfold maxLen at hm
  by_cases hn : bl.length ≤ 4096
  rotate_left
  · have hd : decide ((4096 : Int) < (bl.length : Int)) = true := by simp; omega
    go_enter Try.func10, Try.ntmps10
    go_wp2_with (go_at_call 37; refine (big_any _ _ _ _ (by omega)).mono ?_; rintro e w' ⟨rfl, rfl⟩)
    go_ret
    exact ⟨rfl, Below.refl _ _⟩
  have hd : decide ((4096 : Int) < (bl.length : Int)) = false := by simp; omega
  have hnl : bl.length ≤ 4096 := hn
  go_enter Try.func10, Try.ntmps10
  go_wp2_with fail
  refine (big_any _ _ _ _ (by omega)).mono ?_; rintro e w' ⟨rfl, rfl⟩
  have hr0 := hr; clear hr; have hr := Lib.hid hr0; clear hr0
  have Hbl := Lib.hid hbl; clear hbl hd
  go_wp2_with fail
  refine (drawEnc_any bl Hbl.out hn C cap _ hr.out).mono ?_; rintro e w1 ⟨x, y, z, n, rfl, b1⟩
  have z1 := b1.size
  have hr_ := Lib.hid (hr.out.step b1)
  clear hr; have hr := hr_; clear hr_
  have B_ := Lib.hid (show Below w.heap.size w w1 from (Below.refl w.heap.size w).trans (b1.mono (by exact Nat.le_refl _)))
  clear b1; have B0 := B_; clear B_
  have zz1 := B0.out.size
  have hel := encR_len x y z n
  have RL := Lib.hid (fun (h0 : encC x y z n = 0) => rec_law h0)
  have HES := Lib.hid (fun w => enc_spec x y z n w)
  go_wp2_with fail
  refine (enc_impl x y z n (w1.alloc (.cells #[.int .i64 x, .int .i64 y, .int .i64 z] 35))).mono ?_; rintro e w2 ⟨Am, cm, rfl, om, b2⟩
  have z2 := b2.size
  simp only [World.size_alloc] at z2
  have hr_ := Lib.hid ((hr.out.stepAlloc _).step b2)
  clear hr; have hr := hr_; clear hr_
  have X := Lib.hid (bk_below (bk_new w1 _ _) b2 (by first | omega | (simp only [World.size_alloc]; omega) | (simp; omega)))
  have lX := bk_lt X.out
  have B_ := Lib.hid (show Below w.heap.size w w2 from B0.out.trans ((Below.mono ((Below.refl _ _).alloc (Nat.le_refl _) _) (by have := B0.out.size; omega)).trans (b2.mono (by have := B0.out.size; simp only [World.size_alloc]; omega))))
  clear B0 b2; have B0 := B_; clear B_
  have zz2 := B0.out.size
  have hcm := own_capm om
  have Rm := Lib.hid (Rd.of_own om); clear om
  obtain ⟨q0, q1, q2, qf, qs⟩ := bk3 X.out
  go_wp2_with fail
  refine (HES.out _).mono ?_; rintro e w3 ⟨An, cn, rfl, on, b3⟩
  have z3 := b3.size
  have hr_ := Lib.hid (hr.out.step b3)
  clear hr; have hr := hr_; clear hr_
  have Rm_ := Lib.hid (Rm.out.step b3)
  clear Rm; have Rm := Rm_; clear Rm_
  have X_ := Lib.hid (bk_below X.out b3 (by first | omega | (simp only [World.size_alloc]; omega) | (simp; omega)))
  clear X; have X := X_; clear X_
  have B_ := Lib.hid (show Below w.heap.size w w3 from B0.out.trans (b3.mono (by have := B0.out.size; omega)))
  clear B0 b3; have B0 := B_; clear B_
  have zz3 := B0.out.size
  clear q0 q1 q2 qf qs
  have Rn := Lib.hid (Rd.of_own on); clear on HES
  go_wp2_with fail
  refine (drawDec_any bl Hbl.out hnl C cap _ hr.out).mono ?_; rintro e w4 ⟨d, Ad, cd, rfl, hdl, hdc, rd, b4⟩
  have z4 := b4.size
  have hr_ := Lib.hid (hr.out.step b4)
  clear hr; have hr := hr_; clear hr_
  have Rm_ := Lib.hid (Rm.out.step b4)
  clear Rm; have Rm := Rm_; clear Rm_
  have Rn_ := Lib.hid (Rn.out.step b4)
  clear Rn; have Rn := Rn_; clear Rn_
  have X_ := Lib.hid (bk_below X.out b4 (by first | omega | (simp only [World.size_alloc]; omega) | (simp; omega)))
  clear X; have X := X_; clear X_
  have B_ := Lib.hid (show Below w.heap.size w w4 from B0.out.trans (b4.mono (by have := B0.out.size; omega)))
  clear B0 b4; have B0 := B_; clear B_
  have zz4 := B0.out.size
  have Rd_ := Lib.hid rd; clear rd
  have hd2 : d.length ≤ 1048576 := by omega
  generalize hT : dX (dcOk d) (dT d) = T
  have HI := Lib.hid (fun (w' : World) (h : Rd w' w'.heap.size Ad (ints d)) => dc_impl d Ad w'.heap.size cd w' h (Nat.le_refl _) hdc hd2)
  have HS := Lib.hid (fun (w' : World) (h : Rd w' w'.heap.size Ad (ints d)) => dc_spec d Ad w'.heap.size cd w' h (Nat.le_refl _) hdc hd2)
  rw [hT] at HI HS; clear hT
  generalize dX (dcOk d) (dK d) = K at *
  generalize dX (dcOk d) (dV d) = V at *
  generalize dX (dcOk d) (dN d) = N at *
  generalize dcC d = Dc at *
  go_wp2_with fail
  refine (HI.out _ Rd_.out).mono ?_; rintro e w5 ⟨rfl, b5⟩
  have z5 := b5.size
  have hr_ := Lib.hid (hr.out.step b5)
  clear hr; have hr := hr_; clear hr_
  have Rm_ := Lib.hid (Rm.out.step b5)
  clear Rm; have Rm := Rm_; clear Rm_
  have Rn_ := Lib.hid (Rn.out.step b5)
  clear Rn; have Rn := Rn_; clear Rn_
  have Rd__ := Lib.hid (Rd_.out.step b5)
  clear Rd_; have Rd_ := Rd__; clear Rd__
  have X_ := Lib.hid (bk_below X.out b5 (by first | omega | (simp only [World.size_alloc]; omega) | (simp; omega)))
  clear X; have X := X_; clear X_
  have B_ := Lib.hid (show Below w.heap.size w w5 from B0.out.trans (b5.mono (by have := B0.out.size; omega)))
  clear B0 b5; have B0 := B_; clear B_
  have zz5 := B0.out.size
  clear HI
  go_wp2_with fail
  refine (HS.out (w5.alloc (.cells #[.int .i64 T, .int .i64 K, .int .i64 V] 35)) (Rd_.out.stepAlloc _)).mono ?_; rintro e w6 ⟨rfl, b6⟩
  have z6 := b6.size
  simp only [World.size_alloc] at z6
  have hr_ := Lib.hid ((hr.out.stepAlloc _).step b6)
  clear hr; have hr := hr_; clear hr_
  have Rm_ := Lib.hid ((Rm.out.stepAlloc _).step b6)
  clear Rm; have Rm := Rm_; clear Rm_
  have Rn_ := Lib.hid ((Rn.out.stepAlloc _).step b6)
  clear Rn; have Rn := Rn_; clear Rn_
  have Rd__ := Lib.hid ((Rd_.out.stepAlloc _).step b6)
  clear Rd_; have Rd_ := Rd__; clear Rd__
  have X_ := Lib.hid (bk_below (bk_alloc X.out _) b6 (by first | omega | (simp only [World.size_alloc]; omega) | (simp; omega)))
  clear X; have X := X_; clear X_
  have Y := Lib.hid (bk_below (bk_new w5 _ _) b6 (by first | omega | (simp only [World.size_alloc]; omega) | (simp; omega)))
  have lY := bk_lt Y.out
  have B_ := Lib.hid (show Below w.heap.size w w6 from B0.out.trans ((Below.mono ((Below.refl _ _).alloc (Nat.le_refl _) _) (by have := B0.out.size; omega)).trans (b6.mono (by have := B0.out.size; simp only [World.size_alloc]; omega))))
  clear B0 b6; have B0 := B_; clear B_
  have zz6 := B0.out.size
  clear HS
  skip
  have X6 := Lib.hid (bk_alloc X.out (.cells #[.int .i64 T, .int .i64 K, .int .i64 V] 35))
  have Y6 := Lib.hid (bk_alloc Y.out (.cells #[.int .i64 T, .int .i64 K, .int .i64 V] 35))
  have Z6 := Lib.hid (bk_new w6 #[.int .i64 T, .int .i64 K, .int .i64 V] 35)
  have hm6 := Lib.hid (Rm.out.stepAlloc (.cells #[.int .i64 T, .int .i64 K, .int .i64 V] 35))
  have hn6 := Lib.hid (Rn.out.stepAlloc (.cells #[.int .i64 T, .int .i64 K, .int .i64 V] 35))
  have hr6 := Lib.hid (hr.out.stepAlloc (.cells #[.int .i64 T, .int .i64 K, .int .i64 V] 35))
  have B6 := Lib.hid (show Below w.heap.size w (w6.alloc (.cells #[.int .i64 T, .int .i64 K, .int .i64 V] 35)) from B0.out.alloc (by omega) _)
  have HEi := Lib.hid (fun w => isER_impl x y z w)
  have HEs := Lib.hid (fun w => isER_spec x y z w)
  generalize recB x y z = RB at HEi HEs
  clear X Y Rm Rn Rd_ hr B0 lX lY
  generalize encR x y z n = M at *
  generalize encC x y z n = E at *
  have hne1 : w1.heap.size ≠ w5.heap.size := by omega
  have HLI := Lib.hid (fun (w' : World) (h1 : Rd w' w'.heap.size Am (ints M)) (h2 : Rd w' w'.heap.size An (ints M)) => likeInts_same M Am An _ _ cm cn w' h1 h2 hel)
  go_wp2_with fail
  generalize hW6 : w6.alloc (.cells #[.int .i64 T, .int .i64 K, .int .i64 V] 35) = W6 at *
  have lt6 : w6.heap.size < W6.heap.size := by rw [← hW6]; simp
  clear hW6
  have qs := bk_lt X6.out
  have ys := bk_lt Y6.out
  obtain ⟨q0, q1, q2, qf, _⟩ := bk3 X6.out
  obtain ⟨y0, y1, y2, yf, _⟩ := bk3 Y6.out
  obtain ⟨c0, c1, c2, cf, _⟩ := bk3 Z6.out
  clear qf yf cf
  have BX := Lib.hid B6.out.size
  generalize hbx : w1.heap.size = bx at *
  generalize hby : w5.heap.size = bY at *
  generalize hbz : w6.heap.size = bz at *
  clear hbx hby hbz z1 zz1 z2 zz2 z3 zz3 z4 zz4 z5 zz5 z6 zz6
  go_region_held3 (fun w' => w'.cell? ⟨bx, 0, none⟩ = some (.int .i64 x) ∧ w'.cell? ⟨bx, 1, none⟩ = some (.int .i64 y) ∧ w'.cell? ⟨bx, 2, none⟩ = some (.int .i64 z) ∧ w'.cell? ⟨bY, 0, none⟩ = some (.int .i64 T) ∧ w'.cell? ⟨bY, 1, none⟩ = some (.int .i64 K) ∧ w'.cell? ⟨bY, 2, none⟩ = some (.int .i64 V) ∧ w'.cell? ⟨bz, 0, none⟩ = some (.int .i64 T) ∧ w'.cell? ⟨bz, 1, none⟩ = some (.int .i64 K) ∧ w'.cell? ⟨bz, 2, none⟩ = some (.int .i64 V)) (simp [*])
    (first | (go_at_call 40; refine (HLI.out _ hm6.out.stepDrew hn6.out.stepDrew).mono ?_; rintro e w7 ⟨rfl, b7_⟩; have b7 : Below W6.heap.size W6 w7 := (by exact Below.trans (Below.drew (Below.refl _ _)) b7_); clear b7_; obtain ⟨hc7, hf7, hz7⟩ := bstep (N := W6.heap.size) (Nat.le_refl _) b7; clear hf7) | (go_at_call 41; refine (HEi.out _).mono ?_; rintro e w8 ⟨rfl, b8⟩; obtain ⟨hc8, hf8, hz8⟩ := bstep (N := W6.heap.size) hz7 b8; clear hf8) | (go_at_call 42; refine (HEs.out _).mono ?_; rintro e w9 ⟨rfl, b9⟩; obtain ⟨hc9, hf9, hz9⟩ := bstep (N := W6.heap.size) hz8 b9; clear hf9))
  all_goals (
  have z7 := b7.size
  have z8 := b8.size
  have z9 := b9.size
  have bb := Lib.hid ((b7.trans (b8.mono (by omega))).trans (b9.mono (by omega)))
  have X9 := Lib.hid (bk_below X6.out bb.out qs)
  have R9 := Lib.hid (hr6.out.step bb.out)
  have M9 := Lib.hid (hm6.out.step bb.out)
  have N9 := Lib.hid (hn6.out.step bb.out)
  have B9 := Lib.hid (B6.out.trans (bb.out.mono BX.out))
  clear hc7 hc8 hc9 hz7 hz8 hz9 X6 Y6 Z6 hr6 hm6 hn6 B6 bb b7 b8 b9 q0 q1 q2 y0 y1 y2 c0 c1 c2 HLI HEi HEs
  by_cases hE : E = 0
  rotate_left
  · have h5 : (E != 0) = true := by simpa using hE
    clear X9 R9 M9 N9 RL
    go_wp2
    go_ret
    exact ⟨rfl, B9.out⟩
  obtain ⟨m1, m2, m3, m4, m5, m6, m14⟩ := RL.out hE
  have hW0 := Lib.hid (wrong_start (isBytes_of m1) m2)
  have hdm := dc_impl M Am w9.heap.size cm w9 M9.out (Nat.le_refl _) hcm.1 hel
  rw [show dcOk M = true by simp [dcOk, m1, m2], show dcC M = 0 by simp [dcC, m1, m2], m3, m4, m5, m6] at hdm
  simp only [dX, if_true] at hdm
  have h5 : (E != 0) = false := by rw [hE]; rfl
  have HDM := Lib.hid hdm
  have HM14 := Lib.hid m14
  clear hdm m1 m2 m3 m4 m5 m6 m14 RL hE
  have lx9 := bk_lt X9.out
  go_wp2_with fail
  refine HDM.out.mono ?_; rintro e w10 ⟨rfl, b10⟩
  have X10 := Lib.hid (bk_alloc (bk_below X9.out b10 lx9) (.cells #[.int .i64 x, .int .i64 y, .int .i64 z] 35))
  have Y10 := Lib.hid (bk_new w10 #[.int .i64 x, .int .i64 y, .int .i64 z] 35)
  have R10 := Lib.hid ((R9.out.step b10).stepAlloc (.cells #[.int .i64 x, .int .i64 y, .int .i64 z] 35))
  have N10 := Lib.hid ((N9.out.step b10).stepAlloc (.cells #[.int .i64 x, .int .i64 y, .int .i64 z] 35))
  have zb9 := B9.out.size
  have zb10 := b10.size
  have B10 := Lib.hid ((B9.out.trans (b10.mono zb9)).alloc (by omega) (.cells #[.int .i64 x, .int .i64 y, .int .i64 z] 35))
  clear b10 HDM X9 R9 M9 N9 B9
  obtain ⟨q0, q1, q2, qf, qs⟩ := bk3 X10.out
  obtain ⟨y0, y1, y2, yf, ys⟩ := bk3 Y10.out
  go_wp2_with fail
  clear q0 q1 q2 qf qs y0 y1 y2 yf ys X10 Y10
  generalize (w10.alloc (.cells #[.int .i64 x, .int .i64 y, .int .i64 z] 35)) = W10 at *
  refine (roll_any bl Hbl.out hnl _ C W10.heap.size cap W10 R10.out (Nat.le_refl _)).mono ?_; rintro e w11 ⟨rfl, hdi, b11, z11⟩
  have zB10 := B10.out.size
  have D11 := Lib.hid (DD.start (R10.out.below b11 (Nat.le_refl _)) hdi (Nat.le_refl _) Hbl.out hnl)
  have N11 := Lib.hid ((N10.out.below b11 (Nat.le_refl _)).alloc (by omega) (.cells #[] 2))
  have B11 := Lib.hid (B10.out.trans (b11.mono zB10))
  generalize hg : W10.heap.size = g at *
  clear hdi b11 N10 R10 B10
  obtain ⟨i0, hi0, hz0, hz1, hz2⟩ := info_parts infoInt64
  have ho11 := Lib.hid (World.ownsRow_made (base := w11.heap.size) (e := 2) (size := 1) w11 #[] 0 (Nat.le_refl _) (by simp [maxLen]) rfl)
  go_wp2_with (at_builtin; refine wpList_append_rd rfl (.tmp 113) (.tmp 114) 22 rfl w11.heap.size 2 i0 (.int .i64 0) 1 8 Try.underlying22 hi0 hz0 hz1 hz2 rfl (by decide) _ _ _ rfl ho11.out g An M.length cn (ints M) rfl (by simp [ints]) N11.out (ints_one _) (by unfold maxLen; omega) (by omega) (by simp) ?_; intro v12 w12 o12 hb12 hz12; have O12 := Lib.hid o12; clear o12)
  have o12 := O12.out
  rw [Nat.zero_add, List.nil_append, HM14.out] at o12
  obtain ⟨Aw, cw, rfl⟩ := own_val o12
  obtain ⟨gw, rfl, hgw, hgw2⟩ := own_form o12 (by omega)
  have hcw := own_cap o12
  have z12 : w11.heap.size < w12.heap.size := by simp at hz12; omega
  have O12w := Lib.hid ((World.ownsRow.alloc o12 (.cells #[] 2)))
  have D12 := Lib.hid (((D11.out.alloc (.cells #[] 2)).below hb12).alloc (.cells #[] 2))
  have hob := Lib.hid (World.ownsRow_made (base := w12.heap.size) (e := 2) (size := 1) w12 #[] 0 (Nat.le_refl _) (by simp [maxLen]) rfl)
  clear o12 O12 hb12 N11 ho11
  refine (below_dd D12.out 3 (by omega) (by omega)).mono ?_; rintro e w13 ⟨q, rfl, q0, q1, d13, g13⟩
  have D13 := Lib.hid d13
  have z13 := g13.size
  simp only [World.size_alloc] at z13
  replace z13 : w12.heap.size ≤ w13.heap.size := by omega
  have O13w := Lib.hid (own_apart O12w.out g13 (fun k hk => by injection hk with hk; omega))
  have O13b := Lib.hid (own_apart hob.out g13 (fun k hk => by injection hk with hk; omega))
  have hq1 : IntKind.i64.wrap (1 + q) = 1 + q := IntWalk.i64_in _ (by omega)
  clear d13 g13 O12w hob D12
  go_wp2_with fail
  go_loopw [21, 22] (fun v m wr => ∃ (L : List Int) (bs : List Nat) (q : Int), m = .int .i64 q ∧ 0 ≤ q ∧ bs.length + q ≤ 3 ∧ (0 < bs.length ∨ 0 < q) ∧ w12.heap.size ≤ wr.heap.size ∧ Wrong M L bs ∧ wr.ownsRow w11.heap.size 2 1 (.slice (some ⟨gw, 0, none⟩) 14 cw) 14 (ints L) ∧ wr.ownsRow w12.heap.size 2 1 v bs.length (ints (bs.map (fun k : Nat => (k : Int)))) ∧ DD w11 wr g g C cap bl) (fun _ m _ => (intOf m).toNat)
  case atStart => exact ⟨M, [], 1 + q, rfl, by omega, by simp; omega, .inr (by omega), z13, hW0.out, O13w.out, O13b.out, D13.out⟩
  case round =>
    clear q0 q1 hq1
    obtain ⟨L, bs, q, rfl, q0, q3, qb, zr, hW, how, hob, hd⟩ := hrel
    have HW := Lib.hid hW
    have Ow := Lib.hid how
    have Ob := Lib.hid hob
    have Dr := Lib.hid hd
    have h14 := hW.1
    have hz := hd.size
    clear hW how hob hd
    by_cases hlt : 0 < q
    · have hqw : IntKind.i64.wrap (q - 1) = q - 1 := IntWalk.i64_in _ (by omega)
      go_wp2_with fail
      refine (below_dd Dr.out 112 (by omega) (by omega)).mono ?_
      rintro e wa ⟨b, rfl, b0, b1, da, ga⟩
      have Da := Lib.hid da
      have zbs : w12.heap.size ≤ wa.heap.size := Nat.le_trans zr ga.size
      have Owa := Lib.hid (own_apart Ow.out ga (fun k hk => by injection hk with hk; omega))
      have Oba := Lib.hid (own_apart Ob.out ga (fun k hk => by injection hk with hk; omega))
      obtain ⟨b, rfl⟩ : ∃ k : Nat, b = k := ⟨b.toNat, by omega⟩
      have b2 : b < 112 := by omega
      clear da ga b0 b1 Ow Ob Dr
      obtain ⟨Ab, cb, rfl⟩ := own_val Oba.out
      have hb3 : bs.length ≤ 3 := by omega
      have hhi := hasInt_any (bs.map (fun k : Nat => (k : Int))) b Ab wa.heap.size cb wa (Rd.of_own Oba.out) (by rw [List.length_map]; omega)
      rw [List.length_map, any_cast] at hhi
      have za := Da.out.size.1
      by_cases hmem : b ∈ bs
      · rw [show bs.any (· == b) = true by simpa using hmem] at hhi
        have HHI := Lib.hid hhi
        clear hhi
        have hpos : 0 < bs.length := List.length_pos_of_mem hmem
        go_wp2_with (go_at_call 45; refine HHI.out.mono ?_; rintro e w' ⟨rfl, rfl⟩)
        go_roundw
        case rel => exact ⟨L, bs, q - 1, by go_num, by omega, by omega, .inl hpos, zbs, HW.out, Owa.out, Oba.out, Da.out⟩
        case measure => simp [intOf]; omega
      · rw [show bs.any (· == b) = false from List.any_eq_false.2 (fun k hk => by simp only [beq_iff_eq]; rintro rfl; exact hmem hk)] at hhi
        have HHI := Lib.hid hhi
        clear hhi
        have hp14 : b / 8 < L.length := by omega
        have ht := List.getElem?_eq_getElem hp14
        generalize L[b / 8] = v at ht
        obtain ⟨v0, v1⟩ := HW.out.2.1 _ _ ht
        have Hn := Lib.hid (wrong_step HW.out b2 hmem ht)
        have hr8 : b % 8 < 8 := Nat.mod_lt _ (by decide)
        have hx := xor_byte v0 v1 hr8
        have hs := Lib.hid (shl_nat _ hr8)
        have hx2 := Lib.hid hx
        clear hx
        have hln : bs.length ≤ 1048576 := by omega
        go_wp2_with (first | (go_at_call 45; refine HHI.out.mono ?_; rintro e w' ⟨rfl, rfl⟩) | (at_builtin; refine wpList_append_int rfl (.tmp 130) (.tmp 132) 22 rfl w12.heap.size 2 i0 Try.underlying22 hi0 hz0 hz1 hz2 _ _ (bs.map (fun k : Nat => (k : Int))) (by rfl) Oba.out (b : Int) (by rfl) hln zbs ?_; intro v5 w5 own5 hb5 hz5; have O5 := Lib.hid own5; clear own5; have ow5 := own_belowN Owa.out hb5 (fun k hk => by cases hk; exact hgw2); have cv : w5.cell? ⟨gw, b / 8, none⟩ = some (.int .i64 v) := (by rw [ow5.cellAt (b / 8) (by omega)]; simp [ints, ht]); have fv := ow5.frozenAt; have Ow5 := Lib.hid ow5; clear ow5))
        rw [hs.out, hx2.out]
        have o6 := World.ownsRow.stored Ow5.out (b / 8) (.int .i64 ((v.toNat ^^^ 2 ^ (b % 8) : Nat) : Int))
        have hset : (ints L).set (b / 8) (.int .i64 ((v.toNat ^^^ 2 ^ (b % 8) : Nat) : Int)) = ints (L.set (b / 8) ((v.toNat ^^^ 2 ^ (b % 8) : Nat) : Int)) := by simp [ints, List.map_set]
        have o7 := o6.1
        rw [hset] at o7
        have ob7 := own_apart O5.out o6.2 (fun k e => by injection e with e; omega)
        have e7 : bs.map (fun k : Nat => (k : Int)) ++ [(b : Int)] = (bs ++ [b]).map (fun k : Nat => (k : Int)) := by simp
        have e8 : bs.length + 1 = (bs ++ [b]).length := by simp
        rw [e7, e8] at ob7
        have d7 := (Da.out.below (hb5.mono (by omega))).below (below_of_grownBy (B := w11.heap.size) o6.2 (by omega) (fun k e => by injection e with e; omega))
        have z7' := o6.2.size
        refine ⟨⟨_, bs ++ [b], q - 1, rfl, by omega, by simp; omega, .inl (by simp), by omega, Hn.out, o7, ob7, d7⟩, ?_⟩
        simp [intOf]; omega
    · have hpos : 0 < bs.length := by omega
      have hdl := dc_impl L (some ⟨gw, 0, none⟩) wr.heap.size cw wr (Rd.of_own Ow.out) (Nat.le_refl _) (by omega) (by omega)
      have hno := wrong_end HW.out (by intro e; rw [e] at hpos; simp at hpos) (by omega)
      have hby := bytesB_isBytes (by omega) HW.out.2.1
      rw [h14, show dcOk L = false by simp [dcOk, hno], show dcC L = 6 by simp [dcC, hby, hno]] at hdl
      simp only [dX, if_false, Bool.false_eq_true] at hdl
      have HDL := Lib.hid hdl
      have Be := Lib.hid (B11.out.trans (Dr.out.bel (N := w.heap.size) zB10))
      clear hdl hno hby
      go_wp2_with fail
      refine HDL.out.mono ?_; rintro e we ⟨rfl, be⟩
      have Bf := Be.out.trans (be.mono (by have := Be.out.size; omega))
      go_wp2
      go_ret
      exact ⟨rfl, by repeat' (first | (with_reducible exact Below.refl _ _) | (with_reducible assumption) | (with_reducible refine Below.alloc ?_ ?_ _) | (with_reducible refine Below.drew ?_) | (with_reducible refine below_drewN ?_ _) | (with_reducible refine Below.setCell ?_ ?_ _) | (with_reducible refine Below.trans ?_ (Below.mono (by assumption) ?_)) | go_size | (exact Below.size (by assumption)))⟩)
end Go.Proofs.Ytjohpakfaommgaa
