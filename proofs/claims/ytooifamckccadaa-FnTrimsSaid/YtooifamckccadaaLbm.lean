/- The least brakes, the reference's side: a walk. -/
import Derived.Test.YtooifamckccadaaLbs
import Derived.Test.YtooifamckccadaaTp
namespace Go.Proofs.Ytooifamckccadaa
open Go.ChangeShapes Go.WideShapes Go.ChangeAt Go.RowKit
set_option maxRecDepth 20000
set_option linter.unusedVariables false
set_option linter.unusedSimpArgs false
/-- is it a run with each segment at most once -/
def l9B (ls : List Seg) (f d : Int) : Bool := runB ls f d && decide (d ≤ (ls.length : Int))
theorem l9_nat {ls : List Seg} {f d : Int} (h : l9B ls f d = true) : ∃ f' n : Nat, f = f' ∧ d = n ∧ n ≤ 24 ∧ f' < ls.length ∧ n ≤ ls.length := by
  unfold l9B at h
  rw [Bool.and_eq_true] at h
  obtain ⟨f', n, rfl, rfl, h1, h2⟩ := run_nat h.1
  have := of_decide_eq_true h.2
  exact ⟨f', n, rfl, rfl, h1, h2, by omega⟩
theorem l09Run_any (ls : List Seg) (A : Option Addr) (c : Nat) (f d : Int) (q : Bool) (hq : l9B ls f d = q) (hn : ls.length ≤ 1048576) (w : World) :
   Calls Try.prog 100 #[.agg #[.slice A ls.length c], .int .i64 f, .int .i64 d] w fun e w' => e = .returned (.bool q) ∧ Below w.heap.size w w' := by
  subst hq
  cases h1 : runB ls f d with
  | false =>
    have HR := Lib.hid (fun (w' : World) => l06Range_any ls.length A c f d false h1 hn w')
    have hl : l9B ls f d = false := by rw [l9B, h1]; rfl
    rw [hl]
    clear h1 hl
    go_enter Try.func100, Try.ntmps100
    go_wp2_with (go_at_call 154; refine (HR.out _).mono ?_; rintro e w1 ⟨rfl, b1⟩; obtain ⟨hc1, hf1, hz1⟩ := bstep (N := w.heap.size + 1) (by go_size) b1; have y1 : w.heap.size < w1.heap.size := (by omega))
    go_ret
    exact ⟨rfl, by repeat' (first | (with_reducible exact Below.refl _ _) | (with_reducible assumption) | (with_reducible refine Below.alloc ?_ ?_ _) | (with_reducible refine Below.drew ?_) | (with_reducible refine below_drewN ?_ _) | (with_reducible refine Below.setCell ?_ ?_ _) | (with_reducible refine Below.trans ?_ (Below.mono (by assumption) ?_)) | go_size | (exact Below.size (by assumption)))⟩
  | true =>
    have HR := Lib.hid (fun (w' : World) => l06Range_any ls.length A c f d true h1 hn w')
    have hl : l9B ls f d = decide (d ≤ (ls.length : Int)) := by rw [l9B, h1]; rfl
    have Hl := Lib.hid hl
    clear h1 hl
    go_enter Try.func100, Try.ntmps100
    go_wp2_with (go_at_call 154; refine (HR.out _).mono ?_; rintro e w1 ⟨rfl, b1⟩; obtain ⟨hc1, hf1, hz1⟩ := bstep (N := w.heap.size + 1) (by go_size) b1; have y1 : w.heap.size < w1.heap.size := (by omega))
    go_ret
    exact ⟨ret_bool Hl.out.symm, by repeat' (first | (with_reducible exact Below.refl _ _) | (with_reducible assumption) | (with_reducible refine Below.alloc ?_ ?_ _) | (with_reducible refine Below.drew ?_) | (with_reducible refine below_drewN ?_ _) | (with_reducible refine Below.setCell ?_ ?_ _) | (with_reducible refine Below.trans ?_ (Below.mono (by assumption) ?_)) | go_size | (exact Below.size (by assumption)))⟩
/-- the least brakes, and the error -/
def lbX (ls : List Seg) (f d lo hi limit : Int) : List Int × Int :=
  if layB ls && enB lo hi then
    if l9B ls f d && inB limit 0 10000000000 then
      if (brkK ls f.toNat d.toNat ls.length).length ≤ 8 then
        match impS (kpB ls f.toNat d.toNat lo hi limit) (brkK ls f.toNat d.toNat ls.length) ((brkK ls f.toNat d.toNat ls.length).length + 1) with
        | some x => (x, 0)
        | none => ([], 4)
      else ([], 3)
    else ([], 2)
  else ([], 1)
theorem refS_len (kp : List Int → Bool) (l : List Int) : ∀ m, (refS kp l m).1.length ≤ l.length
  | 0 => by simp [refS]
  | m + 1 => by
    simp only [refS]
    split
    · exact chL_len l m
    · exact refS_len kp l m
def LbP (R : List Int × Int) (w : World) (e : Ending) (w' : World) : Prop := ∃ A2 c2, e = .returned (.tuple #[.slice A2 R.1.length c2, .int .i64 R.2]) ∧ w'.ownsRow w.heap.size 2 1 (.slice A2 R.1.length c2) R.1.length (ints R.1) ∧ Below w.heap.size w w'
theorem lbP_err {R : List Int × Int} {w w' : World} {x : Int} (h : R = ([], x)) (hb : Below w.heap.size w w') : LbP R w (.returned (.tuple #[.slice none 0 0, .int .i64 x])) w' := by
  subst h
  exact ⟨none, 0, rfl, World.ownsRow_nil _ _ _ _, hb⟩
theorem brk_sorted (ls : List Seg) (f cnt : Nat) : ∀ k, (brkK ls f cnt k).Pairwise (· < ·) ∧ ∀ x ∈ brkK ls f cnt k, 0 ≤ x ∧ x < (k : Int)
  | 0 => by simp [brkK]
  | k + 1 => by
    obtain ⟨h1, h2⟩ := brk_sorted ls f cnt k
    have hnew : ∀ y ∈ (match ls[k]? with | some t => if brkT ls.length f cnt k t then [(k : Int)] else [] | none => []), y = (k : Int) := by
      intro y hy
      split at hy
      · split at hy
        · simpa using hy
        · simp at hy
      · simp at hy
    have hpw : (match ls[k]? with | some t => if brkT ls.length f cnt k t then [(k : Int)] else [] | none => []).Pairwise (· < ·) := by
      split
      · split <;> simp
      · simp
    constructor
    · simp only [brkK]
      rw [List.pairwise_append]
      refine ⟨h1, hpw, fun x hx y hy => ?_⟩
      have := h2 x hx
      rw [hnew y hy]
      omega
    · intro x hx
      simp only [brkK, List.mem_append] at hx
      rcases hx with hx | hx
      · have := h2 x hx; omega
      · rw [hnew x hx]; omega
set_option maxHeartbeats 4000000 in
theorem leastBrakes_spec (ls : List Seg) (f d lo hi limit : Int) (A : Option Addr) (B c : Nat) (w : World) (hs : Rd w B A (ls.flatMap eSegment)) (hB : B ≤ w.heap.size) (hn : ls.length ≤ 1048576) :
   Calls Try.prog 33 #[.agg #[.slice A ls.length c], .int .i64 f, .int .i64 d, .agg #[.int .i64 lo, .int .i64 hi], .int .i64 limit] w (LbP (lbX ls f d lo hi limit) w) := by
  have Hs := Lib.hid ((hs.alloc hB (.cells #[.slice A ls.length c] 26)).alloc (by simp; omega) (.cells #[.int .i64 lo, .int .i64 hi] 29))
  have L0 := Lib.hid (bk_alloc (bk_new w #[.slice A ls.length c] 26) (.cells #[.int .i64 lo, .int .i64 hi] 29))
  have I0 : Hid (Bk ((w.alloc (.cells #[.slice A ls.length c] 26)).alloc (.cells #[.int .i64 lo, .int .i64 hi] 29)) (w.heap.size + 1) #[.int .i64 lo, .int .i64 hi]) := Lib.hid (by simpa using bk_new (w.alloc (.cells #[.slice A ls.length c] 26)) #[.int .i64 lo, .int .i64 hi] 29)
  have B0 := Lib.hid (show Below w.heap.size w ((w.alloc (.cells #[.slice A ls.length c] 26)).alloc (.cells #[.int .i64 lo, .int .i64 hi] 29)) by repeat' (first | (with_reducible exact Below.refl _ _) | (with_reducible assumption) | (with_reducible refine Below.alloc ?_ ?_ _) | (with_reducible refine Below.drew ?_) | (with_reducible refine below_drewN ?_ _) | (with_reducible refine Below.setCell ?_ ?_ _) | (with_reducible refine Below.trans ?_ (Below.mono (by assumption) ?_)) | go_size | (exact Below.size (by assumption))))
  have hz0 : ((w.alloc (.cells #[.slice A ls.length c] 26)).alloc (.cells #[.int .i64 lo, .int .i64 hi] 29)).heap.size = w.heap.size + 2 := by simp
  have HL := Lib.hid (fun (w' : World) (h : Rd w' B A (ls.flatMap eSegment)) (h3 : B ≤ w'.heap.size) => isLayout_spec ls A B c w' h h3 hn)
  generalize hX : lbX ls f d lo hi limit = X
  unfold lbX at hX
  clear hs
  cases hlay : layB ls with
  | false =>
    rw [hlay] at hX HL
    have HX := Lib.hid (show X = ([], 1) from hX.symm)
    clear hX hlay
    go_enter Try.func33, Try.ntmps33
    go_wp2_with fail
    refine (HL.out _ Hs.out (by omega)).mono ?_
    rintro e w1 ⟨rfl, b1⟩
    have B1 := Lib.hid (B0.out.trans (b1.mono (by omega)))
    clear b1
    go_wp2
    go_ret2
    exact lbP_err HX.out B1.out
  | true =>
  cases hen : enB lo hi with
  | false =>
    rw [hlay, hen] at hX
    rw [hlay] at HL
    have HE := Lib.hid (fun w' => isEn_spec_r lo hi false hen w')
    have HX := Lib.hid (show X = ([], 1) from hX.symm)
    clear hX hlay hen
    go_enter Try.func33, Try.ntmps33
    go_wp2_with fail
    refine (HL.out _ Hs.out (by omega)).mono ?_
    rintro e w1 ⟨rfl, b1⟩
    have I1 := Lib.hid (bk_below I0.out b1 (by omega))
    have B1 := Lib.hid (B0.out.trans (b1.mono (by omega)))
    have z1 := b1.size
    clear b1
    obtain ⟨i0, i1, jf, js⟩ := bk2 I1.out
    go_wp2_with fail
    refine (HE.out _).mono ?_
    rintro e w2 ⟨rfl, b2⟩
    have B2 := Lib.hid (B1.out.trans (b2.mono (by omega)))
    clear b2
    go_wp2
    go_ret2
    exact lbP_err HX.out B2.out
  | true =>
  have HE := Lib.hid (fun w' => isEn_spec_r lo hi true hen w')
  have HR := Lib.hid (fun (q : Bool) (hq : l9B ls f d = q) (w' : World) => l09Run_any ls A c f d q hq hn w')
  rw [hlay] at HL
  rw [hlay, hen] at hX
  have HX := Lib.hid hX
  have Hlay := Lib.hid hlay
  have Hen := Lib.hid hen
  clear hX hlay hen
  go_enter Try.func33, Try.ntmps33
  go_wp2_with fail
  refine (HL.out _ Hs.out (by omega)).mono ?_
  rintro e w1 ⟨rfl, b1⟩
  have z1 := b1.size
  have Hs1 := Lib.hid (Hs.out.below b1 (by omega))
  have L1 := Lib.hid (bk_below L0.out b1 (by omega))
  have I1 := Lib.hid (bk_below I0.out b1 (by omega))
  have B1 := Lib.hid (B0.out.trans (b1.mono (by omega)))
  clear b1 Hs L0 I0 B0
  obtain ⟨i0, i1, jf, js⟩ := bk2 I1.out
  go_wp2_with fail
  refine (HE.out _).mono ?_
  rintro e w2 ⟨rfl, b2⟩
  have z2 := b2.size
  have Hs2 := Lib.hid (Hs1.out.below b2 (by omega))
  have L2 := Lib.hid (bk_below L1.out b2 (by omega))
  have I2 := Lib.hid (bk_below I1.out b2 (by omega))
  have B2 := Lib.hid (B1.out.trans (b2.mono (by omega)))
  clear b2 Hs1 L1 I1 B1 i0 i1 jf js HE HL
  obtain ⟨s0, sf, ss⟩ := bk1 L2.out
  cases h9 : l9B ls f d with
  | false =>
    have hX := HX.out
    rw [h9] at hX
    have HX2 := Lib.hid (show X = ([], 2) from hX.symm)
    clear hX HX
    go_wp2_with fail
    refine (HR.out false h9 _).mono ?_
    rintro e w3 ⟨rfl, b3⟩
    have B3 := Lib.hid (B2.out.trans (b3.mono (by omega)))
    clear b3 s0 sf ss
    go_wp2
    go_ret2
    exact lbP_err HX2.out B3.out
  | true =>
  go_wp2_with fail
  refine (HR.out true h9 _).mono ?_
  rintro e w3 ⟨rfl, b3⟩
  have z3 := b3.size
  have Hs3 := Lib.hid (Hs2.out.below b3 (by omega))
  have L3 := Lib.hid (bk_below L2.out b3 (by omega))
  have I3 := Lib.hid (bk_below I2.out b3 (by omega))
  have B3 := Lib.hid (B2.out.trans (b3.mono (by omega)))
  clear b3 s0 sf ss Hs2 L2 I2 B2 HR
  cases hlim : inB limit 0 10000000000 with
  | false =>
    have hX := HX.out
    rw [h9, hlim] at hX
    have HX2 := Lib.hid (show X = ([], 2) from hX.symm)
    have HI := Lib.hid (fun w' => l01In_r limit 0 10000000000 false hlim w')
    clear hX HX hlim h9
    go_wp2_with (go_at_call 82; refine (HI.out _).mono ?_; rintro e w' ⟨rfl, rfl⟩)
    go_ret2
    exact lbP_err HX2.out B3.out
  | true =>
  have HI := Lib.hid (fun w' => l01In_r limit 0 10000000000 true hlim w')
  obtain ⟨f', n, rfl, rfl, hn24, hfl, hnl⟩ := l9_nat h9
  obtain ⟨_, hlen3, hlen24⟩ := lay_all Hlay.out
  have HBr := Lib.hid (fun (w' : World) (h : Rd w' B A (ls.flatMap eSegment)) (h3 : B ≤ w'.heap.size) => l09Brakes_any ls f' n hlen24 hfl hn24 A B c w' h h3)
  have HK := Lib.hid (fun (on : List Int) (hon : on.length ≤ 1048576) (A' : Option Addr) (c' : Nat) (B9 : Nat) (hB9 : B ≤ B9) (w' : World) (h : Rd w' B A (ls.flatMap eSegment)) (h2 : Rd w' B9 A' (ints on)) (h3 : B9 ≤ w'.heap.size) => l09Keeps_any ls on n f' lo hi limit Hlay.out Hen.out hn24 hfl A A' B9 c c' w' (h.more hB9) h2 h3 hon)
  have hX := HX.out
  rw [h9, hlim] at hX
  simp only [Int.toNat_natCast, Bool.and_self, if_true] at hX
  have hlb := brkK_len ls f' n ls.length
  have hsrt := (brk_sorted ls f' n ls.length).1
  generalize kpB ls f' n lo hi limit = kp at *
  generalize brkK ls f' n ls.length = L at *
  have HX2 := Lib.hid hX
  have Hsrt := Lib.hid hsrt
  clear hX HX hlim h9 hsrt Hlay Hen
  obtain ⟨s0, sf, ss⟩ := bk1 L3.out
  go_wp2_with (go_at_call 82; refine (HI.out _).mono ?_; rintro e w' ⟨rfl, rfl⟩)
  refine (HBr.out _ Hs3.out (by omega)).mono ?_
  rintro e w4 ⟨A4, c4, rfl, o4, b4⟩
  have z4 := b4.size
  have Hs4 := Lib.hid (Hs3.out.below b4 (by omega))
  have L4 := Lib.hid (bk_below L3.out b4 (by omega))
  have I4 := Lib.hid (bk_below I3.out b4 (by omega))
  have B4 := Lib.hid (B3.out.trans (b4.mono (by omega)))
  have O4 := Lib.hid o4
  clear b4 o4 s0 sf ss Hs3 L3 I3 B3 HBr HI
  by_cases h8 : L.length ≤ 8
  rotate_left
  · have hX := HX2.out
    rw [if_neg h8] at hX
    have HX3 := Lib.hid (show X = ([], 3) from hX.symm)
    have hd : decide ((8 : Int) < (L.length : Int)) = true := decide_eq_true (by omega)
    have hd2 : (8 : Int) < (L.length : Int) := by omega
    clear hX HX2 h8
    go_wp2
    go_ret2
    exact lbP_err HX3.out B4.out
  have hX := HX2.out
  rw [if_pos h8] at hX
  have HX3 := Lib.hid hX
  have hd2 : ¬ (8 : Int) < (L.length : Int) := by omega
  clear hX HX2
  go_wp2_with fail
  have O0 : Hid ((w4.alloc (.cells #[] 2)).ownsRow w.heap.size 2 1 (.slice (some ⟨w4.heap.size, 0, none⟩) 0 0) 0 (ints [])) := Lib.hid (by
    have := World.ownsRow_made (base := w.heap.size) (e := 2) (size := 1) w4 #[] 0 (by omega) (by simp [maxLen]) rfl
    simpa [ints] using this)
  have hp2 : 2 ^ L.length ≤ 256 := by
    have := Nat.pow_le_pow_right (show 0 < 2 by omega) h8
    simpa using this
  obtain ⟨P, hP⟩ : ∃ P : Nat, P = 2 ^ L.length := ⟨_, rfl⟩
  have e9 : wrap64 ((2 : Int) ^ L.length) = (P : Int) := by
    rw [hP, show ((2 : Int) ^ L.length) = ((2 ^ L.length : Nat) : Int) by rw [Int.natCast_pow]; rfl]
    exact IntWalk.wrap64_in _ (by omega)
  rw [← hP] at hp2
  have HP := Lib.hid hP
  have E9 := Lib.hid e9
  clear hP hd2 e9
  go_loopw [13, 14, 15] (fun v fb i wr => ∃ m : Nat, m ≤ P ∧ i = .int .i64 m ∧ fb = .bool (refS kp L m).2 ∧ wr.ownsRow w.heap.size 2 1 v (refS kp L m).1.length (ints (refS kp L m).1) ∧ Below w4.heap.size w4 wr) (fun _ _ i _ => P - (intOf i).toNat)
  case atStart => exact ⟨0, Nat.zero_le _, rfl, rfl, O0.out, (Below.refl _ _).alloc (Nat.le_refl _) _⟩
  case round =>
    clear O0
    obtain ⟨m, hm, rfl, rfl, hown, hbw⟩ := hrel
    have zr := hbw.size
    have hsl := refS_len kp L m
    have Ho := Lib.hid hown
    have Hb := Lib.hid hbw
    have O4r := Lib.hid (own_below O4.out (hbw.mono (Nat.le_refl _)))
    have Hsr := Lib.hid (Hs4.out.below hbw (by omega))
    have Lr := bk_below L4.out hbw (bk_lt L4.out)
    have Ir := bk_below I4.out hbw (bk_lt I4.out)
    have hL0 := bk_lt L4.out
    have hI0 := bk_lt I4.out
    have HL := Lib.hid Lr
    have HIr := Lib.hid Ir
    clear hown hbw Lr Ir
    by_cases hlt : m < P
    · have HC := Lib.hid (l09Choice_any L m h8 (by omega) A4 wr.heap.size c4 wr (Rd.of_own O4r.out) (Nat.le_refl _))
      have hcl := chL_len L m
      have HS := Lib.hid (show refS kp L (m + 1) = if (!(refS kp L m).2 || befB (chL L m) (refS kp L m).1) && kp (chL L m) then (chL L m, true) else refS kp L m from rfl)
      have hlt2 : (m : Int) < (P : Int) := by omega
      generalize refS kp L m = s at *
      generalize chL L m = ch at *
      obtain ⟨sb, sf⟩ := s
      dsimp only at *
      obtain ⟨A6, c6, rfl⟩ := own_val Ho.out
      have e9 := E9.out
      go_wp2_with fail
      clear e9
      refine HC.out.mono ?_
      rintro e w5 ⟨A5, c5, rfl, o5, b5⟩
      have z5 := b5.size
      have O5 := Lib.hid o5
      have Ob := Lib.hid (own_below Ho.out b5)
      have Hs5 := Lib.hid (Hsr.out.below b5 (by omega))
      have L5 := Lib.hid (bk_below HL.out b5 (by omega))
      have I5 := Lib.hid (bk_below HIr.out b5 (by omega))
      have B5 := Lib.hid (Hb.out.trans (b5.mono (by omega)))
      clear b5 o5 HC
      obtain ⟨s0, sf0, ss⟩ := bk1 L5.out
      obtain ⟨i0, i1, jf, js⟩ := bk2 I5.out
      have HK5 := Lib.hid (HK.out ch (by omega) A5 c5 w5.heap.size (by omega) w5 Hs5.out (Rd.of_own O5.out) (Nat.le_refl _))
      cases sf with
      | false =>
        cases hk : kp ch with
        | true =>
          have hs := HS.out
          rw [hk] at hs
          have HS2 := Lib.hid (show refS kp L (m + 1) = (ch, true) from hs)
          rw [hk] at HK5
          clear hs HS hk
          go_wp2_with fail
          refine HK5.out.mono ?_
          rintro e w6 ⟨rfl, b6⟩
          have O6 := Lib.hid (own_more (own_below O5.out b6) (show w.heap.size ≤ wr.heap.size by omega))
          have B6 := Lib.hid (B5.out.trans (b6.mono (by omega)))
          clear b6 s0 sf0 ss i0 i1 jf js
          go_wp2_with fail
          go_roundw
          case rel => exact ⟨m + 1, by omega, by go_num, by rw [HS2.out], by rw [HS2.out]; exact O6.out, B6.out⟩
          case measure => simp [intOf]; omega
        | false =>
          have hs := HS.out
          rw [hk] at hs
          have HS2 := Lib.hid (show refS kp L (m + 1) = (sb, false) from hs)
          rw [hk] at HK5
          clear hs HS hk
          go_wp2_with fail
          refine HK5.out.mono ?_
          rintro e w6 ⟨rfl, b6⟩
          have O6 := Lib.hid (own_below Ob.out b6)
          have B6 := Lib.hid (B5.out.trans (b6.mono (by omega)))
          clear b6 s0 sf0 ss i0 i1 jf js
          go_wp2_with fail
          go_roundw
          case rel => exact ⟨m + 1, by omega, by go_num, by rw [HS2.out], by rw [HS2.out]; exact O6.out, B6.out⟩
          case measure => simp [intOf]; omega
      | true =>
        have HF := Lib.hid (l09Before_any ch sb (by omega) (by omega) A5 A6 w5.heap.size c5 c6 w5 (Rd.of_own O5.out) (Rd.of_own Ob.out) (Nat.le_refl _))
        cases hbf : befB ch sb with
        | false =>
          have hs := HS.out
          rw [hbf] at hs
          have HS2 := Lib.hid (show refS kp L (m + 1) = (sb, true) from hs)
          rw [hbf] at HF
          clear hs HS hbf HK5
          go_wp2_with fail
          refine HF.out.mono ?_
          rintro e w6 ⟨rfl, b6⟩
          have O6 := Lib.hid (own_below Ob.out b6)
          have B6 := Lib.hid (B5.out.trans (b6.mono (by omega)))
          clear b6 s0 sf0 ss i0 i1 jf js
          go_wp2_with fail
          go_roundw
          case rel => exact ⟨m + 1, by omega, by go_num, by rw [HS2.out], by rw [HS2.out]; exact O6.out, B6.out⟩
          case measure => simp [intOf]; omega
        | true =>
          rw [hbf] at HF
          go_wp2_with fail
          refine HF.out.mono ?_
          rintro e w6 ⟨rfl, b6⟩
          have z6 := b6.size
          have O6 := Lib.hid (own_below O5.out b6)
          have Ob6 := Lib.hid (own_below Ob.out b6)
          have Hs6 := Lib.hid (Hs5.out.below b6 (by omega))
          have L6 := Lib.hid (bk_below L5.out b6 (by omega))
          have I6 := Lib.hid (bk_below I5.out b6 (by omega))
          have B6 := Lib.hid (B5.out.trans (b6.mono (by omega)))
          clear b6 s0 sf0 ss i0 i1 jf js HK5 HF
          have HK6 := Lib.hid (HK.out ch (by omega) A5 c5 w6.heap.size (by omega) w6 Hs6.out (Rd.of_own O6.out) (Nat.le_refl _))
          obtain ⟨s0, sf0, ss⟩ := bk1 L6.out
          obtain ⟨i0, i1, jf, js⟩ := bk2 I6.out
          cases hk : kp ch with
          | true =>
            have hs := HS.out
            rw [hbf, hk] at hs
            have HS2 := Lib.hid (show refS kp L (m + 1) = (ch, true) from hs)
            rw [hk] at HK6
            clear hs HS hk hbf
            go_wp2_with fail
            refine HK6.out.mono ?_
            rintro e w7 ⟨rfl, b7⟩
            have O7 := Lib.hid (own_more (own_below O6.out b7) (show w.heap.size ≤ wr.heap.size by omega))
            have B7 := Lib.hid (B6.out.trans (b7.mono (by omega)))
            clear b7 s0 sf0 ss i0 i1 jf js
            go_wp2_with fail
            go_roundw
            case rel => exact ⟨m + 1, by omega, by go_num, by rw [HS2.out], by rw [HS2.out]; exact O7.out, B7.out⟩
            case measure => simp [intOf]; omega
          | false =>
            have hs := HS.out
            rw [hbf, hk] at hs
            have HS2 := Lib.hid (show refS kp L (m + 1) = (sb, true) from hs)
            rw [hk] at HK6
            clear hs HS hk hbf
            go_wp2_with fail
            refine HK6.out.mono ?_
            rintro e w7 ⟨rfl, b7⟩
            have O7 := Lib.hid (own_below Ob6.out b7)
            have B7 := Lib.hid (B6.out.trans (b7.mono (by omega)))
            clear b7 s0 sf0 ss i0 i1 jf js
            go_wp2_with fail
            go_roundw
            case rel => exact ⟨m + 1, by omega, by go_num, by rw [HS2.out], by rw [HS2.out]; exact O7.out, B7.out⟩
            case measure => simp [intOf]; omega
    · have hk' : m = P := by omega
      subst hk'
      have hlt2 : ¬ (m : Int) < (m : Int) := by omega
      have hfs := find_same (kp := kp) Hsrt.out
      rw [← HP.out] at hfs
      have BB := Lib.hid (B4.out.trans (Hb.out.mono (by omega)))
      obtain ⟨A6, c6, rfl⟩ := own_val Ho.out
      rcases hfs with ⟨h1, h2⟩ | ⟨x, h1, h2⟩
      · have hX := HX3.out
        rw [h1] at hX
        have HX4 := Lib.hid (show X = ([], 4) from hX.symm)
        rw [h2] at *
        clear hX HX3 h1 h2
        have e9 := E9.out
        go_wp2
        go_ret2
        exact lbP_err HX4.out BB.out
      · have hX := HX3.out
        rw [h1] at hX
        have HX4 := Lib.hid (show X = (x, 0) from hX.symm)
        have ho := Ho.out
        rw [h2] at ho
        have Ho2 := Lib.hid ho
        clear ho
        rw [h2] at *
        dsimp only at *
        clear hX HX3 h1 h2
        have e9 := E9.out
        go_wp2
        go_ret2
        exact ⟨A6, c6, by rw [HX4.out]; rfl, by rw [HX4.out]; exact Ho2.out, BB.out⟩
end Go.Proofs.Ytooifamckccadaa
