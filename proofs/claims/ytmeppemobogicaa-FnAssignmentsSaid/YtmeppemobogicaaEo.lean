/- The orders of stops: walks of the program and of the reference. -/
import Derived.Test.YtmeppemobogicaaSi
namespace Go.Proofs.Ytmeppemobogicaa
open Go.ChangeShapes Go.WideShapes Go.ChangeAt Go.RowKit
set_option maxRecDepth 20000
set_option linter.unusedVariables false
set_option linter.unusedSimpArgs false
theorem insertion_zero (A : Option Addr) (cc : Nat) (f : Value) (w : World) :
   Calls Try.prog 88 #[.slice A 0 cc, .int .i64 0, .int .i64 0, f] w fun e w' => e = .returned (.tuple #[]) ∧ w = w' := by
  go_enter Try.func88, Try.ntmps88
  go_wp2_with fail
  go_loop [8] (fun i => i = .int .i64 1) (fun _ => 0)
  case atStart => rfl
  case round =>
    subst hrel
    go_wp2
    go_end0
    exact ⟨rfl, rfl⟩
theorem stable_zero (A : Option Addr) (cc : Nat) (f : Value) (w : World) :
   Calls Try.prog 86 #[.slice A 0 cc, .int .i64 0, f] w fun e w' => e = .returned (.tuple #[]) ∧ w = w' := by
  go_enter Try.func86, Try.ntmps86
  go_wp2_with fail
  go_loop [7, 8] (fun a b => a = .int .i64 0 ∧ b = .int .i64 20) (fun _ _ => 0)
  case atStart => exact ⟨rfl, rfl⟩
  case round =>
    obtain ⟨rfl, rfl⟩ := hrel
    go_wp2_with fail
    refine (insertion_zero A cc f _).mono ?_; rintro e w' ⟨rfl, rfl⟩
    go_wp2_with fail
    go_loop [6] (fun a => a = .int .i64 20) (fun _ => 0)
    case atStart => rfl
    case round =>
      subst hrel
      go_wp2
      go_end0
      exact ⟨rfl, rfl⟩
theorem sort_zero (A : Option Addr) (cc : Nat) (f : Value) (w : World) :
   Calls Try.prog 81 #[.slice A 0 cc, f] w fun e w' => e = .returned (.tuple #[]) ∧ w = w' := by
  go_enter Try.func81, Try.ntmps81
  go_wp2_with (go_at_call 86; refine (stable_zero A cc f _).mono ?_; rintro e w' ⟨rfl, rfl⟩)
  go_end0
  exact ⟨rfl, rfl⟩
theorem sort_len0 (n : Nat) (hn : n = 0) (A : Option Addr) (cc : Nat) (f : Value) (w : World) :
   Calls Try.prog 81 #[.slice A n cc, f] w fun e w' => e = .returned (.tuple #[]) ∧ w = w' := by
  subst hn
  exact sort_zero A cc f w
def SortP (times : List Int) (N base g cc : Nat) (w : World) (e : Ending) (w' : World) : Prop := e = .returned (.tuple #[]) ∧ w'.ownsRow base 2 1 (.slice (some ⟨g, 0, none⟩) N cc) N (ints (natI (ordT (tN times) N))) ∧ w.grownBy w' (some g)
theorem stable_any (times : List Int) (N : Nat) (hN : times.length = N) (Al : Option Addr) (cl cb B base g cc : Nat) (w : World) (h1 : 1 ≤ N) (h6 : N ≤ 6)
    (hcap : w.cell? ⟨cb, 0, none⟩ = some (.slice Al N cl)) (hcb : cb < base) (hr : Rd w B Al (ints times)) (hB : B ≤ base) (hbs : base ≤ w.heap.size)
    (hown : w.ownsRow base 2 1 (.slice (some ⟨g, 0, none⟩) N cc) N (ints (natI (List.range N)))) :
   Calls Try.prog 86 #[.slice (some ⟨g, 0, none⟩) N cc, .int .i64 N, .func (Fn.func 82) #[] #[.pointer (some ⟨cb, 0, none⟩)]] w (SortP times N base g cc w) := by
  have HI := Lib.hid (insertion_any times N hN Al cl cb B base g cc w h1 h6 hcap hcb hr hB hbs hown)
  have h20 : ¬ (20 : Int) ≤ (N : Int) := by omega
  have h20b : decide ((20 : Int) ≤ (N : Int)) = false := by simp; omega
  have h21b : decide ((20 : Int) < (N : Int)) = false := by simp; omega
  clear hN hcap hcb hr hB hbs hown
  go_enter Try.func86, Try.ntmps86
  go_wp2_with fail
  go_loop [7, 8] (fun a b => a = .int .i64 0 ∧ b = .int .i64 20) (fun _ _ => 0)
  case atStart => exact ⟨rfl, rfl⟩
  case round =>
    obtain ⟨rfl, rfl⟩ := hrel
    go_wp2_with fail
    refine HI.out.mono ?_; rintro e w' ⟨rfl, own1, gr1⟩
    have O1 := Lib.hid own1
    have G1 := Lib.hid gr1
    clear own1 gr1
    go_wp2_with fail
    go_loop [6] (fun a => a = .int .i64 20) (fun _ => 0)
    case atStart => rfl
    case round =>
      subst hrel
      go_wp2
      go_end0
      exact ⟨rfl, O1.out, G1.out⟩
theorem sort_any (times : List Int) (N : Nat) (hN : times.length = N) (Al : Option Addr) (cl cb B base g cc : Nat) (w : World) (h1 : 1 ≤ N) (h6 : N ≤ 6)
    (hcap : w.cell? ⟨cb, 0, none⟩ = some (.slice Al N cl)) (hcb : cb < base) (hr : Rd w B Al (ints times)) (hB : B ≤ base) (hbs : base ≤ w.heap.size)
    (hown : w.ownsRow base 2 1 (.slice (some ⟨g, 0, none⟩) N cc) N (ints (natI (List.range N)))) :
   Calls Try.prog 81 #[.slice (some ⟨g, 0, none⟩) N cc, .func (Fn.func 82) #[] #[.pointer (some ⟨cb, 0, none⟩)]] w (SortP times N base g cc w) := by
  have HI := Lib.hid (stable_any times N hN Al cl cb B base g cc w h1 h6 hcap hcb hr hB hbs hown)
  clear hN hcap hcb hr hB hbs hown
  go_enter Try.func81, Try.ntmps81
  go_wp2_with (go_at_call 86; refine HI.out.mono ?_; rintro e w' ⟨rfl, own1, gr1⟩; have O1 := Lib.hid own1; have G1 := Lib.hid gr1; clear own1 gr1)
  go_end0
  exact ⟨rfl, O1.out, G1.out⟩
set_option maxHeartbeats 1000000 in
theorem order_impl (times : List Int) (h6 : times.length ≤ 6) (Al : Option Addr) (B cl : Nat) (w : World) (hr : Rd w B Al (ints times)) (hB : B ≤ w.heap.size) :
   Calls Try.prog 67 #[.slice Al times.length cl] w fun e w' => ∃ A' c', e = .returned (.slice A' times.length c') ∧ w'.ownsRow w.heap.size 2 1 (.slice A' times.length c') times.length (ints (natI (ordT (tN times) times.length))) ∧ Below w.heap.size w w' := by
  obtain ⟨i0, hi0, hz0, hz1, hz2⟩ := info_parts infoInt64
  have hr0 := Lib.hid (hr.alloc hB (.cells #[.slice Al times.length cl] 29))
  have hc0 : (w.alloc (.cells #[.slice Al times.length cl] 29)).cell? ⟨w.heap.size, 0, none⟩ = some (.slice Al times.length cl) := by simp
  have hcW := Lib.hid (fun (wr : World) (hb : Below (w.heap.size + 1) (w.alloc (.cells #[.slice Al times.length cl] 29)) wr) => (hb.cell (p := ⟨w.heap.size, 0, none⟩) (by simp)).trans hc0)
  clear hr
  go_enter Try.func67, Try.ntmps67
  go_wp2_with fail
  go_loopw [3, 7] (fun v i wr => ∃ k : Nat, k ≤ times.length ∧ i = .int .i64 k ∧ wr.ownsRow (w.heap.size + 1) 2 1 v k (ints (natI (List.range k))) ∧ Below (w.heap.size + 1) (w.alloc (.cells #[.slice Al times.length cl] 29)) wr) (fun _ i _ => times.length - (intOf i).toNat)
  case atStart => exact ⟨0, Nat.zero_le _, rfl, World.ownsRow_nil _ _ _ _, Below.refl _ _⟩
  case round =>
    obtain ⟨k, hk, rfl, hown, hbw⟩ := hrel
    have hsz := hbw.size
    simp only [World.size_alloc] at hsz
    by_cases hlt : k < times.length
    · have hkn : k ≤ 1048576 := by omega
      have Ho := Lib.hid hown
      have hst : natI (List.range k) ++ [(k : Int)] = natI (List.range (k + 1)) := by rw [List.range_succ, natI_append]; rfl
      have Hst := Lib.hid hst
      have hki : (k : Int) < (times.length : Int) := by omega
      clear hown hst
      go_wp2_with (at_builtin; refine wpList_append_int rfl (.tmp 10) (.tmp 12) 29 rfl (w.heap.size + 1) 2 i0 Try.underlying29 hi0 hz0 hz1 hz2 _ _ (natI (List.range k)) (by rfl) Ho.out (k : Int) (by rfl) hkn hsz ?_; intro v1 w1 own1 hb1 hz3; have O1 := Lib.hid own1; clear own1)
      go_roundw
      case rel => exact ⟨k + 1, by omega, by go_num, by rw [← Hst.out]; exact O1.out, hbw.trans hb1⟩
      case measure => simp [intOf]; omega
    · have hk' : k = times.length := by omega
      subst hk'
      have hcr := hcW.out wr hbw
      have hb0 : Below w.heap.size w wr := Below.trans ((Below.refl _ _).alloc (Nat.le_refl _) _) (hbw.mono (by omega))
      have hrr := hr0.out.below hbw (by omega)
      rcases Nat.eq_zero_or_pos times.length with h0 | h0
      · have e : List.range times.length = ordT (tN times) times.length := by
          have h9 : ∀ n, n = 0 → List.range n = ordT (tN times) n := by rintro n rfl; rfl
          exact h9 _ h0
        rw [e] at hown
        obtain ⟨A1, c1, rfl⟩ := own_val hown
        have Ho := Lib.hid (own_more hown (show w.heap.size ≤ w.heap.size + 1 by omega))
        have HZ := Lib.hid (fun (f : Value) (w' : World) => sort_len0 times.length h0 A1 c1 f w')
        clear hown h0 hcr hrr e
        go_wp2_with (go_at_call 81; refine (HZ.out _ _).mono ?_; rintro e w' ⟨rfl, rfl⟩)
        go_ret
        exact ⟨A1, c1, rfl, Ho.out, hb0⟩
      · obtain ⟨A1, c1, rfl⟩ := own_val hown
        obtain ⟨g, rfl, hg1, hg2⟩ := own_form hown h0
        have HS := Lib.hid (sort_any times times.length rfl Al cl w.heap.size B (w.heap.size + 1) g c1 wr h0 h6 hcr (by omega) hrr (by omega) hsz hown)
        clear hown hcr hrr h0
        go_wp2_with (go_at_call 81; refine HS.out.mono ?_; rintro e w' ⟨rfl, own1, gr1⟩; have O1 := Lib.hid (own_more own1 (show w.heap.size ≤ w.heap.size + 1 by omega)); have G1 := Lib.hid gr1; clear own1 gr1)
        go_ret
        exact ⟨some ⟨g, 0, none⟩, c1, rfl, O1.out, hb0.trans (below_of_grownBy G1.out (by omega) (fun k e => by injection e with e; omega))⟩
theorem ordUp_le (t : Nat → Int) (n : Nat) : ∀ p, (ordUp t n p).length ≤ p * n
  | 0 => by simp [ordUp]
  | p + 1 => by
    rw [ordUp_step, List.length_append, Nat.succ_mul]
    have := ordUp_le t n p
    have h2 : (atPlace t n p n).length ≤ n := by
      have := List.length_filter_le (fun j => rankT t n j == p) (List.range n)
      simpa [atPlace] using this
    omega
theorem atPlace_le (t : Nat → Int) (n p i : Nat) : (atPlace t n p i).length ≤ i := by
  have := List.length_filter_le (fun j => rankT t n j == p) (List.range i)
  simpa [atPlace] using this
def befUp (t : Nat → Int) (i k : Nat) : Nat := ((List.range k).filter fun j => befB t j i).length
theorem befUp_step (t : Nat → Int) (i k : Nat) : befUp t i (k + 1) = befUp t i k + (if befB t k i then 1 else 0) := by
  rw [befUp, List.range_succ, List.filter_append, List.length_append]
  cases h : befB t k i <;> simp [befUp, h]
theorem befUp_le (t : Nat → Int) (i k : Nat) : befUp t i k ≤ k := by
  have := List.length_filter_le (fun j => befB t j i) (List.range k)
  simpa [befUp] using this
set_option maxHeartbeats 4000000 in
theorem order_spec (times : List Int) (N : Nat) (hN : times.length = N) (h6 : N ≤ 6) (Al : Option Addr) (B cl : Nat) (w : World) (hr : Rd w B Al (ints times)) (hB : B ≤ w.heap.size) :
   Calls Try.prog 68 #[.slice Al N cl] w fun e w' => ∃ A' c', e = .returned (.slice A' N c') ∧ w'.ownsRow w.heap.size 2 1 (.slice A' N c') N (ints (natI (ordT (tN times) N))) ∧ Below w.heap.size w w' := by
  obtain ⟨i0, hi0, hz0, hz1, hz2⟩ := info_parts infoInt64
  have HN := Lib.hid hN
  have Hr := Lib.hid hr
  have HO := Lib.hid (World.ownsRow_made (base := w.heap.size) (e := 2) (size := 1) w #[] 0 (Nat.le_refl _) (by simp [maxLen]) rfl)
  clear hN hr
  go_enter Try.func68, Try.ntmps68
  go_wp2_with fail
  go_loopw [3, 4] (fun v p wr => ∃ q : Nat, q ≤ N ∧ p = .int .i64 q ∧ wr.ownsRow w.heap.size 2 1 v (ordUp (tN times) N q).length (ints (natI (ordUp (tN times) N q))) ∧ Below w.heap.size w wr) (fun _ p _ => N - (intOf p).toNat)
  case atStart => exact ⟨0, Nat.zero_le _, rfl, HO.out, by repeat' (first | (with_reducible exact Below.refl _ _) | (with_reducible assumption) | (with_reducible refine Below.alloc ?_ ?_ _) | (with_reducible refine Below.drew ?_) | (with_reducible refine below_drewN ?_ _) | (with_reducible refine Below.setCell ?_ ?_ _) | (with_reducible refine Below.trans ?_ (Below.mono (by assumption) ?_)) | go_size | (exact Below.size (by assumption)))⟩
  case round =>
    clear HO
    obtain ⟨q, hq, rfl, hown, hbw⟩ := hrel
    by_cases hlt : q < N
    · have hqi : (q : Int) < (N : Int) := by omega
      have hle := ordUp_le (tN times) N q
      have hle2 : q * N ≤ 6 * 6 := Nat.mul_le_mul (by omega) h6
      have hln : (ordUp (tN times) N q).length ≤ 36 := by omega
      have hst := ordUp_step (tN times) N q
      generalize hU : ordUp (tN times) N q = U at *
      have Hst := Lib.hid hst
      have HU := Lib.hid hU
      obtain ⟨wo, hwo⟩ : ∃ wo : World, wo = wr := ⟨_, rfl⟩
      subst hwo
      have Ho := Lib.hid hown
      have Hb := Lib.hid hbw
      clear hown hbw hle hle2 hst hU
      go_wp2_with fail
      go_loopw [3, 5] (fun v i wi => ∃ k : Nat, k ≤ N ∧ i = .int .i64 k ∧ wi.ownsRow w.heap.size 2 1 v (U.length + (atPlace (tN times) N q k).length) (ints (natI (U ++ atPlace (tN times) N q k))) ∧ Below w.heap.size w wi) (fun _ i _ => N - (intOf i).toNat)
      case atStart => exact ⟨0, Nat.zero_le _, rfl, by simpa [atPlace] using Ho.out, Hb.out⟩
      case round =>
        clear Ho Hb
        obtain ⟨i, hi, rfl, hown, hbw⟩ := hrel
        by_cases hlt2 : i < N
        · have hii : (i : Int) < (N : Int) := by omega
          have hst2 := atPlace_step (tN times) N q i
          have hle2 := atPlace_le (tN times) N q i
          generalize hV : atPlace (tN times) N q i = V at *
          have Hst2 := Lib.hid hst2
          have HV := Lib.hid hV
          have hi' := List.getElem?_eq_getElem (show i < times.length by rw [HN.out]; exact hlt2)
          generalize times[i]'(by rw [HN.out]; exact hlt2) = y at hi'
          have hty := tN_at hi'
          have Hty := Lib.hid hty
          have Hi := Lib.hid hi'
          obtain ⟨wp, hwp⟩ : ∃ wp : World, wp = wr := ⟨_, rfl⟩
          subst hwp
          have Ho := Lib.hid hown
          have Hb := Lib.hid hbw
          have hsz := hbw.size
          clear hown hbw hst2 hV hi' hty
          go_wp2_with fail
          go_loopw [6, 7] (fun c k wj => ∃ j : Nat, j ≤ N ∧ k = .int .i64 j ∧ c = .int .i64 (befUp (tN times) i j) ∧ ∃ n, wj = wp.drewN n) (fun _ k _ => N - (intOf k).toNat)
          case atStart => exact ⟨0, Nat.zero_le _, rfl, rfl, 0, rfl⟩
          case round =>
            obtain ⟨j, hj, rfl, rfl, nn, rfl⟩ := hrel
            by_cases hlt3 : j < N
            · have hji : (j : Int) < (N : Int) := by omega
              have hj' := List.getElem?_eq_getElem (show j < times.length by rw [HN.out]; exact hlt3)
              generalize times[j]'(by rw [HN.out]; exact hlt3) = x at hj'
              have htx := tN_at hj'
              obtain ⟨b, o, rfl, _, c0⟩ := (Hr.out.below Hb.out hB).int hj'
              obtain ⟨b2, o2, he, _, d0⟩ := (Hr.out.below Hb.out hB).int Hi.out
              injection he with he
              injection he with e1 e2
              subst e1 e2
              have hbs := befUp_step (tN times) i j
              have hbl := befUp_le (tN times) i j
              generalize befUp (tN times) i j = z at hbs hbl
              have hbef : befB (tN times) j i = (decide (y < x) || (decide (x = y) && decide (j < i))) := by rw [befB, htx, Hty.out]
              rw [hbef] at hbs
              have i00 : (0 : Int) ≤ (i : Int) := by omega
              have j00 : (0 : Int) ≤ (j : Int) := by omega
              clear hj' htx hbef
              by_cases k1 : y < x
              · have d1 : decide (y < x) = true := by simpa using k1
                rw [d1] at hbs
                have Hbs := Lib.hid hbs
                clear hbs
                go_wp2_with fail
                go_quiet (fail)
                go_wp2
                go_roundw
                case rel => exact ⟨j + 1, by omega, by go_num, by rw [Hbs.out]; exact vint (by simp), _, by first | rfl | exact World.drewN_drewN _ _ _⟩
                case measure => simp [intOf]; omega
              · have d1 : decide (y < x) = false := by simpa using k1
                by_cases k2 : x = y
                · subst k2
                  have d2 : (x == x) = true := by simp
                  by_cases k3 : j < i
                  · have d3 : decide ((j : Int) < (i : Int)) = true := by simpa using k3
                    rw [d1, decide_eq_true k3] at hbs
                    have Hbs := Lib.hid hbs
                    clear hbs
                    go_wp2_with fail
                    go_quiet (fail)
                    go_wp2
                    go_roundw
                    case rel => exact ⟨j + 1, by omega, by go_num, by rw [Hbs.out]; exact vint (by simp), _, by first | rfl | exact World.drewN_drewN _ _ _⟩
                    case measure => simp [intOf]; omega
                  · have d3 : decide ((j : Int) < (i : Int)) = false := by simpa using k3
                    rw [d1, decide_eq_false k3] at hbs
                    have Hbs := Lib.hid hbs
                    clear hbs
                    go_wp2_with fail
                    go_quiet (fail)
                    go_wp2
                    go_roundw
                    case rel => exact ⟨j + 1, by omega, by go_num, by rw [Hbs.out]; exact vint (by simp), _, by first | rfl | exact World.drewN_drewN _ _ _⟩
                    case measure => simp [intOf]; omega
                · have d2 : (x == y) = false := by rw [beq_eq_false_iff_ne]; exact k2
                  rw [d1, decide_eq_false k2] at hbs
                  have Hbs := Lib.hid hbs
                  clear hbs
                  go_wp2_with fail
                  go_quiet (fail)
                  go_wp2
                  go_roundw
                  case rel => exact ⟨j + 1, by omega, by go_num, by rw [Hbs.out]; exact vint (by simp), _, by first | rfl | exact World.drewN_drewN _ _ _⟩
                  case measure => simp [intOf]; omega
            · have hj' : j = N := by omega
              subst hj'
              have hrk : befUp (tN times) i j = rankT (tN times) j i := rfl
              rw [hrk]
              have hrl : rankT (tN times) j i ≤ j := by rw [← hrk]; exact befUp_le _ _ _
              generalize hZ : rankT (tN times) j i = z at *
              have HZ := Lib.hid hZ
              have Ho2 := Lib.hid (own_drewN Ho.out nn)
              have hln2 : U.length + V.length ≤ 1048576 := by omega
              have hsz2 : w.heap.size ≤ (wp.drewN nn).heap.size := hsz
              have hb2 : Below w.heap.size w (wp.drewN nn) := below_drewN Hb.out nn
              have hs3 := Hst2.out
              clear hZ hrk
              by_cases hzq : z = q
              · subst hzq
                have zz : ((z : Int) == (z : Int)) = true := by simp
                rw [if_pos (by simp)] at hs3
                have Hs3 := Lib.hid hs3
                clear hs3
                go_wp2_with (at_builtin; refine wpList_append_int rfl (.tmp 57) (.tmp 59) 29 rfl w.heap.size 2 i0 Try.underlying29 hi0 hz0 hz1 hz2 _ _ (natI (U ++ V)) (by rfl) Ho2.out (i : Int) (by rfl) hln2 hsz2 ?_; intro v1 w1 own1 hb1 hz3; have O1 := Lib.hid own1; clear own1)
                go_roundw
                case rel => exact ⟨i + 1, by omega, by go_num, by rw [Hs3.out]; have h := O1.out; simpa [natI, Nat.add_assoc] using h, hb2.trans hb1⟩
                case measure => simp [intOf]; omega
              · have zz : ((z : Int) == (q : Int)) = false := by rw [beq_eq_false_iff_ne]; omega
                have zz2 : (z == q) = false := by rw [beq_eq_false_iff_ne]; exact hzq
                rw [zz2] at hs3
                have Hs3 := Lib.hid hs3
                clear hs3 zz2
                go_wp2
                go_roundw
                case rel => exact ⟨i + 1, by omega, by go_num, by rw [Hs3.out]; have h := Ho2.out; simpa [natI] using h, hb2⟩
                case measure => simp [intOf]; omega
        · have hi' : i = N := by omega
          subst hi'
          have Ho := Lib.hid hown
          clear hown
          go_wp2
          go_roundw
          case rel => exact ⟨q + 1, by omega, by go_num, by rw [Hst.out, List.length_append]; exact Ho.out, hbw⟩
          case measure => simp [intOf]; omega
    · have hq' : q = N := by omega
      subst hq'
      have hl := ordT_length (tN times) q
      have hown2 : wr.ownsRow w.heap.size 2 1 u3 q (ints (natI (ordT (tN times) q))) := by
        have := hown
        rw [show (ordUp (tN times) q q).length = q from hl] at this
        exact this
      obtain ⟨A1, c1, rfl⟩ := own_val hown2
      have Ho := Lib.hid hown2
      clear hown hown2 hl
      go_wp2
      go_ret
      exact ⟨A1, c1, rfl, Ho.out, hbw⟩
end Go.Proofs.Ytmeppemobogicaa
