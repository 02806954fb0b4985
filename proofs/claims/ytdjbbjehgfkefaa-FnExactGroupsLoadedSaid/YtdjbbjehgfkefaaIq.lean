/- IsSeating of the reference. -/
import Derived.Test.YtdjbbjehgfkefaaIg
import Derived.Test.YtdjbbjehgfkefaaQs
namespace Go.Proofs.Ytdjbbjehgfkefaa
open Go.ChangeShapes Go.WideShapes Go.ChangeAt Go.RowKit
set_option maxRecDepth 20000
set_option linter.unusedVariables false
set_option linter.unusedSimpArgs false
theorem verd_vals (a b c h : Int) : verd a b c h = 0 ∨ verd a b c h = 1 ∨ verd a b c h = 2 ∨ verd a b c h = 3 := by
  unfold verd
  split
  · exact .inl rfl
  · split
    · exact .inr (.inr (.inr rfl))
    · split
      · exact .inr (.inr (.inl rfl))
      · exact .inr (.inl rfl)
theorem comp_spec_r (s : List Int) (g : Nat) (q : Int) (hq : compF (qAll s g) s.length = q) (hg : g < s.length) (hsb : sBd s) (A : Option Addr) (B cc : Nat) (w : World) (hr : Rd w B A (ints s)) (hB : B ≤ w.heap.size) (hn : s.length ≤ 1048576) :
   Calls Try.prog 56 #[.slice A s.length cc, .int .i64 g] w fun e w' => e = .returned (.int .i64 q) ∧ Below w.heap.size w w' := hq ▸ comp_spec s g hg hsb A B cc w hr hB hn
theorem okA_at {s v : List Int} {n x r : Int} {k : Nat} (hs : s[k]? = some x) (hv : v.getD k 0 = r) : okA s v n k = ((decide (0 ≤ x) && decide (x ≤ 2 * n - 1)) && (!((s.take k).any (· == x)) && (r == 1 || r == 2))) := by
  have e : s.getD k 0 = x := by rw [List.getD_eq_getElem?_getD, hs]; rfl
  rw [okA, e, hv]
theorem isS_badA {s v : List Int} {n : Int} {k : Nat} (hk : k < s.length) (h : okA s v n k = false) : isS s v n = false := by
  rw [isS, List.all_eq_false.2 ⟨k, List.mem_range.2 hk, by rw [h]; decide⟩, Bool.false_and]
theorem isS_badB {s v : List Int} {n : Int} {k : Nat} (hk : k < s.length) (h : okB s v k = false) : isS s v n = false := by
  rw [isS, (List.all_eq_false (p := okB s v)).2 ⟨k, List.mem_range.2 hk, by rw [h]; decide⟩, Bool.and_false]
theorem isS_ok {s v : List Int} {n : Int} (h : ∀ j, j < s.length → okA s v n j = true) (h2 : ∀ j, j < s.length → okB s v j = true) : isS s v n = true := by
  rw [isS, List.all_eq_true.2 fun k hk => h k (List.mem_range.1 hk), List.all_eq_true.2 fun k hk => h2 k (List.mem_range.1 hk)]; rfl
theorem okB_at {s v : List Int} {r q : Int} {k : Nat} (hv : v.getD k 0 = r) (hq : compF (qAll s k) s.length = q) : okB s v k = !(r == 1 && (decide (q < 0) || !(v.getD q.toNat 0 == 2))) := by
  rw [okB, hv, hq]
theorem any_all_take {s : List Int} {k : Nat} {x : Int} (h : ∀ j y, j < k → s[j]? = some y → (y == x) = false) : (s.take k).any (· == x) = false := by
  rw [List.any_eq_false]
  intro y hy hc
  obtain ⟨j, hj, rfl⟩ := List.mem_iff_getElem.1 hy
  rw [List.length_take] at hj
  have := h j _ (by omega) (List.getElem?_eq_getElem (by omega))
  rw [List.getElem_take] at hc
  rw [this] at hc
  cases hc
theorem any_take_hit {s : List Int} {j k : Nat} {x : Int} (hj : j < k) (h : s[j]? = some x) : (s.take k).any (· == x) = true := by
  rw [List.any_eq_true]
  exact ⟨x, List.mem_of_getElem? (by rw [List.getElem?_take_of_lt hj]; exact h), by simp⟩
set_option maxHeartbeats 4000000 in
theorem isSeating_spec (a b c n : Int) (l s : List Int) (A As : Option Addr) (B cc cs : Nat) (w : World) (hr : Rd w B A (ints l)) (hrs : Rd w B As (ints s)) (hB : B ≤ w.heap.size) (hn : l.length ≤ 1048576) (hns : s.length ≤ 1048576) (hcs : s.length ≤ cs) (hsb : sBd s) :
   Calls Try.prog 26 #[.agg #[.int .i64 a, .int .i64 b, .int .i64 c], .slice A l.length cc, .slice As s.length cs, .int .i64 n] w fun e w' => e = .returned (.bool (seatB a b c l s n)) ∧ Below w.heap.size w w' := by
  by_cases h : hcode a b c l = 0
  rotate_left
  · have e : seatB a b c l s n = false := by rw [seatB, decide_eq_false h]; rfl
    rw [e]
    obtain ⟨r, hC⟩ : ∃ r, hcode a b c l = r := ⟨_, rfl⟩
    rw [hC] at h
    have hne : (r != 0) = true := by rw [bne_iff_ne]; exact h
    have heq : (r == 0) = false := by rw [beq_eq_false_iff_ne]; exact h
    have H0 := Lib.hid hC
    clear h hC
    go_enter Try.func26, Try.ntmps26
    go_wp2_with (first | (go_at_call 31; refine (hcode_spec_r a b c l r H0.out A B cc _ (hr.alloc hB _) (by simp; omega) hn).mono ?_; rintro e w1 ⟨rfl, hb⟩; obtain ⟨hc, hf, hz⟩ := bstep (N := w.heap.size + 1) (by go_size) hb))
    go_ret
    exact ⟨rfl, by repeat' (first | (with_reducible exact Below.refl _ _) | (with_reducible assumption) | (with_reducible refine Below.alloc ?_ ?_ _) | (with_reducible refine Below.drew ?_) | (with_reducible refine below_drewN ?_ _) | (with_reducible refine Below.setCell ?_ ?_ _) | (with_reducible refine Below.trans ?_ (Below.mono (by assumption) ?_)) | go_size | (exact Below.size (by assumption)))⟩
  have H0 := Lib.hid h
  cases hi : inB n 1 12 with
  | false =>
    have e : seatB a b c l s n = false := by rw [seatB, hi, decide_eq_true h]; rfl
    rw [e]
    have H1 := Lib.hid hi
    clear h hi
    go_enter Try.func26, Try.ntmps26
    go_wp2_with (first | (go_at_call 31; refine (hcode_spec_r a b c l 0 H0.out A B cc _ (hr.alloc hB _) (by simp; omega) hn).mono ?_; rintro e w1 ⟨rfl, hb⟩; obtain ⟨hc, hf, hz⟩ := bstep (N := w.heap.size + 1) (by go_size) hb) | (go_at_call 32; refine (l01In_r' _ _ _ false H1.out _).mono ?_; rintro e w' ⟨rfl, rfl⟩))
    go_ret
    exact ⟨rfl, by repeat' (first | (with_reducible exact Below.refl _ _) | (with_reducible assumption) | (with_reducible refine Below.alloc ?_ ?_ _) | (with_reducible refine Below.drew ?_) | (with_reducible refine below_drewN ?_ _) | (with_reducible refine Below.setCell ?_ ?_ _) | (with_reducible refine Below.trans ?_ (Below.mono (by assumption) ?_)) | go_size | (exact Below.size (by assumption)))⟩
  | true =>
    have H1 := Lib.hid hi
    have hi0 := hi
    rw [inB, Bool.and_eq_true, decide_eq_true_eq, decide_eq_true_eq] at hi0
    obtain ⟨n1, n12⟩ := hi0
    by_cases hl : s.length = l.length
    rotate_left
    · have e : seatB a b c l s n = false := by rw [seatB, hi, decide_eq_true h, decide_eq_false hl]; rfl
      rw [e]
      have hne : ((s.length : Int) != (l.length : Int)) = true := by rw [bne_iff_ne]; omega
      have heq : ((s.length : Int) == (l.length : Int)) = false := by rw [beq_eq_false_iff_ne]; omega
      clear h hi hl
      go_enter Try.func26, Try.ntmps26
      go_wp2_with (first | (go_at_call 31; refine (hcode_spec_r a b c l 0 H0.out A B cc _ (hr.alloc hB _) (by simp; omega) hn).mono ?_; rintro e w1 ⟨rfl, hb⟩; obtain ⟨hc, hf, hz⟩ := bstep (N := w.heap.size + 1) (by go_size) hb) | (go_at_call 32; refine (l01In_r' _ _ _ true H1.out _).mono ?_; rintro e w' ⟨rfl, rfl⟩))
      go_ret
      exact ⟨rfl, by repeat' (first | (with_reducible exact Below.refl _ _) | (with_reducible assumption) | (with_reducible refine Below.alloc ?_ ?_ _) | (with_reducible refine Below.drew ?_) | (with_reducible refine below_drewN ?_ _) | (with_reducible refine Below.setCell ?_ ?_ _) | (with_reducible refine Below.trans ?_ (Below.mono (by assumption) ?_)) | go_size | (exact Below.size (by assumption)))⟩
    have e : seatB a b c l s n = isS s (vl a b c l) n := by rw [seatB, hi, decide_eq_true h, decide_eq_true hl, isI_eq_isS]; rfl
    rw [e]
    have hbadA := Lib.hid (fun (k : Nat) (hk : k < s.length) (hq : okA s (vl a b c l) n k = false) => (isS_badA hk hq).symm)
    have hbadB := Lib.hid (fun (k : Nat) (hk : k < s.length) (hq : okB s (vl a b c l) k = false) => (isS_badB (n := n) hk hq).symm)
    have hgood := Lib.hid (fun (hq : ∀ j, j < s.length → okA s (vl a b c l) n j = true) (hq2 : ∀ j, j < s.length → okB s (vl a b c l) j = true) => (isS_ok hq hq2).symm)
    generalize isS s (vl a b c l) n = res at hbadA hbadB hgood ⊢
    have hne : ((s.length : Int) != (l.length : Int)) = false := by rw [bne_eq_false_iff_eq]; omega
    have heq : ((s.length : Int) == (l.length : Int)) = true := by rw [beq_iff_eq]; omega
    have HL := Lib.hid hl
    have HSB := Lib.hid hsb
    clear h hi hl e hsb
    go_enter Try.func26, Try.ntmps26
    go_wp2_with (first | (go_at_call 31; refine (hcode_spec_r a b c l 0 H0.out A B cc _ (hr.alloc hB _) (by simp; omega) hn).mono ?_; rintro e w1 ⟨rfl, hb⟩; have hbw1 := Lib.hid (((Below.refl _ _).alloc (Nat.le_refl _) (.cells #[.int .i64 a, .int .i64 b, .int .i64 c] 27)).trans (hb.mono (by simp))); obtain ⟨hc, hf, hz⟩ := bstep (N := w.heap.size + 1) (by go_size) hb) | (go_at_call 32; refine (l01In_r' _ _ _ true H1.out _).mono ?_; rintro e w' ⟨rfl, rfl⟩))
    have K1 := Lib.hid (bk_below (bk_new w #[.int .i64 a, .int .i64 b, .int .i64 c] 27) hb (by simp))
    clear hb hc hf
    go_loopw [9] (fun i wr => ∃ k : Nat, k ≤ s.length ∧ i = .int .i64 k ∧ (∀ j, j < k → okA s (vl a b c l) n j = true) ∧ Bk wr w.heap.size #[.int .i64 a, .int .i64 b, .int .i64 c] ∧ Below w.heap.size w wr) (fun i _ => s.length - (intOf i).toNat)
    case atStart => exact ⟨0, Nat.zero_le _, rfl, fun j hj => absurd hj (Nat.not_lt_zero _), K1.out, hbw1.out⟩
    case round =>
      clear K1 hbw1
      obtain ⟨k, hk, rfl, hall, k1, hbw⟩ := hrel
      have Hall := Lib.hid hall
      have hsz := hbw.size
      have Hbw := Lib.hid hbw
      by_cases hlt : k < s.length
      · have ht := List.getElem?_eq_getElem hlt
        generalize s[k] = x at ht
        have hlt2 : k < l.length := by have := HL.out; omega
        have hy := List.getElem?_eq_getElem hlt2
        generalize l[k] = y at hy
        have hvy := vl_get a b c hy
        have hvals := verd_vals a b c y
        obtain ⟨r, hvr⟩ : ∃ r, verd a b c y = r := ⟨_, rfl⟩
        rw [hvr] at hvy hvals
        have hok := okA_at (n := n) ht hvy
        rw [← inB_at] at hok
        have Hvr := Lib.hid hvr
        have Hrs := Lib.hid (hrs.below hbw hB)
        have Hr := Lib.hid (hr.below hbw hB)
        obtain ⟨bb, o, rfl, hbB, c0⟩ := Hrs.out.int ht
        obtain ⟨bb2, o2, rfl, hbB2, d0⟩ := Hr.out.int hy
        obtain ⟨p0, p1, p2, pf, ps⟩ := bk3 k1
        have Hk1 := Lib.hid k1
        have hi0 : (0 : Int) ≤ (k : Int) := by omega
        have hi1 : (k : Int) < (s.length : Int) := by omega
        have hi2 : (k : Int) < (l.length : Int) := by omega
        have hbz : bb < wr.heap.size := by omega
        have hbz2 : bb2 < wr.heap.size := by omega
        have hbz3 : w.heap.size < wr.heap.size := by omega
        have Ht := Lib.hid ht
        clear ht hy hvy hvr hrs hr hall k1 hbw
        go_wp2_with fail
        go_region_held3 (fun w' => w'.cell? ⟨w.heap.size, 0, none⟩ = some (.int .i64 a) ∧ w'.cell? ⟨w.heap.size, 1, none⟩ = some (.int .i64 b) ∧ w'.cell? ⟨w.heap.size, 2, none⟩ = some (.int .i64 c) ∧ w'.cell? ⟨bb2, o2 + k, none⟩ = some (.int .i64 y)) (simp [*, World.cell?_alloc_past]) ((go_at_call 35; refine (verd_spec_r a b c y r Hvr.out _).mono ?_; rintro e w5 ⟨rfl, hb⟩; obtain ⟨hc, hf, hz1⟩ := bstep (N := wr.heap.size) (by simp) hb))
        all_goals have bw := below_of_drew hb (Nat.le_refl wr.heap.size)
        all_goals have Bw := Lib.hid (Hbw.out.trans (bw.mono hsz))
        all_goals have M1 := Lib.hid (bk_below Hk1.out bw hbz3)
        all_goals have Ms := Lib.hid (Hrs.out.below bw (by omega))
        all_goals have hz5 := bw.size
        all_goals replace c0 := (hc bb (o + k) hbz).trans c0
        all_goals clear hb hc hf bw d0 p0 p1 p2
        all_goals (
          cases hin : inB x 0 (2 * n - 1) with
          | false =>
            have Hq := Lib.hid (show okA s (vl a b c l) n k = false by rw [hok, hin]; rfl)
            have Hin := Lib.hid hin
            clear hok hin
            go_wp2_with (go_at_call 32; refine (l01In_r' _ _ _ false Hin.out _).mono ?_; rintro e w' ⟨rfl, rfl⟩)
            go_ret
            exact ⟨ret_bool (hbadA.out k hlt Hq.out), Bw.out⟩
          | true =>
            have Hin := Lib.hid hin
            rw [hin] at hok
            clear hin
            by_cases hrr : r = 0 ∨ r = 3
            · have Hq := Lib.hid (show okA s (vl a b c l) n k = false by rw [hok]; rcases hrr with rfl | rfl <;> simp)
              clear hok hvals
              rcases hrr with rfl | rfl
              all_goals go_wp2_with (go_at_call 32; refine (l01In_r' _ _ _ true Hin.out _).mono ?_; rintro e w' ⟨rfl, rfl⟩)
              all_goals go_ret
              all_goals exact ⟨ret_bool (hbadA.out k hlt Hq.out), Bw.out⟩
            · have e0 : (r == 0) = false := by rw [beq_eq_false_iff_ne]; omega
              have e3 : (r == 3) = false := by rw [beq_eq_false_iff_ne]; omega
              have hok2 : okA s (vl a b c l) n k = !((s.take k).any (· == x)) := by
                rw [hok]
                have : (r == 1 || r == 2) = true := by rcases hvals with rfl | rfl | rfl | rfl <;> first | rfl | omega
                rw [this]; simp
              have Hok := Lib.hid hok2
              clear hok hok2 hvals hrr
              go_wp2_with (go_at_call 32; refine (l01In_r' _ _ _ true Hin.out _).mono ?_; rintro e w' ⟨rfl, rfl⟩)
              generalize hWo : wr = wo at *
              clear hWo wr
              go_loopw [11] (fun i wq => ∃ k2 : Nat, k2 ≤ k ∧ i = .int .i64 k2 ∧ (∀ j y, j < k2 → s[j]? = some y → (y == x) = false) ∧ ∃ q, wq = w5.drewN q) (fun i _ => k - (intOf i).toNat)
              case atStart => exact ⟨0, Nat.zero_le _, rfl, fun j y hj => absurd hj (Nat.not_lt_zero _), 0, rfl⟩
              case round =>
                obtain ⟨k2, hk2, rfl, hno, q, rfl⟩ := hrel
                have Hno := Lib.hid hno
                by_cases hlt3 : k2 < k
                · have ht2 := List.getElem?_eq_getElem (show k2 < s.length by omega)
                  generalize s[k2] = z at ht2
                  obtain ⟨bb', o', he, _, c2⟩ := Ms.out.int ht2
                  injection he with he
                  injection he with he1 he2
                  subst he1 he2
                  have Ht2 := Lib.hid ht2
                  have hj0 : (0 : Int) ≤ (k2 : Int) := by omega
                  have hj1 : (k2 : Int) < (s.length : Int) := by omega
                  have hj2 : (k2 : Int) < (k : Int) := by omega
                  clear ht2 hno
                  cases hzx : (z == x) with
                  | true =>
                    have ezx : z = x := by simpa using hzx
                    have Hq := Lib.hid (show okA s (vl a b c l) n k = false by rw [Hok.out, any_take_hit hlt3 (by rw [← ezx]; exact Ht2.out)]; rfl)
                    clear ezx
                    go_wp2_with fail
                    go_quiet (fail)
                    go_wp2
                    go_ret
                    exact ⟨ret_bool (hbadA.out k hlt Hq.out), below_drewN (below_drewN Bw.out _) _⟩
                  | false =>
                    have Hzx := Lib.hid hzx
                    go_wp2_with fail
                    go_quiet (fail)
                    go_wp2
                    go_roundw
                    case rel => exact ⟨k2 + 1, by omega, by go_num, fun j y hj hy => by
                      rcases Nat.lt_succ_iff_lt_or_eq.1 hj with h | rfl
                      · exact Hno.out j y h hy
                      · have := Ht2.out.symm.trans hy
                        injection this with this
                        rw [← this]; exact Hzx.out, _, rfl⟩
                    case measure => simp [intOf]; omega
                · have hk' : k2 = k := by omega
                  subst hk'
                  have Hq := Lib.hid (show okA s (vl a b c l) n k2 = true by rw [Hok.out, any_all_take hno]; rfl)
                  clear hno
                  go_wp2
                  go_roundw
                  case rel => exact ⟨k2 + 1, by omega, by go_num, fun j hj => by
                    rcases Nat.lt_succ_iff_lt_or_eq.1 hj with h | rfl
                    · exact Hall.out j h
                    · exact Hq.out, M1.out, below_drewN Bw.out _⟩
                  case measure => simp [intOf]; omega)
      · have hk' : k = s.length := by omega
        subst hk'
        clear hall
        have K1 := Lib.hid k1
        clear k1 hbw
        go_wp2_with fail
        generalize hWo : wr = wo at *
        clear hWo wr
        go_loopw [12] (fun i wr => ∃ k : Nat, k ≤ s.length ∧ i = .int .i64 k ∧ (∀ j, j < k → okB s (vl a b c l) j = true) ∧ Bk wr w.heap.size #[.int .i64 a, .int .i64 b, .int .i64 c] ∧ Below w.heap.size w wr) (fun i _ => s.length - (intOf i).toNat)
        case atStart => exact ⟨0, Nat.zero_le _, rfl, fun j hj => absurd hj (Nat.not_lt_zero _), K1.out, Hbw.out⟩
        case round =>
          clear K1 hsz Hbw
          obtain ⟨k, hk, rfl, hall, k1, hbw⟩ := hrel
          have Hal2 := Lib.hid hall
          have hsz := hbw.size
          have Hbw := Lib.hid hbw
          by_cases hlt : k < s.length
          · have hlt2 : k < l.length := by have := HL.out; omega
            have hy := List.getElem?_eq_getElem hlt2
            generalize l[k] = y at hy
            have hvy := vl_get a b c hy
            obtain ⟨r, hvr⟩ : ∃ r, verd a b c y = r := ⟨_, rfl⟩
            rw [hvr] at hvy
            have Hvr := Lib.hid hvr
            have hcc := compF_cases (qAll s k) s.length
            obtain ⟨q, hqq⟩ : ∃ q, compF (qAll s k) s.length = q := ⟨_, rfl⟩
            have hok := okB_at hvy hqq
            rw [hqq] at hcc
            have Hqq := Lib.hid hqq
            have Hrs := Lib.hid (hrs.below hbw hB)
            have Hr := Lib.hid (hr.below hbw hB)
            have Hk1 := Lib.hid k1
            have hz0 := bk_lt k1
            have hi0 : (0 : Int) ≤ (k : Int) := by omega
            have hi1 : (k : Int) < (s.length : Int) := by omega
            have hi2 : (k : Int) < (l.length : Int) := by omega
            have Hy := Lib.hid hy
            clear hy hvy hvr hrs hr hall k1 hbw hqq
            go_wp2_with fail
            refine (comp_spec_r s k q Hqq.out hlt HSB.out _ B cs _ Hrs.out (by omega) hns).mono ?_
            rintro e w4 ⟨rfl, hb4⟩
            have M1 := Lib.hid (bk_below Hk1.out hb4 hz0)
            have Mr := Lib.hid (Hr.out.below hb4 (by omega))
            have Ms := Lib.hid (Hrs.out.below hb4 (by omega))
            have Bw := Lib.hid (Hbw.out.trans (hb4.mono hsz))
            have hz4 := hb4.size
            clear hb4 Hk1 Hr Hrs Hbw
            obtain ⟨bb2, o2, rfl, hbB2, d0⟩ := Mr.out.int Hy.out
            obtain ⟨p0, p1, p2, pf, ps⟩ := bk3 M1.out
            have hbz2 : bb2 < w4.heap.size := by omega
            have hws : w.heap.size ≤ w4.heap.size := by omega
            have hwq : w.heap.size < w4.heap.size := by omega
            by_cases hr1 : r = 1
            · subst hr1
              rcases hcc with ⟨m, hm, _, _, hqm⟩ | ⟨_, hqm⟩
              · subst hqm
                rw [Int.toNat_natCast] at hok
                have hm2 : m < l.length := by have := HL.out; omega
                have hy2 := List.getElem?_eq_getElem hm2
                generalize l[m] = y2 at hy2
                have hvy2 := vl_get a b c hy2
                obtain ⟨r2, hvr2⟩ : ∃ r2, verd a b c y2 = r2 := ⟨_, rfl⟩
                rw [hvr2] at hvy2
                rw [hvy2, decide_eq_false (show ¬ (m : Int) < 0 by omega)] at hok
                have Hvr2 := Lib.hid hvr2
                obtain ⟨bb3, o3, he, _, d1⟩ := Mr.out.int hy2
                injection he with he
                injection he with he1 he2
                subst he1 he2
                have hj0 : (0 : Int) ≤ (m : Int) := by omega
                have hdm : decide ((m : Int) < 0) = false := decide_eq_false (by omega)
                have hj2 : (m : Int) < (l.length : Int) := by omega
                clear hy2 hvy2 hvr2
                cases hr2 : (r2 == 2)
                all_goals rw [hr2] at hok
                all_goals have hn2 : (r2 != 2) = !(r2 == 2) := rfl
                all_goals rw [hr2] at hn2
                all_goals have Hok := Lib.hid hok
                all_goals clear hok
                all_goals go_wp2_with fail
                all_goals refine wp_region_cls (S := Below w4.heap.size w4) (by kernel_rfl) (by kernel_rfl) (below_drew1 _ _) ?_
                all_goals replace p0 := cls_cell p0 hwq
                all_goals replace p1 := cls_cell p1 hwq
                all_goals replace p2 := cls_cell p2 hwq
                all_goals replace d0 := cls_cell d0 hbz2
                all_goals replace d1 := cls_cell d1 hbz2
                all_goals repeat (go_big_quiet_step ((go_at_call 35; first | (with_reducible exact cls_call (Nat.le_refl _) (verd_spec_r a b c y 1 Hvr.out _)) | (with_reducible exact cls_call (Nat.le_refl _) (verd_spec_r a b c y2 r2 Hvr2.out _)))))
                all_goals refine wpQuiet_nil ?_
                all_goals rintro _ ⟨⟨w5, hb⟩, rfl⟩
                all_goals (try dsimp only)
                all_goals go_wp2
                · go_ret
                  exact ⟨ret_bool (hbadB.out k hlt Hok.out), Bw.out.trans (hb.mono hws)⟩
                · go_roundw
                  all_goals first | exact ⟨k + 1, by omega, by go_num, fun j hj => by
                    rcases Nat.lt_succ_iff_lt_or_eq.1 hj with h | rfl
                    · exact Hal2.out j h
                    · exact Hok.out, bk_below M1.out hb hwq, Bw.out.trans (hb.mono hws)⟩ | (simp [intOf]; omega)
              · subst hqm
                have Hok := Lib.hid (show okB s (vl a b c l) k = false by rw [hok]; rfl)
                clear hok
                go_wp2_with fail
                refine wp_region_cls (S := Below w4.heap.size w4) (by kernel_rfl) (by kernel_rfl) (below_drew1 _ _) ?_
                replace p0 := cls_cell p0 hwq
                replace p1 := cls_cell p1 hwq
                replace p2 := cls_cell p2 hwq
                replace d0 := cls_cell d0 hbz2
                repeat (go_big_quiet_step ((go_at_call 35; exact cls_call (Nat.le_refl _) (verd_spec_r a b c y 1 Hvr.out _))))
                refine wpQuiet_nil ?_
                rintro _ ⟨⟨w5, hb⟩, rfl⟩
                (try dsimp only)
                go_wp2
                go_ret
                exact ⟨ret_bool (hbadB.out k hlt Hok.out), Bw.out.trans (hb.mono hws)⟩
            · have e1 : (r == 1) = false := by rw [beq_eq_false_iff_ne]; exact hr1
              have Hok := Lib.hid (show okB s (vl a b c l) k = true by rw [hok, e1]; rfl)
              clear hok hcc hr1
              go_wp2_with fail
              refine wp_region_cls (S := Below w4.heap.size w4) (by kernel_rfl) (by kernel_rfl) (below_drew1 _ _) ?_
              replace p0 := cls_cell p0 hwq
              replace p1 := cls_cell p1 hwq
              replace p2 := cls_cell p2 hwq
              replace d0 := cls_cell d0 hbz2
              repeat (go_big_quiet_step ((go_at_call 35; exact cls_call (Nat.le_refl _) (verd_spec_r a b c y r Hvr.out _))))
              refine wpQuiet_nil ?_
              rintro _ ⟨⟨w5, hb⟩, rfl⟩
              (try dsimp only)
              go_wp2
              go_roundw
              all_goals first | exact ⟨k + 1, by omega, by go_num, fun j hj => by
                rcases Nat.lt_succ_iff_lt_or_eq.1 hj with h | rfl
                · exact Hal2.out j h
                · exact Hok.out, bk_below M1.out hb hwq, Bw.out.trans (hb.mono hws)⟩ | (simp [intOf]; omega)
          · have hk' : k = s.length := by omega
            subst hk'
            clear hr hrs k1 hall hbw
            go_wp2
            go_ret
            exact ⟨ret_bool (hgood.out Hall.out Hal2.out), Hbw.out⟩
end Go.Proofs.Ytdjbbjehgfkefaa
