/- The loads of crews, with their errors. -/
import Derived.Test.YtmeppemobogicaaCl
import Derived.Test.YtmeppemobogicaaP
namespace Go.Proofs.Ytmeppemobogicaa
open Go.ChangeShapes Go.WideShapes Go.ChangeAt Go.RowKit
set_option linter.unusedVariables false
set_option linter.unusedSimpArgs false
theorem idxCrew1 (l : List (Int)) (A : Option Addr) (B c : Nat) (cr : Int) (cb : Nat) (w : World) (hr : Rd w B A (ints l)) (hB : B ≤ w.heap.size) (hn : l.length ≤ 1048576) (hcr : -1000 ≤ cr) (hcr2 : cr ≤ 1000) (hcap : w.cell? ⟨cb, 0, none⟩ = some (.int .i64 cr)) (hcb : cb < w.heap.size) :
   Calls Try.prog 75 #[.slice A l.length c, .func (Fn.func 58) #[] #[.pointer (some ⟨cb, 0, none⟩)]] w fun e w' => e = .returned (.int .i64 (idxB (fun x => !inB x 0 (cr - 1)) l)) ∧ Below w.heap.size w w' := by
  go_enter Try.func75, Try.ntmps75
  go_wp2_with fail
  go_loopw [8] (fun i wr => ∃ k : Nat, k ≤ l.length ∧ i = .int .i64 k ∧ (l.take k).any (fun x => !inB x 0 (cr - 1)) = false ∧ Below w.heap.size w wr) (fun i _ => l.length - (intOf i).toNat)
  case atStart => exact ⟨0, Nat.zero_le _, rfl, by simp, Below.refl _ _⟩
  case round =>
    obtain ⟨k, hk, rfl, hall, hbw⟩ := hrel
    by_cases hlt : k < l.length
    · have ht := List.getElem?_eq_getElem hlt
      generalize l[k] = t at ht
      have hsz := hbw.size
      have hcw := (hbw.cell (p := ⟨cb, 0, none⟩) hcb).trans hcap
      have hr' := hr.below hbw hB
      obtain ⟨b, o, rfl, _, c0⟩ := hr'.int ht
      have Ht := Lib.hid ht
      have Ha := Lib.hid hall
      have Hr := Lib.hid hr
      have Hr' := Lib.hid hr'
      clear ht hall hr hr'
      go_wp2_with (go_at_call 58; refine (crew1_any _ cr hcr hcr2 cb _ hcw).mono ?_; rintro e w1 ⟨rfl, hb⟩)
      · go_ret
        exact ⟨ret_int (by rw [idxB_here _ _ Ht.out Ha.out (by simp_all)]), by repeat' (first | (with_reducible exact Below.refl _ _) | (with_reducible assumption) | (with_reducible refine Below.alloc ?_ ?_ _) | (with_reducible refine Below.drew ?_) | (with_reducible refine below_drewN ?_ _) | (with_reducible refine Below.setCell ?_ ?_ _) | (with_reducible refine Below.trans ?_ (Below.mono (by assumption) ?_)) | go_size | (exact Below.size (by assumption)))⟩
      · go_roundw
        case rel => exact ⟨k + 1, by omega, by go_num, by rw [any_step _ _ Ht.out, Ha.out]; simp_all, by repeat' (first | (with_reducible exact Below.refl _ _) | (with_reducible assumption) | (with_reducible refine Below.alloc ?_ ?_ _) | (with_reducible refine Below.drew ?_) | (with_reducible refine below_drewN ?_ _) | (with_reducible refine Below.setCell ?_ ?_ _) | (with_reducible refine Below.trans ?_ (Below.mono (by assumption) ?_)) | go_size | (exact Below.size (by assumption)))⟩
        case measure => simp [intOf]; omega
    · have hk' : k = l.length := by omega
      subst hk'
      rw [List.take_length] at hall
      have Ha := Lib.hid hall
      clear hall
      go_wp2
      go_ret
      exact ⟨ret_int (by rw [idxB_none _ _ Ha.out]), by repeat' (first | (with_reducible exact Below.refl _ _) | (with_reducible assumption) | (with_reducible refine Below.alloc ?_ ?_ _) | (with_reducible refine Below.drew ?_) | (with_reducible refine below_drewN ?_ _) | (with_reducible refine Below.setCell ?_ ?_ _) | (with_reducible refine Below.trans ?_ (Below.mono (by assumption) ?_)) | go_size | (exact Below.size (by assumption)))⟩
theorem conCrew1 (l : List (Int)) (A : Option Addr) (B c : Nat) (cr : Int) (cb : Nat) (w : World) (hr : Rd w B A (ints l)) (hB : B ≤ w.heap.size) (hn : l.length ≤ 1048576) (hcr : -1000 ≤ cr) (hcr2 : cr ≤ 1000) (hcap : w.cell? ⟨cb, 0, none⟩ = some (.int .i64 cr)) (hcb : cb < w.heap.size) :
   Calls Try.prog 57 #[.slice A l.length c, .func (Fn.func 58) #[] #[.pointer (some ⟨cb, 0, none⟩)]] w fun e w' => e = .returned (.bool (l.any (fun x => !inB x 0 (cr - 1)))) ∧ Below w.heap.size w w' := by
  go_enter Try.func57, Try.ntmps57
  go_wp2_with (go_at_call 75; refine (idxCrew1 l A B c cr cb w hr hB hn hcr hcr2 hcap hcb).mono ?_; rintro e w1 ⟨rfl, hb⟩)
  go_ret
  exact ⟨ret_bool (idxB_any _ _), by repeat' (first | (with_reducible exact Below.refl _ _) | (with_reducible assumption) | (with_reducible refine Below.alloc ?_ ?_ _) | (with_reducible refine Below.drew ?_) | (with_reducible refine below_drewN ?_ _) | (with_reducible refine Below.setCell ?_ ?_ _) | (with_reducible refine Below.trans ?_ (Below.mono (by assumption) ?_)) | go_size | (exact Below.size (by assumption)))⟩
def crewOk (crews : Int) (asg : List Int) : Bool := asg.all fun x => inB x 0 (crews - 1)
def clC (l : List (Int × Int)) (crews : Int) (asg : List Int) : Int := if crewC l crews = 0 then (if asg.length = l.length then (if crewOk crews asg then 0 else 2) else 2) else crewC l crews
def clR (l : List (Int × Int)) (crews : Int) (asg : List Int) : List Int := if clC l crews asg = 0 then ldsUp (timesL l) asg crews.toNat asg.length else []
theorem crewC_zero {l : List (Int × Int)} {crews : Int} (h : crewC l crews = 0) : stopsB l = true ∧ 1 ≤ crews ∧ crews ≤ 3 := by
  unfold crewC at h
  split at h
  · split at h
    · rename_i h1 h2
      simp only [inB, Bool.and_eq_true, decide_eq_true_eq] at h2
      exact ⟨h1, h2⟩
    · simp at h
  · simp at h
theorem clR_len (l : List (Int × Int)) (crews : Int) (asg : List Int) : (clR l crews asg).length ≤ 1048576 := by
  unfold clR
  split
  · rename_i h
    rw [ldsUp_length]
    unfold clC at h
    split at h
    · rename_i h0
      have := crewC_zero h0
      omega
    · contradiction
  · simp
theorem timesL_at {l : List (Int × Int)} (h : stopsB l = true) : ∀ (k : Nat) (x : Int), (timesL l)[k]? = some x → 0 ≤ x ∧ x ≤ 1000000 := by
  intro k x hk
  simp only [timesL, List.getElem?_map, Option.map_eq_some_iff] at hk
  obtain ⟨t, ht, rfl⟩ := hk
  obtain ⟨h1, h2, h3, h4⟩ := stops_at h ht
  have := timeT_bd h1 h2 h3 h4
  omega
theorem crewOk_at {crews : Int} {asg : List Int} (h : crewOk crews asg = true) {k : Nat} {c : Int} (hk : asg[k]? = some c) : 0 ≤ c ∧ c < crews := by
  simp only [crewOk, List.all_eq_true] at h
  have := h c (List.mem_of_getElem? hk)
  simp only [inB, Bool.and_eq_true, decide_eq_true_eq] at this
  omega
theorem crewLoads_spec (l : List (Int × Int)) (crews : Int) (asg : List Int) (A A' : Option Addr) (B c c' : Nat) (w : World) (hr : Rd w B A (l.flatMap eEvacuationStop)) (hr2 : Rd w B A' (ints asg)) (hB : B ≤ w.heap.size) (hn : l.length ≤ 1048576) (hn2 : asg.length ≤ 1048576) :
   Calls Try.prog 25 #[.slice A l.length c, .int .i64 crews, .slice A' asg.length c'] w fun e w' => ∃ A2 c2, e = .returned (.tuple #[.slice A2 (clR l crews asg).length c2, .int .i64 (clC l crews asg)]) ∧ w'.ownsRow w.heap.size 2 1 (.slice A2 (clR l crews asg).length c2) (clR l crews asg).length (ints (clR l crews asg)) ∧ Below w.heap.size w w' := by
  by_cases h0 : crewC l crews = 0
  · obtain ⟨hst, hc1, hc3⟩ := crewC_zero h0
    obtain ⟨m, rfl⟩ : ∃ m : Nat, crews = m := ⟨crews.toNat, by omega⟩
    have H0 := Lib.hid h0
    by_cases hlen : asg.length = l.length
    · have hne : ((asg.length : Int) != (l.length : Int)) = false := by rw [hlen]; simp
      have Hlen := Lib.hid hlen
      have hclR : crewOk m asg = true → clR l m asg = ldsUp (timesL l) asg m asg.length ∧ clC l m asg = 0 := by
        intro hok
        have : clC l m asg = 0 := by simp [clC, h0, hlen, hok]
        exact ⟨by simp [clR, this], this⟩
      have hclN : crewOk m asg = false → clR l m asg = [] ∧ clC l m asg = 2 := by
        intro hok
        have : clC l m asg = 2 := by simp [clC, h0, hlen, hok]
        exact ⟨by simp [clR, this], this⟩
      have HR := Lib.hid hclR
      have HN := Lib.hid hclN
      have Hst := Lib.hid hst
      clear h0 hlen hclR hclN hst
      go_enter Try.func25, Try.ntmps25
      go_wp2_with fail
      refine (l30Code_r l m 0 H0.out A B c w hr hB hn).mono ?_; rintro e w1 ⟨rfl, b1⟩
      have z1 := b1.size
      have hr1 := hr.below b1 hB
      have hr21 := hr2.below b1 hB
      have Hr1 := Lib.hid hr1
      clear hr hr2 hr1
      go_wp2_with fail
      go_loop [9] (fun i => ∃ k : Nat, k ≤ asg.length ∧ i = .int .i64 k ∧ (asg.take k).all (fun x => inB x 0 ((m : Int) - 1)) = true) (fun i => asg.length - (intOf i).toNat)
      case atStart => exact ⟨0, Nat.zero_le _, rfl, by simp⟩
      case round =>
        obtain ⟨k, hk, rfl, hall⟩ := hrel
        by_cases hlt : k < asg.length
        · have ht := List.getElem?_eq_getElem hlt
          generalize asg[k] = x at ht
          obtain ⟨b, o, rfl, _, c0⟩ := hr21.int ht
          have Ht := Lib.hid ht
          have Hal := Lib.hid hall
          have Hr2 := Lib.hid hr21
          clear ht hall hr21
          cases hx : inB x 0 ((m : Int) - 1) with
          | true =>
            have Hx := Lib.hid hx
            clear hx
            go_wp2_with (go_at_call 45; refine (l01In_r _ _ _ true Hx.out _).mono ?_; rintro e w' ⟨rfl, rfl⟩)
            go_round
            case rel => exact ⟨k + 1, by omega, by go_num, by rw [all_step _ _ Ht.out, Hal.out, Hx.out]; rfl⟩
            case measure => simp [intOf]; omega
          | false =>
            have Hx := Lib.hid hx
            clear hx
            go_wp2_with (go_at_call 45; refine (l01In_r _ _ _ false Hx.out _).mono ?_; rintro e w' ⟨rfl, rfl⟩)
            go_ret2
            obtain ⟨q1, q2⟩ := HN.out (all_false _ asg Ht.out Hx.out)
            rw [q1, q2]
            exact ⟨none, 0, rfl, World.ownsRow_nil _ _ _ _, b1⟩
        · have hk' : k = asg.length := by omega
          subst hk'
          rw [List.take_length] at hall
          have Hal := Lib.hid hall
          have Hr2 := Lib.hid hr21
          clear hall hr21
          go_wp2_with fail
          refine (l30Times_any l Hst.out A B c w1 Hr1.out (by omega)).mono ?_; rintro e w2 ⟨At, ct, rfl, ot, b2⟩
          have z2 := b2.size
          have rt := Rd.of_own ot
          have lt := timesL_length l
          have hle := Hlen.out
          have h12 := stopsB_len Hst.out
          have r2 := (Hr2.out.below b2 (by omega)).more (show B ≤ w2.heap.size by omega)
          have Hrt := Lib.hid rt
          have Hq2 := Lib.hid r2
          have Hlt := Lib.hid lt
          have Hle := Lib.hid hle
          clear ot rt r2 lt hle
          go_wp2_with fail
          refine (l30Loads_any (timesL l) asg m (by omega) (by rw [Hlt.out, Hle.out]; exact Nat.le_refl _) (by rw [Hlt.out]; omega) (timesL_at Hst.out) (fun k c hk => crewOk_at (crews := m) Hal.out hk) _ _ _ _ _ _ Hrt.out Hq2.out (Nat.le_refl _)).mono ?_; rintro e w3 ⟨A3, c3, rfl, o3, b3⟩
          have O3 := Lib.hid o3
          clear o3
          go_wp2
          go_ret2
          obtain ⟨q1, q2⟩ := HR.out Hal.out
          rw [q1, q2, ldsUp_length]
          exact ⟨A3, c3, rfl, own_more O3.out (by omega), by repeat' (first | (with_reducible exact Below.refl _ _) | (with_reducible assumption) | (with_reducible refine Below.alloc ?_ ?_ _) | (with_reducible refine Below.drew ?_) | (with_reducible refine below_drewN ?_ _) | (with_reducible refine Below.setCell ?_ ?_ _) | (with_reducible refine Below.trans ?_ (Below.mono (by assumption) ?_)) | go_size | (exact Below.size (by assumption)))⟩
    · have hne : ((asg.length : Int) != (l.length : Int)) = true := by simp; omega
      have q2 : clC l m asg = 2 := by simp [clC, h0, hlen]
      have q1 : clR l m asg = [] := by simp [clR, q2]
      rw [q1, q2]
      clear h0 hlen q1 q2
      go_enter Try.func25, Try.ntmps25
      go_wp2_with (go_at_call 54; refine (l30Code_r l m 0 H0.out A B c w hr hB hn).mono ?_; rintro e w1 ⟨rfl, b1⟩)
      go_ret2
      exact ⟨none, 0, rfl, World.ownsRow_nil _ _ _ _, b1⟩
  · have q2 : clC l crews asg = crewC l crews := by simp [clC, h0]
    have q1 : clR l crews asg = [] := by simp [clR, q2, h0]
    rw [q1, q2]
    have hb1 : (crewC l crews != 0) = true := by simpa using h0
    clear h0 q1 q2
    go_enter Try.func25, Try.ntmps25
    go_wp2_with (go_at_call 54; refine (l30Code_any l crews A B c w hr hB hn).mono ?_; rintro e w1 ⟨rfl, b1⟩)
    go_ret2
    exact ⟨none, 0, rfl, World.ownsRow_nil _ _ _ _, b1⟩

end Go.Proofs.Ytmeppemobogicaa
