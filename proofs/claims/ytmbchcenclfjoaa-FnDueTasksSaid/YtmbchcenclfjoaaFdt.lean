/- The law on due tasks: the tasks that are due, the next due day, a task that has been done. -/
import Derived.Test.YtmbchcenclfjoaaDx
import Derived.Test.YtmbchcenclfjoaaC
namespace Go.Proofs.Ytmbchcenclfjoaa
open Go.ChangeShapes Go.WideShapes Go.ChangeAt Go.RowKit
set_option maxRecDepth 20000
set_option linter.unusedVariables false
set_option linter.unusedSimpArgs false
theorem leastDue_le : ∀ (l : List (Int × Int)) (d day : Int), leastDue d l ≤ day ↔ d ≤ day ∨ ∃ t ∈ l, dueT t ≤ day := by
  intro l
  induction l with
  | nil => intro d day; simp [leastDue]
  | cons a l ih =>
    intro d day
    have h : leastDue d (a :: l) = leastDue (if dueT a < d then dueT a else d) l := rfl
    rw [h, ih]
    constructor
    · rintro (h1 | ⟨t, ht, h1⟩)
      · split at h1
        · exact .inr ⟨a, by simp, h1⟩
        · exact .inl h1
      · exact .inr ⟨t, by simp [ht], h1⟩
    · rintro (h1 | ⟨t, ht, h1⟩)
      · left; split <;> omega
      · rw [List.mem_cons] at ht
        rcases ht with rfl | ht
        · left; split <;> omega
        · exact .inr ⟨t, ht, h1⟩
theorem dueIdx_pos (l : List (Int × Int)) (day : Int) : 0 < (dueIdx l day l.length).length ↔ ∃ t ∈ l, dueT t ≤ day := by
  unfold dueIdx
  rw [List.length_map, List.length_pos_iff_exists_mem]
  constructor
  · rintro ⟨i, hi⟩
    rw [List.mem_filter, List.mem_range] at hi
    obtain ⟨hi, hd⟩ := hi
    unfold dueB at hd
    rw [List.getElem?_eq_getElem hi] at hd
    exact ⟨l[i], List.getElem_mem hi, by simpa using hd⟩
  · rintro ⟨t, ht, hd⟩
    obtain ⟨i, hi, rfl⟩ := List.getElem_of_mem ht
    exact ⟨i, by rw [List.mem_filter, List.mem_range]; exact ⟨hi, by unfold dueB; rw [List.getElem?_eq_getElem hi]; simpa using hd⟩⟩
theorem due_law (l : List (Int × Int)) (task day : Int) : (planCode l day ≠ 0 ∧ perfCode l task day ≠ 0) ∨ (planCode l day = 0 ∧ (((dueR l day).length = 0 ∧ (nextB l).2 ≠ 0) ∨ ((dueR l day).length = 0 ∧ (nextB l).2 = 0 ∧ day < (nextB l).1) ∨ (0 < (dueR l day).length ∧ (nextB l).2 = 0 ∧ (nextB l).1 ≤ day))) := by
  by_cases h : planCode l day = 0
  · right
    refine ⟨h, ?_⟩
    have hp := planCode_zero h
    have hd : dueR l day = dueIdx l day l.length := if_pos h
    have hpos := dueIdx_pos l day
    rw [← hd] at hpos
    cases l with
    | nil => left; exact ⟨by rw [hd]; rfl, by simp [nextB, hp]⟩
    | cons a r =>
      right
      have hn : nextB (a :: r) = (leastDue (dueT a) (a :: r), 0) := by simp [nextB, hp]
      have hle := leastDue_le (a :: r) (dueT a) day
      rw [hn]
      by_cases hx : ∃ t ∈ a :: r, dueT t ≤ day
      · right; exact ⟨hpos.2 hx, rfl, hle.2 (.inr hx)⟩
      · left
        have h1 : ¬ 0 < (dueR (a :: r) day).length := fun h => hx (hpos.1 h)
        have h2 : ¬ leastDue (dueT a) (a :: r) ≤ day := fun h => hx (by
          rcases hle.1 h with h3 | h3
          · exact ⟨a, by simp, h3⟩
          · exact h3)
        exact ⟨by omega, rfl, by simp only; omega⟩
  · left
    refine ⟨h, fun hc => h ?_⟩
    rcases perf_cases l task day with ⟨_, h1, _⟩ | ⟨_, _, h1, _⟩ | ⟨_, _, _, h1, _⟩ | ⟨_, _, _, _, _, _, _, _, _, h1, _⟩ | ⟨_, _, _, _, _, hp, hd, _, _, h1, _⟩
    · rw [h1] at hc; omega
    · rw [h1] at hc; omega
    · rw [h1] at hc; omega
    · rw [h1] at hc; omega
    · simp [planCode, hp, hd]
theorem perf_law {l : List (Int × Int)} {task day : Int} (h : perfCode l task day = 0) : planCode (perfR l task day) day = 0 ∧ (dueR (perfR l task day) day).any (· == task) = false ∧ (perfR l task day).length = l.length := by
  rcases perf_cases l task day with ⟨_, h1, _⟩ | ⟨_, _, h1, _⟩ | ⟨_, _, _, h1, _⟩ | ⟨_, _, _, _, _, _, _, _, _, h1, _⟩ | ⟨k, t, rfl, hk, ht, hp, hd, _, _, h1, h2⟩
  · rw [h1] at h; omega
  · rw [h1] at h; omega
  · rw [h1] at h; omega
  · rw [h1] at h; omega
  · rw [h2]
    have hp' := hp
    unfold planB at hp'
    simp only [Bool.and_eq_true, List.all_eq_true, decide_eq_true_eq] at hp'
    obtain ⟨ha, hl⟩ := hp'
    have htt := ha t (List.mem_of_getElem? ht)
    have hd' := hd
    have hpl : planB (l.set k (t.1, day)) = true := by
      unfold planB
      simp only [Bool.and_eq_true, List.all_eq_true, decide_eq_true_eq]
      refine ⟨fun x hx => ?_, by simpa using hl⟩
      rcases List.mem_or_eq_of_mem_set hx with hx | rfl
      · exact ha x hx
      · unfold taskB at htt ⊢
        simp only [Bool.and_eq_true] at htt ⊢
        exact ⟨htt.1, hd⟩
    have hc : planCode (l.set k (t.1, day)) day = 0 := by simp [planCode, hpl, hd]
    refine ⟨hc, ?_, by simp⟩
    rw [dueR, if_pos hc]
    rw [List.any_eq_false]
    intro x hx
    unfold dueIdx at hx
    rw [List.mem_map] at hx
    obtain ⟨i, hi, rfl⟩ := hx
    rw [List.mem_filter, List.mem_range] at hi
    obtain ⟨hi, hb⟩ := hi
    simp only [beq_iff_eq]
    intro he
    have he : i = k := by omega
    subst he
    unfold dueB at hb
    rw [List.getElem?_set_self (by simpa using hk)] at hb
    have hb2 : dueT (t.1, day) ≤ day := by simpa using hb
    unfold dueT at hb2
    simp only at hb2
    unfold taskB inB at htt
    simp only [Bool.and_eq_true, decide_eq_true_eq] at htt
    omega
set_option maxHeartbeats 2000000 in
theorem walkFnDueTasks (bl : List Int) (hbl : isU8 bl) (C : Option Addr) (cap : Nat) (w : World) (hr : Rd w w.heap.size C (bytesU bl)) (hlc : bl.length ≤ cap) (hm : cap ≤ maxLen) :
   Calls Try.prog 11 #[.slice C bl.length cap] w fun e w' => e = .returned (.bool true) ∧ Below w.heap.size w w' := by
  unfold maxLen at hm
  by_cases hn : bl.length ≤ 4096
  rotate_left
  · have hd : decide ((4096 : Int) < (bl.length : Int)) = true := by simp; omega
    go_enter Try.func11, Try.ntmps11
    go_wp2_with (go_at_call 44; refine (big_any _ _ _ _ (by omega)).mono ?_; rintro e w' ⟨rfl, rfl⟩)
    go_ret
    exact ⟨rfl, Below.refl _ _⟩
  have hd : decide ((4096 : Int) < (bl.length : Int)) = false := by simp; omega
  go_enter Try.func11, Try.ntmps11
  go_wp2_with fail
  refine (big_any _ _ _ _ (by omega)).mono ?_; rintro e w' ⟨rfl, rfl⟩
  go_wp2_with fail
  refine (drawPerform_any bl hbl hn C cap _ hr).mono ?_
  rintro e w0 ⟨l, A, c, task, day, rfl, hok, hl, ht1, ht2, hd1, hd2, o0, b0⟩
  have Rp := Rd.of_own o0
  clear o0 hok hr hbl hd
  have hn2 : l.length ≤ 1048576 := by omega
  have hpl := perfR_len l task day hn2
  have hdl := dueR_len l day hn2
  go_wp2_with fail
  refine (perform_impl l task day A _ c _ Rp (Nat.le_refl _) hn2).mono ?_; rintro e w1 ⟨Ax, cx, rfl, ox, b1⟩
  replace Rp := Rp.step b1
  have Rx := Rd.of_own ox
  clear ox
  go_wp2_with fail
  refine (perform_spec l task day A _ c _ Rp (Nat.le_refl _) hn2).mono ?_; rintro e w2 ⟨Am, cm, rfl, om, b2⟩
  replace Rp := Rp.step b2
  replace Rx := Rx.step b2
  have Rm := Rd.of_own om
  clear om
  go_wp2_with fail
  refine (dueTasks_impl l day A _ c _ Rp (Nat.le_refl _) hn2).mono ?_; rintro e w3 ⟨Al, cl, rfl, ol, b3⟩
  replace Rp := Rp.step b3
  replace Rx := Rx.step b3
  replace Rm := Rm.step b3
  have Rl := Rd.of_own ol
  clear ol
  go_wp2_with fail
  refine (dueTasks_spec l day A _ c _ Rp (Nat.le_refl _) hn2).mono ?_; rintro e w4 ⟨Ar, cr, rfl, orr, b4⟩
  replace Rp := Rp.step b4
  replace Rx := Rx.step b4
  replace Rm := Rm.step b4
  replace Rl := Rl.step b4
  have Rrr := Rd.of_own orr
  clear orr
  go_wp2_with fail
  refine (nextDue_impl l A _ c _ Rp (Nat.le_refl _) hn2).mono ?_; rintro e w5 ⟨rfl, b5⟩
  replace Rp := Rp.step b5
  replace Rx := Rx.step b5
  replace Rm := Rm.step b5
  replace Rl := Rl.step b5
  replace Rrr := Rrr.step b5
  go_wp2_with fail
  refine (nextDue_spec l A _ c _ Rp (Nat.le_refl _) hn2).mono ?_; rintro e w6 ⟨rfl, b6⟩
  replace Rp := Rp.step b6
  replace Rx := Rx.step b6
  replace Rm := Rm.step b6
  replace Rl := Rl.step b6
  replace Rrr := Rrr.step b6
  go_wp2_with fail
  refine (likeTasks_same (perfR l task day) Ax Am _ _ _ _ _ Rx Rm hpl).mono ?_; rintro e w7 ⟨rfl, b7⟩
  replace Rp := Rp.step b7
  replace Rx := Rx.step b7
  replace Rm := Rm.step b7
  replace Rl := Rl.step b7
  replace Rrr := Rrr.step b7
  go_wp2_with fail
  refine (likeInts_same (dueR l day) Al Ar _ _ _ _ _ Rl Rrr hdl).mono ?_; rintro e w8 ⟨rfl, b8⟩
  replace Rp := Rp.step b8
  replace Rx := Rx.step b8
  replace Rm := Rm.step b8
  replace Rl := Rl.step b8
  replace Rrr := Rrr.step b8
  go_wp2_with fail
  refine (isPlan_impl l A _ c _ Rp (Nat.le_refl _) hn2).mono ?_; rintro e w9 ⟨rfl, b9⟩
  replace Rp := Rp.step b9
  replace Rx := Rx.step b9
  replace Rm := Rm.step b9
  replace Rl := Rl.step b9
  replace Rrr := Rrr.step b9
  go_wp2_with fail
  refine (isPlan_spec l A _ c _ Rp (Nat.le_refl _) hn2).mono ?_; rintro e w10 ⟨rfl, b10⟩
  replace Rp := Rp.step b10
  replace Rx := Rx.step b10
  replace Rm := Rm.step b10
  replace Rl := Rl.step b10
  replace Rrr := Rrr.step b10
  have z1 := b1.size
  have z2 := b2.size
  have z3 := b3.size
  have z4 := b4.size
  have z5 := b5.size
  have z6 := b6.size
  have z7 := b7.size
  have z8 := b8.size
  have z9 := b9.size
  have z10 := b10.size
  have z0 := b0.size
  have hbel : Below w.heap.size w w10 := ((((((((((b0.trans (b1.mono (by omega))).trans (b2.mono (by omega))).trans (b3.mono (by omega))).trans (b4.mono (by omega))).trans (b5.mono (by omega))).trans (b6.mono (by omega))).trans (b7.mono (by omega))).trans (b8.mono (by omega))).trans (b9.mono (by omega))).trans (b10.mono (by omega)))
  have Hbel := Lib.hid hbel
  clear hbel b0 b1 b2 b3 b4 b5 b6 b7 b8 b9 b10
  rcases due_law l task day with ⟨h1, h2⟩ | ⟨h1, hx⟩
  · have g1 : (planCode l day == 0) = false := by rw [beq_eq_false_iff_ne]; exact h1
    have g2 : (perfCode l task day != 0) = true := by rw [bne_iff_ne]; exact h2
    clear h1 h2
    go_wp2
    go_ret
    exact ⟨rfl, Hbel.out⟩
  · have g1 : (planCode l day == 0) = true := by rw [beq_iff_eq]; exact h1
    clear h1
    have hfacts : ∃ u v t2 : Bool, decide (0 < (dueR l day).length) = u ∧ ((nextB l).2 == 0) = v ∧ decide ((nextB l).1 ≤ day) = t2 ∧ u = (v && t2) := by
      rcases hx with ⟨h3, h4⟩ | ⟨h3, h4, h5⟩ | ⟨h3, h4, h5⟩
      · exact ⟨false, false, _, by simp [h3], by rw [beq_eq_false_iff_ne]; exact h4, rfl, rfl⟩
      · exact ⟨false, true, false, by simp [h3], by rw [beq_iff_eq]; exact h4, by simp; omega, rfl⟩
      · exact ⟨true, true, true, by simpa using h3, by rw [beq_iff_eq]; exact h4, by simpa using h5, rfl⟩
    clear hx
    obtain ⟨u, v, t2, f1, f2, f3, f4⟩ := hfacts
    subst f4
    by_cases hp : perfCode l task day = 0
    · have g2 : (perfCode l task day != 0) = false := by simp [hp]
      obtain ⟨k1, k2, k3⟩ := perf_law hp
      have hdl2 := dueR_len (perfR l task day) day hpl
      have K1 := Lib.hid k1
      have K2 := Lib.hid k2
      have hk3 : (((perfR l task day).length : Int) == (l.length : Int)) = true := by rw [k3]; simp
      clear k1 k2 k3 hp
      cases v <;> cases t2
      all_goals
        simp only [Bool.and_self, Bool.and_false, Bool.false_and, Bool.true_and, Bool.and_true] at f1
        go_wp2_with (first | (go_at_call 32; refine (dueTasks_impl (perfR l task day) day Ax _ cx _ Rx (Nat.le_refl _) hpl).mono ?_; rintro e w20 ⟨Aa, ca, rfl, oa, b20⟩; rw [K1.out]; have Ra := Rd.of_own oa; clear oa) | (go_at_call 48; refine (hasInt_any (dueR (perfR l task day) day) task Aa _ ca _ Ra hdl2).mono ?_; rintro e w' ⟨rfl, rfl⟩; rw [K2.out]))
        go_ret
        exact ⟨rfl, Hbel.out.trans (b20.mono (by omega))⟩
    · have g2 : (perfCode l task day != 0) = true := by rw [bne_iff_ne]; exact hp
      clear hp
      cases v <;> cases t2
      all_goals
        simp only [Bool.and_self, Bool.and_false, Bool.false_and, Bool.true_and, Bool.and_true] at f1
        go_wp2
        go_ret
        exact ⟨rfl, Hbel.out⟩
end Go.Proofs.Ytmbchcenclfjoaa
