/- The next day of visits: walk of the reference. -/
import Derived.Test.YtmbchcenclfjoaaVd
import Derived.Test.YtmbchcenclfjoaaDue
namespace Go.Proofs.Ytmbchcenclfjoaa
open Go.ChangeShapes Go.WideShapes Go.ChangeAt Go.RowKit
set_option maxRecDepth 20000
set_option linter.unusedVariables false
set_option linter.unusedSimpArgs false
theorem floor_cases (a b : Int) (h : 1 ≤ b) : (0 ≤ a ∧ a.tdiv b = a / b) ∨ (a < 0 ∧ a.tmod b = 0 ∧ a.tdiv b = a / b) ∨ (a < 0 ∧ a.tmod b ≠ 0 ∧ a.tdiv b - 1 = a / b) := by
  rcases (show 0 ≤ a ∨ a < 0 by omega) with h0 | h0
  · exact .inl ⟨h0, Int.tdiv_eq_ediv_of_nonneg h0⟩
  · right
    have e1 := Int.mul_tdiv_add_tmod a b
    have e2 := Int.mul_ediv_add_emod a b
    have t := Int.tmod_eq_emod_of_nonneg (b := b) (show 0 ≤ -a by omega)
    rw [Int.neg_tmod] at t
    have t1 := Int.emod_nonneg (-a) (show b ≠ 0 by omega)
    have t2 := Int.emod_lt_of_pos (-a) (show 0 < b by omega)
    rw [← t] at t1 t2
    clear t
    have m1 := Int.emod_nonneg a (show b ≠ 0 by omega)
    have m2 := Int.emod_lt_of_pos a (show 0 < b by omega)
    generalize a.tdiv b = q at *
    generalize a / b = p at *
    generalize a.tmod b = r at *
    generalize a % b = s at *
    have hd : b * (q - p) = s - r := by rw [Int.mul_sub]; omega
    have hlo : q - p ≤ 1 := by
      rcases (show q - p ≤ 1 ∨ 2 ≤ q - p by omega) with h | h
      · exact h
      · have := Int.mul_le_mul_of_nonneg_left h (show 0 ≤ b by omega)
        omega
    have hhi : 0 ≤ q - p := by
      rcases (show 0 ≤ q - p ∨ q - p ≤ -1 by omega) with h | h
      · exact h
      · have := Int.mul_le_mul_of_nonneg_left h (show 0 ≤ b by omega)
        omega
    rcases (show q - p = 0 ∨ q - p = 1 by omega) with h | h
    · rw [h] at hd
      left
      exact ⟨h0, by omega, by omega⟩
    · rw [h] at hd
      right
      exact ⟨h0, by omega, by omega⟩
theorem ediv_bd {a b : Int} (h0 : -1000000 ≤ a) (h1 : a ≤ 1000000) (hb : 1 ≤ b) : -1000000 ≤ a / b ∧ a / b ≤ 1000000 := by
  have e2 := Int.mul_ediv_add_emod a b
  have m1 := Int.emod_nonneg a (show b ≠ 0 by omega)
  have m2 := Int.emod_lt_of_pos a (show 0 < b by omega)
  generalize a / b = p at *
  generalize a % b = s at *
  constructor
  · rcases (show -1000000 ≤ p ∨ p + 1 ≤ -1000000 by omega) with h | h
    · exact h
    · have := Int.mul_le_mul_of_nonpos_right hb (show p + 1 ≤ 0 by omega)
      rw [Int.mul_add, Int.mul_one] at this
      omega
  · rcases (show p ≤ 1000000 ∨ 1000001 ≤ p by omega) with h | h
    · exact h
    · have := Int.mul_le_mul_of_nonneg_right hb (show 0 ≤ p by omega)
      omega
theorem l01Floor_any (a b : Int) (hb : 1 ≤ b) (hb2 : b ≤ 1000) (ha : -1000000 ≤ a) (ha2 : a ≤ 1000000) (w : World) :
   Calls Try.prog 92 #[.int .i64 a, .int .i64 b] w fun e w' => e = .returned (.int .i64 (a / b)) ∧ w = w' := by
  have hfc := floor_cases a b hb
  go_enter Try.func92, Try.ntmps92
  go_wp2
  · go_ret
    rename_i h1 h2
    have ha0 : a < 0 := by
      rcases hfc with ⟨h0, _⟩ | ⟨h0, _⟩ | ⟨h0, _⟩
      · exfalso
        rw [decide_eq_false (show ¬ a < 0 by omega), decide_eq_false (show ¬ b < 0 by omega)] at h2
        cases h2
      · exact h0
      · exact h0
    have e : a.tdiv b - 1 = a / b := by
      rcases hfc with ⟨h0, _⟩ | ⟨_, h0, _⟩ | ⟨_, _, h0⟩
      · omega
      · exact absurd h0 h1
      · exact h0
    have hbd := ediv_bd ha ha2 hb
    exact ⟨ret_int (by rw [e]; exact IntWalk.wrap64_in _ (by omega)), rfl⟩
  · go_ret
    rename_i h1 h2
    refine ⟨ret_int ?_, rfl⟩
    rcases hfc with ⟨_, h0⟩ | ⟨_, h0, _⟩ | ⟨h0, _, _⟩
    · exact h0
    · exact absurd h0 h1
    · exfalso
      rw [decide_eq_true h0, decide_eq_false (show ¬ b < 0 by omega)] at h2
      cases h2
  · go_ret
    rename_i h1
    refine ⟨ret_int ?_, rfl⟩
    rcases hfc with ⟨_, h0⟩ | ⟨_, _, h0⟩ | ⟨_, h0, _⟩
    · exact h0
    · exact h0
    · exact absurd h1 h0
theorem nextL_step (day : Int) {l : List (Int × Int)} {k : Nat} {t : Int × Int} (h : l[k]? = some t) : nextL (l.take (k + 1)) day = min (nextL (l.take k) day) (nextT day t) := by
  have hl : k < l.length := (List.getElem?_eq_some_iff.1 h).1
  have : l[k] = t := by rw [List.getElem?_eq_getElem hl] at h; exact Option.some.inj h
  rw [List.take_succ_eq_append_getElem hl, nextL, List.foldl_append, this]
  rfl
theorem nextL_bd {l : List (Int × Int)} (h : ∀ t ∈ l, 1 ≤ t.1 ∧ 0 ≤ t.2) (day : Int) (hd : -1 ≤ day) : -1 ≤ nextL l day ∧ nextL l day ≤ 200000 := by
  constructor
  · rcases nextF_at day l 200000 with he | ⟨t, ht, he⟩
    · unfold nextL; rw [he]; omega
    · have := nextT_gt (h t ht).1 day
      unfold nextL; rw [he]; omega
  · exact (nextF_le day l 200000 200000).2 (.inl (Int.le_refl _))
theorem nextT_bd {t : Int × Int} (h1 : 1 ≤ t.1) (h2 : t.1 ≤ 366) (h3 : 0 ≤ t.2) (h4 : t.2 ≤ 100000) {day : Int} (hd : -1 ≤ day) (hd2 : day ≤ 200000) :
    0 ≤ max 1 ((day - t.2) / t.1 + 1) * t.1 ∧ max 1 ((day - t.2) / t.1 + 1) * t.1 ≤ 1000000 ∧ -1000000 ≤ (day - t.2) / t.1 ∧ (day - t.2) / t.1 ≤ 1000000 := by
  have hbd := ediv_bd (a := day - t.2) (by omega) (by omega) h1
  have e2 := Int.mul_ediv_add_emod (day - t.2) t.1
  have m1 := Int.emod_nonneg (day - t.2) (show t.1 ≠ 0 by omega)
  generalize (day - t.2) / t.1 = f at *
  refine ⟨Int.mul_nonneg (by omega) (by omega), ?_, hbd.1, hbd.2⟩
  rcases (show max 1 (f + 1) = 1 ∨ max 1 (f + 1) = f + 1 by omega) with h | h
  · rw [h]; omega
  · rw [h, Int.add_mul, Int.mul_comm f]; omega
theorem l29Next_any (l : List (Int × Int)) (day : Int) (hp : planB l = true) (hd : -1 ≤ day) (hd2 : day ≤ 200000) (A : Option Addr) (B c : Nat) (w : World) (hr : Rd w B A (l.flatMap eTask)) (hB : B ≤ w.heap.size) :
   Calls Try.prog 88 #[.slice A l.length c, .int .i64 day] w fun e w' => e = .returned (.int .i64 (nextL l day)) ∧ Below w.heap.size w w' := by
  have hat := fun k t => @plan_at l hp k t
  have hn12 := plan_len hp
  have Hat := Lib.hid hat
  clear hat hp
  go_enter Try.func88, Try.ntmps88
  go_wp2_with fail
  go_loopw [5, 6] (fun v i wr => ∃ k : Nat, k ≤ l.length ∧ i = .int .i64 k ∧ v = .int .i64 (nextL (l.take k) day) ∧ Below w.heap.size w wr) (fun _ i _ => l.length - (intOf i).toNat)
  case atStart => exact ⟨0, Nat.zero_le _, rfl, rfl, Below.refl _ _⟩
  case round =>
    obtain ⟨k, hk, rfl, rfl, hbw⟩ := hrel
    have hsz := hbw.size
    by_cases hlt : k < l.length
    · have ht := List.getElem?_eq_getElem hlt
      generalize l[k] = t at ht
      obtain ⟨b, o, rfl, _, c0, c1⟩ := (hr.below hbw hB).atTask ht
      have hBt := Hat.out k t ht
      have hstep := Lib.hid (nextL_step day ht)
      have hb1 := Lib.hid (nextT_bd hBt.1 hBt.2.1 hBt.2.2.1 hBt.2.2.2 hd hd2)
      have hb2 := Lib.hid (nextL_bd (l := l.take k) (fun t ht => by obtain ⟨i, hi, rfl⟩ := List.getElem_of_mem (List.mem_of_mem_take ht); have := Hat.out i _ (List.getElem?_eq_getElem hi); omega) day hd)
      unfold nextT at hstep
      obtain ⟨P, D⟩ := t
      simp only at hBt hstep hb1 c0 c1
      have hf := Lib.hid (l01Floor_any (day - D) P (by omega) (by omega) (by omega) (by omega))
      generalize (day - D) / P = f at *
      generalize nextL (l.take k) day = best at *
      clear ht hr Hat
      have hw1 : IntKind.i64.wrap (f + 1) = f + 1 := IntWalk.i64_in _ (by have := hb1.out; omega)
      have hw2 : IntKind.i64.wrap (max 1 (f + 1) * P) = max 1 (f + 1) * P := IntWalk.i64_in _ (by have := hb1.out; omega)
      have hw3 : IntKind.i64.wrap (D + max 1 (f + 1) * P) = D + max 1 (f + 1) * P := IntWalk.i64_in _ (by have := hb1.out; omega)
      have hw4 : IntKind.i64.wrap (day - D) = day - D := IntWalk.i64_in _ (by omega)
      go_wp2_with fail
      refine (hf.out _).mono ?_
      rintro e w2 ⟨rfl, rfl⟩
      have b1 := hb1.out
      have b2 := hb2.out
      generalize hM : max 1 (f + 1) = M at *
      generalize hMP : M * P = MP at *
      generalize hm : min best (D + MP) = m at *
      have hw5 : IntKind.i64.wrap MP = MP := IntWalk.i64_in _ (by omega)
      go_wp2
      go_roundw
      case rel => exact ⟨k + 1, by omega, by go_num, by rw [hstep.out], by repeat' (first | (with_reducible exact Below.refl _ _) | (with_reducible assumption) | (with_reducible refine Below.alloc ?_ ?_ _) | (with_reducible refine Below.drew ?_) | (with_reducible refine below_drewN ?_ _) | (with_reducible refine Below.setCell ?_ ?_ _) | (with_reducible refine Below.trans ?_ (Below.mono (by assumption) ?_)) | go_size | (exact Below.size (by assumption)))⟩
      case measure => simp [intOf]; omega
    · have hk' : k = l.length := by omega
      subst hk'
      go_wp2
      go_ret
      exact ⟨by first | rfl | exact ret_int (by rw [List.take_length]), hbw⟩
end Go.Proofs.Ytmbchcenclfjoaa
