/- The law on active devices. -/
import Derived.Test.YtooifamckccadaaDa
import Derived.Test.YtooifamckccadaaBk
import Derived.Test.YtooifamckccadaaAa
import Derived.Test.YtooifamckccadaaAf
import Derived.Test.YtooifamckccadaaAl0
namespace Go.Proofs.Ytooifamckccadaa
open Go.ChangeShapes Go.WideShapes Go.ChangeAt Go.RowKit
set_option maxRecDepth 20000
set_option linter.unusedVariables false
set_option linter.unusedSimpArgs false
theorem energyAfter_impl (k len rise rl rh fl fh lo hi : Int) (hs : segB k len rise rl rh fl fh = true) (he : enB lo hi = true) (w : World) : Calls Try.prog 47 #[.agg #[.int .i64 k, .int .i64 len, .int .i64 rise, .int .i64 rl, .int .i64 rh, .int .i64 fl, .int .i64 fh], .agg #[.int .i64 lo, .int .i64 hi]] w fun e w' => e = .returned (.tuple #[.agg #[.int .i64 (chkA (lo + (-19612 * rise - 2 * rh * len)) (hi + (-19612 * rise - 2 * rl * len))), .int .i64 (chkB (lo + (-19612 * rise - 2 * rh * len)) (hi + (-19612 * rise - 2 * rl * len)))], .int .i64 (chkC (lo + (-19612 * rise - 2 * rh * len)) (hi + (-19612 * rise - 2 * rl * len)))]) ∧ Below w.heap.size w w' := by
  have Hac := Lib.hid (after_any k len rise rl rh fl fh lo hi hs he)
  rw [chkV_eq] at Hac
  have Hs := Lib.hid hs
  have He := Lib.hid he
  clear hs he
  generalize (lo + (-19612 * rise - 2 * rh * len)) = ra at *
  generalize (hi + (-19612 * rise - 2 * rl * len)) = rb at *
  generalize chkA ra rb = ca at *
  generalize chkB ra rb = cb at *
  generalize chkC ra rb = cc at *
  go_enter Try.func47, Try.ntmps47
  go_wp2_with (first | (go_at_call 89; refine (isSeg_impl_r _ _ _ _ _ _ _ true Hs.out _).mono ?_; rintro e w1 ⟨rfl, hb⟩; obtain ⟨hc, hf, hz⟩ := bstep (N := w.heap.size + 3) (by go_size) hb) | (go_at_call 90; refine (isEn_impl_r _ _ true He.out _).mono ?_; rintro e w2 ⟨rfl, hb2⟩; obtain ⟨hc2, hf2, hz2⟩ := bstep (N := w.heap.size + 3) (by go_size) hb2) | (go_at_call 121; refine (Hac.out _).mono ?_; rintro e w3 ⟨rfl, hb3⟩; obtain ⟨hc3, hf3, hz3⟩ := bstep (N := w.heap.size + 3) (by go_size) hb3))
  refine bodyPost_ret (v := .tuple #[.agg #[.int .i64 ca, .int .i64 cb], .int .i64 cc]) (by simp [results, Try.results47, go_sem, *]; done) rfl ?_
  exact ⟨rfl, by repeat' (first | (with_reducible exact Below.refl _ _) | (with_reducible assumption) | (with_reducible refine Below.alloc ?_ ?_ _) | (with_reducible refine Below.drew ?_) | (with_reducible refine below_drewN ?_ _) | (with_reducible refine Below.setCell ?_ ?_ _) | (with_reducible refine Below.trans ?_ (Below.mono (by assumption) ?_)) | go_size | (exact Below.size (by assumption)))⟩
theorem chk_zero {a b : Int} (h : chkC a b = 0) : chkA a b = a ∧ chkB a b = b ∧ 0 ≤ a ∧ b ≤ 10000000000 := by
  unfold chkC at h
  split at h
  · omega
  · split at h
    · omega
    · rename_i h1 h2
      exact ⟨by rw [chkA, if_neg h1, if_neg h2], by rw [chkB, if_neg h1, if_neg h2], by omega, by omega⟩
theorem chk_ok {a b : Int} (h1 : 0 ≤ a) (h2 : b ≤ 10000000000) : chkA a b = a ∧ chkB a b = b ∧ chkC a b = 0 := by
  have n1 : ¬ a < 0 := by omega
  have n2 : ¬ 10000000000 < b := by omega
  exact ⟨by rw [chkA, if_neg n1, if_neg n2], by rw [chkB, if_neg n1, if_neg n2], by rw [chkC, if_neg n1, if_neg n2]⟩
theorem chk_high {a b : Int} (h1 : 0 ≤ a) (h2 : 10000000000 < b) : chkC a b = 3 := by
  rw [chkC, if_neg (by omega), if_pos h2]
theorem seg_force {k len rise rl rh fl fh : Int} (h : segB k len rise rl rh fl fh = true) (hk : k ≠ 0) : 1 ≤ fl ∧ fl ≤ fh ∧ 1 ≤ len ∧ 0 ≤ k ∧ k ≤ 4 := by
  obtain ⟨⟨k0, k4⟩, ⟨l1, _⟩, _, _, _⟩ := seg_bds h
  simp only [segB, Bool.and_eq_true, if_neg hk] at h
  obtain ⟨a, b, c⟩ := wit_bds h.2
  exact ⟨a, b, l1, k0, k4⟩
theorem two_pos {f len : Int} (h1 : 1 ≤ f) (h2 : 1 ≤ len) : 0 < 2 * f * len := Int.mul_pos (by omega) (by omega)
def actLaw (k len rise rl rh fl fh lo hi : Int) (a b za zb zc : Int) : Prop :=
  (k = 1 ∧ afA k len rise rl rh fl fh 0 0 = a ∧ afB k len rise rl rh fl fh 0 0 = b ∧ afC k len rise rl rh fl fh 0 0 = 0) ∨ (k = 2 ∧ (zc ≠ 0 ∨ (za < a ∧ zb < b))) ∨ (k = 0 ∧ zc = 0 ∧ za = a ∧ zb = b) ∨ ((k = 3 ∨ k = 4) ∧ (zc = 3 ∨ (zc = 0 ∧ a < za ∧ b < zb)))
theorem act_law {k len rise rl rh fl fh lo hi : Int} (hC : afC k len rise rl rh fl fh lo hi = 0) : segB k len rise rl rh fl fh = true ∧ enB lo hi = true ∧ actLaw k len rise rl rh fl fh lo hi (afA k len rise rl rh fl fh lo hi) (afB k len rise rl rh fl fh lo hi) (chkA (lo + (-19612 * rise - 2 * rh * len)) (hi + (-19612 * rise - 2 * rl * len))) (chkB (lo + (-19612 * rise - 2 * rh * len)) (hi + (-19612 * rise - 2 * rl * len))) (chkC (lo + (-19612 * rise - 2 * rh * len)) (hi + (-19612 * rise - 2 * rl * len))) := by
  have hse : (segB k len rise rl rh fl fh && enB lo hi) = true := by
    cases h : (segB k len rise rl rh fl fh && enB lo hi) with
    | true => rfl
    | false => simp [afC, h] at hC
  have hse2 := hse
  rw [Bool.and_eq_true] at hse
  obtain ⟨hs, he⟩ := hse
  refine ⟨hs, he, ?_⟩
  rw [afC, if_pos hse2] at hC
  rw [afA, if_pos hse2, afB, if_pos hse2]
  obtain ⟨e1, e2, h0, h1⟩ := chk_zero hC
  rw [e1, e2]
  clear e1 e2
  obtain ⟨⟨k0, k4⟩, _⟩ := seg_bds hs
  have he0 : enB 0 0 = true := by decide
  rcases (show k = 0 ∨ k = 1 ∨ k = 2 ∨ k = 3 ∨ k = 4 by omega) with rfl | rfl | rfl | rfl | rfl
  · refine .inr (.inr (.inl ?_))
    simp only [actP] at h0 h1 ⊢
    simp at h0 h1 ⊢
    obtain ⟨a1, a2, a3⟩ := chk_ok (a := (lo + (-19612 * rise - 2 * rh * len))) (b := (hi + (-19612 * rise - 2 * rl * len))) (by omega) (by omega)
    exact ⟨a3, a1, a2⟩
  · refine .inl ⟨rfl, ?_⟩
    have hse0 : (segB 1 len rise rl rh fl fh && enB 0 0) = true := by rw [hs, he0]; rfl
    rw [afA, if_pos hse0, afB, if_pos hse0, afC, if_pos hse0]
    simp only [actP] at h0 h1 ⊢
    simp at h0 h1 ⊢
    exact chk_ok h0 h1
  · refine .inr (.inl ⟨rfl, ?_⟩)
    obtain ⟨f1, f2, l1, _⟩ := seg_force hs (by decide)
    have p1 := two_pos f1 l1
    have p2 := two_pos (show 1 ≤ fh by omega) l1
    simp only [actP] at h0 h1 ⊢
    simp at h0 h1 ⊢
    by_cases hz : chkC (lo + (-19612 * rise - 2 * rh * len)) (hi + (-19612 * rise - 2 * rl * len)) = 0
    · right
      obtain ⟨a1, a2, a3, a4⟩ := chk_zero hz
      rw [a1, a2]
      omega
    · left; exact hz
  · refine .inr (.inr (.inr ⟨by simp, ?_⟩))
    obtain ⟨f1, f2, l1, _⟩ := seg_force hs (by decide)
    have p1 := two_pos f1 l1
    have p2 := two_pos (show 1 ≤ fh by omega) l1
    have hA : actP 3 len rise rl rh fl fh lo hi = ((lo + (-19612 * rise - 2 * rh * len)) + -2 * fh * len, (hi + (-19612 * rise - 2 * rl * len)) + -2 * fl * len) := by simp [actP]
    rw [hA] at h0 h1 ⊢
    dsimp only at h0 h1 ⊢
    have q1 : -2 * fh * len = -(2 * fh * len) := by rw [Int.neg_mul, Int.neg_mul]
    have q2 : -2 * fl * len = -(2 * fl * len) := by rw [Int.neg_mul, Int.neg_mul]
    rw [q1] at h0 ⊢
    rw [q2] at h1 ⊢
    clear hA q1 q2 hC
    generalize 2 * fh * len = P at *
    generalize 2 * fl * len = Q at *
    generalize (lo + (-19612 * rise - 2 * rh * len)) = X at *
    generalize (hi + (-19612 * rise - 2 * rl * len)) = Y at *
    by_cases hz : 10000000000 < Y
    · left; exact chk_high (by omega) hz
    · right
      obtain ⟨a1, a2, a3⟩ := chk_ok (a := X) (b := Y) (by omega) (by omega)
      rw [a1, a2, a3]
      omega
  · refine .inr (.inr (.inr ⟨by simp, ?_⟩))
    obtain ⟨f1, f2, l1, _⟩ := seg_force hs (by decide)
    have p1 := two_pos f1 l1
    have p2 := two_pos (show 1 ≤ fh by omega) l1
    have hA : actP 4 len rise rl rh fl fh lo hi = ((lo + (-19612 * rise - 2 * rh * len)) + -2 * fh * len, (hi + (-19612 * rise - 2 * rl * len)) + -2 * fl * len) := by simp [actP]
    rw [hA] at h0 h1 ⊢
    dsimp only at h0 h1 ⊢
    have q1 : -2 * fh * len = -(2 * fh * len) := by rw [Int.neg_mul, Int.neg_mul]
    have q2 : -2 * fl * len = -(2 * fl * len) := by rw [Int.neg_mul, Int.neg_mul]
    rw [q1] at h0 ⊢
    rw [q2] at h1 ⊢
    clear hA q1 q2 hC
    generalize 2 * fh * len = P at *
    generalize 2 * fl * len = Q at *
    generalize (lo + (-19612 * rise - 2 * rh * len)) = X at *
    generalize (hi + (-19612 * rise - 2 * rl * len)) = Y at *
    by_cases hz : 10000000000 < Y
    · left; exact chk_high (by omega) hz
    · right
      obtain ⟨a1, a2, a3⟩ := chk_ok (a := X) (b := Y) (by omega) (by omega)
      rw [a1, a2, a3]
      omega
end Go.Proofs.Ytooifamckccadaa
