/- Choices of brakes: walks of the reference. -/
import Derived.Test.YtooifamckccadaaLb0
import Derived.Test.YtooifamckccadaaAm
import Derived.Test.YtooifamckccadaaDa
import Derived.Laws.BitsLemmas
namespace Go.Proofs.Ytooifamckccadaa
open Go.ChangeShapes Go.WideShapes Go.ChangeAt Go.RowKit
set_option maxRecDepth 20000
set_option linter.unusedVariables false
set_option linter.unusedSimpArgs false
theorem mod_emod (a n : Int) (hn : 0 < n) : (a.tmod n + n).tmod n = a % n := by
  have h1 := Int.tmod_lt_of_pos a hn
  have h2 := Int.lt_tmod_of_pos a hn
  rw [Int.tmod_eq_emod_of_nonneg (show 0 ≤ a.tmod n + n by omega), Int.add_emod_right]
  have h3 := Int.tmod_add_mul_tdiv a n
  have h4 : a % n = (a.tmod n + n * a.tdiv n) % n := by rw [h3]
  rw [h4, Int.add_mul_emod_self_left]
theorem l05Mod_any (a n : Int) (hn : 0 < n) (hn2 : n ≤ 1000000) (h1 : -1000000 ≤ a) (h2 : a ≤ 1000000) (w : World) :
   Calls Try.prog 155 #[.int .i64 a, .int .i64 n] w fun e w' => e = .returned (.int .i64 (a % n)) ∧ w = w' := by
  have t1 := Int.tmod_lt_of_pos a hn
  have t2 := Int.lt_tmod_of_pos a hn
  have e1 : IntKind.i64.wrap (a.tmod n + n) = a.tmod n + n := IntWalk.i64_in _ (by omega)
  have e2 : wrap64 (a.tmod n + n) = a.tmod n + n := IntWalk.wrap64_in _ (by omega)
  have He := Lib.hid (mod_emod a n hn)
  have H9 := Lib.hid t1
  have H8 := Lib.hid t2
  clear t1 t2
  go_enter Try.func155, Try.ntmps155
  go_wp2
  go_ret
  exact ⟨ret_int He.out, rfl⟩
theorem bit_at {m k : Nat} (hm : m < 256) : bits BinOp.and IntKind.i64 ((m : Int) / 2 ^ k) 1 = ((m / 2 ^ k % 2 : Nat) : Int) := by
  have h2 : ((m : Int) / 2 ^ k) = ((m / 2 ^ k : Nat) : Int) := by
    rw [Int.natCast_ediv, Int.natCast_pow]; rfl
  have h3 : m / 2 ^ k ≤ m := Nat.div_le_self _ _
  rw [h2]
  clear h2
  generalize m / 2 ^ k = q at h3 ⊢
  have := bits_mask .i64 63 (by decide) (fun n h0 h1 => by rw [IntKind.wrap_i64]; omega) 1 (by decide) (q : Int) (by omega) (by simpa using (show (q : Int) < 9223372036854775808 by omega))
  simpa using this
set_option maxHeartbeats 1000000 in
theorem l09Choice_any (l : List Int) (m : Nat) (hl : l.length ≤ 8) (hm : m < 256) (A : Option Addr) (B c : Nat) (w : World) (hr : Rd w B A (ints l)) (hB : B ≤ w.heap.size) :
   Calls Try.prog 102 #[.slice A l.length c, .int .i64 m] w fun e w' => ∃ A' c', e = .returned (.slice A' (chL l m).length c') ∧ w'.ownsRow w.heap.size 2 1 (.slice A' (chL l m).length c') (chL l m).length (ints (chL l m)) ∧ Below w.heap.size w w' := by
  obtain ⟨i0, hi0, hz0, hz1, hz2⟩ := info_parts infoInt64
  have ho := World.ownsRow_made (base := w.heap.size) (e := 2) (size := 1) w #[] 0 (Nat.le_refl _) (by unfold maxLen; omega) (by simp)
  have Ho := Lib.hid ho
  have Hr := Lib.hid hr
  clear ho hr
  go_enter Try.func102, Try.ntmps102
  go_wp2_with fail
  go_loopw [5, 6] (fun v i wr => ∃ k : Nat, k ≤ l.length ∧ i = .int .i64 k ∧ wr.ownsRow w.heap.size 2 1 v (chL (l.take k) m).length (ints (chL (l.take k) m)) ∧ Below w.heap.size w wr) (fun _ i _ => l.length - (intOf i).toNat)
  case atStart => exact ⟨0, Nat.zero_le _, rfl, by simpa [chL, ints] using Ho.out, (Below.refl _ _).alloc (Nat.le_refl _) _⟩
  case round =>
    clear Ho
    obtain ⟨k, hk, rfl, hown, hbw⟩ := hrel
    by_cases hlt : k < l.length
    · have ht := List.getElem?_eq_getElem hlt
      generalize l[k] = x at ht
      obtain ⟨b, o, rfl, hbB, c0⟩ := (Hr.out.below hbw hB).int ht
      have hst := chL_step ht m
      have hbt := bit_at (k := k) hm
      have hlen := chL_len (l.take k) m
      have hln : (chL (l.take k) m).length ≤ 1048576 := by rw [List.length_take] at hlen; omega
      have hsz : w.heap.size ≤ wr.heap.size := hbw.size
      have hj0 : (0 : Int) ≤ (k : Int) := by omega
      have hj1 : (k : Int) < (l.length : Int) := by omega
      have Ho := Lib.hid hown
      have Hb := Lib.hid hbw
      clear ht hown hbw hlen
      by_cases hb : m / 2 ^ k % 2 = 1
      · have hq : (bits BinOp.and IntKind.i64 ((m : Int) / 2 ^ k) 1 == 1) = true := by rw [hbt, hb]; rfl
        rw [if_pos hb] at hst
        have Hst := Lib.hid hst
        clear hst hbt hb
        generalize chL (l.take k) m = Z at *
        go_wp2_with (at_builtin; refine wpList_append_int rfl (.tmp 20) (.tmp 25) 27 rfl w.heap.size 2 i0 Try.underlying27 hi0 hz0 hz1 hz2 _ _ Z (by rfl) Ho.out x (by rfl) hln hsz ?_; intro v5 w5 own5 hb5 hz5; have O5 := Lib.hid own5; have B5 := Lib.hid (Hb.out.trans (hb5.mono (Nat.le_refl _))); clear own5 hb5)
        go_roundw
        case rel => exact ⟨k + 1, by omega, by go_num, by rw [Hst.out]; simpa using O5.out, B5.out⟩
        case measure => simp [intOf]; omega
      · have hq : (bits BinOp.and IntKind.i64 ((m : Int) / 2 ^ k) 1 == 1) = false := by rw [hbt, beq_eq_false_iff_ne]; omega
        rw [if_neg hb, List.append_nil] at hst
        have Hst := Lib.hid hst
        clear hst hbt hb
        generalize chL (l.take k) m = Z at *
        go_wp2_with fail
        go_roundw
        case rel => exact ⟨k + 1, by omega, by go_num, by rw [Hst.out]; exact Ho.out, Hb.out⟩
        case measure => simp [intOf]; omega
    · have hk' : k = l.length := by omega
      subst hk'
      rw [List.take_length] at hown
      obtain ⟨A', c', rfl⟩ := own_val hown
      have Ho := Lib.hid hown
      clear hown
      go_wp2
      go_ret
      exact ⟨A', c', rfl, Ho.out, hbw⟩
end Go.Proofs.Ytooifamckccadaa
