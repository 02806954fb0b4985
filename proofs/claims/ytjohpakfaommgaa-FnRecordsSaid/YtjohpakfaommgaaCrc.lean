/- The check number of a byte list: walks of the program and of the reference. -/
import Derived.Test.YtjohpakfaommgaaA
import Derived.Test.YtjohpakfaommgaaP
import Derived.Laws.BitsAllLaws
import Derived.Laws.BitsLemmas
import Derived.Deep.LoopGhost
namespace Go.Proofs.Ytjohpakfaommgaa
open Go.ChangeShapes Go.WideShapes Go.ChangeAt Go.RowKit
set_option maxRecDepth 20000
set_option linter.unusedVariables false
set_option linter.unusedSimpArgs false
theorem ofInt_i64 (a : Nat) (ha : a < 9223372036854775808) : (BitVec.ofInt 64 (a : Int)).toNat = a := by
  rw [BitVec.ofInt_natCast, BitVec.toNat_ofNat]; exact Nat.mod_eq_of_lt (by omega)
theorem i64_xor_nat (a b : Nat) (ha : a < 9223372036854775808) (hb : b < 9223372036854775808) : bits .xor .i64 (a : Int) (b : Int) = ((a ^^^ b : Nat) : Int) := by
  have hx : a ^^^ b < 2 ^ 63 := Nat.xor_lt_two_pow (by omega) (by omega)
  show IntKind.i64.wrap ((BitVec.ofInt 64 (a : Int) ^^^ BitVec.ofInt 64 (b : Int)).toNat : Int) = _
  rw [BitVec.toNat_xor, ofInt_i64 a ha, ofInt_i64 b hb, IntKind.wrap_i64]
  omega
/-- one bit, one byte, all bytes -/
def crcHigh (r : Nat) : Nat := (r * 2 % 65536) ^^^ 4129
def crcBit (r : Nat) : Nat := if 32768 ≤ r then crcHigh r else r * 2
def crcBits : Nat → Nat → Nat
  | 0, r => r
  | k + 1, r => crcBit (crcBits k r)
def crcByte (r : Nat) (x : Int) : Nat := crcBits 8 (r ^^^ (256 * x.toNat))
def crc (l : List Int) : Nat := l.foldl crcByte 65535
theorem xor_lt16 {a b : Nat} (ha : a < 65536) (hb : b < 65536) : a ^^^ b < 65536 := Nat.xor_lt_two_pow (n := 16) ha hb
theorem crcBit_lt {r : Nat} (h : r < 65536) : crcBit r < 65536 := by
  unfold crcBit crcHigh
  split
  · exact xor_lt16 (by omega) (by omega)
  · omega
theorem crcBits_lt {r : Nat} (h : r < 65536) : ∀ k, crcBits k r < 65536
  | 0 => h
  | k + 1 => crcBit_lt (crcBits_lt h k)
theorem crcByte_lt {r : Nat} {x : Int} (h : r < 65536) (hx : x ≤ 255) : crcByte r x < 65536 := by
  unfold crcByte
  refine crcBits_lt (r := r ^^^ (256 * x.toNat)) ?_ 8
  exact xor_lt16 h (by omega)
theorem crcBits_zero (r : Nat) : crcBits 0 r = r := rfl
theorem crcBits_succ (k r : Nat) : crcBits (k + 1) r = crcBit (crcBits k r) := rfl
theorem crcBit_high {q : Nat} (h : 32768 ≤ q) : crcBit q = crcHigh q := if_pos h
theorem crcBit_low {q : Nat} (h : ¬ 32768 ≤ q) : crcBit q = q * 2 := if_neg h
theorem crcHigh_bits {q : Nat} (h : q < 65536) : bits .xor .i64 ((q : Int) * 2 % 65536) 4129 = (crcHigh q : Int) := by
  have := i64_xor_nat (q * 2 % 65536) 4129 (by omega) (by omega)
  simp only [Int.natCast_mul, Int.natCast_emod, Int.cast_ofNat_Int] at this
  exact this
theorem crcByte_eq (r m : Nat) : crcByte r (m : Int) = crcBits 8 (r ^^^ 256 * m) := rfl
attribute [local irreducible] crcByte crcBits crcBit crcHigh
theorem crc_step {l : List Int} {k : Nat} {x : Int} (h : l[k]? = some x) : crc (l.take (k + 1)) = crcByte (crc (l.take k)) x := by
  have hl : k < l.length := (List.getElem?_eq_some_iff.1 h).1
  have : l[k] = x := by rw [List.getElem?_eq_getElem hl] at h; exact Option.some.inj h
  unfold crc
  rw [List.take_succ_eq_append_getElem hl, List.foldl_append, this, List.foldl_cons, List.foldl_nil]
theorem crc_lt {l : List Int} (h : ∀ x ∈ l, x ≤ 255) : crc l < 65536 := by
  unfold crc
  have : ∀ (l : List Int) (r : Nat), r < 65536 → (∀ x ∈ l, x ≤ 255) → l.foldl crcByte r < 65536 := by
    intro l
    induction l with
    | nil => intro r hr _; exact hr
    | cons a l ih => intro r hr h; exact ih _ (crcByte_lt hr (h a (by simp))) (fun x hx => h x (by simp [hx]))
  exact this l 65535 (by decide) h
def bytesB (l : List Int) : Bool := decide (l.length ≤ 2000) && l.all fun x => inB x 0 255
theorem bytes_at {l : List Int} (h : bytesB l = true) {k : Nat} {x : Int} (hk : l[k]? = some x) : 0 ≤ x ∧ x ≤ 255 := by
  simp only [bytesB, Bool.and_eq_true, List.all_eq_true] at h
  have := h.2 x (List.mem_of_getElem? hk)
  simpa [inB] using this
theorem l32Check_any (l : List Int) (hl : ∀ (k : Nat) (x : Int), l[k]? = some x → 0 ≤ x ∧ x ≤ 255) (A : Option Addr) (B c : Nat) (w : World) (hr : Rd w B A (ints l)) (hn : l.length ≤ 1048576) :
   Calls Try.prog 50 #[.slice A l.length c] w fun e w' => e = .returned (.int .i64 (crc l)) ∧ w = w' := by
  have hlt : ∀ k, crc (l.take k) < 65536 := fun k => crc_lt fun x hx => by
    obtain ⟨i, hi, rfl⟩ := List.getElem_of_mem hx
    have hi' : i < l.length := by simp at hi; omega
    have := hl i (l[i]) (List.getElem?_eq_getElem hi')
    simpa using this.2
  have Hl := Lib.hid hl
  have Hlt := Lib.hid hlt
  clear hl hlt
  go_enter Try.func50, Try.ntmps50
  go_wp2_with fail
  go_loop [3, 4] (fun r i => ∃ k : Nat, k ≤ l.length ∧ i = .int .i64 k ∧ r = .int .i64 (crc (l.take k))) (fun _ i => l.length - (intOf i).toNat)
  case atStart => exact ⟨0, Nat.zero_le _, rfl, rfl⟩
  case round =>
    obtain ⟨k, hk, rfl, rfl⟩ := hrel
    by_cases hlt : k < l.length
    · have ht := List.getElem?_eq_getElem hlt
      generalize l[k] = x at ht
      obtain ⟨b, o, rfl, _, c0⟩ := hr.int ht
      have hx := Hl.out k x ht
      obtain ⟨m, rfl⟩ : ∃ m : Nat, x = m := ⟨x.toNat, by omega⟩
      have hm : m ≤ 255 := by omega
      have hstep := crc_step ht
      have hc := Hlt.out k
      generalize crc (l.take k) = r at hstep hc ⊢
      have hxor := i64_xor_nat r (256 * m) (by omega) (by omega)
      simp only [Int.natCast_mul, Int.cast_ofNat_Int] at hxor
      have hxl : r ^^^ (256 * m) < 65536 := xor_lt16 hc (by omega)
      have Hs := Lib.hid hstep
      have Hr := Lib.hid hr
      clear hstep hr ht hx
      go_wp2_with fail
      go_loop [3, 5] (fun q j => ∃ i : Nat, i ≤ 8 ∧ j = .int .i64 i ∧ q = .int .i64 (crcBits i (r ^^^ 256 * m) : Nat)) (fun _ j => 8 - (intOf j).toNat)
      case atStart => exact ⟨0, by omega, rfl, by rw [crcBits_zero]⟩
      case round =>
        obtain ⟨i, hi, rfl, rfl⟩ := hrel
        simp only [eq_self] at *
        have hb := crcBits_lt hxl i
        have hsucc := crcBits_succ i (r ^^^ 256 * m)
        by_cases h8 : i < 8
        · generalize crcBits i (r ^^^ 256 * m) = q at hsucc hb ⊢
          have hx2 := crcHigh_bits hb
          have Hq := Lib.hid hsucc
          clear hsucc hxor
          by_cases hhi : 32768 ≤ q
          · have hq := crcBit_high hhi
            have HQ := Lib.hid hq
            have hdec : decide ((32768 : Int) ≤ (q : Int)) = true := by rw [decide_eq_true_eq]; omega
            clear hq hhi
            go_wp2
            go_round
            case rel => exact ⟨i + 1, by omega, by go_num, by rw [Hq.out, HQ.out]⟩
            case measure => simp [intOf]; omega
          · have hq := crcBit_low hhi
            have HQ := Lib.hid hq
            have hdec : decide ((32768 : Int) ≤ (q : Int)) = false := by rw [decide_eq_false_iff_not]; omega
            have hq2 : q < 32768 := by omega
            clear hq hx2 hhi
            go_wp2
            go_round
            case rel => exact ⟨i + 1, by omega, by go_num, by rw [Hq.out, HQ.out]; exact vint (by omega)⟩
            case measure => simp [intOf]; omega
        · have h88 : i = 8 := by omega
          subst h88
          clear hsucc hxor
          have Hb := Lib.hid (crcByte_eq r m)
          generalize crcBits 8 (r ^^^ 256 * m) = q at Hb hb ⊢
          go_wp2
          go_round
          case rel => exact ⟨k + 1, by omega, by go_num, by rw [Hs.out, Hb.out]⟩
          case measure => simp [intOf]; omega
    · have hk' : k = l.length := by omega
      subst hk'
      rw [List.take_length]
      go_wp2
      go_ret
      exact ⟨rfl, rfl⟩
theorem checksum_any (l : List Int) (hl : ∀ (k : Nat) (x : Int), l[k]? = some x → 0 ≤ x ∧ x ≤ 255) (A : Option Addr) (B c : Nat) (w : World) (hr : Rd w B A (ints l)) (hn : l.length ≤ 1048576) :
   Calls Try.prog 52 #[.slice A l.length c] w fun e w' => e = .returned (.int .i64 (crc l)) ∧ w = w' := by
  have hlt : ∀ k, crc (l.take k) < 65536 := fun k => crc_lt fun x hx => by
    obtain ⟨i, hi, rfl⟩ := List.getElem_of_mem hx
    have hi' : i < l.length := by simp at hi; omega
    have := hl i (l[i]) (List.getElem?_eq_getElem hi')
    simpa using this.2
  have Hl := Lib.hid hl
  have Hlt := Lib.hid hlt
  clear hl hlt
  go_enter Try.func52, Try.ntmps52
  go_wp2_with fail
  go_loop [3, 8] (fun r i => ∃ k : Nat, k ≤ l.length ∧ i = .int .i64 k ∧ r = .int .i64 (crc (l.take k))) (fun _ i => l.length - (intOf i).toNat)
  case atStart => exact ⟨0, Nat.zero_le _, rfl, rfl⟩
  case round =>
    obtain ⟨k, hk, rfl, rfl⟩ := hrel
    by_cases hlt : k < l.length
    · have ht := List.getElem?_eq_getElem hlt
      generalize l[k] = x at ht
      obtain ⟨b, o, rfl, _, c0⟩ := hr.int ht
      have hx := Hl.out k x ht
      obtain ⟨m, rfl⟩ : ∃ m : Nat, x = m := ⟨x.toNat, by omega⟩
      have hm : m ≤ 255 := by omega
      have hstep := crc_step ht
      have hc := Hlt.out k
      generalize crc (l.take k) = r at hstep hc ⊢
      have hxor := i64_xor_nat r (256 * m) (by omega) (by omega)
      simp only [Int.natCast_mul, Int.cast_ofNat_Int] at hxor
      have hxl : r ^^^ (256 * m) < 65536 := xor_lt16 hc (by omega)
      have Hs := Lib.hid hstep
      have Hr := Lib.hid hr
      clear hstep hr ht hx
      go_wp2_with fail
      go_loop [3, 16] (fun q j => ∃ i : Nat, i ≤ 8 ∧ j = .int .i64 i ∧ q = .int .i64 (crcBits i (r ^^^ 256 * m) : Nat)) (fun _ j => 8 - (intOf j).toNat)
      case atStart => exact ⟨0, by omega, rfl, by rw [crcBits_zero]⟩
      case round =>
        obtain ⟨i, hi, rfl, rfl⟩ := hrel
        simp only [eq_self] at *
        have hb := crcBits_lt hxl i
        have hsucc := crcBits_succ i (r ^^^ 256 * m)
        by_cases h8 : i < 8
        · generalize crcBits i (r ^^^ 256 * m) = q at hsucc hb ⊢
          have hx2 := crcHigh_bits hb
          have Hq := Lib.hid hsucc
          clear hsucc hxor
          by_cases hhi : 32768 ≤ q
          · have hq := crcBit_high hhi
            have HQ := Lib.hid hq
            have hdec : decide ((65536 : Int) ≤ (q : Int) * 2) = true := by rw [decide_eq_true_eq]; omega
            clear hq hhi
            go_wp2
            go_round
            case rel => exact ⟨i + 1, by omega, by go_num, by rw [Hq.out, HQ.out]⟩
            case measure => simp [intOf]; omega
          · have hq := crcBit_low hhi
            have HQ := Lib.hid hq
            have hdec : decide ((65536 : Int) ≤ (q : Int) * 2) = false := by rw [decide_eq_false_iff_not]; omega
            have hq2 : q < 32768 := by omega
            clear hq hx2 hhi
            go_wp2
            go_round
            case rel => exact ⟨i + 1, by omega, by go_num, by rw [Hq.out, HQ.out]; exact vint (by omega)⟩
            case measure => simp [intOf]; omega
        · have h88 : i = 8 := by omega
          subst h88
          clear hsucc hxor
          have Hb := Lib.hid (crcByte_eq r m)
          generalize crcBits 8 (r ^^^ 256 * m) = q at Hb hb ⊢
          go_wp2
          go_round
          case rel => exact ⟨k + 1, by omega, by go_num, by rw [Hs.out, Hb.out]⟩
          case measure => simp [intOf]; omega
    · have hk' : k = l.length := by omega
      subst hk'
      rw [List.take_length]
      go_wp2
      go_ret
      exact ⟨rfl, rfl⟩
theorem l32Bytes_any (l : List Int) (A : Option Addr) (B c : Nat) (w : World) (hr : Rd w B A (ints l)) (hn : l.length ≤ 1048576) :
   Calls Try.prog 49 #[.slice A l.length c] w fun e w' => e = .returned (.bool (bytesB l)) ∧ w = w' := by
  by_cases h2 : l.length ≤ 2000
  · go_enter Try.func49, Try.ntmps49
    go_wp2_with fail
    go_loop [3] (fun i => ∃ k : Nat, k ≤ l.length ∧ i = .int .i64 k ∧ (l.take k).all (fun x => inB x 0 255) = true) (fun i => l.length - (intOf i).toNat)
    case atStart => exact ⟨0, Nat.zero_le _, rfl, by simp⟩
    case round =>
      obtain ⟨k, hk, rfl, hall⟩ := hrel
      by_cases hlt : k < l.length
      · have ht := List.getElem?_eq_getElem hlt
        generalize l[k] = x at ht
        obtain ⟨b, o, rfl, _, c0⟩ := hr.int ht
        have Ht := Lib.hid ht
        have Ha := Lib.hid hall
        clear ht hall
        cases hx : inB x 0 255 with
        | true =>
          have Hx := Lib.hid hx
          clear hx
          go_wp2_with (go_at_call 75; refine (l01In_r _ _ _ true Hx.out _).mono ?_; rintro e w' ⟨rfl, rfl⟩)
          go_round
          case rel => exact ⟨k + 1, by omega, by go_num, by rw [all_step _ _ Ht.out, Ha.out, Hx.out]; rfl⟩
          case measure => simp [intOf]; omega
        | false =>
          have Hx := Lib.hid hx
          clear hx
          go_wp2_with (go_at_call 75; refine (l01In_r _ _ _ false Hx.out _).mono ?_; rintro e w' ⟨rfl, rfl⟩)
          go_ret
          exact ⟨ret_bool (by rw [bytesB, all_false _ l Ht.out Hx.out, Bool.and_false]), rfl⟩
      · have hk' : k = l.length := by omega
        subst hk'
        rw [List.take_length] at hall
        have Ha := Lib.hid hall
        clear hall
        go_wp2
        go_ret
        exact ⟨ret_bool (by rw [bytesB, Ha.out, Bool.and_true]; exact (decide_eq_true h2).symm), rfl⟩
  · go_enter Try.func49, Try.ntmps49
    go_wp2
    go_ret
    exact ⟨ret_bool (by rw [bytesB, decide_eq_false (by omega), Bool.false_and]), rfl⟩
theorem areBytes1_any (x : Int) (w : World) : Calls Try.prog 79 #[.int .i64 x] w fun e w' => e = .returned (.bool (!inB x 0 255)) ∧ Below w.heap.size w w' := by
  go_enter Try.func79, Try.ntmps79
  go_wp2_with (go_at_call 73; refine (within_any _ _ _ _).mono ?_; rintro e w' ⟨rfl, rfl⟩)
  go_ret
  exact ⟨rfl, Below.refl _ _⟩
end Go.Proofs.Ytjohpakfaommgaa
