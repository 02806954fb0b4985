/- The bytes of a number: bytesOf and numberOf of the program, l32Put and l32Get of the reference. -/
import Derived.Test.YtjohpakfaommgaaSum
import Derived.Test.YtjohpakfaommgaaCat
import Derived.Laws.BitsAllLaws
import Derived.Laws.BitsLemmas
namespace Go.Proofs.Ytjohpakfaommgaa
open Go.ChangeShapes Go.WideShapes Go.ChangeAt Go.RowKit
set_option maxRecDepth 20000
set_option linter.unusedVariables false
set_option linter.unusedSimpArgs false
def byteAt (n j : Nat) : Nat := n / 256 ^ j % 256
def bytesL (n c : Nat) : List Int := (List.range c).map fun i => ((byteAt n (c - 1 - i) : Nat) : Int)
theorem bytesL_length (n c : Nat) : (bytesL n c).length = c := by simp [bytesL]
theorem bytesL_at (n : Nat) {c i : Nat} (h : i < c) : (bytesL n c)[i]? = some ((byteAt n (c - 1 - i) : Nat) : Int) := by simp [bytesL, h]
theorem bytesL_take (n : Nat) {c i : Nat} (h : i < c) : (bytesL n c).take (i + 1) = (bytesL n c).take i ++ [((byteAt n (c - 1 - i) : Nat) : Int)] := by
  have hl : i < (bytesL n c).length := by rw [bytesL_length]; exact h
  rw [List.take_succ_eq_append_getElem hl]
  have := bytesL_at n h
  rw [List.getElem?_eq_getElem hl] at this
  rw [Option.some.inj this]
theorem i64_and255 {x : Int} (h0 : 0 ≤ x) (h1 : x < 9223372036854775808) : bits .and .i64 x 255 = x % 256 :=
  bits_mask .i64 63 (by decide) (fun n h0 h1 => by rw [IntKind.wrap_i64]; omega) 8 (by decide) x h0 (by simpa using h1)
theorem byte_bits {n j : Nat} (hn : n < 4294967296) (hj : j < 4) : bits .and .i64 ((n : Int) / 2 ^ (8 * j)) 255 = ((byteAt n j : Nat) : Int) := by
  have h2 : ((n : Int) / 2 ^ (8 * j)) = ((n / 256 ^ j : Nat) : Int) := by
    have h5 : (256 : Nat) ^ j = 2 ^ (8 * j) := by rw [Nat.pow_mul]
    rw [h5, Int.natCast_ediv, Int.natCast_pow]
    rfl
  have h3 : n / 256 ^ j ≤ n := Nat.div_le_self _ _
  rw [h2]
  unfold byteAt
  generalize n / 256 ^ j = q at h3 ⊢
  rw [i64_and255 (by omega) (by omega)]
  omega
theorem bytesOf_any (n c : Nat) (hc : c ≤ 4) (hn : n < 4294967296) (w : World) :
   Calls Try.prog 82 #[.int .i64 n, .int .i64 c] w fun e w' => ∃ A' c', e = .returned (.slice A' c c') ∧ w'.ownsRow w.heap.size 2 1 (.slice A' c c') c (ints (bytesL n c)) ∧ Below w.heap.size w w' := by
  obtain ⟨i0, hi0, hz0, hz1, hz2⟩ := info_parts infoInt64
  obtain ⟨w1, xs, hmk, hown, hxs, hb1, hz⟩ := mk_own (P := Try.prog) 22 2 i0 _ 1 8 Try.underlying22 hi0 hz0 hz1 hz2 .i64 .i64 c (by omega) (by unfold maxLen; omega) w.heap.size w (Nat.le_refl _)
  clear hxs
  generalize hG : w.heap.size = G at *
  go_enter Try.func82, Try.ntmps82
  go_wp2_with fail
  go_loopw [6, 11] (fun _ i wr => ∃ k : Nat, k ≤ c ∧ i = .int .i64 k ∧ Below G w wr ∧ G < wr.heap.size ∧ ∃ xs, wr.ownsRow G 2 1 (.slice (some ⟨G, 0, none⟩) c c) c xs ∧ ∀ j, j < c → c - k ≤ j → xs[j]? = (ints (bytesL n c))[j]?) (fun _ i _ => c - (intOf i).toNat)
  case atStart => exact ⟨0, Nat.zero_le _, rfl, hb1, hz, xs, hown, fun j hj hk => by omega⟩
  case round =>
    clear hmk hown hb1
    obtain ⟨k, hk, rfl, hbw, hsz, ys, hown, hys⟩ := hrel
    by_cases hlt : k < c
    · have hl2 := hown.1
      have d0 := hown.cellAt (c - 1 - k) (by omega)
      rw [List.getElem?_eq_getElem (show c - 1 - k < ys.length by omega)] at d0
      generalize ys[c - 1 - k] = u0 at d0
      have hfz := hown.frozenAt
      have hbt := byte_bits hn (show k < 4 by omega)
      have Hb := Lib.hid hbt
      have Ho := Lib.hid hown
      have Hy := Lib.hid hys
      have Hl := Lib.hid hl2
      clear hown hys hl2 hbt
      go_wp2
      go_roundw
      case rel =>
        have o1 := World.ownsRow.stored Ho.out (c - 1 - k) (.int .i64 ((byteAt n k : Nat) : Int))
        have hl := Hl.out
        rw [Hb.out]
        refine ⟨k + 1, by omega, by go_num, by repeat' (first | (with_reducible exact Below.refl _ _) | (with_reducible assumption) | (with_reducible refine Below.alloc ?_ ?_ _) | (with_reducible refine Below.drew ?_) | (with_reducible refine below_drewN ?_ _) | (with_reducible refine Below.setCell ?_ ?_ _) | (with_reducible refine Below.trans ?_ (Below.mono (by assumption) ?_)) | go_size | (exact Below.size (by assumption))), by first | omega | (simp; omega), _, o1.1, fun j hj hjk => ?_⟩
        rw [List.getElem?_set]
        by_cases e : c - 1 - k = j
        · subst e
          have h3 : c - 1 - (c - 1 - k) = k := by omega
          rw [if_pos rfl, if_pos (by omega), ints, List.getElem?_map, bytesL_at n (by omega), h3]
          rfl
        · rw [if_neg e]
          exact Hy.out j hj (by omega)
      case measure => simp [intOf]; omega
    · have hk' : k = c := by omega
      subst hk'
      have hy : ys = ints (bytesL n k) := List.ext_getElem? fun j => by
        by_cases hj : j < k
        · exact hys j hj (by omega)
        · rw [List.getElem?_eq_none (by have := hown.1; omega), List.getElem?_eq_none (by simp [ints, bytesL_length]; omega)]
      have Ho := Lib.hid (hy ▸ hown)
      clear hown hys hy
      go_wp2
      go_ret
      exact ⟨_, _, rfl, Ho.out, by repeat' (first | (with_reducible exact Below.refl _ _) | (with_reducible assumption) | (with_reducible refine Below.alloc ?_ ?_ _) | (with_reducible refine Below.drew ?_) | (with_reducible refine below_drewN ?_ _) | (with_reducible refine Below.setCell ?_ ?_ _) | (with_reducible refine Below.trans ?_ (Below.mono (by assumption) ?_)) | go_size | (exact Below.size (by assumption)))⟩
theorem l32Put_any (n c m : Nat) (hc : c ≤ 4) (hn : n < 4294967296) (hm : m ≤ 1000000) (l : List Int) (base : Nat) (A : Option Addr) (cc : Nat) (w : World) (hown : w.ownsRow base 2 1 (.slice A m cc) m (ints l)) (hbase : base ≤ w.heap.size) :
   Calls Try.prog 81 #[.slice A m cc, .int .i64 n, .int .i64 c] w fun e w' => ∃ A' c', e = .returned (.slice A' (m + c) c') ∧ w'.ownsRow base 2 1 (.slice A' (m + c) c') (m + c) (ints (l ++ bytesL n c)) ∧ Below base w w' ∧ w.heap.size ≤ w'.heap.size := by
  obtain ⟨i0, hi0, hz0, hz1, hz2⟩ := info_parts infoInt64
  have Ho := Lib.hid hown
  clear hown
  go_enter Try.func81, Try.ntmps81
  go_wp2_with fail
  go_loopw [0, 7] (fun v i wr => ∃ k : Nat, k ≤ c ∧ i = .int .i64 ((c : Int) - 1 - (k : Int)) ∧ wr.ownsRow base 2 1 v (m + k) (ints (l ++ (bytesL n c).take k)) ∧ Below base w wr ∧ w.heap.size ≤ wr.heap.size) (fun _ i _ => (intOf i + 1).toNat)
  case atStart => exact ⟨0, Nat.zero_le _, vint (by omega), by simpa using Ho.out, Below.refl _ _, Nat.le_refl _⟩
  case round =>
    obtain ⟨k, hk, rfl, hown, hbw, hsz⟩ := hrel
    by_cases hlt : k < c
    · have hq : (c : Int) - 1 - (k : Int) = ((c - 1 - k : Nat) : Int) := by omega
      have hbt := byte_bits hn (show c - 1 - k < 4 by omega)
      have hst := bytesL_take n hlt
      have hj : c - 1 - k < 4 := by omega
      rw [hq]
      have Hq := Lib.hid hq
      have Hb := Lib.hid hbt
      have Hs := Lib.hid hst
      have Ho := Lib.hid hown
      clear hq hbt hst hown
      generalize c - 1 - k = j at *
      have hm1 : m + k ≤ 1048576 := by omega
      have hb2 : base ≤ wr.heap.size := by omega
      go_wp2_with (at_builtin; refine wpList_append_int rfl (.tmp 14) (.tmp 21) 22 rfl base 2 i0 Try.underlying22 hi0 hz0 hz1 hz2 _ _ _ rfl Ho.out _ rfl hm1 hb2 ?_; intro v2 w2 o2 hb2 hz4; have O2 := Lib.hid o2; clear o2)
      go_roundw
      case rel =>
        have o2 := O2.out
        rw [Hb.out] at o2
        exact ⟨k + 1, by omega, vint (by have := Hq.out; omega), by rw [Hs.out, ← List.append_assoc]; exact o2, hbw.trans hb2, by omega⟩
      case measure => simp [intOf]
    · have hk' : k = c := by omega
      subst hk'
      rw [List.take_of_length_le (by rw [bytesL_length]; omega)] at hown
      obtain ⟨A', c', rfl⟩ := own_val hown
      have Ho := Lib.hid hown
      clear hown
      go_wp2
      go_ret
      exact ⟨_, _, rfl, Ho.out, hbw, hsz⟩
def numL (l : List Int) : Int := l.foldl (fun n b => 256 * n + b) 0
theorem numL_step {l : List Int} {k : Nat} {x : Int} (h : l[k]? = some x) : numL (l.take (k + 1)) = 256 * numL (l.take k) + x := by
  have hl : k < l.length := (List.getElem?_eq_some_iff.1 h).1
  have : l[k] = x := by rw [List.getElem?_eq_getElem hl] at h; exact Option.some.inj h
  unfold numL
  rw [List.take_succ_eq_append_getElem hl, List.foldl_append, this, List.foldl_cons, List.foldl_nil]
def isBytes (l : List Int) : Prop := ∀ (k : Nat) (x : Int), l[k]? = some x → 0 ≤ x ∧ x ≤ 255
theorem numL_bd {l : List Int} (hb : isBytes l) : ∀ k, k ≤ 4 → 0 ≤ numL (l.take k) ∧ numL (l.take k) < 256 ^ k := by
  intro k
  induction k with
  | zero => intro _; simp [numL]
  | succ k ih =>
    intro hk
    obtain ⟨h0, h1⟩ := ih (by omega)
    cases h : l[k]? with
    | none =>
      have : l.take (k + 1) = l.take k := by rw [List.take_of_length_le (by rw [List.getElem?_eq_none_iff] at h; omega), List.take_of_length_le (by rw [List.getElem?_eq_none_iff] at h; omega)]
      rw [this, Int.pow_succ]
      omega
    | some x =>
      obtain ⟨g0, g1⟩ := hb k x h
      rw [numL_step h, Int.pow_succ]
      omega
theorem numL_lt {l : List Int} (hb : isBytes l) (k : Nat) (hk : k ≤ 4) : 0 ≤ numL (l.take k) ∧ numL (l.take k) ≤ 4294967295 := by
  obtain ⟨h0, h1⟩ := numL_bd hb k hk
  refine ⟨h0, ?_⟩
  have hp : (256 : Int) ^ k ≤ 4294967296 := by
    have : k = 0 ∨ k = 1 ∨ k = 2 ∨ k = 3 ∨ k = 4 := by omega
    rcases this with h | h | h | h | h <;> subst h <;> decide
  have := Int.lt_of_lt_of_le h1 hp
  omega
theorem numberOf_any (l : List Int) (hb : isBytes l) (hn : l.length ≤ 4) (A : Option Addr) (B c : Nat) (w : World) (hr : Rd w B A (ints l)) :
   Calls Try.prog 85 #[.slice A l.length c] w fun e w' => e = .returned (.int .i64 (numL l)) ∧ w = w' := by
  have hbd := fun k => numL_lt hb k
  have Hb := Lib.hid hb
  have Hbd := Lib.hid hbd
  clear hb hbd
  go_enter Try.func85, Try.ntmps85
  go_wp2_with fail
  go_loop [3, 8] (fun q i => ∃ k : Nat, k ≤ l.length ∧ i = .int .i64 k ∧ q = .int .i64 (numL (l.take k))) (fun _ i => l.length - (intOf i).toNat)
  case atStart => exact ⟨0, Nat.zero_le _, rfl, rfl⟩
  case round =>
    obtain ⟨k, hk, rfl, rfl⟩ := hrel
    by_cases hlt : k < l.length
    · have ht := List.getElem?_eq_getElem hlt
      generalize l[k] = x at ht
      obtain ⟨b, o, rfl, _, c0⟩ := hr.int ht
      obtain ⟨x0, x1⟩ := Hb.out k x ht
      obtain ⟨n0, n1⟩ := Hbd.out k (by omega)
      have hs := numL_step ht
      have Hs := Lib.hid hs
      generalize numL (l.take k) = q at *
      clear ht hs hr
      go_wp2
      go_round
      case rel => exact ⟨k + 1, by omega, by go_num, by rw [Hs.out]⟩
      case measure => simp [intOf]; omega
    · have hk' : k = l.length := by omega
      subst hk'
      rw [List.take_length]
      go_wp2
      go_ret
      exact ⟨rfl, rfl⟩
theorem l32Get_any (l : List Int) (hb : isBytes l) (at_ size : Nat) (h4 : size ≤ 4) (hle : at_ + size ≤ l.length) (hn : l.length ≤ 1000000) (A : Option Addr) (B c : Nat) (w : World) (hr : Rd w B A (ints l)) :
   Calls Try.prog 83 #[.slice A l.length c, .int .i64 at_, .int .i64 size] w fun e w' => e = .returned (.int .i64 (numL ((l.drop at_).take size))) ∧ w = w' := by
  have hb' : isBytes (l.drop at_) := fun k x h => hb (at_ + k) x (by rw [← h, List.getElem?_drop])
  have hbd := fun k => numL_lt hb' k
  have Hb := Lib.hid hb
  have Hbd := Lib.hid hbd
  clear hb hbd hb'
  go_enter Try.func83, Try.ntmps83
  go_wp2_with fail
  go_loop [7, 8] (fun q i => ∃ k : Nat, k ≤ size ∧ i = .int .i64 ((at_ + k : Nat) : Int) ∧ q = .int .i64 (numL ((l.drop at_).take k))) (fun _ i => at_ + size - (intOf i).toNat)
  case atStart => exact ⟨0, Nat.zero_le _, rfl, rfl⟩
  case round =>
    obtain ⟨k, hk, rfl, rfl⟩ := hrel
    by_cases hlt : k < size
    · have ht := List.getElem?_eq_getElem (show at_ + k < l.length by omega)
      generalize l[at_ + k] = x at ht
      obtain ⟨b, o, rfl, _, c0⟩ := hr.int ht
      obtain ⟨x0, x1⟩ := Hb.out _ x ht
      obtain ⟨n0, n1⟩ := Hbd.out k (by omega)
      have hs := numL_step (l := l.drop at_) (k := k) (x := x) (by rw [List.getElem?_drop]; exact ht)
      have Hs := Lib.hid hs
      generalize numL ((l.drop at_).take k) = q at *
      clear ht hs hr
      go_wp2
      go_round
      case rel => exact ⟨k + 1, by omega, by go_num, by rw [Hs.out]⟩
      case measure => simp [intOf]; omega
    · have hk' : k = size := by omega
      subst hk'
      clear hr
      go_wp2
      go_ret
      exact ⟨rfl, rfl⟩
theorem l01Same_any (l l' : List Int) (A A' : Option Addr) (B B' c c' : Nat) (w : World) (hr : Rd w B A (ints l)) (hr2 : Rd w B' A' (ints l')) (hn : l.length ≤ 1048576) (hn2 : l'.length ≤ 1048576) :
   Calls Try.prog 84 #[.slice A l.length c, .slice A' l'.length c'] w fun e w' => e = .returned (.bool (decide (l = l'))) ∧ Below w.heap.size w w' := by
  by_cases hll : l.length = l'.length
  rotate_left
  · have hd : decide (l = l') = false := decide_eq_false (fun h => hll (by rw [h]))
    have Hd := Lib.hid hd
    clear hd
    have hx : ((l.length : Int) != (l'.length : Int)) = true := by rw [bne_iff_ne]; omega
    go_enter Try.func84, Try.ntmps84
    go_wp2
    go_ret
    exact ⟨ret_bool Hd.out.symm, Below.refl _ _⟩
  · have hx : ((l.length : Int) != (l'.length : Int)) = false := by rw [← hll]; simp
    have Hll := Lib.hid hll
    have hn3 : l.length ≤ l'.length := by omega
    clear hll
    go_enter Try.func84, Try.ntmps84
    go_wp2_with fail
    clear hx
    go_loopw [5] (fun i wr => ∃ k : Nat, k ≤ l.length ∧ i = .int .i64 k ∧ l.take k = l'.take k ∧ ∃ q, wr = w.drewN q) (fun i _ => l.length - (intOf i).toNat)
    case atStart => exact ⟨0, Nat.zero_le _, rfl, by simp, 0, rfl⟩
    case round =>
      obtain ⟨k, hk, rfl, heq, q, rfl⟩ := hrel
      by_cases hlt : k < l.length
      · have ht := List.getElem?_eq_getElem hlt
        have ht2 := List.getElem?_eq_getElem (show k < l'.length by omega)
        have hs1 := List.take_succ_eq_append_getElem hlt
        have hs2 := List.take_succ_eq_append_getElem (show k < l'.length by omega)
        have hdd : l[k] ≠ l'[k]'(by omega) → decide (l = l') = false := fun h => decide_eq_false (fun he => by
          subst he
          exact h rfl)
        generalize l[k] = x at ht hs1 hdd
        generalize l'[k]'(by omega) = y at ht2 hs2 hdd
        obtain ⟨b, o, rfl, _, c0⟩ := hr.int ht
        obtain ⟨b2, o2, rfl, _, d0⟩ := hr2.int ht2
        have He := Lib.hid heq
        have H1 := Lib.hid hs1
        have H2 := Lib.hid hs2
        have Hdd := Lib.hid hdd
        clear ht ht2 hr hr2 heq hs1 hs2 hdd
        by_cases hxy : x = y
        · subst hxy
          go_wp2_with fail
          go_quiet (fail)
          go_wp2
          go_roundw
          case rel => exact ⟨k + 1, by omega, by go_num, by rw [H1.out, H2.out, He.out], _, rfl⟩
          case measure => simp [intOf]; omega
        · have hb : (x != y) = true := by rw [bne_iff_ne]; exact hxy
          have Hxy := Lib.hid hxy
          clear hxy
          go_wp2_with fail
          go_quiet (fail)
          go_wp2
          go_ret
          exact ⟨ret_bool (Hdd.out Hxy.out).symm, by repeat' (first | (with_reducible exact Below.refl _ _) | (with_reducible assumption) | (with_reducible refine Below.alloc ?_ ?_ _) | (with_reducible refine Below.drew ?_) | (with_reducible refine below_drewN ?_ _) | (with_reducible refine Below.setCell ?_ ?_ _) | (with_reducible refine Below.trans ?_ (Below.mono (by assumption) ?_)) | go_size | (exact Below.size (by assumption)))⟩
      · have hk' : k = l.length := by omega
        subst hk'
        have hd : decide (l = l') = true := decide_eq_true (by
          rw [List.take_length, List.take_of_length_le (by have := Hll.out; omega)] at heq
          exact heq)
        have Hd := Lib.hid hd
        clear hd heq hr hr2
        go_wp2
        go_ret
        exact ⟨ret_bool Hd.out.symm, by repeat' (first | (with_reducible exact Below.refl _ _) | (with_reducible assumption) | (with_reducible refine Below.alloc ?_ ?_ _) | (with_reducible refine Below.drew ?_) | (with_reducible refine below_drewN ?_ _) | (with_reducible refine Below.setCell ?_ ?_ _) | (with_reducible refine Below.trans ?_ (Below.mono (by assumption) ?_)) | go_size | (exact Below.size (by assumption)))⟩
theorem equal_any (l l' : List Int) (A A' : Option Addr) (B B' c c' : Nat) (w : World) (hr : Rd w B A (ints l)) (hr2 : Rd w B' A' (ints l')) (hn : l.length ≤ 1048576) (hn2 : l'.length ≤ 1048576) :
   Calls Try.prog 86 #[.slice A l.length c, .slice A' l'.length c'] w fun e w' => e = .returned (.bool (decide (l = l'))) ∧ Below w.heap.size w w' := by
  by_cases hll : l.length = l'.length
  rotate_left
  · have hd : decide (l = l') = false := decide_eq_false (fun h => hll (by rw [h]))
    have Hd := Lib.hid hd
    clear hd
    have hx : ((l.length : Int) != (l'.length : Int)) = true := by rw [bne_iff_ne]; omega
    go_enter Try.func86, Try.ntmps86
    go_wp2
    go_ret
    exact ⟨ret_bool Hd.out.symm, Below.refl _ _⟩
  · have hx : ((l.length : Int) != (l'.length : Int)) = false := by rw [← hll]; simp
    have Hll := Lib.hid hll
    have hn3 : l.length ≤ l'.length := by omega
    clear hll
    go_enter Try.func86, Try.ntmps86
    go_wp2_with fail
    clear hx
    go_loopw [13] (fun i wr => ∃ k : Nat, k ≤ l.length ∧ i = .int .i64 k ∧ l.take k = l'.take k ∧ ∃ q, wr = w.drewN q) (fun i _ => l.length - (intOf i).toNat)
    case atStart => exact ⟨0, Nat.zero_le _, rfl, by simp, 0, rfl⟩
    case round =>
      obtain ⟨k, hk, rfl, heq, q, rfl⟩ := hrel
      by_cases hlt : k < l.length
      · have ht := List.getElem?_eq_getElem hlt
        have ht2 := List.getElem?_eq_getElem (show k < l'.length by omega)
        have hs1 := List.take_succ_eq_append_getElem hlt
        have hs2 := List.take_succ_eq_append_getElem (show k < l'.length by omega)
        have hdd : l[k] ≠ l'[k]'(by omega) → decide (l = l') = false := fun h => decide_eq_false (fun he => by
          subst he
          exact h rfl)
        generalize l[k] = x at ht hs1 hdd
        generalize l'[k]'(by omega) = y at ht2 hs2 hdd
        obtain ⟨b, o, rfl, _, c0⟩ := hr.int ht
        obtain ⟨b2, o2, rfl, _, d0⟩ := hr2.int ht2
        have He := Lib.hid heq
        have H1 := Lib.hid hs1
        have H2 := Lib.hid hs2
        have Hdd := Lib.hid hdd
        clear ht ht2 hr hr2 heq hs1 hs2 hdd
        by_cases hxy : x = y
        · subst hxy
          go_wp2_with fail
          go_quiet (fail)
          go_wp2
          go_roundw
          case rel => exact ⟨k + 1, by omega, by go_num, by rw [H1.out, H2.out, He.out], _, rfl⟩
          case measure => simp [intOf]; omega
        · have hb : (x != y) = true := by rw [bne_iff_ne]; exact hxy
          have Hxy := Lib.hid hxy
          clear hxy
          go_wp2_with fail
          go_quiet (fail)
          go_wp2
          go_ret
          exact ⟨ret_bool (Hdd.out Hxy.out).symm, by repeat' (first | (with_reducible exact Below.refl _ _) | (with_reducible assumption) | (with_reducible refine Below.alloc ?_ ?_ _) | (with_reducible refine Below.drew ?_) | (with_reducible refine below_drewN ?_ _) | (with_reducible refine Below.setCell ?_ ?_ _) | (with_reducible refine Below.trans ?_ (Below.mono (by assumption) ?_)) | go_size | (exact Below.size (by assumption)))⟩
      · have hk' : k = l.length := by omega
        subst hk'
        have hd : decide (l = l') = true := decide_eq_true (by
          rw [List.take_length, List.take_of_length_le (by have := Hll.out; omega)] at heq
          exact heq)
        have Hd := Lib.hid hd
        clear hd heq hr hr2
        go_wp2
        go_ret
        exact ⟨ret_bool Hd.out.symm, by repeat' (first | (with_reducible exact Below.refl _ _) | (with_reducible assumption) | (with_reducible refine Below.alloc ?_ ?_ _) | (with_reducible refine Below.drew ?_) | (with_reducible refine below_drewN ?_ _) | (with_reducible refine Below.setCell ?_ ?_ _) | (with_reducible refine Below.trans ?_ (Below.mono (by assumption) ?_)) | go_size | (exact Below.size (by assumption)))⟩
end Go.Proofs.Ytjohpakfaommgaa
