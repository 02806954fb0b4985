/- One to three wrong bits of a record are noticed (plain). -/
import Derived.Test.YtjohpakfaommgaaPl
namespace Go.Proofs.Ytjohpakfaommgaa
open Go.ChangeShapes Go.WideShapes Go.ChangeAt Go.RowKit
set_option maxRecDepth 20000
set_option linter.unusedVariables false
set_option linter.unusedSimpArgs false
theorem crcBit_eq {r : Nat} (h : r < 65536) : crcBit r = ((r <<< 1) % 2 ^ 16) ^^^ (if r.testBit 15 then 4129 else 0) := by
  have e : r <<< 1 = r * 2 := by rw [Nat.shiftLeft_eq]
  have t : r.testBit 15 = decide (32768 ≤ r) := by
    rw [Nat.testBit_eq_decide_div_mod_eq]
    congr 1
    apply propext
    constructor <;> intro _ <;> omega
  rw [e, t]
  by_cases hr : 32768 ≤ r
  · rw [crcBit_high hr]
    simp only [hr, decide_true, if_true]
    unfold crcHigh
    rfl
  · rw [crcBit_low hr]
    simp only [hr, decide_false]
    have : r * 2 % 2 ^ 16 = r * 2 := Nat.mod_eq_of_lt (by omega)
    rw [this]
    simp
theorem crcBit_xor {a b : Nat} (ha : a < 65536) (hb : b < 65536) : crcBit (a ^^^ b) = crcBit a ^^^ crcBit b := by
  rw [crcBit_eq (xor_lt16 ha hb), crcBit_eq ha, crcBit_eq hb, Nat.shiftLeft_xor_distrib, Nat.xor_mod_two_pow, Nat.testBit_xor]
  generalize a <<< 1 % 2 ^ 16 = x
  generalize b <<< 1 % 2 ^ 16 = y
  cases a.testBit 15 <;> cases b.testBit 15 <;> simp only [if_true, if_false, Nat.xor_zero, Nat.zero_xor, Bool.xor_true, Bool.xor_false, Bool.false_xor, Bool.true_xor, Bool.not_true, Bool.not_false, Bool.false_eq_true]
  · exact (Nat.xor_assoc _ _ _)
  · rw [Nat.xor_assoc, Nat.xor_comm y, ← Nat.xor_assoc]
  · rw [Nat.xor_comm y, Nat.xor_assoc, ← Nat.xor_assoc 4129 4129 y, Nat.xor_self, Nat.zero_xor]
theorem crcBits_xor {a b : Nat} (ha : a < 65536) (hb : b < 65536) : ∀ k, crcBits k (a ^^^ b) = crcBits k a ^^^ crcBits k b
  | 0 => rfl
  | k + 1 => by rw [crcBits_succ, crcBits_succ, crcBits_succ, crcBits_xor ha hb k, crcBit_xor (crcBits_lt ha k) (crcBits_lt hb k)]
theorem crcBits_add (m : Nat) (r : Nat) : ∀ k, crcBits (k + m) r = crcBits k (crcBits m r)
  | 0 => by rw [Nat.zero_add, crcBits_zero]
  | k + 1 => by rw [Nat.add_right_comm, crcBits_succ, crcBits_succ, crcBits_add m r k]
theorem mul256_xor (a b : Nat) : 256 * (a ^^^ b) = 256 * a ^^^ 256 * b := by
  have h := Nat.shiftLeft_xor_distrib (a := a) (b := b) (i := 8)
  simp only [Nat.shiftLeft_eq] at h
  rw [Nat.mul_comm 256, Nat.mul_comm 256, Nat.mul_comm 256]
  exact h
theorem crcByte_def (r : Nat) (x : Int) : crcByte r x = crcBits 8 (r ^^^ 256 * x.toNat) := rfl
theorem crcByte_xor {a b : Nat} {x : Int} (ha : a < 65536) (hb : b < 65536) (hx : x ≤ 255) : crcByte (a ^^^ b) x = crcByte a x ^^^ crcBits 8 b := by
  rw [crcByte_def, crcByte_def, show a ^^^ b ^^^ 256 * x.toNat = a ^^^ 256 * x.toNat ^^^ b by rw [Nat.xor_assoc, Nat.xor_comm b, ← Nat.xor_assoc]]
  exact crcBits_xor (xor_lt16 ha (by omega)) hb 8
attribute [local irreducible] crcByte crcBits crcBit crcHigh
def crcL (r : Nat) (l : List Int) : Nat := l.foldl crcByte r
theorem crcL_lt : ∀ (l : List Int) {r : Nat}, r < 65536 → (∀ x ∈ l, x ≤ 255) → crcL r l < 65536
  | [], _, hr, _ => hr
  | a :: l, r, hr, h => by
    show crcL (crcByte r a) l < 65536
    exact crcL_lt l (crcByte_lt hr (h a (by simp))) (fun x hx => h x (by simp [hx]))
theorem crcL_xor : ∀ (l : List Int) {a b : Nat}, a < 65536 → b < 65536 → (∀ x ∈ l, x ≤ 255) → crcL (a ^^^ b) l = crcL a l ^^^ crcBits (8 * l.length) b
  | [], a, b, _, _, _ => by
    show a ^^^ b = a ^^^ crcBits 0 b
    rw [crcBits_zero]
  | x :: l, a, b, ha, hb, h => by
    show crcL (crcByte (a ^^^ b) x) l = crcL (crcByte a x) l ^^^ crcBits (8 * (l.length + 1)) b
    have hx := h x (by simp)
    rw [crcByte_xor ha hb hx, crcL_xor l (crcByte_lt ha hx) (crcBits_lt hb 8) (fun y hy => h y (by simp [hy])), Nat.mul_add, Nat.mul_one, crcBits_add]
theorem crcL_app (r : Nat) (a b : List Int) : crcL r (a ++ b) = crcL (crcL r a) b := List.foldl_append
theorem crc_eq (l : List Int) : crc l = crcL 65535 l := rfl
/-- what a wrong bit of fourteen bytes does to the check number -/
def synd (b : Nat) : Nat := crcBits (8 * (14 - b / 8)) (256 * 2 ^ (b % 8))
theorem crc_set {l : List Int} (hb : ∀ x ∈ l, x ≤ 255) {p : Nat} {x : Int} (hp : l[p]? = some x) {d : Nat} (hd : d < 256) :
    crc (l.set p ((x.toNat ^^^ d : Nat) : Int)) = crc l ^^^ crcBits (8 * (l.length - p)) (256 * d) := by
  obtain ⟨h1, h2⟩ := List.getElem?_eq_some_iff.1 hp
  have hx : x ≤ 255 := hb x (List.mem_of_getElem? hp)
  have e1 : l.set p ((x.toNat ^^^ d : Nat) : Int) = l.take p ++ ((x.toNat ^^^ d : Nat) : Int) :: l.drop (p + 1) := by
    rw [List.set_eq_take_append_cons_drop, if_pos h1]
  have e2 : l = l.take p ++ x :: l.drop (p + 1) := by
    rw [← h2, ← List.drop_eq_getElem_cons h1, List.take_append_drop]
  have ht : ∀ y ∈ l.take p, y ≤ 255 := fun y hy => hb y (List.mem_of_mem_take hy)
  have hdr : ∀ y ∈ l.drop (p + 1), y ≤ 255 := fun y hy => hb y (List.mem_of_mem_drop hy)
  have hr := crcL_lt (l.take p) (r := 65535) (by decide) ht
  have e3 : crc l = crcL (crcByte (crcL 65535 (l.take p)) x) (l.drop (p + 1)) := by
    rw [crc_eq]
    exact (congrArg (crcL 65535) e2).trans (crcL_app _ _ _)
  rw [e1, e3, crc_eq, crcL_app]
  generalize hR : crcL 65535 (l.take p) = r at hr ⊢
  show crcL (crcByte r ((x.toNat ^^^ d : Nat) : Int)) (l.drop (p + 1)) = _
  have hxl : x.toNat < 256 := by omega
  have hdl : 256 * d < 65536 := by omega
  have e4 : crcByte r ((x.toNat ^^^ d : Nat) : Int) = crcByte r x ^^^ crcBits 8 (256 * d) := by
    rw [crcByte_def, crcByte_def, Int.toNat_natCast, mul256_xor, ← Nat.xor_assoc]
    exact crcBits_xor (xor_lt16 hr (by omega)) hdl 8
  rw [e4, crcL_xor _ (crcByte_lt hr hx) (crcBits_lt hdl 8) hdr, List.length_drop, ← crcBits_add]
  congr 2
  omega
theorem crc_flip {l : List Int} (hb : ∀ x ∈ l, x ≤ 255) (hl : l.length = 14) {b : Nat} (hlt : b < 112) {x : Int} (hp : l[b / 8]? = some x) :
    crc (l.set (b / 8) ((x.toNat ^^^ 2 ^ (b % 8) : Nat) : Int)) = crc l ^^^ synd b := by
  have h8 : b % 8 < 8 := Nat.mod_lt _ (by decide)
  have := crc_set hb hp (d := 2 ^ (b % 8)) (by calc 2 ^ (b % 8) < 2 ^ 8 := Nat.pow_lt_pow_right (by decide) h8
                                                  _ = 256 := rfl)
  rw [this, hl]
  rfl
theorem low_bits : ∀ x, x < 256 → crcBits 8 x = 256 * x := by decide +kernel
theorem crc_self {c : Nat} (h : c < 65536) : crcL c (bytesL c 2) = 0 := by
  rw [bytes2]
  show crcByte (crcByte c ((c / 256 % 256 : Nat) : Int)) ((c % 256 : Nat) : Int) = 0
  have e : c ^^^ 256 * (c / 256) = c % 256 := by
    have a1 := Nat.xor_div_two_pow (a := c) (b := 256 * (c / 256)) (n := 8)
    have a2 := Nat.xor_mod_two_pow (a := c) (b := 256 * (c / 256)) (n := 8)
    generalize c ^^^ 256 * (c / 256) = v at *
    have b1 : 256 * (c / 256) / 2 ^ 8 = c / 2 ^ 8 := by omega
    have b2 : 256 * (c / 256) % 2 ^ 8 = 0 := by omega
    rw [b1, Nat.xor_self] at a1
    rw [b2, Nat.xor_zero] at a2
    omega
  have hh : c / 256 % 256 = c / 256 := Nat.mod_eq_of_lt (by omega)
  have e1 : crcByte c ((c / 256 % 256 : Nat) : Int) = 256 * (c % 256) := by
    rw [crcByte_def, Int.toNat_natCast, hh, e]
    exact low_bits _ (Nat.mod_lt _ (by decide))
  rw [e1, crcByte_def, Int.toNat_natCast, Nat.xor_self]
  exact low_bits 0 (by decide)
theorem crc_ok {l : List Int} (hb : isBytes l) (h : decOk l = true) : crc l = 0 := by
  simp only [decOk, Bool.and_eq_true, decide_eq_true_eq] at h
  obtain ⟨h14, _, he⟩ := h
  obtain ⟨t, k, v, n, e1, e2, e3, e4, t1, k1, v1, n1, _⟩ := dec_nats hb h14
  rw [e1, e2, e3, e4] at he
  simp only [Int.toNat_natCast] at he
  rw [← he, encL, crc_eq, crcL_app]
  exact crc_self (crc_pre_lt k1)
def parL : List Nat → Nat → Bool
  | [], _ => false
  | i :: is, n => (n.testBit i) ^^ (parL is n)
theorem parL_xor (a b : Nat) : ∀ is, parL is (a ^^^ b) = ((parL is a) ^^ (parL is b))
  | [] => rfl
  | i :: is => by
    simp only [parL, Nat.testBit_xor, parL_xor a b is]
    cases a.testBit i <;> cases b.testBit i <;> cases parL is a <;> cases parL is b <;> rfl
theorem parL_zero : ∀ is, parL is 0 = false
  | [] => rfl
  | i :: is => by simp [parL, parL_zero is]
def syndT : List Nat := [31585, 63170, 64933, 60267, 50935, 40399, 11199, 22398, 17763, 35526, 1453, 2906, 5812, 11624, 23248, 46496, 885, 1770, 3540, 7080, 14160, 28320, 56640, 43681, 55369, 41139, 20807, 41614, 21821, 43642, 17621, 35242, 28485, 56970, 44341, 19019, 38038, 14605, 29210, 58420, 60195, 50791, 40175, 10751, 21502, 43004, 24537, 49074, 18387, 36774, 3949, 7898, 15796, 31592, 63184, 64897, 47201, 24803, 49606, 37805, 14203, 28406, 56812, 44025, 17824, 35648, 1697, 3394, 6788, 13576, 27152, 54304, 43601, 17539, 35078, 557, 1114, 2228, 4456, 8912, 30388, 60776, 51953, 34243, 7079, 14158, 28316, 56632, 14128, 28256, 56512, 43425, 17251, 34502, 7597, 15194, 13105, 26210, 52420, 35241, 883, 1766, 3532, 7064, 4129, 8258, 16516, 33032, 4657, 9314, 18628, 37256]
theorem synd_tab : (List.range 112).map synd = syndT := by decide +kernel
theorem synd_at {b : Nat} (h : b < 112) : syndT[b]? = some (synd b) := by rw [← synd_tab, List.getElem?_map, List.getElem?_range h]; rfl
theorem syndT_nd : syndT.Nodup := by decide +kernel
theorem syndT_par : syndT.all (parL (List.range 16)) = true := by decide +kernel
theorem synd_par {b : Nat} (h : b < 112) : parL (List.range 16) (synd b) = true := List.all_eq_true.1 syndT_par _ (List.mem_of_getElem? (synd_at h))
theorem synd_inj {a b : Nat} (ha : a < 112) (hb : b < 112) (h : synd a = synd b) : a = b := by
  have h1 := synd_at ha
  have h2 := synd_at hb
  rw [← h] at h2
  obtain ⟨l1, e1⟩ := List.getElem?_eq_some_iff.1 h1
  obtain ⟨l2, e2⟩ := List.getElem?_eq_some_iff.1 h2
  have hp := List.pairwise_iff_getElem.1 syndT_nd
  rcases Nat.lt_trichotomy a b with hl | hl | hl
  · exact absurd (e1.trans e2.symm) (hp a b l1 l2 hl)
  · exact hl
  · exact absurd (e2.trans e1.symm) (hp b a l2 l1 hl)
def syndL : List Nat → Nat
  | [] => 0
  | b :: bs => synd b ^^^ syndL bs
theorem syndL_ne {bs : List Nat} (h0 : bs ≠ []) (h3 : bs.length ≤ 3) (hn : bs.Nodup) (hb : ∀ b ∈ bs, b < 112) : syndL bs ≠ 0 := by
  intro h
  match bs, h0, h3, hn, hb, h with
  | [a], _, _, _, hb, h =>
    have pa := synd_par (hb a (by simp))
    simp only [syndL, Nat.xor_zero] at h
    rw [h, parL_zero] at pa
    cases pa
  | [a, b], _, _, hn, hb, h =>
    simp only [syndL, Nat.xor_zero] at h
    have e : synd a = synd b := by
      have := congrArg (fun x => x ^^^ synd b) h
      simpa [Nat.xor_assoc] using this
    have := synd_inj (hb a (by simp)) (hb b (by simp)) e
    subst this
    simp at hn
  | [a, b, c], _, _, _, hb, h =>
    have pa := synd_par (hb a (by simp))
    have pb := synd_par (hb b (by simp))
    have pc := synd_par (hb c (by simp))
    simp only [syndL, Nat.xor_zero] at h
    have := congrArg (parL (List.range 16)) h
    rw [parL_xor, parL_xor, pa, pb, pc, parL_zero] at this
    cases this
  | _ :: _ :: _ :: _ :: _, _, h3, _, _, _ => simp at h3
theorem syndL_snoc (b : Nat) : ∀ bs : List Nat, syndL (bs ++ [b]) = syndL bs ^^^ synd b
  | [] => by simp [syndL]
  | a :: bs => by rw [List.cons_append, syndL, syndL, syndL_snoc b bs, Nat.xor_assoc]
/-- the bytes with wrong bits: as many, bytes, and the check number tells the bits -/
def Wrong (m l : List Int) (bs : List Nat) : Prop := l.length = 14 ∧ isBytes l ∧ crc l = syndL bs ∧ bs.Nodup ∧ ∀ b ∈ bs, b < 112
theorem wrong_start {m : List Int} (hm : isBytes m) (h : decOk m = true) : Wrong m m [] := by
  have h14 : m.length = 14 := by
    simp only [decOk, Bool.and_eq_true, decide_eq_true_eq] at h
    exact h.1
  exact ⟨h14, hm, crc_ok hm h, List.nodup_nil, by simp⟩
theorem wrong_step {m l : List Int} {bs : List Nat} (h : Wrong m l bs) {b : Nat} (hb : b < 112) (hn : b ∉ bs) {x : Int} (hx : l[b / 8]? = some x) : Wrong m (l.set (b / 8) ((x.toNat ^^^ 2 ^ (b % 8) : Nat) : Int)) (bs ++ [b]) := by
  obtain ⟨h1, h2, h3, h4, h5⟩ := h
  have h255 : ∀ y ∈ l, y ≤ 255 := fun y hy => by
    obtain ⟨i, hi, rfl⟩ := List.getElem_of_mem hy
    exact (h2 i _ (List.getElem?_eq_getElem hi)).2
  obtain ⟨x0, x1⟩ := h2 _ _ hx
  have h8 : b % 8 < 8 := Nat.mod_lt _ (by decide)
  have hp : 2 ^ (b % 8) < 2 ^ 8 := Nat.pow_lt_pow_right (by decide) h8
  have hxor : x.toNat ^^^ 2 ^ (b % 8) < 2 ^ 8 := Nat.xor_lt_two_pow (by omega) hp
  refine ⟨by rw [List.length_set]; exact h1, ?_, ?_, ?_, ?_⟩
  · intro i y hy
    rw [List.getElem?_set] at hy
    split at hy
    · split at hy
      · injection hy with hy
        omega
      · cases hy
    · exact h2 i y hy
  · rw [crc_flip h255 h1 hb hx, h3, syndL_snoc]
  · rw [List.nodup_append]
    exact ⟨h4, by simp, fun a ha c hc => by rw [List.mem_singleton] at hc; rintro rfl; subst hc; exact hn ha⟩
  · intro c hc
    rw [List.mem_append, List.mem_singleton] at hc
    rcases hc with hc | hc
    · exact h5 c hc
    · omega
theorem wrong_end {m l : List Int} {bs : List Nat} (h : Wrong m l bs) (h0 : bs ≠ []) (h3 : bs.length ≤ 3) : decOk l = false := by
  cases hd : decOk l with
  | false => rfl
  | true =>
    obtain ⟨h1, h2, e, h4, h5⟩ := h
    have := crc_ok h2 hd
    rw [e] at this
    exact absurd this (syndL_ne h0 h3 h4 h5)
end Go.Proofs.Ytjohpakfaommgaa
