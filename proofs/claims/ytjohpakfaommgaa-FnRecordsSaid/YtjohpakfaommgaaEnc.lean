/- The bytes of a record: l32Encode of the reference, encode of the program; EncodeRecord. -/
import Derived.Test.YtjohpakfaommgaaByt
import Derived.Test.YtjohpakfaommgaaStep
import Derived.Deep.RegionHeld3
import Derived.Deep.DrawnRows
namespace Go.Proofs.Ytjohpakfaommgaa
open Go.ChangeShapes Go.WideShapes Go.ChangeAt Go.RowKit
set_option maxRecDepth 20000
set_option linter.unusedVariables false
set_option linter.unusedSimpArgs false
def preL (t k v n : Nat) : List Int := [82, (k : Int)] ++ bytesL t 4 ++ bytesL v 4 ++ bytesL n 2
def encL (t k v n : Nat) : List Int := preL t k v n ++ bytesL (crc (preL t k v n)) 2
theorem preL_length (t k v n : Nat) : (preL t k v n).length = 12 := by simp [preL, bytesL_length]
theorem encL_length (t k v n : Nat) : (encL t k v n).length = 14 := by simp [encL, preL_length, bytesL_length]
theorem bytesL_mem {n c : Nat} {x : Int} (h : x ∈ bytesL n c) : 0 ≤ x ∧ x ≤ 255 := by
  simp only [bytesL, List.mem_map] at h
  obtain ⟨i, _, rfl⟩ := h
  have : byteAt n (c - 1 - i) < 256 := Nat.mod_lt _ (by decide)
  omega
theorem preL_bytes {t k v n : Nat} (hk : k ≤ 255) : ∀ (i : Nat) (x : Int), (preL t k v n)[i]? = some x → 0 ≤ x ∧ x ≤ 255 := by
  intro i x h
  have h := List.mem_of_getElem? h
  simp only [preL, List.mem_append, List.mem_cons, List.not_mem_nil, or_false] at h
  rcases h with ((h | h) | h) | h
  · rcases h with h | h <;> omega
  · exact bytesL_mem h
  · exact bytesL_mem h
  · exact bytesL_mem h
theorem crc_pre_lt {t k v n : Nat} (hk : k ≤ 255) : crc (preL t k v n) < 65536 := crc_lt fun x hx => by
  obtain ⟨i, hi, rfl⟩ := List.getElem_of_mem hx
  exact (preL_bytes hk i _ (List.getElem?_eq_getElem hi)).2
theorem Rd.stepAlloc {w : World} {A : Option Addr} {xs : List Value} (h : Rd w w.heap.size A xs) (o : Obj) : Rd (w.alloc o) (w.alloc o).heap.size A xs := (h.alloc (Nat.le_refl _) o).more (by simp)
theorem Rd.stepDrew {w : World} {A : Option Addr} {xs : List Value} (h : Rd w w.heap.size A xs) : Rd w.drew w.drew.heap.size A xs := h
theorem rd_newE (w : World) (xs : List Value) (e : TypeId) (B : Nat) (hB : w.heap.size < B) : Rd (w.alloc (.cells xs.toArray e)) B (some ⟨w.heap.size, 0, none⟩) xs := fun hn => by
  refine ⟨w.heap.size, 0, rfl, hB, fun j u hu => ?_⟩
  have hh := heap_alloc_new w (.cells xs.toArray e)
  simp only [World.cell?, Nat.zero_add]
  rw [hh]
  simpa using hu
theorem lit_own (w : World) (e : TypeId) (l : List Int) (base : Nat) (hb : base ≤ w.heap.size) (n : Nat) (hn : l.length = n) (hm : n ≤ 1048576) : (w.alloc (.cells (ints l).toArray e)).ownsRow base e 1 (.slice (some ⟨w.heap.size, 0, none⟩) n n) n (ints l) := by
  have := World.ownsRow_lit (base := base) (e := e) (size := 1) w (ints l).toArray n hb (by unfold maxLen; omega) (by simp [ints, hn])
  simpa using this
theorem l32Check_n (l : List Int) (n : Nat) (hl : l.length = n) (hb : ∀ (k : Nat) (x : Int), l[k]? = some x → 0 ≤ x ∧ x ≤ 255) (A : Option Addr) (B c : Nat) (w : World) (hr : Rd w B A (ints l)) (hn : n ≤ 1048576) :
   Calls Try.prog 50 #[.slice A n c] w fun e w' => e = .returned (.int .i64 (crc l)) ∧ w = w' := by subst hl; exact l32Check_any l hb A B c w hr hn
theorem checksum_n (l : List Int) (n : Nat) (hl : l.length = n) (hb : ∀ (k : Nat) (x : Int), l[k]? = some x → 0 ≤ x ∧ x ≤ 255) (A : Option Addr) (B c : Nat) (w : World) (hr : Rd w B A (ints l)) (hn : n ≤ 1048576) :
   Calls Try.prog 52 #[.slice A n c] w fun e w' => e = .returned (.int .i64 (crc l)) ∧ w = w' := by subst hl; exact checksum_any l hb A B c w hr hn
theorem put4_any (n m m' : Nat) (hmm : m + 4 = m') (hn : n < 4294967296) (hm : m ≤ 1000000) (l : List Int) (base : Nat) (A : Option Addr) (cc : Nat) (w : World) (hown : w.ownsRow base 2 1 (.slice A m cc) m (ints l)) (hbase : base ≤ w.heap.size) :
   Calls Try.prog 81 #[.slice A m cc, .int .i64 n, .int .i64 4] w fun e w' => ∃ A' c', e = .returned (.slice A' m' c') ∧ w'.ownsRow base 2 1 (.slice A' m' c') m' (ints (l ++ bytesL n 4)) ∧ Below base w w' ∧ w.heap.size ≤ w'.heap.size := by
  subst hmm; exact l32Put_any n 4 m (by omega) hn hm l base A cc w hown hbase
theorem put2_any (n m m' : Nat) (hmm : m + 2 = m') (hn : n < 4294967296) (hm : m ≤ 1000000) (l : List Int) (base : Nat) (A : Option Addr) (cc : Nat) (w : World) (hown : w.ownsRow base 2 1 (.slice A m cc) m (ints l)) (hbase : base ≤ w.heap.size) :
   Calls Try.prog 81 #[.slice A m cc, .int .i64 n, .int .i64 2] w fun e w' => ∃ A' c', e = .returned (.slice A' m' c') ∧ w'.ownsRow base 2 1 (.slice A' m' c') m' (ints (l ++ bytesL n 2)) ∧ Below base w w' ∧ w.heap.size ≤ w'.heap.size := by
  subst hmm; exact l32Put_any n 2 m (by omega) hn hm l base A cc w hown hbase
theorem bytes4_any (n : Nat) (hn : n < 4294967296) (w : World) :
   Calls Try.prog 82 #[.int .i64 n, .int .i64 4] w fun e w' => ∃ A' c', e = .returned (.slice A' 4 c') ∧ w'.ownsRow w.heap.size 2 1 (.slice A' 4 c') 4 (ints (bytesL n 4)) ∧ Below w.heap.size w w' := bytesOf_any n 4 (by omega) hn w
theorem bytes2_any (n : Nat) (hn : n < 4294967296) (w : World) :
   Calls Try.prog 82 #[.int .i64 n, .int .i64 2] w fun e w' => ∃ A' c', e = .returned (.slice A' 2 c') ∧ w'.ownsRow w.heap.size 2 1 (.slice A' 2 c') 2 (ints (bytesL n 2)) ∧ Below w.heap.size w w' := bytesOf_any n 2 (by omega) hn w
theorem l32Encode_any (t k v n : Nat) (ht : t < 4294967296) (hk : k ≤ 255) (hv : v < 4294967296) (hn : n < 65536) (w : World) :
   Calls Try.prog 57 #[.agg #[.int .i64 t, .int .i64 k, .int .i64 v], .int .i64 n] w fun e w' => ∃ A' c', e = .returned (.slice A' 14 c') ∧ w'.ownsRow w.heap.size 2 1 (.slice A' 14 c') 14 (ints (encL t k v n)) ∧ Below w.heap.size w w' := by
  have hcl := crc_pre_lt (t := t) (v := v) (n := n) hk
  have hpb := preL_bytes (t := t) (v := v) (n := n) hk
  have Hpb := Lib.hid hpb
  clear hpb
  go_enter Try.func57, Try.ntmps57
  go_wp2_with fail
  refine (put4_any t 2 6 rfl ht (by omega) [82, (k : Int)] (w.heap.size + 1) _ _ _ (by
    have h := lit_own (w.alloc (.cells #[.int .i64 t, .int .i64 k, .int .i64 v] 35)) 2 [82, (k : Int)] (w.heap.size + 1) (by simp) 2 rfl (by omega)
    simpa [ints] using h) (by simp)).mono ?_
  rintro e w1 ⟨A1, c1, rfl, o1, b1, z1⟩
  simp at z1
  have C0 : w1.cell? ⟨w.heap.size, 2, none⟩ = some (.int .i64 v) := (b1.cell (p := ⟨w.heap.size, 2, none⟩) (by simp)).trans (by simp)
  have O1 := Lib.hid o1
  clear o1
  go_wp2_with fail
  refine (put4_any v 6 10 rfl hv (by omega) _ (w.heap.size + 1) _ _ _ O1.out (by omega)).mono ?_
  rintro e w2 ⟨A2, c2, rfl, o2, b2, z2⟩
  have O2 := Lib.hid o2
  clear o2 C0
  go_wp2_with fail
  refine (put2_any n 10 12 rfl (by omega) (by omega) _ (w.heap.size + 1) _ _ _ O2.out (by omega)).mono ?_
  rintro e w3 ⟨A3, c3, rfl, o3, b3, z3⟩
  have R3 := Lib.hid (Rd.of_own o3)
  have O3 := Lib.hid o3
  clear o3
  go_wp2_with fail
  refine (l32Check_n (preL t k v n) 12 (preL_length _ _ _ _) Hpb.out _ _ _ _ R3.out (by omega)).mono ?_
  rintro e w' ⟨rfl, rfl⟩
  go_wp2_with fail
  refine (put2_any (crc (preL t k v n)) 12 14 rfl (by omega) (by omega) _ (w.heap.size + 1) _ _ _ O3.out (by omega)).mono ?_
  rintro e w4 ⟨A4, c4, rfl, o4, b4, z4⟩
  have O4 := Lib.hid o4
  clear o4
  go_wp2
  go_ret
  refine ⟨A4, c4, rfl, own_more O4.out (by omega), ?_⟩
  exact ((Below.refl _ _).alloc (Nat.le_refl _) _).trans (((Below.refl _ _).alloc (by simp) _).trans ((((b1.trans b2).trans b3).trans b4).mono (by omega)))
theorem concat4 (g g2 k : Nat) (l1 l2 l3 : List Int) (h1 : l1.length = 4) (h2 : l2.length = 4) (h3 : l3.length = 2) (A1 A2 A3 : Option Addr) (c1 c2 c3 : Nat) (w : World) (hg2 : g2 = w.heap.size) (r0 : Rd w w.heap.size (some ⟨g, 0, none⟩) (ints [82, (k : Int)])) (r1 : Rd w w.heap.size A1 (ints l1)) (r2 : Rd w w.heap.size A2 (ints l2)) (r3 : Rd w w.heap.size A3 (ints l3)) :
   Calls Try.prog 54 #[.slice (some ⟨g2, 0, none⟩) 4 4] (w.alloc (.cells #[.slice (some ⟨g, 0, none⟩) 2 2, .slice A1 4 c1, .slice A2 4 c2, .slice A3 2 c3] 22)) fun e w' => ∃ A4 c4, e = .returned (.slice A4 12 c4) ∧ w'.ownsRow (w.heap.size + 1) 2 1 (.slice A4 12 c4) 12 (ints ([82, (k : Int)] ++ l1 ++ l2 ++ l3)) ∧ Below (w.heap.size + 1) (w.alloc (.cells #[.slice (some ⟨g, 0, none⟩) 2 2, .slice A1 4 c1, .slice A2 4 c2, .slice A3 2 c3] 22)) w' := by
  subst hg2
  have hcl : catL [(some ⟨g, 0, none⟩, 2, [82, (k : Int)]), (A1, c1, l1), (A2, c2, l2), (A3, c3, l3)] = [82, (k : Int)] ++ l1 ++ l2 ++ l3 := by simp [catL]
  have hpart : [(some (⟨g, 0, none⟩ : Addr), 2, [82, (k : Int)]), (A1, c1, l1), (A2, c2, l2), (A3, c3, l3)].flatMap ePart = [.slice (some ⟨g, 0, none⟩) 2 2, .slice A1 4 c1, .slice A2 4 c2, .slice A3 2 c3] := by
    simp only [List.flatMap_cons, List.flatMap_nil, ePart, h1, h2, h3]; rfl
  have hlen : ([82, (k : Int)] ++ l1 ++ l2 ++ l3).length = 12 := by simp [h1, h2, h3]
  have h := concat_any [(some ⟨g, 0, none⟩, 2, [82, (k : Int)]), (A1, c1, l1), (A2, c2, l2), (A3, c3, l3)] (by simp) (by rw [hcl, hlen]; omega) (some ⟨w.heap.size, 0, none⟩) (w.heap.size + 1) 4 (w.alloc (.cells #[.slice (some ⟨g, 0, none⟩) 2 2, .slice A1 4 c1, .slice A2 4 c2, .slice A3 2 c3] 22)) (by rw [hpart]; exact rd_newE w _ _ _ (by omega)) (fun i t hk => by
    match i, hk with
    | 0, hk => simp at hk; subst hk; exact (r0.alloc (Nat.le_refl _) _).more (by omega)
    | 1, hk => simp at hk; subst hk; exact (r1.alloc (Nat.le_refl _) _).more (by omega)
    | 2, hk => simp at hk; subst hk; exact (r2.alloc (Nat.le_refl _) _).more (by omega)
    | 3, hk => simp at hk; subst hk; exact (r3.alloc (Nat.le_refl _) _).more (by omega)
    | i + 4, hk => simp at hk) (by simp)
  rw [hcl, hlen] at h
  simp only [World.size_alloc] at h
  exact h
theorem rd_lit82 (w : World) (k g : Nat) (hg : g = w.heap.size) : Rd (w.alloc (.cells #[.int .i64 82, .int .i64 (k : Int)] 2)) (w.alloc (.cells #[.int .i64 82, .int .i64 (k : Int)] 2)).heap.size (some ⟨g, 0, none⟩) (ints [82, (k : Int)]) := by
  subst hg
  exact rd_newE w _ _ _ (by simp)
set_option maxHeartbeats 2000000 in
theorem encode_any (t k v n : Nat) (ht : t < 4294967296) (hk : k ≤ 255) (hv : v < 4294967296) (hn : n < 65536) (w : World) :
   Calls Try.prog 59 #[.agg #[.int .i64 t, .int .i64 k, .int .i64 v], .int .i64 n] w fun e w' => ∃ A' c', e = .returned (.slice A' 14 c') ∧ w'.ownsRow w.heap.size 2 1 (.slice A' 14 c') 14 (ints (encL t k v n)) ∧ Below w.heap.size w w' := by
  have hcl := crc_pre_lt (t := t) (v := v) (n := n) hk
  have hpb := preL_bytes (t := t) (v := v) (n := n) hk
  have Hpb := Lib.hid hpb
  clear hpb
  go_enter Try.func59, Try.ntmps59
  go_wp2_with fail
  go_region_held3 (fun w' => w'.cell? ⟨w.heap.size, 0, none⟩ = some (.int .i64 t) ∧ w'.cell? ⟨w.heap.size, 1, none⟩ = some (.int .i64 k) ∧ w'.cell? ⟨w.heap.size, 2, none⟩ = some (.int .i64 v)) (simp [*, World.cell?_alloc_past])
    (first
      | (go_at_call_of 82 (Value.int .i64 (t : Int)); refine (bytes4_any t ht _).mono ?_; rintro e w1 ⟨A1, c1, rfl, o1, b1⟩; have R1 := Lib.hid (Rd.of_own o1); obtain ⟨hc1, hf1, hz1⟩ := bstep (N := w.heap.size + 1) (by first | omega | (simp; done) | (simp; omega)) b1; have hy1 : w.heap.size < w1.heap.size := hz1; have hx1 : w.heap.size < w1.heap.size + 1 := Nat.lt_succ_of_lt hz1; clear o1)
      | (go_at_call_of 82 (Value.int .i64 (v : Int)); refine (bytes4_any v hv _).mono ?_; rintro e w2 ⟨A2, c2, rfl, o2, b2⟩; have R2 := Lib.hid (Rd.of_own o2); obtain ⟨hc2, hf2, hz2⟩ := bstep (N := w.heap.size + 1) (by first | omega | (simp; done) | (simp; omega)) b2; have hy2 : w.heap.size < w2.heap.size := hz2; have hx2 : w.heap.size < w2.heap.size + 1 := Nat.lt_succ_of_lt hz2; clear o2)
      | (go_at_call_of 82 (Value.int .i64 (n : Int)); refine (bytes2_any n (by omega) _).mono ?_; rintro e w3 ⟨A3, c3, rfl, o3, b3⟩; have R3 := Lib.hid (Rd.of_own o3); obtain ⟨hc3, hf3, hz3⟩ := bstep (N := w.heap.size + 1) (by first | omega | (simp; done) | (simp; omega)) b3; have hy3 : w.heap.size < w3.heap.size := hz3; have hx3 : w.heap.size < w3.heap.size + 1 := Nat.lt_succ_of_lt hz3; clear o3)
      | (go_at_call 54; refine (concat4 _ _ k (bytesL t 4) (bytesL v 4) (bytesL n 2) (bytesL_length _ _) (bytesL_length _ _) (bytesL_length _ _) A1 A2 A3 c1 c2 c3 _ (by first | rfl | (simp; done)) (by (repeat (first | (with_reducible refine rd_lit82 _ k _ ?_; first | rfl | (simp; done)) | (with_reducible exact R1.out) | (with_reducible exact R2.out) | (with_reducible exact R3.out) | (with_reducible refine Rd.stepAlloc ?_ _) | (with_reducible refine Rd.stepDrew ?_) | (with_reducible refine Rd.step ?_ b3) | (with_reducible refine Rd.step ?_ b2) | (with_reducible refine Rd.step ?_ b1)))) (by (repeat (first | (with_reducible refine rd_lit82 _ k _ ?_; first | rfl | (simp; done)) | (with_reducible exact R1.out) | (with_reducible exact R2.out) | (with_reducible exact R3.out) | (with_reducible refine Rd.stepAlloc ?_ _) | (with_reducible refine Rd.stepDrew ?_) | (with_reducible refine Rd.step ?_ b3) | (with_reducible refine Rd.step ?_ b2) | (with_reducible refine Rd.step ?_ b1)))) (by (repeat (first | (with_reducible refine rd_lit82 _ k _ ?_; first | rfl | (simp; done)) | (with_reducible exact R1.out) | (with_reducible exact R2.out) | (with_reducible exact R3.out) | (with_reducible refine Rd.stepAlloc ?_ _) | (with_reducible refine Rd.stepDrew ?_) | (with_reducible refine Rd.step ?_ b3) | (with_reducible refine Rd.step ?_ b2) | (with_reducible refine Rd.step ?_ b1)))) (by (repeat (first | (with_reducible refine rd_lit82 _ k _ ?_; first | rfl | (simp; done)) | (with_reducible exact R1.out) | (with_reducible exact R2.out) | (with_reducible exact R3.out) | (with_reducible refine Rd.stepAlloc ?_ _) | (with_reducible refine Rd.stepDrew ?_) | (with_reducible refine Rd.step ?_ b3) | (with_reducible refine Rd.step ?_ b2) | (with_reducible refine Rd.step ?_ b1))))).mono ?_; rintro e w4 ⟨A4, c4, rfl, o4, b4⟩; have O4 := Lib.hid (own_more o4 (show w.heap.size + 1 ≤ _ by first | omega | (simp; done) | (simp; omega))); have R4 := Lib.hid (Rd.of_own o4); have hc4 := fun (b o : Nat) (h : b < w.heap.size + 1) => b4.cell (p := ⟨b, o, none⟩) (Nat.lt_of_lt_of_le h (by first | omega | (simp; omega))); have hz4 := b4.size; simp only [World.size_alloc] at hz4; clear o4))
  all_goals
    obtain ⟨i0, hi0, hz0, hzz1, hzz2⟩ := info_parts infoInt64
    go_wp2_with fail
    refine (checksum_n (preL t k v n) 12 (preL_length _ _ _ _) Hpb.out _ _ _ _ R4.out (by omega)).mono ?_
    rintro e w' ⟨rfl, rfl⟩
    go_wp2_with fail
    refine (bytes2_any (crc (preL t k v n)) (by omega) _).mono ?_
    rintro e w5 ⟨A5, c5, rfl, o5, b5⟩
    have R5 := Lib.hid (Rd.of_own o5)
    have O5 := Lib.hid (own_below O4.out b5)
    have hz5 := b5.size
    clear o5 hc1 hc2 hc3 hc4 hf1 hf2 hf3
    go_wp2_with (at_builtin; refine wpList_append_rd rfl (.tmp 19) (.tmp 22) 22 rfl (w.heap.size + 1) 2 i0 _ 1 8 Try.underlying22 hi0 hz0 hzz1 hzz2 rfl (by decide) _ 12 _ rfl O5.out _ A5 2 c5 _ rfl (by simp [ints, bytesL_length]) R5.out (ints_one _) (by unfold maxLen; omega) (by omega) (by omega) ?_; intro v6 w6 own6 hb6 hz6; obtain ⟨A6, c6, rfl⟩ := own_val own6; have O6 := Lib.hid own6; clear own6)
    go_ret
    refine ⟨A6, c6, rfl, ?_, ?_⟩
    · have h := own_more O6.out (show w.heap.size ≤ w.heap.size + 1 by omega)
      have he : ints (encL t k v n) = ints (preL t k v n) ++ ints (bytesL (crc (preL t k v n)) 2) := by simp [encL, ints]
      rw [he]
      exact h
    · repeat' (first | (with_reducible exact Below.refl _ _) | (with_reducible assumption) | (with_reducible refine Below.alloc ?_ ?_ _) | (with_reducible refine Below.drew ?_) | (with_reducible refine below_drewN ?_ _) | (with_reducible refine Below.setCell ?_ ?_ _) | (with_reducible refine Below.trans ?_ (Below.mono (by assumption) ?_)) | go_size | (exact Below.size (by assumption)))
end Go.Proofs.Ytjohpakfaommgaa
