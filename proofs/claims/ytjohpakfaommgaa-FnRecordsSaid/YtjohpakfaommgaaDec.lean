/- decode of the program, l32Decode of the reference. -/
import Derived.Test.YtjohpakfaommgaaEr
import Derived.Deep.RegionWith
import Derived.Deep.DeepCutAuto
import Derived.Deep.DrawnRows
namespace Go.Proofs.Ytjohpakfaommgaa
open Go.ChangeShapes Go.WideShapes Go.ChangeAt Go.RowKit
set_option maxRecDepth 20000
set_option linter.unusedVariables false
set_option linter.unusedSimpArgs false
def dT (l : List Int) : Int := numL ((l.drop 2).take 4)
def dK (l : List Int) : Int := l.getD 1 0
def dV (l : List Int) : Int := numL ((l.drop 6).take 4)
def dN (l : List Int) : Int := numL ((l.drop 10).take 2)
def decOk (l : List Int) : Bool := decide (l.length = 14) && (inB (dN l) 0 99 && decide (encL (dT l).toNat (dK l).toNat (dV l).toNat (dN l).toNat = l))
theorem isBytes_drop {l : List Int} (h : isBytes l) (k : Nat) : isBytes (l.drop k) := fun i x hi => h (k + i) x (by rw [← hi, List.getElem?_drop])
theorem isBytes_take {l : List Int} (h : isBytes l) (k : Nat) : isBytes (l.take k) := fun i x hi => by
  rw [List.getElem?_take] at hi
  split at hi
  · exact h i x hi
  · cases hi
theorem num2_lt {l : List Int} (hb : isBytes l) : 0 ≤ numL (l.take 2) ∧ numL (l.take 2) < 65536 := by
  obtain ⟨h0, h1⟩ := numL_bd hb 2 (by omega)
  exact ⟨h0, by simpa using h1⟩
/-- the fields of fourteen bytes -/
theorem dec_nats {l : List Int} (hb : isBytes l) (hl : l.length = 14) : ∃ t k v n : Nat, dT l = t ∧ dK l = k ∧ dV l = v ∧ dN l = n ∧ t < 4294967296 ∧ k ≤ 255 ∧ v < 4294967296 ∧ n < 65536 ∧ l[1]? = some (k : Int) := by
  obtain ⟨t0, t1⟩ := numL_lt (isBytes_drop hb 2) 4 (by omega)
  obtain ⟨v0, v1⟩ := numL_lt (isBytes_drop hb 6) 4 (by omega)
  obtain ⟨n0, n1⟩ := num2_lt (isBytes_drop hb 10)
  have hk : l[1]? = some (l.getD 1 0) := by rw [List.getD_eq_getElem?_getD, List.getElem?_eq_getElem (show 1 < l.length by omega)]; rfl
  obtain ⟨k0, k1⟩ := hb 1 _ hk
  refine ⟨(dT l).toNat, (dK l).toNat, (dV l).toNat, (dN l).toNat, ?_, ?_, ?_, ?_, ?_, ?_, ?_, ?_, ?_⟩ <;> simp only [dT, dV, dN, dK] at * <;> first | omega | skip
  rw [hk, Int.toNat_of_nonneg k0]
theorem rd_sub {w : World} {B b o : Nat} {l : List Int} (h : Rd w B (some ⟨b, o, none⟩) (ints l)) (k m : Nat) : Rd w B (some ⟨b, o + k, none⟩) (ints ((l.drop k).take m)) := fun hn => by
  rw [ints_length, List.length_take, List.length_drop] at hn
  obtain ⟨b', o', he, hb, hc⟩ := h (by rw [ints_length]; omega)
  injection he with he
  injection he with he1 he2
  subst he1 he2
  refine ⟨b, o + k, rfl, hb, fun j u hu => ?_⟩
  rw [Nat.add_assoc]
  refine hc _ u ?_
  rw [← hu]
  have hj := (List.getElem?_eq_some_iff.1 hu).1
  rw [ints_length, List.length_take] at hj
  simp only [ints, List.getElem?_map, List.getElem?_take, List.getElem?_drop]
  rw [if_pos (by omega)]
theorem Rd.drew_ {w : World} {B : Nat} {A : Option Addr} {xs : List Value} (h : Rd w B A xs) : Rd w.drew B A xs := h
theorem Rd.set_ {w : World} {B g j : Nat} {u : Value} {A : Option Addr} {xs : List Value} (h : Rd w B A xs) (hB : B ≤ g) : Rd (w.setCell ⟨g, j, none⟩ u) B A xs :=
  h.keep fun b o hb => World.cell?_setCell_other w ⟨g, j, none⟩ ⟨b, o, none⟩ u (fun e => by injection e with e1; omega)
theorem numberOf_n (l : List Int) (n : Nat) (hl : l.length = n) (hb : isBytes l) (hn : n ≤ 4) (x : Nat) (hx : numL l = x) (A : Option Addr) (B c : Nat) (w : World) (hr : Rd w B A (ints l)) :
   Calls Try.prog 85 #[.slice A n c] w fun e w' => e = .returned (.int .i64 x) ∧ w = w' := by subst hl; rw [← hx]; exact numberOf_any l hb hn A B c w hr
theorem l32Get_n (l : List Int) (n : Nat) (hl : l.length = n) (hb : isBytes l) (at_ size : Nat) (h4 : size ≤ 4) (hle : at_ + size ≤ n) (hn : n ≤ 1000000) (x : Nat) (hx : numL ((l.drop at_).take size) = x) (A : Option Addr) (B c : Nat) (w : World) (hr : Rd w B A (ints l)) :
   Calls Try.prog 83 #[.slice A n c, .int .i64 at_, .int .i64 size] w fun e w' => e = .returned (.int .i64 x) ∧ w = w' := by subst hl; rw [← hx]; exact l32Get_any l hb at_ size h4 hle hn A B c w hr
theorem l32Get_2 (l : List Int) (hl : l.length = 14) (hb : isBytes l) (x : Nat) (hx : dT l = x) (A : Option Addr) (B c : Nat) (w : World) (hr : Rd w B A (ints l)) :
   Calls Try.prog 83 #[.slice A 14 c, .int .i64 2, .int .i64 4] w fun e w' => e = .returned (.int .i64 x) ∧ w = w' := l32Get_n l 14 hl hb 2 4 (by omega) (by omega) (by omega) x hx A B c w hr
theorem l32Get_6 (l : List Int) (hl : l.length = 14) (hb : isBytes l) (x : Nat) (hx : dV l = x) (A : Option Addr) (B c : Nat) (w : World) (hr : Rd w B A (ints l)) :
   Calls Try.prog 83 #[.slice A 14 c, .int .i64 6, .int .i64 4] w fun e w' => e = .returned (.int .i64 x) ∧ w = w' := l32Get_n l 14 hl hb 6 4 (by omega) (by omega) (by omega) x hx A B c w hr
theorem l32Get_10 (l : List Int) (hl : l.length = 14) (hb : isBytes l) (x : Nat) (hx : dN l = x) (A : Option Addr) (B c : Nat) (w : World) (hr : Rd w B A (ints l)) :
   Calls Try.prog 83 #[.slice A 14 c, .int .i64 10, .int .i64 2] w fun e w' => e = .returned (.int .i64 x) ∧ w = w' := l32Get_n l 14 hl hb 10 2 (by omega) (by omega) (by omega) x hx A B c w hr
theorem same14 (fn : Nat) (hfn : fn = 84 ∨ fn = 86) (l l' : List Int) (hl : l.length = 14) (hl2 : l'.length = 14) (r : Bool) (hrr : decide (l = l') = r) (A A' : Option Addr) (B B' c c' : Nat) (w : World) (hr : Rd w B A (ints l)) (hr2 : Rd w B' A' (ints l')) :
   Calls Try.prog fn #[.slice A 14 c, .slice A' 14 c'] w fun e w' => e = .returned (.bool r) ∧ Below w.heap.size w w' := by
  subst hrr
  rcases hfn with rfl | rfl
  · have h := l01Same_any l l' A A' B B' c c' w hr hr2 (by omega) (by omega)
    rw [hl, hl2] at h
    exact h
  · have h := equal_any l l' A A' B B' c c' w hr hr2 (by omega) (by omega)
    rw [hl, hl2] at h
    exact h
theorem dec_cases {l : List Int} (hb : isBytes l) :
    (l.length ≠ 14 ∧ decOk l = false) ∨
    (∃ t k v n : Nat, l.length = 14 ∧ dT l = t ∧ dK l = k ∧ dV l = v ∧ dN l = n ∧ t < 4294967296 ∧ k ≤ 255 ∧ v < 4294967296 ∧ n < 65536 ∧ l[1]? = some (k : Int) ∧ inB n 0 99 = false ∧ decOk l = false) ∨
    (∃ (t k v n : Nat) (r : Bool), l.length = 14 ∧ dT l = t ∧ dK l = k ∧ dV l = v ∧ dN l = n ∧ t < 4294967296 ∧ k ≤ 255 ∧ v < 4294967296 ∧ n < 65536 ∧ l[1]? = some (k : Int) ∧ inB n 0 99 = true ∧ decide (encL t k v n = l) = r ∧ decOk l = r) := by
  by_cases h14 : l.length = 14
  · right
    obtain ⟨t, k, v, n, ht, hk, hv, hn, b1, b2, b3, b4, h1⟩ := dec_nats hb h14
    cases hi : inB (n : Int) 0 99 with
    | false => left; exact ⟨t, k, v, n, h14, ht, hk, hv, hn, b1, b2, b3, b4, h1, hi, by simp [decOk, hn, hi]⟩
    | true =>
      right
      refine ⟨t, k, v, n, _, h14, ht, hk, hv, hn, b1, b2, b3, b4, h1, hi, rfl, ?_⟩
      simp [decOk, hn, hi, h14, ht, hk, hv]
  · left
    exact ⟨h14, by simp [decOk, h14]⟩
attribute [local go_sem ↓] Go.wp_at_zero Go.wp_at_succ
set_option maxHeartbeats 8000000 in
theorem l32Decode_bad (l : List Int) (hb : isBytes l) (h14 : l.length = 14) (A : Option Addr) (B c : Nat) (w : World) (hr : Rd w B A (ints l)) (hB : B ≤ w.heap.size) (hlc : 14 ≤ c) (t k v n : Nat) (ht : dT l = t) (hk : dK l = k) (hv : dV l = v) (hn : dN l = n) (b1 : t < 4294967296) (b2 : k ≤ 255) (b3 : v < 4294967296) (b4 : n < 65536) (h1 : l[1]? = some (k : Int)) (hi : inB (n : Int) 0 99 = false) (hd : decOk l = false) :
   Calls Try.prog 60 #[.slice A 14 c] w fun e w' => e = .returned (.tuple #[.agg #[.int .i64 (dT l), .int .i64 (dK l), .int .i64 (dV l)], .int .i64 (dN l), .bool (decOk l)]) ∧ Below w.heap.size w w' := by
    rw [hd, ht, hk, hv, hn]
    obtain ⟨b, o, rfl, hbB, c0⟩ := hr.int h1
    have Ht := Lib.hid ht
    have Hk := Lib.hid hk
    have Hv := Lib.hid hv
    have Hn := Lib.hid hn
    have Hi := Lib.hid hi
    have Hb := Lib.hid hb
    have H14 := Lib.hid h14
    have hbs : b < w.heap.size := by omega
    have hr1 := Lib.hid (hr.alloc hB (.cells #[.int .i64 0, .int .i64 0, .int .i64 0] 35))
    have hbs2 : b < w.heap.size + 1 := by omega
    have hne1 : w.heap.size ≠ b := by omega
    have hne2 : w.heap.size + 1 ≠ b := by omega
    have hB1 : B ≤ (w.alloc (.cells #[.int .i64 0, .int .i64 0, .int .i64 0] 35)).heap.size := by simp; omega
    clear ht hk hv hn hi hd h1 hb h14 hr
    go_enter Try.func60, Try.ntmps60
    go_upto_region 1 with fail
    go_cut [5] (fun s5 wx => s5 = .pointer (some ⟨w.heap.size + 1, 0, none⟩) ∧ wx = World.drew ((w.alloc (.cells #[.int .i64 0, .int .i64 0, .int .i64 0] 35)).alloc (.cells #[.int .i64 t, .int .i64 k, .int .i64 v] 35)))
    case first =>
      go_region_held3 (fun w' => w'.cell? ⟨b, o + 1, none⟩ = some (.int .i64 k)) (simp [*, World.cell?_alloc_past, World.cell?_setCell_far]) (first | ((with_reducible refine (l32Get_2 l H14.out Hb.out t Ht.out _ B c _ ?_).mono ?_); (first | exact hr1.out | exact hr1.out.alloc hB1 _); rintro e w' ⟨rfl, rfl⟩) | ((with_reducible refine (l32Get_6 l H14.out Hb.out v Hv.out _ B c _ ?_).mono ?_); (first | exact hr1.out | exact hr1.out.alloc hB1 _); rintro e w' ⟨rfl, rfl⟩))
      all_goals (go_wp2_with fail; go_meet; exact ⟨rfl, rfl⟩)
    case rest =>
      obtain ⟨rfl, rfl⟩ := hcut
      go_wp2_with (go_at_call 83; refine (l32Get_10 l H14.out Hb.out n Hn.out _ B c _ (by exact hr1.out.alloc hB1 _)).mono ?_; rintro e w' ⟨rfl, rfl⟩)
      go_upto_region 3 with fail
      go_cut [3, 4] (fun s3 s4 wx => s3 = .int .i64 n ∧ s4 = .bool false ∧ wx.cell? ⟨w.heap.size, 0, none⟩ = some (.int .i64 t) ∧ wx.cell? ⟨w.heap.size, 1, none⟩ = some (.int .i64 k) ∧ wx.cell? ⟨w.heap.size, 2, none⟩ = some (.int .i64 v) ∧ Below w.heap.size w wx)
      case first =>
        first | (go_region_with ((go_at_call 56; refine (l32Number_r _ false Hi.out _).mono ?_; rintro e w' ⟨rfl, rfl⟩))) | fail
        all_goals (go_wp2_with fail; go_meet; exact ⟨rfl, rfl, by simp, by simp, by simp, by repeat' (first | (with_reducible exact Below.refl _ _) | (with_reducible assumption) | (with_reducible refine Below.alloc ?_ ?_ _) | (with_reducible refine Below.drew ?_) | (with_reducible refine below_drewN ?_ _) | (with_reducible refine Below.setCell ?_ ?_ _) | (with_reducible refine Below.trans ?_ (Below.mono (by assumption) ?_)) | go_size | (exact Below.size (by assumption)))⟩)
      case rest =>
        obtain ⟨rfl, rfl, k0, k1, k2, hbel⟩ := hcut
        go_wp2
        refine bodyPost_ret (v := .tuple #[.agg #[.int .i64 t, .int .i64 k, .int .i64 v], .int .i64 n, .bool false]) (by simp [results, Try.results60, go_sem, *]) rfl ⟨rfl, ?_⟩
        exact hbel
set_option maxHeartbeats 4000000 in
theorem l32Decode_good (l : List Int) (hb : isBytes l) (h14 : l.length = 14) (A : Option Addr) (B c : Nat) (w : World) (hr : Rd w B A (ints l)) (hB : B ≤ w.heap.size) (hlc : 14 ≤ c) (t k v n : Nat) (r : Bool) (ht : dT l = t) (hk : dK l = k) (hv : dV l = v) (hn : dN l = n) (b1 : t < 4294967296) (b2 : k ≤ 255) (b3 : v < 4294967296) (b4 : n < 65536) (h1 : l[1]? = some (k : Int)) (hi : inB (n : Int) 0 99 = true) (hr2 : decide (encL t k v n = l) = r) (hd : decOk l = r) :
   Calls Try.prog 60 #[.slice A 14 c] w fun e w' => e = .returned (.tuple #[.agg #[.int .i64 (dT l), .int .i64 (dK l), .int .i64 (dV l)], .int .i64 (dN l), .bool (decOk l)]) ∧ Below w.heap.size w w' := by
    rw [hd, ht, hk, hv, hn]
    obtain ⟨b, o, rfl, hbB, c0⟩ := hr.int h1
    have Ht := Lib.hid ht
    have Hk := Lib.hid hk
    have Hv := Lib.hid hv
    have Hn := Lib.hid hn
    have Hi := Lib.hid hi
    have Hb := Lib.hid hb
    have H14 := Lib.hid h14
    have hbs : b < w.heap.size := by omega
    have hr1 := Lib.hid (hr.alloc hB (.cells #[.int .i64 0, .int .i64 0, .int .i64 0] 35))
    have hbs2 : b < w.heap.size + 1 := by omega
    have hne1 : w.heap.size ≠ b := by omega
    have hne2 : w.heap.size + 1 ≠ b := by omega
    have hB1 : B ≤ (w.alloc (.cells #[.int .i64 0, .int .i64 0, .int .i64 0] 35)).heap.size := by simp; omega
    have Hr2 := Lib.hid hr2
    clear hr2
    clear ht hk hv hn hi hd h1 hb h14 hr
    go_enter Try.func60, Try.ntmps60
    go_upto_region 1 with fail
    go_cut [5] (fun s5 wx => s5 = .pointer (some ⟨w.heap.size + 1, 0, none⟩) ∧ wx = World.drew ((w.alloc (.cells #[.int .i64 0, .int .i64 0, .int .i64 0] 35)).alloc (.cells #[.int .i64 t, .int .i64 k, .int .i64 v] 35)))
    case first =>
      go_region_held3 (fun w' => w'.cell? ⟨b, o + 1, none⟩ = some (.int .i64 k)) (simp [*, World.cell?_alloc_past, World.cell?_setCell_far]) (first | ((with_reducible refine (l32Get_2 l H14.out Hb.out t Ht.out _ B c _ ?_).mono ?_); (first | exact hr1.out | exact hr1.out.alloc hB1 _); rintro e w' ⟨rfl, rfl⟩) | ((with_reducible refine (l32Get_6 l H14.out Hb.out v Hv.out _ B c _ ?_).mono ?_); (first | exact hr1.out | exact hr1.out.alloc hB1 _); rintro e w' ⟨rfl, rfl⟩))
      all_goals (go_wp2_with fail; go_meet; exact ⟨rfl, rfl⟩)
    case rest =>
      obtain ⟨rfl, rfl⟩ := hcut
      go_wp2_with (go_at_call 83; refine (l32Get_10 l H14.out Hb.out n Hn.out _ B c _ (by exact hr1.out.alloc hB1 _)).mono ?_; rintro e w' ⟨rfl, rfl⟩)
      go_region_held3 (fun w' => w'.cell? ⟨w.heap.size + 1, 0, none⟩ = some (.int .i64 t) ∧ w'.cell? ⟨w.heap.size + 1, 1, none⟩ = some (.int .i64 k) ∧ w'.cell? ⟨w.heap.size + 1, 2, none⟩ = some (.int .i64 v)) (simp [*, World.cell?_alloc_past, World.cell?_setCell_far]) (first | (go_at_call 56; refine (l32Number_r _ true Hi.out _).mono ?_; rintro e w' ⟨rfl, rfl⟩) | (go_at_call 84; refine (same14 _ (.inl rfl) (encL t k v n) l (encL_length _ _ _ _) H14.out r Hr2.out _ _ _ _ _ _ _ R2.out hr3.out).mono ?_; rintro e w3 ⟨rfl, bb3⟩; obtain ⟨hc3, hf3, hz3⟩ := bstep (N := w.heap.size + 2) (by omega) bb3) | (go_at_call 57; refine (l32Encode_any t k v n b1 b2 b3 (by omega) _).mono ?_; rintro e w2 ⟨A2, c2, rfl, o2, bb2⟩; have R2 := Lib.hid (Rd.of_own o2); have hr3 := Lib.hid (((hr1.out.alloc hB1 (.cells #[.int .i64 t, .int .i64 k, .int .i64 v] 35)).drew_.drew_).below bb2 (by simp; omega)); have hs2 := bb2.size; simp only [World.size_alloc, World.size_drew] at hs2; obtain ⟨hc2, hf2, hz2⟩ := bstep (N := w.heap.size + 2) (by simp) bb2; clear o2))
      all_goals go_wp2
      all_goals refine bodyPost_ret (v := .tuple #[.agg #[.int .i64 t, .int .i64 k, .int .i64 v], .int .i64 n, .bool r]) (by simp [results, Try.results60, go_sem, *]) rfl ⟨rfl, ?_⟩
      all_goals repeat' (first | (with_reducible exact Below.refl _ _) | (with_reducible assumption) | (with_reducible refine Below.alloc ?_ ?_ _) | (with_reducible refine Below.drew ?_) | (with_reducible refine below_drewN ?_ _) | (with_reducible refine Below.setCell ?_ ?_ _) | (with_reducible refine Below.trans ?_ (Below.mono (by assumption) ?_)) | go_size | (exact Below.size (by assumption)))
theorem l32Decode_any (l : List Int) (hb : isBytes l) (h14 : l.length = 14) (A : Option Addr) (B c : Nat) (w : World) (hr : Rd w B A (ints l)) (hB : B ≤ w.heap.size) (hlc : 14 ≤ c) :
   Calls Try.prog 60 #[.slice A 14 c] w fun e w' => e = .returned (.tuple #[.agg #[.int .i64 (dT l), .int .i64 (dK l), .int .i64 (dV l)], .int .i64 (dN l), .bool (decOk l)]) ∧ Below w.heap.size w w' := by
  rcases dec_cases hb with ⟨h, _⟩ | ⟨t, k, v, n, _, ht, hk, hv, hn, b1, b2, b3, b4, h1, hi, hd⟩ | ⟨t, k, v, n, r, _, ht, hk, hv, hn, b1, b2, b3, b4, h1, hi, hr2, hd⟩
  · exact absurd h14 h
  · exact l32Decode_bad l hb h14 A B c w hr hB hlc t k v n ht hk hv hn b1 b2 b3 b4 h1 hi hd
  · exact l32Decode_good l hb h14 A B c w hr hB hlc t k v n r ht hk hv hn b1 b2 b3 b4 h1 hi hr2 hd
end Go.Proofs.Ytjohpakfaommgaa
