/- decode of the program; DecodeRecord of the program and of the reference. -/
import Derived.Test.YtjohpakfaommgaaDec
namespace Go.Proofs.Ytjohpakfaommgaa
open Go.ChangeShapes Go.WideShapes Go.ChangeAt Go.RowKit
set_option maxRecDepth 20000
set_option linter.unusedVariables false
set_option linter.unusedSimpArgs false
theorem sub_len {l : List Int} (k m : Nat) (h : k + m ≤ l.length) : ((l.drop k).take m).length = m := by rw [List.length_take, List.length_drop]; omega
theorem number_2 (l : List Int) (hl : l.length = 14) (hb : isBytes l) (x : Nat) (hx : dT l = x) (A : Option Addr) (B c : Nat) (w : World) (hr : Rd w B A (ints ((l.drop 2).take 4))) :
   Calls Try.prog 85 #[.slice A 4 c] w fun e w' => e = .returned (.int .i64 x) ∧ w = w' := numberOf_n ((l.drop 2).take 4) 4 (sub_len 2 4 (by omega)) (isBytes_take (isBytes_drop hb 2) 4) (by omega) x hx A B c w hr
theorem number_6 (l : List Int) (hl : l.length = 14) (hb : isBytes l) (x : Nat) (hx : dV l = x) (A : Option Addr) (B c : Nat) (w : World) (hr : Rd w B A (ints ((l.drop 6).take 4))) :
   Calls Try.prog 85 #[.slice A 4 c] w fun e w' => e = .returned (.int .i64 x) ∧ w = w' := numberOf_n ((l.drop 6).take 4) 4 (sub_len 6 4 (by omega)) (isBytes_take (isBytes_drop hb 6) 4) (by omega) x hx A B c w hr
theorem number_10 (l : List Int) (hl : l.length = 14) (hb : isBytes l) (x : Nat) (hx : dN l = x) (A : Option Addr) (B c : Nat) (w : World) (hr : Rd w B A (ints ((l.drop 10).take 2))) :
   Calls Try.prog 85 #[.slice A 2 c] w fun e w' => e = .returned (.int .i64 x) ∧ w = w' := numberOf_n ((l.drop 10).take 2) 2 (sub_len 10 2 (by omega)) (isBytes_take (isBytes_drop hb 10) 2) (by omega) x hx A B c w hr
def dX (ok : Bool) (x : Int) : Int := if ok then x else 0
theorem same14e (l l' : List Int) (hl : l.length = 14) (hl2 : l'.length = 14) (r : Bool) (hrr : decide (l = l') = r) (A A' : Option Addr) (B B' c c' : Nat) (w : World) (hr : Rd w B A (ints l)) (hr2 : Rd w B' A' (ints l')) :
   Calls Try.prog 86 #[.slice A 14 c, .slice A' 14 c'] w fun e w' => e = .returned (.bool r) ∧ Below w.heap.size w w' := same14 _ (.inr rfl) l l' hl hl2 r hrr A A' B B' c c' w hr hr2
set_option maxHeartbeats 4000000 in
theorem decode_any (l : List Int) (hb : isBytes l) (A : Option Addr) (B c : Nat) (w : World) (hr : Rd w B A (ints l)) (hB : B ≤ w.heap.size) (hlc : l.length ≤ c) (hn : l.length ≤ 1048576) :
   Calls Try.prog 61 #[.slice A l.length c] w fun e w' => e = .returned (.tuple #[.agg #[.int .i64 (dX (decOk l) (dT l)), .int .i64 (dX (decOk l) (dK l)), .int .i64 (dX (decOk l) (dV l))], .int .i64 (dX (decOk l) (dN l)), .bool (decOk l)]) ∧ Below w.heap.size w w' := by
  rcases dec_cases hb with ⟨h14, hd⟩ | ⟨t, k, v, n, h14, ht, hk, hv, hn', b1, b2, b3, b4, h1, hi, hd⟩ | ⟨t, k, v, n, r, h14, ht, hk, hv, hn', b1, b2, b3, b4, h1, hi, hr2, hd⟩
  · rw [hd]
    have hne : ((l.length : Int) != 14) = true := by rw [bne_iff_ne]; omega
    clear hd hb hr h14
    go_enter Try.func61, Try.ntmps61
    go_wp2
    refine bodyPost_ret (v := .tuple #[.agg #[.int .i64 0, .int .i64 0, .int .i64 0], .int .i64 0, .bool false]) (by simp [results, Try.results61, go_sem, *]) rfl ⟨rfl, ?_⟩
    repeat' (first | (with_reducible exact Below.refl _ _) | (with_reducible assumption) | (with_reducible refine Below.alloc ?_ ?_ _) | (with_reducible refine Below.drew ?_) | (with_reducible refine below_drewN ?_ _) | (with_reducible refine Below.setCell ?_ ?_ _) | (with_reducible refine Below.trans ?_ (Below.mono (by assumption) ?_)) | go_size | (exact Below.size (by assumption)))
  · rw [hd, h14]
    rw [h14] at hlc
    obtain ⟨b, o, rfl, hbB, c0⟩ := hr.int h1
    have Ht := Lib.hid ht
    have Hk := Lib.hid hk
    have Hv := Lib.hid hv
    have Hn := Lib.hid hn'
    have Hi := Lib.hid hi
    have Hb := Lib.hid hb
    have H14 := Lib.hid h14
    have hbs : b < w.heap.size := by omega
    have hr1 := Lib.hid (hr.alloc hB (.cells #[.int .i64 0, .int .i64 0, .int .i64 0] 35))
    have hbs2 : b < w.heap.size + 1 := by omega
    have hne1 : w.heap.size ≠ b := by omega
    have hne2 : w.heap.size + 1 ≠ b := by omega
    have hB1 : B ≤ (w.alloc (.cells #[.int .i64 0, .int .i64 0, .int .i64 0] 35)).heap.size := by simp; omega
    have q2 : ¬ c = 2 := by omega
    have q6 : ¬ c = 6 := by omega
    have q10 : ¬ c = 10 := by omega
    have q6' : 6 ≤ c := by omega
    have q10' : 10 ≤ c := by omega
    have q12' : 12 ≤ c := by omega
    have L2 := Lib.hid (sub_len (l := l) 2 4 (by omega))
    have L6 := Lib.hid (sub_len (l := l) 6 4 (by omega))
    have L10 := Lib.hid (sub_len (l := l) 10 2 (by omega))
    have I2 := Lib.hid (isBytes_take (isBytes_drop hb 2) 4)
    have I6 := Lib.hid (isBytes_take (isBytes_drop hb 6) 4)
    have I10 := Lib.hid (isBytes_take (isBytes_drop hb 10) 2)
    have i6 : (6 : Int) ≤ (c : Int) := by omega
    have i10 : (10 : Int) ≤ (c : Int) := by omega
    have i12 : (12 : Int) ≤ (c : Int) := by omega
    clear ht hk hv hn' hi hd h1 hb h14 hr
    go_enter Try.func61, Try.ntmps61
    go_upto_region 3 with fail
    go_cut [5] (fun s5 wx => s5 = .pointer (some ⟨w.heap.size + 1, 0, none⟩) ∧ wx = World.drew ((w.alloc (.cells #[.int .i64 0, .int .i64 0, .int .i64 0] 35)).alloc (.cells #[.int .i64 t, .int .i64 k, .int .i64 v] 35)))
    case first =>
      go_region_held3 (fun w' => w'.cell? ⟨b, o + 1, none⟩ = some (.int .i64 k)) (simp [*, World.cell?_alloc_past, World.cell?_setCell_far]) (first | ((with_reducible refine (number_2 l H14.out Hb.out t Ht.out _ B _ _ ?_).mono ?_); (first | exact rd_sub hr1.out.drew_ 2 4 | exact rd_sub (hr1.out.alloc hB1 _).drew_ 2 4); rintro e w' ⟨rfl, rfl⟩) | ((with_reducible refine (number_6 l H14.out Hb.out v Hv.out _ B _ _ ?_).mono ?_); (first | exact rd_sub hr1.out.drew_ 6 4 | exact rd_sub (hr1.out.alloc hB1 _).drew_ 6 4); rintro e w' ⟨rfl, rfl⟩))
      all_goals (go_wp2_with fail; go_meet; exact ⟨rfl, rfl⟩)
    case rest =>
      obtain ⟨rfl, rfl⟩ := hcut
      go_wp2_with (first | (go_at_call 85; refine (number_10 l H14.out Hb.out n Hn.out _ B _ _ (by exact rd_sub (hr1.out.alloc hB1 _).drew_ 10 2)).mono ?_; rintro e w' ⟨rfl, rfl⟩) | (go_at_call 58; refine (isRecordNumber_r _ false Hi.out _).mono ?_; rintro e w' ⟨rfl, rfl⟩))
      refine bodyPost_ret (v := .tuple #[.agg #[.int .i64 0, .int .i64 0, .int .i64 0], .int .i64 0, .bool false]) (by simp [results, Try.results61, go_sem, *]) rfl ⟨rfl, ?_⟩
      repeat' (first | (with_reducible exact Below.refl _ _) | (with_reducible assumption) | (with_reducible refine Below.alloc ?_ ?_ _) | (with_reducible refine Below.drew ?_) | (with_reducible refine below_drewN ?_ _) | (with_reducible refine Below.setCell ?_ ?_ _) | (with_reducible refine Below.trans ?_ (Below.mono (by assumption) ?_)) | go_size | (exact Below.size (by assumption)))
  · rw [hd, h14]
    rw [h14] at hlc
    obtain ⟨b, o, rfl, hbB, c0⟩ := hr.int h1
    have Ht := Lib.hid ht
    have Hk := Lib.hid hk
    have Hv := Lib.hid hv
    have Hn := Lib.hid hn'
    have Hi := Lib.hid hi
    have Hb := Lib.hid hb
    have H14 := Lib.hid h14
    have hbs : b < w.heap.size := by omega
    have hr1 := Lib.hid (hr.alloc hB (.cells #[.int .i64 0, .int .i64 0, .int .i64 0] 35))
    have hbs2 : b < w.heap.size + 1 := by omega
    have hne1 : w.heap.size ≠ b := by omega
    have hne2 : w.heap.size + 1 ≠ b := by omega
    have hB1 : B ≤ (w.alloc (.cells #[.int .i64 0, .int .i64 0, .int .i64 0] 35)).heap.size := by simp; omega
    have q2 : ¬ c = 2 := by omega
    have q6 : ¬ c = 6 := by omega
    have q10 : ¬ c = 10 := by omega
    have q6' : 6 ≤ c := by omega
    have q10' : 10 ≤ c := by omega
    have q12' : 12 ≤ c := by omega
    have L2 := Lib.hid (sub_len (l := l) 2 4 (by omega))
    have L6 := Lib.hid (sub_len (l := l) 6 4 (by omega))
    have L10 := Lib.hid (sub_len (l := l) 10 2 (by omega))
    have I2 := Lib.hid (isBytes_take (isBytes_drop hb 2) 4)
    have I6 := Lib.hid (isBytes_take (isBytes_drop hb 6) 4)
    have I10 := Lib.hid (isBytes_take (isBytes_drop hb 10) 2)
    have i6 : (6 : Int) ≤ (c : Int) := by omega
    have i10 : (10 : Int) ≤ (c : Int) := by omega
    have i12 : (12 : Int) ≤ (c : Int) := by omega
    have Hr2 := Lib.hid hr2
    clear hr2
    clear ht hk hv hn' hi hd h1 hb h14 hr
    go_enter Try.func61, Try.ntmps61
    go_upto_region 3 with fail
    go_cut [5] (fun s5 wx => s5 = .pointer (some ⟨w.heap.size + 1, 0, none⟩) ∧ wx = World.drew ((w.alloc (.cells #[.int .i64 0, .int .i64 0, .int .i64 0] 35)).alloc (.cells #[.int .i64 t, .int .i64 k, .int .i64 v] 35)))
    case first =>
      go_region_held3 (fun w' => w'.cell? ⟨b, o + 1, none⟩ = some (.int .i64 k)) (simp [*, World.cell?_alloc_past, World.cell?_setCell_far]) (first | ((with_reducible refine (number_2 l H14.out Hb.out t Ht.out _ B _ _ ?_).mono ?_); (first | exact rd_sub hr1.out.drew_ 2 4 | exact rd_sub (hr1.out.alloc hB1 _).drew_ 2 4); rintro e w' ⟨rfl, rfl⟩) | ((with_reducible refine (number_6 l H14.out Hb.out v Hv.out _ B _ _ ?_).mono ?_); (first | exact rd_sub hr1.out.drew_ 6 4 | exact rd_sub (hr1.out.alloc hB1 _).drew_ 6 4); rintro e w' ⟨rfl, rfl⟩))
      all_goals (go_wp2_with fail; go_meet; exact ⟨rfl, rfl⟩)
    case rest =>
      obtain ⟨rfl, rfl⟩ := hcut
      cases r
      all_goals
        go_wp2_with (first | (go_at_call 85; refine (number_10 l H14.out Hb.out n Hn.out _ B _ _ (by exact rd_sub (hr1.out.alloc hB1 _).drew_ 10 2)).mono ?_; rintro e w' ⟨rfl, rfl⟩) | (go_at_call 58; refine (isRecordNumber_r _ true Hi.out _).mono ?_; rintro e w' ⟨rfl, rfl⟩) | (go_at_call 59; refine (encode_any t k v n b1 b2 b3 (by omega) _).mono ?_; rintro e w2 ⟨A2, c2, rfl, o2, bb2⟩; have R2 := Lib.hid (Rd.of_own o2); have hr3 := Lib.hid ((hr1.out.alloc hB1 (.cells #[.int .i64 t, .int .i64 k, .int .i64 v] 35)).drew_.below bb2 (by simp; omega)); have hs2 := bb2.size; simp only [World.size_alloc, World.size_drew] at hs2; obtain ⟨hc2, hf2, hz2⟩ := bstep (N := w.heap.size + 2) (by simp) bb2; clear o2) | (go_at_call 86; refine (same14e (encL t k v n) l (encL_length _ _ _ _) H14.out _ Hr2.out _ _ _ _ _ _ _ R2.out hr3.out).mono ?_; rintro e w3 ⟨rfl, bb3⟩; obtain ⟨hc3, hf3, hz3⟩ := bstep (N := w.heap.size + 2) (by omega) bb3))
      · refine bodyPost_ret (v := .tuple #[.agg #[.int .i64 0, .int .i64 0, .int .i64 0], .int .i64 0, .bool false]) (by simp [results, Try.results61, go_sem, *]) rfl ⟨rfl, ?_⟩
        repeat' (first | (with_reducible exact Below.refl _ _) | (with_reducible assumption) | (with_reducible refine Below.alloc ?_ ?_ _) | (with_reducible refine Below.drew ?_) | (with_reducible refine below_drewN ?_ _) | (with_reducible refine Below.setCell ?_ ?_ _) | (with_reducible refine Below.trans ?_ (Below.mono (by assumption) ?_)) | go_size | (exact Below.size (by assumption)))
      · refine bodyPost_ret (v := .tuple #[.agg #[.int .i64 t, .int .i64 k, .int .i64 v], .int .i64 n, .bool true]) (by simp [results, Try.results61, go_sem, *]) rfl ⟨?_, ?_⟩
        · rw [Ht.out, Hk.out, Hv.out, Hn.out]; rfl
        · repeat' (first | (with_reducible exact Below.refl _ _) | (with_reducible assumption) | (with_reducible refine Below.alloc ?_ ?_ _) | (with_reducible refine Below.drew ?_) | (with_reducible refine below_drewN ?_ _) | (with_reducible refine Below.setCell ?_ ?_ _) | (with_reducible refine Below.trans ?_ (Below.mono (by assumption) ?_)) | go_size | (exact Below.size (by assumption)))
end Go.Proofs.Ytjohpakfaommgaa
