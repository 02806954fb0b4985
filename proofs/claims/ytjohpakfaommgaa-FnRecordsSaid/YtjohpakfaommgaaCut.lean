/- CutJournal: walks of the program and of the reference. -/
import Derived.Test.YtjohpakfaommgaaSum
import Derived.Test.YtjohpakfaommgaaCat
import Derived.Deep.RegionWith
namespace Go.Proofs.Ytjohpakfaommgaa
open Go.ChangeShapes Go.WideShapes Go.ChangeAt Go.RowKit
set_option maxRecDepth 20000
set_option linter.unusedVariables false
set_option linter.unusedSimpArgs false
def cutAll (l : List Int) (kept : Int) (rest : List Int) : List Int := l.take kept.toNat ++ rest
def cutC (l : List Int) (kept : Int) (rest : List Int) : Int := if bytesB l = true ∧ bytesB rest = true ∧ 0 ≤ kept then (if (cutAll l kept rest).length ≤ 2000 then 0 else 3) else 2
def cutR (l : List Int) (kept : Int) (rest : List Int) : List Int := if cutC l kept rest = 0 then cutAll l kept rest else []
theorem bytes_len {l : List Int} (h : bytesB l = true) : l.length ≤ 2000 := by
  simp only [bytesB, Bool.and_eq_true, decide_eq_true_eq] at h
  exact h.1
theorem cutR_len (l : List Int) (kept : Int) (rest : List Int) : (cutR l kept rest).length ≤ 1048576 := by
  unfold cutR
  split
  · rename_i h
    unfold cutC at h
    split at h
    · split at h
      · omega
      · contradiction
    · contradiction
  · simp
theorem l01Own_any (l : List Int) (A : Option Addr) (B c : Nat) (w : World) (hr : Rd w B A (ints l)) (hB : B ≤ w.heap.size) (hn : l.length ≤ 1048576) :
   Calls Try.prog 53 #[.slice A l.length c] w fun e w' => ∃ A' c', e = .returned (.slice A' l.length c') ∧ w'.ownsRow w.heap.size 2 1 (.slice A' l.length c') l.length (ints l) ∧ Below w.heap.size w w' := by
  obtain ⟨i0, hi0, hz0, hz1, hz2⟩ := info_parts infoInt64
  have ho := World.ownsRow_made (base := w.heap.size) (e := 2) (size := 1) w #[] 0 (Nat.le_refl _) (by unfold maxLen; omega) (by simp)
  have Ho := Lib.hid ho
  have hr1 := Lib.hid (hr.alloc hB (.cells #[] 2))
  clear ho hr
  go_enter Try.func53, Try.ntmps53
  go_wp2_with (at_builtin; refine wpList_append_rd rfl (.tmp 3) (.tmp 4) 22 rfl w.heap.size 2 i0 (.int .i64 0) 1 8 Try.underlying22 hi0 hz0 hz1 hz2 rfl (by decide) _ _ _ rfl Ho.out B A l.length c (ints l) rfl (by simp [ints]) hr1.out (ints_one _) (by unfold maxLen; omega) (by omega) (by simp) ?_; intro v2 w2 o2 hb2 hz4; have O2 := Lib.hid o2; clear o2)
  go_ret
  have o2 := O2.out
  rw [Nat.zero_add, List.nil_append] at o2
  obtain ⟨A', c', rfl⟩ := own_val o2
  exact ⟨A', c', rfl, o2, ((Below.refl _ _).alloc (Nat.le_refl _) _).trans hb2⟩
theorem length_any (l : Nat) (A : Option Addr) (c : Nat) (w : World) (hn : l ≤ 1048576) : Calls Try.prog 55 #[.slice A l c] w fun e w' => e = .returned (.int .i64 (l : Int)) ∧ w = w' := by
  go_enter Try.func55, Try.ntmps55
  go_wp2
  go_ret
  exact ⟨rfl, rfl⟩
theorem rd_new (w : World) (xs : List Value) (e : TypeId) (B : Nat) (hB : w.heap.size < B) : Rd (w.alloc (.cells xs.toArray e)) B (some ⟨w.heap.size, 0, none⟩) xs := fun hn => by
  refine ⟨w.heap.size, 0, rfl, hB, fun j u hu => ?_⟩
  have hh := heap_alloc_new w (.cells xs.toArray e)
  simp only [World.cell?, Nat.zero_add]
  rw [hh]
  simpa using hu
theorem cut_bad_spec (l : List Int) (kept : Int) (rest : List Int) (A A' : Option Addr) (B c c' : Nat) (w : World) (hr : Rd w B A (ints l)) (hr2 : Rd w B A' (ints rest)) (hB : B ≤ w.heap.size) (hn : l.length ≤ 1048576) (hn2 : rest.length ≤ 1048576) (hlc : l.length ≤ c) (hok : ¬ (bytesB l = true ∧ bytesB rest = true ∧ 0 ≤ kept)) :
   Calls Try.prog 16 #[.slice A l.length c, .int .i64 kept, .slice A' rest.length c'] w fun e w' => ∃ A2 c2, e = .returned (.tuple #[.slice A2 (cutR l kept rest).length c2, .int .i64 (cutC l kept rest)]) ∧ w'.ownsRow w.heap.size 2 1 (.slice A2 (cutR l kept rest).length c2) (cutR l kept rest).length (ints (cutR l kept rest)) ∧ Below w.heap.size w w' := by
  have q2 : cutC l kept rest = 2 := if_neg hok
  have q1 : cutR l kept rest = [] := by simp [cutR, q2]
  rw [q1, q2]
  clear q1 q2
  cases h1 : bytesB l with
  | false =>
    have H1 := Lib.hid h1
    clear h1 hok
    go_enter Try.func16, Try.ntmps16
    go_wp2_with fail
    refine (l32Bytes_r l A B c false H1.out w hr hn).mono ?_; rintro e w' ⟨rfl, rfl⟩
    go_wp2
    go_ret2
    exact ⟨none, 0, rfl, World.ownsRow_nil _ _ _ _, by repeat' (first | (with_reducible exact Below.refl _ _) | (with_reducible assumption) | (with_reducible refine Below.alloc ?_ ?_ _) | (with_reducible refine Below.drew ?_) | (with_reducible refine below_drewN ?_ _) | (with_reducible refine Below.setCell ?_ ?_ _) | (with_reducible refine Below.trans ?_ (Below.mono (by assumption) ?_)) | go_size | (exact Below.size (by assumption)))⟩
  | true =>
    cases h2 : bytesB rest with
    | false =>
      have H1 := Lib.hid h1
      have H2 := Lib.hid h2
      clear h1 h2 hok
      go_enter Try.func16, Try.ntmps16
      go_wp2_with fail
      refine (l32Bytes_r l A B c true H1.out w hr hn).mono ?_; rintro e w' ⟨rfl, rfl⟩
      go_wp2_with fail
      refine (l32Bytes_r rest A' B c' false H2.out w hr2 hn2).mono ?_; rintro e w' ⟨rfl, rfl⟩
      go_wp2
      go_ret2
      exact ⟨none, 0, rfl, World.ownsRow_nil _ _ _ _, by repeat' (first | (with_reducible exact Below.refl _ _) | (with_reducible assumption) | (with_reducible refine Below.alloc ?_ ?_ _) | (with_reducible refine Below.drew ?_) | (with_reducible refine below_drewN ?_ _) | (with_reducible refine Below.setCell ?_ ?_ _) | (with_reducible refine Below.trans ?_ (Below.mono (by assumption) ?_)) | go_size | (exact Below.size (by assumption)))⟩
    | true =>
      have hk : kept < 0 := by
        by_cases h3 : kept < 0
        · exact h3
        · exact absurd ⟨h1, h2, by omega⟩ hok
      have H1 := Lib.hid h1
      have H2 := Lib.hid h2
      clear h1 h2 hok
      go_enter Try.func16, Try.ntmps16
      go_wp2_with fail
      refine (l32Bytes_r l A B c true H1.out w hr hn).mono ?_; rintro e w' ⟨rfl, rfl⟩
      go_wp2_with fail
      refine (l32Bytes_r rest A' B c' true H2.out w hr2 hn2).mono ?_; rintro e w' ⟨rfl, rfl⟩
      go_wp2
      go_ret2
      exact ⟨none, 0, rfl, World.ownsRow_nil _ _ _ _, by repeat' (first | (with_reducible exact Below.refl _ _) | (with_reducible assumption) | (with_reducible refine Below.alloc ?_ ?_ _) | (with_reducible refine Below.drew ?_) | (with_reducible refine below_drewN ?_ _) | (with_reducible refine Below.setCell ?_ ?_ _) | (with_reducible refine Below.trans ?_ (Below.mono (by assumption) ?_)) | go_size | (exact Below.size (by assumption)))⟩
theorem cut_spec (l : List Int) (kept : Int) (rest : List Int) (A A' : Option Addr) (B c c' : Nat) (w : World) (hr : Rd w B A (ints l)) (hr2 : Rd w B A' (ints rest)) (hB : B ≤ w.heap.size) (hn : l.length ≤ 1048576) (hn2 : rest.length ≤ 1048576) (hlc : l.length ≤ c) :
   Calls Try.prog 16 #[.slice A l.length c, .int .i64 kept, .slice A' rest.length c'] w fun e w' => ∃ A2 c2, e = .returned (.tuple #[.slice A2 (cutR l kept rest).length c2, .int .i64 (cutC l kept rest)]) ∧ w'.ownsRow w.heap.size 2 1 (.slice A2 (cutR l kept rest).length c2) (cutR l kept rest).length (ints (cutR l kept rest)) ∧ Below w.heap.size w w' := by
  by_cases hok : bytesB l = true ∧ bytesB rest = true ∧ 0 ≤ kept
  · obtain ⟨i0, hi0, hz0, hz1, hz2⟩ := info_parts infoInt64
    obtain ⟨h1, h2, h3⟩ := hok
    have H1 := Lib.hid h1
    have H2 := Lib.hid h2
    have n1 := bytes_len h1
    have n2 := bytes_len h2
    clear h1 h2
    obtain ⟨q, rfl⟩ : ∃ q : Nat, kept = q := ⟨kept.toNat, by omega⟩
    have hC : cutC l q rest = if (cutAll l q rest).length ≤ 2000 then 0 else 3 := if_pos ⟨H1.out, H2.out, h3⟩
    have hall : cutAll l q rest = l.take q ++ rest := rfl
    have hlen : (cutAll l q rest).length = (l.take q).length + rest.length := by rw [hall, List.length_append]
    have hres : ∀ (W : World) (A2 : Option Addr) (c2 : Nat), W.ownsRow w.heap.size 2 1 (.slice A2 ((l.take q).length + rest.length) c2) ((l.take q).length + rest.length) (ints (l.take q ++ rest)) → (l.take q).length + rest.length ≤ 2000 → cutC l q rest = 0 ∧ W.ownsRow w.heap.size 2 1 (.slice A2 (cutR l q rest).length c2) (cutR l q rest).length (ints (cutR l q rest)) ∧ (cutR l q rest).length = (l.take q).length + rest.length := by
      intro W A2 c2 ho hle
      have h0 : cutC l q rest = 0 := by rw [hC, if_pos (by omega)]
      have hR : cutR l q rest = l.take q ++ rest := by rw [cutR, if_pos h0, hall]
      rw [hR, List.length_append]
      exact ⟨h0, ho, rfl⟩
    have hbad : ¬ (l.take q).length + rest.length ≤ 2000 → cutC l q rest = 3 ∧ cutR l q rest = [] := by
      intro hle
      have h0 : cutC l q rest = 3 := by rw [hC, if_neg (by omega)]
      exact ⟨h0, by rw [cutR, h0]; rfl⟩
    have Hres := Lib.hid hres
    have Hbad := Lib.hid hbad
    clear hC hall hlen hres hbad
    by_cases hq : (l.length : Int) < (q : Int)
    · have ht : (l.take q).length = l.length := by rw [List.length_take]; omega
      have htk : l.take q = l := List.take_of_length_le (by omega)
      have Htk := Lib.hid ht
      have hr3 := rd_take_ints hr q
      clear ht
      clear htk
      by_cases hbig : l.length + rest.length ≤ 2000
      · have hfin : (((l.length + rest.length : Nat) : Int) > 2000) = False := by simp; omega
        go_enter Try.func16, Try.ntmps16
        go_wp2_with fail
        refine (l32Bytes_r l A B c true H1.out w hr hn).mono ?_; rintro e w' ⟨rfl, rfl⟩
        go_wp2_with fail
        refine (l32Bytes_r rest A' B c' true H2.out w hr2 hn2).mono ?_; rintro e w' ⟨rfl, rfl⟩
        have key := l01Own_any (l.take q) A B c w hr3 hB (by rw [Htk.out]; omega)
        rw [Htk.out] at key
        go_wp2_with fail
        refine key.mono ?_; rintro e w1 ⟨A3, c3, rfl, o1, b1⟩
        have z1 := b1.size
        have hr4 := hr2.below b1 hB
        have O1 := Lib.hid o1
        have Hr4 := Lib.hid hr4
        clear o1 hr4 key hr hr2 hr3
        go_wp2_with (at_builtin; refine wpList_append_rd rfl (.tmp 27) (.tmp 28) 22 rfl w.heap.size 2 i0 (.int .i64 0) 1 8 Try.underlying22 hi0 hz0 hz1 hz2 rfl (by decide) _ _ _ rfl O1.out B A' rest.length c' (ints rest) rfl (by simp [ints]) Hr4.out (ints_one _) (by unfold maxLen; omega) (by omega) (by omega) ?_; intro v2 w2 o2 b2 hz4; obtain ⟨A4, c4, rfl⟩ := own_val o2; have O2 := Lib.hid o2; clear o2)
        go_ret2
        obtain ⟨g1, g2, g3⟩ := Hres.out _ _ _ (by rw [Htk.out]; simpa [ints] using O2.out) (by rw [Htk.out]; exact hbig)
        rw [g1]
        refine ⟨A4, c4, ?_, g2, by repeat' (first | (with_reducible exact Below.refl _ _) | (with_reducible assumption) | (with_reducible refine Below.alloc ?_ ?_ _) | (with_reducible refine Below.drew ?_) | (with_reducible refine below_drewN ?_ _) | (with_reducible refine Below.setCell ?_ ?_ _) | (with_reducible refine Below.trans ?_ (Below.mono (by assumption) ?_)) | go_size | (exact Below.size (by assumption)))⟩
        rw [g3, Htk.out]
        try rfl
      · have hfin : (((l.length + rest.length : Nat) : Int) > 2000) = True := by simp; omega
        go_enter Try.func16, Try.ntmps16
        go_wp2_with fail
        refine (l32Bytes_r l A B c true H1.out w hr hn).mono ?_; rintro e w' ⟨rfl, rfl⟩
        go_wp2_with fail
        refine (l32Bytes_r rest A' B c' true H2.out w hr2 hn2).mono ?_; rintro e w' ⟨rfl, rfl⟩
        have key := l01Own_any (l.take q) A B c w hr3 hB (by rw [Htk.out]; omega)
        rw [Htk.out] at key
        go_wp2_with fail
        refine key.mono ?_; rintro e w1 ⟨A3, c3, rfl, o1, b1⟩
        have z1 := b1.size
        have hr4 := hr2.below b1 hB
        have O1 := Lib.hid o1
        have Hr4 := Lib.hid hr4
        clear o1 hr4 key hr hr2 hr3
        go_wp2_with (at_builtin; refine wpList_append_rd rfl (.tmp 27) (.tmp 28) 22 rfl w.heap.size 2 i0 (.int .i64 0) 1 8 Try.underlying22 hi0 hz0 hz1 hz2 rfl (by decide) _ _ _ rfl O1.out B A' rest.length c' (ints rest) rfl (by simp [ints]) Hr4.out (ints_one _) (by unfold maxLen; omega) (by omega) (by omega) ?_; intro v2 w2 o2 b2 hz4; obtain ⟨A4, c4, rfl⟩ := own_val o2; have O2 := Lib.hid o2; clear o2)
        go_ret2
        obtain ⟨g1, g2⟩ := Hbad.out (by rw [Htk.out]; exact hbig)
        rw [g1, g2]
        exact ⟨none, 0, rfl, World.ownsRow_nil _ _ _ _, by repeat' (first | (with_reducible exact Below.refl _ _) | (with_reducible assumption) | (with_reducible refine Below.alloc ?_ ?_ _) | (with_reducible refine Below.drew ?_) | (with_reducible refine below_drewN ?_ _) | (with_reducible refine Below.setCell ?_ ?_ _) | (with_reducible refine Below.trans ?_ (Below.mono (by assumption) ?_)) | go_size | (exact Below.size (by assumption)))⟩
    · have ht : (l.take q).length = q := by rw [List.length_take]; omega
      have Htk := Lib.hid ht
      have hr3 := rd_take_ints hr q
      clear ht
      by_cases hbig : q + rest.length ≤ 2000
      · have hfin : (((q + rest.length : Nat) : Int) > 2000) = False := by simp; omega
        go_enter Try.func16, Try.ntmps16
        go_wp2_with fail
        refine (l32Bytes_r l A B c true H1.out w hr hn).mono ?_; rintro e w' ⟨rfl, rfl⟩
        go_wp2_with fail
        refine (l32Bytes_r rest A' B c' true H2.out w hr2 hn2).mono ?_; rintro e w' ⟨rfl, rfl⟩
        have key := l01Own_any (l.take q) A B c w hr3 hB (by rw [Htk.out]; omega)
        rw [Htk.out] at key
        go_wp2_with fail
        refine key.mono ?_; rintro e w1 ⟨A3, c3, rfl, o1, b1⟩
        have z1 := b1.size
        have hr4 := hr2.below b1 hB
        have O1 := Lib.hid o1
        have Hr4 := Lib.hid hr4
        clear o1 hr4 key hr hr2 hr3
        go_wp2_with (at_builtin; refine wpList_append_rd rfl (.tmp 27) (.tmp 28) 22 rfl w.heap.size 2 i0 (.int .i64 0) 1 8 Try.underlying22 hi0 hz0 hz1 hz2 rfl (by decide) _ _ _ rfl O1.out B A' rest.length c' (ints rest) rfl (by simp [ints]) Hr4.out (ints_one _) (by unfold maxLen; omega) (by omega) (by omega) ?_; intro v2 w2 o2 b2 hz4; obtain ⟨A4, c4, rfl⟩ := own_val o2; have O2 := Lib.hid o2; clear o2)
        go_ret2
        obtain ⟨g1, g2, g3⟩ := Hres.out _ _ _ (by rw [Htk.out]; simpa [ints] using O2.out) (by rw [Htk.out]; exact hbig)
        rw [g1]
        refine ⟨A4, c4, ?_, g2, by repeat' (first | (with_reducible exact Below.refl _ _) | (with_reducible assumption) | (with_reducible refine Below.alloc ?_ ?_ _) | (with_reducible refine Below.drew ?_) | (with_reducible refine below_drewN ?_ _) | (with_reducible refine Below.setCell ?_ ?_ _) | (with_reducible refine Below.trans ?_ (Below.mono (by assumption) ?_)) | go_size | (exact Below.size (by assumption)))⟩
        rw [g3, Htk.out]
        try rfl
      · have hfin : (((q + rest.length : Nat) : Int) > 2000) = True := by simp; omega
        go_enter Try.func16, Try.ntmps16
        go_wp2_with fail
        refine (l32Bytes_r l A B c true H1.out w hr hn).mono ?_; rintro e w' ⟨rfl, rfl⟩
        go_wp2_with fail
        refine (l32Bytes_r rest A' B c' true H2.out w hr2 hn2).mono ?_; rintro e w' ⟨rfl, rfl⟩
        have key := l01Own_any (l.take q) A B c w hr3 hB (by rw [Htk.out]; omega)
        rw [Htk.out] at key
        go_wp2_with fail
        refine key.mono ?_; rintro e w1 ⟨A3, c3, rfl, o1, b1⟩
        have z1 := b1.size
        have hr4 := hr2.below b1 hB
        have O1 := Lib.hid o1
        have Hr4 := Lib.hid hr4
        clear o1 hr4 key hr hr2 hr3
        go_wp2_with (at_builtin; refine wpList_append_rd rfl (.tmp 27) (.tmp 28) 22 rfl w.heap.size 2 i0 (.int .i64 0) 1 8 Try.underlying22 hi0 hz0 hz1 hz2 rfl (by decide) _ _ _ rfl O1.out B A' rest.length c' (ints rest) rfl (by simp [ints]) Hr4.out (ints_one _) (by unfold maxLen; omega) (by omega) (by omega) ?_; intro v2 w2 o2 b2 hz4; obtain ⟨A4, c4, rfl⟩ := own_val o2; have O2 := Lib.hid o2; clear o2)
        go_ret2
        obtain ⟨g1, g2⟩ := Hbad.out (by rw [Htk.out]; exact hbig)
        rw [g1, g2]
        exact ⟨none, 0, rfl, World.ownsRow_nil _ _ _ _, by repeat' (first | (with_reducible exact Below.refl _ _) | (with_reducible assumption) | (with_reducible refine Below.alloc ?_ ?_ _) | (with_reducible refine Below.drew ?_) | (with_reducible refine below_drewN ?_ _) | (with_reducible refine Below.setCell ?_ ?_ _) | (with_reducible refine Below.trans ?_ (Below.mono (by assumption) ?_)) | go_size | (exact Below.size (by assumption)))⟩
  · exact cut_bad_spec l kept rest A A' B c c' w hr hr2 hB hn hn2 hlc hok
theorem cut_bad_impl (l : List Int) (kept : Int) (rest : List Int) (A A' : Option Addr) (B c c' : Nat) (w : World) (hr : Rd w B A (ints l)) (hr2 : Rd w B A' (ints rest)) (hB : B ≤ w.heap.size) (hn : l.length ≤ 1048576) (hn2 : rest.length ≤ 1048576) (hlc : l.length ≤ c) (hok : ¬ (bytesB l = true ∧ bytesB rest = true ∧ 0 ≤ kept)) :
   Calls Try.prog 17 #[.slice A l.length c, .int .i64 kept, .slice A' rest.length c'] w fun e w' => ∃ A2 c2, e = .returned (.tuple #[.slice A2 (cutR l kept rest).length c2, .int .i64 (cutC l kept rest)]) ∧ w'.ownsRow w.heap.size 2 1 (.slice A2 (cutR l kept rest).length c2) (cutR l kept rest).length (ints (cutR l kept rest)) ∧ Below w.heap.size w w' := by
  have q2 : cutC l kept rest = 2 := if_neg hok
  have q1 : cutR l kept rest = [] := by simp [cutR, q2]
  rw [q1, q2]
  clear q1 q2
  cases h1 : bytesB l with
  | false =>
    have H1 := Lib.hid h1
    clear h1 hok
    go_enter Try.func17, Try.ntmps17
    go_wp2_with fail
    refine (areBytes_r l A B c false H1.out w hr hB hn).mono ?_; rintro e w1 ⟨rfl, b1⟩
    go_wp2
    go_ret2
    exact ⟨none, 0, rfl, World.ownsRow_nil _ _ _ _, by repeat' (first | (with_reducible exact Below.refl _ _) | (with_reducible assumption) | (with_reducible refine Below.alloc ?_ ?_ _) | (with_reducible refine Below.drew ?_) | (with_reducible refine below_drewN ?_ _) | (with_reducible refine Below.setCell ?_ ?_ _) | (with_reducible refine Below.trans ?_ (Below.mono (by assumption) ?_)) | go_size | (exact Below.size (by assumption)))⟩
  | true =>
    cases h2 : bytesB rest with
    | false =>
      have H1 := Lib.hid h1
      have H2 := Lib.hid h2
      clear h1 h2 hok
      go_enter Try.func17, Try.ntmps17
      go_wp2_with fail
      refine (areBytes_r l A B c true H1.out w hr hB hn).mono ?_; rintro e w1 ⟨rfl, b1⟩
      go_wp2_with fail
      refine (areBytes_r rest A' B c' false H2.out w1 (hr2.below b1 hB) (by have := b1.size; omega) hn2).mono ?_; rintro e w2 ⟨rfl, b2⟩
      go_wp2
      go_ret2
      exact ⟨none, 0, rfl, World.ownsRow_nil _ _ _ _, by repeat' (first | (with_reducible exact Below.refl _ _) | (with_reducible assumption) | (with_reducible refine Below.alloc ?_ ?_ _) | (with_reducible refine Below.drew ?_) | (with_reducible refine below_drewN ?_ _) | (with_reducible refine Below.setCell ?_ ?_ _) | (with_reducible refine Below.trans ?_ (Below.mono (by assumption) ?_)) | go_size | (exact Below.size (by assumption)))⟩
    | true =>
      have hk : kept < 0 := by
        by_cases h3 : kept < 0
        · exact h3
        · exact absurd ⟨h1, h2, by omega⟩ hok
      have H1 := Lib.hid h1
      have H2 := Lib.hid h2
      clear h1 h2 hok
      go_enter Try.func17, Try.ntmps17
      go_wp2_with fail
      refine (areBytes_r l A B c true H1.out w hr hB hn).mono ?_; rintro e w1 ⟨rfl, b1⟩
      go_wp2_with fail
      refine (areBytes_r rest A' B c' true H2.out w1 (hr2.below b1 hB) (by have := b1.size; omega) hn2).mono ?_; rintro e w2 ⟨rfl, b2⟩
      go_wp2
      go_ret2
      exact ⟨none, 0, rfl, World.ownsRow_nil _ _ _ _, by repeat' (first | (with_reducible exact Below.refl _ _) | (with_reducible assumption) | (with_reducible refine Below.alloc ?_ ?_ _) | (with_reducible refine Below.drew ?_) | (with_reducible refine below_drewN ?_ _) | (with_reducible refine Below.setCell ?_ ?_ _) | (with_reducible refine Below.trans ?_ (Below.mono (by assumption) ?_)) | go_size | (exact Below.size (by assumption)))⟩
theorem cut_impl (l : List Int) (kept : Int) (rest : List Int) (A A' : Option Addr) (B c c' : Nat) (w : World) (hr : Rd w B A (ints l)) (hr2 : Rd w B A' (ints rest)) (hB : B ≤ w.heap.size) (hn : l.length ≤ 1048576) (hn2 : rest.length ≤ 1048576) (hlc : l.length ≤ c) :
   Calls Try.prog 17 #[.slice A l.length c, .int .i64 kept, .slice A' rest.length c'] w fun e w' => ∃ A2 c2, e = .returned (.tuple #[.slice A2 (cutR l kept rest).length c2, .int .i64 (cutC l kept rest)]) ∧ w'.ownsRow w.heap.size 2 1 (.slice A2 (cutR l kept rest).length c2) (cutR l kept rest).length (ints (cutR l kept rest)) ∧ Below w.heap.size w w' := by
  by_cases hok : bytesB l = true ∧ bytesB rest = true ∧ 0 ≤ kept
  · obtain ⟨i0, hi0, hz0, hz1, hz2⟩ := info_parts infoInt64
    obtain ⟨h1, h2, h3⟩ := hok
    have H1 := Lib.hid h1
    have H2 := Lib.hid h2
    have n1 := bytes_len h1
    have n2 := bytes_len h2
    clear h1 h2
    obtain ⟨q, rfl⟩ : ∃ q : Nat, kept = q := ⟨kept.toNat, by omega⟩
    have hC : cutC l q rest = if (cutAll l q rest).length ≤ 2000 then 0 else 3 := if_pos ⟨H1.out, H2.out, h3⟩
    have hall : cutAll l q rest = l.take q ++ rest := rfl
    have hlen : (cutAll l q rest).length = (l.take q).length + rest.length := by rw [hall, List.length_append]
    have hres : ∀ (W : World) (A2 : Option Addr) (c2 : Nat), W.ownsRow w.heap.size 2 1 (.slice A2 ((l.take q).length + rest.length) c2) ((l.take q).length + rest.length) (ints (l.take q ++ rest)) → (l.take q).length + rest.length ≤ 2000 → cutC l q rest = 0 ∧ W.ownsRow w.heap.size 2 1 (.slice A2 (cutR l q rest).length c2) (cutR l q rest).length (ints (cutR l q rest)) ∧ (cutR l q rest).length = (l.take q).length + rest.length := by
      intro W A2 c2 ho hle
      have h0 : cutC l q rest = 0 := by rw [hC, if_pos (by omega)]
      have hR : cutR l q rest = l.take q ++ rest := by rw [cutR, if_pos h0, hall]
      rw [hR, List.length_append]
      exact ⟨h0, ho, rfl⟩
    have hbad : ¬ (l.take q).length + rest.length ≤ 2000 → cutC l q rest = 3 ∧ cutR l q rest = [] := by
      intro hle
      have h0 : cutC l q rest = 3 := by rw [hC, if_neg (by omega)]
      exact ⟨h0, by rw [cutR, h0]; rfl⟩
    have Hres := Lib.hid hres
    have Hbad := Lib.hid hbad
    clear hC hall hlen hres hbad
    by_cases hq : (l.length : Int) < (q : Int)
    · have ht : (l.take q).length = l.length := by rw [List.length_take]; omega
      have htk : l.take q = l := List.take_of_length_le (by omega)
      have Htk := Lib.hid ht
      have hr3 := rd_take_ints hr q
      clear ht
      clear htk
      by_cases hbig : l.length + rest.length ≤ 2000
      · have hfin : (((l.length + rest.length : Nat) : Int) > 2000) = False := by simp; omega
        go_enter Try.func17, Try.ntmps17
        go_wp2_with fail
        refine (areBytes_r l A B c true H1.out w hr hB hn).mono ?_; rintro e w1 ⟨rfl, b1⟩
        go_wp2_with fail
        refine (areBytes_r rest A' B c' true H2.out w1 (hr2.below b1 hB) (by have := b1.size; omega) hn2).mono ?_; rintro e w2 ⟨rfl, b2⟩
        have z1 := b1.size
        have z2 := b2.size
        have hp1 := Lib.hid ((hr3.below b1 hB).below b2 (by omega))
        have hp2 := Lib.hid ((hr2.below b1 hB).below b2 (by omega))
        clear hr hr2 hr3
        have hcat : Hid (Calls Try.prog 54 #[.slice (some ⟨w2.heap.size, 0, none⟩) 2 2] (w2.alloc (.cells #[.slice A l.length c, .slice A' rest.length c'] 22)) fun e w' => ∃ A4 c4, e = .returned (.slice A4 (l.length + rest.length) c4) ∧ w'.ownsRow (w2.heap.size + 1) 2 1 (.slice A4 (l.length + rest.length) c4) (l.length + rest.length) (ints (l.take q ++ rest)) ∧ Below (w2.heap.size + 1) (w2.alloc (.cells #[.slice A l.length c, .slice A' rest.length c'] 22)) w') := by
          have hlen2 : (l.take q).length = l.length := Htk.out
          have hcl : catL [(A, c, l.take q), (A', c', rest)] = l.take q ++ rest := by simp [catL]
          have hpart : [(A, c, l.take q), (A', c', rest)].flatMap ePart = [.slice A l.length c, .slice A' rest.length c'] := by simp only [List.flatMap_cons, List.flatMap_nil, ePart, hlen2]; rfl
          have h := concat_any [(A, c, l.take q), (A', c', rest)] (by simp) (by rw [hcl, List.length_append, hlen2]; omega) (some ⟨w2.heap.size, 0, none⟩) (w2.heap.size + 1) 2 (w2.alloc (.cells #[.slice A l.length c, .slice A' rest.length c'] 22)) (by rw [hpart]; exact rd_new w2 _ _ _ (by omega)) (fun k t hk => by
            match k, hk with
            | 0, hk => simp at hk; subst hk; exact (hp1.out.alloc (by omega) _).more (by omega)
            | 1, hk => simp at hk; subst hk; exact (hp2.out.alloc (by omega) _).more (by omega)
            | k + 2, hk => simp at hk) (by simp)
          rw [hcl, List.length_append, hlen2] at h
          simp only [World.size_alloc] at h
          exact h
        go_wp2_with (first | (go_at_call 55; refine (length_any _ _ _ _ hn).mono ?_; rintro e w' ⟨rfl, rfl⟩) | (go_at_call 54; refine hcat.out.mono ?_; rintro e w5 ⟨A4, c4, rfl, o4, b4⟩; have O2 := Lib.hid (own_more o4 (show w.heap.size ≤ w2.heap.size + 1 by omega)); clear o4))
        go_ret2
        obtain ⟨g1, g2, g3⟩ := Hres.out _ _ _ (by rw [Htk.out]; simpa [ints] using O2.out) (by rw [Htk.out]; exact hbig)
        rw [g1]
        refine ⟨A4, c4, ?_, g2, by repeat' (first | (with_reducible exact Below.refl _ _) | (with_reducible assumption) | (with_reducible refine Below.alloc ?_ ?_ _) | (with_reducible refine Below.drew ?_) | (with_reducible refine below_drewN ?_ _) | (with_reducible refine Below.setCell ?_ ?_ _) | (with_reducible refine Below.trans ?_ (Below.mono (by assumption) ?_)) | go_size | (exact Below.size (by assumption)))⟩
        rw [g3, Htk.out]
        try rfl
      · have hfin : (((l.length + rest.length : Nat) : Int) > 2000) = True := by simp; omega
        go_enter Try.func17, Try.ntmps17
        go_wp2_with fail
        refine (areBytes_r l A B c true H1.out w hr hB hn).mono ?_; rintro e w1 ⟨rfl, b1⟩
        go_wp2_with fail
        refine (areBytes_r rest A' B c' true H2.out w1 (hr2.below b1 hB) (by have := b1.size; omega) hn2).mono ?_; rintro e w2 ⟨rfl, b2⟩
        have z1 := b1.size
        have z2 := b2.size
        have hp1 := Lib.hid ((hr3.below b1 hB).below b2 (by omega))
        have hp2 := Lib.hid ((hr2.below b1 hB).below b2 (by omega))
        clear hr hr2 hr3
        have hcat : Hid (Calls Try.prog 54 #[.slice (some ⟨w2.heap.size, 0, none⟩) 2 2] (w2.alloc (.cells #[.slice A l.length c, .slice A' rest.length c'] 22)) fun e w' => ∃ A4 c4, e = .returned (.slice A4 (l.length + rest.length) c4) ∧ w'.ownsRow (w2.heap.size + 1) 2 1 (.slice A4 (l.length + rest.length) c4) (l.length + rest.length) (ints (l.take q ++ rest)) ∧ Below (w2.heap.size + 1) (w2.alloc (.cells #[.slice A l.length c, .slice A' rest.length c'] 22)) w') := by
          have hlen2 : (l.take q).length = l.length := Htk.out
          have hcl : catL [(A, c, l.take q), (A', c', rest)] = l.take q ++ rest := by simp [catL]
          have hpart : [(A, c, l.take q), (A', c', rest)].flatMap ePart = [.slice A l.length c, .slice A' rest.length c'] := by simp only [List.flatMap_cons, List.flatMap_nil, ePart, hlen2]; rfl
          have h := concat_any [(A, c, l.take q), (A', c', rest)] (by simp) (by rw [hcl, List.length_append, hlen2]; omega) (some ⟨w2.heap.size, 0, none⟩) (w2.heap.size + 1) 2 (w2.alloc (.cells #[.slice A l.length c, .slice A' rest.length c'] 22)) (by rw [hpart]; exact rd_new w2 _ _ _ (by omega)) (fun k t hk => by
            match k, hk with
            | 0, hk => simp at hk; subst hk; exact (hp1.out.alloc (by omega) _).more (by omega)
            | 1, hk => simp at hk; subst hk; exact (hp2.out.alloc (by omega) _).more (by omega)
            | k + 2, hk => simp at hk) (by simp)
          rw [hcl, List.length_append, hlen2] at h
          simp only [World.size_alloc] at h
          exact h
        go_wp2_with (first | (go_at_call 55; refine (length_any _ _ _ _ hn).mono ?_; rintro e w' ⟨rfl, rfl⟩) | (go_at_call 54; refine hcat.out.mono ?_; rintro e w5 ⟨A4, c4, rfl, o4, b4⟩; have O2 := Lib.hid (own_more o4 (show w.heap.size ≤ w2.heap.size + 1 by omega)); clear o4))
        go_ret2
        obtain ⟨g1, g2⟩ := Hbad.out (by rw [Htk.out]; exact hbig)
        rw [g1, g2]
        exact ⟨none, 0, rfl, World.ownsRow_nil _ _ _ _, by repeat' (first | (with_reducible exact Below.refl _ _) | (with_reducible assumption) | (with_reducible refine Below.alloc ?_ ?_ _) | (with_reducible refine Below.drew ?_) | (with_reducible refine below_drewN ?_ _) | (with_reducible refine Below.setCell ?_ ?_ _) | (with_reducible refine Below.trans ?_ (Below.mono (by assumption) ?_)) | go_size | (exact Below.size (by assumption)))⟩
    · have ht : (l.take q).length = q := by rw [List.length_take]; omega
      have Htk := Lib.hid ht
      have hr3 := rd_take_ints hr q
      clear ht
      by_cases hbig : q + rest.length ≤ 2000
      · have hfin : (((q + rest.length : Nat) : Int) > 2000) = False := by simp; omega
        go_enter Try.func17, Try.ntmps17
        go_wp2_with fail
        refine (areBytes_r l A B c true H1.out w hr hB hn).mono ?_; rintro e w1 ⟨rfl, b1⟩
        go_wp2_with fail
        refine (areBytes_r rest A' B c' true H2.out w1 (hr2.below b1 hB) (by have := b1.size; omega) hn2).mono ?_; rintro e w2 ⟨rfl, b2⟩
        have z1 := b1.size
        have z2 := b2.size
        have hp1 := Lib.hid ((hr3.below b1 hB).below b2 (by omega))
        have hp2 := Lib.hid ((hr2.below b1 hB).below b2 (by omega))
        clear hr hr2 hr3
        have hcat : Hid (Calls Try.prog 54 #[.slice (some ⟨w2.heap.size, 0, none⟩) 2 2] (w2.alloc (.cells #[.slice A q c, .slice A' rest.length c'] 22)) fun e w' => ∃ A4 c4, e = .returned (.slice A4 (q + rest.length) c4) ∧ w'.ownsRow (w2.heap.size + 1) 2 1 (.slice A4 (q + rest.length) c4) (q + rest.length) (ints (l.take q ++ rest)) ∧ Below (w2.heap.size + 1) (w2.alloc (.cells #[.slice A q c, .slice A' rest.length c'] 22)) w') := by
          have hlen2 : (l.take q).length = q := Htk.out
          have hcl : catL [(A, c, l.take q), (A', c', rest)] = l.take q ++ rest := by simp [catL]
          have hpart : [(A, c, l.take q), (A', c', rest)].flatMap ePart = [.slice A q c, .slice A' rest.length c'] := by simp only [List.flatMap_cons, List.flatMap_nil, ePart, hlen2]; rfl
          have h := concat_any [(A, c, l.take q), (A', c', rest)] (by simp) (by rw [hcl, List.length_append, hlen2]; omega) (some ⟨w2.heap.size, 0, none⟩) (w2.heap.size + 1) 2 (w2.alloc (.cells #[.slice A q c, .slice A' rest.length c'] 22)) (by rw [hpart]; exact rd_new w2 _ _ _ (by omega)) (fun k t hk => by
            match k, hk with
            | 0, hk => simp at hk; subst hk; exact (hp1.out.alloc (by omega) _).more (by omega)
            | 1, hk => simp at hk; subst hk; exact (hp2.out.alloc (by omega) _).more (by omega)
            | k + 2, hk => simp at hk) (by simp)
          rw [hcl, List.length_append, hlen2] at h
          simp only [World.size_alloc] at h
          exact h
        go_wp2_with (first | (go_at_call 55; refine (length_any _ _ _ _ hn).mono ?_; rintro e w' ⟨rfl, rfl⟩) | (go_at_call 54; refine hcat.out.mono ?_; rintro e w5 ⟨A4, c4, rfl, o4, b4⟩; have O2 := Lib.hid (own_more o4 (show w.heap.size ≤ w2.heap.size + 1 by omega)); clear o4))
        go_ret2
        obtain ⟨g1, g2, g3⟩ := Hres.out _ _ _ (by rw [Htk.out]; simpa [ints] using O2.out) (by rw [Htk.out]; exact hbig)
        rw [g1]
        refine ⟨A4, c4, ?_, g2, by repeat' (first | (with_reducible exact Below.refl _ _) | (with_reducible assumption) | (with_reducible refine Below.alloc ?_ ?_ _) | (with_reducible refine Below.drew ?_) | (with_reducible refine below_drewN ?_ _) | (with_reducible refine Below.setCell ?_ ?_ _) | (with_reducible refine Below.trans ?_ (Below.mono (by assumption) ?_)) | go_size | (exact Below.size (by assumption)))⟩
        rw [g3, Htk.out]
        try rfl
      · have hfin : (((q + rest.length : Nat) : Int) > 2000) = True := by simp; omega
        go_enter Try.func17, Try.ntmps17
        go_wp2_with fail
        refine (areBytes_r l A B c true H1.out w hr hB hn).mono ?_; rintro e w1 ⟨rfl, b1⟩
        go_wp2_with fail
        refine (areBytes_r rest A' B c' true H2.out w1 (hr2.below b1 hB) (by have := b1.size; omega) hn2).mono ?_; rintro e w2 ⟨rfl, b2⟩
        have z1 := b1.size
        have z2 := b2.size
        have hp1 := Lib.hid ((hr3.below b1 hB).below b2 (by omega))
        have hp2 := Lib.hid ((hr2.below b1 hB).below b2 (by omega))
        clear hr hr2 hr3
        have hcat : Hid (Calls Try.prog 54 #[.slice (some ⟨w2.heap.size, 0, none⟩) 2 2] (w2.alloc (.cells #[.slice A q c, .slice A' rest.length c'] 22)) fun e w' => ∃ A4 c4, e = .returned (.slice A4 (q + rest.length) c4) ∧ w'.ownsRow (w2.heap.size + 1) 2 1 (.slice A4 (q + rest.length) c4) (q + rest.length) (ints (l.take q ++ rest)) ∧ Below (w2.heap.size + 1) (w2.alloc (.cells #[.slice A q c, .slice A' rest.length c'] 22)) w') := by
          have hlen2 : (l.take q).length = q := Htk.out
          have hcl : catL [(A, c, l.take q), (A', c', rest)] = l.take q ++ rest := by simp [catL]
          have hpart : [(A, c, l.take q), (A', c', rest)].flatMap ePart = [.slice A q c, .slice A' rest.length c'] := by simp only [List.flatMap_cons, List.flatMap_nil, ePart, hlen2]; rfl
          have h := concat_any [(A, c, l.take q), (A', c', rest)] (by simp) (by rw [hcl, List.length_append, hlen2]; omega) (some ⟨w2.heap.size, 0, none⟩) (w2.heap.size + 1) 2 (w2.alloc (.cells #[.slice A q c, .slice A' rest.length c'] 22)) (by rw [hpart]; exact rd_new w2 _ _ _ (by omega)) (fun k t hk => by
            match k, hk with
            | 0, hk => simp at hk; subst hk; exact (hp1.out.alloc (by omega) _).more (by omega)
            | 1, hk => simp at hk; subst hk; exact (hp2.out.alloc (by omega) _).more (by omega)
            | k + 2, hk => simp at hk) (by simp)
          rw [hcl, List.length_append, hlen2] at h
          simp only [World.size_alloc] at h
          exact h
        go_wp2_with (first | (go_at_call 55; refine (length_any _ _ _ _ hn).mono ?_; rintro e w' ⟨rfl, rfl⟩) | (go_at_call 54; refine hcat.out.mono ?_; rintro e w5 ⟨A4, c4, rfl, o4, b4⟩; have O2 := Lib.hid (own_more o4 (show w.heap.size ≤ w2.heap.size + 1 by omega)); clear o4))
        go_ret2
        obtain ⟨g1, g2⟩ := Hbad.out (by rw [Htk.out]; exact hbig)
        rw [g1, g2]
        exact ⟨none, 0, rfl, World.ownsRow_nil _ _ _ _, by repeat' (first | (with_reducible exact Below.refl _ _) | (with_reducible assumption) | (with_reducible refine Below.alloc ?_ ?_ _) | (with_reducible refine Below.drew ?_) | (with_reducible refine below_drewN ?_ _) | (with_reducible refine Below.setCell ?_ ?_ _) | (with_reducible refine Below.trans ?_ (Below.mono (by assumption) ?_)) | go_size | (exact Below.size (by assumption)))⟩
  · exact cut_bad_impl l kept rest A A' B c c' w hr hr2 hB hn hn2 hlc hok
end Go.Proofs.Ytjohpakfaommgaa
