/- RecoverJournal of the program; the law's contracts. -/
import Derived.Test.YtjohpakfaommgaaRc
namespace Go.Proofs.Ytjohpakfaommgaa
open Go.ChangeShapes Go.WideShapes Go.ChangeAt Go.RowKit
set_option maxRecDepth 20000
set_option linter.unusedVariables false
set_option linter.unusedSimpArgs false
theorem rd_drop14 {w : World} {B b o cc : Nat} {l : List Int} (hr : Rd w B (some ⟨b, o, none⟩) (ints l)) (hlc : l.length ≤ cc) :
    ∃ ad : Addr, (if cc = 14 then some (⟨b, o, none⟩ : Addr) else some ⟨b, o + 14, none⟩) = some ad ∧ Rd w B (some ad) (ints (l.drop 14)) := by
  by_cases h : cc = 14
  · refine ⟨⟨b, o, none⟩, by simp [h], fun hn => ?_⟩
    rw [ints_length, List.length_drop] at hn
    omega
  · refine ⟨⟨b, o + 14, none⟩, by simp [h], ?_⟩
    have h2 := rd_sub hr 14 (l.length - 14)
    rwa [List.take_of_length_le (by rw [List.length_drop]; omega)] at h2
set_option maxHeartbeats 2000000 in
theorem recover_impl (l : List Int) (hbt : isBytes l) (A : Option Addr) (B c : Nat) (w : World) (hr : Rd w B A (ints l)) (hB : B ≤ w.heap.size) (hlc : l.length ≤ c) (hcm : c ≤ 9223372036854775807) (hn : l.length ≤ 2000) :
   Calls Try.prog 67 #[.slice A l.length c] w (RecP w l) := by
  have Hbt := Lib.hid hbt
  clear hbt
  go_enter Try.func67, Try.ntmps67
  go_wp2_with fail
  go_loopw [0, 3] (fun li v wr => ∃ (k m cc : Nat) (A' : Option Addr), m + 14 * k = l.length ∧ cc + 14 * k = c ∧ li = .slice A' m cc ∧ Rd w B A' (ints (l.drop (14 * k))) ∧ (∀ j, j < k → goodR l j = true) ∧ wr.ownsRow w.heap.size 35 3 v k ((recUp l k).flatMap eEventRecord) ∧ Below w.heap.size w wr) (fun li _ _ => match li with | .slice _ m _ => m | _ => 0)
  case atStart => exact ⟨0, l.length, c, A, by omega, by omega, rfl, by simpa using hr, by simp, World.ownsRow_nil _ _ _ _, Below.refl _ _⟩
  case round =>
    obtain ⟨k, m, cc, A', hm, hcc, rfl, hr2, hgood, hown, hbw⟩ := hrel
    have hsz := hbw.size
    obtain ⟨Ao, co, rfl⟩ := own_val hown
    have Hg := Lib.hid hgood
    have Ho := Lib.hid hown
    have Hr0 := Lib.hid hr
    clear hgood hown hr
    have Hm := Lib.hid hm
    have Hcc := Lib.hid hcc
    have hdl : (l.drop (14 * k)).length = m := by rw [List.length_drop]; omega
    have hmc : m ≤ cc := by omega
    have hk2 : k ≤ 1048576 := by omega
    have hmn : m ≤ 2000 := by omega
    have hccm : cc ≤ 9223372036854775807 := by omega
    have hdrop : (l.drop (14 * k)).drop 14 = l.drop (14 * (k + 1)) := by rw [List.drop_drop, show 14 * (k + 1) = 14 * k + 14 by omega]
    clear hm hcc
    by_cases hlt : 14 ≤ m
    · obtain ⟨b, o, hA, _, _⟩ := hr2 (by rw [ints_length]; omega)
      subst hA
      have hr1 := Lib.hid (rd_take_ints (hr2.below hbw hB) 14)
      obtain ⟨ad, had, hr3⟩ := rd_drop14 hr2 (show (l.drop (14 * k)).length ≤ cc by omega)
      have hcl : (chunk l k).length = 14 := by rw [chunk, List.length_take]; omega
      have H14 := Lib.hid hcl
      have Hcb := Lib.hid (chunk_bytes Hbt.out k)
      have q1 : 14 ≤ cc := by omega
      have qi0 : (14 : Int) ≤ (m : Int) := by omega
      have qi1 : (14 : Int) ≤ (cc : Int) := by omega
      have hdn : goodR l k = (decOk (chunk l k) && (dN (chunk l k) == (k : Int))) := rfl
      have hrk : recAt l k = (dT (chunk l k), dK (chunk l k), dV (chunk l k)) := rfl
      have Hst := Lib.hid (recUp_step l k)
      have Hdn := Lib.hid hdn
      have Hrk := Lib.hid hrk
      rw [hdrop] at hr3
      have Hr3 := Lib.hid hr3
      clear hr2 hr3 hdn hrk hcl hdl hdrop
      generalize hT : dT (chunk l k) = T at *
      generalize hK : dK (chunk l k) = K at *
      generalize hV : dV (chunk l k) = V at *
      generalize hN : dN (chunk l k) = N at *
      have Hd4 : Hid (∀ (r : Bool), decOk (chunk l k) = r → Calls Try.prog 61 #[.slice (some ⟨b, o, none⟩) 14 cc] wr fun e w' => e = .returned (.tuple #[.agg #[.int .i64 (dX r T), .int .i64 (dX r K), .int .i64 (dX r V)], .int .i64 (dX r N), .bool r]) ∧ Below wr.heap.size wr w') := by
        intro r hd
        have h := decode_14 (chunk l k) H14.out Hcb.out r hd (some ⟨b, o, none⟩) B cc wr hr1.out (by omega) (by omega)
        rw [hT, hK, hV, hN] at h
        exact h
      clear hT hK hV hN
      cases hd : decOk (chunk l k) with
      | false =>
        have Hd := Lib.hid hd
        clear hd
        go_wp2_with (go_at_call 61; refine (Hd4.out false Hd.out).mono ?_; rintro e w2 ⟨rfl, hb2⟩; have O2 := Lib.hid (own_below Ho.out hb2); have hs2 := hb2.size)
        go_ret
        exact recP_mk (recN_eq Hg.out (by have := Hm.out; omega) (.inr (by rw [Hdn.out, Hd.out]; rfl))) (O2.out.alloc _) (by repeat' (first | (with_reducible exact Below.refl _ _) | (with_reducible assumption) | (with_reducible refine Below.alloc ?_ ?_ _) | (with_reducible refine Below.drew ?_) | (with_reducible refine below_drewN ?_ _) | (with_reducible refine Below.setCell ?_ ?_ _) | (with_reducible refine Below.trans ?_ (Below.mono (by assumption) ?_)) | go_size | (exact Below.size (by assumption))))
      | true =>
        have Hd := Lib.hid hd
        clear hd
        have Hd5 := Lib.hid (show Calls Try.prog 61 #[.slice (some ⟨b, o, none⟩) 14 cc] wr (fun e w' => e = .returned (.tuple #[.agg #[.int .i64 T, .int .i64 K, .int .i64 V], .int .i64 N, .bool true]) ∧ Below wr.heap.size wr w') from Hd4.out true Hd.out)
        cases hnk : (N == (k : Int)) with
        | false =>
          have hne : (N != (k : Int)) = true := by rw [bne, hnk]; rfl
          have Hnk := Lib.hid hnk
          clear hnk
          go_wp2_with (first | (go_at_call 61; refine Hd5.out.mono ?_; rintro e w2 ⟨rfl, hb2⟩; have O2 := Lib.hid (own_below Ho.out hb2); have hs2 := hb2.size) | (go_at_call 88; refine (lengthRec_any _ _ _ _ hk2).mono ?_; rintro e w' ⟨rfl, rfl⟩))
          go_ret
          exact recP_mk (recN_eq Hg.out (by have := Hm.out; omega) (.inr (by rw [Hdn.out, Hd.out, Hnk.out]; rfl))) (O2.out.alloc _) (by repeat' (first | (with_reducible exact Below.refl _ _) | (with_reducible assumption) | (with_reducible refine Below.alloc ?_ ?_ _) | (with_reducible refine Below.drew ?_) | (with_reducible refine below_drewN ?_ _) | (with_reducible refine Below.setCell ?_ ?_ _) | (with_reducible refine Below.trans ?_ (Below.mono (by assumption) ?_)) | go_size | (exact Below.size (by assumption))))
        | true =>
          have hne : (N != (k : Int)) = false := by rw [bne, hnk]; rfl
          have Hnk := Lib.hid hnk
          clear hnk
          go_wp2_with (first | (go_at_call 61; refine Hd5.out.mono ?_; rintro e w2 ⟨rfl, hb2⟩; have O2 := Lib.hid (own_below Ho.out hb2); have hs2 := hb2.size; have hs3 : w.heap.size ≤ (w2.alloc (.cells #[.int .i64 T, .int .i64 K, .int .i64 V] 35)).heap.size := by simp; omega) | (go_at_call 88; refine (lengthRec_any _ _ _ _ hk2).mono ?_; rintro e w' ⟨rfl, rfl⟩) | (at_builtin; refine wpList_append_rec rfl (.tmp 25) (.tmp 27) rfl w.heap.size _ k _ rfl (O2.out.alloc _) _ _ _ (by simp [Act.eval, Act.put]) hk2 hs3 ?_; intro v5 w5 own5 hb5 hz5; have O5 := Lib.hid own5; clear own5))
          go_roundw
          case rel => exact ⟨k + 1, m - 14, cc - 14, some ad, by have := Hm.out; omega, by have := Hcc.out; omega, rfl, Hr3.out, fun j hj => by
            by_cases e : j = k
            · subst e; rw [Hdn.out, Hd.out, Hnk.out]; rfl
            · exact Hg.out j (by omega), by rw [Hst.out, Hrk.out]; exact O5.out, by repeat' (first | (with_reducible exact Below.refl _ _) | (with_reducible assumption) | (with_reducible refine Below.alloc ?_ ?_ _) | (with_reducible refine Below.drew ?_) | (with_reducible refine below_drewN ?_ _) | (with_reducible refine Below.setCell ?_ ?_ _) | (with_reducible refine Below.trans ?_ (Below.mono (by assumption) ?_)) | go_size | (exact Below.size (by assumption)))⟩
          case measure => simp; omega
    · have qi0 : ¬ (14 : Int) ≤ (m : Int) := by omega
      clear hr2 hdl hdrop
      go_wp2
      go_ret
      exact recP_mk (recN_eq Hg.out (by have := Hm.out; omega) (.inl (by have := Hm.out; omega))) Ho.out hbw
theorem own_capmax {w : World} {base : Nat} {e : TypeId} {size n c : Nat} {A : Option Addr} {xs : List Value} (h : w.ownsRow base e size (.slice A n c) n xs) (hx : True) : c ≤ maxLen := by
  rcases h.2 with ⟨hv, _⟩ | ⟨g, cap, cur, hv, _, _, _, hc, _⟩
  · injection hv with _ _ h3
    subst h3
    simp [maxLen]
  · injection hv with _ _ h3
    omega
def rcC (l : List Int) : Int := if bytesB l then 0 else 2
def rcR (l : List Int) : List Rec3 := if bytesB l then recUp l (recN l) else []
theorem rcR_len (l : List Int) (hn : l.length ≤ 1048576) : (rcR l).length ≤ 1048576 := by
  unfold rcR
  split
  · rw [recUp_length]; have := recN_le l; omega
  · simp
theorem rc_impl (l : List Int) (A : Option Addr) (B c : Nat) (w : World) (hr : Rd w B A (ints l)) (hB : B ≤ w.heap.size) (hlc : l.length ≤ c) (hcm : c ≤ maxLen) (hn : l.length ≤ 1048576) :
   Calls Try.prog 33 #[.slice A l.length c] w fun e w' => ∃ A' c', e = .returned (.tuple #[.slice A' (rcR l).length c', .int .i64 (rcC l)]) ∧ w'.ownsRow w.heap.size 35 3 (.slice A' (rcR l).length c') (rcR l).length ((rcR l).flatMap eEventRecord) ∧ Below w.heap.size w w' := by
  unfold maxLen at hcm
  cases h1 : bytesB l with
  | false =>
    rw [show rcR l = [] by simp [rcR, h1], show rcC l = 2 by simp [rcC, h1]]
    have H1 := Lib.hid h1
    clear h1
    go_enter Try.func33, Try.ntmps33
    go_wp2_with ((go_at_call 51; refine (areBytes_r l A B c false H1.out _ hr hB hn).mono ?_; rintro e w1 ⟨rfl, hb1⟩; have hz1 := hb1.size; have hr1 := Lib.hid (hr.below hb1 hB)))
    go_ret2
    exact ⟨none, 0, rfl, World.ownsRow_nil _ _ _ _, by repeat' (first | (with_reducible exact Below.refl _ _) | (with_reducible assumption) | (with_reducible refine Below.alloc ?_ ?_ _) | (with_reducible refine Below.drew ?_) | (with_reducible refine below_drewN ?_ _) | (with_reducible refine Below.setCell ?_ ?_ _) | (with_reducible refine Below.trans ?_ (Below.mono (by assumption) ?_)) | go_size | (exact Below.size (by assumption)))⟩
  | true =>
    rw [show rcR l = recUp l (recN l) by simp [rcR, h1], show rcC l = 0 by simp [rcC, h1], recUp_length]
    have hl2 : l.length ≤ 2000 := by have := h1; simp only [bytesB, Bool.and_eq_true, decide_eq_true_eq] at this; exact this.1
    have H1 := Lib.hid h1
    clear h1
    go_enter Try.func33, Try.ntmps33
    go_wp2_with (first | (go_at_call 51; refine (areBytes_r l A B c true H1.out _ hr hB hn).mono ?_; rintro e w1 ⟨rfl, hb1⟩; have hz1 := hb1.size; have hr1 := Lib.hid (hr.below hb1 hB)) | (go_at_call 67; refine (recover_impl l (isBytes_of H1.out) A B c _ hr1.out (by omega) hlc hcm hl2).mono ?_; rintro e w2 ⟨A2, c2, rfl, o2, hb2⟩; have O2 := Lib.hid (own_more o2 (show w.heap.size ≤ _ by omega)); clear o2))
    go_ret2
    exact ⟨A2, c2, rfl, O2.out, by repeat' (first | (with_reducible exact Below.refl _ _) | (with_reducible assumption) | (with_reducible refine Below.alloc ?_ ?_ _) | (with_reducible refine Below.drew ?_) | (with_reducible refine below_drewN ?_ _) | (with_reducible refine Below.setCell ?_ ?_ _) | (with_reducible refine Below.trans ?_ (Below.mono (by assumption) ?_)) | go_size | (exact Below.size (by assumption)))⟩
theorem rc_spec (l : List Int) (A : Option Addr) (B c : Nat) (w : World) (hr : Rd w B A (ints l)) (hB : B ≤ w.heap.size) (hlc : l.length ≤ c) (hcm : c ≤ maxLen) (hn : l.length ≤ 1048576) :
   Calls Try.prog 32 #[.slice A l.length c] w fun e w' => ∃ A' c', e = .returned (.tuple #[.slice A' (rcR l).length c', .int .i64 (rcC l)]) ∧ w'.ownsRow w.heap.size 35 3 (.slice A' (rcR l).length c') (rcR l).length ((rcR l).flatMap eEventRecord) ∧ Below w.heap.size w w' := by
  unfold maxLen at hcm
  cases h1 : bytesB l with
  | false =>
    rw [show rcR l = [] by simp [rcR, h1], show rcC l = 2 by simp [rcC, h1]]
    have H1 := Lib.hid h1
    clear h1
    go_enter Try.func32, Try.ntmps32
    go_wp2_with ((go_at_call 49; refine (l32Bytes_r l A B c false H1.out _ hr hn).mono ?_; rintro e w' ⟨rfl, rfl⟩))
    go_ret2
    exact ⟨none, 0, rfl, World.ownsRow_nil _ _ _ _, by repeat' (first | (with_reducible exact Below.refl _ _) | (with_reducible assumption) | (with_reducible refine Below.alloc ?_ ?_ _) | (with_reducible refine Below.drew ?_) | (with_reducible refine below_drewN ?_ _) | (with_reducible refine Below.setCell ?_ ?_ _) | (with_reducible refine Below.trans ?_ (Below.mono (by assumption) ?_)) | go_size | (exact Below.size (by assumption)))⟩
  | true =>
    rw [show rcR l = recUp l (recN l) by simp [rcR, h1], show rcC l = 0 by simp [rcC, h1], recUp_length]
    have hl2 : l.length ≤ 2000 := by have := h1; simp only [bytesB, Bool.and_eq_true, decide_eq_true_eq] at this; exact this.1
    have H1 := Lib.hid h1
    clear h1
    go_enter Try.func32, Try.ntmps32
    go_wp2_with (first | (go_at_call 49; refine (l32Bytes_r l A B c true H1.out _ hr hn).mono ?_; rintro e w' ⟨rfl, rfl⟩) | (go_at_call 66; refine (recover_spec l (isBytes_of H1.out) A B c _ hr hB hlc hcm hl2).mono ?_; rintro e w2 ⟨A2, c2, rfl, o2, hb2⟩; have O2 := Lib.hid (own_more o2 (show w.heap.size ≤ _ by omega)); clear o2))
    go_ret2
    exact ⟨A2, c2, rfl, O2.out, by repeat' (first | (with_reducible exact Below.refl _ _) | (with_reducible assumption) | (with_reducible refine Below.alloc ?_ ?_ _) | (with_reducible refine Below.drew ?_) | (with_reducible refine below_drewN ?_ _) | (with_reducible refine Below.setCell ?_ ?_ _) | (with_reducible refine Below.trans ?_ (Below.mono (by assumption) ?_)) | go_size | (exact Below.size (by assumption)))⟩
end Go.Proofs.Ytjohpakfaommgaa
