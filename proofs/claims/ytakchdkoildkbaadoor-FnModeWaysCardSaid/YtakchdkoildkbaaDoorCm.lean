/- Lists of commands: whether all are valid. -/
import Derived.Test.YtakchdkoildkbaaDoorA
import Derived.Test.YtakchdkoildkbaaDoorP
namespace Go.Proofs.YtakchdkoildkbaaDoor
open Go.ChangeShapes Go.WideShapes Go.ChangeAt Go.RowKit
set_option linter.unusedVariables false
set_option linter.unusedSimpArgs false
theorem isCmd_impl_r (a r : Int) (b : Bool) (q : Bool) (h : cmdB a r = q) (w : World) : Calls Tryd.prog 19 #[.agg #[.int .i64 a, .int .i64 r, .bool b]] w fun e w' => e = .returned (.bool q) ∧ Below w.heap.size w w' := h ▸ isCmd_impl a r b w
theorem isCmd_spec_r (a r : Int) (b : Bool) (q : Bool) (h : cmdB a r = q) (w : World) : Calls Tryd.prog 20 #[.agg #[.int .i64 a, .int .i64 r, .bool b]] w fun e w' => e = .returned (.bool q) ∧ Below w.heap.size w w' := h ▸ isCmd_spec a r b w
theorem isMode_r (n : Int) (q : Bool) (h : inB n 0 5 = q) (w : World) : Calls Tryd.prog 37 #[.int .i64 n] w fun e w' => e = .returned (.bool q) ∧ w = w' := h ▸ isMode_any n w
theorem l27Mode_r (n : Int) (q : Bool) (h : inB n 0 5 = q) (w : World) : Calls Tryd.prog 34 #[.int .i64 n] w fun e w' => e = .returned (.bool q) ∧ w = w' := h ▸ l27Mode_any n w
theorem cmd1_any (a r : Int) (b : Bool) (w : World) : Calls Tryd.prog 58 #[.agg #[.int .i64 a, .int .i64 r, .bool b]] w fun e w' => e = .returned (.bool (!cmdB a r)) ∧ Below w.heap.size w w' := by
  cases h : cmdB a r with
  | false =>
    have H := Lib.hid h
    clear h
    go_enter Tryd.func58, Tryd.ntmps58
    go_wp2_with (go_at_call 19; refine (isCmd_impl_r _ _ _ false H.out _).mono ?_; rintro e w1 ⟨rfl, hb⟩)
    go_ret
    exact ⟨rfl, by repeat' (first | (with_reducible exact Below.refl _ _) | (with_reducible assumption) | (with_reducible refine Below.alloc ?_ ?_ _) | (with_reducible refine Below.drew ?_) | (with_reducible refine below_drewN ?_ _) | (with_reducible refine Below.setCell ?_ ?_ _) | (with_reducible refine Below.trans ?_ (Below.mono (by assumption) ?_)) | go_size | (exact Below.size (by assumption)))⟩
  | true =>
    have H := Lib.hid h
    clear h
    go_enter Tryd.func58, Tryd.ntmps58
    go_wp2_with (go_at_call 19; refine (isCmd_impl_r _ _ _ true H.out _).mono ?_; rintro e w1 ⟨rfl, hb⟩)
    go_ret
    exact ⟨rfl, by repeat' (first | (with_reducible exact Below.refl _ _) | (with_reducible assumption) | (with_reducible refine Below.alloc ?_ ?_ _) | (with_reducible refine Below.drew ?_) | (with_reducible refine below_drewN ?_ _) | (with_reducible refine Below.setCell ?_ ?_ _) | (with_reducible refine Below.trans ?_ (Below.mono (by assumption) ?_)) | go_size | (exact Below.size (by assumption)))⟩
theorem idxCmd1 (l : List (Int × Int × Bool)) (A : Option Addr) (B c : Nat)  (w : World) (hr : Rd w B A (l.flatMap eCommand)) (hB : B ≤ w.heap.size) (hn : l.length ≤ 1048576)  :
   Calls Tryd.prog 64 #[.slice A l.length c, .func (Fn.func 58) #[] #[]] w fun e w' => e = .returned (.int .i64 (idxB (fun t => !cmdB t.1 t.2.1) l)) ∧ Below w.heap.size w w' := by
  go_enter Tryd.func64, Tryd.ntmps64
  go_wp2_with fail
  go_loopw [8] (fun i wr => ∃ k : Nat, k ≤ l.length ∧ i = .int .i64 k ∧ (l.take k).any (fun t => !cmdB t.1 t.2.1) = false ∧ Below w.heap.size w wr) (fun i _ => l.length - (intOf i).toNat)
  case atStart => exact ⟨0, Nat.zero_le _, rfl, by simp, Below.refl _ _⟩
  case round =>
    obtain ⟨k, hk, rfl, hall, hbw⟩ := hrel
    by_cases hlt : k < l.length
    · have ht := List.getElem?_eq_getElem hlt
      generalize l[k] = t at ht
      have hsz := hbw.size
      have hr' := hr.below hbw hB
      obtain ⟨b, o, rfl, _, c0, c1, c2⟩ := hr'.atCommand ht
      have Ht := Lib.hid ht
      have Ha := Lib.hid hall
      have Hr := Lib.hid hr
      have Hr' := Lib.hid hr'
      clear ht hall hr hr'
      go_wp2_with (go_at_call 58; refine (cmd1_any _ _ _ _).mono ?_; rintro e w1 ⟨rfl, hb⟩)
      · go_ret
        exact ⟨ret_int (by rw [idxB_here _ _ Ht.out Ha.out (by simp_all)]), by repeat' (first | (with_reducible exact Below.refl _ _) | (with_reducible assumption) | (with_reducible refine Below.alloc ?_ ?_ _) | (with_reducible refine Below.drew ?_) | (with_reducible refine below_drewN ?_ _) | (with_reducible refine Below.setCell ?_ ?_ _) | (with_reducible refine Below.trans ?_ (Below.mono (by assumption) ?_)) | go_size | (exact Below.size (by assumption)))⟩
      · go_roundw
        case rel => exact ⟨k + 1, by omega, by go_num, by rw [any_step _ _ Ht.out, Ha.out]; simp_all, by repeat' (first | (with_reducible exact Below.refl _ _) | (with_reducible assumption) | (with_reducible refine Below.alloc ?_ ?_ _) | (with_reducible refine Below.drew ?_) | (with_reducible refine below_drewN ?_ _) | (with_reducible refine Below.setCell ?_ ?_ _) | (with_reducible refine Below.trans ?_ (Below.mono (by assumption) ?_)) | go_size | (exact Below.size (by assumption)))⟩
        case measure => simp [intOf]; omega
    · have hk' : k = l.length := by omega
      subst hk'
      rw [List.take_length] at hall
      have Ha := Lib.hid hall
      clear hall
      go_wp2
      go_ret
      exact ⟨ret_int (by rw [idxB_none _ _ Ha.out]), by repeat' (first | (with_reducible exact Below.refl _ _) | (with_reducible assumption) | (with_reducible refine Below.alloc ?_ ?_ _) | (with_reducible refine Below.drew ?_) | (with_reducible refine below_drewN ?_ _) | (with_reducible refine Below.setCell ?_ ?_ _) | (with_reducible refine Below.trans ?_ (Below.mono (by assumption) ?_)) | go_size | (exact Below.size (by assumption)))⟩
theorem conCmd1 (l : List (Int × Int × Bool)) (A : Option Addr) (B c : Nat)  (w : World) (hr : Rd w B A (l.flatMap eCommand)) (hB : B ≤ w.heap.size) (hn : l.length ≤ 1048576)  :
   Calls Tryd.prog 57 #[.slice A l.length c, .func (Fn.func 58) #[] #[]] w fun e w' => e = .returned (.bool (l.any (fun t => !cmdB t.1 t.2.1))) ∧ Below w.heap.size w w' := by
  go_enter Tryd.func57, Tryd.ntmps57
  go_wp2_with (go_at_call 64; refine (idxCmd1 l A B c  w hr hB hn ).mono ?_; rintro e w1 ⟨rfl, hb⟩)
  go_ret
  exact ⟨ret_bool (idxB_any _ _), by repeat' (first | (with_reducible exact Below.refl _ _) | (with_reducible assumption) | (with_reducible refine Below.alloc ?_ ?_ _) | (with_reducible refine Below.drew ?_) | (with_reducible refine below_drewN ?_ _) | (with_reducible refine Below.setCell ?_ ?_ _) | (with_reducible refine Below.trans ?_ (Below.mono (by assumption) ?_)) | go_size | (exact Below.size (by assumption)))⟩
end Go.Proofs.YtakchdkoildkbaaDoor
