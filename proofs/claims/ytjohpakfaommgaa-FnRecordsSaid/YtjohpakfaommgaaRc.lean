/- RecoverJournal of the program and of the reference: walks. -/
import Derived.Test.YtjohpakfaommgaaDcr
import Derived.Test.YtjohpakfaommgaaJr
import Derived.Test.YtjohpakfaommgaaB
namespace Go.Proofs.Ytjohpakfaommgaa
open Go.ChangeShapes Go.WideShapes Go.ChangeAt Go.RowKit
set_option maxRecDepth 20000
set_option linter.unusedVariables false
set_option linter.unusedSimpArgs false
def chunk (l : List Int) (i : Nat) : List Int := (l.drop (14 * i)).take 14
def goodR (l : List Int) (i : Nat) : Bool := decOk (chunk l i) && (dN (chunk l i) == (i : Int))
def recAt (l : List Int) (i : Nat) : Rec3 := (dT (chunk l i), dK (chunk l i), dV (chunk l i))
def recN (l : List Int) : Nat := ((List.range (l.length / 14)).takeWhile (goodR l)).length
def recUp (l : List Int) (k : Nat) : List Rec3 := (List.range k).map (recAt l)
theorem recUp_length (l : List Int) (k : Nat) : (recUp l k).length = k := by simp [recUp]
theorem recUp_step (l : List Int) (k : Nat) : recUp l (k + 1) = recUp l k ++ [recAt l k] := by simp [recUp, List.range_succ]
theorem recN_eq {l : List Int} {k : Nat} (hg : ∀ i, i < k → goodR l i = true) (hk : k ≤ l.length / 14) (hs : k = l.length / 14 ∨ goodR l k = false) : recN l = k := by
  unfold recN
  obtain ⟨d, hd⟩ : ∃ d, l.length / 14 = k + d := ⟨l.length / 14 - k, by omega⟩
  rw [hd, List.range_add, List.takeWhile_append_of_pos (by intro a ha; exact hg a (by simpa using ha))]
  have : (List.map (fun x => k + x) (List.range d)).takeWhile (goodR l) = [] := by
    cases d with
    | zero => simp
    | succ d =>
      rw [List.range_succ_eq_map, List.map_cons, List.takeWhile_cons]
      rcases hs with h | h
      · omega
      · simp [h]
  rw [this]
  simp
theorem recN_le (l : List Int) : recN l ≤ l.length / 14 := by
  unfold recN
  have := (List.takeWhile_sublist (p := goodR l) (l := List.range (l.length / 14))).length_le
  simpa using this
theorem chunk_length {l : List Int} {i : Nat} (h : 14 * i + 14 ≤ l.length) : (chunk l i).length = 14 := by rw [chunk, List.length_take, List.length_drop]; omega
theorem chunk_bytes {l : List Int} (h : isBytes l) (i : Nat) : isBytes (chunk l i) := isBytes_take (isBytes_drop h _) 14
theorem eRec_one : ∀ t, ∀ u ∈ eEventRecord t, u.oneCell' = true := by intro t u hu; simp [eEventRecord] at hu; rcases hu with rfl | rfl | rfl <;> rfl
theorem rd_new3 (w : World) (x y z : Int) (e : TypeId) : Rd (w.alloc (.cells #[.int .i64 x, .int .i64 y, .int .i64 z] e)) (w.heap.size + 1) (some ⟨w.heap.size, 0, none⟩) (eEventRecord (x, y, z)) := fun _ => by
  refine ⟨w.heap.size, 0, rfl, by omega, fun j u hu => ?_⟩
  have hh := heap_alloc_new w (.cells #[.int .i64 x, .int .i64 y, .int .i64 z] e)
  simp only [World.cell?, Nat.zero_add]
  rw [hh]
  simpa [eEventRecord] using hu
theorem wpList_append_rec {w : World} {ops : Array Oper} {rest : List Oper} {o : Oper} {a : Act} {Q : Exit → Act → World → Prop} (hgd : o.guard = none) (s x : Operand)
    (ho : o.op = .call { callee := .builtin .append, args := #[s, x], argTypes := #[44, 44] })
    (base : Nat) (v : Value) (n : Nat) (l : List Rec3) (hs : a.eval s = v) (hown : w.ownsRow base 35 3 v n (l.flatMap eEventRecord)) (p q r : Int) (hx : a.eval x = .slice (some ⟨w.heap.size, 0, none⟩) 1 1)
    (hn : n ≤ 1048576) (hbase : base ≤ w.heap.size)
    (h : ∀ v' w', w'.ownsRow base 35 3 v' (n + 1) ((l ++ [(p, q, r)]).flatMap eEventRecord) → Below base w w' → w.heap.size < w'.heap.size → wpList Try.prog ops Q rest (a.put o.dst v') w') :
    wpList Try.prog ops Q (o :: rest) a (w.alloc (.cells #[.int .i64 p, .int .i64 q, .int .i64 r] 35)) := by
  obtain ⟨i0, hi0, hz0, hz1, hz2⟩ := info_parts infoEventRecord
  refine wpList_append_rd hgd s x 44 ho base 35 i0 _ 3 24 Try.underlying44 hi0 hz0 hz1 hz2 rfl (by decide) v n _ hs (hown.alloc _) (w.heap.size + 1) _ 1 1 (eEventRecord (p, q, r)) hx rfl (rd_new3 w p q r _) (eRec_one _) (by unfold maxLen; omega) (by omega) (by simp; omega) ?_
  intro v' w' h1 h2 h3
  refine h v' w' (by simpa using h1) (((Below.refl _ _).alloc hbase _).trans h2) (by simp at h3; omega)
theorem lengthRec_any (l : Nat) (A : Option Addr) (c : Nat) (w : World) (hn : l ≤ 1048576) : Calls Try.prog 88 #[.slice A l c] w fun e w' => e = .returned (.int .i64 (l : Int)) ∧ w = w' := by
  go_enter Try.func88, Try.ntmps88
  go_wp2
  go_ret
  exact ⟨rfl, rfl⟩
theorem decode_14 (l : List Int) (h14 : l.length = 14) (hb : isBytes l) (r : Bool) (hd : decOk l = r) (A : Option Addr) (B c : Nat) (w : World) (hr : Rd w B A (ints l)) (hB : B ≤ w.heap.size) (hlc : 14 ≤ c) :
   Calls Try.prog 61 #[.slice A 14 c] w fun e w' => e = .returned (.tuple #[.agg #[.int .i64 (dX r (dT l)), .int .i64 (dX r (dK l)), .int .i64 (dX r (dV l))], .int .i64 (dX r (dN l)), .bool r]) ∧ Below w.heap.size w w' := by
  have h := decode_r l hb r hd A B c w hr hB (by omega) (by omega)
  rw [h14] at h
  exact h
def RecP (w : World) (l : List Int) (e : Ending) (w' : World) : Prop := ∃ A' c', e = .returned (.slice A' (recN l) c') ∧ w'.ownsRow w.heap.size 35 3 (.slice A' (recN l) c') (recN l) ((recUp l (recN l)).flatMap eEventRecord) ∧ Below w.heap.size w w'
theorem recP_mk {w w' : World} {l : List Int} {k : Nat} {v : Value} (hk : recN l = k) (ho : w'.ownsRow w.heap.size 35 3 v k ((recUp l k).flatMap eEventRecord)) (hb : Below w.heap.size w w') : RecP w l (.returned v) w' := by
  subst hk
  obtain ⟨A', c', rfl⟩ := own_val ho
  exact ⟨A', c', rfl, ho, hb⟩
theorem rd_chunk {w : World} {B : Nat} {b o : Nat} {l : List Int} (h : Rd w B (some ⟨b, o, none⟩) (ints l)) (k : Nat) : Rd w B (some ⟨b, o + 14 * k, none⟩) (ints (chunk l k)) := rd_sub h (14 * k) 14
set_option maxHeartbeats 2000000 in
theorem recover_spec (l : List Int) (hbt : isBytes l) (A : Option Addr) (B c : Nat) (w : World) (hr : Rd w B A (ints l)) (hB : B ≤ w.heap.size) (hlc : l.length ≤ c) (hcm : c ≤ 9223372036854775807) (hn : l.length ≤ 2000) :
   Calls Try.prog 66 #[.slice A l.length c] w (RecP w l) := by
  have Hbt := Lib.hid hbt
  clear hbt
  go_enter Try.func66, Try.ntmps66
  go_wp2_with fail
  go_loopw [3, 4] (fun v i wr => ∃ k : Nat, 14 * k ≤ l.length ∧ i = .int .i64 ((14 * k : Nat) : Int) ∧ (∀ j, j < k → goodR l j = true) ∧ wr.ownsRow w.heap.size 35 3 v k ((recUp l k).flatMap eEventRecord) ∧ Below w.heap.size w wr) (fun _ i _ => l.length + 14 - (intOf i).toNat)
  case atStart => exact ⟨0, by omega, rfl, by simp, World.ownsRow_made w #[] 0 (Nat.le_refl _) (by simp [maxLen]) rfl, (Below.refl _ _).alloc (Nat.le_refl _) _⟩
  case round =>
    obtain ⟨k, hk, rfl, hgood, hown, hbw⟩ := hrel
    have hsz := hbw.size
    obtain ⟨Ao, co, rfl⟩ := own_val hown
    have Hg := Lib.hid hgood
    have Ho := Lib.hid hown
    clear hgood hown
    by_cases hlt : 14 * k + 14 ≤ l.length
    · obtain ⟨b, o, hA, _, _⟩ := hr (by rw [ints_length]; omega)
      subst hA
      have hr1 := Lib.hid (rd_chunk (hr.below hbw hB) k)
      have hst := recUp_step l k
      have q1 : ¬ c = 14 * k := by omega
      have q2 : 14 * k + 14 ≤ c := by omega
      have q3 : (14 * k : Nat) + 14 - 14 * k = 14 := by omega
      have qi1 : ((14 * k : Nat) : Int) + 14 ≤ (l.length : Int) := by omega
      have qi2 : ((14 * k : Nat) : Int) + 14 ≤ (c : Int) := by omega
      have H14 := Lib.hid (chunk_length (l := l) (i := k) hlt)
      have Hcb := Lib.hid (chunk_bytes Hbt.out k)
      have hdn : goodR l k = (decOk (chunk l k) && (dN (chunk l k) == (k : Int))) := rfl
      have hrk : recAt l k = (dT (chunk l k), dK (chunk l k), dV (chunk l k)) := rfl
      have Hst := Lib.hid hst
      have Hdn := Lib.hid hdn
      have Hrk := Lib.hid hrk
      have Hr := Lib.hid hr
      clear hr hst hdn hrk
      generalize hT : dT (chunk l k) = T at *
      generalize hK : dK (chunk l k) = K at *
      generalize hV : dV (chunk l k) = V at *
      generalize hN : dN (chunk l k) = N at *
      have Hd4 : Hid (∀ (r : Bool), decOk (chunk l k) = r → Calls Try.prog 60 #[.slice (some ⟨b, o + 14 * k, none⟩) 14 (c - 14 * k)] wr fun e w' => e = .returned (.tuple #[.agg #[.int .i64 T, .int .i64 K, .int .i64 V], .int .i64 N, .bool r]) ∧ Below wr.heap.size wr w') := by
        intro r hd
        have h := l32Decode_r (chunk l k) Hcb.out H14.out r hd (some ⟨b, o + 14 * k, none⟩) B (c - 14 * k) wr hr1.out (by omega) (by omega)
        rw [hT, hK, hV, hN] at h
        exact h
      clear hT hK hV hN
      cases hd : decOk (chunk l k) with
      | false =>
        have Hd := Lib.hid hd
        clear hd
        go_wp2_with (go_at_call 60; go_loud (refine (Hd4.out false Hd.out).mono ?_); rintro e w2 ⟨rfl, hb2⟩; have O2 := Lib.hid (own_below Ho.out hb2); have hs2 := hb2.size)
        go_ret
        exact recP_mk (recN_eq Hg.out (by omega) (.inr (by rw [Hdn.out, Hd.out]; rfl))) (O2.out.alloc _) (by repeat' (first | (with_reducible exact Below.refl _ _) | (with_reducible assumption) | (with_reducible refine Below.alloc ?_ ?_ _) | (with_reducible refine Below.drew ?_) | (with_reducible refine below_drewN ?_ _) | (with_reducible refine Below.setCell ?_ ?_ _) | (with_reducible refine Below.trans ?_ (Below.mono (by assumption) ?_)) | go_size | (exact Below.size (by assumption))))
      | true =>
        have Hd := Lib.hid hd
        clear hd
        cases hnk : (N == (k : Int)) with
        | false =>
          have hne : (N != (k : Int)) = true := by rw [bne, hnk]; rfl
          have Hnk := Lib.hid hnk
          clear hnk
          go_wp2_with (go_at_call 60; refine (Hd4.out true Hd.out).mono ?_; rintro e w2 ⟨rfl, hb2⟩; have O2 := Lib.hid (own_below Ho.out hb2); have hs2 := hb2.size)
          go_ret
          exact recP_mk (recN_eq Hg.out (by omega) (.inr (by rw [Hdn.out, Hd.out, Hnk.out]; rfl))) (O2.out.alloc _) (by repeat' (first | (with_reducible exact Below.refl _ _) | (with_reducible assumption) | (with_reducible refine Below.alloc ?_ ?_ _) | (with_reducible refine Below.drew ?_) | (with_reducible refine below_drewN ?_ _) | (with_reducible refine Below.setCell ?_ ?_ _) | (with_reducible refine Below.trans ?_ (Below.mono (by assumption) ?_)) | go_size | (exact Below.size (by assumption))))
        | true =>
          have hne : (N != (k : Int)) = false := by rw [bne, hnk]; rfl
          have Hnk := Lib.hid hnk
          have hk2 : k ≤ 1048576 := by omega
          clear hnk
          go_wp2_with (first | (go_at_call 60; refine (Hd4.out true Hd.out).mono ?_; rintro e w2 ⟨rfl, hb2⟩; have O2 := Lib.hid (own_below Ho.out hb2); have hs2 := hb2.size; have hs3 : w.heap.size ≤ (w2.alloc (.cells #[.int .i64 T, .int .i64 K, .int .i64 V] 35)).heap.size := by simp; omega) | (at_builtin; refine wpList_append_rec rfl (.tmp 35) (.tmp 37) rfl w.heap.size _ k _ rfl (O2.out.alloc _) _ _ _ (by simp [Act.eval, Act.put]) hk2 hs3 ?_; intro v5 w5 own5 hb5 hz5; have O5 := Lib.hid own5; clear own5))
          go_roundw
          case rel => exact ⟨k + 1, by omega, by go_num, fun j hj => by
            by_cases e : j = k
            · subst e; rw [Hdn.out, Hd.out, Hnk.out]; rfl
            · exact Hg.out j (by omega), by rw [Hst.out, Hrk.out]; exact O5.out, by repeat' (first | (with_reducible exact Below.refl _ _) | (with_reducible assumption) | (with_reducible refine Below.alloc ?_ ?_ _) | (with_reducible refine Below.drew ?_) | (with_reducible refine below_drewN ?_ _) | (with_reducible refine Below.setCell ?_ ?_ _) | (with_reducible refine Below.trans ?_ (Below.mono (by assumption) ?_)) | go_size | (exact Below.size (by assumption)))⟩
          case measure => simp [intOf]; omega
    · have Hr := Lib.hid hr
      clear hr
      go_wp2
      go_ret
      exact recP_mk (recN_eq Hg.out (by omega) (.inl (by omega))) Ho.out hbw
end Go.Proofs.Ytjohpakfaommgaa
