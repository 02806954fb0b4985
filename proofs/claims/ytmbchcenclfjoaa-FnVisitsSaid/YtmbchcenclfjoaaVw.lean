/- VisitDays: walks of the program and of the reference. -/
import Derived.Test.YtmbchcenclfjoaaVn
import Derived.Maps.AppendAt
namespace Go.Proofs.Ytmbchcenclfjoaa
open Go.ChangeShapes Go.WideShapes Go.ChangeAt Go.RowKit
set_option maxRecDepth 20000
set_option linter.unusedVariables false
set_option linter.unusedSimpArgs false
theorem wpList_append_int3 {P : Program} {w : World} {ops : Array Oper} {rest : List Oper} {o : Oper} {a : Act} {Q : Exit → Act → World → Prop} (hgd : o.guard = none) (s x : Operand) (t : TypeId)
    (ho : o.op = .call { callee := .builtin .append, args := #[s, x], argTypes := #[t, t] })
    (base : Nat) (e : TypeId) (i : TypeInfo) (ht : P.underlying t = some (.slice e)) (hi : P.info? e = some i) (hz : i.zero = some (.int .i64 0)) (hsize : i.size = 1) (hby : i.bytes = 8)
    (v : Value) (n : Nat) (l : List Int) (hs : a.eval s = v) (hown : w.ownsRow base e 1 v n (ints l)) (z : Int) (hx : a.eval x = .slice (some ⟨w.heap.size, 0, none⟩) 1 1)
    (hn : n ≤ 100000000) (hbase : base ≤ w.heap.size)
    (h : ∀ v' w', w'.ownsRow base e 1 v' (n + 1) (ints (l ++ [z])) → Below base w w' → w.heap.size < w'.heap.size → (∀ b, b < w.heap.size → v.ownBlock ≠ some b → w'.heap[b]? = w.heap[b]? ∧ v'.ownBlock ≠ some b) → wpList P ops Q rest (a.put o.dst v') w') : wpList P ops Q (o :: rest) a (w.alloc (.cells #[.int .i64 z] e)) :=
  wpList_append_own_at _ hgd s x t ho base e i (.int .i64 0) 1 8 ht hi hz hsize hby rfl (by decide) v n (ints l) hs (hown.alloc _) ⟨w.heap.size, 0, none⟩ 1 1 [.int .i64 z] hx rfl (one_new _ _ _) (by simp [Value.oneCell']) (by unfold maxLen; omega) (by omega) (by simp; omega)
    (fun v' w' h1 h2 _ h4 => h v' w' (by simpa [ints] using h1) (((Below.refl _ _).alloc hbase _).trans ((Below.refl base _).grown h2 (by simp; omega) (fun k hk => (hown.lt k hk).1))) (by have := h2.size; simp at this; omega)
      (fun b hb hne => ⟨(h2.block b (by simp; omega) (fun e => hne e.symm)).trans (Below.heap_alloc w _ b hb), by
        rcases h4 with h4 | h4
        · rw [h4]; exact hne
        · rw [h4]; intro e; injection e with e; simp at e; omega⟩))
theorem allD_step {l : List (Int × Int)} {k : Nat} {t : Int × Int} (last : Int) (h : l[k]? = some t) : allD (l.take (k + 1)) last = allD (l.take k) last ++ seqT t (cntT t last) := by
  have hl : k < l.length := (List.getElem?_eq_some_iff.1 h).1
  have : l[k] = t := by rw [List.getElem?_eq_getElem hl] at h; exact Option.some.inj h
  rw [List.take_succ_eq_append_getElem hl, allD, List.flatMap_append, this]
  simp [allD]
theorem seqT_step (t : Int × Int) (j : Nat) : seqT t (j + 1) = seqT t j ++ [t.2 + ((j : Int) + 1) * t.1] := by simp [seqT, List.range_succ]
theorem seqT_length (t : Int × Int) (j : Nat) : (seqT t j).length = j := by simp [seqT]
theorem allD_len {last : Int} (h3 : last ≤ 100000) : ∀ (l : List (Int × Int)), (∀ t ∈ l, 1 ≤ t.1 ∧ 0 ≤ t.2) → (allD l last).length ≤ l.length * 100000
  | [], _ => by simp [allD]
  | a :: l, h => by
    have h1 := h a (by simp)
    have h2 := cnt_bd h1.1 h1.2 last h3
    have h4 := allD_len h3 l (fun t ht => h t (by simp [ht]))
    have e : allD (a :: l) last = seqT a (cntT a last) ++ allD l last := by simp [allD]
    rw [e, List.length_append, seqT_length, List.length_cons]
    omega
def visC (l : List (Int × Int)) (day : Int) : Int := if planCode l day = 0 then (if (visL l day).length ≤ 200 then 0 else 3) else planCode l day
def visR (l : List (Int × Int)) (day : Int) : List Int := if visC l day = 0 then visL l day else []
theorem visR_len (l : List (Int × Int)) (day : Int) : (visR l day).length ≤ 1048576 := by
  unfold visR
  split
  · rename_i h
    unfold visC at h
    split at h
    · split at h
      · omega
      · omega
    · contradiction
  · simp
theorem planCode_ok {l : List (Int × Int)} {day : Int} (h : planCode l day = 0) : planB l = true ∧ 0 ≤ day ∧ day ≤ 100000 := by
  unfold planCode at h
  split at h
  · rename_i hp
    split at h
    · rename_i hd
      simp only [inB, Bool.and_eq_true, decide_eq_true_eq] at hd
      exact ⟨hp, hd.1, hd.2⟩
    · omega
  · omega
theorem vis_cases (l : List (Int × Int)) (day : Int) : (planCode l day ≠ 0 ∧ visC l day = planCode l day ∧ visR l day = []) ∨ (planCode l day = 0 ∧ planB l = true ∧ 0 ≤ day ∧ day ≤ 100000 ∧ (visL l day).length ≤ 200 ∧ visC l day = 0 ∧ visR l day = visL l day) ∨ (planCode l day = 0 ∧ planB l = true ∧ 0 ≤ day ∧ day ≤ 100000 ∧ 200 < (visL l day).length ∧ visC l day = 3 ∧ visR l day = []) := by
  by_cases h : planCode l day = 0
  · obtain ⟨a, b, c⟩ := planCode_ok h
    right
    by_cases h2 : (visL l day).length ≤ 200
    · left
      have e : visC l day = 0 := by rw [visC, if_pos h, if_pos h2]
      exact ⟨h, a, b, c, h2, e, by rw [visR, if_pos e]⟩
    · right
      have e : visC l day = 3 := by rw [visC, if_pos h, if_neg h2]
      exact ⟨h, a, b, c, by omega, e, by rw [visR, if_neg (by omega)]⟩
  · left
    have e : visC l day = planCode l day := by rw [visC, if_neg h]
    exact ⟨h, e, by rw [visR, if_neg (by omega)]⟩
theorem plan_all {l : List (Int × Int)} (hp : planB l = true) : ∀ t ∈ l, 1 ≤ t.1 ∧ 0 ≤ t.2 := fun t ht => by
  obtain ⟨i, hi, rfl⟩ := List.getElem_of_mem ht
  have := plan_at hp (List.getElem?_eq_getElem hi)
  omega
/-- what the loop of the reference returns -/
def VisP (w : World) (V : List Int) (e : Ending) (w' : World) : Prop :=
  (V.length ≤ 200 → ∃ A' c', e = .returned (.tuple #[.slice A' V.length c', .int .i64 0]) ∧ w'.ownsRow w.heap.size 2 1 (.slice A' V.length c') V.length (ints V) ∧ Below w.heap.size w w') ∧ (200 < V.length → e = .returned (.tuple #[.slice none 0 0, .int .i64 3]) ∧ Below w.heap.size w w')
theorem visP_end {l : List (Int × Int)} {day : Int} {w w' : World} {e : Ending} (h0 : planCode l day = 0) (h : VisP w (visL l day) e w') : ∃ A' c', e = .returned (.tuple #[.slice A' (visR l day).length c', .int .i64 (visC l day)]) ∧ w'.ownsRow w.heap.size 2 1 (.slice A' (visR l day).length c') (visR l day).length (ints (visR l day)) ∧ Below w.heap.size w w' := by
  rcases vis_cases l day with ⟨h1, _⟩ | ⟨_, _, _, _, hl, e1, e2⟩ | ⟨_, _, _, _, hl, e1, e2⟩
  · exact absurd h0 h1
  · rw [e1, e2]; exact h.1 hl
  · rw [e1, e2]
    obtain ⟨a, b⟩ := h.2 hl
    exact ⟨none, 0, a, World.ownsRow_nil _ _ _ _, b⟩
set_option maxHeartbeats 1000000 in
theorem visit_spec0 (l : List (Int × Int)) (day : Int) (h0 : planCode l day = 0) (A : Option Addr) (B c : Nat) (w : World) (hr : Rd w B A (l.flatMap eTask)) (hB : B ≤ w.heap.size) (hn : l.length ≤ 1048576) :
   Calls Try.prog 54 #[.slice A l.length c, .int .i64 day] w (VisP w (visL l day)) := by
  obtain ⟨i0, hi0, hz0, hz1, hz2⟩ := info_parts infoInt64
  obtain ⟨hp, hd0, hd1⟩ := planCode_ok h0
  have hst := Lib.hid (fun (k : Nat) (hk : k ≤ (visL l day).length) => next_step (plan_all hp) hd1 hk)
  have hsV := Lib.hid (visL_sorted l day)
  have hmV := Lib.hid (fun d => visL_mem (fun t ht => (plan_all hp t ht).1) day d)
  have hbd := Lib.hid (fun d h => nextL_bd (plan_all hp) d h)
  have HN := Lib.hid (fun (d : Int) (h1 : -1 ≤ d) (h2 : d ≤ 200000) (w' : World) (hr' : Rd w' B A (l.flatMap eTask)) (hB' : B ≤ w'.heap.size) => l29Next_any l d hp h1 h2 A B c w' hr' hB')
  have hpv : ∀ k, k ≤ (visL l day).length → -1 ≤ prevV (visL l day) k ∧ prevV (visL l day) k ≤ 200000 := by
    intro k hk
    unfold prevV
    split
    · omega
    · have hk1 := List.getElem?_eq_getElem (show k - 1 < (visL l day).length by omega)
      rw [List.getD_eq_getElem?_getD, hk1]
      simp only [Option.getD_some]
      obtain ⟨⟨t, ht, j, e⟩, h2⟩ := (hmV.out _).1 (List.getElem_mem (show k - 1 < (visL l day).length by omega))
      have h1 := plan_all hp t ht
      have hm : (0 : Int) ≤ ((j : Int) + 1) * t.1 := Int.mul_nonneg (by omega) (by omega)
      omega
  have Hpv := Lib.hid hpv
  have Hr := Lib.hid hr
  have HC := Lib.hid (h0 ▸ l29Code_any l day A B c w hr hB hn)
  have Hr0 := Lib.hid hr
  have Hgt := Lib.hid (fun (d : Int) (h : d ≤ day) => nextF_gt d l (fun t ht => (plan_all hp t ht).1) 200000 d (by omega) (Int.le_refl _))
  clear hpv h0 hr hmV
  generalize visL l day = V at *
  go_enter Try.func54, Try.ntmps54
  go_wp2_with fail
  refine HC.out.mono ?_; rintro e w1 ⟨rfl, hb⟩
  have hz := hb.size
  have R1 := Lib.hid (Hr.out.below hb hB)
  have Hb := Lib.hid hb
  clear hb HC Hr
  go_wp2_with fail
  refine (HN.out (-1) (by omega) (by omega) _ (R1.out.alloc (by omega) _) (by simp; omega)).mono ?_; rintro e w2 ⟨rfl, hb2⟩
  have hz2' := hb2.size
  simp only [World.size_alloc] at hz2'
  have R2 := Lib.hid ((R1.out.alloc (by omega) _).below hb2 (by simp; omega))
  have o2 := Lib.hid (own_more (own_below (World.ownsRow_made (base := w1.heap.size) (e := 2) (size := 1) w1 #[] 0 (Nat.le_refl _) (by simp [maxLen]) rfl) hb2) hz)
  have B2 := Lib.hid (show Below w.heap.size w w2 by have hb := Hb.out; repeat' (first | (with_reducible exact Below.refl _ _) | (with_reducible assumption) | (with_reducible refine Below.alloc ?_ ?_ _) | (with_reducible refine Below.drew ?_) | (with_reducible refine below_drewN ?_ _) | (with_reducible refine Below.setCell ?_ ?_ _) | (with_reducible refine Below.trans ?_ (Below.mono (by assumption) ?_)) | go_size | (exact Below.size (by assumption))))
  clear hb2 R1 Hb
  go_wp2_with fail
  go_loopw [7, 8] (fun v d wr => ∃ k : Nat, k ≤ V.length ∧ k ≤ 200 ∧ d = .int .i64 (nextL l (prevV V k)) ∧ wr.ownsRow w.heap.size 2 1 v k (ints (V.take k)) ∧ Below w.heap.size w wr) (fun _ d _ => (day + 1 - intOf d).toNat)
  case atStart => exact ⟨0, Nat.zero_le _, by omega, rfl, o2.out, B2.out⟩
  case round =>
    obtain ⟨k, hk, hk2, rfl, hown, hbw⟩ := hrel
    have Hown := Lib.hid hown
    have Hbw := Lib.hid hbw
    have hzr := hbw.size
    obtain ⟨s1, s2⟩ := hst.out k hk
    have hnb := (hbd.out (prevV V k) (Hpv.out k hk).1)
    have Rr := Lib.hid (Hr0.out.below hbw hB)
    clear hown
    by_cases hlt : k < V.length
    · have hle := s1.2 hlt
      have hat := s2 hlt
      have hpk : prevV V (k + 1) = nextL l (prevV V k) := by
        rw [prevV, if_neg (by omega), Nat.add_sub_cancel, List.getD_eq_getElem?_getD, hat]
        rfl
      have hmore := Lib.hid (hst.out (k + 1) (by omega))
      rw [hpk] at hmore
      have htk : V.take (k + 1) = V.take k ++ [nextL l (prevV V k)] := by
        obtain ⟨q1, q2⟩ := List.getElem?_eq_some_iff.1 hat
        rw [List.take_succ_eq_append_getElem hlt, q2]
      have Htk := Lib.hid htk
      have Hpk := Lib.hid hpk
      clear hat hpk htk s1 s2 hbw
      generalize nextL l (prevV V k) = d at *
      by_cases h200 : k = 200
      · have hkb : (k == 200) = true := by simp [h200]
        have hL : (visL l day).length = (visL l day).length := rfl
        obtain ⟨A5, c5, rfl⟩ := own_val Hown.out
        subst h200
        go_wp2
        go_ret2
        exact ⟨fun hV => absurd hV (by omega), fun _ => ⟨rfl, Hbw.out⟩⟩
      · have hkb : (k == 200) = false := by rw [beq_eq_false_iff_ne]; exact h200
        have hki : ¬ (k : Int) = 200 := by omega
        have hgt := Hgt.out d hle
        obtain ⟨A5, c5, rfl⟩ := own_val Hown.out
        go_wp2_with (at_builtin; refine wpList_append_int rfl (.tmp 27) (.tmp 29) 42 rfl w.heap.size 2 i0 Try.underlying42 hi0 hz0 hz1 hz2 _ _ (V.take k) rfl Hown.out d rfl (by omega) hzr ?_; intro v1 w3 own1 hb1 hz3; have O1 := Lib.hid own1; clear own1)
        refine (HN.out d hnb.1 hnb.2 w3 (Hr0.out.below (Hbw.out.trans hb1) hB) (by omega)).mono ?_; rintro e w4 ⟨rfl, hb4⟩
        have O4 := Lib.hid (own_below O1.out hb4)
        have B4 := Lib.hid ((Hbw.out.trans hb1).trans (hb4.mono (by omega)))
        go_wp2
        go_roundw
        case rel => exact ⟨k + 1, by omega, by omega, by rw [Hpk.out], by rw [Htk.out]; exact O4.out, B4.out⟩
        case measure => unfold nextL; simp [intOf]; omega
    · have hk' : k = V.length := by omega
      subst hk'
      have hgt : ¬ nextL l (prevV V V.length) ≤ day := fun h => hlt (s1.1 h)
      generalize nextL l (prevV V V.length) = d at *
      obtain ⟨A5, c5, rfl⟩ := own_val Hown.out
      have o5 := Hown.out
      rw [List.take_length] at o5
      have O5 := Lib.hid o5
      clear o5 s1 s2 hbw Hown
      go_wp2
      go_ret2
      exact ⟨fun _ => ⟨A5, c5, rfl, O5.out, Hbw.out⟩, fun hV => absurd hV (by omega)⟩
theorem visit_spec (l : List (Int × Int)) (day : Int) (A : Option Addr) (B c : Nat) (w : World) (hr : Rd w B A (l.flatMap eTask)) (hB : B ≤ w.heap.size) (hn : l.length ≤ 1048576) :
   Calls Try.prog 54 #[.slice A l.length c, .int .i64 day] w fun e w' => ∃ A' c', e = .returned (.tuple #[.slice A' (visR l day).length c', .int .i64 (visC l day)]) ∧ w'.ownsRow w.heap.size 2 1 (.slice A' (visR l day).length c') (visR l day).length (ints (visR l day)) ∧ Below w.heap.size w w' := by
  by_cases h0 : planCode l day = 0
  · exact (visit_spec0 l day h0 A B c w hr hB hn).mono fun e w' h => visP_end h0 h
  · rcases vis_cases l day with ⟨_, e1, e2⟩ | ⟨h1, _⟩ | ⟨h1, _⟩
    · rw [e1, e2]
      have hb0 : (planCode l day == 0) = false := by simpa using h0
      have hb1 : (planCode l day != 0) = true := by simpa using h0
      have Hc := Lib.hid h0
      clear h0 e1 e2
      go_enter Try.func54, Try.ntmps54
      go_wp2_with (first | (go_at_call 69; refine (l29Code_any l day A B c w hr hB hn).mono ?_; rintro e w1 ⟨rfl, hb⟩))
      go_ret2
      exact ⟨none, 0, rfl, World.ownsRow_nil _ _ _ _, by repeat' (first | (with_reducible exact Below.refl _ _) | (with_reducible assumption) | (with_reducible refine Below.alloc ?_ ?_ _) | (with_reducible refine Below.drew ?_) | (with_reducible refine below_drewN ?_ _) | (with_reducible refine Below.setCell ?_ ?_ _) | (with_reducible refine Below.trans ?_ (Below.mono (by assumption) ?_)) | go_size | (exact Below.size (by assumption)))⟩
    · exact absurd h1 h0
    · exact absurd h1 h0
end Go.Proofs.Ytmbchcenclfjoaa
