/- The best assignment of the program: the closure that walks through all assignments. -/
import Derived.Test.YtmeppemobogicaaBe
import Derived.Laws.EntriesVeiled
import Derived.Deep.RegionHeld3
namespace Go.Proofs.Ytmeppemobogicaa
open Go.ChangeShapes Go.WideShapes Go.ChangeAt Go.RowKit
set_option maxRecDepth 20000
set_option linter.unusedVariables false
set_option linter.unusedSimpArgs false
abbrev ptr (b : Nat) : Value := .pointer (some ⟨b, 0, none⟩)
/-- all blocks but two stay as they are -/
def KP (N : Nat) (w w' : World) : Prop := w'.os = w.os ∧ w'.tape = w.tape ∧ w'.output = w.output ∧ w.heap.size ≤ w'.heap.size ∧ ∀ b, b < w.heap.size → b ≠ N + 2 → b ≠ N + 3 → w'.heap[b]? = w.heap[b]?
theorem KP.refl (N : Nat) (w : World) : KP N w w := ⟨rfl, rfl, rfl, Nat.le_refl _, fun _ _ _ _ => rfl⟩
theorem KP.trans {N : Nat} {a b c : World} (h : KP N a b) (k : KP N b c) : KP N a c :=
  ⟨k.1.trans h.1, k.2.1.trans h.2.1, k.2.2.1.trans h.2.2.1, Nat.le_trans h.2.2.2.1 k.2.2.2.1, fun i hi h1 h2 => (k.2.2.2.2 i (Nat.lt_of_lt_of_le hi h.2.2.2.1) h1 h2).trans (h.2.2.2.2 i hi h1 h2)⟩
theorem KP.of_below {N : Nat} {w w' : World} (h : Below w.heap.size w w') : KP N w w' := ⟨h.os, h.tape, h.output, h.size, fun b hb _ _ => h.block b hb⟩
theorem KP.set2 (N : Nat) (w : World) (u : Value) : KP N w (w.setCell ⟨N + 2, 0, none⟩ u) := ⟨rfl, rfl, rfl, by simp, fun b _ h1 _ => heap_setCell_other w ⟨N + 2, 0, none⟩ b u h1⟩
theorem KP.set3 (N : Nat) (w : World) (u : Value) : KP N w (w.setCell ⟨N + 3, 0, none⟩ u) := ⟨rfl, rfl, rfl, by simp, fun b _ _ h1 => heap_setCell_other w ⟨N + 3, 0, none⟩ b u h1⟩
theorem KP.below {N : Nat} {w w' : World} (h : KP N w w') (hN : N + 5 ≤ w.heap.size) : Below (N + 2) w w' := ⟨h.1, h.2.1, h.2.2.1, h.2.2.2.1, fun k hk => h.2.2.2.2 k (by omega) (by omega) (by omega)⟩
theorem KP.cell {N : Nat} {w w' : World} (h : KP N w w') {b : Nat} (hb : b < w.heap.size) (h1 : b ≠ N + 2) (h2 : b ≠ N + 3) (o : Nat) : w'.cell? ⟨b, o, none⟩ = w.cell? ⟨b, o, none⟩ := World.cell?_of_block (a := ⟨b, o, none⟩) (h.2.2.2.2 b hb h1 h2)
theorem own_kp {N : Nat} {w w' : World} {base : Nat} {e : TypeId} {size n : Nat} {v : Value} {xs : List Value} (h : w.ownsRow base e size v n xs) (k : KP N w w') (hb : N + 5 ≤ base) : w'.ownsRow base e size v n xs := by
  have hlt := h.lt
  refine ⟨h.1, ?_⟩
  rcases h.2 with hn | ⟨g, cap, cur, rfl, hg, hgg, rest⟩
  · exact .inl hn
  · refine .inr ⟨g, cap, cur, rfl, hg, ?_, rest⟩
    have := (hlt g rfl).2
    exact (k.2.2.2.2 g this (by omega) (by omega)).trans hgg
def capB (N : Nat) : Array Value := #[ptr N, ptr (N + 1), ptr (N + 4), ptr (N + 3), ptr (N + 2)]
def funB (N : Nat) : Value := .func (Fn.func 76) #[] #[ptr N, ptr (N + 1), ptr (N + 4), ptr (N + 3), ptr (N + 2)]
/-- the five blocks of the search: the times, the crews, the best so far and its finish, the closure -/
structure InvB (N : Nat) (At : Option Addr) (ct : Nat) (T : List Int) (n m : Nat) (w : World) (st : List Int × Int) : Prop where
  c0 : w.cell? ⟨N, 0, none⟩ = some (.slice At n ct)
  c1 : w.cell? ⟨N + 1, 0, none⟩ = some (.int .i64 m)
  c4 : w.cell? ⟨N + 4, 0, none⟩ = some (.func (Fn.func 76) #[] #[ptr N, ptr (N + 1), ptr (N + 4), ptr (N + 3), ptr (N + 2)])
  c3 : w.cell? ⟨N + 3, 0, none⟩ = some (.int .i64 st.2)
  f3 : w.frozen? ⟨N + 3, 0, none⟩ = false
  f2 : w.frozen? ⟨N + 2, 0, none⟩ = false
  rd : Rd w N At (ints T)
  sz : N + 5 ≤ w.heap.size
  fst : ∃ A1 c1, w.cell? ⟨N + 2, 0, none⟩ = some (.slice A1 st.1.length c1) ∧ w.ownsRow (N + 5) 2 1 (.slice A1 st.1.length c1) st.1.length (ints st.1)
theorem InvB.below {N : Nat} {At : Option Addr} {ct : Nat} {T : List Int} {n m : Nat} {w w' : World} {st : List Int × Int} (h : InvB N At ct T n m w st) (hb : Below w.heap.size w w') : InvB N At ct T n m w' st := by
  have hs := h.sz
  have cell : ∀ b, b < w.heap.size → w'.cell? ⟨b, 0, none⟩ = w.cell? ⟨b, 0, none⟩ := fun b h => hb.cell (p := ⟨b, 0, none⟩) h
  have froz : ∀ b, b < w.heap.size → w'.frozen? ⟨b, 0, none⟩ = w.frozen? ⟨b, 0, none⟩ := fun b h => hb.frozen (p := ⟨b, 0, none⟩) h
  obtain ⟨A1, c1, h1, h2⟩ := h.fst
  exact ⟨(cell _ (by omega)).trans h.c0, (cell _ (by omega)).trans h.c1, (cell _ (by omega)).trans h.c4, (cell _ (by omega)).trans h.c3, (froz _ (by omega)).trans h.f3, (froz _ (by omega)).trans h.f2, h.rd.below hb (by omega), by have := hb.size; omega, A1, c1, (cell _ (by omega)).trans h1, own_below h2 hb⟩
/-- the best so far is set anew -/
theorem InvB.set {N : Nat} {At : Option Addr} {ct : Nat} {T : List Int} {n m : Nat} {w : World} {st : List Int × Int} (h : InvB N At ct T n m w st) {A : Option Addr} {c : Nat} {a : List Int} {f : Int} (ho : w.ownsRow (N + 5) 2 1 (.slice A a.length c) a.length (ints a)) :
    InvB N At ct T n m ((w.setCell ⟨N + 2, 0, none⟩ (.slice A a.length c)).setCell ⟨N + 3, 0, none⟩ (.int .i64 f)) (a, f) := by
  have hs := h.sz
  have k := (KP.set2 N w (.slice A a.length c)).trans (KP.set3 N _ (.int .i64 f))
  have cell : ∀ b, b < w.heap.size → b ≠ N + 2 → b ≠ N + 3 → _ := fun b hb h1 h2 => k.cell hb h1 h2 0
  obtain ⟨A1, c1, h1, h2⟩ := h.fst
  refine ⟨(cell _ (by omega) (by omega) (by omega)).trans h.c0, (cell _ (by omega) (by omega) (by omega)).trans h.c1, (cell _ (by omega) (by omega) (by omega)).trans h.c4, ?_, ?_, ?_, ?_, by simpa using hs, A, c, ?_, own_kp ho k (Nat.le_refl _)⟩
  · have h3 : (w.setCell ⟨N + 2, 0, none⟩ (.slice A a.length c)).cell? ⟨N + 3, 0, none⟩ = some (.int .i64 st.2) := by
      exact (World.cell?_setCell_other _ _ _ _ (by simp)).trans h.c3
    exact World.cell?_setCell_same _ _ _ h3
  · rw [World.frozen?_setCell, World.frozen?_setCell]; exact h.f3
  · rw [World.frozen?_setCell, World.frozen?_setCell]; exact h.f2
  · exact h.rd.keep fun b o hlt => k.cell (by omega) (by omega) (by omega) o
  · exact (World.cell?_setCell_other _ _ _ _ (by simp)).trans (World.cell?_setCell_same _ _ _ h1)

theorem rd_cell {w : World} {g : Nat} {k : Int} (h : w.cell? ⟨g, 0, none⟩ = some (.int .i64 k)) : Rd w w.heap.size (some ⟨g, 0, none⟩) (ints [k]) := fun _ => by
  refine ⟨g, 0, rfl, ?_, fun j u hu => ?_⟩
  · rcases Nat.lt_or_ge g w.heap.size with h1 | h1
    · exact h1
    · simp [World.cell?, Array.getElem?_eq_none h1] at h
  · cases j with
    | zero => simp [ints] at hu; subst hu; exact h
    | succ j => simp [ints] at hu
theorem InvB.setN {N : Nat} {At : Option Addr} {ct : Nat} {T : List Int} {n m la : Nat} {w : World} {st : List Int × Int} (h : InvB N At ct T n m w st) {A : Option Addr} {c : Nat} {a : List Int} (f : Int) (hla : a.length = la) (ho : w.ownsRow (N + 5) 2 1 (.slice A la c) la (ints a)) :
    InvB N At ct T n m ((w.setCell ⟨N + 2, 0, none⟩ (.slice A la c)).setCell ⟨N + 3, 0, none⟩ (.int .i64 f)) (a, f) := by
  subst hla
  exact h.set ho
def WkP (N : Nat) (At : Option Addr) (ct : Nat) (T : List Int) (n m : Nat) (w : World) (st : List Int × Int) (e : Ending) (w' : World) : Prop := e = .returned (.tuple #[]) ∧ InvB N At ct T n m w' st ∧ KP N w w'
def LpP (N : Nat) (At : Option Addr) (ct : Nat) (T : List Int) (n m la : Nat) (A : Option Addr) (c : Nat) (a : List Int) (w wr : World) (st : List Int × Int) : Prop := InvB N At ct T n m wr st ∧ wr.ownsRow (N + 5) 2 1 (.slice A la c) la (ints a) ∧ KP N w wr
set_option maxHeartbeats 2000000 in
theorem walk_leaf (N : Nat) (At : Option Addr) (ct : Nat) (T : List Int) (n m : Nat) (hnT : T.length = n) (hm1 : 1 ≤ m) (hm : m ≤ 3) (hn : n ≤ 6) (ht : ∀ (k : Nat) (x : Int), T[k]? = some x → 0 ≤ x ∧ x ≤ 1000000)
    (a : List Int) (ha : a.length = n) (hav : ∀ (k : Nat) (x : Int), a[k]? = some x → 0 ≤ x ∧ x < m) (st : List Int × Int) (A : Option Addr) (c : Nat) (w : World) (hI : InvB N At ct T n m w st) (ho : w.ownsRow (N + 5) 2 1 (.slice A n c) n (ints a)) :
   Calls Try.prog 76 #[.slice A n c, ptr N, ptr (N + 1), ptr (N + 4), ptr (N + 3), ptr (N + 2)] w (WkP N At ct T n m w (visitA (finP T m) st a)) := by
  have HL := Lib.hid (fun (w' : World) (B : Nat) (h1 : Rd w' B At (ints T)) (h2 : Rd w' B A (ints a)) (h3 : B ≤ w'.heap.size) => loadsOf_n T a n m hnT ha hm hn ht hav At A B ct c w' h1 h2 h3)
  have hfin : mostL (ldsUp T a m n) = finP T m a := by rw [finP, ha]
  have HM := Lib.hid (fun (A : Option Addr) (B c : Nat) (w' : World) (h1 : Rd w' B A (ints (ldsUp T a m n))) (h2 : B ≤ w'.heap.size) => hfin ▸ max_n (ldsUp T a m n) m (ldsUp_length _ _ _ _) hm1 (fun k x h => (ldsUp_bd ht n k x h).1) A B c w' h1 h2 (by omega))
  have hv : visitA (finP T m) st a = if st.2 < 0 ∨ finP T m a < st.2 then (a, finP T m a) else st := rfl
  have HV := Lib.hid hv
  have Ha := Lib.hid ha
  generalize visitA (finP T m) st a = st2 at *
  generalize finP T m a = f at *
  have HI := Lib.hid hI
  have Ho := Lib.hid ho
  have hrd := Lib.hid (hI.rd.more (show N ≤ w.heap.size by have := hI.sz; omega))
  have hra := Lib.hid (Rd.of_own ho)
  obtain ⟨c0, c1, _, c3, f3, f2, _, hsz, A1, k1, c2, _⟩ := hI
  clear hnT ht hav ha hfin ho hv
  go_enter Try.func76, Try.ntmps76
  go_wp2_with fail
  refine (HL.out w w.heap.size hrd.out hra.out (Nat.le_refl _)).mono ?_; rintro e w1 ⟨A2, c2', rfl, o1, b1⟩
  have z1 := b1.size
  have R1 := Lib.hid (Rd.of_own o1)
  clear o1
  go_wp2_with fail
  refine (HM.out A2 _ c2' w1 R1.out (Nat.le_refl _)).mono ?_; rintro e w2 ⟨rfl, b2⟩
  have hb : Below w.heap.size w w2 := b1.trans (b2.mono z1)
  have hI2 := HI.out.below hb
  have ho2 := own_below Ho.out hb
  have hk2 := KP.of_below (N := N) hb
  have HI2 := Lib.hid hI2
  have Ho2 := Lib.hid ho2
  have HK2 := Lib.hid hk2
  obtain ⟨d0, d1, _, d3, g3, g2, _, hsz2, A3, k3, d2, _⟩ := hI2
  clear b1 b2 hb ho2 hk2 c0 c1 c2 c3 f3 f2 HI Ho hrd hra R1 HL HM d0 d1
  have hs2 := HV.out
  clear HV
  by_cases h1 : st.2 < 0
  · rw [if_pos (.inl h1)] at hs2
    have Hs2 := Lib.hid hs2
    clear hs2
    go_wp2
    go_end0
    exact ⟨rfl, by rw [Hs2.out]; exact HI2.out.setN f Ha.out Ho2.out, HK2.out.trans ((KP.set2 N w2 _).trans (KP.set3 N _ _))⟩
  · by_cases h2 : f < st.2
    · rw [if_pos (.inr h2)] at hs2
      have Hs2 := Lib.hid hs2
      clear hs2
      go_wp2
      go_end0
      exact ⟨rfl, by rw [Hs2.out]; exact HI2.out.setN f Ha.out Ho2.out, HK2.out.trans ((KP.set2 N w2 _).trans (KP.set3 N _ _))⟩
    · rw [if_neg (fun h => h.elim h1 h2)] at hs2
      have q1 : decide (st.2 < 0) = false := by simpa using h1
      have q2 : decide (f < st.2) = false := by simpa using h2
      have Hs2 := Lib.hid hs2
      clear hs2
      go_wp2
      go_end0
      exact ⟨rfl, by rw [Hs2.out]; exact HI2.out, HK2.out⟩
set_option maxHeartbeats 2000000 in
theorem walk_any (N : Nat) (At : Option Addr) (ct : Nat) (T : List Int) (n m : Nat) (hnT : T.length = n) (hm1 : 1 ≤ m) (hm : m ≤ 3) (hn : n ≤ 6) (ht : ∀ (k : Nat) (x : Int), T[k]? = some x → 0 ≤ x ∧ x ≤ 1000000) :
   ∀ (d : Nat) (a : List Int) (la : Nat) (hla : a.length = la) (hd : la + d = n) (hav : ∀ (k : Nat) (x : Int), a[k]? = some x → 0 ≤ x ∧ x < m) (st : List Int × Int) (A : Option Addr) (c : Nat) (w : World) (hI : InvB N At ct T n m w st) (ho : w.ownsRow (N + 5) 2 1 (.slice A la c) la (ints a)),
   Calls Try.prog 76 #[.slice A la c, ptr N, ptr (N + 1), ptr (N + 4), ptr (N + 3), ptr (N + 2)] w (WkP N At ct T n m w (walkA (finP T m) m d a st)) := by
  intro d
  induction d with
  | zero =>
    intro a la hla hd hav st A c w hI ho
    obtain rfl : la = n := by omega
    rw [walkA_zero]
    exact walk_leaf N At ct T la m hnT hm1 hm hn ht a hla hav st A c w hI ho
  | succ d ih =>
    intro a la hla hd hav st A c w hI ho
    obtain ⟨i0, hi0, hz0, hz1, hz2⟩ := info_parts infoInt64
    have IH := Lib.hid ih
    have Hla := Lib.hid hla
    have Hav := Lib.hid hav
    have hlt : la < n := by omega
    have hlti : (la : Int) < (n : Int) := by omega
    rw [← walkUp_all]
    have HL0 : LpP N At ct T n m la A c a w w (walkUp (finP T m) m d a 0 st) := ⟨by rw [walkUp_zero]; exact hI, ho, KP.refl N w⟩
    have HL := Lib.hid HL0
    have hcl := Lib.hid (fun (w' : World) (B : Nat) (h : Rd w' B A (ints a)) (hb : B ≤ w'.heap.size) => cloneInt_any a la hla A B c w' h hb (by omega))
    obtain ⟨c0, c1, c4, _, _, _, _, hsz, _⟩ := hI
    clear ih hla hav ho HL0 c4
    go_enter Try.func76, Try.ntmps76
    go_wp2_with fail
    go_loopw [15] (fun i wr => ∃ k : Nat, k ≤ m ∧ i = .int .i64 k ∧ LpP N At ct T n m la A c a w wr (walkUp (finP T m) m d a k st)) (fun i _ => m - (intOf i).toNat)
    case atStart => exact ⟨0, Nat.zero_le _, rfl, HL.out⟩
    case round =>
      clear HL c0 c1
      obtain ⟨k, hk, rfl, hlp⟩ := hrel
      by_cases hlt2 : k < m
      · have hki : (k : Int) < (m : Int) := by omega
        have hst := walkUp_step (finP T m) m d a k st
        generalize walkUp (finP T m) m d a k st = sk at *
        obtain ⟨hI, ho, hK⟩ := hlp
        have HI := Lib.hid hI
        have Ho := Lib.hid ho
        have HK := Lib.hid hK
        have Hst := Lib.hid hst
        have hra := Lib.hid (Rd.of_own ho)
        have hav2 : ∀ (j : Nat) (x : Int), (a ++ [(k : Int)])[j]? = some x → 0 ≤ x ∧ x < m := by
          intro j x hj
          rcases Nat.lt_or_ge j a.length with h | h
          · rw [List.getElem?_append_left h] at hj; exact Hav.out j x hj
          · rw [List.getElem?_append_right h] at hj
            obtain ⟨_, rfl⟩ | h2 : j - a.length = 0 ∧ (k : Int) = x ∨ False := by
              cases e : j - a.length with
              | zero => rw [e] at hj; injection hj with hj; exact .inl ⟨rfl, hj⟩
              | succ q => rw [e] at hj; cases hj
            · omega
            · cases h2
        have HR := Lib.hid (fun (A' : Option Addr) (c' : Nat) (w' : World) (h1 : InvB N At ct T n m w' sk) (h2 : w'.ownsRow (N + 5) 2 1 (.slice A' (la + 1) c') (la + 1) (ints (a ++ [(k : Int)]))) => IH.out (a ++ [(k : Int)]) (la + 1) (by rw [List.length_append, Hla.out]; rfl) (by omega) hav2 sk A' c' w' h1 h2)
        obtain ⟨d0, d1, d4, _, _, _, _, hsz2, _⟩ := hI
        have hla6 : la ≤ 1048576 := by omega
        have hy2 : N + 4 < wr.heap.size := by omega
        clear ho hK hst hav2 d0 d1
        go_wp2_with fail
        go_region_held3 (fun w' => w'.cell? ⟨N + 4, 0, none⟩ = some (.func (Fn.func 76) #[] #[ptr N, ptr (N + 1), ptr (N + 4), ptr (N + 3), ptr (N + 2)])) (simp [*, World.cell?_alloc_past])
          ((first | (go_at_call 77; refine (hcl.out _ _ (by first | exact hra.out | exact hra.out.alloc (Nat.le_refl _) _) (by first | omega | go_size | (simp; omega))).mono ?_; rintro e w3 ⟨A3, c3, rfl, o3, b3⟩; have b4 : Below wr.heap.size wr w3 := (by first | exact b3 | exact Below.trans (Below.drew (Below.refl _ _)) b3 | exact Below.trans ((Below.refl _ _).alloc (Nat.le_refl _) _) (b3.mono (by simp)) | exact Below.trans (Below.drew ((Below.refl _ _).alloc (Nat.le_refl _) _)) (b3.mono (by simp))); have z3 := b4.size; have O3 := Lib.hid (own_more o3 (show wr.heap.size ≤ _ by first | omega | go_size | (simp; omega))); clear o3; have hc3 : w3.cell? ⟨N + 4, 0, none⟩ = _ := (b4.cell (p := ⟨N + 4, 0, none⟩) (by simp; omega)).trans d4; have hy3 : N + 4 < w3.heap.size := (by omega); (first | (have hx3 : w3.cell? ⟨wr.heap.size, 0, none⟩ = some (.int .i64 (k : Int)) := (b3.cell (p := ⟨wr.heap.size, 0, none⟩) (by first | (simp; done) | (simp; omega))).trans (by simp); have hx4 := Lib.hid (rd_cell hx3); clear hx3) | skip)) | (refine step_append_int (w := w3) rfl (.tmp 20) (.tmp 22) 29 (by rfl) wr.heap.size 2 i0 Try.underlying29 hi0 hz0 hz1 hz2 _ la a (by rfl) O3.out (k : Int) w3.heap.size rfl (by rfl) hla6 (by omega) ?_; intro v4 w4 own4 hb4 hz4; obtain ⟨A4, c4, rfl⟩ := own_val own4; have own5 : w4.ownsRow wr.heap.size 2 1 (.slice A4 (la + 1) c4) (la + 1) (ints (a ++ [(k : Int)])) := (by simpa [ints] using own4); have O4 := Lib.hid (own_more own5 (show N + 5 ≤ wr.heap.size by omega)); clear own4 own5; have hb5 : Below wr.heap.size wr w4 := (by first | exact b4.trans hb4 | exact b4.trans (Below.trans (Below.drew (Below.refl _ _)) hb4)); have I4 := Lib.hid (HI.out.below hb5); have K4 := Lib.hid (KP.of_below (N := N) hb5); have A4o := Lib.hid (own_below Ho.out hb5); have hc4 : w4.cell? ⟨N + 4, 0, none⟩ = _ := (hb5.cell (p := ⟨N + 4, 0, none⟩) (by simp; omega)).trans d4; have hy4 : N + 4 < w4.heap.size := (by have := hb5.size; omega)) | (refine step_append_rd rfl (.tmp 20) (.tmp 22) 29 (by rfl) wr.heap.size 2 i0 _ 1 8 Try.underlying29 hi0 hz0 hz1 hz2 rfl (by decide) _ la (ints a) (by rfl) (by exact O3.out) w3.heap.size (some ⟨wr.heap.size, 0, none⟩) 1 1 (ints [(k : Int)]) (by rfl) rfl (by exact hx4.out) (ints_one _) (by unfold maxLen; omega) (by omega) (by first | omega | go_size) ?_; intro v4 w4 own4 hb4 hz4; obtain ⟨A4, c4, rfl⟩ := own_val own4; have own5 : w4.ownsRow wr.heap.size 2 1 (.slice A4 (la + 1) c4) (la + 1) (ints (a ++ [(k : Int)])) := (by simpa [ints] using own4); have O4 := Lib.hid (own_more own5 (show N + 5 ≤ wr.heap.size by omega)); clear own4 own5; have hb5 : Below wr.heap.size wr w4 := (by first | exact b4.trans hb4 | exact b4.trans (Below.trans (Below.drew (Below.refl _ _)) hb4)); have I4 := Lib.hid (HI.out.below hb5); have K4 := Lib.hid (KP.of_below (N := N) hb5); have A4o := Lib.hid (own_below Ho.out hb5); have hc4 : w4.cell? ⟨N + 4, 0, none⟩ = _ := (hb5.cell (p := ⟨N + 4, 0, none⟩) (by simp; omega)).trans d4; have hy4 : N + 4 < w4.heap.size := (by have := hb5.size; omega)) | (go_at_call 76; refine (HR.out A4 c4 _ (by exact I4.out) (by exact O4.out)).mono ?_; rintro e w5 ⟨rfl, i5, k5⟩; have hc5 := i5.c4; have I5 := Lib.hid i5; have K5 := Lib.hid k5; clear i5 k5)))
        all_goals go_wp2
        all_goals go_roundw
        all_goals first | exact ⟨k + 1, by omega, by go_num, by rw [Hst.out]; exact ⟨I5.out, own_kp A4o.out K5.out (Nat.le_refl _), HK.out.trans (K4.out.trans K5.out)⟩⟩ | (simp [intOf]; omega)
      · have hk' : k = m := by omega
        subst hk'
        have HLP := Lib.hid hlp
        clear hlp
        go_wp2
        go_end0
        exact ⟨rfl, HLP.out.1, HLP.out.2.2⟩
end Go.Proofs.Ytmeppemobogicaa
