/- The source of draws: a pointer to a struct of bytes, a place in them and a seed. -/
import Derived.Test.YtooifamckccadaaRows
import Derived.Test.YtooifamckccadaaRd
import Derived.RegionTactic
import Derived.Deep.QuietTactic
import Derived.BigQuiet
import Derived.Laws.Rows
namespace Go.Proofs.Ytooifamckccadaa
open Go.ChangeShapes Go.WideShapes Go.ChangeAt Go.RowKit
set_option maxRecDepth 20000
set_option linter.unusedVariables false
set_option linter.unusedSimpArgs false
def bytesU (bl : List Int) : List Value := bl.map (Value.int .u8)
def isU8 (bl : List Int) : Prop := ∀ (k : Nat) (x : Int), bl[k]? = some x → 0 ≤ x ∧ x ≤ 255
theorem Rd.byte {w : World} {B : Nat} {A : Option Addr} {l : List Int} (h : Rd w B A (bytesU l)) {k : Nat} {x : Int} (hk : l[k]? = some x) : ∃ b o, A = some ⟨b, o, none⟩ ∧ b < B ∧ w.cell? ⟨b, o + k, none⟩ = some (.int .u8 x) := by
  have hl : k < l.length := (List.getElem?_eq_some_iff.1 hk).1
  obtain ⟨b, o, e, hb, hc⟩ := h (by simp [bytesU]; omega)
  exact ⟨b, o, e, hb, hc k _ (by simp [bytesU, hk])⟩
/-- block g is the source: the bytes, a place in them, a seed -/
def Src (w : World) (g : Nat) (C : Option Addr) (n cap : Nat) : Prop := ∃ at_ seed : Int, 0 ≤ at_ ∧ at_ ≤ n ∧ 0 ≤ seed ∧ seed < 2147483647 ∧ w.heap[g]? = some (.cells #[.slice C n cap, .int .i64 at_, .int .i64 seed] 137 (0, 0))
theorem src_lt {w : World} {g : Nat} {C : Option Addr} {n cap : Nat} (h : Src w g C n cap) : g < w.heap.size := by
  obtain ⟨a, s, _, _, _, _, h⟩ := h
  rcases Nat.lt_or_ge g w.heap.size with h1 | h1
  · exact h1
  · rw [Array.getElem?_eq_none h1] at h; cases h
theorem src_keep {w w' : World} {g : Nat} {C : Option Addr} {n cap : Nat} (h : Src w g C n cap) (hk : w'.heap[g]? = w.heap[g]?) : Src w' g C n cap := by
  obtain ⟨a, s, h1, h2, h3, h4, h⟩ := h
  exact ⟨a, s, h1, h2, h3, h4, hk.trans h⟩
theorem src_below {w w' : World} {g N : Nat} {C : Option Addr} {n cap : Nat} (h : Src w g C n cap) (hb : Below N w w') (hN : g < N) : Src w' g C n cap := src_keep h (hb.block g hN)
theorem src_alloc {w : World} {g : Nat} {C : Option Addr} {n cap : Nat} (h : Src w g C n cap) (o : Obj) : Src (w.alloc o) g C n cap := src_keep h (Below.heap_alloc w o g (src_lt h))
theorem src_drew {w : World} {g : Nat} {C : Option Addr} {n cap : Nat} (h : Src w g C n cap) : Src w.drew g C n cap := h
theorem src_cells {w : World} {g : Nat} {C : Option Addr} {n cap : Nat} {a s : Int} (h : w.heap[g]? = some (.cells #[.slice C n cap, .int .i64 a, .int .i64 s] 137 (0, 0))) :
    w.cell? ⟨g, 0, none⟩ = some (.slice C n cap) ∧ w.cell? ⟨g, 1, none⟩ = some (.int .i64 a) ∧ w.cell? ⟨g, 2, none⟩ = some (.int .i64 s) ∧ ∀ j, w.frozen? ⟨g, j, none⟩ = false := by
  refine ⟨?_, ?_, ?_, fun j => ?_⟩
  · rw [cell_of_row w g 0 _ _ _ h]; rfl
  · rw [cell_of_row w g 1 _ _ _ h]; rfl
  · rw [cell_of_row w g 2 _ _ _ h]; rfl
  · simp [World.frozen?, h]
theorem grownBy_set (w : World) (g j : Nat) (u : Value) : w.grownBy (w.setCell ⟨g, j, none⟩ u) (some g) :=
  ⟨rfl, rfl, rfl, by simp, fun k _ hk => heap_setCell_other w ⟨g, j, none⟩ k u (fun e => hk (by simp [e]))⟩
theorem grownBy_drewN {w w' : World} {row : Option Nat} (h : w.grownBy w' row) (n : Nat) : w.grownBy (w'.drewN n) row := ⟨h.os, h.tape, h.output, h.size, h.block⟩
theorem grownBy_drew {w w' : World} {row : Option Nat} (h : w.grownBy w' row) : w.grownBy w'.drew row := ⟨h.os, h.tape, h.output, h.size, h.block⟩
def NextP (w : World) (g : Nat) (C : Option Addr) (n cap : Nat) (m : Int) (e : Ending) (w' : World) : Prop := ∃ x : Int, e = .returned (.int .i64 x) ∧ 0 ≤ x ∧ (x < m ∨ x = 0) ∧ Src w' g C n cap ∧ w.grownBy w' (some g)
theorem set2 {w : World} {g : Nat} {c0 c1 c2 : Value} {t : TypeId} (h : w.heap[g]? = some (.cells #[c0, c1, c2] t (0, 0))) (u : Value) : (w.setCell ⟨g, 2, none⟩ u).heap[g]? = some (.cells #[c0, c1, u] t (0, 0)) := by
  rw [heap_setCell_same w g 2 _ _ u h]; rfl
theorem set1 {w : World} {g : Nat} {c0 c1 c2 : Value} {t : TypeId} (h : w.heap[g]? = some (.cells #[c0, c1, c2] t (0, 0))) (u : Value) : (w.setCell ⟨g, 1, none⟩ u).heap[g]? = some (.cells #[c0, u, c2] t (0, 0)) := by
  rw [heap_setCell_same w g 1 _ _ u h]; rfl
set_option maxHeartbeats 1000000 in
theorem l01From_any (bl : List Int) (hbl : isU8 bl) (hn : bl.length ≤ 4096) (C : Option Addr) (B cap : Nat) (w : World) (hr : Rd w B C (bytesU bl)) (hB : B ≤ w.heap.size) :
   Calls Try.prog 73 #[.slice C bl.length cap] w fun e w' => e = .returned (.pointer (some ⟨w.heap.size, 0, none⟩)) ∧ Src w' w.heap.size C bl.length cap ∧ Below w.heap.size w w' ∧ w.heap.size < w'.heap.size := by
  have Hbl := Lib.hid hbl
  clear hbl
  go_enter Try.func73, Try.ntmps73
  go_wp2_with fail
  go_loopw [4] (fun i wr => ∃ k : Nat, k ≤ bl.length ∧ i = .int .i64 k ∧ ∃ s : Int, 0 ≤ s ∧ s < 2147483647 ∧ wr.heap[w.heap.size]? = some (.cells #[.slice C bl.length cap, .int .i64 0, .int .i64 s] 137 (0, 0)) ∧ Below w.heap.size w wr ∧ w.heap.size < wr.heap.size) (fun i _ => bl.length - (intOf i).toNat)
  case atStart => exact ⟨0, Nat.zero_le _, rfl, 52021, by omega, by omega, heap_alloc_new w _, (Below.refl _ _).alloc (Nat.le_refl _) _, by simp⟩
  case round =>
    obtain ⟨k, hk, rfl, s, s0, s1, hg, hbw, hsz⟩ := hrel
    obtain ⟨c0, c1, c2, hf⟩ := src_cells hg
    by_cases hlt : k < bl.length
    · by_cases h64 : (k : Int) < 64
      · have ht := List.getElem?_eq_getElem hlt
        generalize bl[k] = x at ht
        obtain ⟨b, o, rfl, hbB, d0⟩ := (hr.below hbw hB).byte ht
        obtain ⟨x0, x1⟩ := Hbl.out k x ht
        have hne : b ≠ w.heap.size := by omega
        have hi0 : (0 : Int) ≤ (k : Int) := by omega
        have hi1 : (k : Int) < (bl.length : Int) := by omega
        have Hg := Lib.hid hg
        have Hr := Lib.hid hr
        clear hg hr ht
        go_wp2_with fail
        go_region
        all_goals go_wp2
        all_goals go_roundw
        case rel => exact ⟨k + 1, by omega, by go_num, _, Int.emod_nonneg _ (by decide), Int.emod_lt_of_pos _ (by decide), set2 Hg.out _, (hbw.setCell (Nat.le_refl _) _).drew, by simpa using hsz⟩
        case measure => simp [intOf]; omega
      · have Hg := Lib.hid hg
        have hd : decide ((k : Int) < 64) = false := by simpa using h64
        clear hg hr
        go_wp2
        go_ret
        exact ⟨rfl, ⟨0, s, by omega, by omega, s0, s1, Hg.out⟩, hbw, hsz⟩
    · have Hg := Lib.hid hg
      have hd : decide (k < bl.length) = false := by simpa using hlt
      clear hg hr
      go_wp2
      go_ret
      exact ⟨rfl, ⟨0, s, by omega, by omega, s0, s1, Hg.out⟩, hbw, hsz⟩
theorem nextP_zero (w : World) (g : Nat) (C : Option Addr) (n cap : Nat) (m : Int) (h : Src w g C n cap) : NextP w g C n cap m (.returned (.int .i64 0)) w := ⟨0, rfl, by omega, .inr rfl, h, World.grownBy.refl w _⟩
theorem nextP_mod {w w' : World} {g : Nat} {C : Option Addr} {n cap : Nat} {m x : Int} (hm : 1 < m) (h : Src w' g C n cap) (hg : w.grownBy w' (some g)) : NextP w g C n cap m (.returned (.int .i64 (x % m))) w' :=
  ⟨x % m, rfl, Int.emod_nonneg _ (by omega), .inl (Int.emod_lt_of_pos _ (by omega)), h, hg⟩
set_option maxHeartbeats 1000000 in
theorem l01Next_any (bl : List Int) (hbl : isU8 bl) (hn : bl.length ≤ 4096) (C : Option Addr) (B cap g : Nat) (m : Int) (w : World) (hr : Rd w B C (bytesU bl)) (hBg : B ≤ g) (hs : Src w g C bl.length cap) :
   Calls Try.prog 117 #[.pointer (some ⟨g, 0, none⟩), .int .i64 m] w (NextP w g C bl.length cap m) := by
  have hgl := src_lt hs
  by_cases hm : m ≤ 1
  · have Hs := Lib.hid hs
    clear hs hr
    go_enter Try.func117, Try.ntmps117
    go_wp2
    go_ret
    exact nextP_zero _ _ _ _ _ _ Hs.out
  · obtain ⟨at_, s, a0, a1, s0, s1, hg⟩ := hs
    obtain ⟨c0, c1, c2, hf⟩ := src_cells hg
    have Hg := Lib.hid hg
    have hm1 : 1 < m := by omega
    by_cases ha : at_ < bl.length
    · obtain ⟨p, rfl⟩ : ∃ p : Nat, at_ = p := ⟨at_.toNat, by omega⟩
      have hp : p < bl.length := by omega
      have ht := List.getElem?_eq_getElem hp
      generalize bl[p] = x at ht
      obtain ⟨b, o, rfl, hbB, d0⟩ := hr.byte ht
      obtain ⟨x0, x1⟩ := hbl p x ht
      have hne : b ≠ g := by omega
      have hne2 : g ≠ b := by omega
      have hi0 : (0 : Int) ≤ (p : Int) := by omega
      have hi1 : (p : Int) < (bl.length : Int) := by omega
      have hj0 : (0 : Int) ≤ (p : Int) + 1 := by omega
      clear hg hr ht hbl
      by_cases h256 : m ≤ 256
      · cases hpar : (((p : Int) + 1) % 2 == 0) with
        | false =>
          go_enter Try.func117, Try.ntmps117
          go_wp2
          go_quiet (fail)
          go_wp2
          go_quiet (fail)
          go_wp2
          go_ret
          exact nextP_mod hm1 ⟨(p : Int) + 1, _, by omega, by omega, Int.emod_nonneg _ (by decide), Int.emod_lt_of_pos _ (by decide), set1 (set2 Hg.out _) _⟩ (by repeat (first | (with_reducible exact World.grownBy.refl _ _) | (with_reducible refine grownBy_drewN ?_ _) | (with_reducible refine grownBy_trans ?_ (grownBy_set _ g _ _))))
        | true =>
          have hsub : (p : Int) + 1 - 1 = (p : Int) := by omega
          go_enter Try.func117, Try.ntmps117
          go_wp2
          go_quiet (fail)
          go_wp2
          go_quiet (fail)
          go_wp2
          go_quiet (fail)
          go_wp2
          go_ret
          exact nextP_mod hm1 ⟨(p : Int) + 1, _, by omega, by omega, Int.emod_nonneg _ (by decide), Int.emod_lt_of_pos _ (by decide), set1 (set2 Hg.out _) _⟩ (by repeat (first | (with_reducible exact World.grownBy.refl _ _) | (with_reducible refine grownBy_drewN ?_ _) | (with_reducible refine grownBy_trans ?_ (grownBy_set _ g _ _))))
      · have hd : decide (m ≤ 256) = false := by simpa using h256
        go_enter Try.func117, Try.ntmps117
        go_wp2
        go_quiet (fail)
        go_wp2
        go_quiet (fail)
        go_wp2
        go_ret
        exact nextP_mod hm1 ⟨(p : Int) + 1, _, by omega, by omega, Int.emod_nonneg _ (by decide), Int.emod_lt_of_pos _ (by decide), set1 (set2 Hg.out _) _⟩ (by repeat (first | (with_reducible exact World.grownBy.refl _ _) | (with_reducible refine grownBy_drewN ?_ _) | (with_reducible refine grownBy_trans ?_ (grownBy_set _ g _ _))))
    · have hd : decide (at_ < (bl.length : Int)) = false := by simpa using ha
      clear hg hr hbl
      go_enter Try.func117, Try.ntmps117
      go_wp2
      go_quiet (fail)
      go_wp2
      go_ret
      exact nextP_mod hm1 ⟨at_, _, a0, a1, Int.emod_nonneg _ (by decide), Int.emod_lt_of_pos _ (by decide), set2 Hg.out _⟩ (by repeat (first | (with_reducible exact World.grownBy.refl _ _) | (with_reducible refine grownBy_drewN ?_ _) | (with_reducible refine grownBy_trans ?_ (grownBy_set _ g _ _))))
def PickP (w : World) (g : Nat) (C : Option Addr) (n cap : Nat) (l : List Int) (e : Ending) (w' : World) : Prop := ∃ x : Int, e = .returned (.int .i64 x) ∧ x ∈ l ∧ Src w' g C n cap ∧ w.grownBy w' (some g)
theorem pickP_mk {w w' : World} {g : Nat} {C : Option Addr} {n cap : Nat} {l : List Int} {k : Nat} {x : Int} (hk : l[k]? = some x) (h : Src w' g C n cap) (hg : w.grownBy w' (some g)) : PickP w g C n cap l (.returned (.int .i64 x)) w' :=
  ⟨x, rfl, List.mem_of_getElem? hk, h, hg⟩
theorem l01Pick_any (bl : List Int) (hbl : isU8 bl) (hn : bl.length ≤ 4096) (C : Option Addr) (B cap g h k : Nat) (l : List Int) (hk : l.length = k) (h0 : 0 < k) (hk2 : k ≤ 1000) (w : World) (hr : Rd w B C (bytesU bl)) (hBg : B ≤ g) (hs : Src w g C bl.length cap) (hl : Rd w w.heap.size (some ⟨h, 0, none⟩) (ints l)) (hne : h ≠ g) :
   Calls Try.prog 118 #[.pointer (some ⟨g, 0, none⟩), .slice (some ⟨h, 0, none⟩) k k] w (PickP w g C bl.length cap l) := by
  have hs1 := Lib.hid hs
  have hr1 := Lib.hid hr
  obtain ⟨b, o, he, hbb, hc⟩ := hl (by rw [ints_length]; omega)
  injection he with he
  injection he with he1 he2
  subst he1 he2
  have Hc := Lib.hid hc
  clear hs hr hl hc
  go_enter Try.func118, Try.ntmps118
  go_wp2_with fail
  refine (l01Next_any bl hbl hn C B cap g (k : Int) w hr1.out hBg hs1.out).mono ?_
  rintro e w1 ⟨x, rfl, x0, hx, hs2, hg⟩
  obtain ⟨i, rfl⟩ : ∃ i : Nat, x = i := ⟨x.toNat, by omega⟩
  have hi : i < l.length := by omega
  have ht := List.getElem?_eq_getElem hi
  generalize l[i] = y at ht
  have d0 : w1.cell? ⟨h, i, none⟩ = some (.int .i64 y) := by
    have hcc := Hc.out i (.int .i64 y) (by simp [ints, ht])
    rw [Nat.zero_add] at hcc
    exact hg.cell (a := ⟨h, i, none⟩) hcc (fun e => by injection e with e; exact hne e)
  have hi0 : (0 : Int) ≤ (i : Int) := by omega
  have hi1 : (i : Int) < (k : Int) := by omega
  have Hs2 := Lib.hid hs2
  have Ht := Lib.hid ht
  have Hg := Lib.hid hg
  clear hs2 ht hg hx
  go_wp2
  go_ret
  exact pickP_mk Ht.out Hs2.out Hg.out
theorem grownBy_below' {w w' : World} {row : Option Nat} (hb : Below w.heap.size w w') : w.grownBy w' row := ⟨hb.os, hb.tape, hb.output, hb.size, fun i hi _ => hb.block i hi⟩
theorem bytes_flat (l : List Int) : l.flatMap (fun x : Int => [Value.int .u8 x]) = bytesU l := by
  induction l with
  | nil => rfl
  | cons a l ih => rw [List.flatMap_cons, ih]; rfl
theorem openBytes {H : Type} {enc : TypeId × Value → H} {W : World} {n c : Nat} {A : Option Addr} {d : DataW H} {p : List MemPlace} {b0 : Nat} {sp : Nat → Bool} {hd : Bool} (h : DataW.Trod enc Try.prog W b0 sp hd 22 (.slice A n c) d p) :
    ∃ l : List Int, l.length = n ∧ Rd W W.heap.size A (bytesU l) ∧ n ≤ c ∧ c ≤ maxLen ∧ ∀ t ∈ l, (Lit.int .u8 t).wf = true := by
  obtain ⟨rows, hl, hk, hr, h1, h2⟩ := open_rows_flat (ks := [some .u8]) (C := 1) Try.underlying22 (by kernel_rfl) (by kernel_rfl) (by omega) h
  obtain ⟨l, he, hll, hok⟩ := rows_typed (fun x : Int => [Value.int .u8 x]) (fun x => (Lit.int .u8 x).wf = true) rows (fun r hr => by
    obtain ⟨_, _, rfl, ⟨x, rfl, wx⟩, rfl⟩ := (hk r hr).1
    exact ⟨x, rfl, wx⟩)
  exact ⟨l, by omega, bytes_flat l ▸ he ▸ hr, h1, h2, hok⟩
theorem u8_of {l : List Int} (h : ∀ t ∈ l, (Lit.int .u8 t).wf = true) : isU8 l := fun k x hk => by
  have := h x (List.mem_of_getElem? hk)
  simp [Lit.wf, IntKind.min, IntKind.max, IntKind.signed, IntKind.bits] at this
  omega
/-! ### the state of a draw: w0 the world when it began, block g the source -/
theorem grown_below {w a b : World} {row : Option Nat} (h : w.grownBy a row) (hb : Below w.heap.size a b) : w.grownBy b row :=
  ⟨hb.os.trans h.os, hb.tape.trans h.tape, hb.output.trans h.output, Nat.le_trans h.size hb.size, fun i hi hne => (hb.block i hi).trans (h.block i hi hne)⟩
def DS (w0 w : World) (g B : Nat) (C : Option Addr) (cap : Nat) (bl : List Int) : Prop := Rd w B C (bytesU bl) ∧ Src w g C bl.length cap ∧ w0.grownBy w (some g) ∧ g < w0.heap.size ∧ B ≤ g ∧ isU8 bl ∧ bl.length ≤ 4096
section
variable {w0 w w' : World} {g B cap : Nat} {C : Option Addr} {bl : List Int}
theorem DS.size (h : DS w0 w g B C cap bl) : w0.heap.size ≤ w.heap.size ∧ g < w0.heap.size := ⟨h.2.2.1.size, h.2.2.2.1⟩
theorem DS.next (h : DS w0 w g B C cap bl) (hs : Src w' g C bl.length cap) (hg : w.grownBy w' (some g)) : DS w0 w' g B C cap bl :=
  ⟨h.1.grown hg (by have := h.size; have := h.2.2.2.2.1; omega) (fun k hk => by injection hk with hk; subst hk; exact h.2.2.2.2.1), hs, grownBy_trans h.2.2.1 hg, h.2.2.2⟩
theorem DS.alloc (h : DS w0 w g B C cap bl) (o : Obj) : DS w0 (w.alloc o) g B C cap bl :=
  ⟨h.1.alloc (by have := h.size; have := h.2.2.2.2.1; omega) o, src_alloc h.2.1 o, grown_below h.2.2.1 ((Below.refl _ _).alloc h.size.1 _), h.2.2.2⟩
theorem DS.drew (h : DS w0 w g B C cap bl) : DS w0 w.drew g B C cap bl := ⟨h.1, h.2.1, grownBy_drew h.2.2.1, h.2.2.2⟩
theorem DS.below (h : DS w0 w g B C cap bl) (hb : Below w0.heap.size w w') : DS w0 w' g B C cap bl :=
  ⟨h.1.below hb (by have := h.2.2.2.2.1; have := h.size; omega), src_below h.2.1 hb h.size.2, grown_below h.2.2.1 hb, h.2.2.2⟩
theorem DS.start (hr : Rd w B C (bytesU bl)) (hs : Src w g C bl.length cap) (hB : B ≤ g) (hbl : isU8 bl) (hn : bl.length ≤ 4096) : DS w w g B C cap bl := ⟨hr, hs, World.grownBy.refl w _, src_lt hs, hB, hbl, hn⟩
/-- a further beginning -/
theorem DS.again (h : DS w0 w g B C cap bl) : DS w w g B C cap bl := ⟨h.1, h.2.1, World.grownBy.refl w _, src_lt h.2.1, h.2.2.2.2⟩
theorem DS.join {w1 : World} (h : DS w0 w1 g B C cap bl) (k : DS w1 w g B C cap bl) : DS w0 w g B C cap bl := ⟨k.1, k.2.1, grownBy_trans h.2.2.1 k.2.2.1, h.2.2.2⟩
theorem DS.own {base : Nat} {e : TypeId} {size n : Nat} {v : Value} {xs : List Value} (h : w.ownsRow base e size v n xs) (hg : w.grownBy w' (some g)) (hb : g < base) : w'.ownsRow base e size v n xs :=
  own_apart h hg (fun k hk => by injection hk with hk; omega)
theorem next_ds (h : DS w0 w g B C cap bl) (m : Int) :
   Calls Try.prog 117 #[.pointer (some ⟨g, 0, none⟩), .int .i64 m] w (fun e w' => ∃ x : Int, e = .returned (.int .i64 x) ∧ 0 ≤ x ∧ (x < m ∨ x = 0) ∧ DS w0 w' g B C cap bl ∧ w.grownBy w' (some g)) :=
  (l01Next_any bl h.2.2.2.2.2.1 h.2.2.2.2.2.2 C B cap g m w h.1 h.2.2.2.2.1 h.2.1).mono fun e w' ⟨x, h1, h2, h3, h4, h5⟩ => ⟨x, h1, h2, h3, h.next h4 h5, h5⟩
theorem rd_ints (w : World) (l : List Int) (e : TypeId) (B : Nat) (hB : w.heap.size < B) : Rd (w.alloc (.cells (ints l).toArray e)) B (some ⟨w.heap.size, 0, none⟩) (ints l) := fun hn => by
  refine ⟨w.heap.size, 0, rfl, hB, fun j u hu => ?_⟩
  have hh := heap_alloc_new w (.cells (ints l).toArray e)
  simp only [World.cell?, Nat.zero_add]
  rw [hh]
  simpa using hu
theorem pick_ds (h : DS w0 w g B C cap bl) (l : List Int) (k q : Nat) (hq : q = w.heap.size) (cs : Array Value) (hcs : cs = (ints l).toArray) (hk : l.length = k) (h0 : 0 < k) (hk2 : k ≤ 1000) :
   Calls Try.prog 118 #[.pointer (some ⟨g, 0, none⟩), .slice (some ⟨q, 0, none⟩) k k] (w.alloc (.cells cs 2)) (fun e w' => ∃ x : Int, e = .returned (.int .i64 x) ∧ x ∈ l ∧ DS w0 w' g B C cap bl ∧ (w.alloc (.cells cs 2)).grownBy w' (some g)) := by
  subst hcs hq
  have h1 := h.alloc (.cells (ints l).toArray 2)
  exact (l01Pick_any bl h.2.2.2.2.2.1 h.2.2.2.2.2.2 C B cap g w.heap.size k l hk h0 hk2 _ h1.1 h.2.2.2.2.1 h1.2.1 (rd_ints w l _ _ (by simp)) (by have := src_lt h.2.1; omega)).mono fun e w' ⟨x, a1, a2, a3, a4⟩ => ⟨x, a1, a2, h1.next a3 a4, a4⟩
theorem alloc_grown (w : World) (o : Obj) (row : Option Nat) : w.grownBy (w.alloc o) row := grownBy_below' ((Below.refl _ _).alloc (Nat.le_refl _) _)
end
end Go.Proofs.Ytooifamckccadaa
