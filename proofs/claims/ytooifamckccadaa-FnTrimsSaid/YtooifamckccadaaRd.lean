/- Slices that read as lists: arguments, and rows that a call has made. Over any program. -/
import Derived.Test.YtooifamckccadaaBase
import Derived.Laws.AppendOwn
import Derived.Laws.OwnMore
import Derived.Laws.MakeOwn
namespace Go.Proofs.Ytooifamckccadaa
open Go.ChangeShapes Go.WideShapes Go.ChangeAt Go.RowKit
set_option linter.unusedVariables false

/-- The slice value '.slice A n c' reads as the cells xs, and lies below block B. -/
def Rd (w : World) (B : Nat) (A : Option Addr) (xs : List Value) : Prop :=
  0 < xs.length → ∃ b o, A = some ⟨b, o, none⟩ ∧ b < B ∧ ∀ j u, xs[j]? = some u → w.cell? ⟨b, o + j, none⟩ = some u
section
variable {w w' : World} {B B' : Nat} {A : Option Addr} {xs : List Value}
theorem Rd.empty : Rd w B A [] := fun h => absurd h (by simp)
theorem Rd.keep (h : Rd w B A xs) (hk : ∀ b o, b < B → w'.cell? ⟨b, o, none⟩ = w.cell? ⟨b, o, none⟩) : Rd w' B A xs := fun hn => by
  obtain ⟨b, o, e, hb, hc⟩ := h hn
  exact ⟨b, o, e, hb, fun j u hu => (hk _ _ hb).trans (hc j u hu)⟩
theorem Rd.more (h : Rd w B A xs) (hB : B ≤ B') : Rd w B' A xs := fun hn => by
  obtain ⟨b, o, e, hb, hc⟩ := h hn
  exact ⟨b, o, e, by omega, hc⟩
theorem Rd.below {N : Nat} (h : Rd w B A xs) (hb : Below N w w') (hN : B ≤ N) : Rd w' B A xs := h.keep fun b o hlt => hb.cell (p := ⟨b, o, none⟩) (Nat.lt_of_lt_of_le hlt hN)
theorem Rd.step (h : Rd w w.heap.size A xs) (hb : Below w.heap.size w w') : Rd w' w'.heap.size A xs := (h.below hb (Nat.le_refl _)).more hb.size
theorem Rd.alloc (h : Rd w B A xs) (hB : B ≤ w.heap.size) (o : Obj) : Rd (w.alloc o) B A xs := h.keep fun b off hp => World.cell?_alloc_lt w o ⟨b, off, none⟩ (Nat.lt_of_lt_of_le hp hB)
theorem Rd.grown {row : Option Nat} (h : Rd w B A xs) (hg : w.grownBy w' row) (hB : B ≤ w.heap.size) (hr : ∀ g, row = some g → B ≤ g) : Rd w' B A xs :=
  h.keep fun b o hp => World.cell?_of_block (a := ⟨b, o, none⟩) (hg.block b (by omega) (fun e => by have := hr _ e.symm; omega))
theorem Rd.drewN (h : Rd w B A xs) (k : Nat) : Rd (w.drewN k) B A xs := h
theorem Rd.of_own {base : Nat} {e : TypeId} {size n c : Nat} (h : w.ownsRow base e size (.slice A n c) n xs) : Rd w w.heap.size A xs := fun hn => by
  rcases h.2 with ⟨hv, h0⟩ | ⟨g, cap, cur, hv, hg, hh, _⟩
  · have := h.1
    rw [h0] at this
    omega
  · injection hv with hA
    subst hA
    refine ⟨g, 0, rfl, (h.lt g rfl).2, fun j u hu => ?_⟩
    have := h.cells (g := g) rfl j u hu
    by_cases h0 : j = 0 <;> simpa [Addr.add, h0] using this
end
theorem flat_get {τ : Type} (en : τ → List Value) (C : Nat) (hC : ∀ t, (en t).length = C) : ∀ (l : List τ) (k : Nat) (t : τ) (j : Nat) (u : Value), l[k]? = some t → (en t)[j]? = some u → (l.flatMap en)[k * C + j]? = some u := by
  intro l
  induction l with
  | nil => intro k t j u h; simp at h
  | cons a l ih =>
    intro k t j u h hj
    rw [List.flatMap_cons]
    cases k with
    | zero =>
      simp only [List.getElem?_cons_zero, Option.some.injEq] at h
      subst h
      have : j < (en a).length := (List.getElem?_eq_some_iff.1 hj).1
      rw [List.getElem?_append_left (by omega), Nat.zero_mul, Nat.zero_add]
      exact hj
    | succ k =>
      rw [List.getElem?_cons_succ] at h
      rw [List.getElem?_append_right (by rw [hC, Nat.succ_mul]; omega), hC]
      have := ih k t j u h hj
      rwa [show (k + 1) * C + j - C = k * C + j from by rw [Nat.succ_mul]; omega]
theorem flat_len {τ : Type} (en : τ → List Value) (C : Nat) (hC : ∀ t, (en t).length = C) (l : List τ) : (l.flatMap en).length = l.length * C := by
  induction l with
  | nil => simp
  | cons a l ih => rw [List.flatMap_cons, List.length_append, hC, ih, List.length_cons, Nat.succ_mul]; omega
/-- The cells of element k. -/
theorem Rd.row {τ : Type} {en : τ → List Value} {w : World} {B : Nat} {A : Option Addr} {l : List τ} (C : Nat) (hC : ∀ t, (en t).length = C) (h0 : 0 < C) (h : Rd w B A (l.flatMap en)) {k : Nat} {t : τ} (hk : l[k]? = some t) :
    ∃ b o, A = some ⟨b, o, none⟩ ∧ b < B ∧ ∀ j u, (en t)[j]? = some u → w.cell? ⟨b, o + k * C + j, none⟩ = some u := by
  have hl : k < l.length := (List.getElem?_eq_some_iff.1 hk).1
  have : 0 < (l.flatMap en).length := by
    rw [flat_len en C hC]
    exact Nat.mul_pos (by omega) h0
  obtain ⟨b, o, e, hb, hc⟩ := h this
  exact ⟨b, o, e, hb, fun j u hu => by rw [Nat.add_assoc]; exact hc _ _ (flat_get en C hC l k t j u hk hu)⟩
theorem rd_take {τ : Type} {en : τ → List Value} {w : World} {B : Nat} {A : Option Addr} {l : List τ} (h : Rd w B A (l.flatMap en)) (k : Nat) : Rd w B A ((l.take k).flatMap en) := fun hn => by
  have he : l.flatMap en = (l.take k).flatMap en ++ (l.drop k).flatMap en := by rw [← List.flatMap_append, List.take_append_drop]
  obtain ⟨b, o, e, hb, hc⟩ := h (by rw [he, List.length_append]; omega)
  exact ⟨b, o, e, hb, fun j u hu => hc j u (by rw [he, List.getElem?_append_left (List.getElem?_eq_some_iff.1 hu).1]; exact hu)⟩
theorem rd_take_ints {w : World} {B : Nat} {A : Option Addr} {l : List Int} (h : Rd w B A (l.map (Value.int .i64))) (k : Nat) : Rd w B A ((l.take k).map (Value.int .i64)) := fun hn => by
  have he : l.map (Value.int .i64) = (l.take k).map (Value.int .i64) ++ (l.drop k).map (Value.int .i64) := by rw [← List.map_append, List.take_append_drop]
  obtain ⟨b, o, e, hb, hc⟩ := h (by rw [he, List.length_append]; omega)
  exact ⟨b, o, e, hb, fun j u hu => hc j u (by rw [he, List.getElem?_append_left (List.getElem?_eq_some_iff.1 hu).1]; exact hu)⟩
def ints (l : List Int) : List Value := l.map (Value.int .i64)
theorem ints_flat (l : List Int) : l.flatMap (fun x : Int => [Value.int .i64 x]) = ints l := by
  induction l with
  | nil => rfl
  | cons a l ih => rw [List.flatMap_cons, ih]; rfl
theorem ints_length (l : List Int) : (ints l).length = l.length := by simp [ints]
theorem Rd.int {w : World} {B : Nat} {A : Option Addr} {l : List Int} (h : Rd w B A (ints l)) {k : Nat} {x : Int} (hk : l[k]? = some x) : ∃ b o, A = some ⟨b, o, none⟩ ∧ b < B ∧ w.cell? ⟨b, o + k, none⟩ = some (.int .i64 x) := by
  have hl : k < l.length := (List.getElem?_eq_some_iff.1 hk).1
  obtain ⟨b, o, e, hb, hc⟩ := h (by rw [ints_length]; omega)
  exact ⟨b, o, e, hb, hc k _ (by simp [ints, hk])⟩

/-- a loop that asks each element -/
theorem all_step {τ : Type} (p : τ → Bool) (l : List τ) {k : Nat} {t : τ} (hk : l[k]? = some t) : (l.take (k + 1)).all p = ((l.take k).all p && p t) := by
  have hl : k < l.length := (List.getElem?_eq_some_iff.1 hk).1
  have : l[k] = t := by rw [List.getElem?_eq_getElem hl] at hk; exact Option.some.inj hk
  rw [List.take_succ_eq_append_getElem hl, List.all_append, this]; simp
theorem all_false {τ : Type} (p : τ → Bool) (l : List τ) {k : Nat} {t : τ} (hk : l[k]? = some t) (hp : p t = false) : l.all p = false := by
  rw [List.all_eq_false]
  exact ⟨t, List.mem_of_getElem? hk, by simp [hp]⟩

theorem run_make_rowN {P : Program} (t e : TypeId) (i : TypeInfo) (z : Value) (ht : P.underlying t = some (.slice e)) (hi : P.info? e = some i) (hz : i.zero = some z)
    (kl kc : IntKind) (n c : Nat) (hnc : n ≤ c) (hbytes : i.bytes * c ≤ 281474976710656) (h63 : c ≤ 9223372036854775807) (w : World) :
    (Instr.makeSlice t (.int kl (n : Int)) (.int kc (c : Int))).run P w = .ok (.slice (some ⟨w.heap.size, 0, none⟩) n c) (w.alloc (.cells (madeCells z.cells (c * i.size)) e)) := by
  have hb : (i.bytes : Int) * (c : Int) ≤ 281474976710656 := by
    have h : ((i.bytes * c : Nat) : Int) ≤ 281474976710656 := by omega
    rwa [Int.natCast_mul] at h
  have hr := run_make (P := P) w t e i z ht hi hz kl kc n c (by omega) (by omega) hb (by omega)
  simp only [Int.toNat_natCast] at hr
  exact hr
theorem mk_own {P : Program} (t e : TypeId) (i : TypeInfo) (z : Value) (size bytes : Nat) (ht : P.underlying t = some (.slice e)) (hi : P.info? e = some i) (hz : i.zero = some z) (hs : i.size = size) (hby : i.bytes = bytes)
    (kl kc : IntKind) (n : Nat) (hbytes : bytes * n ≤ 281474976710656) (h63 : n ≤ maxLen) (base : Nat) (w : World) (hbase : base ≤ w.heap.size) :
    ∃ w1 xs, (Instr.makeSlice t (.int kl (n : Int)) (.int kc (n : Int))).run P w = .ok (.slice (some ⟨w.heap.size, 0, none⟩) n n) w1 ∧ w1.ownsRow base e size (.slice (some ⟨w.heap.size, 0, none⟩) n n) n xs ∧ xs = (madeCells z.cells (n * size)).toList ∧ Below w.heap.size w w1 ∧ w.heap.size < w1.heap.size := by
  subst hs hby
  refine ⟨_, _, run_make_rowN t e i z ht hi hz kl kc n n (Nat.le_refl _) hbytes h63 w, World.ownsRow_lit w _ n hbase h63 (by rw [size_madeCells]), rfl, (Below.refl _ _).alloc (Nat.le_refl _) _, by simp⟩
theorem own_below {w w' : World} {base : Nat} {e : TypeId} {size n : Nat} {v : Value} {xs : List Value} (h : w.ownsRow base e size v n xs) (hb : Below w.heap.size w w') : w'.ownsRow base e size v n xs :=
  h.kept (row := none) ⟨hb.os, hb.tape, hb.output, hb.size, fun i hi _ => hb.block i hi⟩ (by cases v.ownBlock <;> simp)
theorem set_one {xs ys : List Value} {m : Nat} {u : Value} (h : ∀ j, j < m → xs[j]? = ys[j]?) (hm : m < xs.length) (hu : ys[m]? = some u) : ∀ j, j < m + 1 → (xs.set m u)[j]? = ys[j]? := by
  intro j hj
  rw [List.getElem?_set]
  by_cases e : m = j
  · subst e
    simp [hm, hu]
  · rw [if_neg e]
    exact h j (by omega)
theorem eq_of_upto {xs ys : List Value} {m : Nat} (h : ∀ j, j < m → xs[j]? = ys[j]?) (hl : xs.length = ys.length) (hm : xs.length ≤ m) : xs = ys := by
  apply List.ext_getElem?
  intro i
  by_cases hi : i < m
  · exact h i hi
  · rw [List.getElem?_eq_none (by omega), List.getElem?_eq_none (by omega)]
theorem vint {k : IntKind} {a b : Int} (h : a = b) : Value.int k a = Value.int k b := by rw [h]
theorem own_form {w : World} {base : Nat} {e : TypeId} {size n c : Nat} {A : Option Addr} {xs : List Value} (h : w.ownsRow base e size (.slice A n c) n xs) (hn : 0 < n) : ∃ g, A = some ⟨g, 0, none⟩ ∧ base ≤ g ∧ g < w.heap.size := by
  rcases h.2 with ⟨_, h0⟩ | ⟨g, cap, cur, hv, hg, hh, _⟩
  · omega
  · injection hv with hA
    subst hA
    exact ⟨g, rfl, hg, (h.lt g rfl).2⟩
theorem own_more {w : World} {base base' : Nat} {e : TypeId} {size n : Nat} {v : Value} {xs : List Value} (h : w.ownsRow base e size v n xs) (hb : base' ≤ base) : w.ownsRow base' e size v n xs := by
  refine ⟨h.1, ?_⟩
  rcases h.2 with h2 | ⟨g, cap, cur, hv, hg, r⟩
  · exact .inl h2
  · exact .inr ⟨g, cap, cur, hv, by omega, r⟩
theorem own_cap {w : World} {base : Nat} {e : TypeId} {size n c : Nat} {A : Option Addr} {xs : List Value} (h : w.ownsRow base e size (.slice A n c) n xs) : n ≤ c := by
  rcases h.2 with ⟨hv, h0⟩ | ⟨g, cap, cur, hv, _, _, hc, _⟩
  · omega
  · injection hv with _ _ hcc
    omega
theorem own_val {w : World} {base : Nat} {e : TypeId} {size n : Nat} {v : Value} {xs : List Value} (h : w.ownsRow base e size v n xs) : ∃ A c, v = .slice A n c := by
  rcases h.2 with ⟨rfl, rfl⟩ | ⟨g, cap, cur, rfl, _⟩
  · exact ⟨_, _, rfl⟩
  · exact ⟨_, _, rfl⟩
theorem own_base {w : World} {base : Nat} {e : TypeId} {size n : Nat} {v : Value} {xs : List Value} (h : w.ownsRow base e size v n xs) : ∀ k, v.ownBlock = some k → base ≤ k := fun k hk => (h.lt k hk).1
theorem one_new (w : World) (x : Value) (e : TypeId) : ∀ j u, [x][j]? = some u → (w.alloc (.cells #[x] e)).cell? ((⟨w.heap.size, 0, none⟩ : Addr).add j) = some u := by
  intro j u hu
  cases j with
  | zero => simp at hu; subst hu; simp [Addr.add]
  | succ j => simp at hu
/-- append of one number to a row of the call's own -/
theorem wpList_append_int {P : Program} {w : World} {ops : Array Oper} {rest : List Oper} {o : Oper} {a : Act} {Q : Exit → Act → World → Prop} (hgd : o.guard = none) (s x : Operand) (t : TypeId)
    (ho : o.op = .call { callee := .builtin .append, args := #[s, x], argTypes := #[t, t] })
    (base : Nat) (e : TypeId) (i : TypeInfo) (ht : P.underlying t = some (.slice e)) (hi : P.info? e = some i) (hz : i.zero = some (.int .i64 0)) (hsize : i.size = 1) (hby : i.bytes = 8)
    (v : Value) (n : Nat) (l : List Int) (hs : a.eval s = v) (hown : w.ownsRow base e 1 v n (ints l)) (z : Int) (hx : a.eval x = .slice (some ⟨w.heap.size, 0, none⟩) 1 1)
    (hn : n ≤ 1048576) (hbase : base ≤ w.heap.size)
    (h : ∀ v' w', w'.ownsRow base e 1 v' (n + 1) (ints (l ++ [z])) → Below base w w' → w.heap.size < w'.heap.size → wpList P ops Q rest (a.put o.dst v') w') : wpList P ops Q (o :: rest) a (w.alloc (.cells #[.int .i64 z] e)) :=
  wpList_append_own _ hgd s x t ho base e i (.int .i64 0) 1 8 ht hi hz hsize hby rfl (by decide) v n (ints l) hs (hown.alloc _) ⟨w.heap.size, 0, none⟩ 1 1 [.int .i64 z] hx rfl (one_new _ _ _) (by simp [Value.oneCell']) (by unfold maxLen; omega) (by omega) (by simp; omega)
    (fun v' w' h1 h2 _ => h v' w' (by simpa [ints] using h1) (((Below.refl _ _).alloc hbase _).trans ((Below.refl base _).grown h2 (by simp; omega) (fun k hk => (hown.lt k hk).1))) (by have := h2.size; simp at this; omega))
theorem own_drew {w : World} {base : Nat} {e : TypeId} {size n : Nat} {v : Value} {xs : List Value} (h : w.ownsRow base e size v n xs) : w.drew.ownsRow base e size v n xs := h
theorem own_drewN {w : World} {base : Nat} {e : TypeId} {size n : Nat} {v : Value} {xs : List Value} (h : w.ownsRow base e size v n xs) (k : Nat) : (w.drewN k).ownsRow base e size v n xs := h
theorem own_at {w : World} {base : Nat} {e : TypeId} {size n cap g : Nat} {xs : List Value} (h : w.ownsRow base e size (.slice (some ⟨g, 0, none⟩) n cap) n xs) (j : Nat) (hj : j < n * size) : ∃ u, w.cell? ⟨g, j, none⟩ = some u := by
  refine ⟨xs[j]'(by rw [h.1]; exact hj), ?_⟩
  rw [h.cellAt j hj]
  exact List.getElem?_eq_getElem _
theorem own_lt {w : World} {base : Nat} {e : TypeId} {size n : Nat} {v : Value} {xs : List Value} (h : w.ownsRow base e size v n xs) : ∀ k, v.ownBlock = some k → base ≤ k ∧ k < w.heap.size := h.lt
theorem own_apart {w w' : World} {base : Nat} {e : TypeId} {size n : Nat} {v : Value} {xs : List Value} {row : Option Nat} (h : w.ownsRow base e size v n xs) (hg : w.grownBy w' row) (hne : ∀ k, row = some k → k < base) : w'.ownsRow base e size v n xs := by
  refine h.kept hg ?_
  cases hb : v.ownBlock with
  | none => exact .inl rfl
  | some g =>
    right
    intro he
    have h1 := hne g he.symm
    have h2 := (h.lt g hb).1
    omega
theorem grownBy_cell {w w' : World} {b o : Nat} {v : Value} {row : Option Nat} (hg : w.grownBy w' row) (h : w.cell? ⟨b, o, none⟩ = some v) (hne : ∀ k, row = some k → b ≠ k) : w'.cell? ⟨b, o, none⟩ = some v :=
  hg.cell (a := ⟨b, o, none⟩) h (fun e => hne b e.symm rfl)
theorem grownBy_trans {a b c : World} {row : Option Nat} (h : a.grownBy b row) (k : b.grownBy c row) : a.grownBy c row :=
  ⟨k.os.trans h.os, k.tape.trans h.tape, k.output.trans h.output, Nat.le_trans h.size k.size, fun i hi hne => (k.block i (Nat.lt_of_lt_of_le hi h.size) hne).trans (h.block i hi hne)⟩
theorem below_of_grownBy {w w' : World} {B : Nat} {row : Option Nat} (h : w.grownBy w' row) (hB : B ≤ w.heap.size) (hr : ∀ k, row = some k → B ≤ k) : Below B w w' := (Below.refl B w).grown h hB hr
theorem grownBy_below {w w' : World} {row : Option Nat} (hb : Below w.heap.size w w') : w.grownBy w' row := ⟨hb.os, hb.tape, hb.output, hb.size, fun i hi _ => hb.block i hi⟩

/-! ### a slice that came in -/
section
variable {H : Type} {enc : TypeId × Value → H} {P : Program} {W : World}
theorem open_rows_flat {t e : TypeId} {ks : List (Option IntKind)} {C n c : Nat} {A : Option Addr} {d : DataW H} {p : List MemPlace} {b0 : Nat} {sp : Nat → Bool} {hd : Bool} (ht : P.underlying t = some (.slice e)) (hk : flatKinds P 6 e = some ks) (hC : P.cellsOf e = C) (h0 : 0 < C)
    (h : DataW.Trod enc P W b0 sp hd t (.slice A n c) d p) :
    ∃ rows : List (List Value), rows.length = n ∧ (∀ r ∈ rows, AreKinds ks r ∧ r.length = C) ∧ Rd W W.heap.size A rows.flatten ∧ n ≤ c ∧ c ≤ maxLen := by
  obtain ⟨fuel, hf⟩ := h
  rcases Go.Deep.open_slice ht hf with ⟨hcs, _⟩ | ⟨a, len, cap, m, n', D, Pl, hcs, hb, hl, hm, hmm, _, hi⟩
  · simp [Value.cells] at hcs
    obtain ⟨rfl, rfl, rfl⟩ := hcs
    exact ⟨[], rfl, by simp, Rd.empty, by omega, by simp [maxLen]⟩
  · simp [Value.cells] at hcs
    obtain ⟨rfl, rfl, rfl⟩ := hcs
    have hlm : n ≤ m := by rw [hmm]; split <;> omega
    obtain ⟨R, hR⟩ := Go.Deep.choose_lt (n := n) (p := fun i cs' => W.cells? b0 (a.add (i * P.cellsOf e)) (P.cellsOf e) = some cs' ∧ DataW.trod enc P W b0 sp hd n' e cs' = some (D i, Pl i)) (fun i hin => hi i (by omega))
    have hcell : ∀ i, i < n → ∀ j u, (R i)[j]? = some u → W.cell? (a.add (i * C + j)) = some u := by
      intro i hin j u hu
      obtain ⟨_, hcl, hat⟩ := World.cells?_some (hR i hin).1
      rw [← Go.Deep.add_add, ← hC]
      have hj : j < (R i).length := (List.getElem?_eq_some_iff.1 hu).1
      exact (hat j (by omega)).trans hu
    have hlen : ∀ i, i < n → (R i).length = C := by
      intro i hin
      obtain ⟨_, hcl, _⟩ := World.cells?_some (hR i hin).1
      rw [hcl, hC]
    refine ⟨(List.range n).map R, by simp, ?_, ?_, hl, hm⟩
    · intro r hr
      simp only [List.mem_map, List.mem_range] at hr
      obtain ⟨i, hin, rfl⟩ := hr
      exact ⟨flat_trod 6 _ _ _ _ _ hk (hR i hin).2, hlen i hin⟩
    · intro hpos
      have hn : 0 < n := by
        rcases Nat.eq_zero_or_pos n with h | h
        · subst h; simp at hpos
        · exact h
      have h1 := hcell 0 hn 0 ((R 0)[0]'(by rw [hlen 0 hn]; exact h0)) (List.getElem?_eq_getElem _)
      obtain ⟨b, o, spot⟩ := a
      have hspot : spot = none := by simpa [Addr.add] using World.cell?_spot h1
      subst hspot
      have hbl : b < W.heap.size := by
        rcases Nat.lt_or_ge b W.heap.size with hlt | hge
        · exact hlt
        · exfalso
          have h1' : W.cell? ⟨b, o, none⟩ = some ((R 0)[0]'(by rw [hlen 0 hn]; exact h0)) := by simpa [Addr.add] using h1
          simp [World.cell?, Array.getElem?_eq_none hge] at h1'
      refine ⟨b, o, rfl, hbl, fun j u hu => ?_⟩
      have hdiv : j = j / C * C + j % C := by rw [Nat.mul_comm]; exact (Nat.div_add_mod j C).symm
      have hlt : j < n * C := by
        have hj := (List.getElem?_eq_some_iff.1 hu).1
        have hll : ((List.range n).map R).flatten.length = n * C := by
          rw [List.length_flatten, List.map_map, List.map_congr_left (g := fun _ => C) (fun i hi => by simpa using hlen i (by simpa using hi))]
          simp [List.map_const']
        omega
      have hi : j / C < n := Nat.div_lt_of_lt_mul (by rw [Nat.mul_comm]; exact hlt)
      have hmod : j % C < C := Nat.mod_lt _ h0
      have hu' : (R (j / C))[j % C]? = some u := by
        have hg := flat_get (τ := Nat) (fun i => if i < n then R i else List.replicate C (.int .i64 0)) C (fun i => by
          by_cases hc : i < n
          · simp [hc, hlen i hc]
          · simp [hc]) (List.range n) (j / C) (j / C) (j % C) ((R (j / C))[j % C]'(by rw [hlen _ hi]; exact hmod)) (by simp [hi]) (by simp [hi])
        have he : ((List.range n).map R).flatten = (List.range n).flatMap fun i => if i < n then R i else List.replicate C (.int .i64 0) := by
          rw [← List.flatMap_def]
          exact Go.Deep.flatMap_congr_range (fun i hi => by simp [hi])
        rw [he] at hu
        rw [← hdiv, hu] at hg
        rw [List.getElem?_eq_getElem (by rw [hlen _ hi]; exact hmod)]
        exact hg.symm
      have := hcell _ hi _ _ hu'
      rw [← hdiv] at this
      by_cases hz : j = 0 <;> simpa [Addr.add, hz] using this
theorem rows_typed {τ : Type} (en : τ → List Value) (ok : τ → Prop) : ∀ rows : List (List Value), (∀ r ∈ rows, ∃ t, r = en t ∧ ok t) → ∃ l : List τ, rows.flatten = l.flatMap en ∧ l.length = rows.length ∧ ∀ t ∈ l, ok t := by
  intro rows
  induction rows with
  | nil => intro _; exact ⟨[], rfl, rfl, by simp⟩
  | cons r rs ih =>
    intro h
    obtain ⟨t, rfl, ht⟩ := h r (by simp)
    obtain ⟨l, he, hl, hok⟩ := ih (fun r hr => h r (by simp [hr]))
    exact ⟨t :: l, by rw [List.flatten_cons, he, List.flatMap_cons], by simp [hl], by simpa [ht] using hok⟩
end
end Go.Proofs.Ytooifamckccadaa
