/- Blocks: what holds trains, brakes, works: walks. -/
import Derived.Test.YtooifamckccadaaLm
import Derived.Test.YtooifamckccadaaP
import Derived.Test.YtooifamckccadaaDv
import Derived.Test.YtooifamckccadaaAl0
namespace Go.Proofs.Ytooifamckccadaa
open Go.ChangeShapes Go.WideShapes Go.ChangeAt Go.RowKit
set_option linter.unusedVariables false
set_option linter.unusedSimpArgs false
set_option maxRecDepth 20000
def holdB (k : Int) : Bool := (k == 1) || (k == 3) || (k == 4)
def brkB (k : Int) : Bool := (k == 3) || (k == 4)
def workP (t : Seg) : Ivl := (2 * ((t.2.2.2.2.2.1 + t.2.2.2.1) * t.2.1 + 9806 * t.2.2.1), 2 * ((t.2.2.2.2.2.2 + t.2.2.2.2.1) * t.2.1 + 9806 * t.2.2.1))
theorem prod2_bds {f len : Int} (h1 : 0 ≤ f) (h2 : f ≤ 40000) (h3 : 1 ≤ len) (h4 : len ≤ 200000) : 0 ≤ f * len ∧ f * len ≤ 8000000000 := by
  have a : 0 ≤ f * len := Int.mul_nonneg h1 (by omega)
  have b : f * len ≤ 40000 * 200000 := Int.mul_le_mul h2 h4 (by omega) (by omega)
  omega
theorem holds_impl (k len rise rl rh fl fh : Int) (w : World) : Calls Try.prog 189 #[.agg #[.int .i64 k, .int .i64 len, .int .i64 rise, .int .i64 rl, .int .i64 rh, .int .i64 fl, .int .i64 fh]] w fun e w' => e = .returned (.bool (holdB k)) ∧ Below w.heap.size w w' := by
  unfold holdB
  by_cases h1 : k = 1
  · subst h1
    go_enter Try.func189, Try.ntmps189
    go_wp2
    go_ret
    exact ⟨rfl, by repeat' (first | (with_reducible exact Below.refl _ _) | (with_reducible assumption) | (with_reducible refine Below.alloc ?_ ?_ _) | (with_reducible refine Below.drew ?_) | (with_reducible refine below_drewN ?_ _) | (with_reducible refine Below.setCell ?_ ?_ _) | (with_reducible refine Below.trans ?_ (Below.mono (by assumption) ?_)) | go_size | (exact Below.size (by assumption)))⟩
  have g1 : (k == 1) = false := by rw [beq_eq_false_iff_ne]; exact h1
  by_cases h3 : k = 3
  · subst h3
    go_enter Try.func189, Try.ntmps189
    go_wp2
    go_ret
    exact ⟨rfl, by repeat' (first | (with_reducible exact Below.refl _ _) | (with_reducible assumption) | (with_reducible refine Below.alloc ?_ ?_ _) | (with_reducible refine Below.drew ?_) | (with_reducible refine below_drewN ?_ _) | (with_reducible refine Below.setCell ?_ ?_ _) | (with_reducible refine Below.trans ?_ (Below.mono (by assumption) ?_)) | go_size | (exact Below.size (by assumption)))⟩
  have g3 : (k == 3) = false := by rw [beq_eq_false_iff_ne]; exact h3
  by_cases h4 : k = 4
  · subst h4
    go_enter Try.func189, Try.ntmps189
    go_wp2
    go_ret
    exact ⟨rfl, by repeat' (first | (with_reducible exact Below.refl _ _) | (with_reducible assumption) | (with_reducible refine Below.alloc ?_ ?_ _) | (with_reducible refine Below.drew ?_) | (with_reducible refine below_drewN ?_ _) | (with_reducible refine Below.setCell ?_ ?_ _) | (with_reducible refine Below.trans ?_ (Below.mono (by assumption) ?_)) | go_size | (exact Below.size (by assumption)))⟩
  have g4 : (k == 4) = false := by rw [beq_eq_false_iff_ne]; exact h4
  rw [g1, g3, g4]
  go_enter Try.func189, Try.ntmps189
  go_wp2
  go_ret
  exact ⟨rfl, by repeat' (first | (with_reducible exact Below.refl _ _) | (with_reducible assumption) | (with_reducible refine Below.alloc ?_ ?_ _) | (with_reducible refine Below.drew ?_) | (with_reducible refine below_drewN ?_ _) | (with_reducible refine Below.setCell ?_ ?_ _) | (with_reducible refine Below.trans ?_ (Below.mono (by assumption) ?_)) | go_size | (exact Below.size (by assumption)))⟩
theorem holds_spec (k len rise rl rh fl fh : Int) (w : World) : Calls Try.prog 177 #[.agg #[.int .i64 k, .int .i64 len, .int .i64 rise, .int .i64 rl, .int .i64 rh, .int .i64 fl, .int .i64 fh]] w fun e w' => e = .returned (.bool (holdB k)) ∧ Below w.heap.size w w' := by
  unfold holdB
  by_cases h1 : k = 1
  · subst h1
    go_enter Try.func177, Try.ntmps177
    go_wp2
    go_ret
    exact ⟨rfl, by repeat' (first | (with_reducible exact Below.refl _ _) | (with_reducible assumption) | (with_reducible refine Below.alloc ?_ ?_ _) | (with_reducible refine Below.drew ?_) | (with_reducible refine below_drewN ?_ _) | (with_reducible refine Below.setCell ?_ ?_ _) | (with_reducible refine Below.trans ?_ (Below.mono (by assumption) ?_)) | go_size | (exact Below.size (by assumption)))⟩
  have g1 : (k == 1) = false := by rw [beq_eq_false_iff_ne]; exact h1
  by_cases h3 : k = 3
  · subst h3
    go_enter Try.func177, Try.ntmps177
    go_wp2
    go_ret
    exact ⟨rfl, by repeat' (first | (with_reducible exact Below.refl _ _) | (with_reducible assumption) | (with_reducible refine Below.alloc ?_ ?_ _) | (with_reducible refine Below.drew ?_) | (with_reducible refine below_drewN ?_ _) | (with_reducible refine Below.setCell ?_ ?_ _) | (with_reducible refine Below.trans ?_ (Below.mono (by assumption) ?_)) | go_size | (exact Below.size (by assumption)))⟩
  have g3 : (k == 3) = false := by rw [beq_eq_false_iff_ne]; exact h3
  by_cases h4 : k = 4
  · subst h4
    go_enter Try.func177, Try.ntmps177
    go_wp2
    go_ret
    exact ⟨rfl, by repeat' (first | (with_reducible exact Below.refl _ _) | (with_reducible assumption) | (with_reducible refine Below.alloc ?_ ?_ _) | (with_reducible refine Below.drew ?_) | (with_reducible refine below_drewN ?_ _) | (with_reducible refine Below.setCell ?_ ?_ _) | (with_reducible refine Below.trans ?_ (Below.mono (by assumption) ?_)) | go_size | (exact Below.size (by assumption)))⟩
  have g4 : (k == 4) = false := by rw [beq_eq_false_iff_ne]; exact h4
  rw [g1, g3, g4]
  go_enter Try.func177, Try.ntmps177
  go_wp2
  go_ret
  exact ⟨rfl, by repeat' (first | (with_reducible exact Below.refl _ _) | (with_reducible assumption) | (with_reducible refine Below.alloc ?_ ?_ _) | (with_reducible refine Below.drew ?_) | (with_reducible refine below_drewN ?_ _) | (with_reducible refine Below.setCell ?_ ?_ _) | (with_reducible refine Below.trans ?_ (Below.mono (by assumption) ?_)) | go_size | (exact Below.size (by assumption)))⟩
theorem isBrake_impl (k len rise rl rh fl fh : Int) (w : World) : Calls Try.prog 91 #[.agg #[.int .i64 k, .int .i64 len, .int .i64 rise, .int .i64 rl, .int .i64 rh, .int .i64 fl, .int .i64 fh]] w fun e w' => e = .returned (.bool (brkB k)) ∧ Below w.heap.size w w' := by
  unfold brkB
  by_cases h3 : k = 3
  · subst h3
    go_enter Try.func91, Try.ntmps91
    go_wp2
    go_ret
    exact ⟨rfl, by repeat' (first | (with_reducible exact Below.refl _ _) | (with_reducible assumption) | (with_reducible refine Below.alloc ?_ ?_ _) | (with_reducible refine Below.drew ?_) | (with_reducible refine below_drewN ?_ _) | (with_reducible refine Below.setCell ?_ ?_ _) | (with_reducible refine Below.trans ?_ (Below.mono (by assumption) ?_)) | go_size | (exact Below.size (by assumption)))⟩
  have g3 : (k == 3) = false := by rw [beq_eq_false_iff_ne]; exact h3
  by_cases h4 : k = 4
  · subst h4
    go_enter Try.func91, Try.ntmps91
    go_wp2
    go_ret
    exact ⟨rfl, by repeat' (first | (with_reducible exact Below.refl _ _) | (with_reducible assumption) | (with_reducible refine Below.alloc ?_ ?_ _) | (with_reducible refine Below.drew ?_) | (with_reducible refine below_drewN ?_ _) | (with_reducible refine Below.setCell ?_ ?_ _) | (with_reducible refine Below.trans ?_ (Below.mono (by assumption) ?_)) | go_size | (exact Below.size (by assumption)))⟩
  have g4 : (k == 4) = false := by rw [beq_eq_false_iff_ne]; exact h4
  rw [g3, g4]
  go_enter Try.func91, Try.ntmps91
  go_wp2
  go_ret
  exact ⟨rfl, by repeat' (first | (with_reducible exact Below.refl _ _) | (with_reducible assumption) | (with_reducible refine Below.alloc ?_ ?_ _) | (with_reducible refine Below.drew ?_) | (with_reducible refine below_drewN ?_ _) | (with_reducible refine Below.setCell ?_ ?_ _) | (with_reducible refine Below.trans ?_ (Below.mono (by assumption) ?_)) | go_size | (exact Below.size (by assumption)))⟩
theorem isBrake_spec (k len rise rl rh fl fh : Int) (w : World) : Calls Try.prog 136 #[.agg #[.int .i64 k, .int .i64 len, .int .i64 rise, .int .i64 rl, .int .i64 rh, .int .i64 fl, .int .i64 fh]] w fun e w' => e = .returned (.bool (brkB k)) ∧ Below w.heap.size w w' := by
  unfold brkB
  by_cases h3 : k = 3
  · subst h3
    go_enter Try.func136, Try.ntmps136
    go_wp2
    go_ret
    exact ⟨rfl, by repeat' (first | (with_reducible exact Below.refl _ _) | (with_reducible assumption) | (with_reducible refine Below.alloc ?_ ?_ _) | (with_reducible refine Below.drew ?_) | (with_reducible refine below_drewN ?_ _) | (with_reducible refine Below.setCell ?_ ?_ _) | (with_reducible refine Below.trans ?_ (Below.mono (by assumption) ?_)) | go_size | (exact Below.size (by assumption)))⟩
  have g3 : (k == 3) = false := by rw [beq_eq_false_iff_ne]; exact h3
  by_cases h4 : k = 4
  · subst h4
    go_enter Try.func136, Try.ntmps136
    go_wp2
    go_ret
    exact ⟨rfl, by repeat' (first | (with_reducible exact Below.refl _ _) | (with_reducible assumption) | (with_reducible refine Below.alloc ?_ ?_ _) | (with_reducible refine Below.drew ?_) | (with_reducible refine below_drewN ?_ _) | (with_reducible refine Below.setCell ?_ ?_ _) | (with_reducible refine Below.trans ?_ (Below.mono (by assumption) ?_)) | go_size | (exact Below.size (by assumption)))⟩
  have g4 : (k == 4) = false := by rw [beq_eq_false_iff_ne]; exact h4
  rw [g3, g4]
  go_enter Try.func136, Try.ntmps136
  go_wp2
  go_ret
  exact ⟨rfl, by repeat' (first | (with_reducible exact Below.refl _ _) | (with_reducible assumption) | (with_reducible refine Below.alloc ?_ ?_ _) | (with_reducible refine Below.drew ?_) | (with_reducible refine below_drewN ?_ _) | (with_reducible refine Below.setCell ?_ ?_ _) | (with_reducible refine Below.trans ?_ (Below.mono (by assumption) ?_)) | go_size | (exact Below.size (by assumption)))⟩
theorem work_impl (k len rise rl rh fl fh : Int) (h : segB k len rise rl rh fl fh = true) (w : World) : Calls Try.prog 93 #[.agg #[.int .i64 k, .int .i64 len, .int .i64 rise, .int .i64 rl, .int .i64 rh, .int .i64 fl, .int .i64 fh]] w fun e w' => e = .returned (.agg #[.int .i64 (2 * ((fl + rl) * len + 9806 * rise)), .int .i64 (2 * ((fh + rh) * len + 9806 * rise))]) ∧ Below w.heap.size w w' := by
  obtain ⟨⟨k0, k4⟩, ⟨l1, l2⟩, ⟨r1, r2⟩, ⟨a0, a1, a2⟩, f0, f1, f2⟩ := seg_bds h
  have p1 := prod2_bds (f := fl + rl) (by omega) (by omega) l1 l2
  have p2 := prod2_bds (f := fh + rh) (by omega) (by omega) l1 l2
  have e1 : IntKind.i64.wrap (fl + rl) = fl + rl := IntWalk.i64_in _ (by omega)
  have e2 : IntKind.i64.wrap (fh + rh) = fh + rh := IntWalk.i64_in _ (by omega)
  have e3 : IntKind.i64.wrap ((fl + rl) * len) = (fl + rl) * len := IntWalk.i64_in _ (by omega)
  have e4 : IntKind.i64.wrap ((fh + rh) * len) = (fh + rh) * len := IntWalk.i64_in _ (by omega)
  have e5 : IntKind.i64.wrap (9806 * rise) = 9806 * rise := IntWalk.i64_in _ (by omega)
  have e6 : IntKind.i64.wrap ((fl + rl) * len + 9806 * rise) = (fl + rl) * len + 9806 * rise := IntWalk.i64_in _ (by omega)
  have e7 : IntKind.i64.wrap ((fh + rh) * len + 9806 * rise) = (fh + rh) * len + 9806 * rise := IntWalk.i64_in _ (by omega)
  have e8 : IntKind.i64.wrap (2 * ((fl + rl) * len + 9806 * rise)) = 2 * ((fl + rl) * len + 9806 * rise) := IntWalk.i64_in _ (by omega)
  have e9 : IntKind.i64.wrap (2 * ((fh + rh) * len + 9806 * rise)) = 2 * ((fh + rh) * len + 9806 * rise) := IntWalk.i64_in _ (by omega)
  clear k0 k4 l1 l2 r1 r2 a0 a1 a2 f0 f1 f2 p1 p2 h
  go_enter Try.func93, Try.ntmps93
  go_wp2
  refine bodyPost_ret (v := .agg #[.int .i64 (2 * ((fl + rl) * len + 9806 * rise)), .int .i64 (2 * ((fh + rh) * len + 9806 * rise))]) (by simp [results, Try.results93, go_sem, *]) rfl ?_
  exact ⟨rfl, by repeat' (first | (with_reducible exact Below.refl _ _) | (with_reducible assumption) | (with_reducible refine Below.alloc ?_ ?_ _) | (with_reducible refine Below.drew ?_) | (with_reducible refine below_drewN ?_ _) | (with_reducible refine Below.setCell ?_ ?_ _) | (with_reducible refine Below.trans ?_ (Below.mono (by assumption) ?_)) | go_size | (exact Below.size (by assumption)))⟩
theorem work_spec (k len rise rl rh fl fh : Int) (h : segB k len rise rl rh fl fh = true) (w : World) : Calls Try.prog 138 #[.agg #[.int .i64 k, .int .i64 len, .int .i64 rise, .int .i64 rl, .int .i64 rh, .int .i64 fl, .int .i64 fh]] w fun e w' => e = .returned (.agg #[.int .i64 (2 * ((fl + rl) * len + 9806 * rise)), .int .i64 (2 * ((fh + rh) * len + 9806 * rise))]) ∧ Below w.heap.size w w' := by
  obtain ⟨⟨k0, k4⟩, ⟨l1, l2⟩, ⟨r1, r2⟩, ⟨a0, a1, a2⟩, f0, f1, f2⟩ := seg_bds h
  have p1 := prod2_bds (f := fl + rl) (by omega) (by omega) l1 l2
  have p2 := prod2_bds (f := fh + rh) (by omega) (by omega) l1 l2
  have e1 : IntKind.i64.wrap (fl + rl) = fl + rl := IntWalk.i64_in _ (by omega)
  have e2 : IntKind.i64.wrap (fh + rh) = fh + rh := IntWalk.i64_in _ (by omega)
  have e3 : IntKind.i64.wrap ((fl + rl) * len) = (fl + rl) * len := IntWalk.i64_in _ (by omega)
  have e4 : IntKind.i64.wrap ((fh + rh) * len) = (fh + rh) * len := IntWalk.i64_in _ (by omega)
  have e5 : IntKind.i64.wrap (9806 * rise) = 9806 * rise := IntWalk.i64_in _ (by omega)
  have e6 : IntKind.i64.wrap ((fl + rl) * len + 9806 * rise) = (fl + rl) * len + 9806 * rise := IntWalk.i64_in _ (by omega)
  have e7 : IntKind.i64.wrap ((fh + rh) * len + 9806 * rise) = (fh + rh) * len + 9806 * rise := IntWalk.i64_in _ (by omega)
  have e8 : IntKind.i64.wrap (2 * ((fl + rl) * len + 9806 * rise)) = 2 * ((fl + rl) * len + 9806 * rise) := IntWalk.i64_in _ (by omega)
  have e9 : IntKind.i64.wrap (2 * ((fh + rh) * len + 9806 * rise)) = 2 * ((fh + rh) * len + 9806 * rise) := IntWalk.i64_in _ (by omega)
  clear k0 k4 l1 l2 r1 r2 a0 a1 a2 f0 f1 f2 p1 p2 h
  go_enter Try.func138, Try.ntmps138
  go_wp2
  refine bodyPost_ret (v := .agg #[.int .i64 (2 * ((fl + rl) * len + 9806 * rise)), .int .i64 (2 * ((fh + rh) * len + 9806 * rise))]) (by simp [results, Try.results138, go_sem, *]) rfl ?_
  exact ⟨rfl, by repeat' (first | (with_reducible exact Below.refl _ _) | (with_reducible assumption) | (with_reducible refine Below.alloc ?_ ?_ _) | (with_reducible refine Below.drew ?_) | (with_reducible refine below_drewN ?_ _) | (with_reducible refine Below.setCell ?_ ?_ _) | (with_reducible refine Below.trans ?_ (Below.mono (by assumption) ?_)) | go_size | (exact Below.size (by assumption)))⟩
def segV (t : Seg) : Value := .agg #[.int .i64 t.1, .int .i64 t.2.1, .int .i64 t.2.2.1, .int .i64 t.2.2.2.1, .int .i64 t.2.2.2.2.1, .int .i64 t.2.2.2.2.2.1, .int .i64 t.2.2.2.2.2.2]
def endP (ls : List Seg) (fs : List Int) (b : Nat) : Int := match fs[b + 1]? with | some x => x | none => ls.length
def blk1 (ls : List Seg) (x : Int) : Bool := holdB (kindAt ls (x - 1))
def blkB (ls : List Seg) (fs : List Int) : Bool := (inB fs.length 2 8 && (fs.head? == some 0)) && (risB fs ls.length && (fs.drop 1).all (blk1 ls))
theorem blk1_any (x : Int) (ls : List Seg) (Al : Option Addr) (cl cb B : Nat) (w : World) (hcw : w.cell? ⟨cb, 0, none⟩ = some (.slice Al ls.length cl)) (hs : Rd w B Al (ls.flatMap eSegment)) (hi : 1 ≤ x ∧ x ≤ ls.length) (hn : ls.length ≤ 1048576) :
   Calls Try.prog 188 #[.int .i64 x, .pointer (some ⟨cb, 0, none⟩)] w fun e w' => e = .returned (.bool (!blk1 ls x)) ∧ Below w.heap.size w w' := by
  obtain ⟨j, rfl⟩ : ∃ j : Nat, x = ((j + 1 : Nat) : Int) := ⟨(x - 1).toNat, by omega⟩
  have hj : j < ls.length := by omega
  have ht := List.getElem?_eq_getElem hj
  generalize ls[j] = t at ht
  obtain ⟨b, o, rfl, hbB, c0, c1, c2, c3, c4, c5, c6⟩ := hs.atSegment ht
  have hka := kindAt_nat ht
  have hx1 : (((j + 1 : Nat) : Int)) - 1 = (j : Int) := by omega
  have hb1 : blk1 ls ((j + 1 : Nat) : Int) = holdB t.1 := by rw [blk1, hx1, hka]
  have Hb1 := Lib.hid hb1
  have hi0 : (0 : Int) ≤ (j : Int) := by omega
  have hi1 : (j : Int) < (ls.length : Int) := by omega
  clear ht hs hka hb1
  go_enter Try.func188, Try.ntmps188
  go_wp2_with (go_at_call 189; refine (holds_impl _ _ _ _ _ _ _ _).mono ?_; rintro e w1 ⟨rfl, hb⟩)
  go_ret
  exact ⟨ret_bool (by rw [Hb1.out]), by repeat' (first | (with_reducible exact Below.refl _ _) | (with_reducible assumption) | (with_reducible refine Below.alloc ?_ ?_ _) | (with_reducible refine Below.drew ?_) | (with_reducible refine below_drewN ?_ _) | (with_reducible refine Below.setCell ?_ ?_ _) | (with_reducible refine Below.trans ?_ (Below.mono (by assumption) ?_)) | go_size | (exact Below.size (by assumption)))⟩
def In1 (l : List Int) (n : Nat) : Prop := ∀ (k : Nat) (x : Int), l[k]? = some x → 1 ≤ x ∧ x ≤ n
theorem idxBlk1 (l : List (Int)) (A : Option Addr) (B c : Nat) (ls : List Seg) (Al : Option Addr) (cl : Nat) (cb : Nat) (w : World) (hr : Rd w B A (ints l)) (hB : B ≤ w.heap.size) (hn : l.length ≤ 1048576) (hcap : w.cell? ⟨cb, 0, none⟩ = some (.slice Al ls.length cl)) (hcb : cb < w.heap.size) (hseg : Rd w w.heap.size Al (ls.flatMap eSegment)) (hrg : In1 l ls.length) (hln : ls.length ≤ 1048576) :
   Calls Try.prog 175 #[.slice A l.length c, .func (Fn.func 188) #[] #[.pointer (some ⟨cb, 0, none⟩)]] w fun e w' => e = .returned (.int .i64 (idxB (fun x => !blk1 ls x) l)) ∧ Below w.heap.size w w' := by
  go_enter Try.func175, Try.ntmps175
  go_wp2_with fail
  have HSG := Lib.hid hseg
  have HRG := Lib.hid hrg
  clear hseg hrg
  go_loopw [8] (fun i wr => ∃ k : Nat, k ≤ l.length ∧ i = .int .i64 k ∧ (l.take k).any (fun x => !blk1 ls x) = false ∧ Below w.heap.size w wr) (fun i _ => l.length - (intOf i).toNat)
  case atStart => exact ⟨0, Nat.zero_le _, rfl, by simp, Below.refl _ _⟩
  case round =>
    obtain ⟨k, hk, rfl, hall, hbw⟩ := hrel
    by_cases hlt : k < l.length
    · have ht := List.getElem?_eq_getElem hlt
      generalize l[k] = t at ht
      have hsz := hbw.size
      have hcw := (hbw.cell (p := ⟨cb, 0, none⟩) hcb).trans hcap
      have hsw := HSG.out.below hbw (Nat.le_refl _)
      have HSW := Lib.hid hsw
      clear hsw
      have hr' := hr.below hbw hB
      obtain ⟨b, o, rfl, _, c0⟩ := hr'.int ht
      have Ht := Lib.hid ht
      have Ha := Lib.hid hall
      have Hr := Lib.hid hr
      have Hr' := Lib.hid hr'
      clear ht hall hr hr'
      go_wp2_with (go_at_call 188; refine (blk1_any _ ls Al cl cb _ _ hcw HSW.out (HRG.out _ _ Ht.out) hln).mono ?_; rintro e w1 ⟨rfl, hb⟩)
      · go_ret
        exact ⟨ret_int (by rw [idxB_here _ _ Ht.out Ha.out (by simp_all)]), by repeat' (first | (with_reducible exact Below.refl _ _) | (with_reducible assumption) | (with_reducible refine Below.alloc ?_ ?_ _) | (with_reducible refine Below.drew ?_) | (with_reducible refine below_drewN ?_ _) | (with_reducible refine Below.setCell ?_ ?_ _) | (with_reducible refine Below.trans ?_ (Below.mono (by assumption) ?_)) | go_size | (exact Below.size (by assumption)))⟩
      · go_roundw
        case rel => exact ⟨k + 1, by omega, by go_num, by rw [any_step _ _ Ht.out, Ha.out]; simp_all, by repeat' (first | (with_reducible exact Below.refl _ _) | (with_reducible assumption) | (with_reducible refine Below.alloc ?_ ?_ _) | (with_reducible refine Below.drew ?_) | (with_reducible refine below_drewN ?_ _) | (with_reducible refine Below.setCell ?_ ?_ _) | (with_reducible refine Below.trans ?_ (Below.mono (by assumption) ?_)) | go_size | (exact Below.size (by assumption)))⟩
        case measure => simp [intOf]; omega
    · have hk' : k = l.length := by omega
      subst hk'
      rw [List.take_length] at hall
      have Ha := Lib.hid hall
      clear hall
      go_wp2
      go_ret
      exact ⟨ret_int (by rw [idxB_none _ _ Ha.out]), by repeat' (first | (with_reducible exact Below.refl _ _) | (with_reducible assumption) | (with_reducible refine Below.alloc ?_ ?_ _) | (with_reducible refine Below.drew ?_) | (with_reducible refine below_drewN ?_ _) | (with_reducible refine Below.setCell ?_ ?_ _) | (with_reducible refine Below.trans ?_ (Below.mono (by assumption) ?_)) | go_size | (exact Below.size (by assumption)))⟩
theorem conBlk1 (l : List (Int)) (A : Option Addr) (B c : Nat) (ls : List Seg) (Al : Option Addr) (cl : Nat) (cb : Nat) (w : World) (hr : Rd w B A (ints l)) (hB : B ≤ w.heap.size) (hn : l.length ≤ 1048576) (hcap : w.cell? ⟨cb, 0, none⟩ = some (.slice Al ls.length cl)) (hcb : cb < w.heap.size) (hseg : Rd w w.heap.size Al (ls.flatMap eSegment)) (hrg : In1 l ls.length) (hln : ls.length ≤ 1048576) :
   Calls Try.prog 144 #[.slice A l.length c, .func (Fn.func 188) #[] #[.pointer (some ⟨cb, 0, none⟩)]] w fun e w' => e = .returned (.bool (l.any (fun x => !blk1 ls x))) ∧ Below w.heap.size w w' := by
  go_enter Try.func144, Try.ntmps144
  go_wp2_with (go_at_call 175; refine (idxBlk1 l A B c ls Al cl cb w hr hB hn hcap hcb hseg hrg hln).mono ?_; rintro e w1 ⟨rfl, hb⟩)
  go_ret
  exact ⟨ret_bool (idxB_any _ _), by repeat' (first | (with_reducible exact Below.refl _ _) | (with_reducible assumption) | (with_reducible refine Below.alloc ?_ ?_ _) | (with_reducible refine Below.drew ?_) | (with_reducible refine below_drewN ?_ _) | (with_reducible refine Below.setCell ?_ ?_ _) | (with_reducible refine Below.trans ?_ (Below.mono (by assumption) ?_)) | go_size | (exact Below.size (by assumption)))⟩
end Go.Proofs.Ytooifamckccadaa
