/- Verdicts and modes behind one command, of the program and of the reference; draws of modes and commands: walks. -/
import Derived.Test.YtakchdkoildkbaaDoorRu
import Derived.Test.YtakchdkoildkbaaDoorDr
namespace Go.Proofs.YtakchdkoildkbaaDoor
open Go.ChangeShapes Go.WideShapes Go.ChangeAt Go.RowKit
set_option maxRecDepth 20000
set_option linter.unusedVariables false
set_option linter.unusedSimpArgs false
def cvC (a r m : Int) : Int := if cmdB a r then (if inB m 0 5 then 0 else 2) else 1
def cvV (a r : Int) (b : Bool) (m : Int) : Int := if cvC a r m = 0 then verd a.toNat m r b else 0
def cvM (a r : Int) (b : Bool) (m : Int) : Int := if cvC a r m = 0 then nextK a.toNat m r b else 0
theorem cv_cases (a r : Int) (b : Bool) (m : Int) : (cmdB a r = false ∧ cvC a r m = 1 ∧ cvV a r b m = 0 ∧ cvM a r b m = 0) ∨ (cmdB a r = true ∧ inB m 0 5 = false ∧ cvC a r m = 2 ∧ cvV a r b m = 0 ∧ cvM a r b m = 0) ∨
    (cmdB a r = true ∧ inB m 0 5 = true ∧ cvC a r m = 0 ∧ ∃ k : Nat, k < 10 ∧ a = (k : Int) ∧ cvV a r b m = verd k m r b ∧ cvM a r b m = nextK k m r b) := by
  cases h : cmdB a r with
  | false => left; have hc : cvC a r m = 1 := by simp [cvC, h]
             exact ⟨rfl, hc, by simp [cvV, hc], by simp [cvM, hc]⟩
  | true =>
    right
    cases hq : inB m 0 5 with
    | false => left; have hc : cvC a r m = 2 := by simp [cvC, h, hq]
               exact ⟨rfl, rfl, hc, by simp [cvV, hc], by simp [cvM, hc]⟩
    | true =>
      right
      have hc : cvC a r m = 0 := by simp [cvC, h, hq]
      obtain ⟨h1, h2⟩ := cmdB_nat (t := (a, r, b)) h
      exact ⟨rfl, rfl, hc, a.toNat, h1, h2, by simp [cvV, hc], by simp [cvM, hc]⟩
theorem mode_bds {m : Int} (h : inB m 0 5 = true) : 0 ≤ m ∧ m ≤ 5 := by
  unfold inB at h
  simpa using h
theorem rd_cmd (g : Nat) (w : World) (a r : Int) (b : Bool) (hg : g = w.heap.size) : Rd (w.alloc (.cells #[.int .i64 a, .int .i64 r, .bool b] 31)) (g + 1) (some ⟨g, 0, none⟩) ([(a, r, b)].flatMap eCommand) := by subst hg; exact rd_newL _ _ _ _ rfl
theorem l27Code_any (a r : Int) (b : Bool) (m : Int) (x q : Bool) (v : Int) (hx : cmdB a r = x) (hq : inB m 0 5 = q) (hv : (if x then (if q then 0 else 2) else 1) = v) (w : World) :
   Calls Tryd.prog 45 #[.int .i64 m, .agg #[.int .i64 a, .int .i64 r, .bool b]] w fun e w' => e = .returned (.int .i64 v) ∧ Below w.heap.size w w' := by
  subst hv
  have Hx := Lib.hid hx
  have Hq := Lib.hid hq
  clear hx hq
  cases x <;> cases q <;> go_enter Tryd.func45, Tryd.ntmps45
  · go_wp2_with (first | (go_at_call 20; refine (isCmd_spec_r a r b false Hx.out _).mono ?_; rintro e w1 ⟨rfl, hb⟩) | (go_at_call 34; refine (l27Mode_r m false Hq.out _).mono ?_; rintro e w' ⟨rfl, rfl⟩))
    go_ret
    exact ⟨rfl, by repeat' (first | (with_reducible exact Below.refl _ _) | (with_reducible assumption) | (with_reducible refine Below.alloc ?_ ?_ _) | (with_reducible refine Below.drew ?_) | (with_reducible refine below_drewN ?_ _) | (with_reducible refine Below.setCell ?_ ?_ _) | (with_reducible refine Below.trans ?_ (Below.mono (by assumption) ?_)) | go_size | (exact Below.size (by assumption)))⟩
  · go_wp2_with (first | (go_at_call 20; refine (isCmd_spec_r a r b false Hx.out _).mono ?_; rintro e w1 ⟨rfl, hb⟩) | (go_at_call 34; refine (l27Mode_r m true Hq.out _).mono ?_; rintro e w' ⟨rfl, rfl⟩))
    go_ret
    exact ⟨rfl, by repeat' (first | (with_reducible exact Below.refl _ _) | (with_reducible assumption) | (with_reducible refine Below.alloc ?_ ?_ _) | (with_reducible refine Below.drew ?_) | (with_reducible refine below_drewN ?_ _) | (with_reducible refine Below.setCell ?_ ?_ _) | (with_reducible refine Below.trans ?_ (Below.mono (by assumption) ?_)) | go_size | (exact Below.size (by assumption)))⟩
  · go_wp2_with (first | (go_at_call 20; refine (isCmd_spec_r a r b true Hx.out _).mono ?_; rintro e w1 ⟨rfl, hb⟩) | (go_at_call 34; refine (l27Mode_r m false Hq.out _).mono ?_; rintro e w' ⟨rfl, rfl⟩))
    go_ret
    exact ⟨rfl, by repeat' (first | (with_reducible exact Below.refl _ _) | (with_reducible assumption) | (with_reducible refine Below.alloc ?_ ?_ _) | (with_reducible refine Below.drew ?_) | (with_reducible refine below_drewN ?_ _) | (with_reducible refine Below.setCell ?_ ?_ _) | (with_reducible refine Below.trans ?_ (Below.mono (by assumption) ?_)) | go_size | (exact Below.size (by assumption)))⟩
  · go_wp2_with (first | (go_at_call 20; refine (isCmd_spec_r a r b true Hx.out _).mono ?_; rintro e w1 ⟨rfl, hb⟩) | (go_at_call 34; refine (l27Mode_r m true Hq.out _).mono ?_; rintro e w' ⟨rfl, rfl⟩))
    go_ret
    exact ⟨rfl, by repeat' (first | (with_reducible exact Below.refl _ _) | (with_reducible assumption) | (with_reducible refine Below.alloc ?_ ?_ _) | (with_reducible refine Below.drew ?_) | (with_reducible refine below_drewN ?_ _) | (with_reducible refine Below.setCell ?_ ?_ _) | (with_reducible refine Below.trans ?_ (Below.mono (by assumption) ?_)) | go_size | (exact Below.size (by assumption)))⟩
theorem cmdVerdict_impl (a r : Int) (b : Bool) (m : Int) (w : World) (B : Nat) (hT : Rd w B (some ⟨0, 0, none⟩) tabL) (hB : B ≤ w.heap.size) :
   Calls Tryd.prog 15 #[.int .i64 m, .agg #[.int .i64 a, .int .i64 r, .bool b]] w fun e w' => e = .returned (.tuple #[.int .i64 (cvV a r b m), .int .i64 (cvC a r m)]) ∧ Below w.heap.size w w' := by
  rcases cv_cases a r b m with ⟨h1, h2, h3, h4⟩ | ⟨h1, h5, h2, h3, h4⟩ | ⟨h1, h5, h2, k, hk, rfl, h3, h4⟩
  · rw [h2, h3]
    have H1 := Lib.hid h1
    obtain ⟨qq, hqq⟩ : ∃ q, inB m 0 5 = q := ⟨_, rfl⟩
    have HQ := Lib.hid hqq
    clear h1 h2 h3 h4 hqq
    clear hT
    go_enter Tryd.func15, Tryd.ntmps15
    go_wp2_with (first | (go_at_call 43; refine (cmdCode_any [(a, r, b)] m 1 false qq (by simp [okC, H1.out]) HQ.out (by cases qq <;> rfl) _ _ 1 _ (rd_cmd (w.heap.size + 1) _ _ _ _ (by simp)) (by simp) (by simp)).mono ?_; rintro e w1 ⟨rfl, hb⟩; obtain ⟨hc, hf, hz⟩ := bstep (N := w.heap.size + 1) (by go_size) hb; have hz1 : w.heap.size < w1.heap.size := hz; have hb1 := Below.trans (show Below w.heap.size w _ by repeat' (first | (with_reducible exact Below.refl _ _) | (with_reducible assumption) | (with_reducible refine Below.alloc ?_ ?_ _) | (with_reducible refine Below.drew ?_) | (with_reducible refine below_drewN ?_ _) | (with_reducible refine Below.setCell ?_ ?_ _) | (with_reducible refine Below.trans ?_ (Below.mono (by assumption) ?_)) | go_size | (exact Below.size (by assumption)))) (hb.mono (by go_size))))
    go_ret2
    exact ⟨rfl, hb1⟩
  · rw [h2, h3]
    have H1 := Lib.hid h1
    have H5 := Lib.hid h5
    clear h1 h2 h3 h4 h5
    clear hT
    go_enter Tryd.func15, Tryd.ntmps15
    go_wp2_with (first | (go_at_call 43; refine (cmdCode_any [(a, r, b)] m 2 true false (by simp [okC, H1.out]) H5.out (by rfl) _ _ 1 _ (rd_cmd (w.heap.size + 1) _ _ _ _ (by simp)) (by simp) (by simp)).mono ?_; rintro e w1 ⟨rfl, hb⟩; obtain ⟨hc, hf, hz⟩ := bstep (N := w.heap.size + 1) (by go_size) hb; have hz1 : w.heap.size < w1.heap.size := hz; have hb1 := Below.trans (show Below w.heap.size w _ by repeat' (first | (with_reducible exact Below.refl _ _) | (with_reducible assumption) | (with_reducible refine Below.alloc ?_ ?_ _) | (with_reducible refine Below.drew ?_) | (with_reducible refine below_drewN ?_ _) | (with_reducible refine Below.setCell ?_ ?_ _) | (with_reducible refine Below.trans ?_ (Below.mono (by assumption) ?_)) | go_size | (exact Below.size (by assumption)))) (hb.mono (by go_size))))
    go_ret2
    exact ⟨rfl, hb1⟩
  · rw [h2, h3]
    have H1 := Lib.hid h1
    have H5 := Lib.hid h5
    obtain ⟨m0, m5⟩ := mode_bds h5
    clear h1 h2 h3 h4 h5
    generalize hx : verd k m r b = vv
    have HC : ∀ w' : World, w.heap.size ≤ w'.heap.size → Below w.heap.size w w' → Calls Tryd.prog 44 #[.agg #[.int .i64 k, .int .i64 r, .bool b], .int .i64 m] w' fun e w2 => e = .returned (.int .i64 vv) ∧ Below w'.heap.size w' w2 := fun w' h1 h2 => hx ▸ verdict_impl k hk m r b m0 m5 w' B (hT.below h2 hB) (by omega)
    have HC2 := Lib.hid HC
    clear HC hx m0 m5
    clear hT
    go_enter Tryd.func15, Tryd.ntmps15
    go_wp2_with (first | (go_at_call 43; refine (cmdCode_any [((k : Int), r, b)] m 0 true true (by simp [okC, H1.out]) H5.out (by rfl) _ _ 1 _ (rd_cmd (w.heap.size + 1) _ _ _ _ (by simp)) (by simp) (by simp)).mono ?_; rintro e w1 ⟨rfl, hb⟩; obtain ⟨hc, hf, hz⟩ := bstep (N := w.heap.size + 1) (by go_size) hb; have hz1 : w.heap.size < w1.heap.size := hz; have hb1 := Below.trans (show Below w.heap.size w _ by repeat' (first | (with_reducible exact Below.refl _ _) | (with_reducible assumption) | (with_reducible refine Below.alloc ?_ ?_ _) | (with_reducible refine Below.drew ?_) | (with_reducible refine below_drewN ?_ _) | (with_reducible refine Below.setCell ?_ ?_ _) | (with_reducible refine Below.trans ?_ (Below.mono (by assumption) ?_)) | go_size | (exact Below.size (by assumption)))) (hb.mono (by go_size))) | (go_at_call 44; refine (HC2.out _ (by omega) hb1).mono ?_; rintro e w2 ⟨rfl, hb2⟩; have hb3 := Below.trans hb1 (hb2.mono (by omega))))
    go_ret2
    exact ⟨rfl, hb3⟩
theorem nextMode_impl (a r : Int) (b : Bool) (m : Int) (w : World) (B : Nat) (hT : Rd w B (some ⟨0, 0, none⟩) tabL) (hB : B ≤ w.heap.size) :
   Calls Tryd.prog 17 #[.int .i64 m, .agg #[.int .i64 a, .int .i64 r, .bool b]] w fun e w' => e = .returned (.tuple #[.int .i64 (cvM a r b m), .int .i64 (cvC a r m)]) ∧ Below w.heap.size w w' := by
  rcases cv_cases a r b m with ⟨h1, h2, h3, h4⟩ | ⟨h1, h5, h2, h3, h4⟩ | ⟨h1, h5, h2, k, hk, rfl, h3, h4⟩
  · rw [h2, h4]
    have H1 := Lib.hid h1
    obtain ⟨qq, hqq⟩ : ∃ q, inB m 0 5 = q := ⟨_, rfl⟩
    have HQ := Lib.hid hqq
    clear h1 h2 h3 h4 hqq
    clear hT
    go_enter Tryd.func17, Tryd.ntmps17
    go_wp2_with (first | (go_at_call 43; refine (cmdCode_any [(a, r, b)] m 1 false qq (by simp [okC, H1.out]) HQ.out (by cases qq <;> rfl) _ _ 1 _ (rd_cmd (w.heap.size + 1) _ _ _ _ (by simp)) (by simp) (by simp)).mono ?_; rintro e w1 ⟨rfl, hb⟩; obtain ⟨hc, hf, hz⟩ := bstep (N := w.heap.size + 1) (by go_size) hb; have hz1 : w.heap.size < w1.heap.size := hz; have hb1 := Below.trans (show Below w.heap.size w _ by repeat' (first | (with_reducible exact Below.refl _ _) | (with_reducible assumption) | (with_reducible refine Below.alloc ?_ ?_ _) | (with_reducible refine Below.drew ?_) | (with_reducible refine below_drewN ?_ _) | (with_reducible refine Below.setCell ?_ ?_ _) | (with_reducible refine Below.trans ?_ (Below.mono (by assumption) ?_)) | go_size | (exact Below.size (by assumption)))) (hb.mono (by go_size))))
    go_ret2
    exact ⟨rfl, hb1⟩
  · rw [h2, h4]
    have H1 := Lib.hid h1
    have H5 := Lib.hid h5
    clear h1 h2 h3 h4 h5
    clear hT
    go_enter Tryd.func17, Tryd.ntmps17
    go_wp2_with (first | (go_at_call 43; refine (cmdCode_any [(a, r, b)] m 2 true false (by simp [okC, H1.out]) H5.out (by rfl) _ _ 1 _ (rd_cmd (w.heap.size + 1) _ _ _ _ (by simp)) (by simp) (by simp)).mono ?_; rintro e w1 ⟨rfl, hb⟩; obtain ⟨hc, hf, hz⟩ := bstep (N := w.heap.size + 1) (by go_size) hb; have hz1 : w.heap.size < w1.heap.size := hz; have hb1 := Below.trans (show Below w.heap.size w _ by repeat' (first | (with_reducible exact Below.refl _ _) | (with_reducible assumption) | (with_reducible refine Below.alloc ?_ ?_ _) | (with_reducible refine Below.drew ?_) | (with_reducible refine below_drewN ?_ _) | (with_reducible refine Below.setCell ?_ ?_ _) | (with_reducible refine Below.trans ?_ (Below.mono (by assumption) ?_)) | go_size | (exact Below.size (by assumption)))) (hb.mono (by go_size))))
    go_ret2
    exact ⟨rfl, hb1⟩
  · rw [h2, h4]
    have H1 := Lib.hid h1
    have H5 := Lib.hid h5
    obtain ⟨m0, m5⟩ := mode_bds h5
    clear h1 h2 h3 h4 h5
    generalize hx : nextK k m r b = vv
    have HC : ∀ w' : World, w.heap.size ≤ w'.heap.size → Below w.heap.size w w' → Calls Tryd.prog 47 #[.agg #[.int .i64 k, .int .i64 r, .bool b], .int .i64 m] w' fun e w2 => e = .returned (.int .i64 vv) ∧ Below w'.heap.size w' w2 := fun w' h1 h2 => hx ▸ next_impl k hk m r b m0 m5 w' B (hT.below h2 hB) (by omega)
    have HC2 := Lib.hid HC
    clear HC hx m0 m5
    clear hT
    go_enter Tryd.func17, Tryd.ntmps17
    go_wp2_with (first | (go_at_call 43; refine (cmdCode_any [((k : Int), r, b)] m 0 true true (by simp [okC, H1.out]) H5.out (by rfl) _ _ 1 _ (rd_cmd (w.heap.size + 1) _ _ _ _ (by simp)) (by simp) (by simp)).mono ?_; rintro e w1 ⟨rfl, hb⟩; obtain ⟨hc, hf, hz⟩ := bstep (N := w.heap.size + 1) (by go_size) hb; have hz1 : w.heap.size < w1.heap.size := hz; have hb1 := Below.trans (show Below w.heap.size w _ by repeat' (first | (with_reducible exact Below.refl _ _) | (with_reducible assumption) | (with_reducible refine Below.alloc ?_ ?_ _) | (with_reducible refine Below.drew ?_) | (with_reducible refine below_drewN ?_ _) | (with_reducible refine Below.setCell ?_ ?_ _) | (with_reducible refine Below.trans ?_ (Below.mono (by assumption) ?_)) | go_size | (exact Below.size (by assumption)))) (hb.mono (by go_size))) | (go_at_call 47; refine (HC2.out _ (by omega) hb1).mono ?_; rintro e w2 ⟨rfl, hb2⟩; have hb3 := Below.trans hb1 (hb2.mono (by omega))))
    go_ret2
    exact ⟨rfl, hb3⟩
theorem cmdVerdict_spec (a r : Int) (b : Bool) (m : Int) (w : World) (B : Nat) :
   Calls Tryd.prog 16 #[.int .i64 m, .agg #[.int .i64 a, .int .i64 r, .bool b]] w fun e w' => e = .returned (.tuple #[.int .i64 (cvV a r b m), .int .i64 (cvC a r m)]) ∧ Below w.heap.size w w' := by
  rcases cv_cases a r b m with ⟨h1, h2, h3, h4⟩ | ⟨h1, h5, h2, h3, h4⟩ | ⟨h1, h5, h2, k, hk, rfl, h3, h4⟩
  · rw [h2, h3]
    have H1 := Lib.hid h1
    clear h1 h2 h3 h4
    go_enter Tryd.func16, Tryd.ntmps16
    go_wp2_with (first | (go_at_call 45; refine (l27Code_any a r b m false (inB m 0 5) 1 H1.out rfl rfl _).mono ?_; rintro e w1 ⟨rfl, hb⟩; obtain ⟨hc, hf, hz⟩ := bstep (N := w.heap.size + 1) (by go_size) hb; have hz1 : w.heap.size < w1.heap.size := hz))
    go_ret2
    exact ⟨rfl, by repeat' (first | (with_reducible exact Below.refl _ _) | (with_reducible assumption) | (with_reducible refine Below.alloc ?_ ?_ _) | (with_reducible refine Below.drew ?_) | (with_reducible refine below_drewN ?_ _) | (with_reducible refine Below.setCell ?_ ?_ _) | (with_reducible refine Below.trans ?_ (Below.mono (by assumption) ?_)) | go_size | (exact Below.size (by assumption)))⟩
  · rw [h2, h3]
    have H1 := Lib.hid h1
    have H5 := Lib.hid h5
    clear h1 h2 h3 h4 h5
    go_enter Tryd.func16, Tryd.ntmps16
    go_wp2_with (first | (go_at_call 45; refine (l27Code_any a r b m true false 2 H1.out H5.out rfl _).mono ?_; rintro e w1 ⟨rfl, hb⟩; obtain ⟨hc, hf, hz⟩ := bstep (N := w.heap.size + 1) (by go_size) hb; have hz1 : w.heap.size < w1.heap.size := hz))
    go_ret2
    exact ⟨rfl, by repeat' (first | (with_reducible exact Below.refl _ _) | (with_reducible assumption) | (with_reducible refine Below.alloc ?_ ?_ _) | (with_reducible refine Below.drew ?_) | (with_reducible refine below_drewN ?_ _) | (with_reducible refine Below.setCell ?_ ?_ _) | (with_reducible refine Below.trans ?_ (Below.mono (by assumption) ?_)) | go_size | (exact Below.size (by assumption)))⟩
  · rw [h2, h3]
    have H1 := Lib.hid h1
    have H5 := Lib.hid h5
    obtain ⟨m0, m5⟩ := mode_bds h5
    clear h1 h2 h3 h4 h5
    generalize hx : verd k m r b = vv
    have HC : ∀ w' : World, Calls Tryd.prog 46 #[.int .i64 m, .agg #[.int .i64 k, .int .i64 r, .bool b]] w' fun e w2 => e = .returned (.int .i64 vv) ∧ Below w'.heap.size w' w2 := fun w' => hx ▸ verdict_spec k hk m r b w'
    have HC2 := Lib.hid HC
    clear HC hx m0 m5
    go_enter Tryd.func16, Tryd.ntmps16
    go_wp2_with (first | (go_at_call 45; refine (l27Code_any (k : Int) r b m true true 0 H1.out H5.out rfl _).mono ?_; rintro e w1 ⟨rfl, hb⟩; obtain ⟨hc, hf, hz⟩ := bstep (N := w.heap.size + 1) (by go_size) hb; have hz1 : w.heap.size < w1.heap.size := hz) | (go_at_call 46; refine (HC2.out _).mono ?_; rintro e w2 ⟨rfl, hb2⟩))
    go_ret2
    exact ⟨rfl, by repeat' (first | (with_reducible exact Below.refl _ _) | (with_reducible assumption) | (with_reducible refine Below.alloc ?_ ?_ _) | (with_reducible refine Below.drew ?_) | (with_reducible refine below_drewN ?_ _) | (with_reducible refine Below.setCell ?_ ?_ _) | (with_reducible refine Below.trans ?_ (Below.mono (by assumption) ?_)) | go_size | (exact Below.size (by assumption)))⟩
theorem nextMode_spec (a r : Int) (b : Bool) (m : Int) (w : World) (B : Nat) :
   Calls Tryd.prog 18 #[.int .i64 m, .agg #[.int .i64 a, .int .i64 r, .bool b]] w fun e w' => e = .returned (.tuple #[.int .i64 (cvM a r b m), .int .i64 (cvC a r m)]) ∧ Below w.heap.size w w' := by
  rcases cv_cases a r b m with ⟨h1, h2, h3, h4⟩ | ⟨h1, h5, h2, h3, h4⟩ | ⟨h1, h5, h2, k, hk, rfl, h3, h4⟩
  · rw [h2, h4]
    have H1 := Lib.hid h1
    clear h1 h2 h3 h4
    go_enter Tryd.func18, Tryd.ntmps18
    go_wp2_with (first | (go_at_call 45; refine (l27Code_any a r b m false (inB m 0 5) 1 H1.out rfl rfl _).mono ?_; rintro e w1 ⟨rfl, hb⟩; obtain ⟨hc, hf, hz⟩ := bstep (N := w.heap.size + 1) (by go_size) hb; have hz1 : w.heap.size < w1.heap.size := hz))
    go_ret2
    exact ⟨rfl, by repeat' (first | (with_reducible exact Below.refl _ _) | (with_reducible assumption) | (with_reducible refine Below.alloc ?_ ?_ _) | (with_reducible refine Below.drew ?_) | (with_reducible refine below_drewN ?_ _) | (with_reducible refine Below.setCell ?_ ?_ _) | (with_reducible refine Below.trans ?_ (Below.mono (by assumption) ?_)) | go_size | (exact Below.size (by assumption)))⟩
  · rw [h2, h4]
    have H1 := Lib.hid h1
    have H5 := Lib.hid h5
    clear h1 h2 h3 h4 h5
    go_enter Tryd.func18, Tryd.ntmps18
    go_wp2_with (first | (go_at_call 45; refine (l27Code_any a r b m true false 2 H1.out H5.out rfl _).mono ?_; rintro e w1 ⟨rfl, hb⟩; obtain ⟨hc, hf, hz⟩ := bstep (N := w.heap.size + 1) (by go_size) hb; have hz1 : w.heap.size < w1.heap.size := hz))
    go_ret2
    exact ⟨rfl, by repeat' (first | (with_reducible exact Below.refl _ _) | (with_reducible assumption) | (with_reducible refine Below.alloc ?_ ?_ _) | (with_reducible refine Below.drew ?_) | (with_reducible refine below_drewN ?_ _) | (with_reducible refine Below.setCell ?_ ?_ _) | (with_reducible refine Below.trans ?_ (Below.mono (by assumption) ?_)) | go_size | (exact Below.size (by assumption)))⟩
  · rw [h2, h4]
    have H1 := Lib.hid h1
    have H5 := Lib.hid h5
    obtain ⟨m0, m5⟩ := mode_bds h5
    clear h1 h2 h3 h4 h5
    generalize hx : nextK k m r b = vv
    have HC : ∀ w' : World, Calls Tryd.prog 48 #[.int .i64 m, .agg #[.int .i64 k, .int .i64 r, .bool b]] w' fun e w2 => e = .returned (.int .i64 vv) ∧ Below w'.heap.size w' w2 := fun w' => hx ▸ next_spec k hk m r b w'
    have HC2 := Lib.hid HC
    clear HC hx m0 m5
    go_enter Tryd.func18, Tryd.ntmps18
    go_wp2_with (first | (go_at_call 45; refine (l27Code_any (k : Int) r b m true true 0 H1.out H5.out rfl _).mono ?_; rintro e w1 ⟨rfl, hb⟩; obtain ⟨hc, hf, hz⟩ := bstep (N := w.heap.size + 1) (by go_size) hb; have hz1 : w.heap.size < w1.heap.size := hz) | (go_at_call 48; refine (HC2.out _).mono ?_; rintro e w2 ⟨rfl, hb2⟩))
    go_ret2
    exact ⟨rfl, by repeat' (first | (with_reducible exact Below.refl _ _) | (with_reducible assumption) | (with_reducible refine Below.alloc ?_ ?_ _) | (with_reducible refine Below.drew ?_) | (with_reducible refine below_drewN ?_ _) | (with_reducible refine Below.setCell ?_ ?_ _) | (with_reducible refine Below.trans ?_ (Below.mono (by assumption) ?_)) | go_size | (exact Below.size (by assumption)))⟩
end Go.Proofs.YtakchdkoildkbaaDoor
