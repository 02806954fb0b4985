/- IsCaught: walks of the program and of the reference. -/
import Derived.Test.YtooifamckccadaaSv
namespace Go.Proofs.Ytooifamckccadaa
open Go.ChangeShapes Go.WideShapes Go.ChangeAt Go.RowKit
set_option maxRecDepth 20000
set_option linter.unusedVariables false
set_option linter.unusedSimpArgs false
theorem lastI_cons (e x : Ivl) (l : List Ivl) : lastI e (x :: l) = lastI x l := by
  unfold lastI
  cases l with
  | nil => rfl
  | cons a l =>
    rw [List.getLast?_cons_cons]
    cases h : (a :: l).getLast? with
    | none => rw [List.getLast?_eq_none_iff] at h; cases h
    | some y => rfl
theorem run_en {ls : List Seg} {on : List Int} (hl : layB ls = true) : ∀ (n k : Nat) (e : Ivl), enB e.1 e.2 = true → enB (lastI e (runP ls on n k e).1).1 (lastI e (runP ls on n k e).1).2 = true
  | 0, _, e, h => by rw [runP_zero, lastI_nil]; exact h
  | n + 1, k, e, h => by
    have h3 := (lay_all hl).2.1
    have hlt : k % ls.length < ls.length := Nat.mod_lt _ (by omega)
    have ht := List.getElem?_eq_getElem hlt
    generalize ls[k % ls.length] = t at ht
    have hs := segT_at hl ht
    by_cases hb : badP (nextP on (k % ls.length) t e) = 0
    · rw [runP_ok ht hb]
      dsimp only
      rw [lastI_cons]
      exact run_en hl n _ _ (next_en hs h hb)
    · rw [runP_bad ht hb, lastI_nil]; exact h
def icB (ls : List Seg) (fs on : List Int) (b lo hi : Int) : Bool := (aeC ls fs on b lo hi == 0) && (((ls.getD (endP ls fs b.toNat - 1).toNat (0, 0, 0, 0, 0, 0, 0)).1 == 1) || ((svC (ls.getD (endP ls fs b.toNat - 1).toNat (0, 0, 0, 0, 0, 0, 0)) == 0) && (svV (ls.getD (endP ls fs b.toNat - 1).toNat (0, 0, 0, 0, 0, 0, 0)) (aeV ls fs on b lo hi) == 2)))
theorem ic_bad {ls : List Seg} {fs on : List Int} {b lo hi : Int} (h : aeC ls fs on b lo hi ≠ 0) : icB ls fs on b lo hi = false := by
  unfold icB; rw [show (aeC ls fs on b lo hi == 0) = false by simpa using h]; rfl
/-- what a train that is not refused finds: its block, the holding segment, an energy -/
theorem ic_good {ls : List Seg} {fs on : List Int} {b lo hi : Int} (h : aeC ls fs on b lo hi = 0) : ∃ (b' h' : Nat) (t : Seg), b = b' ∧ b' < fs.length ∧ endP ls fs b' = ((h' + 1 : Nat) : Int) ∧ ls[h']? = some t ∧ segT t = true ∧ enB (aeV ls fs on b lo hi).1 (aeV ls fs on b lo hi).2 = true ∧ icB ls fs on b lo hi = ((t.1 == 1) || ((svC t == 0) && (svV t (aeV ls fs on b lo hi) == 2))) := by
  have h0 : enC ls fs b lo hi = 0 := by
    rcases Decidable.em (enC ls fs b lo hi = 0) with h1 | h1
    · exact h1
    · rw [(ae_bad1 (on := on) h1).1] at h; exact absurd h h1
  have hd : devB ls on = true := by
    cases hd : devB ls on with
    | true => rfl
    | false => rw [(ae_bad2 h0 hd).1] at h; cases h
  obtain ⟨hlay, hblk, hen, b', rfl, hb'⟩ := enC_zero h0
  obtain ⟨f, n, hfb, hend, hfn⟩ := blk_nat hblk hb'
  obtain ⟨q1, q2⟩ := ae_good h0 hd hfb hend
  have ht := List.getElem?_eq_getElem hfn
  generalize ls[f + n] = t at ht
  have hv : aeV ls fs on b' lo hi = lastI (lo, hi) (runP ls on n f (lo, hi)).1 := by rw [q2, if_pos (by rw [← q1]; exact h)]
  refine ⟨b', f + n, t, rfl, hb', hend, ht, segT_at hlay ht, ?_, ?_⟩
  · rw [hv]; exact run_en hlay n f (lo, hi) hen
  · have e : ls.getD (endP ls fs ((b' : Int)).toNat - 1).toNat (0, 0, 0, 0, 0, 0, 0) = t := by
      rw [Int.toNat_natCast, hend, show (((f + n + 1 : Nat) : Int) - 1).toNat = f + n by omega, List.getD_eq_getElem?_getD, ht]; rfl
    unfold icB
    rw [e, h]; rfl
set_option maxHeartbeats 4000000 in
theorem caught_impl (ls : List Seg) (fs on : List Int) (b lo hi : Int) (A : Option Addr) (B c : Nat) (A' : Option Addr) (c' : Nat) (A3 : Option Addr) (c3 : Nat) (w : World) (hs : Rd w B A (ls.flatMap eSegment)) (hf : Rd w B A' (ints fs)) (hr : Rd w B A3 (ints on)) (hB : B ≤ w.heap.size) (hn : ls.length ≤ 1048576) (hn1 : fs.length ≤ 1048576) (hn2 : on.length ≤ 1048576) (hc : fs.length ≤ c') (hcm : c' ≤ 9223372036854775807) :
   Calls Try.prog 22 #[.agg #[.slice A ls.length c], .slice A' fs.length c', .int .i64 b, .agg #[.int .i64 lo, .int .i64 hi], .slice A3 on.length c3] w fun e w' => e = .returned (.bool (icB ls fs on b lo hi)) ∧ Below w.heap.size w w' := by
  have Hs := Lib.hid ((hs.alloc hB (.cells #[.slice A ls.length c] 26)).alloc (by simp; omega) (.cells #[.int .i64 lo, .int .i64 hi] 29))
  have Hf := Lib.hid ((hf.alloc hB (.cells #[.slice A ls.length c] 26)).alloc (by simp; omega) (.cells #[.int .i64 lo, .int .i64 hi] 29))
  have Hr := Lib.hid ((hr.alloc hB (.cells #[.slice A ls.length c] 26)).alloc (by simp; omega) (.cells #[.int .i64 lo, .int .i64 hi] 29))
  have hS : B ≤ ((w.alloc (.cells #[.slice A ls.length c] 26)).alloc (.cells #[.int .i64 lo, .int .i64 hi] 29)).heap.size := by simp; omega
  clear hs hf hr
  have HA := Lib.hid (fun (w' : World) (h : Rd w' B A (ls.flatMap eSegment)) (h1 : Rd w' B A' (ints fs)) (h2 : Rd w' B A3 (ints on)) (h3 : B ≤ w'.heap.size) => arrival_impl ls fs on b lo hi A B c A' c' A3 c3 w' h h1 h2 h3 hn hn1 hn2 hc hcm)
  by_cases h0 : aeC ls fs on b lo hi = 0
  rotate_left
  · rw [ic_bad h0]
    generalize aeC ls fs on b lo hi = C at *
    generalize aeV ls fs on b lo hi = V at *
    have h5 : (C != 0) = true := by simpa using h0
    go_enter Try.func22, Try.ntmps22
    go_wp2_with (go_at_call 20; refine (HA.out _ (by exact Hs.out) (by exact Hf.out) (by exact Hr.out) hS).mono ?_; rintro e w1 ⟨rfl, b1⟩; obtain ⟨hc1, hf1, hz1⟩ := bstep (N := w.heap.size + 2) (by go_size) b1; have y1 : w.heap.size ≤ w1.heap.size := (by omega))
    go_ret
    exact ⟨rfl, by repeat' (first | (with_reducible exact Below.refl _ _) | (with_reducible assumption) | (with_reducible refine Below.alloc ?_ ?_ _) | (with_reducible refine Below.drew ?_) | (with_reducible refine below_drewN ?_ _) | (with_reducible refine Below.setCell ?_ ?_ _) | (with_reducible refine Below.trans ?_ (Below.mono (by assumption) ?_)) | go_size | (exact Below.size (by assumption)))⟩
  · obtain ⟨b', h', t, rfl, hb', hend, ht, hst, hev, hic⟩ := ic_good h0
    rw [hic]
    rw [h0] at HA
    have HL := Lib.hid (fun (w' : World) (h2 : Rd w' B A' (ints fs)) (h3 : B ≤ w'.heap.size) => blockEnd_impl ls fs b' hb' _ hend A B c A' c' w' h2 h3 hn hn1)
    generalize aeV ls fs on b' lo hi = V at *
    obtain ⟨vl, vh⟩ := V
    obtain ⟨tk, tl, tr, trl, trh, tfl, tfh⟩ := t
    have HV := Lib.hid (fun w' => stopV_impl tk tl tr trl trh tfl tfh vl vh hst hev w')
    dsimp only at *
    generalize svC (tk, tl, tr, trl, trh, tfl, tfh) = C1 at *
    generalize svV (tk, tl, tr, trl, trh, tfl, tfh) (vl, vh) = V1 at *
    have hhl : h' < ls.length := (List.getElem?_eq_some_iff.1 ht).1
    have e1 : IntKind.i64.wrap (((h' + 1 : Nat) : Int) - 1) = (h' : Int) := by rw [show ((h' + 1 : Nat) : Int) - 1 = (h' : Int) by omega]; exact IntWalk.i64_in _ (by omega)
    generalize ((h' + 1 : Nat) : Int) = Ee at *
    have j0 : (0 : Int) ≤ (h' : Int) := by omega
    have j1 : (h' : Int) < (ls.length : Int) := by omega
    have Ht := Lib.hid ht
    have E1 := Lib.hid e1
    clear hic h0 hend ht hst hev e1
    go_enter Try.func22, Try.ntmps22
    go_wp2_with (go_at_call 20; refine (HA.out _ (by exact Hs.out) (by exact Hf.out) (by exact Hr.out) hS).mono ?_; rintro e w1 ⟨rfl, b1⟩; obtain ⟨hc1, hf1, hz1⟩ := bstep (N := w.heap.size + 2) (by go_size) b1; have y1 : w.heap.size < w1.heap.size := (by omega); have x1 : w.heap.size + 1 < w1.heap.size := (by omega))
    have hw1 : B ≤ w1.heap.size := by omega
    have Hs1 := Lib.hid ((Hs.out.below b1 hS).alloc hw1 (.cells #[.int .i64 vl, .int .i64 vh] 29))
    have Hf1 := Lib.hid ((Hf.out.below b1 hS).alloc hw1 (.cells #[.int .i64 vl, .int .i64 vh] 29))
    have B1 : Below w.heap.size w (w1.alloc (.cells #[.int .i64 vl, .int .i64 vh] 29)) := by repeat' (first | (with_reducible exact Below.refl _ _) | (with_reducible assumption) | (with_reducible refine Below.alloc ?_ ?_ _) | (with_reducible refine Below.drew ?_) | (with_reducible refine below_drewN ?_ _) | (with_reducible refine Below.setCell ?_ ?_ _) | (with_reducible refine Below.trans ?_ (Below.mono (by assumption) ?_)) | go_size | (exact Below.size (by assumption)))
    have c0 : (w1.alloc (.cells #[.int .i64 vl, .int .i64 vh] 29)).cell? ⟨w.heap.size, 0, none⟩ = some (.slice A ls.length c) := by go_cell
    have d0 : (w1.alloc (.cells #[.int .i64 vl, .int .i64 vh] 29)).cell? ⟨w1.heap.size, 0, none⟩ = some (.int .i64 vl) := by go_cell
    have d1 : (w1.alloc (.cells #[.int .i64 vl, .int .i64 vh] 29)).cell? ⟨w1.heap.size, 1, none⟩ = some (.int .i64 vh) := by go_cell
    have hsz : (w1.alloc (.cells #[.int .i64 vl, .int .i64 vh] 29)).heap.size = w1.heap.size + 1 := by simp
    obtain ⟨bs, os, hA, hbs, s0, s1, s2, s3, s4, s5, s6⟩ := Hs1.out.atSegment Ht.out
    subst hA
    clear hc1 hf1 b1 HA Hs Hf Hr hS
    generalize hW : w1.alloc (.cells #[.int .i64 vl, .int .i64 vh] 29) = W at *
    have HW := Lib.hid hW
    clear hW
    have hWs := Lib.hid hsz
    have y0 : w.heap.size < W.heap.size := by omega
    have y1' : w1.heap.size < W.heap.size := by omega
    have yb : bs < W.heap.size := by omega
    have hWB : B ≤ W.heap.size := by omega
    have nW : W.heap.size ≠ bs := by omega
    have mW : W.heap.size ≠ w.heap.size := by omega
    clear hsz
    have HE1 := E1.out
    go_cut [13] (fun s wx => ∃ g : Nat, s = .pointer (some ⟨g, 0, none⟩) ∧ W.heap.size ≤ g ∧ g < wx.heap.size ∧ wx.cell? ⟨g, 0, none⟩ = some (.int .i64 tk) ∧ wx.cell? ⟨g, 1, none⟩ = some (.int .i64 tl) ∧ wx.cell? ⟨g, 2, none⟩ = some (.int .i64 tr) ∧ wx.cell? ⟨g, 3, none⟩ = some (.int .i64 trl) ∧ wx.cell? ⟨g, 4, none⟩ = some (.int .i64 trh) ∧ wx.cell? ⟨g, 5, none⟩ = some (.int .i64 tfl) ∧ wx.cell? ⟨g, 6, none⟩ = some (.int .i64 tfh) ∧ Below W.heap.size W wx)
    case first =>
      go_region_held3 (fun w' => w'.cell? ⟨w.heap.size, 0, none⟩ = some (.slice (some ⟨bs, os, none⟩) ls.length c) ∧ w'.cell? ⟨bs, os + h' * 7, none⟩ = some (.int .i64 tk) ∧ w'.cell? ⟨bs, os + h' * 7 + 1, none⟩ = some (.int .i64 tl) ∧ w'.cell? ⟨bs, os + h' * 7 + 2, none⟩ = some (.int .i64 tr) ∧ w'.cell? ⟨bs, os + h' * 7 + 3, none⟩ = some (.int .i64 trl) ∧ w'.cell? ⟨bs, os + h' * 7 + 4, none⟩ = some (.int .i64 trh) ∧ w'.cell? ⟨bs, os + h' * 7 + 5, none⟩ = some (.int .i64 tfl) ∧ w'.cell? ⟨bs, os + h' * 7 + 6, none⟩ = some (.int .i64 tfh)) (simp [*, World.cell?_alloc_past, World.cell?_setCell_far])
        ((go_at_call 79; refine (HL.out _ (by first | exact Hf1.out | exact Hf1.out.alloc hWB _) (by first | omega | go_size | (simp; omega))).mono ?_; rintro e w7 ⟨rfl, b7⟩; have b8 : Below W.heap.size W w7 := (by first | exact b7 | exact Below.trans (Below.drew (Below.refl _ _)) b7 | exact Below.trans (Below.drew ((Below.refl _ _).alloc (Nat.le_refl _) _)) (b7.mono (by simp))); have z7 := b8.size; obtain ⟨hc7, hf7, hz7⟩ := bstep (Nat.le_refl _) b7; (try simp only [World.size_alloc, World.size_drew] at hc7 hf7 hz7); have y7 : w.heap.size < w7.heap.size := (by omega); have x7 : bs < w7.heap.size := (by omega); have n7 : w7.heap.size ≠ bs := (by omega); have m7 : w7.heap.size ≠ w.heap.size := (by omega); have yy : w.heap.size < W.heap.size + 1 := (by omega); have yb2 : bs < W.heap.size + 1 := (by omega); have yw : W.heap.size < W.heap.size + 1 := (by omega); (first | (have yw7 : W.heap.size < w7.heap.size := (by omega)) | skip)))
      all_goals (go_wp2_with fail; go_meet; refine ⟨_, rfl, by first | omega | go_size, by first | omega | go_size, by go_cell, by go_cell, by go_cell, by go_cell, by go_cell, by go_cell, by go_cell, by repeat' (first | (with_reducible exact Below.refl _ _) | (with_reducible assumption) | (with_reducible refine Below.alloc ?_ ?_ _) | (with_reducible refine Below.drew ?_) | (with_reducible refine below_drewN ?_ _) | (with_reducible refine Below.setCell ?_ ?_ _) | (with_reducible refine Below.trans ?_ (Below.mono (by assumption) ?_)) | go_size | (exact Below.size (by assumption)))⟩)
    case rest =>
      obtain ⟨g, rfl, hg1, hg2, t0, t1, t2, t3, t4, t5, t6, b5⟩ := hcut
      have k0 := (b5.cell (p := ⟨w1.heap.size, 0, none⟩) (by simp; omega)).trans d0
      have k1 := (b5.cell (p := ⟨w1.heap.size, 1, none⟩) (by simp; omega)).trans d1
      have B5 : Below w.heap.size w wc := B1.trans (b5.mono (by omega))
      have gn : w1.heap.size < wc.heap.size := by have := b5.size; omega
      clear s0 s1 s2 s3 s4 s5 s6 c0 d0 d1 b5 B1 HL Hs1 Hf1 HE1 E1
      by_cases q1 : tk = 1
      · have p1 : (tk == 1) = true := by simpa using q1
        have v1 : ((tk == 1) || ((C1 == 0) && (V1 == 2))) = true := by rw [p1]; rfl
        have HV1 := Lib.hid v1
        clear v1 q1
        go_wp2_with (go_at_call 26; refine (HV.out _).mono ?_; rintro e w8 ⟨rfl, b8⟩; obtain ⟨hc8, hf8, hz8⟩ := bstep (N := wc.heap.size) (by go_size) b8; have gg : g < w8.heap.size := (by omega))
        go_ret
        exact ⟨ret_bool (by rw [HV1.out]), by repeat' (first | (with_reducible exact Below.refl _ _) | (with_reducible assumption) | (with_reducible refine Below.alloc ?_ ?_ _) | (with_reducible refine Below.drew ?_) | (with_reducible refine below_drewN ?_ _) | (with_reducible refine Below.setCell ?_ ?_ _) | (with_reducible refine Below.trans ?_ (Below.mono (by assumption) ?_)) | go_size | (exact Below.size (by assumption)))⟩
      · have p1 : (tk == 1) = false := by simpa using q1
        by_cases q2 : C1 = 0
        · have p2 : (C1 == 0) = true := by simpa using q2
          by_cases q3 : V1 = 2
          · have p3 : (V1 == 2) = true := by simpa using q3
            have v1 : ((tk == 1) || ((C1 == 0) && (V1 == 2))) = true := by rw [p1, p2, p3]; rfl
            have HV1 := Lib.hid v1
            clear v1 q1 q2 q3
            go_wp2_with (go_at_call 26; refine (HV.out _).mono ?_; rintro e w8 ⟨rfl, b8⟩; obtain ⟨hc8, hf8, hz8⟩ := bstep (N := wc.heap.size) (by go_size) b8; have gg : g < w8.heap.size := (by omega))
            go_ret
            exact ⟨ret_bool (by rw [HV1.out]), by repeat' (first | (with_reducible exact Below.refl _ _) | (with_reducible assumption) | (with_reducible refine Below.alloc ?_ ?_ _) | (with_reducible refine Below.drew ?_) | (with_reducible refine below_drewN ?_ _) | (with_reducible refine Below.setCell ?_ ?_ _) | (with_reducible refine Below.trans ?_ (Below.mono (by assumption) ?_)) | go_size | (exact Below.size (by assumption)))⟩
          · have p3 : (V1 == 2) = false := by simpa using q3
            have v1 : ((tk == 1) || ((C1 == 0) && (V1 == 2))) = false := by rw [p1, p2, p3]; rfl
            have HV1 := Lib.hid v1
            clear v1 q1 q2 q3
            go_wp2_with (go_at_call 26; refine (HV.out _).mono ?_; rintro e w8 ⟨rfl, b8⟩; obtain ⟨hc8, hf8, hz8⟩ := bstep (N := wc.heap.size) (by go_size) b8; have gg : g < w8.heap.size := (by omega))
            go_ret
            exact ⟨ret_bool (by rw [HV1.out]), by repeat' (first | (with_reducible exact Below.refl _ _) | (with_reducible assumption) | (with_reducible refine Below.alloc ?_ ?_ _) | (with_reducible refine Below.drew ?_) | (with_reducible refine below_drewN ?_ _) | (with_reducible refine Below.setCell ?_ ?_ _) | (with_reducible refine Below.trans ?_ (Below.mono (by assumption) ?_)) | go_size | (exact Below.size (by assumption)))⟩
        · have p2 : (C1 == 0) = false := by simpa using q2
          have v1 : ((tk == 1) || ((C1 == 0) && (V1 == 2))) = false := by rw [p1, p2]; rfl
          have HV1 := Lib.hid v1
          clear v1 q1 q2
          go_wp2_with (go_at_call 26; refine (HV.out _).mono ?_; rintro e w8 ⟨rfl, b8⟩; obtain ⟨hc8, hf8, hz8⟩ := bstep (N := wc.heap.size) (by go_size) b8; have gg : g < w8.heap.size := (by omega))
          go_ret
          exact ⟨ret_bool (by rw [HV1.out]), by repeat' (first | (with_reducible exact Below.refl _ _) | (with_reducible assumption) | (with_reducible refine Below.alloc ?_ ?_ _) | (with_reducible refine Below.drew ?_) | (with_reducible refine below_drewN ?_ _) | (with_reducible refine Below.setCell ?_ ?_ _) | (with_reducible refine Below.trans ?_ (Below.mono (by assumption) ?_)) | go_size | (exact Below.size (by assumption)))⟩
set_option maxHeartbeats 4000000 in
theorem caught_spec (ls : List Seg) (fs on : List Int) (b lo hi : Int) (A : Option Addr) (B c : Nat) (A' : Option Addr) (c' : Nat) (A3 : Option Addr) (c3 : Nat) (w : World) (hs : Rd w B A (ls.flatMap eSegment)) (hf : Rd w B A' (ints fs)) (hr : Rd w B A3 (ints on)) (hB : B ≤ w.heap.size) (hn : ls.length ≤ 1048576) (hn1 : fs.length ≤ 1048576) (hn2 : on.length ≤ 1048576) (hc : fs.length ≤ c') (hcm : c' ≤ 9223372036854775807) :
   Calls Try.prog 23 #[.agg #[.slice A ls.length c], .slice A' fs.length c', .int .i64 b, .agg #[.int .i64 lo, .int .i64 hi], .slice A3 on.length c3] w fun e w' => e = .returned (.bool (icB ls fs on b lo hi)) ∧ Below w.heap.size w w' := by
  have Hs := Lib.hid ((hs.alloc hB (.cells #[.slice A ls.length c] 26)).alloc (by simp; omega) (.cells #[.int .i64 lo, .int .i64 hi] 29))
  have Hf := Lib.hid ((hf.alloc hB (.cells #[.slice A ls.length c] 26)).alloc (by simp; omega) (.cells #[.int .i64 lo, .int .i64 hi] 29))
  have Hr := Lib.hid ((hr.alloc hB (.cells #[.slice A ls.length c] 26)).alloc (by simp; omega) (.cells #[.int .i64 lo, .int .i64 hi] 29))
  have hS : B ≤ ((w.alloc (.cells #[.slice A ls.length c] 26)).alloc (.cells #[.int .i64 lo, .int .i64 hi] 29)).heap.size := by simp; omega
  clear hs hf hr
  have HA := Lib.hid (fun (w' : World) (h : Rd w' B A (ls.flatMap eSegment)) (h1 : Rd w' B A' (ints fs)) (h2 : Rd w' B A3 (ints on)) (h3 : B ≤ w'.heap.size) => arrival_spec ls fs on b lo hi A B c A' c' A3 c3 w' h h1 h2 h3 hn hn1 hn2 hc hcm)
  by_cases h0 : aeC ls fs on b lo hi = 0
  rotate_left
  · rw [ic_bad h0]
    generalize aeC ls fs on b lo hi = C at *
    generalize aeV ls fs on b lo hi = V at *
    have h5 : (C != 0) = true := by simpa using h0
    go_enter Try.func23, Try.ntmps23
    go_wp2_with (go_at_call 21; refine (HA.out _ (by exact Hs.out) (by exact Hf.out) (by exact Hr.out) hS).mono ?_; rintro e w1 ⟨rfl, b1⟩; obtain ⟨hc1, hf1, hz1⟩ := bstep (N := w.heap.size + 2) (by go_size) b1; have y1 : w.heap.size ≤ w1.heap.size := (by omega))
    go_ret
    exact ⟨rfl, by repeat' (first | (with_reducible exact Below.refl _ _) | (with_reducible assumption) | (with_reducible refine Below.alloc ?_ ?_ _) | (with_reducible refine Below.drew ?_) | (with_reducible refine below_drewN ?_ _) | (with_reducible refine Below.setCell ?_ ?_ _) | (with_reducible refine Below.trans ?_ (Below.mono (by assumption) ?_)) | go_size | (exact Below.size (by assumption)))⟩
  · obtain ⟨b', h', t, rfl, hb', hend, ht, hst, hev, hic⟩ := ic_good h0
    rw [hic]
    rw [h0] at HA
    have HL := Lib.hid (fun (w' : World) (h2 : Rd w' B A' (ints fs)) (h3 : B ≤ w'.heap.size) => blockEnd_spec ls fs b' hb' _ hend A B c A' c' w' h2 h3 hn hn1)
    generalize aeV ls fs on b' lo hi = V at *
    obtain ⟨vl, vh⟩ := V
    obtain ⟨tk, tl, tr, trl, trh, tfl, tfh⟩ := t
    have HV := Lib.hid (fun w' => stopV_spec tk tl tr trl trh tfl tfh vl vh hst hev w')
    dsimp only at *
    generalize svC (tk, tl, tr, trl, trh, tfl, tfh) = C1 at *
    generalize svV (tk, tl, tr, trl, trh, tfl, tfh) (vl, vh) = V1 at *
    have hhl : h' < ls.length := (List.getElem?_eq_some_iff.1 ht).1
    have e1 : IntKind.i64.wrap (((h' + 1 : Nat) : Int) - 1) = (h' : Int) := by rw [show ((h' + 1 : Nat) : Int) - 1 = (h' : Int) by omega]; exact IntWalk.i64_in _ (by omega)
    generalize ((h' + 1 : Nat) : Int) = Ee at *
    have j0 : (0 : Int) ≤ (h' : Int) := by omega
    have j1 : (h' : Int) < (ls.length : Int) := by omega
    have Ht := Lib.hid ht
    have E1 := Lib.hid e1
    clear hic h0 hend ht hst hev e1
    go_enter Try.func23, Try.ntmps23
    go_wp2_with (go_at_call 21; refine (HA.out _ (by exact Hs.out) (by exact Hf.out) (by exact Hr.out) hS).mono ?_; rintro e w1 ⟨rfl, b1⟩; obtain ⟨hc1, hf1, hz1⟩ := bstep (N := w.heap.size + 2) (by go_size) b1; have y1 : w.heap.size < w1.heap.size := (by omega); have x1 : w.heap.size + 1 < w1.heap.size := (by omega))
    have hw1 : B ≤ w1.heap.size := by omega
    have Hs1 := Lib.hid ((Hs.out.below b1 hS).alloc hw1 (.cells #[.int .i64 vl, .int .i64 vh] 29))
    have Hf1 := Lib.hid ((Hf.out.below b1 hS).alloc hw1 (.cells #[.int .i64 vl, .int .i64 vh] 29))
    have B1 : Below w.heap.size w (w1.alloc (.cells #[.int .i64 vl, .int .i64 vh] 29)) := by repeat' (first | (with_reducible exact Below.refl _ _) | (with_reducible assumption) | (with_reducible refine Below.alloc ?_ ?_ _) | (with_reducible refine Below.drew ?_) | (with_reducible refine below_drewN ?_ _) | (with_reducible refine Below.setCell ?_ ?_ _) | (with_reducible refine Below.trans ?_ (Below.mono (by assumption) ?_)) | go_size | (exact Below.size (by assumption)))
    have c0 : (w1.alloc (.cells #[.int .i64 vl, .int .i64 vh] 29)).cell? ⟨w.heap.size, 0, none⟩ = some (.slice A ls.length c) := by go_cell
    have d0 : (w1.alloc (.cells #[.int .i64 vl, .int .i64 vh] 29)).cell? ⟨w1.heap.size, 0, none⟩ = some (.int .i64 vl) := by go_cell
    have d1 : (w1.alloc (.cells #[.int .i64 vl, .int .i64 vh] 29)).cell? ⟨w1.heap.size, 1, none⟩ = some (.int .i64 vh) := by go_cell
    have hsz : (w1.alloc (.cells #[.int .i64 vl, .int .i64 vh] 29)).heap.size = w1.heap.size + 1 := by simp
    obtain ⟨bs, os, hA, hbs, s0, s1, s2, s3, s4, s5, s6⟩ := Hs1.out.atSegment Ht.out
    subst hA
    clear hc1 hf1 b1 HA Hs Hf Hr hS
    generalize hW : w1.alloc (.cells #[.int .i64 vl, .int .i64 vh] 29) = W at *
    have HW := Lib.hid hW
    clear hW
    have hWs := Lib.hid hsz
    have y0 : w.heap.size < W.heap.size := by omega
    have y1' : w1.heap.size < W.heap.size := by omega
    have yb : bs < W.heap.size := by omega
    have hWB : B ≤ W.heap.size := by omega
    have nW : W.heap.size ≠ bs := by omega
    have mW : W.heap.size ≠ w.heap.size := by omega
    clear hsz
    have HE1 := E1.out
    go_cut [13] (fun s wx => ∃ g : Nat, s = .pointer (some ⟨g, 0, none⟩) ∧ W.heap.size ≤ g ∧ g < wx.heap.size ∧ wx.cell? ⟨g, 0, none⟩ = some (.int .i64 tk) ∧ wx.cell? ⟨g, 1, none⟩ = some (.int .i64 tl) ∧ wx.cell? ⟨g, 2, none⟩ = some (.int .i64 tr) ∧ wx.cell? ⟨g, 3, none⟩ = some (.int .i64 trl) ∧ wx.cell? ⟨g, 4, none⟩ = some (.int .i64 trh) ∧ wx.cell? ⟨g, 5, none⟩ = some (.int .i64 tfl) ∧ wx.cell? ⟨g, 6, none⟩ = some (.int .i64 tfh) ∧ Below W.heap.size W wx)
    case first =>
      go_region_held3 (fun w' => w'.cell? ⟨w.heap.size, 0, none⟩ = some (.slice (some ⟨bs, os, none⟩) ls.length c) ∧ w'.cell? ⟨bs, os + h' * 7, none⟩ = some (.int .i64 tk) ∧ w'.cell? ⟨bs, os + h' * 7 + 1, none⟩ = some (.int .i64 tl) ∧ w'.cell? ⟨bs, os + h' * 7 + 2, none⟩ = some (.int .i64 tr) ∧ w'.cell? ⟨bs, os + h' * 7 + 3, none⟩ = some (.int .i64 trl) ∧ w'.cell? ⟨bs, os + h' * 7 + 4, none⟩ = some (.int .i64 trh) ∧ w'.cell? ⟨bs, os + h' * 7 + 5, none⟩ = some (.int .i64 tfl) ∧ w'.cell? ⟨bs, os + h' * 7 + 6, none⟩ = some (.int .i64 tfh)) (simp [*, World.cell?_alloc_past, World.cell?_setCell_far])
        ((go_at_call 85; refine (HL.out _ (by first | exact Hf1.out | exact Hf1.out.alloc hWB _) (by first | omega | go_size | (simp; omega))).mono ?_; rintro e w7 ⟨rfl, b7⟩; have b8 : Below W.heap.size W w7 := (by first | exact b7 | exact Below.trans (Below.drew (Below.refl _ _)) b7 | exact Below.trans (Below.drew ((Below.refl _ _).alloc (Nat.le_refl _) _)) (b7.mono (by simp))); have z7 := b8.size; obtain ⟨hc7, hf7, hz7⟩ := bstep (Nat.le_refl _) b7; (try simp only [World.size_alloc, World.size_drew] at hc7 hf7 hz7); have y7 : w.heap.size < w7.heap.size := (by omega); have x7 : bs < w7.heap.size := (by omega); have n7 : w7.heap.size ≠ bs := (by omega); have m7 : w7.heap.size ≠ w.heap.size := (by omega); have yy : w.heap.size < W.heap.size + 1 := (by omega); have yb2 : bs < W.heap.size + 1 := (by omega); have yw : W.heap.size < W.heap.size + 1 := (by omega); (first | (have yw7 : W.heap.size < w7.heap.size := (by omega)) | skip)))
      all_goals (go_wp2_with fail; go_meet; refine ⟨_, rfl, by first | omega | go_size, by first | omega | go_size, by go_cell, by go_cell, by go_cell, by go_cell, by go_cell, by go_cell, by go_cell, by repeat' (first | (with_reducible exact Below.refl _ _) | (with_reducible assumption) | (with_reducible refine Below.alloc ?_ ?_ _) | (with_reducible refine Below.drew ?_) | (with_reducible refine below_drewN ?_ _) | (with_reducible refine Below.setCell ?_ ?_ _) | (with_reducible refine Below.trans ?_ (Below.mono (by assumption) ?_)) | go_size | (exact Below.size (by assumption)))⟩)
    case rest =>
      obtain ⟨g, rfl, hg1, hg2, t0, t1, t2, t3, t4, t5, t6, b5⟩ := hcut
      have k0 := (b5.cell (p := ⟨w1.heap.size, 0, none⟩) (by simp; omega)).trans d0
      have k1 := (b5.cell (p := ⟨w1.heap.size, 1, none⟩) (by simp; omega)).trans d1
      have B5 : Below w.heap.size w wc := B1.trans (b5.mono (by omega))
      have gn : w1.heap.size < wc.heap.size := by have := b5.size; omega
      clear s0 s1 s2 s3 s4 s5 s6 c0 d0 d1 b5 B1 HL Hs1 Hf1 HE1 E1
      by_cases q1 : tk = 1
      · have p1 : (tk == 1) = true := by simpa using q1
        have v1 : ((tk == 1) || ((C1 == 0) && (V1 == 2))) = true := by rw [p1]; rfl
        have HV1 := Lib.hid v1
        clear v1 q1
        go_wp2_with (go_at_call 86; refine (HV.out _).mono ?_; rintro e w8 ⟨rfl, b8⟩; obtain ⟨hc8, hf8, hz8⟩ := bstep (N := wc.heap.size) (by go_size) b8; have gg : g < w8.heap.size := (by omega))
        go_ret
        exact ⟨ret_bool (by rw [HV1.out]), by repeat' (first | (with_reducible exact Below.refl _ _) | (with_reducible assumption) | (with_reducible refine Below.alloc ?_ ?_ _) | (with_reducible refine Below.drew ?_) | (with_reducible refine below_drewN ?_ _) | (with_reducible refine Below.setCell ?_ ?_ _) | (with_reducible refine Below.trans ?_ (Below.mono (by assumption) ?_)) | go_size | (exact Below.size (by assumption)))⟩
      · have p1 : (tk == 1) = false := by simpa using q1
        by_cases q2 : C1 = 0
        · have p2 : (C1 == 0) = true := by simpa using q2
          by_cases q3 : V1 = 2
          · have p3 : (V1 == 2) = true := by simpa using q3
            have v1 : ((tk == 1) || ((C1 == 0) && (V1 == 2))) = true := by rw [p1, p2, p3]; rfl
            have HV1 := Lib.hid v1
            clear v1 q1 q2 q3
            go_wp2_with (go_at_call 86; refine (HV.out _).mono ?_; rintro e w8 ⟨rfl, b8⟩; obtain ⟨hc8, hf8, hz8⟩ := bstep (N := wc.heap.size) (by go_size) b8; have gg : g < w8.heap.size := (by omega))
            go_ret
            exact ⟨ret_bool (by rw [HV1.out]), by repeat' (first | (with_reducible exact Below.refl _ _) | (with_reducible assumption) | (with_reducible refine Below.alloc ?_ ?_ _) | (with_reducible refine Below.drew ?_) | (with_reducible refine below_drewN ?_ _) | (with_reducible refine Below.setCell ?_ ?_ _) | (with_reducible refine Below.trans ?_ (Below.mono (by assumption) ?_)) | go_size | (exact Below.size (by assumption)))⟩
          · have p3 : (V1 == 2) = false := by simpa using q3
            have v1 : ((tk == 1) || ((C1 == 0) && (V1 == 2))) = false := by rw [p1, p2, p3]; rfl
            have HV1 := Lib.hid v1
            clear v1 q1 q2 q3
            go_wp2_with (go_at_call 86; refine (HV.out _).mono ?_; rintro e w8 ⟨rfl, b8⟩; obtain ⟨hc8, hf8, hz8⟩ := bstep (N := wc.heap.size) (by go_size) b8; have gg : g < w8.heap.size := (by omega))
            go_ret
            exact ⟨ret_bool (by rw [HV1.out]), by repeat' (first | (with_reducible exact Below.refl _ _) | (with_reducible assumption) | (with_reducible refine Below.alloc ?_ ?_ _) | (with_reducible refine Below.drew ?_) | (with_reducible refine below_drewN ?_ _) | (with_reducible refine Below.setCell ?_ ?_ _) | (with_reducible refine Below.trans ?_ (Below.mono (by assumption) ?_)) | go_size | (exact Below.size (by assumption)))⟩
        · have p2 : (C1 == 0) = false := by simpa using q2
          have v1 : ((tk == 1) || ((C1 == 0) && (V1 == 2))) = false := by rw [p1, p2]; rfl
          have HV1 := Lib.hid v1
          clear v1 q1 q2
          go_wp2_with (go_at_call 86; refine (HV.out _).mono ?_; rintro e w8 ⟨rfl, b8⟩; obtain ⟨hc8, hf8, hz8⟩ := bstep (N := wc.heap.size) (by go_size) b8; have gg : g < w8.heap.size := (by omega))
          go_ret
          exact ⟨ret_bool (by rw [HV1.out]), by repeat' (first | (with_reducible exact Below.refl _ _) | (with_reducible assumption) | (with_reducible refine Below.alloc ?_ ?_ _) | (with_reducible refine Below.drew ?_) | (with_reducible refine below_drewN ?_ _) | (with_reducible refine Below.setCell ?_ ?_ _) | (with_reducible refine Below.trans ?_ (Below.mono (by assumption) ?_)) | go_size | (exact Below.size (by assumption)))⟩
end Go.Proofs.Ytooifamckccadaa
