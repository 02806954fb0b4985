/- With one more row not fewer groups are loaded, and the loaded groups fit: the law's walk. -/
import Derived.Test.YtdjbbjehgfkefaaGq
import Derived.Test.YtdjbbjehgfkefaaLi0
namespace Go.Proofs.Ytdjbbjehgfkefaa
open Go.ChangeShapes Go.WideShapes Go.ChangeAt Go.RowKit
set_option maxRecDepth 20000
set_option linter.unusedVariables false
set_option linter.unusedSimpArgs false
theorem rn_impl_r (a b c : Int) (l : List Int) (q : Int) (h1 : rnN a b c l = q) (h2 : rnC a b c l = 0) (A : Option Addr) (B cc : Nat) (w : World) (hr : Rd w B A (ints l)) (hB : B ≤ w.heap.size) (hn : l.length ≤ 1048576) :
   Calls Try.prog 22 #[.agg #[.int .i64 a, .int .i64 b, .int .i64 c], .slice A l.length cc] w fun e w' => e = .returned (.tuple #[.int .i64 q, .int .i64 0]) ∧ Below w.heap.size w w' := h1 ▸ h2 ▸ rn_impl a b c l A B cc w hr hB hn
set_option maxHeartbeats 4000000 in
theorem walkFnGroups (bl : List Int) (hbl : isU8 bl) (C : Option Addr) (cap : Nat) (w : World) (hr : Rd w w.heap.size C (bytesU bl)) (hlc : bl.length ≤ cap) (hm : cap ≤ maxLen) :
   Calls Try.prog 5 #[.slice C bl.length cap] w fun e w' => e = .returned (.bool true) ∧ Below w.heap.size w w' := by
  unfold maxLen at hm
  by_cases hn : bl.length ≤ 4096
  rotate_left
  · have hd : decide ((4096 : Int) < (bl.length : Int)) = true := by simp; omega
    go_enter Try.func5, Try.ntmps5
    go_wp2_with (go_at_call 20; refine (big_any _ _ _ _ (by omega)).mono ?_; rintro e w' ⟨rfl, rfl⟩)
    go_ret
    exact ⟨rfl, Below.refl _ _⟩
  have hd : decide ((4096 : Int) < (bl.length : Int)) = false := by simp; omega
  go_enter Try.func5, Try.ntmps5
  go_wp2_with fail
  refine (big_any _ _ _ _ (by omega)).mono ?_; rintro e w' ⟨rfl, rfl⟩
  go_wp2_with fail
  refine (drawGroups_any bl hbl hn C cap _ hr).mono ?_
  rintro e w0 ⟨x, y, z, G, A, c, n, rfl, hGl, hGe, n0, n1, RG, b0⟩
  clear hr hbl hd
  have z0 := b0.size
  have hGm : ∀ l ∈ G, l.length ≤ 1048576 := fun l hl => by have := hGe l hl; omega
  have HI := Lib.hid (fun (w' : World) (h1 : RdG w' w0.heap.size A G) (hB : w0.heap.size ≤ w'.heap.size) => groups_impl x y z n G hGm A w0.heap.size c w' h1 hB (by omega))
  have HJ := Lib.hid (fun (w' : World) (h1 : RdG w' w0.heap.size A G) (hB : w0.heap.size ≤ w'.heap.size) => groups_impl x y z (n + 1) G hGm A w0.heap.size c w' h1 hB (by omega))
  have HS := Lib.hid (fun (w' : World) (h1 : RdG w' w0.heap.size A G) (hB : w0.heap.size ≤ w'.heap.size) => groups_spec x y z n G hGm A w0.heap.size c w' h1 hB (by omega))
  have LAW := Lib.hid (fun h : grC x y z G n = 0 => group_law h)
  generalize grN x y z G n = N at *
  generalize grC x y z G n = K at *
  generalize grN x y z G (n + 1) = M at *
  generalize grC x y z G (n + 1) = J at *
  have L1 := Lib.hid (bk_new w0 #[.int .i64 x, .int .i64 y, .int .i64 z] 27)
  have R1 := Lib.hid (RG.alloc (Nat.le_refl _) (.cells #[.int .i64 x, .int .i64 y, .int .i64 z] 27))
  have B1 := Lib.hid (show Below w.heap.size w (w0.alloc (.cells #[.int .i64 x, .int .i64 y, .int .i64 z] 27)) from b0.trans (((Below.refl w0.heap.size w0).alloc (Nat.le_refl _) _).mono z0))
  clear RG b0 hGe hGm
  go_wp2_with fail
  have hz1 : w0.heap.size < (w0.alloc (.cells #[.int .i64 x, .int .i64 y, .int .i64 z] 27)).heap.size := by simp
  generalize (w0.alloc (.cells #[.int .i64 x, .int .i64 y, .int .i64 z] 27)) = w1 at *
  refine (HI.out w1 R1.out (by omega)).mono ?_; rintro e w2 ⟨rfl, b2⟩
  have L2 := Lib.hid (bk_below L1.out b2 (bk_lt L1.out))
  have R2 := Lib.hid (R1.out.below b2 (by omega))
  have B2 := Lib.hid (B1.out.trans (b2.mono (by omega)))
  have z2 := b2.size
  clear b2 L1 R1 B1 HI
  obtain ⟨q0, q1, q2, qf, qs⟩ := bk3 L2.out
  go_wp2_with fail
  clear q0 q1 q2 qf qs
  refine (HS.out w2 R2.out (by omega)).mono ?_; rintro e w3 ⟨rfl, b3⟩
  have L3 := Lib.hid (bk_below L2.out b3 (bk_lt L2.out))
  have R3 := Lib.hid (R2.out.below b3 (by omega))
  have B3 := Lib.hid (B2.out.trans (b3.mono (by omega)))
  have z3 := b3.size
  clear b3 L2 R2 B2 HS
  have hne : ∀ q : Int, (q != q) = false := fun q => by simp
  by_cases hK : K = 0
  rotate_left
  · have e1 : (K != 0) = true := by rw [bne_iff_ne]; exact hK
    have e2 : (K == 0) = false := by rw [beq_eq_false_iff_ne]; exact hK
    go_wp2
    go_ret
    exact ⟨rfl, B3.out⟩
  subst hK
  obtain ⟨g24, gneed, gl, giff, gmore⟩ := LAW.out rfl
  have hbd := preS_bd (a := x) (b := y) (c := z) g24
  have Hbd := Lib.hid hbd
  have Hneed := Lib.hid gneed
  have Hiff := Lib.hid giff
  have Hmore := Lib.hid gmore
  have H24 := Lib.hid g24
  have hGl2 := gl
  clear LAW g24 gneed giff gmore hbd gl
  go_wp2_with fail
  go_loopw [10, 11] (fun t i wr => ∃ k : Nat, k ≤ G.length ∧ i = .int .i64 k ∧ t = .int .i64 (preS (needsG x y z G) k) ∧ Bk wr w0.heap.size #[.int .i64 x, .int .i64 y, .int .i64 z] ∧ RdG wr w0.heap.size A G ∧ Below w.heap.size w wr ∧ w0.heap.size ≤ wr.heap.size) (fun _ i _ => G.length - (intOf i).toNat)
  case atStart => exact ⟨0, Nat.zero_le _, rfl, rfl, L3.out, R3.out, B3.out, by omega⟩
  case round =>
    clear L3 R3 B3
    obtain ⟨k, hk, rfl, rfl, hL, hR, hB, hsw⟩ := hrel
    have HL := Lib.hid hL
    have HR := Lib.hid hR
    have HB := Lib.hid hB
    have hsz := hB.size
    have hb1 := Hbd.out k
    by_cases hlt : k < G.length
    · have ht := List.getElem?_eq_getElem hlt
      generalize G[k] = l at ht
      have hl24 := H24.out l (List.mem_of_getElem? ht)
      have hna := needsG_at (a := x) (b := y) (c := z) ht
      have hps : preS (needsG x y z G) (k + 1) = preS (needsG x y z G) k + rowN x y z l := by rw [preS, hna]
      have hif := Hiff.out k hlt
      obtain ⟨hC, hN⟩ := Hneed.out l (List.mem_of_getElem? ht)
      have hrb := rowN_bd x y z l
      rw [hps] at hif
      obtain ⟨bb, o, A', c', rfl, hbb, c0, hrl⟩ := hR.at ht
      have Hrl := Lib.hid hrl
      obtain ⟨q0, q1, q2, qf, qs⟩ := bk3 hL
      have hj0 : (0 : Int) ≤ (k : Int) := by omega
      have hj1 : (k : Int) < (G.length : Int) := by omega
      have hbz : bb < wr.heap.size := by omega
      have Hps := Lib.hid hps
      have HC := Lib.hid hC
      have HN := Lib.hid hN
      have hrb2 : 0 ≤ rowN x y z l ∧ rowN x y z l ≤ 24 := by omega
      clear ht hna hps hC hN hL hR hB hrl hrb
      generalize rowN x y z l = q at *
      generalize preS (needsG x y z G) k = P at *
      cases hcd : decide (P + q ≤ n)
      all_goals rw [hcd] at hif
      all_goals have hif2 := hif.symm
      all_goals clear hif
      all_goals go_wp2_with fail
      all_goals refine wp_region_cls (S := Below wr.heap.size wr) (by kernel_rfl) (by kernel_rfl) (below_drew1 _ _) ?_
      all_goals replace q0 := cls_cell q0 qs
      all_goals replace q1 := cls_cell q1 qs
      all_goals replace q2 := cls_cell q2 qs
      all_goals replace c0 := cls_cell c0 hbz
      all_goals repeat (go_big_quiet_step ((go_at_call 22; exact cls_call (Nat.le_refl _) (rn_impl_r x y z l q HN.out HC.out A' w0.heap.size c' _ (cls_rd _ Hrl.out (by omega)) (cls_le _ (by omega)) (by omega)))))
      all_goals refine wpQuiet_nil ?_
      all_goals rintro _ ⟨⟨w5, bw5⟩, rfl⟩
      all_goals (try dsimp only)
      all_goals have z5 := bw5.size
      all_goals go_wp2
      all_goals go_roundw
      all_goals first | exact ⟨k + 1, by omega, by go_num, vint Hps.out.symm, bk_below HL.out bw5 qs, HR.out.below bw5 (by omega), HB.out.trans (bw5.mono hsz), by omega⟩ | (simp [intOf]; omega)
    · have hk' : k = G.length := by omega
      subst hk'
      obtain ⟨q0, q1, q2, qf, qs⟩ := bk3 hL
      clear hL hR hB
      have hfin : J = 0 → decide (N ≤ M) = true := fun h => decide_eq_true (Hmore.out h)
      by_cases hJ : J = 0
      · subst hJ
        have hf2 := hfin rfl
        clear hfin
        go_wp2_with (go_at_call 18; refine (HJ.out wr HR.out (by omega)).mono ?_; rintro e w6 ⟨rfl, b6⟩)
        go_ret
        exact ⟨rfl, HB.out.trans (b6.mono hsz)⟩
      · have e1 : (J != 0) = true := by rw [bne_iff_ne]; exact hJ
        have e2 : (J == 0) = false := by rw [beq_eq_false_iff_ne]; exact hJ
        clear hfin
        go_wp2_with (go_at_call 18; refine (HJ.out wr HR.out (by omega)).mono ?_; rintro e w6 ⟨rfl, b6⟩)
        go_ret
        exact ⟨rfl, HB.out.trans (b6.mono hsz)⟩
end Go.Proofs.Ytdjbbjehgfkefaa
