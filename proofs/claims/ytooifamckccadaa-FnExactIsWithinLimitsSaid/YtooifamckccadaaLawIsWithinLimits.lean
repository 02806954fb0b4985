/- IsWithinLimits of the program and of the reference agree, for every layout, every two lists of numbers, every two numbers and every interval. No conditions. -/
import Derived.Test.YtooifamckccadaaRows
import Derived.Test.YtooifamckccadaaDf
import Derived.Test.YtooifamckccadaaLf
import Derived.Test.YtooifamckccadaaI
import Derived.WalkKit
import Derived.ProofKit
import Derived.OpenShut
import Derived.ShutString
import Derived.ChangeOld
import Derived.Below
namespace Go.Proofs.Ytooifamckccadaa.fnExactIsWithinLimits
open Go.ChangeShapes Go.WideShapes Go.ChangeAt Go.RowKit
set_option linter.unusedVariables false
theorem own : ownKnob Try.prog.godebug = none := by kernel_rfl
theorem laidOut : laidOutB Try.prog = true := by kernel_rfl
theorem flat4 {cs : List Value} (h : AreKinds [some .i64, some .i64] cs) : ∃ (x0 : Int) (x1 : Int), cs = [.int .i64 x0, .int .i64 x1] ∧ (Lit.int .i64 x0).wf = true ∧ (Lit.int .i64 x1).wf = true := by
  obtain ⟨_, _, rfl, ⟨x0, rfl, wx0⟩, _, _, rfl, ⟨x1, rfl, wx1⟩, rfl⟩ := h
  exact ⟨x0, x1, rfl, wx0, wx1⟩

set_option maxRecDepth 100000 in
theorem lifted (os : Os) (started : os.Started) (H : Type) (enc : TypeId × Value → H) :
    ReturnsInHanded {} Try.checked os 12 .any (Rows.fnExactIsWithinLimitsSpec.pre6 enc Try.prog Try.f12 Rows.fnExactIsWithinLimitsRow.domain false) (Rows.fnExactIsWithinLimitsSpec.post enc Try.prog Try.f12 false true false false) := by
  refine returnsInHanded_of_change (C := Try.checked) own started (by kernel_rfl) Try.func12
    (ChangeSpec.witness6 (enc := enc) (C := Try.checked) false ⟨#[], #[.agg #[.slice none 0 0], .slice none 0 0, .int .i64 0, .int .i64 0, .agg #[.int .i64 0, .int .i64 0], .slice none 0 0], []⟩ 8 (by kernel_rfl) (by kernel_rfl) (by kernel_rfl) (by kernel_rfl)) ?_
  intro W base args ds gs before hval0 hW hcnd _
  have hval : ∀ (j : Nat) t v, Try.f12.params[j]? = some t → args[j]? = some v → Value.okWide Try.prog W .any base t v := hval0
  have hW' := hW
  obtain ⟨p, q, hA0, hV, rfl, hfz, hnd⟩ := hW
  have hA : DataW.TrodAll enc Try.prog W 0 (fun _ => true) true Try.f12.params.toList args.toList ds p := hA0
  rw [Try.params12] at hA hval
  obtain ⟨v0, vs0, d0, ds0, p0, q0, hargs, rfl, rfl, h0, r0⟩ := trodAll_cons hA
  obtain ⟨v1, vs1, d1, ds1, p1, q1, rfl, rfl, rfl, h1, r1⟩ := trodAll_cons r0
  obtain ⟨v2, vs2, d2, ds2, p2, q2, rfl, rfl, rfl, h2, r2⟩ := trodAll_cons r1
  obtain ⟨v3, vs3, d3, ds3, p3, q3, rfl, rfl, rfl, h3, r3⟩ := trodAll_cons r2
  obtain ⟨v4, vs4, d4, ds4, p4, q4, rfl, rfl, rfl, h4, r4⟩ := trodAll_cons r3
  obtain ⟨v5, vs5, d5, ds5, p5, q5, rfl, rfl, rfl, h5, r5⟩ := trodAll_cons r4
  obtain ⟨rfl, rfl, rfl⟩ := trodAll_nil r5
  obtain rfl : args = #[v0, v1, v2, v3, v4, v5] := by cases args; simp_all
  obtain ⟨rfl, rfl⟩ := trodVars_none hV
  have k0 := h0
  have lt0 : ∀ x ∈ p0, x.block < W.heap.size := by obtain ⟨m, hm⟩ := k0; exact DataW.trod_lt m _ _ _ hm
  obtain ⟨cs0, rfl, hsz0⟩ := okWide_struct Try.underlying50 (hval 0 50 v0 rfl rfl)
  obtain ⟨l0, a0, c0, rfl, rd0, hl0, hm0, wl0⟩ := openLayout h0
  have k1 := h1
  have lt1 : ∀ x ∈ p1, x.block < W.heap.size := by obtain ⟨m, hm⟩ := k1; exact DataW.trod_lt m _ _ _ hm
  obtain ⟨a1, n1, c1, rfl⟩ := okWide_slice Try.underlying27 (hval 1 27 v1 rfl rfl)
  obtain ⟨l1, rfl, rd1, hl1, hm1, wl1⟩ := openInts h1
  obtain ⟨a2, rfl, rfl, rfl, w2⟩ := open_int Try.underlying2 (hval 2 2 v2 rfl rfl) h2
  obtain ⟨a3, rfl, rfl, rfl, w3⟩ := open_int Try.underlying2 (hval 3 2 v3 rfl rfl) h3
  have k4 := h4
  have lt4 : ∀ x ∈ p4, x.block < W.heap.size := by obtain ⟨m, hm⟩ := k4; exact DataW.trod_lt m _ _ _ hm
  obtain ⟨cs4, rfl, hsz4⟩ := okWide_struct Try.underlying40 (hval 4 40 v4 rfl rfl)
  obtain ⟨x4_0, x4_1, hcs4, wx4_0, wx4_1⟩ : ∃ (x4_0 : Int) (x4_1 : Int), cs4 = #[.int .i64 x4_0, .int .i64 x4_1] ∧ (Lit.int .i64 x4_0).wf = true ∧ (Lit.int .i64 x4_1).wf = true := by
    obtain ⟨fuel, hf⟩ := h4
    obtain ⟨x4_0, x4_1, hcs, wx4_0, wx4_1⟩ := flat4 (flat_trod 6 _ _ _ _ _ (by kernel_rfl) hf)
    exact ⟨x4_0, x4_1, Array.ext' hcs, wx4_0, wx4_1⟩
  subst hcs4
  have k5 := h5
  have lt5 : ∀ x ∈ p5, x.block < W.heap.size := by obtain ⟨m, hm⟩ := k5; exact DataW.trod_lt m _ _ _ hm
  obtain ⟨a5, n5, c5, rfl⟩ := okWide_slice Try.underlying27 (hval 5 27 v5 rfl rfl)
  obtain ⟨l5, rfl, rd5, hl5, hm5, wl5⟩ := openInts h5
  clear hA0 hval0
  refine ((fun W l a c rd hl hm _ lim am cm rdm hlm hmm _ f wf n wn e1 e2 we1 we2 on ao co rdo hlo hmo _ => walkFnExactIsWithinLimits l a c lim am cm f n e1 e2 on ao co W rd hl hm rdm hlm hmm rdo hlo hmo) W l0 a0 c0 rd0 hl0 hm0 wl0 l1 a1 c1 rd1 hl1 hm1 wl1 a2 w2 a3 w3 x4_0 x4_1 wx4_0 wx4_1 l5 a5 c5 rd5 hl5 hm5 wl5).mono fun e W' ⟨he, bel⟩ => ?_
  subst he
  exact ⟨_, rfl, _, _, _, [], _, [], hW', trodAll_mk1 (shut_bool Try.underlying4 _), (trodAll_cons_mk (Below.trod laidOut (by kernel_rfl) (of_decide_eq_true (by kernel_rfl)) k0 bel lt0) (trodAll_cons_mk (Below.trod laidOut (by kernel_rfl) (of_decide_eq_true (by kernel_rfl)) k1 bel lt1) (trodAll_cons_mk (shut_int Try.underlying2 w2) (trodAll_cons_mk (shut_int Try.underlying2 w3) (trodAll_cons_mk (Below.trod laidOut (by kernel_rfl) (of_decide_eq_true (by kernel_rfl)) k4 bel lt4) (trodAll_cons_mk (Below.trod laidOut (by kernel_rfl) (of_decide_eq_true (by kernel_rfl)) k5 bel lt5) trodAll_mk0)))))), rfl, bel.frame _, fun h => by cases h⟩

theorem mayE : Program.mayEnter Try.pinned.checked.prog = true := by kernel_rfl
theorem laidO : laidOutB Try.pinned.checked.prog = true := by kernel_rfl
theorem inPl : (OpenClaim.inPlace Rows.fnExactIsWithinLimitsRow == Program.inPlace Try.pinned.checked.prog 12) = true := by kernel_rfl
theorem unf : (OpenClaim.unfollowed Rows.fnExactIsWithinLimitsRow == Program.unfollowed Try.pinned.checked.prog 12) = true := by kernel_rfl
theorem nam : (OpenClaim.named Rows.fnExactIsWithinLimitsRow == Program.varsNamed Try.pinned.checked.prog 12) = true := by kernel_rfl
theorem recu : (OpenClaim.recurses Rows.fnExactIsWithinLimitsRow == Program.recurses Try.pinned.checked.prog 12) = true := by kernel_rfl
theorem closed : joinedFacts Try.pinned.checked.prog 12 Try.f12 Rows.fnExactIsWithinLimitsSpec Rows.fnExactIsWithinLimitsRow = true := by
  unfold joinedFacts
  rw [laidO, mayE, inPl, unf, nam, recu]
  kernel_rfl
theorem over : Rows.fnExactIsWithinLimitsRow.holds Try.pinned (OpenSpec.ofChange Rows.fnExactIsWithinLimitsSpec) :=
  OpenClaim.holds_of_wide 12 Try.f12 rfl rfl rfl rfl rfl rfl rfl ⟨rfl, rfl, rfl, rfl, rfl⟩ rfl rfl rfl rfl rfl (by kernel_rfl) Try.func12 closed
    (of_decide_eq_true (by kernel_rfl)) (by unfold Func.isWrapper; first | (rw [if_pos (by decide +kernel)]; kernel_rfl) | (rw [if_neg (by decide +kernel)]; exact ⟨rfl, rfl⟩))
    (fun os started H enc _ => lifted os started H enc)

theorem proved : Rows.FnExactIsWithinLimitsSaid := over
#print axioms proved
end Go.Proofs.Ytooifamckccadaa.fnExactIsWithinLimits
