/- ActiveAfter of the program and of the reference agree, for every segment and every interval. No conditions. -/
import Derived.Test.YtooifamckccadaaRows
import Derived.Test.YtooifamckccadaaD1
import Derived.Test.YtooifamckccadaaRk
import Derived.WalkKit
import Derived.ProofKit
import Derived.OpenShut
import Derived.ShutString
import Derived.ChangeOld
import Derived.Below
namespace Go.Proofs.Ytooifamckccadaa.fnExactActiveAfter
open Go.ChangeShapes Go.WideShapes Go.ChangeAt Go.RowKit
set_option linter.unusedVariables false
theorem own : ownKnob Try.prog.godebug = none := by kernel_rfl
theorem laidOut : laidOutB Try.prog = true := by kernel_rfl
theorem flat0 {cs : List Value} (h : AreKinds [some .i64, some .i64, some .i64, some .i64, some .i64, some .i64, some .i64] cs) : ∃ (x0 : Int) (x1 : Int) (x2 : Int) (x3 : Int) (x4 : Int) (x5 : Int) (x6 : Int), cs = [.int .i64 x0, .int .i64 x1, .int .i64 x2, .int .i64 x3, .int .i64 x4, .int .i64 x5, .int .i64 x6] ∧ (Lit.int .i64 x0).wf = true ∧ (Lit.int .i64 x1).wf = true ∧ (Lit.int .i64 x2).wf = true ∧ (Lit.int .i64 x3).wf = true ∧ (Lit.int .i64 x4).wf = true ∧ (Lit.int .i64 x5).wf = true ∧ (Lit.int .i64 x6).wf = true := by
  obtain ⟨_, _, rfl, ⟨x0, rfl, wx0⟩, _, _, rfl, ⟨x1, rfl, wx1⟩, _, _, rfl, ⟨x2, rfl, wx2⟩, _, _, rfl, ⟨x3, rfl, wx3⟩, _, _, rfl, ⟨x4, rfl, wx4⟩, _, _, rfl, ⟨x5, rfl, wx5⟩, _, _, rfl, ⟨x6, rfl, wx6⟩, rfl⟩ := h
  exact ⟨x0, x1, x2, x3, x4, x5, x6, rfl, wx0, wx1, wx2, wx3, wx4, wx5, wx6⟩

theorem flat1 {cs : List Value} (h : AreKinds [some .i64, some .i64] cs) : ∃ (x0 : Int) (x1 : Int), cs = [.int .i64 x0, .int .i64 x1] ∧ (Lit.int .i64 x0).wf = true ∧ (Lit.int .i64 x1).wf = true := by
  obtain ⟨_, _, rfl, ⟨x0, rfl, wx0⟩, _, _, rfl, ⟨x1, rfl, wx1⟩, rfl⟩ := h
  exact ⟨x0, x1, rfl, wx0, wx1⟩

set_option maxRecDepth 100000 in
theorem lifted (os : Os) (started : os.Started) (H : Type) (enc : TypeId × Value → H) :
    ReturnsInHanded {} Try.checked os 4 .any (Rows.fnExactActiveAfterSpec.pre6 enc Try.prog Try.f4 Rows.fnExactActiveAfterRow.domain false) (Rows.fnExactActiveAfterSpec.post enc Try.prog Try.f4 false true false false) := by
  refine returnsInHanded_of_change (C := Try.checked) own started (by kernel_rfl) Try.func4
    (ChangeSpec.witness6 (enc := enc) (C := Try.checked) false ⟨#[], #[.agg #[.int .i64 0, .int .i64 0, .int .i64 0, .int .i64 0, .int .i64 0, .int .i64 0, .int .i64 0], .agg #[.int .i64 0, .int .i64 0]], []⟩ 8 (by kernel_rfl) (by kernel_rfl) (by kernel_rfl) (by kernel_rfl)) ?_
  intro W base args ds gs before hval0 hW hcnd _
  have hval : ∀ (j : Nat) t v, Try.f4.params[j]? = some t → args[j]? = some v → Value.okWide Try.prog W .any base t v := hval0
  have hW' := hW
  obtain ⟨p, q, hA0, hV, rfl, hfz, hnd⟩ := hW
  have hA : DataW.TrodAll enc Try.prog W 0 (fun _ => true) true Try.f4.params.toList args.toList ds p := hA0
  rw [Try.params4] at hA hval
  obtain ⟨v0, vs0, d0, ds0, p0, q0, hargs, rfl, rfl, h0, r0⟩ := trodAll_cons hA
  obtain ⟨v1, vs1, d1, ds1, p1, q1, rfl, rfl, rfl, h1, r1⟩ := trodAll_cons r0
  obtain ⟨rfl, rfl, rfl⟩ := trodAll_nil r1
  obtain rfl : args = #[v0, v1] := by cases args; simp_all
  obtain ⟨rfl, rfl⟩ := trodVars_none hV
  have k0 := h0
  have lt0 : ∀ x ∈ p0, x.block < W.heap.size := by obtain ⟨m, hm⟩ := k0; exact DataW.trod_lt m _ _ _ hm
  obtain ⟨cs0, rfl, hsz0⟩ := okWide_struct Try.underlying42 (hval 0 42 v0 rfl rfl)
  obtain ⟨x0_0, x0_1, x0_2, x0_3, x0_4, x0_5, x0_6, hcs0, wx0_0, wx0_1, wx0_2, wx0_3, wx0_4, wx0_5, wx0_6⟩ : ∃ (x0_0 : Int) (x0_1 : Int) (x0_2 : Int) (x0_3 : Int) (x0_4 : Int) (x0_5 : Int) (x0_6 : Int), cs0 = #[.int .i64 x0_0, .int .i64 x0_1, .int .i64 x0_2, .int .i64 x0_3, .int .i64 x0_4, .int .i64 x0_5, .int .i64 x0_6] ∧ (Lit.int .i64 x0_0).wf = true ∧ (Lit.int .i64 x0_1).wf = true ∧ (Lit.int .i64 x0_2).wf = true ∧ (Lit.int .i64 x0_3).wf = true ∧ (Lit.int .i64 x0_4).wf = true ∧ (Lit.int .i64 x0_5).wf = true ∧ (Lit.int .i64 x0_6).wf = true := by
    obtain ⟨fuel, hf⟩ := h0
    obtain ⟨x0_0, x0_1, x0_2, x0_3, x0_4, x0_5, x0_6, hcs, wx0_0, wx0_1, wx0_2, wx0_3, wx0_4, wx0_5, wx0_6⟩ := flat0 (flat_trod 6 _ _ _ _ _ (by kernel_rfl) hf)
    exact ⟨x0_0, x0_1, x0_2, x0_3, x0_4, x0_5, x0_6, Array.ext' hcs, wx0_0, wx0_1, wx0_2, wx0_3, wx0_4, wx0_5, wx0_6⟩
  subst hcs0
  have k1 := h1
  have lt1 : ∀ x ∈ p1, x.block < W.heap.size := by obtain ⟨m, hm⟩ := k1; exact DataW.trod_lt m _ _ _ hm
  obtain ⟨cs1, rfl, hsz1⟩ := okWide_struct Try.underlying40 (hval 1 40 v1 rfl rfl)
  obtain ⟨x1_0, x1_1, hcs1, wx1_0, wx1_1⟩ : ∃ (x1_0 : Int) (x1_1 : Int), cs1 = #[.int .i64 x1_0, .int .i64 x1_1] ∧ (Lit.int .i64 x1_0).wf = true ∧ (Lit.int .i64 x1_1).wf = true := by
    obtain ⟨fuel, hf⟩ := h1
    obtain ⟨x1_0, x1_1, hcs, wx1_0, wx1_1⟩ := flat1 (flat_trod 6 _ _ _ _ _ (by kernel_rfl) hf)
    exact ⟨x1_0, x1_1, Array.ext' hcs, wx1_0, wx1_1⟩
  subst hcs1
  clear hA0 hval0
  refine ((fun W k len rise rl rh fl fh w1 w2 w3 w4 w5 w6 w7 lo hi w8 w9 => lawActiveAfter k len rise rl rh fl fh lo hi W) W x0_0 x0_1 x0_2 x0_3 x0_4 x0_5 x0_6 wx0_0 wx0_1 wx0_2 wx0_3 wx0_4 wx0_5 wx0_6 x1_0 x1_1 wx1_0 wx1_1).mono fun e W' ⟨he, bel⟩ => ?_
  subst he
  exact ⟨_, rfl, _, _, _, [], _, [], hW', trodAll_mk1 (shut_bool Try.underlying4 _), (trodAll_cons_mk (Below.trod laidOut (by kernel_rfl) (of_decide_eq_true (by kernel_rfl)) k0 bel lt0) (trodAll_cons_mk (Below.trod laidOut (by kernel_rfl) (of_decide_eq_true (by kernel_rfl)) k1 bel lt1) trodAll_mk0)), rfl, bel.frame _, fun h => by cases h⟩

theorem noRec : Program.recurses Try.pinned.checked.prog 4 = false := recurses_down [4, 31, 30, 97, 132, 131, 90, 89, 152, 179, 191, 167, 109, 28, 29, 27, 96, 135, 134, 95, 94, 153, 81, 148, 178, 190, 82] (by kernel_rfl) (by kernel_rfl) (by kernel_rfl)
theorem mayE : Program.mayEnter Try.pinned.checked.prog = true := by kernel_rfl
theorem laidO : laidOutB Try.pinned.checked.prog = true := by kernel_rfl
theorem inPl : (OpenClaim.inPlace Rows.fnExactActiveAfterRow == Program.inPlace Try.pinned.checked.prog 4) = true := by kernel_rfl
theorem unf : (OpenClaim.unfollowed Rows.fnExactActiveAfterRow == Program.unfollowed Try.pinned.checked.prog 4) = true := by kernel_rfl
theorem nam : (OpenClaim.named Rows.fnExactActiveAfterRow == Program.varsNamed Try.pinned.checked.prog 4) = true := by kernel_rfl
theorem recu : (OpenClaim.recurses Rows.fnExactActiveAfterRow == Program.recurses Try.pinned.checked.prog 4) = true := by rw [noRec]; rfl
theorem closed : joinedFacts Try.pinned.checked.prog 4 Try.f4 Rows.fnExactActiveAfterSpec Rows.fnExactActiveAfterRow = true := by
  unfold joinedFacts
  rw [laidO, mayE, inPl, unf, nam, recu]
  kernel_rfl
theorem over : Rows.fnExactActiveAfterRow.holds Try.pinned (OpenSpec.ofChange Rows.fnExactActiveAfterSpec) :=
  OpenClaim.holds_of_wide 4 Try.f4 rfl rfl rfl rfl rfl rfl rfl ⟨rfl, rfl, rfl, rfl, rfl⟩ rfl rfl rfl rfl rfl (by kernel_rfl) Try.func4 closed
    (of_decide_eq_true (by kernel_rfl)) (by unfold Func.isWrapper; first | (rw [if_pos (by decide +kernel)]; kernel_rfl) | (rw [if_neg (by decide +kernel)]; exact ⟨rfl, rfl⟩))
    (fun os started H enc _ => lifted os started H enc)

theorem proved : Rows.FnExactActiveAfterSaid := over
#print axioms proved
end Go.Proofs.Ytooifamckccadaa.fnExactActiveAfter
