/- LeastBrakes of the program and of the reference agree, for every layout, every three numbers and every interval. No conditions. -/
import Derived.Test.YtooifamckccadaaRows
import Derived.Test.YtooifamckccadaaDlb
import Derived.Test.YtooifamckccadaaLf
import Derived.Test.YtooifamckccadaaI
import Derived.WalkKit
import Derived.ProofKit
import Derived.OpenShut
import Derived.ShutString
import Derived.ChangeOld
import Derived.Below
namespace Go.Proofs.Ytooifamckccadaa.fnExactLeastBrakes
open Go.ChangeShapes Go.WideShapes Go.ChangeAt Go.RowKit
set_option linter.unusedVariables false
theorem own : ownKnob Try.prog.godebug = none := by kernel_rfl
theorem laidOut : laidOutB Try.prog = true := by kernel_rfl
theorem flat3 {cs : List Value} (h : AreKinds [some .i64, some .i64] cs) : ∃ (x0 : Int) (x1 : Int), cs = [.int .i64 x0, .int .i64 x1] ∧ (Lit.int .i64 x0).wf = true ∧ (Lit.int .i64 x1).wf = true := by
  obtain ⟨_, _, rfl, ⟨x0, rfl, wx0⟩, _, _, rfl, ⟨x1, rfl, wx1⟩, rfl⟩ := h
  exact ⟨x0, x1, rfl, wx0, wx1⟩

set_option maxRecDepth 100000 in
theorem lifted (os : Os) (started : os.Started) (H : Type) (enc : TypeId × Value → H) :
    ReturnsInHanded {} Try.checked os 5 .any (Rows.fnExactLeastBrakesSpec.pre6 enc Try.prog Try.f5 Rows.fnExactLeastBrakesRow.domain false) (Rows.fnExactLeastBrakesSpec.post enc Try.prog Try.f5 false true false false) := by
  refine returnsInHanded_of_change (C := Try.checked) own started (by kernel_rfl) Try.func5
    (ChangeSpec.witness6 (enc := enc) (C := Try.checked) false ⟨#[], #[.agg #[.slice none 0 0], .int .i64 0, .int .i64 0, .agg #[.int .i64 0, .int .i64 0], .int .i64 0], []⟩ 8 (by kernel_rfl) (by kernel_rfl) (by kernel_rfl) (by kernel_rfl)) ?_
  intro W base args ds gs before hval0 hW hcnd _
  have hval : ∀ (j : Nat) t v, Try.f5.params[j]? = some t → args[j]? = some v → Value.okWide Try.prog W .any base t v := hval0
  have hW' := hW
  obtain ⟨p, q, hA0, hV, rfl, hfz, hnd⟩ := hW
  have hA : DataW.TrodAll enc Try.prog W 0 (fun _ => true) true Try.f5.params.toList args.toList ds p := hA0
  rw [Try.params5] at hA hval
  obtain ⟨v0, vs0, d0, ds0, p0, q0, hargs, rfl, rfl, h0, r0⟩ := trodAll_cons hA
  obtain ⟨v1, vs1, d1, ds1, p1, q1, rfl, rfl, rfl, h1, r1⟩ := trodAll_cons r0
  obtain ⟨v2, vs2, d2, ds2, p2, q2, rfl, rfl, rfl, h2, r2⟩ := trodAll_cons r1
  obtain ⟨v3, vs3, d3, ds3, p3, q3, rfl, rfl, rfl, h3, r3⟩ := trodAll_cons r2
  obtain ⟨v4, vs4, d4, ds4, p4, q4, rfl, rfl, rfl, h4, r4⟩ := trodAll_cons r3
  obtain ⟨rfl, rfl, rfl⟩ := trodAll_nil r4
  obtain rfl : args = #[v0, v1, v2, v3, v4] := by cases args; simp_all
  obtain ⟨rfl, rfl⟩ := trodVars_none hV
  have k0 := h0
  have lt0 : ∀ x ∈ p0, x.block < W.heap.size := by obtain ⟨m, hm⟩ := k0; exact DataW.trod_lt m _ _ _ hm
  obtain ⟨cs0, rfl, hsz0⟩ := okWide_struct Try.underlying50 (hval 0 50 v0 rfl rfl)
  obtain ⟨l0, a0, c0, rfl, rd0, hl0, hm0, wl0⟩ := openLayout h0
  obtain ⟨a1, rfl, rfl, rfl, w1⟩ := open_int Try.underlying2 (hval 1 2 v1 rfl rfl) h1
  obtain ⟨a2, rfl, rfl, rfl, w2⟩ := open_int Try.underlying2 (hval 2 2 v2 rfl rfl) h2
  have k3 := h3
  have lt3 : ∀ x ∈ p3, x.block < W.heap.size := by obtain ⟨m, hm⟩ := k3; exact DataW.trod_lt m _ _ _ hm
  obtain ⟨cs3, rfl, hsz3⟩ := okWide_struct Try.underlying40 (hval 3 40 v3 rfl rfl)
  obtain ⟨x3_0, x3_1, hcs3, wx3_0, wx3_1⟩ : ∃ (x3_0 : Int) (x3_1 : Int), cs3 = #[.int .i64 x3_0, .int .i64 x3_1] ∧ (Lit.int .i64 x3_0).wf = true ∧ (Lit.int .i64 x3_1).wf = true := by
    obtain ⟨fuel, hf⟩ := h3
    obtain ⟨x3_0, x3_1, hcs, wx3_0, wx3_1⟩ := flat3 (flat_trod 6 _ _ _ _ _ (by kernel_rfl) hf)
    exact ⟨x3_0, x3_1, Array.ext' hcs, wx3_0, wx3_1⟩
  subst hcs3
  obtain ⟨a4, rfl, rfl, rfl, w4⟩ := open_int Try.underlying2 (hval 4 2 v4 rfl rfl) h4
  clear hA0 hval0
  refine ((fun W l a c rd hl hm _ f wf n wn e1 e2 we1 we2 m wm => walkFnExactLeastBrakes l a c f n e1 e2 m W rd hl hm) W l0 a0 c0 rd0 hl0 hm0 wl0 a1 w1 a2 w2 x3_0 x3_1 wx3_0 wx3_1 a4 w4).mono fun e W' ⟨he, bel⟩ => ?_
  subst he
  exact ⟨_, rfl, _, _, _, [], _, [], hW', trodAll_mk1 (shut_bool Try.underlying4 _), (trodAll_cons_mk (Below.trod laidOut (by kernel_rfl) (of_decide_eq_true (by kernel_rfl)) k0 bel lt0) (trodAll_cons_mk (shut_int Try.underlying2 w1) (trodAll_cons_mk (shut_int Try.underlying2 w2) (trodAll_cons_mk (Below.trod laidOut (by kernel_rfl) (of_decide_eq_true (by kernel_rfl)) k3 bel lt3) (trodAll_cons_mk (shut_int Try.underlying2 w4) trodAll_mk0))))), rfl, bel.frame _, fun h => by cases h⟩

theorem mayE : Program.mayEnter Try.pinned.checked.prog = true := by kernel_rfl
theorem laidO : laidOutB Try.pinned.checked.prog = true := by kernel_rfl
theorem inPl : (OpenClaim.inPlace Rows.fnExactLeastBrakesRow == Program.inPlace Try.pinned.checked.prog 5) = true := by kernel_rfl
theorem unf : (OpenClaim.unfollowed Rows.fnExactLeastBrakesRow == Program.unfollowed Try.pinned.checked.prog 5) = true := by kernel_rfl
theorem nam : (OpenClaim.named Rows.fnExactLeastBrakesRow == Program.varsNamed Try.pinned.checked.prog 5) = true := by kernel_rfl
theorem recu : (OpenClaim.recurses Rows.fnExactLeastBrakesRow == Program.recurses Try.pinned.checked.prog 5) = true := by kernel_rfl
theorem closed : joinedFacts Try.pinned.checked.prog 5 Try.f5 Rows.fnExactLeastBrakesSpec Rows.fnExactLeastBrakesRow = true := by
  unfold joinedFacts
  rw [laidO, mayE, inPl, unf, nam, recu]
  kernel_rfl
theorem over : Rows.fnExactLeastBrakesRow.holds Try.pinned (OpenSpec.ofChange Rows.fnExactLeastBrakesSpec) :=
  OpenClaim.holds_of_wide 5 Try.f5 rfl rfl rfl rfl rfl rfl rfl ⟨rfl, rfl, rfl, rfl, rfl⟩ rfl rfl rfl rfl rfl (by kernel_rfl) Try.func5 closed
    (of_decide_eq_true (by kernel_rfl)) (by unfold Func.isWrapper; first | (rw [if_pos (by decide +kernel)]; kernel_rfl) | (rw [if_neg (by decide +kernel)]; exact ⟨rfl, rfl⟩))
    (fun os started H enc _ => lifted os started H enc)

theorem proved : Rows.FnExactLeastBrakesSaid := over
#print axioms proved
end Go.Proofs.Ytooifamckccadaa.fnExactLeastBrakes
