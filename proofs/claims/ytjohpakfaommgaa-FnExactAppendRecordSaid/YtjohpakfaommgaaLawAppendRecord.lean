/- AppendRecord of the program and of the reference agree, for every list of numbers and every record. No conditions. -/
import Derived.Test.YtjohpakfaommgaaRows
import Derived.Test.YtjohpakfaommgaaD7
import Derived.Test.YtjohpakfaommgaaA
import Derived.WalkKit
import Derived.ProofKit
import Derived.OpenShut
import Derived.ShutString
import Derived.ChangeOld
import Derived.Below
namespace Go.Proofs.Ytjohpakfaommgaa.fnExactAppendRecord
open Go.ChangeShapes Go.WideShapes Go.ChangeAt Go.RowKit
set_option linter.unusedVariables false
theorem own : ownKnob Try.prog.godebug = none := by kernel_rfl
theorem laidOut : laidOutB Try.prog = true := by kernel_rfl
theorem flat1 {cs : List Value} (h : AreKinds [some .i64, some .i64, some .i64] cs) : ∃ (x0 : Int) (x1 : Int) (x2 : Int), cs = [.int .i64 x0, .int .i64 x1, .int .i64 x2] ∧ (Lit.int .i64 x0).wf = true ∧ (Lit.int .i64 x1).wf = true ∧ (Lit.int .i64 x2).wf = true := by
  obtain ⟨_, _, rfl, ⟨x0, rfl, wx0⟩, _, _, rfl, ⟨x1, rfl, wx1⟩, _, _, rfl, ⟨x2, rfl, wx2⟩, rfl⟩ := h
  exact ⟨x0, x1, x2, rfl, wx0, wx1, wx2⟩

set_option maxRecDepth 100000 in
theorem lifted (os : Os) (started : os.Started) (H : Type) (enc : TypeId × Value → H) :
    ReturnsInHanded {} Try.checked os 9 .any (Rows.fnExactAppendRecordSpec.pre6 enc Try.prog Try.f9 Rows.fnExactAppendRecordRow.domain false) (Rows.fnExactAppendRecordSpec.post enc Try.prog Try.f9 false true false false) := by
  refine returnsInHanded_of_change (C := Try.checked) own started (by kernel_rfl) Try.func9
    (ChangeSpec.witness6 (enc := enc) (C := Try.checked) false ⟨#[], #[.slice none 0 0, .agg #[.int .i64 0, .int .i64 0, .int .i64 0]], []⟩ 8 (by kernel_rfl) (by kernel_rfl) (by kernel_rfl) (by kernel_rfl)) ?_
  intro W base args ds gs before hval0 hW hcnd _
  have hval : ∀ (j : Nat) t v, Try.f9.params[j]? = some t → args[j]? = some v → Value.okWide Try.prog W .any base t v := hval0
  have hW' := hW
  obtain ⟨p, q, hA0, hV, rfl, hfz, hnd⟩ := hW
  have hA : DataW.TrodAll enc Try.prog W 0 (fun _ => true) true Try.f9.params.toList args.toList ds p := hA0
  rw [Try.params9] at hA hval
  obtain ⟨v0, vs0, d0, ds0, p0, q0, hargs, rfl, rfl, h0, r0⟩ := trodAll_cons hA
  obtain ⟨v1, vs1, d1, ds1, p1, q1, rfl, rfl, rfl, h1, r1⟩ := trodAll_cons r0
  obtain ⟨rfl, rfl, rfl⟩ := trodAll_nil r1
  obtain rfl : args = #[v0, v1] := by cases args; simp_all
  obtain ⟨rfl, rfl⟩ := trodVars_none hV
  have k0 := h0
  have lt0 : ∀ x ∈ p0, x.block < W.heap.size := by obtain ⟨m, hm⟩ := k0; exact DataW.trod_lt m _ _ _ hm
  obtain ⟨a0, n0, c0, rfl⟩ := okWide_slice Try.underlying22 (hval 0 22 v0 rfl rfl)
  obtain ⟨l0, rfl, rd0, hl0, hm0, wl0⟩ := openInts h0
  have k1 := h1
  have lt1 : ∀ x ∈ p1, x.block < W.heap.size := by obtain ⟨m, hm⟩ := k1; exact DataW.trod_lt m _ _ _ hm
  obtain ⟨cs1, rfl, hsz1⟩ := okWide_struct Try.underlying33 (hval 1 33 v1 rfl rfl)
  obtain ⟨x1_0, x1_1, x1_2, hcs1, wx1_0, wx1_1, wx1_2⟩ : ∃ (x1_0 : Int) (x1_1 : Int) (x1_2 : Int), cs1 = #[.int .i64 x1_0, .int .i64 x1_1, .int .i64 x1_2] ∧ (Lit.int .i64 x1_0).wf = true ∧ (Lit.int .i64 x1_1).wf = true ∧ (Lit.int .i64 x1_2).wf = true := by
    obtain ⟨fuel, hf⟩ := h1
    obtain ⟨x1_0, x1_1, x1_2, hcs, wx1_0, wx1_1, wx1_2⟩ := flat1 (flat_trod 6 _ _ _ _ _ (by kernel_rfl) hf)
    exact ⟨x1_0, x1_1, x1_2, Array.ext' hcs, wx1_0, wx1_1, wx1_2⟩
  subst hcs1
  clear hA0 hval0
  refine ((fun W l a c rd hl hm _ x0 x1 x2 u0 u1 u2 => walkFnExactAppendRecord l a c x0 x1 x2 W rd hl hm u0 u1 u2) W l0 a0 c0 rd0 hl0 hm0 wl0 x1_0 x1_1 x1_2 wx1_0 wx1_1 wx1_2).mono fun e W' ⟨he, bel⟩ => ?_
  subst he
  exact ⟨_, rfl, _, _, _, [], _, [], hW', trodAll_mk1 (shut_bool Try.underlying4 _), (trodAll_cons_mk (Below.trod laidOut (by kernel_rfl) (of_decide_eq_true (by kernel_rfl)) k0 bel lt0) (trodAll_cons_mk (Below.trod laidOut (by kernel_rfl) (of_decide_eq_true (by kernel_rfl)) k1 bel lt1) trodAll_mk0)), rfl, bel.frame _, fun h => by cases h⟩

theorem over : Rows.fnExactAppendRecordRow.holds Try.pinned (OpenSpec.ofChange Rows.fnExactAppendRecordSpec) :=
  OpenClaim.holds_of_wide 9 Try.f9 rfl rfl rfl rfl rfl rfl rfl ⟨rfl, rfl, rfl, rfl, rfl⟩ rfl rfl rfl rfl rfl (by kernel_rfl) Try.func9 (by kernel_rfl)
    (of_decide_eq_true (by kernel_rfl)) (by unfold Func.isWrapper; first | (rw [if_pos (by decide +kernel)]; kernel_rfl) | (rw [if_neg (by decide +kernel)]; exact ⟨rfl, rfl⟩))
    (fun os started H enc _ => lifted os started H enc)

theorem proved : Rows.FnExactAppendRecordSaid := over
#print axioms proved
end Go.Proofs.Ytjohpakfaommgaa.fnExactAppendRecord
