/- GroupsLoaded of the program and of the reference agree, for every rule, every list of groups of heights and every number of rows. No conditions. -/
import Derived.Test.YtdjbbjehgfkefaaRows
import Derived.Test.YtdjbbjehgfkefaaDgl
import Derived.WalkKit
import Derived.ProofKit
import Derived.OpenShut
import Derived.ShutString
import Derived.ChangeOld
import Derived.Below
namespace Go.Proofs.Ytdjbbjehgfkefaa.fnExactGroupsLoaded
open Go.ChangeShapes Go.WideShapes Go.ChangeAt Go.RowKit
set_option linter.unusedVariables false
theorem own : ownKnob Try.prog.godebug = none := by kernel_rfl
theorem laidOut : laidOutB Try.prog = true := by kernel_rfl
theorem flat0 {cs : List Value} (h : AreKinds [some .i64, some .i64, some .i64] cs) : ∃ (x0 : Int) (x1 : Int) (x2 : Int), cs = [.int .i64 x0, .int .i64 x1, .int .i64 x2] ∧ (Lit.int .i64 x0).wf = true ∧ (Lit.int .i64 x1).wf = true ∧ (Lit.int .i64 x2).wf = true := by
  obtain ⟨_, _, rfl, ⟨x0, rfl, wx0⟩, _, _, rfl, ⟨x1, rfl, wx1⟩, _, _, rfl, ⟨x2, rfl, wx2⟩, rfl⟩ := h
  exact ⟨x0, x1, x2, rfl, wx0, wx1, wx2⟩

set_option maxRecDepth 100000 in
theorem lifted (os : Os) (started : os.Started) (H : Type) (enc : TypeId × Value → H) :
    ReturnsInHanded {} Try.checked os 4 .any (Rows.fnExactGroupsLoadedSpec.pre6 enc Try.prog Try.f4 Rows.fnExactGroupsLoadedRow.domain false) (Rows.fnExactGroupsLoadedSpec.post enc Try.prog Try.f4 false true false false) := by
  refine returnsInHanded_of_change (C := Try.checked) own started (by kernel_rfl) Try.func4
    (ChangeSpec.witness6 (enc := enc) (C := Try.checked) false ⟨#[], #[.agg #[.int .i64 0, .int .i64 0, .int .i64 0], .slice none 0 0, .int .i64 0], []⟩ 8 (by kernel_rfl) (by kernel_rfl) (by kernel_rfl) (by kernel_rfl)) ?_
  intro W base args ds gs before hval0 hW hcnd _
  have hval : ∀ (j : Nat) t v, Try.f4.params[j]? = some t → args[j]? = some v → Value.okWide Try.prog W .any base t v := hval0
  have hW' := hW
  obtain ⟨p, q, hA0, hV, rfl, hfz, hnd⟩ := hW
  have hA : DataW.TrodAll enc Try.prog W 0 (fun _ => true) true Try.f4.params.toList args.toList ds p := hA0
  rw [Try.params4] at hA hval
  obtain ⟨v0, vs0, d0, ds0, p0, q0, hargs, rfl, rfl, h0, r0⟩ := trodAll_cons hA
  obtain ⟨v1, vs1, d1, ds1, p1, q1, rfl, rfl, rfl, h1, r1⟩ := trodAll_cons r0
  obtain ⟨v2, vs2, d2, ds2, p2, q2, rfl, rfl, rfl, h2, r2⟩ := trodAll_cons r1
  obtain ⟨rfl, rfl, rfl⟩ := trodAll_nil r2
  obtain rfl : args = #[v0, v1, v2] := by cases args; simp_all
  obtain ⟨rfl, rfl⟩ := trodVars_none hV
  have k0 := h0
  have lt0 : ∀ x ∈ p0, x.block < W.heap.size := by obtain ⟨m, hm⟩ := k0; exact DataW.trod_lt m _ _ _ hm
  obtain ⟨cs0, rfl, hsz0⟩ := okWide_struct Try.underlying23 (hval 0 23 v0 rfl rfl)
  obtain ⟨x0_0, x0_1, x0_2, hcs0, wx0_0, wx0_1, wx0_2⟩ : ∃ (x0_0 : Int) (x0_1 : Int) (x0_2 : Int), cs0 = #[.int .i64 x0_0, .int .i64 x0_1, .int .i64 x0_2] ∧ (Lit.int .i64 x0_0).wf = true ∧ (Lit.int .i64 x0_1).wf = true ∧ (Lit.int .i64 x0_2).wf = true := by
    obtain ⟨fuel, hf⟩ := h0
    obtain ⟨x0_0, x0_1, x0_2, hcs, wx0_0, wx0_1, wx0_2⟩ := flat0 (flat_trod 6 _ _ _ _ _ (by kernel_rfl) hf)
    exact ⟨x0_0, x0_1, x0_2, Array.ext' hcs, wx0_0, wx0_1, wx0_2⟩
  subst hcs0
  have k1 := h1
  have lt1 : ∀ x ∈ p1, x.block < W.heap.size := by obtain ⟨m, hm⟩ := k1; exact DataW.trod_lt m _ _ _ hm
  obtain ⟨a1, n1, c1, rfl⟩ := okWide_slice Try.underlying33 (hval 1 33 v1 rfl rfl)
  obtain ⟨l1, rfl, rd1, hl1, hm1, wl1⟩ := openGroups h1
  obtain ⟨a2, rfl, rfl, rfl, w2⟩ := open_int Try.underlying2 (hval 2 2 v2 rfl rfl) h2
  clear hA0 hval0
  refine ((fun W x y z wx wy wz l a c rd hl hm wl n wn => walkFnExactGroupsLoaded x y z l a c n W rd hl hm wl) W x0_0 x0_1 x0_2 wx0_0 wx0_1 wx0_2 l1 a1 c1 rd1 hl1 hm1 wl1 a2 w2).mono fun e W' ⟨he, bel⟩ => ?_
  subst he
  exact ⟨_, rfl, _, _, _, [], _, [], hW', trodAll_mk1 (shut_bool Try.underlying4 _), (trodAll_cons_mk (Below.trod laidOut (by kernel_rfl) (of_decide_eq_true (by kernel_rfl)) k0 bel lt0) (trodAll_cons_mk (Below.trod laidOut (by kernel_rfl) (of_decide_eq_true (by kernel_rfl)) k1 bel lt1) (trodAll_cons_mk (shut_int Try.underlying2 w2) trodAll_mk0))), rfl, bel.frame _, fun h => by cases h⟩

theorem over : Rows.fnExactGroupsLoadedRow.holds Try.pinned (OpenSpec.ofChange Rows.fnExactGroupsLoadedSpec) :=
  OpenClaim.holds_of_wide 4 Try.f4 rfl rfl rfl rfl rfl rfl rfl ⟨rfl, rfl, rfl, rfl, rfl⟩ rfl rfl rfl rfl rfl (by kernel_rfl) Try.func4 (by kernel_rfl)
    (of_decide_eq_true (by kernel_rfl)) (by unfold Func.isWrapper; first | (rw [if_pos (by decide +kernel)]; kernel_rfl) | (rw [if_neg (by decide +kernel)]; exact ⟨rfl, rfl⟩))
    (fun os started H enc _ => lifted os started H enc)

theorem proved : Rows.FnExactGroupsLoadedSaid := over
#print axioms proved
end Go.Proofs.Ytdjbbjehgfkefaa.fnExactGroupsLoaded
