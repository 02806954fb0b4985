/- IsCaught of the program and of the reference agree, for every layout, every two lists of numbers, every number and every interval. No conditions. -/
import Derived.Test.YtooifamckccadaaRows
import Derived.Test.YtooifamckccadaaDh
import Derived.Test.YtooifamckccadaaLf
import Derived.Test.YtooifamckccadaaI
import Derived.WalkKit
import Derived.ProofKit
import Derived.OpenShut
import Derived.ShutString
import Derived.ChangeOld
import Derived.Below
namespace Go.Proofs.Ytooifamckccadaa.fnExactIsCaught
open Go.ChangeShapes Go.WideShapes Go.ChangeAt Go.RowKit
set_option linter.unusedVariables false
theorem own : ownKnob Try.prog.godebug = none := by kernel_rfl
theorem laidOut : laidOutB Try.prog = true := by kernel_rfl
theorem flat3 {cs : List Value} (h : AreKinds [some .i64, some .i64] cs) : ∃ (x0 : Int) (x1 : Int), cs = [.int .i64 x0, .int .i64 x1] ∧ (Lit.int .i64 x0).wf = true ∧ (Lit.int .i64 x1).wf = true := by
  obtain ⟨_, _, rfl, ⟨x0, rfl, wx0⟩, _, _, rfl, ⟨x1, rfl, wx1⟩, rfl⟩ := h
  exact ⟨x0, x1, rfl, wx0, wx1⟩

set_option maxRecDepth 100000 in
theorem lifted (os : Os) (started : os.Started) (H : Type) (enc : TypeId × Value → H) :
    ReturnsInHanded {} Try.checked os 15 .any (Rows.fnExactIsCaughtSpec.pre6 enc Try.prog Try.f15 Rows.fnExactIsCaughtRow.domain false) (Rows.fnExactIsCaughtSpec.post enc Try.prog Try.f15 false true false false) := by
  refine returnsInHanded_of_change (C := Try.checked) own started (by kernel_rfl) Try.func15
    (ChangeSpec.witness6 (enc := enc) (C := Try.checked) false ⟨#[], #[.agg #[.slice none 0 0], .slice none 0 0, .int .i64 0, .agg #[.int .i64 0, .int .i64 0], .slice none 0 0], []⟩ 8 (by kernel_rfl) (by kernel_rfl) (by kernel_rfl) (by kernel_rfl)) ?_
  intro W base args ds gs before hval0 hW hcnd _
  have hval : ∀ (j : Nat) t v, Try.f15.params[j]? = some t → args[j]? = some v → Value.okWide Try.prog W .any base t v := hval0
  have hW' := hW
  obtain ⟨p, q, hA0, hV, rfl, hfz, hnd⟩ := hW
  have hA : DataW.TrodAll enc Try.prog W 0 (fun _ => true) true Try.f15.params.toList args.toList ds p := hA0
  rw [Try.params15] at hA hval
  obtain ⟨v0, vs0, d0, ds0, p0, q0, hargs, rfl, rfl, h0, r0⟩ := trodAll_cons hA
  obtain ⟨v1, vs1, d1, ds1, p1, q1, rfl, rfl, rfl, h1, r1⟩ := trodAll_cons r0
  obtain ⟨v2, vs2, d2, ds2, p2, q2, rfl, rfl, rfl, h2, r2⟩ := trodAll_cons r1
  obtain ⟨v3, vs3, d3, ds3, p3, q3, rfl, rfl, rfl, h3, r3⟩ := trodAll_cons r2
  obtain ⟨v4, vs4, d4, ds4, p4, q4, rfl, rfl, rfl, h4, r4⟩ := trodAll_cons r3
  obtain ⟨rfl, rfl, rfl⟩ := trodAll_nil r4
  obtain rfl : args = #[v0, v1, v2, v3, v4] := by cases args; simp_all
  obtain ⟨rfl, rfl⟩ := trodVars_none hV
  have k0 := h0
  have lt0 : ∀ x ∈ p0, x.block < W.heap.size := by obtain ⟨m, hm⟩ := k0; exact DataW.trod_lt m _ _ _ hm
  obtain ⟨cs0, rfl, hsz0⟩ := okWide_struct Try.underlying50 (hval 0 50 v0 rfl rfl)
  obtain ⟨l0, a0, c0, rfl, rd0, hl0, hm0, wl0⟩ := openLayout h0
  have k1 := h1
  have lt1 : ∀ x ∈ p1, x.block < W.heap.size := by obtain ⟨m, hm⟩ := k1; exact DataW.trod_lt m _ _ _ hm
  obtain ⟨a1, n1, c1, rfl⟩ := okWide_slice Try.underlying27 (hval 1 27 v1 rfl rfl)
  obtain ⟨l1, rfl, rd1, hl1, hm1, wl1⟩ := openInts h1
  obtain ⟨a2, rfl, rfl, rfl, w2⟩ := open_int Try.underlying2 (hval 2 2 v2 rfl rfl) h2
  have k3 := h3
  have lt3 : ∀ x ∈ p3, x.block < W.heap.size := by obtain ⟨m, hm⟩ := k3; exact DataW.trod_lt m _ _ _ hm
  obtain ⟨cs3, rfl, hsz3⟩ := okWide_struct Try.underlying40 (hval 3 40 v3 rfl rfl)
  obtain ⟨x3_0, x3_1, hcs3, wx3_0, wx3_1⟩ : ∃ (x3_0 : Int) (x3_1 : Int), cs3 = #[.int .i64 x3_0, .int .i64 x3_1] ∧ (Lit.int .i64 x3_0).wf = true ∧ (Lit.int .i64 x3_1).wf = true := by
    obtain ⟨fuel, hf⟩ := h3
    obtain ⟨x3_0, x3_1, hcs, wx3_0, wx3_1⟩ := flat3 (flat_trod 6 _ _ _ _ _ (by kernel_rfl) hf)
    exact ⟨x3_0, x3_1, Array.ext' hcs, wx3_0, wx3_1⟩
  subst hcs3
  have k4 := h4
  have lt4 : ∀ x ∈ p4, x.block < W.heap.size := by obtain ⟨m, hm⟩ := k4; exact DataW.trod_lt m _ _ _ hm
  obtain ⟨a4, n4, c4, rfl⟩ := okWide_slice Try.underlying27 (hval 4 27 v4 rfl rfl)
  obtain ⟨l4, rfl, rd4, hl4, hm4, wl4⟩ := openInts h4
  clear hA0 hval0
  refine ((fun W l a c rd hl hm _ fs fa fc rdf hlf hmf _ b wb e1 e2 we1 we2 on ao co rdo hlo hmo _ => walkFnExactIsCaught l a c fs fa fc b e1 e2 on ao co W rd hl hm rdf hlf hmf rdo hlo hmo) W l0 a0 c0 rd0 hl0 hm0 wl0 l1 a1 c1 rd1 hl1 hm1 wl1 a2 w2 x3_0 x3_1 wx3_0 wx3_1 l4 a4 c4 rd4 hl4 hm4 wl4).mono fun e W' ⟨he, bel⟩ => ?_
  subst he
  exact ⟨_, rfl, _, _, _, [], _, [], hW', trodAll_mk1 (shut_bool Try.underlying4 _), (trodAll_cons_mk (Below.trod laidOut (by kernel_rfl) (of_decide_eq_true (by kernel_rfl)) k0 bel lt0) (trodAll_cons_mk (Below.trod laidOut (by kernel_rfl) (of_decide_eq_true (by kernel_rfl)) k1 bel lt1) (trodAll_cons_mk (shut_int Try.underlying2 w2) (trodAll_cons_mk (Below.trod laidOut (by kernel_rfl) (of_decide_eq_true (by kernel_rfl)) k3 bel lt3) (trodAll_cons_mk (Below.trod laidOut (by kernel_rfl) (of_decide_eq_true (by kernel_rfl)) k4 bel lt4) trodAll_mk0))))), rfl, bel.frame _, fun h => by cases h⟩

theorem mayE : Program.mayEnter Try.pinned.checked.prog = true := by kernel_rfl
theorem laidO : laidOutB Try.pinned.checked.prog = true := by kernel_rfl
theorem inPl : (OpenClaim.inPlace Rows.fnExactIsCaughtRow == Program.inPlace Try.pinned.checked.prog 15) = true := by kernel_rfl
theorem unf : (OpenClaim.unfollowed Rows.fnExactIsCaughtRow == Program.unfollowed Try.pinned.checked.prog 15) = true := by kernel_rfl
theorem nam : (OpenClaim.named Rows.fnExactIsCaughtRow == Program.varsNamed Try.pinned.checked.prog 15) = true := by kernel_rfl
theorem recu : (OpenClaim.recurses Rows.fnExactIsCaughtRow == Program.recurses Try.pinned.checked.prog 15) = true := by kernel_rfl
theorem closed : joinedFacts Try.pinned.checked.prog 15 Try.f15 Rows.fnExactIsCaughtSpec Rows.fnExactIsCaughtRow = true := by
  unfold joinedFacts
  rw [laidO, mayE, inPl, unf, nam, recu]
  kernel_rfl
theorem over : Rows.fnExactIsCaughtRow.holds Try.pinned (OpenSpec.ofChange Rows.fnExactIsCaughtSpec) :=
  OpenClaim.holds_of_wide 15 Try.f15 rfl rfl rfl rfl rfl rfl rfl ⟨rfl, rfl, rfl, rfl, rfl⟩ rfl rfl rfl rfl rfl (by kernel_rfl) Try.func15 closed
    (of_decide_eq_true (by kernel_rfl)) (by unfold Func.isWrapper; first | (rw [if_pos (by decide +kernel)]; kernel_rfl) | (rw [if_neg (by decide +kernel)]; exact ⟨rfl, rfl⟩))
    (fun os started H enc _ => lifted os started H enc)

theorem proved : Rows.FnExactIsCaughtSaid := over
#print axioms proved
end Go.Proofs.Ytooifamckccadaa.fnExactIsCaught
