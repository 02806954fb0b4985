/- A train that may enter a block stops within its bound, which is at most the length of the block, and a slower train does not stop later, for every code. No conditions. -/
import Derived.Test.YtooifamckccadaaRows
import Derived.Test.YtooifamckccadaaSr
import Derived.WalkKit
import Derived.ProofKit
import Derived.OpenShut
import Derived.ShutString
import Derived.ChangeOld
import Derived.Below
namespace Go.Proofs.Ytooifamckccadaa.fnStopBounds
open Go.ChangeShapes Go.WideShapes Go.ChangeAt Go.RowKit
set_option linter.unusedVariables false
theorem own : ownKnob Try.prog.godebug = none := by kernel_rfl
theorem laidOut : laidOutB Try.prog = true := by kernel_rfl
set_option maxRecDepth 100000 in
theorem lifted (os : Os) (started : os.Started) (H : Type) (enc : TypeId × Value → H) :
    ReturnsInHanded {} Try.checked os 17 .any (Rows.fnStopBoundsSpec.pre6 enc Try.prog Try.f17 Rows.fnStopBoundsRow.domain false) (Rows.fnStopBoundsSpec.post enc Try.prog Try.f17 false true false false) := by
  refine returnsInHanded_of_change (C := Try.checked) own started (by kernel_rfl) Try.func17
    (ChangeSpec.witness6 (enc := enc) (C := Try.checked) false ⟨#[], #[.slice none 0 0], []⟩ 8 (by kernel_rfl) (by kernel_rfl) (by kernel_rfl) (by kernel_rfl)) ?_
  intro W base args ds gs before hval0 hW hcnd _
  have hval : ∀ (j : Nat) t v, Try.f17.params[j]? = some t → args[j]? = some v → Value.okWide Try.prog W .any base t v := hval0
  have hW' := hW
  obtain ⟨p, q, hA0, hV, rfl, hfz, hnd⟩ := hW
  have hA : DataW.TrodAll enc Try.prog W 0 (fun _ => true) true Try.f17.params.toList args.toList ds p := hA0
  rw [Try.params17] at hA hval
  obtain ⟨v0, vs0, d0, ds0, p0, q0, hargs, rfl, rfl, h0, r0⟩ := trodAll_cons hA
  obtain ⟨rfl, rfl, rfl⟩ := trodAll_nil r0
  obtain rfl : args = #[v0] := by cases args; simp_all
  obtain ⟨rfl, rfl⟩ := trodVars_none hV
  have k0 := h0
  have lt0 : ∀ x ∈ p0, x.block < W.heap.size := by obtain ⟨m, hm⟩ := k0; exact DataW.trod_lt m _ _ _ hm
  obtain ⟨a0, n0, c0, rfl⟩ := okWide_slice Try.underlying22 (hval 0 22 v0 rfl rfl)
  obtain ⟨l0, rfl, rd0, hl0, hm0, wl0⟩ := openBytes h0
  clear hA0 hval0
  refine ((fun W l a c rd hl hm wl => walkFnStopBounds l (u8_of wl) a c W rd hl hm) W l0 a0 c0 rd0 hl0 hm0 wl0).mono fun e W' ⟨he, bel⟩ => ?_
  subst he
  exact ⟨_, rfl, _, _, _, [], _, [], hW', trodAll_mk1 (shut_bool Try.underlying4 _), (trodAll_cons_mk (Below.trod laidOut (by kernel_rfl) (of_decide_eq_true (by kernel_rfl)) k0 bel lt0) trodAll_mk0), rfl, bel.frame _, fun h => by cases h⟩

theorem mayE : Program.mayEnter Try.pinned.checked.prog = true := by kernel_rfl
theorem laidO : laidOutB Try.pinned.checked.prog = true := by kernel_rfl
theorem inPl : (OpenClaim.inPlace Rows.fnStopBoundsRow == Program.inPlace Try.pinned.checked.prog 17) = true := by kernel_rfl
theorem unf : (OpenClaim.unfollowed Rows.fnStopBoundsRow == Program.unfollowed Try.pinned.checked.prog 17) = true := by kernel_rfl
theorem nam : (OpenClaim.named Rows.fnStopBoundsRow == Program.varsNamed Try.pinned.checked.prog 17) = true := by kernel_rfl
theorem recu : (OpenClaim.recurses Rows.fnStopBoundsRow == Program.recurses Try.pinned.checked.prog 17) = true := by kernel_rfl
theorem closed : joinedFacts Try.pinned.checked.prog 17 Try.f17 Rows.fnStopBoundsSpec Rows.fnStopBoundsRow = true := by
  unfold joinedFacts
  rw [laidO, mayE, inPl, unf, nam, recu]
  kernel_rfl
theorem over : Rows.fnStopBoundsRow.holds Try.pinned (OpenSpec.ofChange Rows.fnStopBoundsSpec) :=
  OpenClaim.holds_of_wide 17 Try.f17 rfl rfl rfl rfl rfl rfl rfl ⟨rfl, rfl, rfl, rfl, rfl⟩ rfl rfl rfl rfl rfl (by kernel_rfl) Try.func17 closed
    (of_decide_eq_true (by kernel_rfl)) (by unfold Func.isWrapper; first | (rw [if_pos (by decide +kernel)]; kernel_rfl) | (rw [if_neg (by decide +kernel)]; exact ⟨rfl, rfl⟩))
    (fun os started H enc _ => lifted os started H enc)

theorem proved : Rows.FnStopBoundsSaid := over
#print axioms proved
end Go.Proofs.Ytooifamckccadaa.fnStopBounds
