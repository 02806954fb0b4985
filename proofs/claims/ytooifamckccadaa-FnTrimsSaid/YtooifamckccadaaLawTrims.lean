/- With the least brakes the limit is kept, and without one of them it is not, for every code. No conditions. -/
import Derived.Test.YtooifamckccadaaRows
import Derived.Test.YtooifamckccadaaTv
import Derived.WalkKit
import Derived.ProofKit
import Derived.OpenShut
import Derived.ShutString
import Derived.ChangeOld
import Derived.Below
namespace Go.Proofs.Ytooifamckccadaa.fnTrims
open Go.ChangeShapes Go.WideShapes Go.ChangeAt Go.RowKit
set_option linter.unusedVariables false
theorem own : ownKnob Try.prog.godebug = none := by kernel_rfl
theorem laidOut : laidOutB Try.prog = true := by kernel_rfl
set_option maxRecDepth 100000 in
theorem lifted (os : Os) (started : os.Started) (H : Type) (enc : TypeId × Value → H) :
    ReturnsInHanded {} Try.checked os 6 .any (Rows.fnTrimsSpec.pre6 enc Try.prog Try.f6 Rows.fnTrimsRow.domain false) (Rows.fnTrimsSpec.post enc Try.prog Try.f6 false true false false) := by
  refine returnsInHanded_of_change (C := Try.checked) own started (by kernel_rfl) Try.func6
    (ChangeSpec.witness6 (enc := enc) (C := Try.checked) false ⟨#[], #[.slice none 0 0], []⟩ 8 (by kernel_rfl) (by kernel_rfl) (by kernel_rfl) (by kernel_rfl)) ?_
  intro W base args ds gs before hval0 hW hcnd _
  have hval : ∀ (j : Nat) t v, Try.f6.params[j]? = some t → args[j]? = some v → Value.okWide Try.prog W .any base t v := hval0
  have hW' := hW
  obtain ⟨p, q, hA0, hV, rfl, hfz, hnd⟩ := hW
  have hA : DataW.TrodAll enc Try.prog W 0 (fun _ => true) true Try.f6.params.toList args.toList ds p := hA0
  rw [Try.params6] at hA hval
  obtain ⟨v0, vs0, d0, ds0, p0, q0, hargs, rfl, rfl, h0, r0⟩ := trodAll_cons hA
  obtain ⟨rfl, rfl, rfl⟩ := trodAll_nil r0
  obtain rfl : args = #[v0] := by cases args; simp_all
  obtain ⟨rfl, rfl⟩ := trodVars_none hV
  have k0 := h0
  have lt0 : ∀ x ∈ p0, x.block < W.heap.size := by obtain ⟨m, hm⟩ := k0; exact DataW.trod_lt m _ _ _ hm
  obtain ⟨a0, n0, c0, rfl⟩ := okWide_slice Try.underlying22 (hval 0 22 v0 rfl rfl)
  obtain ⟨l0, rfl, rd0, hl0, hm0, wl0⟩ := openBytes h0
  clear hA0 hval0
  refine ((fun W l a c rd hl hm wl => walkFnTrims l (u8_of wl) a c W rd hl hm) W l0 a0 c0 rd0 hl0 hm0 wl0).mono fun e W' ⟨he, bel⟩ => ?_
  subst he
  exact ⟨_, rfl, _, _, _, [], _, [], hW', trodAll_mk1 (shut_bool Try.underlying4 _), (trodAll_cons_mk (Below.trod laidOut (by kernel_rfl) (of_decide_eq_true (by kernel_rfl)) k0 bel lt0) trodAll_mk0), rfl, bel.frame _, fun h => by cases h⟩

theorem mayE : Program.mayEnter Try.pinned.checked.prog = true := by kernel_rfl
theorem laidO : laidOutB Try.pinned.checked.prog = true := by kernel_rfl
theorem inPl : (OpenClaim.inPlace Rows.fnTrimsRow == Program.inPlace Try.pinned.checked.prog 6) = true := by kernel_rfl
theorem unf : (OpenClaim.unfollowed Rows.fnTrimsRow == Program.unfollowed Try.pinned.checked.prog 6) = true := by kernel_rfl
theorem nam : (OpenClaim.named Rows.fnTrimsRow == Program.varsNamed Try.pinned.checked.prog 6) = true := by kernel_rfl
theorem recu : (OpenClaim.recurses Rows.fnTrimsRow == Program.recurses Try.pinned.checked.prog 6) = true := by kernel_rfl
theorem closed : joinedFacts Try.pinned.checked.prog 6 Try.f6 Rows.fnTrimsSpec Rows.fnTrimsRow = true := by
  unfold joinedFacts
  rw [laidO, mayE, inPl, unf, nam, recu]
  kernel_rfl
theorem over : Rows.fnTrimsRow.holds Try.pinned (OpenSpec.ofChange Rows.fnTrimsSpec) :=
  OpenClaim.holds_of_wide 6 Try.f6 rfl rfl rfl rfl rfl rfl rfl ⟨rfl, rfl, rfl, rfl, rfl⟩ rfl rfl rfl rfl rfl (by kernel_rfl) Try.func6 closed
    (of_decide_eq_true (by kernel_rfl)) (by unfold Func.isWrapper; first | (rw [if_pos (by decide +kernel)]; kernel_rfl) | (rw [if_neg (by decide +kernel)]; exact ⟨rfl, rfl⟩))
    (fun os started H enc _ => lifted os started H enc)

theorem proved : Rows.FnTrimsSaid := over
#print axioms proved
end Go.Proofs.Ytooifamckccadaa.fnTrims
