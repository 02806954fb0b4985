/- A mode is reachable exactly if there are least commands to it, and these lead there; the table of commands reads as its initialiser lays it; the tied card. -/
import Derived.Test.YtakchdkoildkbaaDoorRows
import Derived.Test.YtakchdkoildkbaaDoorMw
import Derived.Test.YtakchdkoildkbaaDoorDr
import Derived.Test.YtakchdkoildkbaaDoorLd
import Derived.Test.YtakchdkoildkbaaDoorTie
import Derived.Test.YtakchdkoildkbaaDoorCards
import Derived.SevenTiedAt
import Derived.JoinedOf
import Derived.WalkKit
import Derived.ProofKit
import Derived.OpenShut
import Derived.ShutString
import Derived.ChangeOld
import Derived.Below
namespace Go.Proofs.YtakchdkoildkbaaDoor.fnModeWays
open Go.ChangeShapes Go.WideShapes Go.ChangeAt Go.RowKit
set_option linter.unusedVariables false
theorem own : ownKnob Tryd.prog.godebug = none := by kernel_rfl
theorem laidOut : laidOutB Tryd.prog = true := by kernel_rfl
set_option maxRecDepth 100000 in
theorem lifted (os : Os) (started : os.Started) (H : Type) (enc : TypeId × Value → H) :
    ReturnsInHanded {} Tryd.checked os 7 .any (fun w args => (Rows.fnModeWaysSpec.pre enc Tryd.prog Tryd.f7 [] false w args ∧ laidMet Tryd.prog [(tabName, Rows.laid_loop_example_g00916_impl_commandRows)] w) ∧ sizedMet enc Tryd.prog Tryd.f7 (OpenSpec.ofChange Rows.fnModeWaysSpec) false w args) (Rows.fnModeWaysSpec.post enc Tryd.prog Tryd.f7 false true false false) := by
  refine returnsInHanded_of_change_and (C := Tryd.checked) (X := fun w _ => laidMet Tryd.prog [(tabName, Rows.laid_loop_example_g00916_impl_commandRows)] w) (fun _ _ _ hh h => h.of_heap hh) own started (by kernel_rfl) Tryd.func7
    (ChangeSpec.witness_at (enc := enc) (C := Tryd.checked) (os := os) (X := fun w _ => laidMet Tryd.prog [(tabName, Rows.laid_loop_example_g00916_impl_commandRows)] w) false (laidWorld os) #[.slice none 0 0] 8 rfl (by kernel_rfl) (by kernel_rfl) (by kernel_rfl) (by kernel_rfl) (by kernel_rfl) (laid_met os _)) ?_
  intro W base args ds gs before hval0 hW _ _ hL _
  have hval : ∀ (j : Nat) t v, Tryd.f7.params[j]? = some t → args[j]? = some v → Value.okWide Tryd.prog W .any base t v := hval0
  have hW' := hW
  obtain ⟨p, q, hA0, hV, rfl, hfz, hnd⟩ := hW
  have hA : DataW.TrodAll enc Tryd.prog W 0 (fun _ => true) true Tryd.f7.params.toList args.toList ds p := hA0
  rw [Tryd.params7] at hA hval
  obtain ⟨v0, vs0, d0, ds0, p0, q0, hargs, rfl, rfl, h0, r0⟩ := trodAll_cons hA
  obtain ⟨rfl, rfl, rfl⟩ := trodAll_nil r0
  obtain rfl : args = #[v0] := by cases args; simp_all
  have hV' : DataW.TrodVars enc Tryd.prog W (fun _ => true) [tabName] gs q := hV
  obtain ⟨g, t, cs, fuel, d, p', rfl, hg, ht, hvar, hd, rfl⟩ := trodVars_one hV'
  obtain rfl := Option.some.inj (gTab.symm.trans hg)
  obtain rfl := Option.some.inj (gTabType.symm.trans ht)
  obtain rfl : cs = tabL.toArray := Option.some.inj (hvar.symm.trans (tab_of_laid hL))
  obtain ⟨rfl, rfl⟩ := DataW.Trod.unique (v := .agg tabL.toArray) ⟨fuel, hd⟩ ⟨4, reads_table enc W _⟩
  have hz0 : 0 < W.heap.size := by
    rcases Nat.eq_zero_or_pos W.heap.size with h | h
    · have hn : W.heap[0]? = none := Array.getElem?_eq_none (by omega)
      simp [World.var?, gTab, hn] at hvar
    · exact h
  have T := rd_of_var hvar hz0
  have k0 := h0
  have lt0 : ∀ x ∈ p0, x.block < W.heap.size := by obtain ⟨m, hm⟩ := k0; exact DataW.trod_lt m _ _ _ hm
  obtain ⟨a0, n0, c0, rfl⟩ := okWide_slice Tryd.underlying28 (hval 0 28 v0 rfl rfl)
  obtain ⟨l0, rfl, rd0, hl0, hm0, wl0⟩ := openBytes h0
  clear hA0 hval0
  refine ((fun (_ : World) l a c rd hl hm wl => walkFnModeWays l (u8_of wl) a c W rd hl hm T) W l0 a0 c0 rd0 hl0 hm0 wl0).mono fun e W' ⟨he, bel⟩ => ?_
  subst he
  have hvar' : W'.var? Tryd.prog tabName = some tabL.toArray := by
    have hb := bel.block 0 hz0
    simp only [World.var?, gTab] at hvar ⊢
    simp only [Option.bind_some, hb] at hvar ⊢
    exact hvar
  exact ⟨_, rfl, _, _, _, [], _, _, hW', trodAll_mk1 (shut_bool Tryd.underlying4 _), (trodAll_cons_mk (Below.trod laidOut (by kernel_rfl) (of_decide_eq_true (by kernel_rfl)) k0 bel lt0) trodAll_mk0), (show DataW.TrodVars enc Tryd.prog W' _ [tabName] [Rows.laid_loop_example_g00916_impl_commandRows] _ from ⟨0, 79, tabL.toArray, 4, [], [], gTab, gTabType, hvar', reads_table enc W' _, rfl, rfl⟩), bel.frame _, fun h => by cases h⟩

theorem over : Rows.fnModeWaysRow.holds Tryd.pinned (OpenSpec.ofChange Rows.fnModeWaysSpec) :=
  OpenClaim.holds_of_wide 7 Tryd.f7 rfl rfl rfl rfl rfl rfl rfl ⟨rfl, rfl, rfl, rfl, rfl⟩ rfl rfl rfl rfl rfl (by kernel_rfl) Tryd.func7 (by kernel_rfl)
    (of_decide_eq_true (by kernel_rfl)) (by unfold Func.isWrapper; first | (rw [if_pos (by decide +kernel)]; kernel_rfl) | (rw [if_neg (by decide +kernel)]; exact ⟨rfl, rfl⟩))
    (fun os started H enc _ => lifted os started H enc)

theorem proved : Rows.FnModeWaysCardSaid :=
  Claim7.holds_tied_plain_at .later [] [.data] true (true, "63a3f48be728628bfeec9ca333e4a5f74db2a920a1ebf5fdcdec17f420939112") false
    over (fun _ h => by cases h) (by kernel_rfl) (fun _ h => by cases h) fnModeWays_row_tie rfl ⟨rfl, rfl⟩ (by kernel_rfl) rfl
    (fun f fn hf hfn => by
      obtain rfl : f = 7 := Option.some.inj ((show Tryd.prog.funcNamed "loop.example/g00916/laws.FnModeWays" = some 7 by kernel_rfl).symm.trans hf) |>.symm
      obtain rfl : fn = Tryd.f7 := (Option.some.inj (Tryd.func7.symm.trans hfn)).symm
      exact ⟨by kernel_rfl, fun j t ht => by
        rw [Tryd.params7] at ht
        have h3 : t = 28 := by
          rcases j with _ | j
          · exact (by simpa using ht.symm)
          · simp at ht
        rcases h3 with rfl
        · exact (show Tryd.prog.wantsStandIn 28 = false by kernel_rfl)⟩)
    (by kernel_rfl)
#print axioms proved
end Go.Proofs.YtakchdkoildkbaaDoor.fnModeWays
