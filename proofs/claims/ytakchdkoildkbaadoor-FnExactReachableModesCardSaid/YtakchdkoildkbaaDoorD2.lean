/- The law on ReachableModes. -/
import Derived.Test.YtakchdkoildkbaaDoorI
import Derived.Test.YtakchdkoildkbaaDoorB
import Derived.Test.YtakchdkoildkbaaDoorWr
namespace Go.Proofs.YtakchdkoildkbaaDoor
open Go.ChangeShapes Go.WideShapes Go.ChangeAt Go.RowKit
set_option linter.unusedVariables false
set_option linter.unusedSimpArgs false
set_option maxRecDepth 20000 in
theorem walkFnExactReachableModes (m : Int) (r : Int) (k : Bool) (w : World) (wfm : (Lit.int .i64 m).wf = true) (wfr : (Lit.int .i64 r).wf = true) (T : Rd w w.heap.size (some ⟨0, 0, none⟩) tabL) :
   Calls Tryd.prog 3 #[.int .i64 m, .int .i64 r, .bool k] w fun e w' => e = .returned (.bool true) ∧ Below w.heap.size w w' := by
  clear wfm
  clear wfr
  go_enter Tryd.func3, Tryd.ntmps3
  go_wp2_with fail
  refine (reach_spec m r k _).mono ?_; rintro e w1 ⟨Aw, cw, rfl, Ow, b1⟩
  have z1 := b1.size
  replace T := T.below b1 (by first | omega | (simp only [World.size_alloc]; omega))
  have Rw := Rd.of_own Ow
  clear Ow
  go_wp2_with fail
  refine (reach_impl_l m r k _ _ (T.more (by first | omega | simp)) (by first | omega | exact Nat.le_refl _)).mono ?_; rintro e w2 ⟨Ag, cg, rfl, Og, b2⟩
  have z2 := b2.size
  replace T := T.below b2 (by first | omega | (simp only [World.size_alloc]; omega))
  replace Rw := Rw.below b2 (by first | omega | (simp only [World.size_alloc]; omega))
  have Rg := Rd.of_own Og
  have Lg := own_lt Og
  go_wp2_with fail
  refine (eqInt64S_same (reachL m r k) Ag Aw _ _ _ _ (Rg.more (by first | omega | (simp only [World.size_alloc]; omega))) (Rw.more (by first | omega | (simp only [World.size_alloc]; omega))) (Nat.le_refl _) (reachL_len m r k)).mono ?_; rintro e w3 ⟨rfl, b3⟩
  have z3 := b3.size
  replace T := T.below b3 (by first | omega | (simp only [World.size_alloc]; omega))
  replace Rw := Rw.below b3 (by first | omega | (simp only [World.size_alloc]; omega))
  replace Rg := Rg.below b3 (by first | omega | (simp only [World.size_alloc]; omega))
  replace Og := own_below Og b3
  have hRn : (reachL m r k).length ≤ 1048576 := reachL_len m r k
  go_wp2_with fail
  clear Rg
  refine (markInt64S_any (reachL m r k).length Ag _ cg _ _ _ Og (by omega) (by omega) (by omega)).mono ?_; rintro e w4 ⟨rfl, Og', g4⟩
  have z4 := g4.size
  replace T := T.grown g4 (by omega) (fun k hk => by have := Lg k hk; omega)
  replace Rw := Rw.grown g4 (by omega) (fun k hk => by have := Lg k hk; omega)
  have b4 := below_of_grownBy (B := w.heap.size) g4 (by omega) (fun k hk => by have := Lg k hk; omega)
  clear Og g4
  have Og := Og'
  clear Og'
  have Rg := Rd.of_own Og
  go_wp2_with fail
  refine (heldInt64S_any (reachL m r k).length Ag _ _ _ _ Rg (by omega) (by omega) (by omega)).mono ?_; rintro e w5 ⟨rfl, he5⟩
  subst he5
  go_wp2_with fail
  refine (reach_impl_l m r k _ _ (T.more (by first | omega | simp)) (by first | omega | exact Nat.le_refl _)).mono ?_; rintro e w5 ⟨Ah, ch, rfl, Oh, b5⟩
  have z5 := b5.size
  replace T := T.below b5 (by first | omega | (simp only [World.size_alloc]; omega))
  replace Rw := Rw.below b5 (by first | omega | (simp only [World.size_alloc]; omega))
  replace Og := own_below Og b5
  replace Rg := Rg.below b5 (by first | omega | (simp only [World.size_alloc]; omega))
  have Rh := Rd.of_own Oh
  have Lh := own_lt Oh
  go_wp2_with fail
  refine (eqInt64S_same (reachL m r k) Ah Aw _ _ _ _ (Rh.more (by first | omega | (simp only [World.size_alloc]; omega))) (Rw.more (by first | omega | (simp only [World.size_alloc]; omega))) (Nat.le_refl _) (reachL_len m r k)).mono ?_; rintro e w6 ⟨rfl, b6⟩
  have z6 := b6.size
  replace T := T.below b6 (by first | omega | (simp only [World.size_alloc]; omega))
  replace Rw := Rw.below b6 (by first | omega | (simp only [World.size_alloc]; omega))
  replace Og := own_below Og b6
  replace Rg := Rg.below b6 (by first | omega | (simp only [World.size_alloc]; omega))
  replace Rh := Rh.below b6 (by first | omega | (simp only [World.size_alloc]; omega))
  replace Oh := own_below Oh b6
  go_wp2_with fail
  refine (heldInt64S_any (reachL m r k).length Ag _ _ _ _ Rg (by omega) (by omega) (by omega)).mono ?_; rintro e w7 ⟨rfl, he7⟩
  subst he7
  go_wp2
  go_ret
  exact ⟨rfl, by repeat' (first | (with_reducible exact Below.refl _ _) | (with_reducible assumption) | (with_reducible refine Below.alloc ?_ ?_ _) | (with_reducible refine Below.drew ?_) | (with_reducible refine below_drewN ?_ _) | (with_reducible refine Below.setCell ?_ ?_ _) | (with_reducible refine Below.trans ?_ (Below.mono (by assumption) ?_)) | go_size | (exact Below.size (by assumption)))⟩
end Go.Proofs.YtakchdkoildkbaaDoor
