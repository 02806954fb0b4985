/- The draw of a mode, a mode, a role and a key: a walk. -/
import Derived.Test.YtakchdkoildkbaaDoorCd
import Derived.Test.YtakchdkoildkbaaDoorBx
namespace Go.Proofs.YtakchdkoildkbaaDoor
open Go.ChangeShapes Go.WideShapes Go.ChangeAt Go.RowKit
set_option maxRecDepth 20000
set_option linter.unusedVariables false
set_option linter.unusedSimpArgs false
def LeaP (w0 : World) (e : Ending) (w' : World) : Prop :=
  ∃ (f t r : Int) (b : Bool), e = .returned (.tuple #[.int .i64 f, .int .i64 t, .int .i64 r, .bool b]) ∧ Below w0.heap.size w0 w'
theorem drawLeast_any (bl : List Int) (hbl : isU8 bl) (hn : bl.length ≤ 4096) (C : Option Addr) (cap : Nat) (w0 : World) (hr : Rd w0 w0.heap.size C (bytesU bl)) :
   Calls Tryd.prog 29 #[.slice C bl.length cap] w0 (LeaP w0) := by
  have Hr := Lib.hid hr
  clear hr
  go_enter Tryd.func29, Tryd.ntmps29
  go_wp2_with fail
  refine (l01From_any bl hbl hn C w0.heap.size cap _ Hr.out (Nat.le_refl _)).mono ?_
  rintro e w1 ⟨rfl, hs1, hb1, hz1⟩
  have hr1 := Hr.out.below hb1 (Nat.le_refl _)
  have d1 := DS.start hr1 hs1 (by omega) hbl hn
  have Hb1 := Lib.hid hb1
  clear hb1 hr1 hs1 hbl
  go_wp2_with fail
  refine (l27DrawMode_any w1 _ _ _ _ _ d1).mono ?_
  rintro e w2 ⟨f, rfl, _, _, d2⟩
  have D2 := Lib.hid d2
  clear d1 d2
  go_wp2_with fail
  refine (l27DrawMode_any w2 _ _ _ _ _ D2.out.again).mono ?_
  rintro e w3 ⟨t, rfl, _, _, d3⟩
  have D3 := Lib.hid (D2.out.join d3)
  clear d3
  go_wp2_with fail
  refine (next_al D3.out 4).mono ?_
  rintro e w4 ⟨x, rfl, d4, _⟩
  have D4 := Lib.hid d4
  clear d4
  go_wp2_with fail
  refine (next_al D4.out 30).mono ?_
  rintro e w5 ⟨y, rfl, d5, _⟩
  have D5 := Lib.hid d5
  clear d5
  go_wp2_with fail
  refine (next_al D5.out 3).mono ?_
  rintro e w6 ⟨z, rfl, d6, _⟩
  have hb6 := below_of_grownBy (B := w0.heap.size) d6.2.2.1 (by omega) (fun k hk => by injection hk with hk; omega)
  have Hb6 := Lib.hid (Hb1.out.trans hb6)
  clear d6 hb6
  go_wp2
  refine bodyPost_ret (v := .tuple #[.int .i64 f, .int .i64 t, _, .bool _]) (by simp [results, Tryd.results29, go_sem, *]; exact ⟨rfl, rfl⟩) rfl ?_
  exact ⟨f, t, _, _, rfl, Hb6.out⟩
end Go.Proofs.YtakchdkoildkbaaDoor
