/- The library's sort at int64 over this program: a walk of the kit turned to it (Sort/Walk0). -/
import Derived.Test.YtmbchcenclfjoaaProg
import Derived.Lib.Walk
import Derived.Sort.Row
import Derived.Lib.Strings

namespace Go.Proofs.Ytmbchcenclfjoaa.Srt

set_option maxHeartbeats 1000000 in
theorem cmp_isNaN_int (x : Int) (w : World) : Calls Try.prog 109 #[.int .i64 x] w fun e w' => e = .returned (.bool false) ∧ w' = w := by
  go_enter Try.func109, Try.ntmps109
  go_wp2
  go_ret
  exact ⟨by simp, rfl⟩

set_option maxHeartbeats 1000000 in
theorem cmp_Less_int (x y : Int) (w : World) : Calls Try.prog 99 #[.int .i64 x, .int .i64 y] w fun e w' => e = .returned (.bool (Sort.ltInt x y)) ∧ w' = w := by
  go_enter Try.func99, Try.ntmps99
  go_wp2_with (go_at_call 109; refine (cmp_isNaN_int _ _).mono ?_; rintro e w' ⟨rfl, rfl⟩)
  go_ret
  exact ⟨rfl, rfl⟩

end Go.Proofs.Ytmbchcenclfjoaa.Srt
