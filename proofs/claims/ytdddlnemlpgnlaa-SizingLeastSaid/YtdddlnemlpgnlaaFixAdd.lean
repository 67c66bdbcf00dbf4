/- fix.Add: sums of held numbers, held. -/
import Derived.Test.YtdddlnemlpgnlaaHold
import Derived.Lib.Hide
namespace Go.Proofs.Ytdddlnemlpgnlaa
open Go.RowKit

def addH (a b : Int) : Int := hold (hold a + hold b)
theorem addH_bd (a b : Int) : -1073741824 ≤ addH a b ∧ addH a b ≤ 1073741824 := hold_bd _

set_option maxHeartbeats 400000 in
theorem Add_any (a b : Int) (w : World) :
    Calls Try.prog 47 #[.int .i64 a, .int .i64 b] w fun e w' => e = .returned (.int .i64 (addH a b)) ∧ w = w' := by
  have h1 := hold_bd a
  have h2 := hold_bd b
  go_enter Try.func47, Try.ntmps47
  go_wp2_with fail
  refine (Hold_any a _).mono ?_; rintro e w' ⟨rfl, rfl⟩
  go_wp2_with fail
  refine (Hold_any b _).mono ?_; rintro e w' ⟨rfl, rfl⟩
  go_wp2_with fail
  refine (Hold_any (hold a + hold b) _).mono ?_; rintro e w' ⟨rfl, rfl⟩
  go_wp2_with fail
  go_ret
  exact ⟨rfl, rfl⟩

end Go.Proofs.Ytdddlnemlpgnlaa
