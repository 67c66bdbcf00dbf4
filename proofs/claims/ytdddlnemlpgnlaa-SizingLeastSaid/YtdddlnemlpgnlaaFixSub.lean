/- fix.Sub: differences of held numbers, held. -/
import Derived.Test.YtdddlnemlpgnlaaHold
import Derived.Lib.Hide
namespace Go.Proofs.Ytdddlnemlpgnlaa
open Go.RowKit

def subH (a b : Int) : Int := hold (hold a - hold b)
theorem subH_bd (a b : Int) : -1073741824 ≤ subH a b ∧ subH a b ≤ 1073741824 := hold_bd _

set_option maxHeartbeats 400000 in
theorem Sub_any (a b : Int) (w : World) :
    Calls Try.prog 61 #[.int .i64 a, .int .i64 b] w fun e w' => e = .returned (.int .i64 (subH a b)) ∧ w = w' := by
  have h1 := hold_bd a
  have h2 := hold_bd b
  go_enter Try.func61, Try.ntmps61
  go_wp2_with fail
  refine (Hold_any a _).mono ?_; rintro e w' ⟨rfl, rfl⟩
  go_wp2_with fail
  refine (Hold_any b _).mono ?_; rintro e w' ⟨rfl, rfl⟩
  go_wp2_with fail
  refine (Hold_any (hold a - hold b) _).mono ?_; rintro e w' ⟨rfl, rfl⟩
  go_wp2_with fail
  go_ret
  exact ⟨rfl, rfl⟩

end Go.Proofs.Ytdddlnemlpgnlaa
