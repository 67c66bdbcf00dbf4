/- A percentage of a base. -/
import Derived.Test.YtdddlnemlpgnlaaPartCore
namespace Go.Proofs.Ytdddlnemlpgnlaa
open Go.RowKit
set_option linter.unusedSimpArgs false
set_option linter.unusedVariables false

theorem Percent_any (b n : Int) (w : World) :
    Calls Try.prog 51 #[.int .i64 b, .int .i64 n] w fun e w' => e = .returned (.int .i64 (partH b n 100000)) ∧ w = w' := by
  go_enter Try.func51, Try.ntmps51
  go_wp2_with fail
  refine (Part_any b n 100000 _).mono ?_; rintro e w' ⟨rfl, rfl⟩
  go_wp2_with fail
  go_ret
  exact ⟨rfl, rfl⟩

end Go.Proofs.Ytdddlnemlpgnlaa
