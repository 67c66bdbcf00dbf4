/- fix.Add and fix.Sub: sums and differences of held numbers, held. -/
import Derived.Test.YtakoemapgnffeaaHold
import Derived.Lib.Hide
namespace Go.Proofs.Ytakoemapgnffeaa
open Go.RowKit

def addH (a b : Int) : Int := hold (hold a + hold b)
def subH (a b : Int) : Int := hold (hold a - hold b)

set_option maxHeartbeats 400000 in
theorem Add_any (a b : Int) (w : World) :
    Calls Try.prog 32 #[.int .i64 a, .int .i64 b] w fun e w' => e = .returned (.int .i64 (addH a b)) ∧ w = w' := by
  have h1 := hold_bd a
  have h2 := hold_bd b
  go_enter Try.func32, Try.ntmps32
  go_wp2_with fail
  refine (Hold_any a _).mono ?_; rintro e w' ⟨rfl, rfl⟩
  go_wp2_with fail
  refine (Hold_any b _).mono ?_; rintro e w' ⟨rfl, rfl⟩
  go_wp2_with fail
  refine (Hold_any (hold a + hold b) _).mono ?_; rintro e w' ⟨rfl, rfl⟩
  go_wp2_with fail
  go_ret
  exact ⟨rfl, rfl⟩

set_option maxHeartbeats 400000 in
theorem Sub_any (a b : Int) (w : World) :
    Calls Try.prog 33 #[.int .i64 a, .int .i64 b] w fun e w' => e = .returned (.int .i64 (subH a b)) ∧ w = w' := by
  have h1 := hold_bd a
  have h2 := hold_bd b
  go_enter Try.func33, Try.ntmps33
  go_wp2_with fail
  refine (Hold_any a _).mono ?_; rintro e w' ⟨rfl, rfl⟩
  go_wp2_with fail
  refine (Hold_any b _).mono ?_; rintro e w' ⟨rfl, rfl⟩
  go_wp2_with fail
  refine (Hold_any (hold a - hold b) _).mono ?_; rintro e w' ⟨rfl, rfl⟩
  go_wp2_with fail
  go_ret
  exact ⟨rfl, rfl⟩

end Go.Proofs.Ytakoemapgnffeaa
