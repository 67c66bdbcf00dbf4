/- The two functions Hold keep a number between its ends: the walks, and what omega needs of it. -/
import Derived.Test.YtmicgfpiknibhaaRows
import Derived.WalkKit
import Derived.WalkSpells
import Derived.WalkLawsBesides
namespace Go.Proofs.Ytmicgfpiknibhaa
open Go.RowKit

def hold (x : Int) : Int := if 1073741824 < x then 1073741824 else if x < -1073741824 then -1073741824 else x

theorem hold_bd (x : Int) : -1073741824 ≤ hold x ∧ hold x ≤ 1073741824 := by unfold hold; split <;> (try split) <;> omega
theorem hold_id {x : Int} (h1 : -1073741824 ≤ x) (h2 : x ≤ 1073741824) : hold x = x := by unfold hold; rw [if_neg (by omega), if_neg (by omega)]
theorem hold_hold (x : Int) : hold (hold x) = hold x := hold_id (hold_bd x).1 (hold_bd x).2

theorem ret_int {k : IntKind} {a b : Int} (h : a = b) : Ending.returned (.int k a) = .returned (.int k b) := by rw [h]
theorem ret_bool {a b : Bool} (h : a = b) : Ending.returned (.bool a) = .returned (.bool b) := by rw [h]

set_option maxHeartbeats 400000 in
theorem Hold_any (x : Int) (w : World) :
    Calls Try.prog 54 #[.int .i64 x] w fun e w' => e = .returned (.int .i64 (hold x)) ∧ w = w' := by
  by_cases h1 : 1073741824 < x
  · have e : hold x = 1073741824 := if_pos h1
    rw [e]; clear e
    go_enter Try.func54, Try.ntmps54
    go_wp2
    go_ret
    exact ⟨rfl, rfl⟩
  · by_cases h2 : x < -1073741824
    · have e : hold x = -1073741824 := by unfold hold; rw [if_neg h1, if_pos h2]
      rw [e]; clear e
      go_enter Try.func54, Try.ntmps54
      go_wp2
      go_ret
      exact ⟨rfl, rfl⟩
    · have e : hold x = x := by unfold hold; rw [if_neg h1, if_neg h2]
      rw [e]; clear e
      go_enter Try.func54, Try.ntmps54
      go_wp2
      go_ret
      exact ⟨rfl, rfl⟩

set_option maxHeartbeats 400000 in
theorem RHold_any (x : Int) (w : World) :
    Calls Try.prog 61 #[.int .i64 x] w fun e w' => e = .returned (.int .i64 (hold x)) ∧ w = w' := by
  unfold hold
  go_enter Try.func61, Try.ntmps61
  go_wp2
  all_goals
    go_ret
    exact ⟨rfl, rfl⟩

end Go.Proofs.Ytmicgfpiknibhaa
