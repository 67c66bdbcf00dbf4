/- The reference's Part. -/
import Derived.Test.YtdddlnemlpgnlaaFloorRef
namespace Go.Proofs.Ytdddlnemlpgnlaa
open Go.RowKit
set_option linter.unusedSimpArgs false
set_option linter.unusedVariables false

set_option maxHeartbeats 1000000 in
theorem RPart_any (a n d : Int) (w : World) :
    Calls Try.prog 34 #[.int .i64 a, .int .i64 n, .int .i64 d] w fun e w' => e = .returned (.int .i64 (partH a n d)) ∧ w = w' := by
  have hm := mul_bd a n
  have hdb := hold_bd d
  have hab := hold_bd a
  have hnb := hold_bd n
  by_cases hd : d = 0
  · have e : partH a n d = 0 := if_pos hd
    rw [e]; clear e
    subst hd
    have hd0 : hold 0 = 0 := by decide
    go_enter Try.func34, Try.ntmps34
    go_wp2_with fail
    refine (RHold_any 0 _).mono ?_; rintro e w' ⟨rfl, rfl⟩
    go_wp2_with fail
    go_ret
    exact ⟨rfl, rfl⟩
  · have hd0 : (hold d == 0) = false := by simp [hold_eq_zero, hd]
    have e : partH a n d = hold (flr (hold a * hold n) (hold d)) := by
      unfold partH; rw [if_neg hd]
    rw [e]
    clear e
    go_enter Try.func34, Try.ntmps34
    go_wp2_with fail
    refine (RHold_any d _).mono ?_; rintro e w' ⟨rfl, rfl⟩
    go_wp2_with fail
    refine (RHold_any a _).mono ?_; rintro e w' ⟨rfl, rfl⟩
    go_wp2_with fail
    refine (RHold_any n _).mono ?_; rintro e w' ⟨rfl, rfl⟩
    go_wp2_with fail
    refine (RFloor_any (hold a * hold n) (hold d) (by rw [Ne, hold_eq_zero]; exact hd) hm.1 hm.2 hdb.1 hdb.2 _).mono ?_; rintro e w' ⟨rfl, rfl⟩
    go_wp2_with fail
    refine (RHold_any _ _).mono ?_; rintro e w' ⟨rfl, rfl⟩
    go_wp2_with fail
    go_ret
    exact ⟨rfl, rfl⟩

end Go.Proofs.Ytdddlnemlpgnlaa
