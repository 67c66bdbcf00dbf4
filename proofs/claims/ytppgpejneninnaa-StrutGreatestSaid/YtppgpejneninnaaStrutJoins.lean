/- StrutJoins, walked. -/
import Derived.Test.YtppgpejneninnaaStrutKnown
namespace Go.Proofs.Ytppgpejneninnaa
open Go.RowKit
set_option linter.unusedSimpArgs false
set_option linter.unusedVariables false
attribute [local go_sem] cell?_ext frozen?_ext lt_size_ext

theorem mx_comm (x y : Int) : mx x y = mx y x := by unfold mx; split <;> split <;> omega
theorem mn_comm (x y : Int) : mn x y = mn y x := by unfold mn; split <;> split <;> omega
theorem hold_mx (x y : Int) : hold (mx (hold x) (hold y)) = mx (hold x) (hold y) := by unfold mx; split <;> rw [hold_hold]
theorem hold_mn (x y : Int) : hold (mn (hold x) (hold y)) = mn (hold x) (hold y) := by unfold mn; split <;> rw [hold_hold]
theorem mx_assoc (x y z : Int) : mx x (mx y z) = mx (mx x y) z := by unfold mx; (repeat' split) <;> omega
theorem mn_assoc (x y z : Int) : mn x (mn y z) = mn (mn x y) z := by unfold mn; (repeat' split) <;> omega
theorem eql_same (t : Int) : (t == t) = true := by simp

set_option maxHeartbeats 8000000 in
theorem StrutJoins_walk (a1 a2 b1 b2 c1 c2 m : Int) (w : World) :
    Calls Try.prog 3 #[.agg #[.int .i64 a1, .int .i64 a2], .agg #[.int .i64 b1, .int .i64 b2], .agg #[.int .i64 c1, .int .i64 c2], .int .i64 m] w fun e w' => e = .returned (.bool true) ∧ Below w.heap.size w w' := by
  have k1 : ∀ w, (binOp .eql 25 (.agg #[.int .i64 (mx (hold a1) (hold b1)), .int .i64 (mn (hold a2) (hold b2))]) (.agg #[.int .i64 (mx (hold a1) (hold b1)), .int .i64 (mn (hold a2) (hold b2))])).run Try.prog w = .ok (.bool true) w := by intro w; rw [eql_pair]; simp
  have k2 : ∀ w, (binOp .eql 25 (.agg #[.int .i64 (mx (hold m) 0), .int .i64 (mn (hold m) 0)]) (.agg #[.int .i64 (mx (hold m) 0), .int .i64 (mn (hold m) 0)])).run Try.prog w = .ok (.bool true) w := by intro w; rw [eql_pair]; simp
  have k3 : ∀ w, (binOp .eql 23 (.agg #[.int .i64 (mx (hold a1) (hold b1)), .int .i64 (mn (hold a2) (hold b2))]) (.agg #[.int .i64 (mx (hold b1) (hold a1)), .int .i64 (mn (hold b2) (hold a2))])).run Try.prog w = .ok (.bool true) w := by
    intro w; rw [eql_strut, mx_comm, mn_comm]; simp
  have k4 : ∀ w, (binOp .eql 23 (.agg #[.int .i64 (mx (hold a1) (hold (mx (hold b1) (hold c1)))), .int .i64 (mn (hold a2) (hold (mn (hold b2) (hold c2))))]) (.agg #[.int .i64 (mx (hold (mx (hold a1) (hold b1))) (hold c1)), .int .i64 (mn (hold (mn (hold a2) (hold b2))) (hold c2))])).run Try.prog w = .ok (.bool true) w := by
    intro w; rw [eql_strut, hold_mx, hold_mn, hold_mx, hold_mn, mx_assoc, mn_assoc]; simp
  go_enter Try.func3, Try.ntmps3
  go_wp2_with fail
  refine wp_region_ext (by kernel_rfl) (by kernel_rfl) ?_
  repeat (go_big_quiet_step ((first
    | (go_at_call 8; exact quiet_ext (Join_any _ _ _ _ _))
    | (go_at_call 7; exact quiet_ext (two_any _ _ _))
    | (go_at_call 9; exact quiet_ext (RJoin_any _ _ _ _ _))
    | (go_at_call 10; exact quiet_ext (Worth_any _ _ _))
    | (go_at_call 11; exact quiet_ext (RWorth_any _ _ _))
    | (go_at_call 12; exact quiet_ext (Of_any _ _))
    | (go_at_call 13; exact quiet_ext (ROf_any _ _))
    | (go_at_call 14; exact quiet_ext (known_any _)))))
  refine wpQuiet_nil ?_
  rintro _ ⟨u, rfl⟩
  go_wp2_with fail
  refine wp_region_ext2 (by kernel_rfl) (by kernel_rfl) ?_
  repeat (go_big_quiet_step ((first
    | (go_at_call 8; exact quiet_ext (Join_any _ _ _ _ _))
    | (go_at_call 7; exact quiet_ext (two_any _ _ _))
    | (go_at_call 9; exact quiet_ext (RJoin_any _ _ _ _ _))
    | (go_at_call 10; exact quiet_ext (Worth_any _ _ _))
    | (go_at_call 11; exact quiet_ext (RWorth_any _ _ _))
    | (go_at_call 12; exact quiet_ext (Of_any _ _))
    | (go_at_call 13; exact quiet_ext (ROf_any _ _))
    | (go_at_call 14; exact quiet_ext (known_any _)))))
  refine wpQuiet_nil ?_
  rintro _ ⟨u2, rfl⟩
  go_wp2_with fail
  go_ret
  refine ⟨rfl, ?_⟩
  repeat (first | exact Below.refl _ _ | with_reducible refine below_set ?_ (by first | (simp; done) | (simp; omega)) _ | with_reducible refine below_alloc ?_ _ | with_reducible refine below_to_ext ?_ _ | with_reducible refine below_drawn ?_ _ | with_reducible refine Below.drew ?_)

end Go.Proofs.Ytppgpejneninnaa
