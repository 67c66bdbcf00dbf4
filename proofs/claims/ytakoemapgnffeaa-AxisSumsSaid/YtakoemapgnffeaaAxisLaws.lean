/- The six statements on package axis, walked: each call answers true and leaves memory alone. -/
import Derived.Test.YtakoemapgnffeaaAxisRef
namespace Go.Proofs.Ytakoemapgnffeaa
open Go.RowKit Fl
set_option linter.unusedSimpArgs false

set_option maxHeartbeats 400000 in
theorem AxisBack_walk (x y : Int) (w : World) :
    Calls Try.prog 3 #[.int .i64 x, .int .i64 y] w fun e w' => e = .returned (.bool true) ∧ w = w' := by
  have h1 := hold_bd x
  have h2 := hold_bd y
  go_enter Try.func3, Try.ntmps3
  go_wp2_with fail
  refine (Of_any x y _).mono ?_; rintro e w' ⟨rfl, rfl⟩
  go_wp2_with fail
  refine (X_fb (hold x) _ h1.1 h1.2 _).mono ?_; rintro e w' ⟨rfl, rfl⟩
  go_wp2_with fail
  refine (RHold_any x _).mono ?_; rintro e w' ⟨rfl, rfl⟩
  go_wp2_with fail
  refine (Y_fb _ (hold y) h2.1 h2.2 _).mono ?_; rintro e w' ⟨rfl, rfl⟩
  go_wp2_with fail
  refine (RHold_any y _).mono ?_; rintro e w' ⟨rfl, rfl⟩
  go_wp2_with fail
  refine (known_any _).mono ?_; rintro e w' ⟨rfl, rfl⟩
  go_wp2_with fail
  go_ret
  exact ⟨rfl, rfl⟩

set_option maxHeartbeats 1000000 in
theorem AxisSums_walk (a b c d : Int) (w : World) :
    Calls Try.prog 8 #[.int .i64 a, .int .i64 b, .int .i64 c, .int .i64 d] w fun e w' => e = .returned (.bool true) ∧ w = w' := by
  have ha := hold_bd a
  have hb := hold_bd b
  have hc := hold_bd c
  have hd := hold_bd d
  have q1 : addH (wh (fb (hold a))) (wh (fb (hold c))) = hold (hold a + hold c) := by rw [whfb_hold, whfb_hold]; unfold addH; rw [hold_hold, hold_hold]
  have q2 : addH (wh (fb (hold b))) (wh (fb (hold d))) = hold (hold b + hold d) := by rw [whfb_hold, whfb_hold]; unfold addH; rw [hold_hold, hold_hold]
  have Q1 := Lib.hid q1
  have Q2 := Lib.hid q2
  clear q1 q2
  go_enter Try.func8, Try.ntmps8
  go_wp2_with fail
  refine (Of_any a b _).mono ?_; rintro e w' ⟨rfl, rfl⟩
  go_wp2_with fail
  refine (Of_any c d _).mono ?_; rintro e w' ⟨rfl, rfl⟩
  go_wp2_with fail
  refine (Plus_any _ _ _ _ _).mono ?_; rintro e w' ⟨rfl, rfl⟩
  rw [Q1.out, Q2.out]
  go_wp2_with fail
  refine (X_fb _ _ (hold_bd _).1 (hold_bd _).2 _).mono ?_; rintro e w' ⟨rfl, rfl⟩
  go_wp2_with fail
  refine (RHold_any _ _).mono ?_; rintro e w' ⟨rfl, rfl⟩
  go_wp2_with fail
  refine (RHold_any _ _).mono ?_; rintro e w' ⟨rfl, rfl⟩
  go_wp2_with fail
  refine (RHold_any _ _).mono ?_; rintro e w' ⟨rfl, rfl⟩
  go_wp2_with fail
  refine (Y_fb _ _ (hold_bd _).1 (hold_bd _).2 _).mono ?_; rintro e w' ⟨rfl, rfl⟩
  go_wp2_with fail
  refine (RHold_any _ _).mono ?_; rintro e w' ⟨rfl, rfl⟩
  go_wp2_with fail
  refine (RHold_any _ _).mono ?_; rintro e w' ⟨rfl, rfl⟩
  go_wp2_with fail
  refine (RHold_any _ _).mono ?_; rintro e w' ⟨rfl, rfl⟩
  go_wp2_with fail
  refine (known_any _).mono ?_; rintro e w' ⟨rfl, rfl⟩
  go_wp2_with fail
  go_ret
  exact ⟨rfl, rfl⟩

theorem flow_bd (way x y : Int) (h1 : -1073741824 ≤ x) (h2 : x ≤ 1073741824) (h3 : -1073741824 ≤ y) (h4 : y ≤ 1073741824) :
    (-1073741824 ≤ flowM way x y ∧ flowM way x y ≤ 1073741824) ∧ (-1073741824 ≤ flowC way x y ∧ flowC way x y ≤ 1073741824) := by
  unfold flowM flowC; cases upr way <;> simp <;> omega
theorem flow_flowM (way x y : Int) : flowM way (flowM way x y) (flowC way x y) = x := by unfold flowM flowC; cases upr way <;> rfl
theorem flow_flowC (way x y : Int) : flowC way (flowM way x y) (flowC way x y) = y := by unfold flowM flowC; cases upr way <;> rfl

set_option maxHeartbeats 1000000 in
theorem AxisSwaps_walk (way x y : Int) (w : World) :
    Calls Try.prog 5 #[.int .i64 way, .int .i64 x, .int .i64 y] w fun e w' => e = .returned (.bool true) ∧ w = w' := by
  have h1 := hold_bd x
  have h2 := hold_bd y
  obtain ⟨⟨f1, f2⟩, ⟨f3, f4⟩⟩ := flow_bd way (hold x) (hold y) h1.1 h1.2 h2.1 h2.2
  have k1 : ((FloatKind.f64.format.order (fb (hold x)) (fb (hold x)) == some .eq) && (FloatKind.f64.format.order (fb (hold y)) (fb (hold y)) == some .eq)) = true := by
    rw [same_fb _ _ _ _ h1.1 h1.2 h2.1 h2.2 h1.1 h1.2 h2.1 h2.2]; simp
  have Q1 := Lib.hid (flow_flowM way (hold x) (hold y))
  have Q2 := Lib.hid (flow_flowC way (hold x) (hold y))
  go_enter Try.func5, Try.ntmps5
  go_wp2_with fail
  refine (Of_any x y _).mono ?_; rintro e w' ⟨rfl, rfl⟩
  go_wp2_with fail
  refine (Flow_fb way (hold x) (hold y) h1.1 h1.2 h2.1 h2.2 _).mono ?_; rintro e w' ⟨rfl, rfl⟩
  go_wp2_with fail
  refine (RFlow_any way x y _).mono ?_; rintro e w' ⟨rfl, rfl⟩
  go_wp2_with fail
  refine (Swap_fb (hold x) (hold y) h1.1 h1.2 h2.1 h2.2 _).mono ?_; rintro e w' ⟨rfl, rfl⟩
  go_wp2_with fail
  refine (Swap_fb (hold y) (hold x) h2.1 h2.2 h1.1 h1.2 _).mono ?_; rintro e w' ⟨rfl, rfl⟩
  go_wp2_with fail
  refine (Flow_fb way _ _ f1 f2 f3 f4 _).mono ?_; rintro e w' ⟨rfl, rfl⟩
  rw [Q1.out, Q2.out]
  go_wp2_with fail
  refine (X_fb _ _ f1 f2 _).mono ?_; rintro e w' ⟨rfl, rfl⟩
  go_wp2_with fail
  refine (Y_fb _ _ f3 f4 _).mono ?_; rintro e w' ⟨rfl, rfl⟩
  go_wp2_with fail
  refine (known_any _).mono ?_; rintro e w' ⟨rfl, rfl⟩
  go_wp2_with fail
  go_ret
  exact ⟨rfl, rfl⟩

end Go.Proofs.Ytakoemapgnffeaa
