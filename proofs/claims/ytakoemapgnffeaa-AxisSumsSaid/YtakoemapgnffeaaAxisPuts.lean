/- package axis: sums and differences part by part, Flow and Put; the reference's Flow, Far and Put. -/
import Derived.Test.YtakoemapgnffeaaAxisWalks
import Derived.Test.YtakoemapgnffeaaFixSums
namespace Go.Proofs.Ytakoemapgnffeaa
open Go.RowKit Fl
set_option linter.unusedSimpArgs false

theorem hold_add (a b : Int) : hold (addH a b) = addH a b := hold_hold _
theorem hold_sub (a b : Int) : hold (subH a b) = subH a b := hold_hold _

set_option maxHeartbeats 400000 in
theorem each_add (a b c d : Nat) (w : World) :
    Calls Try.prog 31 #[.complex .f64 a b, .complex .f64 c d, .func (.func 32) #[] #[]] w fun e w' => e = .returned (.complex .f64 (fb (addH (wh a) (wh c))) (fb (addH (wh b) (wh d)))) ∧ w = w' := by
  go_enter Try.func31, Try.ntmps31
  go_wp2_with fail
  refine (X_any a b _).mono ?_; rintro e w' ⟨rfl, rfl⟩
  go_wp2_with fail
  refine (X_any c d _).mono ?_; rintro e w' ⟨rfl, rfl⟩
  go_wp2_with fail
  refine (Add_any _ _ _).mono ?_; rintro e w' ⟨rfl, rfl⟩
  go_wp2_with fail
  refine (Y_any a b _).mono ?_; rintro e w' ⟨rfl, rfl⟩
  go_wp2_with fail
  refine (Y_any c d _).mono ?_; rintro e w' ⟨rfl, rfl⟩
  go_wp2_with fail
  refine (Add_any _ _ _).mono ?_; rintro e w' ⟨rfl, rfl⟩
  go_wp2_with fail
  refine (Of_any _ _ _).mono ?_; rintro e w' ⟨rfl, rfl⟩
  go_wp2_with fail
  go_ret
  rw [hold_add, hold_add]
  exact ⟨rfl, rfl⟩

set_option maxHeartbeats 400000 in
theorem each_sub (a b c d : Nat) (w : World) :
    Calls Try.prog 31 #[.complex .f64 a b, .complex .f64 c d, .func (.func 33) #[] #[]] w fun e w' => e = .returned (.complex .f64 (fb (subH (wh a) (wh c))) (fb (subH (wh b) (wh d)))) ∧ w = w' := by
  go_enter Try.func31, Try.ntmps31
  go_wp2_with fail
  refine (X_any a b _).mono ?_; rintro e w' ⟨rfl, rfl⟩
  go_wp2_with fail
  refine (X_any c d _).mono ?_; rintro e w' ⟨rfl, rfl⟩
  go_wp2_with fail
  refine (Sub_any _ _ _).mono ?_; rintro e w' ⟨rfl, rfl⟩
  go_wp2_with fail
  refine (Y_any a b _).mono ?_; rintro e w' ⟨rfl, rfl⟩
  go_wp2_with fail
  refine (Y_any c d _).mono ?_; rintro e w' ⟨rfl, rfl⟩
  go_wp2_with fail
  refine (Sub_any _ _ _).mono ?_; rintro e w' ⟨rfl, rfl⟩
  go_wp2_with fail
  refine (Of_any _ _ _).mono ?_; rintro e w' ⟨rfl, rfl⟩
  go_wp2_with fail
  go_ret
  rw [hold_sub, hold_sub]
  exact ⟨rfl, rfl⟩

set_option maxHeartbeats 400000 in
theorem Plus_any (a b c d : Nat) (w : World) :
    Calls Try.prog 20 #[.complex .f64 a b, .complex .f64 c d] w fun e w' => e = .returned (.complex .f64 (fb (addH (wh a) (wh c))) (fb (addH (wh b) (wh d)))) ∧ w = w' := by
  go_enter Try.func20, Try.ntmps20
  go_wp2_with fail
  refine (each_add a b c d _).mono ?_; rintro e w' ⟨rfl, rfl⟩
  go_wp2_with fail
  go_ret
  exact ⟨rfl, rfl⟩

set_option maxHeartbeats 400000 in
theorem minus_any (a b c d : Nat) (w : World) :
    Calls Try.prog 27 #[.complex .f64 a b, .complex .f64 c d] w fun e w' => e = .returned (.complex .f64 (fb (subH (wh a) (wh c))) (fb (subH (wh b) (wh d)))) ∧ w = w' := by
  go_enter Try.func27, Try.ntmps27
  go_wp2_with fail
  refine (each_sub a b c d _).mono ?_; rintro e w' ⟨rfl, rfl⟩
  go_wp2_with fail
  go_ret
  exact ⟨rfl, rfl⟩

def upr (way : Int) : Bool := way == 2 || way == 3
def bck (way : Int) : Bool := way == 1 || way == 3

theorem upright_any (way : Int) (w : World) :
    Calls Try.prog 25 #[.int .i64 way] w fun e w' => e = .returned (.bool (upr way)) ∧ w = w' := by
  by_cases h1 : way = 2
  · subst h1
    have e : upr 2 = true := by decide
    rw [e]
    go_enter Try.func25, Try.ntmps25
    go_wp2
    go_ret
    exact ⟨rfl, rfl⟩
  · by_cases h2 : way = 3
    · subst h2
      have e : upr 3 = true := by decide
      rw [e]
      go_enter Try.func25, Try.ntmps25
      go_wp2
      go_ret
      exact ⟨rfl, rfl⟩
    · have e : upr way = false := by unfold upr; simp [h1, h2]
      rw [e]
      have k1 : (way == 2) = false := by simp [h1]
      have k2 : (way == 3) = false := by simp [h2]
      clear h1 h2 e
      go_enter Try.func25, Try.ntmps25
      go_wp2
      go_ret
      exact ⟨rfl, rfl⟩

theorem back_any (way : Int) (w : World) :
    Calls Try.prog 28 #[.int .i64 way] w fun e w' => e = .returned (.bool (bck way)) ∧ w = w' := by
  by_cases h1 : way = 1
  · subst h1
    have e : bck 1 = true := by decide
    rw [e]
    go_enter Try.func28, Try.ntmps28
    go_wp2
    go_ret
    exact ⟨rfl, rfl⟩
  · by_cases h2 : way = 3
    · subst h2
      have e : bck 3 = true := by decide
      rw [e]
      go_enter Try.func28, Try.ntmps28
      go_wp2
      go_ret
      exact ⟨rfl, rfl⟩
    · have e : bck way = false := by unfold bck; simp [h1, h2]
      rw [e]
      have k1 : (way == 1) = false := by simp [h1]
      have k2 : (way == 3) = false := by simp [h2]
      clear h1 h2 e
      go_enter Try.func28, Try.ntmps28
      go_wp2
      go_ret
      exact ⟨rfl, rfl⟩

theorem RUpright_any (way : Int) (w : World) :
    Calls Try.prog 26 #[.int .i64 way] w fun e w' => e = .returned (.bool (upr way)) ∧ w = w' := by
  by_cases h1 : way = 2
  · subst h1
    have e : upr 2 = true := by decide
    rw [e]
    go_enter Try.func26, Try.ntmps26
    go_wp2
    go_ret
    exact ⟨rfl, rfl⟩
  · by_cases h2 : way = 3
    · subst h2
      have e : upr 3 = true := by decide
      rw [e]
      go_enter Try.func26, Try.ntmps26
      go_wp2
      go_ret
      exact ⟨rfl, rfl⟩
    · have e : upr way = false := by unfold upr; simp [h1, h2]
      rw [e]
      have k1 : (way == 2) = false := by simp [h1]
      have k2 : (way == 3) = false := by simp [h2]
      clear h1 h2 e
      go_enter Try.func26, Try.ntmps26
      go_wp2
      go_ret
      exact ⟨rfl, rfl⟩

theorem RBack_any (way : Int) (w : World) :
    Calls Try.prog 29 #[.int .i64 way] w fun e w' => e = .returned (.bool (bck way)) ∧ w = w' := by
  by_cases h1 : way = 1
  · subst h1
    have e : bck 1 = true := by decide
    rw [e]
    go_enter Try.func29, Try.ntmps29
    go_wp2
    go_ret
    exact ⟨rfl, rfl⟩
  · by_cases h2 : way = 3
    · subst h2
      have e : bck 3 = true := by decide
      rw [e]
      go_enter Try.func29, Try.ntmps29
      go_wp2
      go_ret
      exact ⟨rfl, rfl⟩
    · have e : bck way = false := by unfold bck; simp [h1, h2]
      rw [e]
      have k1 : (way == 1) = false := by simp [h1]
      have k2 : (way == 3) = false := by simp [h2]
      clear h1 h2 e
      go_enter Try.func29, Try.ntmps29
      go_wp2
      go_ret
      exact ⟨rfl, rfl⟩

def flowM (way x y : Int) : Int := if upr way then y else x
def flowC (way x y : Int) : Int := if upr way then x else y

set_option maxHeartbeats 400000 in
theorem Flow_any (way : Int) (a b : Nat) (w : World) :
    Calls Try.prog 15 #[.int .i64 way, .complex .f64 a b] w fun e w' => e = .returned (.complex .f64 (fb (flowM way (wh a) (wh b))) (fb (flowC way (wh a) (wh b)))) ∧ w = w' := by
  unfold flowM flowC
  cases hu : upr way
  · have HU := Lib.hid hu
    clear hu
    go_enter Try.func15, Try.ntmps15
    go_wp2_with fail
    refine (upright_any way _).mono ?_; rintro e w' ⟨rfl, rfl⟩
    rw [HU.out]
    go_wp2_with fail
    refine (clean_any a b _).mono ?_; rintro e w' ⟨rfl, rfl⟩
    go_wp2_with fail
    go_ret
    exact ⟨rfl, rfl⟩
  · have HU := Lib.hid hu
    clear hu
    go_enter Try.func15, Try.ntmps15
    go_wp2_with fail
    refine (upright_any way _).mono ?_; rintro e w' ⟨rfl, rfl⟩
    rw [HU.out]
    go_wp2_with fail
    refine (Swap_any a b _).mono ?_; rintro e w' ⟨rfl, rfl⟩
    go_wp2_with fail
    go_ret
    exact ⟨rfl, rfl⟩

/-- What is left of a room behind something, all held. -/
def farH (room at_ size : Int) : Int := subH (subH room at_) size
def putM (way room at_ size : Int) : Int := if bck way then farH room at_ size else at_
def putC (turned : Bool) (room at_ size : Int) : Int := if turned then farH room at_ size else at_

theorem whfb_hold (x : Int) : wh (fb (hold x)) = hold x := wh_hold x
theorem whfb_sub (x y : Int) : wh (fb (subH x y)) = subH x y := wh_hold _
theorem whfb_add (x y : Int) : wh (fb (addH x y)) = addH x y := wh_hold _
theorem whfb_wh (p : Nat) : wh (fb (wh p)) = wh p := wh_of _ (wh_bd p).1 (wh_bd p).2
theorem ret_cx {a b c d : Int} (h1 : a = c) (h2 : b = d) : Ending.returned (.complex .f64 (fb a) (fb b)) = .returned (.complex .f64 (fb c) (fb d)) := by rw [h1, h2]

set_option maxHeartbeats 1000000 in
theorem Put_any (way : Int) (turned : Bool) (r1 r2 a1 a2 s1 s2 : Nat) (w : World) :
    Calls Try.prog 17 #[.int .i64 way, .bool turned, .complex .f64 r1 r2, .complex .f64 a1 a2, .complex .f64 s1 s2] w fun e w' =>
      e = .returned (.complex .f64 (fb (flowM way (putM way (wh r1) (wh a1) (wh s1)) (putC turned (wh r2) (wh a2) (wh s2))))
        (fb (flowC way (putM way (wh r1) (wh a1) (wh s1)) (putC turned (wh r2) (wh a2) (wh s2))))) ∧ w = w' := by
  unfold putM putC
  cases hb : bck way <;> cases turned <;> have HB := Lib.hid hb <;> clear hb
  all_goals
    go_enter Try.func17, Try.ntmps17
    go_wp2_with fail
    refine (minus_any r1 r2 a1 a2 _).mono ?_; rintro e w' ⟨rfl, rfl⟩
    go_wp2_with fail
    refine (minus_any _ _ s1 s2 _).mono ?_; rintro e w' ⟨rfl, rfl⟩
    go_wp2_with fail
    refine (X_any a1 a2 _).mono ?_; rintro e w' ⟨rfl, rfl⟩
    go_wp2_with fail
    refine (Y_any a1 a2 _).mono ?_; rintro e w' ⟨rfl, rfl⟩
    go_wp2_with fail
    refine (back_any way _).mono ?_; rintro e w' ⟨rfl, rfl⟩
    rw [HB.out]
    go_wp2_with fail
    try (go_at_call 10; refine (X_any _ _ _).mono ?_; rintro e w' ⟨rfl, rfl⟩; go_wp2_with fail)
    try (go_at_call 12; refine (Y_any _ _ _).mono ?_; rintro e w' ⟨rfl, rfl⟩; go_wp2_with fail)
    refine (Of_any _ _ _).mono ?_; rintro e w' ⟨rfl, rfl⟩
    go_wp2_with fail
    refine (Flow_any way _ _ _).mono ?_; rintro e w' ⟨rfl, rfl⟩
    go_wp2_with fail
    go_ret
    refine ⟨ret_cx ?_ ?_, ?_⟩
    · simp [whfb_hold, whfb_sub, whfb_wh, hold_wh, hold_sub, farH]
    · simp [whfb_hold, whfb_sub, whfb_wh, hold_wh, hold_sub, farH]
    · first | rfl | trivial

end Go.Proofs.Ytakoemapgnffeaa
