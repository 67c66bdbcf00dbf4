/- The reference's Flow, Far and Put; the fixed calls of the statements (known). -/
import Derived.Test.YtakoemapgnffeaaAxisPuts
namespace Go.Proofs.Ytakoemapgnffeaa
open Go.RowKit Fl
set_option linter.unusedSimpArgs false

theorem X_fb (n : Int) (b : Nat) (h1 : -1073741824 ≤ n) (h2 : n ≤ 1073741824) (w : World) :
    Calls Try.prog 10 #[.complex .f64 (fb n) b] w fun e w' => e = .returned (.int .i64 n) ∧ w = w' :=
  (X_any (fb n) b w).mono fun _ _ ⟨h, hw⟩ => ⟨by rw [h, show wh (fb n) = n from wh_of n h1 h2], hw⟩
theorem Y_fb (a : Nat) (n : Int) (h1 : -1073741824 ≤ n) (h2 : n ≤ 1073741824) (w : World) :
    Calls Try.prog 12 #[.complex .f64 a (fb n)] w fun e w' => e = .returned (.int .i64 n) ∧ w = w' :=
  (Y_any a (fb n) w).mono fun _ _ ⟨h, hw⟩ => ⟨by rw [h, show wh (fb n) = n from wh_of n h1 h2], hw⟩
theorem Of_id (x y : Int) (h1 : -1073741824 ≤ x) (h2 : x ≤ 1073741824) (h3 : -1073741824 ≤ y) (h4 : y ≤ 1073741824) (w : World) :
    Calls Try.prog 9 #[.int .i64 x, .int .i64 y] w fun e w' => e = .returned (.complex .f64 (fb x) (fb y)) ∧ w = w' :=
  (Of_any x y w).mono fun _ _ ⟨h, hw⟩ => ⟨by rw [h, hold_id h1 h2, hold_id h3 h4], hw⟩
theorem Swap_fb (x y : Int) (h1 : -1073741824 ≤ x) (h2 : x ≤ 1073741824) (h3 : -1073741824 ≤ y) (h4 : y ≤ 1073741824) (w : World) :
    Calls Try.prog 14 #[.complex .f64 (fb x) (fb y)] w fun e w' => e = .returned (.complex .f64 (fb y) (fb x)) ∧ w = w' :=
  (Swap_any _ _ w).mono fun _ _ ⟨h, hw⟩ => ⟨by rw [h, show wh (fb x) = x from wh_of x h1 h2, show wh (fb y) = y from wh_of y h3 h4], hw⟩
theorem Flow_fb (way x y : Int) (h1 : -1073741824 ≤ x) (h2 : x ≤ 1073741824) (h3 : -1073741824 ≤ y) (h4 : y ≤ 1073741824) (w : World) :
    Calls Try.prog 15 #[.int .i64 way, .complex .f64 (fb x) (fb y)] w fun e w' => e = .returned (.complex .f64 (fb (flowM way x y)) (fb (flowC way x y))) ∧ w = w' :=
  (Flow_any way _ _ w).mono fun _ _ ⟨h, hw⟩ => ⟨by rw [h, show wh (fb x) = x from wh_of x h1 h2, show wh (fb y) = y from wh_of y h3 h4], hw⟩
theorem Put_fb (way : Int) (turned : Bool) (r1 r2 a1 a2 s1 s2 : Int)
    (b1 : -1073741824 ≤ r1) (c1 : r1 ≤ 1073741824) (b2 : -1073741824 ≤ r2) (c2 : r2 ≤ 1073741824)
    (b3 : -1073741824 ≤ a1) (c3 : a1 ≤ 1073741824) (b4 : -1073741824 ≤ a2) (c4 : a2 ≤ 1073741824)
    (b5 : -1073741824 ≤ s1) (c5 : s1 ≤ 1073741824) (b6 : -1073741824 ≤ s2) (c6 : s2 ≤ 1073741824) (w : World) :
    Calls Try.prog 17 #[.int .i64 way, .bool turned, .complex .f64 (fb r1) (fb r2), .complex .f64 (fb a1) (fb a2), .complex .f64 (fb s1) (fb s2)] w fun e w' =>
      e = .returned (.complex .f64 (fb (flowM way (putM way r1 a1 s1) (putC turned r2 a2 s2))) (fb (flowC way (putM way r1 a1 s1) (putC turned r2 a2 s2)))) ∧ w = w' :=
  (Put_any way turned _ _ _ _ _ _ w).mono fun _ _ ⟨h, hw⟩ => ⟨by
    rw [h, show wh (fb r1) = r1 from wh_of r1 b1 c1, show wh (fb r2) = r2 from wh_of r2 b2 c2, show wh (fb a1) = a1 from wh_of a1 b3 c3,
      show wh (fb a2) = a2 from wh_of a2 b4 c4, show wh (fb s1) = s1 from wh_of s1 b5 c5, show wh (fb s2) = s2 from wh_of s2 b6 c6], hw⟩

/-- Two vectors of lengths are the same just where their parts are. -/
theorem same_fb (a b c d : Int) (h1 : -1073741824 ≤ a) (h2 : a ≤ 1073741824) (h3 : -1073741824 ≤ b) (h4 : b ≤ 1073741824)
    (h5 : -1073741824 ≤ c) (h6 : c ≤ 1073741824) (h7 : -1073741824 ≤ d) (h8 : d ≤ 1073741824) :
    ((FloatKind.f64.format.order (fb a) (fb c) == some .eq) && (FloatKind.f64.format.order (fb b) (fb d) == some .eq)) = decide (a = c ∧ b = d) := by
  rw [show FloatKind.f64.format = Ieee.double from rfl, show (Ieee.double.order (fb a) (fb c) == some .eq) = decide (a = c) from order_of a c h1 h2 h5 h6,
    show (Ieee.double.order (fb b) (fb d) == some .eq) = decide (b = d) from order_of b d h3 h4 h7 h8, Bool.decide_and]

set_option maxHeartbeats 1000000 in
theorem known_any (w : World) : Calls Try.prog 13 #[] w fun e w' => e = .returned (.bool true) ∧ w = w' := by
  have k1 : ((FloatKind.f64.format.order (fb 5) (fb 5) == some .eq) && (FloatKind.f64.format.order (fb 3) (fb 3) == some .eq)) = true := by
    rw [same_fb 5 3 5 3 (by decide) (by decide) (by decide) (by decide) (by decide) (by decide) (by decide) (by decide)]; rfl
  have f1 : flowM 1 (putM 1 100 10 20) (putC false 50 5 7) = 70 := by decide
  have f2 : flowC 1 (putM 1 100 10 20) (putC false 50 5 7) = 5 := by decide
  have F1 := Lib.hid f1
  have F2 := Lib.hid f2
  clear f1 f2
  go_enter Try.func13, Try.ntmps13
  go_wp2_with fail
  refine (Of_id 100 50 (by decide) (by decide) (by decide) (by decide) _).mono ?_; rintro e w' ⟨rfl, rfl⟩
  go_wp2_with fail
  refine (Of_id 10 5 (by decide) (by decide) (by decide) (by decide) _).mono ?_; rintro e w' ⟨rfl, rfl⟩
  go_wp2_with fail
  refine (Of_id 20 7 (by decide) (by decide) (by decide) (by decide) _).mono ?_; rintro e w' ⟨rfl, rfl⟩
  go_wp2_with fail
  refine (Put_fb 1 false 100 50 10 5 20 7 (by decide) (by decide) (by decide) (by decide) (by decide) (by decide) (by decide) (by decide) (by decide) (by decide) (by decide) (by decide) _).mono ?_; rintro e w' ⟨rfl, rfl⟩
  rw [F1.out, F2.out]
  go_wp2_with fail
  refine (Of_id 3 5 (by decide) (by decide) (by decide) (by decide) _).mono ?_; rintro e w' ⟨rfl, rfl⟩
  go_wp2_with fail
  refine (Swap_fb 3 5 (by decide) (by decide) (by decide) (by decide) _).mono ?_; rintro e w' ⟨rfl, rfl⟩
  go_wp2_with fail
  refine (Of_id 5 3 (by decide) (by decide) (by decide) (by decide) _).mono ?_; rintro e w' ⟨rfl, rfl⟩
  go_wp2_with fail
  refine (X_fb 70 _ (by decide) (by decide) _).mono ?_; rintro e w' ⟨rfl, rfl⟩
  go_wp2_with fail
  refine (Y_fb _ 5 (by decide) (by decide) _).mono ?_; rintro e w' ⟨rfl, rfl⟩
  go_wp2_with fail
  refine (Of_id 3 5 (by decide) (by decide) (by decide) (by decide) _).mono ?_; rintro e w' ⟨rfl, rfl⟩
  go_wp2_with fail
  refine (X_fb 3 _ (by decide) (by decide) _).mono ?_; rintro e w' ⟨rfl, rfl⟩
  go_wp2_with fail
  go_ret
  exact ⟨rfl, rfl⟩

set_option maxHeartbeats 400000 in
theorem RFlow_any (way x y : Int) (w : World) :
    Calls Try.prog 16 #[.int .i64 way, .int .i64 x, .int .i64 y] w fun e w' =>
      e = .returned (.tuple #[.int .i64 (flowM way (hold x) (hold y)), .int .i64 (flowC way (hold x) (hold y))]) ∧ w = w' := by
  unfold flowM flowC
  cases hu : upr way <;> have HU := Lib.hid hu <;> clear hu
  · go_enter Try.func16, Try.ntmps16
    go_wp2_with fail
    refine (RUpright_any way _).mono ?_; rintro e w' ⟨rfl, rfl⟩
    rw [HU.out]
    go_wp2_with fail
    refine (RHold_any x _).mono ?_; rintro e w' ⟨rfl, rfl⟩
    go_wp2_with fail
    refine (RHold_any y _).mono ?_; rintro e w' ⟨rfl, rfl⟩
    go_wp2_with fail
    go_ret2
    exact ⟨rfl, rfl⟩
  · go_enter Try.func16, Try.ntmps16
    go_wp2_with fail
    refine (RUpright_any way _).mono ?_; rintro e w' ⟨rfl, rfl⟩
    rw [HU.out]
    go_wp2_with fail
    refine (RHold_any y _).mono ?_; rintro e w' ⟨rfl, rfl⟩
    go_wp2_with fail
    refine (RHold_any x _).mono ?_; rintro e w' ⟨rfl, rfl⟩
    go_wp2_with fail
    go_ret2
    exact ⟨rfl, rfl⟩

set_option maxHeartbeats 400000 in
theorem RFar_any (r a s : Int) (w : World) :
    Calls Try.prog 30 #[.int .i64 r, .int .i64 a, .int .i64 s] w fun e w' => e = .returned (.int .i64 (farH r a s)) ∧ w = w' := by
  have h1 := hold_bd r
  have h2 := hold_bd a
  have h3 := hold_bd s
  have h4 := hold_bd (hold r - hold a)
  go_enter Try.func30, Try.ntmps30
  go_wp2_with fail
  refine (RHold_any r _).mono ?_; rintro e w' ⟨rfl, rfl⟩
  go_wp2_with fail
  refine (RHold_any a _).mono ?_; rintro e w' ⟨rfl, rfl⟩
  go_wp2_with fail
  refine (RHold_any (hold r - hold a) _).mono ?_; rintro e w' ⟨rfl, rfl⟩
  go_wp2_with fail
  refine (RHold_any s _).mono ?_; rintro e w' ⟨rfl, rfl⟩
  go_wp2_with fail
  refine (RHold_any (hold (hold r - hold a) - hold s) _).mono ?_; rintro e w' ⟨rfl, rfl⟩
  go_wp2_with fail
  go_ret
  exact ⟨ret_int (by unfold farH subH; rw [hold_hold]), rfl⟩

theorem far_hold (r a s : Int) : farH (hold r) (hold a) (hold s) = farH r a s := by unfold farH subH; simp only [hold_hold]
theorem far_bd (r a s : Int) : hold (farH r a s) = farH r a s := hold_hold _

set_option maxHeartbeats 1000000 in
theorem RPut_any (way : Int) (turned : Bool) (rm rc am ac sm sc : Int) (w : World) :
    Calls Try.prog 18 #[.int .i64 way, .bool turned, .int .i64 rm, .int .i64 rc, .int .i64 am, .int .i64 ac, .int .i64 sm, .int .i64 sc] w fun e w' =>
      e = .returned (.tuple #[.int .i64 (flowM way (putM way (hold rm) (hold am) (hold sm)) (putC turned (hold rc) (hold ac) (hold sc))),
        .int .i64 (flowC way (putM way (hold rm) (hold am) (hold sm)) (putC turned (hold rc) (hold ac) (hold sc)))]) ∧ w = w' := by
  unfold putM putC
  rw [far_hold, far_hold]
  cases hb : bck way <;> cases turned <;> have HB := Lib.hid hb <;> clear hb
  all_goals
    go_enter Try.func18, Try.ntmps18
    go_wp2_with (first | (go_at_call 11; refine (RHold_any _ _).mono ?_; rintro e w' ⟨rfl, rfl⟩) | (go_at_call 30; refine (RFar_any _ _ _ _).mono ?_; rintro e w' ⟨rfl, rfl⟩) | (go_at_call 16; refine (RFlow_any _ _ _ _).mono ?_; rintro e w' ⟨rfl, rfl⟩) | (go_at_call 29; refine (RBack_any _ _).mono ?_; rintro e w' ⟨rfl, rfl⟩; rw [HB.out]))
    go_ret2
    refine ⟨?_, ?_⟩
    · simp [far_bd, hold_hold]
    · first | rfl | trivial

end Go.Proofs.Ytakoemapgnffeaa
