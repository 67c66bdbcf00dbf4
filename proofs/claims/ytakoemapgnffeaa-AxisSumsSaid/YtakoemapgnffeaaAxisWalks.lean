/- The functions of package axis, each walked once: what they answer, in plain numbers. -/
import Derived.Test.YtakoemapgnffeaaAxisPlain
import Derived.Lib.Hide
namespace Go.Proofs.Ytakoemapgnffeaa
open Go.RowKit Fl

/-- The bits of a whole number's float64. -/
abbrev fb (n : Int) : Nat := floatOfInt .f64 n

set_option maxHeartbeats 400000 in
theorem Of_any (x y : Int) (w : World) :
    Calls Try.prog 9 #[.int .i64 x, .int .i64 y] w fun e w' => e = .returned (.complex .f64 (fb (hold x)) (fb (hold y))) ∧ w = w' := by
  go_enter Try.func9, Try.ntmps9
  go_wp2_with fail
  refine (Hold_any x _).mono ?_; rintro e w' ⟨rfl, rfl⟩
  go_wp2_with fail
  refine (Hold_any y _).mono ?_; rintro e w' ⟨rfl, rfl⟩
  go_wp2_with fail
  go_ret
  exact ⟨rfl, rfl⟩

set_option maxHeartbeats 400000 in
theorem whole_any (p : Nat) (w : World) :
    Calls Try.prog 22 #[.float .f64 p] w fun e w' => e = .returned (.int .i64 (wh p)) ∧ w = w' := by
  by_cases h0 : Ieee.double.order p p = some .eq
  · by_cases h1 : Ieee.double.order p 4742290407621132288 = some .gt ∨ Ieee.double.order p 4742290407621132288 = some .eq
    · have e : wh p = 1073741824 := by unfold wh; rw [if_pos h0, if_pos h1]
      rw [e]; clear e
      have k0 : (FloatKind.f64.format.order p p != some .eq) = false := by rw [show FloatKind.f64.format = Ieee.double from rfl, h0]; rfl
      have k1 : (FloatKind.f64.format.order p 4742290407621132288 == some .gt || FloatKind.f64.format.order p 4742290407621132288 == some .eq) = true := by
        rw [show FloatKind.f64.format = Ieee.double from rfl]; rcases h1 with h | h <;> rw [h] <;> rfl
      clear h0 h1
      go_enter Try.func22, Try.ntmps22
      go_wp2
      go_ret
      exact ⟨rfl, rfl⟩
    · have k0 : (FloatKind.f64.format.order p p != some .eq) = false := by rw [show FloatKind.f64.format = Ieee.double from rfl, h0]; rfl
      have k1 : (FloatKind.f64.format.order p 4742290407621132288 == some .gt || FloatKind.f64.format.order p 4742290407621132288 == some .eq) = false := by
        rw [show FloatKind.f64.format = Ieee.double from rfl, Bool.or_eq_false_iff, beq_eq_false_iff_ne, beq_eq_false_iff_ne]
        exact ⟨fun h => h1 (.inl h), fun h => h1 (.inr h)⟩
      by_cases h2 : Ieee.double.order p 13965662444475908096 = some .lt ∨ Ieee.double.order p 13965662444475908096 = some .eq
      · have e : wh p = -1073741824 := by unfold wh; rw [if_pos h0, if_neg h1, if_pos h2]
        rw [e]; clear e
        have k2 : (FloatKind.f64.format.order p 13965662444475908096 == some .lt || FloatKind.f64.format.order p 13965662444475908096 == some .eq) = true := by
          rw [show FloatKind.f64.format = Ieee.double from rfl]; rcases h2 with h | h <;> rw [h] <;> rfl
        clear h0 h1 h2
        go_enter Try.func22, Try.ntmps22
        go_wp2
        go_ret
        exact ⟨rfl, rfl⟩
      · obtain ⟨n, hn, -, -, -⟩ := wh_int_some h0 h1 h2
        have e : wh p = n := by unfold wh; rw [if_pos h0, if_neg h1, if_neg h2, hn]; rfl
        rw [e]; clear e
        have k2 : (FloatKind.f64.format.order p 13965662444475908096 == some .lt || FloatKind.f64.format.order p 13965662444475908096 == some .eq) = false := by
          rw [show FloatKind.f64.format = Ieee.double from rfl, Bool.or_eq_false_iff, beq_eq_false_iff_ne, beq_eq_false_iff_ne]
          exact ⟨fun h => h2 (.inl h), fun h => h2 (.inr h)⟩
        have kc : ∀ w, (convert 28 3 (.float .f64 p)).run Try.prog w = .ok (.int .i64 n) w :=
          fun w => run_convert_float_int w 28 3 .f64 .i64 p n (by rw [Try.underlying28]; rfl) Try.underlying3 hn
        clear h0 h1 h2 hn
        go_enter Try.func22, Try.ntmps22
        go_wp2
        go_ret
        exact ⟨rfl, rfl⟩
  · have e : wh p = 0 := by unfold wh; rw [if_neg h0]
    rw [e]; clear e
    have k0 : (FloatKind.f64.format.order p p != some .eq) = true := by
      rw [show FloatKind.f64.format = Ieee.double from rfl, bne_iff_ne]; exact h0
    clear h0
    go_enter Try.func22, Try.ntmps22
    go_wp2
    go_ret
    exact ⟨rfl, rfl⟩

set_option maxHeartbeats 400000 in
theorem X_any (a b : Nat) (w : World) :
    Calls Try.prog 10 #[.complex .f64 a b] w fun e w' => e = .returned (.int .i64 (wh a)) ∧ w = w' := by
  go_enter Try.func10, Try.ntmps10
  go_wp2_with fail
  refine (whole_any a _).mono ?_; rintro e w' ⟨rfl, rfl⟩
  go_wp2_with fail
  go_ret
  exact ⟨rfl, rfl⟩

set_option maxHeartbeats 400000 in
theorem Y_any (a b : Nat) (w : World) :
    Calls Try.prog 12 #[.complex .f64 a b] w fun e w' => e = .returned (.int .i64 (wh b)) ∧ w = w' := by
  go_enter Try.func12, Try.ntmps12
  go_wp2_with fail
  refine (whole_any b _).mono ?_; rintro e w' ⟨rfl, rfl⟩
  go_wp2_with fail
  go_ret
  exact ⟨rfl, rfl⟩

set_option maxHeartbeats 400000 in
theorem clean_any (a b : Nat) (w : World) :
    Calls Try.prog 23 #[.complex .f64 a b] w fun e w' => e = .returned (.complex .f64 (fb (wh a)) (fb (wh b))) ∧ w = w' := by
  go_enter Try.func23, Try.ntmps23
  go_wp2_with fail
  refine (X_any a b _).mono ?_; rintro e w' ⟨rfl, rfl⟩
  go_wp2_with fail
  refine (Y_any a b _).mono ?_; rintro e w' ⟨rfl, rfl⟩
  go_wp2_with fail
  refine (Of_any _ _ _).mono ?_; rintro e w' ⟨rfl, rfl⟩
  go_wp2_with fail
  go_ret
  rw [hold_wh, hold_wh]
  exact ⟨rfl, rfl⟩

set_option maxHeartbeats 400000 in
theorem conj_any (a b : Nat) (w : World) :
    Calls Try.prog 24 #[.complex .f64 a b] w fun e w' => e = .returned (.complex .f64 a (Op.negFloat .f64 b)) ∧ w = w' := by
  have kn : ∀ x, Op.unary .neg (.float .f64 x) = pure (.float .f64 (Op.negFloat .f64 x)) := fun _ => rfl
  go_enter Try.func24, Try.ntmps24
  go_wp2
  go_ret
  exact ⟨rfl, rfl⟩

set_option maxHeartbeats 400000 in
theorem Swap_any (a b : Nat) (w : World) :
    Calls Try.prog 14 #[.complex .f64 a b] w fun e w' => e = .returned (.complex .f64 (fb (wh b)) (fb (wh a))) ∧ w = w' := by
  obtain ⟨re, im, hm, h1, h2⟩ := turn (wh a) (wh b) (wh_bd a).1 (wh_bd a).2 (wh_bd b).1 (wh_bd b).2
  have kc : ∀ w, (binOp .mul 22 (.complex .f64 0 4607182418800017408) (.complex .f64 (fb (wh a)) (Op.negFloat .f64 (fb (wh b))))).run Try.prog w = .ok (.complex .f64 re im) w :=
    fun w => run_complex_mul w 22 _ _ _ _ _ _ hm
  have H1 := Lib.hid h1
  have H2 := Lib.hid h2
  clear h1 h2 hm
  go_enter Try.func14, Try.ntmps14
  go_wp2_with fail
  refine (clean_any a b _).mono ?_; rintro e w' ⟨rfl, rfl⟩
  go_wp2_with fail
  refine (conj_any _ _ _).mono ?_; rintro e w' ⟨rfl, rfl⟩
  go_wp2_with fail
  refine (clean_any _ _ _).mono ?_; rintro e w' ⟨rfl, rfl⟩
  go_wp2_with fail
  go_ret
  rw [H1.out, H2.out]
  exact ⟨rfl, rfl⟩

end Go.Proofs.Ytakoemapgnffeaa
