/- AxisParts, walked: of any two floats, NaNs and infinities too, the parts are whole lengths. -/
import Derived.Test.YtakoemapgnffeaaAxisLaws
import Derived.Test.YtakoemapgnffeaaSmall
namespace Go.Proofs.Ytakoemapgnffeaa
open Go.RowKit Fl
set_option linter.unusedSimpArgs false

namespace Fl
open Ieee Ieee.Datum
theorem order_iff {p q : Nat} {s m e n} (hp : double.read p = .number s m e) (hq : IsInt q n) :
    double.order p q = some (compare (signed s m (e - min e 0).toNat) (n * 2 ^ (-(min e 0)).toNat)) := by
  obtain ⟨o, ho⟩ := order_cases hp hq
  rw [ho]
  cases o
  · rw [Int.compare_eq_lt.2 (order_lt hp hq ho)]
  · obtain ⟨t, k, j, hr, hv⟩ := hq
    unfold Format.order at ho
    rw [hp, hr] at ho
    simp only [Datum.order, Option.some.injEq, Int.compare_eq_eq] at ho
    have h' : signed s m (e - min e j).toNat * 2 ^ (min e j - min (min e j) 0).toNat = signed t k (j - min e j).toNat * 2 ^ (min e j - min (min e j) 0).toNat := by rw [ho]
    rw [← signed_add, ← signed_add] at h'
    have e2 := hv.at (min (min e j) 0) (by omega) (by omega)
    rw [show (j - min e j).toNat + (min e j - min (min e j) 0).toNat = (j - min (min e j) 0).toNat from by omega, e2] at h'
    have h2 : signed s m (e - min e 0).toNat = n * 2 ^ (-(min e 0)).toNat := by
      apply Int.eq_of_mul_eq_mul_right (Int.ne_of_gt (two_pos (min e 0 - min (min e j) 0).toNat))
      rw [← signed_add, Int.mul_assoc, ← Int.pow_add]
      rw [show (e - min e 0).toNat + (min e 0 - min (min e j) 0).toNat = (e - min e j).toNat + (min e j - min (min e j) 0).toNat from by omega,
        show (-(min e 0)).toNat + (min e 0 - min (min e j) 0).toNat = (-(min (min e j) 0)).toNat from by omega]
      exact h'
    rw [Int.compare_eq_eq.2 h2]
  · rw [Int.compare_eq_gt.2 (order_gt hp hq ho)]

theorem thou_int : IsInt 4652007308841189376 1000 := by
  have := nearest_int (V.of_int 1000) (by decide)
  exact this
theorem mthou_int : IsInt 13875379345695965184 (-1000) := by
  have := nearest_int (V.of_int (-1000)) (by decide)
  exact this

theorem order_none {p q : Nat} (h : double.order p p ≠ some .eq) : double.order p q = none := by
  unfold Format.order at h ⊢
  cases hr : double.read p with
  | number s m e => exact absurd (by rw [hr]; simp [Datum.order]) h
  | infinity s => exact absurd (by rw [hr]; simp [Datum.order]) h
  | nan s f => rfl

/-- Above the upper end a number is above all smaller ones. -/
theorem above {p q : Nat} {n : Int} (h0 : double.order p p = some .eq) (h : double.order p 4742290407621132288 = some .gt ∨ double.order p 4742290407621132288 = some .eq)
    (hq : IsInt q n) (hn : n < 1073741824) : double.order p q = some .gt := by
  rcases order_self_number h0 with ⟨s, m, e, hr⟩ | ⟨s, hr⟩
  · rw [order_iff hr top_int] at h
    rw [order_iff hr hq]
    have hp := two_pos (-(min e 0)).toNat
    have hlt : n * 2 ^ (-(min e 0)).toNat < 1073741824 * 2 ^ (-(min e 0)).toNat := Int.mul_lt_mul_of_pos_right hn hp
    have hge : 1073741824 * 2 ^ (-(min e 0)).toNat ≤ signed s m (e - min e 0).toNat := by
      rcases h with h | h
      · exact Int.le_of_lt (Int.compare_eq_gt.1 (Option.some.inj h))
      · exact Int.le_of_eq (Int.compare_eq_eq.1 (Option.some.inj h)).symm
    rw [Int.compare_eq_gt.2 (Int.lt_of_lt_of_le hlt hge)]
  · obtain ⟨t, k, j, hr2, _⟩ := hq
    have hb : ∃ t k j, double.read 4742290407621132288 = .number t k j := ⟨_, _, _, rfl⟩
    obtain ⟨t', k', j', hb⟩ := hb
    unfold Format.order at h ⊢
    rw [hr, hb] at h
    rw [hr, hr2]
    cases s
    · rfl
    · rcases h with h | h <;> cases h

theorem below {p q : Nat} {n : Int} (h0 : double.order p p = some .eq) (h : double.order p 13965662444475908096 = some .lt ∨ double.order p 13965662444475908096 = some .eq)
    (hq : IsInt q n) (hn : -1073741824 < n) : double.order p q = some .lt := by
  rcases order_self_number h0 with ⟨s, m, e, hr⟩ | ⟨s, hr⟩
  · rw [order_iff hr bottom_int] at h
    rw [order_iff hr hq]
    have hp := two_pos (-(min e 0)).toNat
    have hlt : -1073741824 * 2 ^ (-(min e 0)).toNat < n * 2 ^ (-(min e 0)).toNat := Int.mul_lt_mul_of_pos_right hn hp
    have hge : signed s m (e - min e 0).toNat ≤ -1073741824 * 2 ^ (-(min e 0)).toNat := by
      rcases h with h | h
      · exact Int.le_of_lt (Int.compare_eq_lt.1 (Option.some.inj h))
      · exact Int.le_of_eq (Int.compare_eq_eq.1 (Option.some.inj h))
    rw [Int.compare_eq_lt.2 (Int.lt_of_le_of_lt hge hlt)]
  · obtain ⟨t, k, j, hr2, _⟩ := hq
    have hb : ∃ t k j, double.read 13965662444475908096 = .number t k j := ⟨_, _, _, rfl⟩
    obtain ⟨t', k', j', hb⟩ := hb
    unfold Format.order at h ⊢
    rw [hr, hb] at h
    rw [hr, hr2]
    cases s
    · rcases h with h | h <;> cases h
    · rfl
end Fl

set_option maxHeartbeats 2000000 in
theorem AxisParts_walk (a b : Nat) (w : World) :
    Calls Try.prog 4 #[.float .f64 a, .float .f64 b] w fun e w' => e = .returned (.bool true) ∧ w = w' := by
  have ba := wh_bd a
  have bb := wh_bd b
  have HA := Lib.hid (hold_wh a)
  have HB := Lib.hid (hold_wh b)
  have E : FloatKind.f64.format = Ieee.double := rfl
  by_cases h0 : Ieee.double.order a a = some .eq
  · have k0 : (FloatKind.f64.format.order a a != some .eq) = false := by rw [E, h0]; rfl
    by_cases h1 : Ieee.double.order a 4742290407621132288 = some .gt ∨ Ieee.double.order a 4742290407621132288 = some .eq
    · have e : wh a = 1073741824 := by unfold wh; rw [if_pos h0, if_pos h1]
      have k1 : (FloatKind.f64.format.order a 13875379345695965184 == some .gt) = true := by rw [E, above h0 h1 mthou_int (by decide)]; rfl
      have k2 : (FloatKind.f64.format.order a 4652007308841189376 == some .lt) = false := by rw [E, above h0 h1 thou_int (by decide)]; rfl
      have k3 : (FloatKind.f64.format.order a 4742290407621132288 == some .gt || FloatKind.f64.format.order a 4742290407621132288 == some .eq) = true := by rw [E]; rcases h1 with h | h <;> rw [h] <;> rfl
      have k4 : (FloatKind.f64.format.order a 13965662444475908096 == some .lt || FloatKind.f64.format.order a 13965662444475908096 == some .eq) = false := by rw [E, above h0 h1 bottom_int (by decide)]; rfl
      have kx : (wh a != 1073741824) = false := by rw [e]; rfl
      clear h0 h1 E e
      go_enter Try.func4, Try.ntmps4
      go_wp2_with fail
      refine (X_any _ _ _).mono ?_; rintro e w' ⟨rfl, rfl⟩
      go_wp2_with fail
      refine (Y_any _ _ _).mono ?_; rintro e w' ⟨rfl, rfl⟩
      go_wp2_with fail
      refine (RHold_any _ _).mono ?_; rintro e w' ⟨rfl, rfl⟩
      rw [HA.out]
      go_wp2_with fail
      refine (RHold_any _ _).mono ?_; rintro e w' ⟨rfl, rfl⟩
      rw [HB.out]
      go_wp2_with fail
      refine (Of_id _ _ ba.1 ba.2 bb.1 bb.2 _).mono ?_; rintro e w' ⟨rfl, rfl⟩
      go_wp2_with fail
      refine (X_fb _ _ ba.1 ba.2 _).mono ?_; rintro e w' ⟨rfl, rfl⟩
      go_wp2_with fail
      refine (Y_fb _ _ bb.1 bb.2 _).mono ?_; rintro e w' ⟨rfl, rfl⟩
      go_wp2_with fail
      refine (Swap_any _ _ _).mono ?_; rintro e w' ⟨rfl, rfl⟩
      go_wp2_with fail
      refine (X_fb _ _ bb.1 bb.2 _).mono ?_; rintro e w' ⟨rfl, rfl⟩
      go_wp2_with fail
      refine (Swap_any _ _ _).mono ?_; rintro e w' ⟨rfl, rfl⟩
      go_wp2_with fail
      refine (Y_fb _ _ ba.1 ba.2 _).mono ?_; rintro e w' ⟨rfl, rfl⟩
      go_wp2_with fail
      refine (known_any _).mono ?_; rintro e w' ⟨rfl, rfl⟩
      go_wp2_with fail
      go_ret
      exact ⟨rfl, rfl⟩
    · have k3 : (FloatKind.f64.format.order a 4742290407621132288 == some .gt || FloatKind.f64.format.order a 4742290407621132288 == some .eq) = false := by
        rw [E, Bool.or_eq_false_iff, beq_eq_false_iff_ne, beq_eq_false_iff_ne]
        exact ⟨fun h => h1 (.inl h), fun h => h1 (.inr h)⟩
      by_cases h2 : Ieee.double.order a 13965662444475908096 = some .lt ∨ Ieee.double.order a 13965662444475908096 = some .eq
      · have e : wh a = -1073741824 := by unfold wh; rw [if_pos h0, if_neg h1, if_pos h2]
        have k1 : (FloatKind.f64.format.order a 13875379345695965184 == some .gt) = false := by rw [E, below h0 h2 mthou_int (by decide)]; rfl
        have k4 : (FloatKind.f64.format.order a 13965662444475908096 == some .lt || FloatKind.f64.format.order a 13965662444475908096 == some .eq) = true := by rw [E]; rcases h2 with h | h <;> rw [h] <;> rfl
        have kx : (wh a != -1073741824) = false := by rw [e]; rfl
        clear h0 h1 h2 E e
        go_enter Try.func4, Try.ntmps4
        go_wp2_with fail
        refine (X_any _ _ _).mono ?_; rintro e w' ⟨rfl, rfl⟩
        go_wp2_with fail
        refine (Y_any _ _ _).mono ?_; rintro e w' ⟨rfl, rfl⟩
        go_wp2_with fail
        refine (RHold_any _ _).mono ?_; rintro e w' ⟨rfl, rfl⟩
        rw [HA.out]
        go_wp2_with fail
        refine (RHold_any _ _).mono ?_; rintro e w' ⟨rfl, rfl⟩
        rw [HB.out]
        go_wp2_with fail
        refine (Of_id _ _ ba.1 ba.2 bb.1 bb.2 _).mono ?_; rintro e w' ⟨rfl, rfl⟩
        go_wp2_with fail
        refine (X_fb _ _ ba.1 ba.2 _).mono ?_; rintro e w' ⟨rfl, rfl⟩
        go_wp2_with fail
        refine (Y_fb _ _ bb.1 bb.2 _).mono ?_; rintro e w' ⟨rfl, rfl⟩
        go_wp2_with fail
        refine (Swap_any _ _ _).mono ?_; rintro e w' ⟨rfl, rfl⟩
        go_wp2_with fail
        refine (X_fb _ _ bb.1 bb.2 _).mono ?_; rintro e w' ⟨rfl, rfl⟩
        go_wp2_with fail
        refine (Swap_any _ _ _).mono ?_; rintro e w' ⟨rfl, rfl⟩
        go_wp2_with fail
        refine (Y_fb _ _ ba.1 ba.2 _).mono ?_; rintro e w' ⟨rfl, rfl⟩
        go_wp2_with fail
        refine (known_any _).mono ?_; rintro e w' ⟨rfl, rfl⟩
        go_wp2_with fail
        go_ret
        exact ⟨rfl, rfl⟩
      · have k4 : (FloatKind.f64.format.order a 13965662444475908096 == some .lt || FloatKind.f64.format.order a 13965662444475908096 == some .eq) = false := by
          rw [E, Bool.or_eq_false_iff, beq_eq_false_iff_ne, beq_eq_false_iff_ne]
          exact ⟨fun h => h2 (.inl h), fun h => h2 (.inr h)⟩
        obtain ⟨n, hn, -, -, -⟩ := wh_int_some h0 h1 h2
        have e : wh a = n := by unfold wh; rw [if_pos h0, if_neg h1, if_neg h2, hn]; rfl
        have kc : ∀ w, (convert 28 3 (.float .f64 a)).run Try.prog w = .ok (.int .i64 (wh a)) w :=
          fun w => run_convert_float_int w 28 3 .f64 .i64 a (wh a) (by rw [Try.underlying28]; rfl) Try.underlying3 (by rw [e]; exact hn)
        clear h0 h1 h2 hn e E
        cases k1 : (FloatKind.f64.format.order a 13875379345695965184 == some .gt) <;> cases k2 : (FloatKind.f64.format.order a 4652007308841189376 == some .lt)
        all_goals
          go_enter Try.func4, Try.ntmps4
          go_wp2_with fail
          refine (X_any _ _ _).mono ?_; rintro e w' ⟨rfl, rfl⟩
          go_wp2_with fail
          refine (Y_any _ _ _).mono ?_; rintro e w' ⟨rfl, rfl⟩
          go_wp2_with fail
          refine (RHold_any _ _).mono ?_; rintro e w' ⟨rfl, rfl⟩
          rw [HA.out]
          go_wp2_with fail
          refine (RHold_any _ _).mono ?_; rintro e w' ⟨rfl, rfl⟩
          rw [HB.out]
          go_wp2_with fail
          refine (Of_id _ _ ba.1 ba.2 bb.1 bb.2 _).mono ?_; rintro e w' ⟨rfl, rfl⟩
          go_wp2_with fail
          refine (X_fb _ _ ba.1 ba.2 _).mono ?_; rintro e w' ⟨rfl, rfl⟩
          go_wp2_with fail
          refine (Y_fb _ _ bb.1 bb.2 _).mono ?_; rintro e w' ⟨rfl, rfl⟩
          go_wp2_with fail
          refine (Swap_any _ _ _).mono ?_; rintro e w' ⟨rfl, rfl⟩
          go_wp2_with fail
          refine (X_fb _ _ bb.1 bb.2 _).mono ?_; rintro e w' ⟨rfl, rfl⟩
          go_wp2_with fail
          refine (Swap_any _ _ _).mono ?_; rintro e w' ⟨rfl, rfl⟩
          go_wp2_with fail
          refine (Y_fb _ _ ba.1 ba.2 _).mono ?_; rintro e w' ⟨rfl, rfl⟩
          go_wp2_with fail
          refine (known_any _).mono ?_; rintro e w' ⟨rfl, rfl⟩
          go_wp2_with fail
          go_ret
          exact ⟨rfl, rfl⟩
  · have k0 : (FloatKind.f64.format.order a a != some .eq) = true := by rw [E, bne_iff_ne]; exact h0
    have e : wh a = 0 := by unfold wh; rw [if_neg h0]
    have k1 : (FloatKind.f64.format.order a 13875379345695965184 == some .gt) = false := by rw [E, order_none h0]; rfl
    have k3 : (FloatKind.f64.format.order a 4742290407621132288 == some .gt || FloatKind.f64.format.order a 4742290407621132288 == some .eq) = false := by rw [E, order_none h0]; rfl
    have k4 : (FloatKind.f64.format.order a 13965662444475908096 == some .lt || FloatKind.f64.format.order a 13965662444475908096 == some .eq) = false := by rw [E, order_none h0]; rfl
    have kx : (wh a != 0) = false := by rw [e]; rfl
    clear h0 E e
    go_enter Try.func4, Try.ntmps4
    go_wp2_with fail
    refine (X_any _ _ _).mono ?_; rintro e w' ⟨rfl, rfl⟩
    go_wp2_with fail
    refine (Y_any _ _ _).mono ?_; rintro e w' ⟨rfl, rfl⟩
    go_wp2_with fail
    refine (RHold_any _ _).mono ?_; rintro e w' ⟨rfl, rfl⟩
    rw [HA.out]
    go_wp2_with fail
    refine (RHold_any _ _).mono ?_; rintro e w' ⟨rfl, rfl⟩
    rw [HB.out]
    go_wp2_with fail
    refine (Of_id _ _ ba.1 ba.2 bb.1 bb.2 _).mono ?_; rintro e w' ⟨rfl, rfl⟩
    go_wp2_with fail
    refine (X_fb _ _ ba.1 ba.2 _).mono ?_; rintro e w' ⟨rfl, rfl⟩
    go_wp2_with fail
    refine (Y_fb _ _ bb.1 bb.2 _).mono ?_; rintro e w' ⟨rfl, rfl⟩
    go_wp2_with fail
    refine (Swap_any _ _ _).mono ?_; rintro e w' ⟨rfl, rfl⟩
    go_wp2_with fail
    refine (X_fb _ _ bb.1 bb.2 _).mono ?_; rintro e w' ⟨rfl, rfl⟩
    go_wp2_with fail
    refine (Swap_any _ _ _).mono ?_; rintro e w' ⟨rfl, rfl⟩
    go_wp2_with fail
    refine (Y_fb _ _ ba.1 ba.2 _).mono ?_; rintro e w' ⟨rfl, rfl⟩
    go_wp2_with fail
    refine (known_any _).mono ?_; rintro e w' ⟨rfl, rfl⟩
    go_wp2_with fail
    go_ret
    exact ⟨rfl, rfl⟩

end Go.Proofs.Ytakoemapgnffeaa
