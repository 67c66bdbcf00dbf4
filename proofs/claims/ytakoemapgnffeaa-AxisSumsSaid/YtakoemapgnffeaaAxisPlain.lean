/- What axis.whole makes of a float64: a whole number between the two ends; of a word that stands for a whole number, that number, held. -/
import Derived.Test.YtakoemapgnffeaaFloat
import Derived.Test.YtakoemapgnffeaaHold
namespace Go.Proofs.Ytakoemapgnffeaa.Fl
open Ieee Ieee.Datum

/-- What axis.whole answers, of a float's bits. -/
def wh (p : Nat) : Int :=
  if double.order p p = some .eq then
    if double.order p 4742290407621132288 = some .gt ∨ double.order p 4742290407621132288 = some .eq then 1073741824
    else if double.order p 13965662444475908096 = some .lt ∨ double.order p 13965662444475908096 = some .eq then -1073741824
    else (floatToIntVal .f64 p .i64).getD 0
  else 0

theorem top_int : IsInt 4742290407621132288 1073741824 := by
  have := nearest_int (V.of_int 1073741824) (by decide)
  exact this
theorem bottom_int : IsInt 13965662444475908096 (-1073741824) := by
  have := nearest_int (V.of_int (-1073741824)) (by decide)
  exact this

theorem wh_int {p : Nat} {n : Int} (h : IsInt p n) (h1 : -9223372036854775808 ≤ n) (h2 : n ≤ 9223372036854775807) : wh p = hold n := by
  unfold wh
  rw [order_eq h h, order_eq h top_int, order_eq h bottom_int, toIntVal h h1 h2, if_pos (by rw [Int.compare_eq_eq.2 rfl])]
  rcases Int.lt_trichotomy n 1073741824 with a | a | a
  · rw [Int.compare_eq_lt.2 a, if_neg (by decide)]
    rcases Int.lt_trichotomy n (-1073741824) with b | b | b
    · rw [Int.compare_eq_lt.2 b, if_pos (by decide)]; unfold hold; rw [if_neg (by omega), if_pos b]
    · rw [Int.compare_eq_eq.2 b, if_pos (by decide)]; unfold hold; rw [if_neg (by omega), if_neg (by omega)]; exact b.symm
    · rw [Int.compare_eq_gt.2 b, if_neg (by decide)]; unfold hold; rw [if_neg (by omega), if_neg (by omega)]; rfl
  · rw [Int.compare_eq_eq.2 a, if_pos (by decide)]; unfold hold; rw [if_neg (by omega), if_neg (by omega)]; exact a.symm
  · rw [Int.compare_eq_gt.2 a, if_pos (by decide)]; unfold hold; rw [if_pos a]

/-- What 'int(p)' cuts off of a number is no more than the number. -/
theorem cut_le (s : Bool) (m : Nat) (e : Int) : Toward.zero.cut s (m <<< e.toNat) (-e).toNat * 2 ^ (-e).toNat ≤ m * 2 ^ e.toNat := by
  unfold Toward.cut
  simp only [Bool.toNat_false, Nat.add_zero, Nat.shiftLeft_eq, Nat.one_mul]
  by_cases h : (-e).toNat ≤ (m * 2 ^ e.toNat).log2 + 2
  · rw [Nat.min_eq_left h]; exact Nat.div_mul_le_self _ _
  · rw [Nat.min_eq_right (by omega)]
    have : m * 2 ^ e.toNat / 2 ^ ((m * 2 ^ e.toNat).log2 + 2) = 0 := by
      apply Nat.div_eq_of_lt
      by_cases h0 : m * 2 ^ e.toNat = 0
      · rw [h0]; exact Nat.two_pow_pos _
      · have := (Nat.log2_eq_iff h0).1 rfl
        have l := Nat.pow_le_pow_right (n := 2) (by decide) (show (m * 2 ^ e.toNat).log2 + 1 ≤ (m * 2 ^ e.toNat).log2 + 2 by omega)
        omega
    rw [this, Nat.zero_mul]; exact Nat.zero_le _

theorem toInt_number (s : Bool) (m : Nat) (e : Int) : (Datum.number s m e).toInt .zero = some (signed s (Toward.zero.cut s (m <<< e.toNat) (-e).toNat) 0) := rfl

/-- A number below 2^30 that is cut to a whole one is one below 2^30. -/
theorem cut_lt (s : Bool) (m : Nat) (e : Int) (b : Int) (h1 : b ≤ e) (h2 : b ≤ 0) (h : m * 2 ^ (e - b).toNat < 1073741824 * 2 ^ (-b).toNat) :
    Toward.zero.cut s (m <<< e.toNat) (-e).toNat < 1073741824 := by
  have hc := cut_le s m e
  generalize Toward.zero.cut s (m <<< e.toNat) (-e).toNat = q at *
  by_cases hq : q < 1073741824
  · exact hq
  · exfalso
    have hq' : 1073741824 ≤ q := by omega
    have e1 : 1073741824 * 2 ^ (-b).toNat ≤ q * 2 ^ (-b).toNat := Nat.mul_le_mul_right _ hq'
    have e2 : q * 2 ^ (-b).toNat ≤ m * 2 ^ (e - b).toNat := by
      by_cases he : 0 ≤ e
      · rw [show (-e).toNat = 0 from by omega, Nat.pow_zero, Nat.mul_one] at hc
        rw [show (e - b).toNat = e.toNat + (-b).toNat from by omega, Nat.pow_add, ← Nat.mul_assoc]
        exact Nat.mul_le_mul_right _ hc
      · rw [show e.toNat = 0 from by omega, Nat.pow_zero, Nat.mul_one] at hc
        rw [show (-b).toNat = (-e).toNat + (e - b).toNat from by omega, Nat.pow_add, ← Nat.mul_assoc]
        exact Nat.mul_le_mul_right _ hc
    omega

theorem order_self_number {p : Nat} (h : double.order p p = some .eq) : (∃ s m e, double.read p = .number s m e) ∨ ∃ s, double.read p = .infinity s := by
  unfold Format.order at h
  cases hr : double.read p with
  | number s m e => exact .inl ⟨s, m, e, rfl⟩
  | infinity s => exact .inr ⟨s, rfl⟩
  | nan s f => rw [hr] at h; simp [Datum.order] at h

theorem signed_lt {A B : Int} {k : Nat} (h : A * 2 ^ k < B * 2 ^ k) : A < B := Int.lt_of_mul_lt_mul_right h (Int.le_of_lt (two_pos k))

theorem order_lt {p q : Nat} {s m e n} (hp : double.read p = .number s m e) (hq : IsInt q n) (h : double.order p q = some .lt) :
    signed s m (e - min e 0).toNat < n * 2 ^ (-(min e 0)).toNat := by
  obtain ⟨t, k, j, hr, hv⟩ := hq
  unfold Format.order at h
  rw [hp, hr] at h
  simp only [Datum.order, Option.some.injEq, Int.compare_eq_lt] at h
  have h' : signed s m (e - min e j).toNat * 2 ^ (min e j - min (min e j) 0).toNat < signed t k (j - min e j).toNat * 2 ^ (min e j - min (min e j) 0).toNat := Int.mul_lt_mul_of_pos_right h (two_pos _)
  rw [← signed_add, ← signed_add] at h'
  have e2 := hv.at (min (min e j) 0) (by omega) (by omega)
  rw [show (j - min e j).toNat + (min e j - min (min e j) 0).toNat = (j - min (min e j) 0).toNat from by omega, e2] at h'
  apply signed_lt (k := (min e 0 - min (min e j) 0).toNat)
  rw [← signed_add, Int.mul_assoc, ← Int.pow_add]
  rw [show (e - min e 0).toNat + (min e 0 - min (min e j) 0).toNat = (e - min e j).toNat + (min e j - min (min e j) 0).toNat from by omega,
    show (-(min e 0)).toNat + (min e 0 - min (min e j) 0).toNat = (-(min (min e j) 0)).toNat from by omega]
  exact h'

theorem order_gt {p q : Nat} {s m e n} (hp : double.read p = .number s m e) (hq : IsInt q n) (h : double.order p q = some .gt) :
    n * 2 ^ (-(min e 0)).toNat < signed s m (e - min e 0).toNat := by
  obtain ⟨t, k, j, hr, hv⟩ := hq
  unfold Format.order at h
  rw [hp, hr] at h
  simp only [Datum.order, Option.some.injEq, Int.compare_eq_gt] at h
  have h' : signed t k (j - min e j).toNat * 2 ^ (min e j - min (min e j) 0).toNat < signed s m (e - min e j).toNat * 2 ^ (min e j - min (min e j) 0).toNat := Int.mul_lt_mul_of_pos_right h (two_pos _)
  rw [← signed_add, ← signed_add] at h'
  have e2 := hv.at (min (min e j) 0) (by omega) (by omega)
  rw [show (j - min e j).toNat + (min e j - min (min e j) 0).toNat = (j - min (min e j) 0).toNat from by omega, e2] at h'
  apply signed_lt (k := (min e 0 - min (min e j) 0).toNat)
  rw [← signed_add, Int.mul_assoc, ← Int.pow_add]
  rw [show (e - min e 0).toNat + (min e 0 - min (min e j) 0).toNat = (e - min e j).toNat + (min e j - min (min e j) 0).toNat from by omega,
    show (-(min e 0)).toNat + (min e 0 - min (min e j) 0).toNat = (-(min (min e j) 0)).toNat from by omega]
  exact h'

theorem order_cases {p : Nat} {s m e} (hp : double.read p = .number s m e) {q : Nat} {n : Int} (hq : IsInt q n) : ∃ o, double.order p q = some o := by
  obtain ⟨t, k, j, hr, _⟩ := hq
  unfold Format.order
  rw [hp, hr]; exact ⟨_, rfl⟩

/-- Where axis.whole comes to 'int(p)', p is cut to a whole number below 2^30. -/
theorem wh_int_some {p : Nat} (h0 : double.order p p = some .eq)
    (h1 : ¬ (double.order p 4742290407621132288 = some .gt ∨ double.order p 4742290407621132288 = some .eq))
    (h2 : ¬ (double.order p 13965662444475908096 = some .lt ∨ double.order p 13965662444475908096 = some .eq)) :
    ∃ n, floatToIntVal .f64 p .i64 = some n ∧ -1073741824 ≤ n ∧ n ≤ 1073741824 ∧ ∃ s m e, double.read p = .number s m e := by
  rcases order_self_number h0 with ⟨s, m, e, hr⟩ | ⟨s, hr⟩
  · obtain ⟨o, ho⟩ := order_cases hr top_int
    have ho1 : double.order p 4742290407621132288 = some .lt := by
      cases o
      · exact ho
      · exact absurd (.inr ho) h1
      · exact absurd (.inl ho) h1
    obtain ⟨o', ho'⟩ := order_cases hr bottom_int
    have ho2 : double.order p 13965662444475908096 = some .gt := by
      cases o'
      · exact absurd (.inl ho') h2
      · exact absurd (.inr ho') h2
      · exact ho'
    have a := order_lt hr top_int ho1
    have b := order_gt hr bottom_int ho2
    have hm : m * 2 ^ (e - min e 0).toNat < 1073741824 * 2 ^ (-(min e 0)).toNat := by
      have hn := signed_natAbs s m (e - min e 0).toNat
      have hp := two_pos (-(min e 0)).toNat
      have hc : ((2 ^ (-(min e 0)).toNat : Nat) : Int) = 2 ^ (-(min e 0)).toNat := by push_cast; rfl
      rw [Int.neg_mul] at b
      rw [← hn]
      generalize signed s m (e - min e 0).toNat = A at *
      rw [← hc] at a b
      omega
    have hq := cut_lt s m e (min e 0) (by omega) (by omega) hm
    refine ⟨signed s (Toward.zero.cut s (m <<< e.toNat) (-e).toNat) 0, ?_, ?_, ?_, s, m, e, hr⟩
    · unfold floatToIntVal
      rw [show FloatKind.f64.decode p = double.read p from rfl, hr, toInt_number]
      simp only
      generalize Toward.zero.cut s (m <<< e.toNat) (-e).toNat = q at *
      have := signed_natAbs s q 0
      rw [Nat.pow_zero, Nat.mul_one] at this
      have k1 : IntKind.i64.min = -9223372036854775808 := rfl
      have k2 : IntKind.i64.max = 9223372036854775807 := rfl
      rw [if_pos (by rw [k1, k2]; omega)]
    · generalize Toward.zero.cut s (m <<< e.toNat) (-e).toNat = q at *
      have := signed_natAbs s q 0
      rw [Nat.pow_zero, Nat.mul_one] at this
      omega
    · generalize Toward.zero.cut s (m <<< e.toNat) (-e).toNat = q at *
      have := signed_natAbs s q 0
      rw [Nat.pow_zero, Nat.mul_one] at this
      omega
  · exfalso
    have hb : ∃ t k j, double.read 4742290407621132288 = .number t k j := ⟨_, _, _, rfl⟩
    have hc : ∃ t k j, double.read 13965662444475908096 = .number t k j := ⟨_, _, _, rfl⟩
    obtain ⟨t, k, j, hb⟩ := hb
    obtain ⟨t', k', j', hc⟩ := hc
    unfold Format.order at h1 h2
    rw [hr, hb] at h1
    rw [hr, hc] at h2
    cases s
    · exact h1 (.inl rfl)
    · exact h2 (.inl rfl)

theorem wh_bd (p : Nat) : -1073741824 ≤ wh p ∧ wh p ≤ 1073741824 := by
  unfold wh
  by_cases h0 : double.order p p = some .eq
  · rw [if_pos h0]
    by_cases h1 : double.order p 4742290407621132288 = some .gt ∨ double.order p 4742290407621132288 = some .eq
    · rw [if_pos h1]; omega
    · rw [if_neg h1]
      by_cases h2 : double.order p 13965662444475908096 = some .lt ∨ double.order p 13965662444475908096 = some .eq
      · rw [if_pos h2]; omega
      · rw [if_neg h2]
        obtain ⟨n, hn, a, b, _⟩ := wh_int_some h0 h1 h2
        rw [hn]; exact ⟨a, b⟩
  · rw [if_neg h0]; omega

theorem hold_wh (p : Nat) : hold (wh p) = wh p := hold_id (wh_bd p).1 (wh_bd p).2

/-- The float of a length is worth the length. -/
theorem wh_of (n : Int) (h1 : -1073741824 ≤ n) (h2 : n ≤ 1073741824) : wh (floatOfInt .f64 n) = n := by
  rw [wh_int (ofInt n (by omega)) (by omega) (by omega), hold_id h1 h2]

theorem wh_hold (n : Int) : wh (floatOfInt .f64 (hold n)) = hold n := wh_of _ (hold_bd n).1 (hold_bd n).2

theorem order_of (a b : Int) (h1 : -1073741824 ≤ a) (h2 : a ≤ 1073741824) (h3 : -1073741824 ≤ b) (h4 : b ≤ 1073741824) :
    (double.order (floatOfInt .f64 a) (floatOfInt .f64 b) == some .eq) = decide (a = b) := by
  rw [order_eq (ofInt a (by omega)) (ofInt b (by omega))]
  rcases Int.lt_trichotomy a b with h | h | h
  · rw [Int.compare_eq_lt.2 h]; simp; omega
  · rw [Int.compare_eq_eq.2 h]; simp [h]
  · rw [Int.compare_eq_gt.2 h]; simp; omega

/-- 1i times a vector's mirror: its parts change places. -/
theorem turn (x y : Int) (h1 : -1073741824 ≤ x) (h2 : x ≤ 1073741824) (h3 : -1073741824 ≤ y) (h4 : y ≤ 1073741824) :
    ∃ re im, cMulBits 0 4607182418800017408 (floatOfInt .f64 x) (Op.negFloat .f64 (floatOfInt .f64 y)) = some (re, im) ∧ wh re = y ∧ wh im = x := by
  have hx := ofInt x (by omega)
  have hy := neg_eq (ofInt y (by omega))
  obtain ⟨r1, e1, i1⟩ := mul_eq zero_int hx (by rw [Int.zero_mul]; decide)
  obtain ⟨r2, e2, i2⟩ := mul_eq one_int hy (by omega)
  obtain ⟨r3, e3, i3⟩ := sub_eq i1 i2 (by rw [Int.zero_mul, Int.one_mul]; omega)
  obtain ⟨r4, e4, i4⟩ := mul_eq zero_int hy (by rw [Int.zero_mul]; decide)
  obtain ⟨r5, e5, i5⟩ := mul_eq one_int hx (by omega)
  obtain ⟨r6, e6, i6⟩ := add_eq i4 i5 (by rw [Int.zero_mul, Int.one_mul]; omega)
  refine ⟨r3, r6, ?_, ?_, ?_⟩
  · unfold cMulBits
    rw [e1, Option.bind_some, e2, Option.bind_some, e3, Option.bind_some, e4, Option.bind_some, e5, Option.bind_some, e6, Option.bind_some]
  · rw [wh_int i3 (by rw [Int.zero_mul, Int.one_mul]; omega) (by rw [Int.zero_mul, Int.one_mul]; omega), Int.zero_mul, Int.one_mul, hold_id (by omega) (by omega)]; omega
  · rw [wh_int i6 (by rw [Int.zero_mul, Int.one_mul]; omega) (by rw [Int.zero_mul, Int.one_mul]; omega), Int.zero_mul, Int.one_mul, hold_id (by omega) (by omega)]; omega

end Go.Proofs.Ytakoemapgnffeaa.Fl
