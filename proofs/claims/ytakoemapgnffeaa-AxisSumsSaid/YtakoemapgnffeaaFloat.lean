/- Plain facts on float64 words: which words stand for whole numbers, and that sums, differences, opposites and products of small whole numbers are exact. No program is in sight. -/
import Derived.Laws.FloatArith
import Derived.Laws.ComplexArith
namespace Go.Proofs.Ytakoemapgnffeaa.Fl
open Ieee Ieee.Datum

theorem signed_add (s : Bool) (m k j : Nat) : signed s m (k + j) = signed s m k * 2 ^ j := by
  unfold signed
  simp only [Nat.shiftLeft_eq, Nat.pow_add]
  cases s
  · simp only [Bool.false_eq_true, if_false]; rw [← Nat.mul_assoc]; push_cast; rfl
  · simp only [if_true]; rw [← Nat.mul_assoc]; push_cast; rw [Int.neg_mul]

theorem two_pos (k : Nat) : (0 : Int) < 2 ^ k := Int.pow_pos (by decide)

/-- 'm * 2 ^ e', with its sign, is n. -/
def V (s : Bool) (m : Nat) (e : Int) (n : Int) : Prop := signed s m (e - min e 0).toNat = n * 2 ^ (-(min e 0)).toNat

theorem V.at {s m e n} (h : V s m e n) (b : Int) (h1 : b ≤ e) (h2 : b ≤ 0) : signed s m (e - b).toNat = n * 2 ^ (-b).toNat := by
  unfold V at h
  have e1 : (e - b).toNat = (e - min e 0).toNat + (min e 0 - b).toNat := by omega
  have e2 : (-b).toNat = (-(min e 0)).toNat + (min e 0 - b).toNat := by omega
  rw [e1, e2, signed_add, h, Int.pow_add, Int.mul_assoc]

theorem V.of {s m e n} (b : Int) (h1 : b ≤ e) (h2 : b ≤ 0) (h : signed s m (e - b).toNat = n * 2 ^ (-b).toNat) : V s m e n := by
  unfold V
  have e1 : (e - b).toNat = (e - min e 0).toNat + (min e 0 - b).toNat := by omega
  have e2 : (-b).toNat = (-(min e 0)).toNat + (min e 0 - b).toNat := by omega
  rw [e1, e2, signed_add, Int.pow_add, ← Int.mul_assoc] at h
  exact Int.eq_of_mul_eq_mul_right (Int.ne_of_gt (two_pos _)) h

/-- The word stands for the whole number n. -/
def IsInt (x : Nat) (n : Int) : Prop := ∃ s m e, double.read x = .number s m e ∧ V s m e n

theorem signed_zero (s : Bool) (k : Nat) : signed s 0 k = 0 := by unfold signed; rw [Nat.zero_shiftLeft]; cases s <;> rfl

theorem signed_natAbs (s : Bool) (m k : Nat) : (signed s m k).natAbs = m * 2 ^ k := by
  unfold signed; rw [Nat.shiftLeft_eq]; split <;> omega

theorem signed_sign (t : Int) (k : Nat) (s : Bool) (h1 : t < 0 → s = true) (h2 : 0 < t → s = false) : signed s t.natAbs k = t * 2 ^ k := by
  unfold signed
  rw [Nat.shiftLeft_eq]
  rcases Int.lt_trichotomy t 0 with h | h | h
  · rw [h1 h, if_pos rfl]; push_cast; rw [Int.ofNat_natAbs_of_nonpos (by omega), Int.neg_mul, Int.neg_neg]
  · subst h; simp
  · rw [h2 h]; simp only [Bool.false_eq_true, if_false]; push_cast; rw [Int.natAbs_of_nonneg (by omega)]

theorem V.sign {s m e n} (h : V s m e n) : (n < 0 → s = true) ∧ (0 < n → s = false) := by
  unfold V at h
  have hp := two_pos (-(min e 0)).toNat
  refine ⟨fun hn => ?_, fun hn => ?_⟩
  · have : n * 2 ^ (-(min e 0)).toNat < 0 := Int.mul_neg_of_neg_of_pos hn hp
    rw [← h] at this
    cases s
    · exfalso; unfold signed at this; simp only [Bool.false_eq_true, if_false] at this; have := Int.natCast_nonneg (m <<< (e - min e 0).toNat); omega
    · rfl
  · have : 0 < n * 2 ^ (-(min e 0)).toNat := Int.mul_pos hn hp
    rw [← h] at this
    cases s
    · rfl
    · exfalso; unfold signed at this; simp only [if_true] at this; have := Int.natCast_nonneg (m <<< (e - min e 0).toNat); omega

theorem V.mag {s m e n} (h : V s m e n) : m * 2 ^ (e - min e 0).toNat = n.natAbs * 2 ^ (-(min e 0)).toNat := by
  unfold V at h
  have := congrArg Int.natAbs h
  rw [signed_natAbs, Int.natAbs_mul] at this
  rw [this]
  congr 1

theorem V.of_int (n : Int) : V (decide (n < 0)) n.natAbs 0 n := by
  unfold V
  exact signed_sign n _ _ (by intro h; simp [h]) (by intro h; simp; omega)

theorem cut_zero (neg : Bool) (n : Nat) : Toward.even.cut neg n 0 = n := by
  unfold Toward.cut
  simp [Nat.mod_one]

theorem cut_exact (neg : Bool) (q d : Nat) (hq : q ≠ 0) : Toward.even.cut neg (q * 2 ^ d) d = q := by
  have hd : d ≤ (q * 2 ^ d).log2 + 2 := by
    have : d ≤ (q * 2 ^ d).log2 := by
      rw [Nat.le_log2 (by exact Nat.mul_ne_zero hq (Nat.ne_of_gt (Nat.two_pow_pos d)))]
      exact Nat.le_mul_of_pos_left _ (Nat.pos_of_ne_zero hq)
    omega
  unfold Toward.cut
  simp only [Nat.min_eq_left hd, Nat.shiftLeft_eq, Nat.one_mul, Nat.mul_mod_left, Nat.mul_div_cancel _ (Nat.two_pow_pos d)]
  have hne : (2 ^ d == 0) = false := by simp
  simp [hne]

theorem binade_eq : double.binade = 4503599627370496 := rfl
theorem infRung_eq : double.infRung = 2047 * 4503599627370496 := rfl
theorem leastPlace_eq : double.leastPlace = -1074 := rfl
theorem signWeight_eq : double.signWeight = 9223372036854775808 := rfl

theorem read_word (neg : Bool) (r : Nat) (h1 : 4503599627370496 ≤ r) (h2 : r < 2047 * 4503599627370496) :
    double.read (double.word neg r) = .number neg (4503599627370496 + r % 4503599627370496) (-1074 + (r / 4503599627370496 - 1 : Nat)) := by
  unfold Format.read Format.word
  rw [binade_eq, infRung_eq, leastPlace_eq, signWeight_eq]
  cases neg
  · simp only [Bool.false_eq_true, if_false]
    have e1 : r % 9223372036854775808 = r := Nat.mod_eq_of_lt (by omega)
    have e2 : r / 9223372036854775808 = 0 := Nat.div_eq_of_lt (by omega)
    rw [e1, e2, if_neg (by omega), if_pos (by omega)]
    rfl
  · simp only [if_true]
    have e1 : (9223372036854775808 + r) % 9223372036854775808 = r := by omega
    have e2 : (9223372036854775808 + r) / 9223372036854775808 = 1 := by omega
    rw [e1, e2, if_neg (by omega), if_pos (by omega)]
    rfl

theorem read_zero (neg : Bool) : double.read (double.word neg 0) = .number neg 0 (-1074) := by cases neg <;> rfl

/-- A whole number below 2^53 is written exactly. -/
theorem nearest_int {s : Bool} {m : Nat} {e n : Int} (h : V s m e n) (hn : n.natAbs < 9007199254740992) : IsInt (double.nearest s m e) n := by
  by_cases hm : m = 0
  · subst hm
    have hn0 : n = 0 := by
      have := h.mag
      rw [Nat.zero_mul] at this
      have hp := Nat.two_pow_pos (-(min e 0)).toNat
      rcases Nat.mul_eq_zero.1 this.symm with h | h
      · omega
      · omega
    subst hn0
    unfold Format.nearest
    rw [if_pos rfl]
    exact ⟨s, 0, -1074, read_zero s, V.of (-1074) (by decide) (by decide) (by rw [signed_zero, Int.zero_mul])⟩
  · have hmag := h.mag
    have hN : n.natAbs ≠ 0 := by
      intro h0
      rw [h0, Nat.zero_mul] at hmag
      rcases Nat.mul_eq_zero.1 hmag with h | h
      · exact hm h
      · have := Nat.two_pow_pos (e - min e 0).toNat; omega
    generalize hA : n.natAbs = A at *
    obtain ⟨l1, l2⟩ : 2 ^ A.log2 ≤ A ∧ A < 2 ^ (A.log2 + 1) := (Nat.log2_eq_iff hN).1 rfl
    generalize hL : A.log2 = L at *
    have hL52 : L ≤ 52 := by
      rw [← hL]
      have : A.log2 < 53 := (Nat.log2_lt hN).2 (by omega)
      omega
    have hlog : (m.log2 : Int) = L - e := by
      by_cases he : 0 ≤ e
      · have e0 : min e 0 = 0 := by omega
        rw [e0] at hmag
        simp only [Int.sub_zero, Int.neg_zero, Int.toNat_zero, Nat.pow_zero, Nat.mul_one] at hmag
        obtain ⟨k, rfl⟩ := Int.eq_ofNat_of_zero_le he
        rw [Int.toNat_natCast] at hmag
        have : (m * 2 ^ k).log2 = m.log2 + k := by
          rw [Nat.log2_eq_iff (by rw [hmag]; exact hN)]
          obtain ⟨a, b⟩ := (Nat.log2_eq_iff hm).1 rfl
          rw [Nat.pow_add, show m.log2 + k + 1 = (m.log2 + 1) + k from by omega, Nat.pow_add]
          exact ⟨Nat.mul_le_mul_right _ a, Nat.mul_lt_mul_of_pos_right b (Nat.two_pow_pos k)⟩
        rw [hmag, hL] at this
        omega
      · have e0 : min e 0 = e := by omega
        rw [e0] at hmag
        simp only [Int.sub_self, Int.toNat_zero, Nat.pow_zero, Nat.mul_one] at hmag
        rw [hmag]
        have : (A * 2 ^ (-e).toNat).log2 = L + (-e).toNat := by
          rw [Nat.log2_eq_iff (Nat.mul_ne_zero hN (Nat.ne_of_gt (Nat.two_pow_pos _)))]
          rw [Nat.pow_add, show L + (-e).toNat + 1 = (L + 1) + (-e).toNat from by omega, Nat.pow_add]
          exact ⟨Nat.mul_le_mul_right _ l1, Nat.mul_lt_mul_of_pos_right l2 (Nat.two_pow_pos _)⟩
        rw [this]; omega
    have hlast : max (e + (m.log2 : Int) - (double.fractionBits : Int)) double.leastPlace = (L : Int) - 52 := by
      rw [leastPlace_eq, hlog, show (double.fractionBits : Int) = 52 from rfl]; omega
    have hK1 : 4503599627370496 ≤ A * 2 ^ (52 - L) := by
      have : 2 ^ L * 2 ^ (52 - L) ≤ A * 2 ^ (52 - L) := Nat.mul_le_mul_right _ l1
      rw [← Nat.pow_add, show L + (52 - L) = 52 from by omega] at this
      exact this
    have hK2 : A * 2 ^ (52 - L) < 9007199254740992 := by
      have : A * 2 ^ (52 - L) < 2 ^ (L + 1) * 2 ^ (52 - L) := Nat.mul_lt_mul_of_pos_right l2 (Nat.two_pow_pos _)
      rw [← Nat.pow_add, show L + 1 + (52 - L) = 53 from by omega] at this
      exact this
    have hkept : Toward.even.cut s (m <<< (e - ((L : Int) - 52)).toNat) (((L : Int) - 52) - e).toNat = A * 2 ^ (52 - L) := by
      by_cases hp : (L : Int) - 52 ≤ e
      · rw [show (((L : Int) - 52) - e).toNat = 0 from by omega, cut_zero, Nat.shiftLeft_eq]
        by_cases he : 0 ≤ e
        · have e0 : min e 0 = 0 := by omega
          rw [e0] at hmag
          simp only [Int.sub_zero, Int.neg_zero, Int.toNat_zero, Nat.pow_zero, Nat.mul_one] at hmag
          rw [show (e - ((L : Int) - 52)).toNat = e.toNat + (52 - L) from by omega, Nat.pow_add, ← Nat.mul_assoc, hmag]
        · have e0 : min e 0 = e := by omega
          rw [e0] at hmag
          simp only [Int.sub_self, Int.toNat_zero, Nat.pow_zero, Nat.mul_one] at hmag
          rw [hmag, Nat.mul_assoc, ← Nat.pow_add]
          congr 2; omega
      · have e0 : min e 0 = e := by omega
        rw [e0] at hmag
        simp only [Int.sub_self, Int.toNat_zero, Nat.pow_zero, Nat.mul_one] at hmag
        rw [show (e - ((L : Int) - 52)).toNat = 0 from by omega, Nat.shiftLeft_zero, hmag,
          show (-e).toNat = (52 - L) + (((L : Int) - 52) - e).toNat from by omega, Nat.pow_add, ← Nat.mul_assoc]
        exact cut_exact s _ _ (by omega)
    have hnear : double.nearest s m e = double.word s (((L : Int) - 52 - -1074).toNat * 4503599627370496 + A * 2 ^ (52 - L)) := by
      unfold Format.nearest
      rw [if_neg hm]
      simp only [hlast]
      rw [hkept, leastPlace_eq, binade_eq, infRung_eq, Nat.min_eq_left (by omega)]
    rw [hnear]
    generalize hK : A * 2 ^ (52 - L) = K at *
    have hr := read_word s (((L : Int) - 52 - -1074).toNat * 4503599627370496 + K) (by omega) (by omega)
    refine ⟨_, _, _, hr, ?_⟩
    have m1 : 4503599627370496 + (((L : Int) - 52 - -1074).toNat * 4503599627370496 + K) % 4503599627370496 = K := by omega
    have m2 : (-1074 : Int) + ((((L : Int) - 52 - -1074).toNat * 4503599627370496 + K) / 4503599627370496 - 1 : Nat) = (L : Int) - 52 := by omega
    rw [m1, m2]
    refine V.of ((L : Int) - 52) (by omega) (by omega) ?_
    rw [Int.sub_self, Int.toNat_zero]
    have hs := signed_sign n (52 - L) s h.sign.1 h.sign.2
    rw [show (-((L : Int) - 52)).toNat = 52 - L from by omega, ← hs]
    unfold signed
    rw [Nat.shiftLeft_zero, Nat.shiftLeft_eq, hA, hK]

theorem ofInt (n : Int) (hn : n.natAbs < 9007199254740992) : IsInt (floatOfInt .f64 n) n := nearest_int (V.of_int n) hn

theorem order_eq {x y : Nat} {a b : Int} (hx : IsInt x a) (hy : IsInt y b) : double.order x y = some (compare a b) := by
  obtain ⟨s, m, i, hx, ha⟩ := hx
  obtain ⟨t, n, j, hy, hb⟩ := hy
  unfold Format.order
  rw [hx, hy]
  simp only [Datum.order]
  have e1 : signed s m (i - min i j).toNat * 2 ^ (min i j - min (min i j) 0).toNat = a * 2 ^ (-(min (min i j) 0)).toNat := by
    rw [← signed_add, ← ha.at (min (min i j) 0) (by omega) (by omega)]; congr 1; omega
  have e2 : signed t n (j - min i j).toNat * 2 ^ (min i j - min (min i j) 0).toNat = b * 2 ^ (-(min (min i j) 0)).toNat := by
    rw [← signed_add, ← hb.at (min (min i j) 0) (by omega) (by omega)]; congr 1; omega
  generalize signed s m (i - min i j).toNat = A at *
  generalize signed t n (j - min i j).toNat = B at *
  have p1 := two_pos (min i j - min (min i j) 0).toNat
  have p2 := two_pos (-(min (min i j) 0)).toNat
  generalize (2 : Int) ^ (min i j - min (min i j) 0).toNat = P at *
  generalize (2 : Int) ^ (-(min (min i j) 0)).toNat = Q at *
  congr 1
  rcases Int.lt_trichotomy a b with h | h | h
  · have hl : A < B := by
      apply Int.lt_of_mul_lt_mul_right (a := P) _ (by omega)
      rw [e1, e2]; exact Int.mul_lt_mul_of_pos_right h p2
    rw [Int.compare_eq_lt.2 h, Int.compare_eq_lt.2 hl]
  · subst h
    have : A = B := Int.eq_of_mul_eq_mul_right (Int.ne_of_gt p1) (e1.trans e2.symm)
    subst this
    rw [Int.compare_eq_eq.2 rfl, Int.compare_eq_eq.2 rfl]
  · have hl : B < A := by
      apply Int.lt_of_mul_lt_mul_right (a := P) _ (by omega)
      rw [e1, e2]; exact Int.mul_lt_mul_of_pos_right h p2
    rw [Int.compare_eq_gt.2 h, Int.compare_eq_gt.2 hl]

theorem toInt_eq {x : Nat} {a : Int} (hx : IsInt x a) : (double.read x).toInt .zero = some a := by
  obtain ⟨s, m, e, hx, h⟩ := hx
  rw [hx]
  have hcut : Toward.zero.cut s (m <<< e.toNat) (-e).toNat = a.natAbs := by
    have hmag := h.mag
    unfold Toward.cut
    simp only [Bool.toNat_false, Nat.add_zero]
    by_cases he : 0 ≤ e
    · have e0 : min e 0 = 0 := by omega
      rw [e0] at hmag
      simp only [Int.sub_zero, Int.neg_zero, Int.toNat_zero, Nat.pow_zero, Nat.mul_one] at hmag
      rw [show (-e).toNat = 0 from by omega, Nat.zero_min, Nat.shiftLeft_zero, Nat.div_one, Nat.shiftLeft_eq, hmag]
    · have e0 : min e 0 = e := by omega
      rw [e0] at hmag
      simp only [Int.sub_self, Int.toNat_zero, Nat.pow_zero, Nat.mul_one] at hmag
      rw [show e.toNat = 0 from by omega, Nat.shiftLeft_zero, hmag]
      by_cases h0 : a.natAbs = 0
      · rw [h0]; simp
      · have : (-e).toNat ≤ (a.natAbs * 2 ^ (-e).toNat).log2 + 2 := by
          have : (-e).toNat ≤ (a.natAbs * 2 ^ (-e).toNat).log2 := by
            rw [Nat.le_log2 (Nat.mul_ne_zero h0 (Nat.ne_of_gt (Nat.two_pow_pos _)))]
            exact Nat.le_mul_of_pos_left _ (Nat.pos_of_ne_zero h0)
          omega
        rw [Nat.min_eq_left this, Nat.shiftLeft_eq, Nat.one_mul, Nat.mul_div_cancel _ (Nat.two_pow_pos _)]
  unfold Datum.toInt Datum.integral
  simp only [hcut]
  rw [signed_sign a 0 s h.sign.1 h.sign.2]
  simp

theorem toIntVal {x : Nat} {a : Int} (hx : IsInt x a) (h1 : -9223372036854775808 ≤ a) (h2 : a ≤ 9223372036854775807) : floatToIntVal .f64 x .i64 = some a := by
  unfold floatToIntVal
  rw [show FloatKind.f64.decode x = double.read x from rfl, toInt_eq hx]
  simp only
  rw [if_pos ⟨h1, h2⟩]

theorem add_eq {x y : Nat} {a b : Int} (hx : IsInt x a) (hy : IsInt y b) (h : (a + b).natAbs < 9007199254740992) :
    ∃ r, floatBits .add .f64 x y = some r ∧ IsInt r (a + b) := by
  obtain ⟨s, m, i, hx, ha⟩ := hx
  obtain ⟨t, n, j, hy, hb⟩ := hy
  unfold floatBits
  simp only
  show ∃ r, double.add x y = some r ∧ _
  unfold Format.add
  rw [hx, hy]
  simp only [Datum.sum, Option.map_some]
  refine ⟨_, rfl, ?_⟩
  show IsInt (double.nearest _ _ _) _
  refine nearest_int (V.of (min (min i j) 0) (by omega) (by omega) ?_) h
  have e1 : signed s m (i - min i j).toNat * 2 ^ (min i j - min (min i j) 0).toNat = a * 2 ^ (-(min (min i j) 0)).toNat := by
    rw [← signed_add, ← ha.at (min (min i j) 0) (by omega) (by omega)]; congr 1; omega
  have e2 : signed t n (j - min i j).toNat * 2 ^ (min i j - min (min i j) 0).toNat = b * 2 ^ (-(min (min i j) 0)).toNat := by
    rw [← signed_add, ← hb.at (min (min i j) 0) (by omega) (by omega)]; congr 1; omega
  generalize signed s m (i - min i j).toNat = A at *
  generalize signed t n (j - min i j).toNat = B at *
  rw [signed_sign (A + B)]
  · rw [Int.add_mul, Int.add_mul, e1, e2]
  · intro h; rw [if_neg (by omega)]; simp [h]
  · intro h; rw [if_neg (by omega)]; simp; omega

theorem signed_not (s : Bool) (m k : Nat) : signed (!s) m k = -signed s m k := by
  unfold signed; cases s <;> simp

theorem V.neg {s m e n} (h : V s m e n) : V (!s) m e (-n) := by
  unfold V at *
  rw [signed_not, h, Int.neg_mul]

theorem sub_eq {x y : Nat} {a b : Int} (hx : IsInt x a) (hy : IsInt y b) (h : (a - b).natAbs < 9007199254740992) :
    ∃ r, floatBits .sub .f64 x y = some r ∧ IsInt r (a - b) := by
  obtain ⟨s, m, i, hx, ha⟩ := hx
  obtain ⟨t, n, j, hy, hb'⟩ := hy
  have hb := hb'.neg
  unfold floatBits
  simp only
  show ∃ r, double.sub x y = some r ∧ _
  unfold Format.sub
  rw [hx, hy]
  simp only [Datum.sum, Datum.opposite, Option.map_some]
  refine ⟨_, rfl, ?_⟩
  show IsInt (double.nearest _ _ _) _
  refine nearest_int (V.of (min (min i j) 0) (by omega) (by omega) ?_) h
  have e1 : signed s m (i - min i j).toNat * 2 ^ (min i j - min (min i j) 0).toNat = a * 2 ^ (-(min (min i j) 0)).toNat := by
    rw [← signed_add, ← ha.at (min (min i j) 0) (by omega) (by omega)]; congr 1; omega
  have e2 : signed (!t) n (j - min i j).toNat * 2 ^ (min i j - min (min i j) 0).toNat = (-b) * 2 ^ (-(min (min i j) 0)).toNat := by
    rw [← signed_add, ← hb.at (min (min i j) 0) (by omega) (by omega)]; congr 1; omega
  generalize signed s m (i - min i j).toNat = A at *
  generalize signed (!t) n (j - min i j).toNat = B at *
  rw [signed_sign (A + B)]
  · rw [Int.add_mul, e1, e2, ← Int.add_mul]; congr 1
  · intro h; rw [if_neg (by omega)]; simp [h]
  · intro h; rw [if_neg (by omega)]; simp; omega

theorem signed_mul (s t : Bool) (m n k j : Nat) : signed (s ^^ t) (m * n) (k + j) = signed s m k * signed t n j := by
  unfold signed
  simp only [Nat.shiftLeft_eq, Nat.pow_add]
  have : m * n * (2 ^ k * 2 ^ j) = (m * 2 ^ k) * (n * 2 ^ j) := by
    rw [Nat.mul_assoc, Nat.mul_assoc, Nat.mul_left_comm n]
  rw [this]
  cases s <;> cases t <;> simp [Int.neg_mul, Int.mul_neg]

theorem mul_eq {x y : Nat} {a b : Int} (hx : IsInt x a) (hy : IsInt y b) (h : (a * b).natAbs < 9007199254740992) :
    ∃ r, floatBits .mul .f64 x y = some r ∧ IsInt r (a * b) := by
  obtain ⟨s, m, i, hx, ha⟩ := hx
  obtain ⟨t, n, j, hy, hb⟩ := hy
  unfold floatBits
  simp only
  show ∃ r, double.mul x y = some r ∧ _
  unfold Format.mul
  rw [hx, hy]
  simp only [Datum.product, Option.map_some]
  refine ⟨_, rfl, ?_⟩
  show IsInt (double.nearest _ _ _) _
  refine nearest_int (V.of (min i 0 + min j 0) (by omega) (by omega) ?_) h
  rw [show (i + j - (min i 0 + min j 0)).toNat = (i - min i 0).toNat + (j - min j 0).toNat from by omega, signed_mul,
    ha.at (min i 0) (by omega) (by omega), hb.at (min j 0) (by omega) (by omega),
    show (-(min i 0 + min j 0)).toNat = (-(min i 0)).toNat + (-(min j 0)).toNat from by omega, Int.pow_add]
  rw [Int.mul_assoc, Int.mul_assoc, Int.mul_left_comm (2 ^ _) b]

theorem negFloat_read (x : Nat) : double.read (Op.negFloat .f64 x) = (double.read x).opposite := by
  have e : Op.negFloat .f64 x = x ^^^ 2 ^ 63 := rfl
  rw [e]
  have h1 : (x ^^^ 2 ^ 63) % 2 ^ 63 = x % 2 ^ 63 := by
    rw [Nat.xor_mod_two_pow]; simp
  have h2 : (x ^^^ 2 ^ 63) / 2 ^ 63 = (x / 2 ^ 63) ^^^ 1 := by
    rw [Nat.xor_div_two_pow]
  have h3 : ((x / 2 ^ 63) ^^^ 1) % 2 = 1 - x / 2 ^ 63 % 2 := by
    have := Nat.xor_mod_two_pow (a := x / 2 ^ 63) (b := 1) (n := 1)
    rw [Nat.pow_one] at this
    rw [this]
    rcases Nat.mod_two_eq_zero_or_one (x / 2 ^ 63) with h | h <;> rw [h] <;> rfl
  unfold Format.read
  rw [signWeight_eq, binade_eq, infRung_eq, leastPlace_eq, show (9223372036854775808 : Nat) = 2 ^ 63 from rfl, h1, h2, h3]
  have hs : (1 - x / 2 ^ 63 % 2 == 1) = !(x / 2 ^ 63 % 2 == 1) := by
    rcases Nat.mod_two_eq_zero_or_one (x / 2 ^ 63) with h | h <;> rw [h] <;> rfl
  rw [hs]
  dsimp only
  split
  · rfl
  · split
    · rfl
    · split <;> rfl

theorem neg_eq {x : Nat} {a : Int} (hx : IsInt x a) : IsInt (Op.negFloat .f64 x) (-a) := by
  obtain ⟨s, m, e, hx, h⟩ := hx
  exact ⟨!s, m, e, by rw [negFloat_read, hx]; rfl, h.neg⟩

theorem zero_int : IsInt 0 0 := ⟨false, 0, -1074, rfl, V.of (-1074) (by decide) (by decide) (by rw [signed_zero, Int.zero_mul])⟩
theorem one_int : IsInt 4607182418800017408 1 := by
  have := nearest_int (V.of_int 1) (by decide)
  exact this

end Go.Proofs.Ytakoemapgnffeaa.Fl
