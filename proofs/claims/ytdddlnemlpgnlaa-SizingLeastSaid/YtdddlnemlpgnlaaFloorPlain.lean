/- Floor division, plain: what the program's and the reference's ways come to, and how a part of a length behaves. -/
import Derived.Test.YtdddlnemlpgnlaaHold
namespace Go.Proofs.Ytdddlnemlpgnlaa

/-- The greatest whole number that is not above p / d. -/
def flr (p d : Int) : Int := if 0 < d then p / d else (-p) / (-d)

theorem ediv_of {p d q r : Int} (hd : 0 < d) (h : p = d * q + r) (h1 : 0 ≤ r) (h2 : r < d) : p / d = q := by
  have := (Int.ediv_emod_unique (a := p) (b := d) (q := q) (r := r) hd).2 ⟨by rw [h, Int.add_comm], h1, h2⟩
  exact this.1

/-- The program's way: truncated, and one less where the signs part and something is left. -/
def downP (p d : Int) : Int := if p.tmod d ≠ 0 ∧ (p < 0) ≠ (d < 0) then p.tdiv d - 1 else p.tdiv d

theorem downP_eq (p d : Int) (hd : d ≠ 0) : downP p d = flr p d := by
  have hp := Int.mul_tdiv_add_tmod p d
  unfold downP flr
  by_cases h0 : 0 < d
  · rw [if_pos h0]
    by_cases hn : p < 0
    · have b1 : -d < p.tmod d := by
        have := Int.lt_tmod_of_pos p h0; exact this
      have b2 : p.tmod d ≤ 0 := by
        have e : p.tmod d = -((-p).tmod d) := by rw [Int.neg_tmod, Int.neg_neg]
        have := Int.tmod_nonneg d (a := -p) (by omega)
        omega
      by_cases hr : p.tmod d = 0
      · rw [if_neg (by simp [hr])]
        exact (ediv_of h0 (q := p.tdiv d) (r := 0) (by omega) (by omega) (by omega)).symm
      · rw [if_pos ⟨hr, by simp; omega⟩]
        refine (ediv_of h0 (q := p.tdiv d - 1) (r := p.tmod d + d) ?_ (by omega) (by omega)).symm
        rw [Int.mul_sub]; omega
    · have b1 := Int.tmod_nonneg d (a := p) (by omega)
      have b2 := Int.tmod_lt_of_pos p h0
      rw [if_neg (by intro h; exact h.2 (by simp [hn]; omega))]
      exact (ediv_of h0 (q := p.tdiv d) (r := p.tmod d) (by omega) b1 b2).symm
  · rw [if_neg h0]
    have hd' : 0 < -d := by omega
    have e1 : p.tmod d = p.tmod (-d) := (Int.tmod_neg p d).symm
    by_cases hn : p < 0
    · have b1 : -(-d) < p.tmod (-d) := Int.lt_tmod_of_pos p hd'
      have b2 : p.tmod d ≤ 0 := by
        have e : p.tmod d = -((-p).tmod d) := by rw [Int.neg_tmod, Int.neg_neg]
        have := Int.tmod_nonneg d (a := -p) (by omega)
        omega
      rw [if_neg (by intro h; exact h.2 (by simp [hn]; omega))]
      refine (ediv_of hd' (q := p.tdiv d) (r := -p.tmod d) ?_ (by omega) (by omega)).symm
      rw [Int.neg_mul]; omega
    · have b1 := Int.tmod_nonneg d (a := p) (by omega)
      have b2 : p.tmod (-d) < -d := Int.tmod_lt_of_pos p hd'
      by_cases hr : p.tmod d = 0
      · rw [if_neg (by simp [hr])]
        refine (ediv_of hd' (q := p.tdiv d) (r := 0) ?_ (by omega) (by omega)).symm
        rw [Int.neg_mul]; omega
      · rw [if_pos ⟨hr, by simp [hn]; omega⟩]
        refine (ediv_of hd' (q := p.tdiv d - 1) (r := -d - p.tmod d) ?_ (by omega) (by omega)).symm
        rw [Int.mul_sub, Int.neg_mul]; omega

/-- The reference's way below 0, for a positive divisor. -/
theorem floor_neg (p d : Int) (hd : 0 < d) : -((d - 1 - p) / d) = p / d := by
  have h1 := Int.mul_ediv_add_emod p d
  have h2 := Int.emod_nonneg p (Int.ne_of_gt hd)
  have h3 := Int.emod_lt_of_pos p hd
  have : (d - 1 - p) / d = -(p / d) := by
    refine ediv_of hd (r := d - 1 - p % d) ?_ (by omega) (by omega)
    rw [Int.mul_neg]; omega
  omega

theorem flr_bd (p d : Int) (b : Int) (h1 : -b ≤ p) (h2 : p ≤ b) (hd : d ≠ 0) : -b ≤ flr p d ∧ flr p d ≤ b := by
  unfold flr
  split
  · rename_i h
    constructor
    · exact Int.le_ediv_of_mul_le h (by have := Int.mul_le_mul_of_nonneg_left (show (1:Int) ≤ d by omega) (show 0 ≤ b by omega); rw [Int.neg_mul]; omega)
    · exact Int.ediv_le_of_le_mul h (by have := Int.mul_le_mul_of_nonneg_left (show (1:Int) ≤ d by omega) (show 0 ≤ b by omega); omega)
  · rename_i h
    constructor
    · exact Int.le_ediv_of_mul_le (by omega) (by have := Int.mul_le_mul_of_nonneg_left (show (1:Int) ≤ -d by omega) (show 0 ≤ b by omega); rw [Int.neg_mul]; omega)
    · exact Int.ediv_le_of_le_mul (by omega) (by have := Int.mul_le_mul_of_nonneg_left (show (1:Int) ≤ -d by omega) (show 0 ≤ b by omega); omega)

def partH (a n d : Int) : Int := if d = 0 then 0 else hold (flr (hold a * hold n) (hold d))

theorem hold_eq_zero (d : Int) : hold d = 0 ↔ d = 0 := by unfold hold; split <;> (try split) <;> omega
theorem hold_pos (d : Int) : 0 < hold d ↔ 0 < d := by unfold hold; split <;> (try split) <;> omega
theorem hold_nonneg (d : Int) : 0 ≤ hold d ↔ 0 ≤ d := by unfold hold; split <;> (try split) <;> omega
theorem hold_mono {a b : Int} (h : a ≤ b) : hold a ≤ hold b := by unfold hold; split <;> split <;> (try split) <;> (try split) <;> omega

theorem mul_bd (a n : Int) : -1152921504606846976 ≤ hold a * hold n ∧ hold a * hold n ≤ 1152921504606846976 := by
  have h1 := hold_bd a
  have h2 := hold_bd n
  have e : (hold a * hold n).natAbs ≤ 1073741824 * 1073741824 := by
    rw [Int.natAbs_mul]; exact Nat.mul_le_mul (by omega) (by omega)
  omega

theorem partH_bd (a n d : Int) : -1073741824 ≤ partH a n d ∧ partH a n d ≤ 1073741824 := by
  unfold partH; split
  · omega
  · exact hold_bd _

theorem part_mono {a b n d : Int} (h : a ≤ b) (hn : 0 ≤ n) (hd : 0 < d) : partH a n d ≤ partH b n d := by
  unfold partH
  rw [if_neg (by omega), if_neg (by omega)]
  apply hold_mono
  unfold flr
  rw [if_pos ((hold_pos d).2 hd), if_pos ((hold_pos d).2 hd)]
  exact Int.ediv_le_ediv ((hold_pos d).2 hd) (Int.mul_le_mul_of_nonneg_right (hold_mono h) ((hold_nonneg n).2 hn))

/-- A percentage and what is left of a hundred make the whole, but for one. -/
theorem part_rest (a n : Int) (h0 : 0 ≤ n) (h1 : n ≤ 100000) :
    partH a n 100000 + partH a (100000 - n) 100000 ≤ hold a ∧ hold a ≤ partH a n 100000 + partH a (100000 - n) 100000 + 1 := by
  have ha := hold_bd a
  unfold partH
  rw [if_neg (by decide), if_neg (by decide), hold_id (x := n) (by omega) (by omega), hold_id (x := 100000 - n) (by omega) (by omega), hold_id (x := 100000) (by decide) (by decide)]
  unfold flr
  rw [if_pos (by decide), if_pos (by decide), Int.mul_sub]
  generalize hold a = A at *
  have hm : A * n ≤ 1073741824 * 100000 ∧ -(1073741824 * 100000) ≤ A * n := by
    have e : (A * n).natAbs ≤ 1073741824 * 100000 := by rw [Int.natAbs_mul]; exact Nat.mul_le_mul (by omega) (by omega)
    omega
  have hm2 : A * 100000 - A * n ≤ 1073741824 * 100000 ∧ -(1073741824 * 100000) ≤ A * 100000 - A * n := by
    have e : (A * (100000 - n)).natAbs ≤ 1073741824 * 100000 := by rw [Int.natAbs_mul]; exact Nat.mul_le_mul (by omega) (by omega)
    rw [Int.mul_sub] at e
    omega
  generalize A * n = M at *
  rw [hold_id (x := M / 100000) (by omega) (by omega), hold_id (x := (A * 100000 - M) / 100000) (by omega) (by omega)]
  omega

end Go.Proofs.Ytdddlnemlpgnlaa
