/- Parts of lengths: the program's down and Part, the reference's Floor and Part; Px, Percent, Clamp. -/
import Derived.Test.YtpgnhaoolngkdaaFloorPlain
import Derived.Test.YtpgnhaoolngkdaaSmall
namespace Go.Proofs.Ytpgnhaoolngkdaa
open Go.RowKit
set_option linter.unusedSimpArgs false
set_option linter.unusedVariables false

set_option maxHeartbeats 1000000 in
theorem down_any (p d : Int) (hd : d ≠ 0) (h1 : -1152921504606846976 ≤ p) (h2 : p ≤ 1152921504606846976) (h3 : -1073741824 ≤ d) (h4 : d ≤ 1073741824) (w : World) :
    Calls Try.prog 33 #[.int .i64 p, .int .i64 d] w fun e w' => e = .returned (.int .i64 (downP p d)) ∧ w = w' := by
  have hd0 : (d == 0) = false := by simp [hd]
  have hb := flr_bd p d 1152921504606846976 h1 h2 hd
  rw [← downP_eq p d hd] at hb
  unfold downP at hb
  by_cases hr : p.tmod d = 0
  · have e : downP p d = p.tdiv d := by unfold downP; rw [if_neg (by simp [hr])]
    rw [e]
    have hr0 : (p.tmod d != 0) = false := by simp [hr]
    rw [if_neg (by simp [hr])] at hb
    clear e
    go_enter Try.func33, Try.ntmps33
    go_wp2_with fail
    go_ret
    exact ⟨rfl, rfl⟩
  · have hr0 : (p.tmod d != 0) = true := by simp [hr]
    have hr1 : ¬ p % d = 0 := by rw [← Int.dvd_iff_emod_eq_zero, Int.dvd_iff_tmod_eq_zero]; exact hr
    have hr2 : ¬ d ∣ p := by rw [Int.dvd_iff_tmod_eq_zero]; exact hr
    have hr3 : (p % d != 0) = true := by simp [hr1]
    by_cases hs : (p < 0) = (d < 0)
    · have e : downP p d = p.tdiv d := by unfold downP; rw [if_neg (by simp [hs])]
      rw [e]
      rw [if_neg (by simp [hs])] at hb
      by_cases hp : p < 0
      · have hdd : d < 0 := hs ▸ hp
        clear e hs
        go_enter Try.func33, Try.ntmps33
        go_wp2_with fail
        go_ret
        exact ⟨rfl, rfl⟩
      · have hdd : ¬ d < 0 := hs ▸ hp
        clear e hs
        go_enter Try.func33, Try.ntmps33
        go_wp2_with fail
        go_ret
        exact ⟨rfl, rfl⟩
    · have e : downP p d = p.tdiv d - 1 := by unfold downP; rw [if_pos ⟨hr, hs⟩]
      rw [e]
      rw [if_pos ⟨hr, hs⟩] at hb
      by_cases hp : p < 0
      · have hdd : ¬ d < 0 := fun h => hs (by simp [hp, h])
        clear e hs
        go_enter Try.func33, Try.ntmps33
        go_wp2_with fail
        go_ret
        exact ⟨rfl, rfl⟩
      · have hdd : d < 0 := Decidable.byContradiction fun h => hs (by simp [hp, h])
        clear e hs
        go_enter Try.func33, Try.ntmps33
        go_wp2_with fail
        go_ret
        exact ⟨rfl, rfl⟩

set_option maxHeartbeats 1000000 in
theorem Part_any (a n d : Int) (w : World) :
    Calls Try.prog 16 #[.int .i64 a, .int .i64 n, .int .i64 d] w fun e w' => e = .returned (.int .i64 (partH a n d)) ∧ w = w' := by
  by_cases hd : d = 0
  · have e : partH a n d = 0 := if_pos hd
    rw [e]; clear e
    have hd0 : (d == 0) = true := by simp [hd]
    go_enter Try.func16, Try.ntmps16
    go_wp2_with fail
    go_ret
    exact ⟨rfl, rfl⟩
  · have hd0 : (d == 0) = false := by simp [hd]
    have e : partH a n d = hold (downP (hold a * hold n) (hold d)) := by
      unfold partH; rw [if_neg hd, downP_eq _ _ (by rw [Ne, hold_eq_zero]; exact hd)]
    rw [e]
    have hm := mul_bd a n
    have hdb := hold_bd d
    have hab := hold_bd a
    have hnb := hold_bd n
    clear e
    go_enter Try.func16, Try.ntmps16
    go_wp2_with fail
    refine (Hold_any a _).mono ?_; rintro e w' ⟨rfl, rfl⟩
    go_wp2_with fail
    refine (Hold_any n _).mono ?_; rintro e w' ⟨rfl, rfl⟩
    go_wp2_with fail
    refine (Hold_any d _).mono ?_; rintro e w' ⟨rfl, rfl⟩
    go_wp2_with fail
    refine (down_any (hold a * hold n) (hold d) (by rw [Ne, hold_eq_zero]; exact hd) hm.1 hm.2 hdb.1 hdb.2 _).mono ?_; rintro e w' ⟨rfl, rfl⟩
    go_wp2_with fail
    refine (Hold_any _ _).mono ?_; rintro e w' ⟨rfl, rfl⟩
    go_wp2_with fail
    go_ret
    exact ⟨rfl, rfl⟩

def pxH (n : Int) : Int := partH n 64 1000
def percentH (b n : Int) : Int := partH b n 100000

theorem Px_any (n : Int) (w : World) :
    Calls Try.prog 18 #[.int .i64 n] w fun e w' => e = .returned (.int .i64 (partH n 64 1000)) ∧ w = w' := by
  go_enter Try.func18, Try.ntmps18
  go_wp2_with fail
  refine (Part_any n 64 1000 _).mono ?_; rintro e w' ⟨rfl, rfl⟩
  go_wp2_with fail
  go_ret
  exact ⟨rfl, rfl⟩

theorem Percent_any (b n : Int) (w : World) :
    Calls Try.prog 19 #[.int .i64 b, .int .i64 n] w fun e w' => e = .returned (.int .i64 (partH b n 100000)) ∧ w = w' := by
  go_enter Try.func19, Try.ntmps19
  go_wp2_with fail
  refine (Part_any b n 100000 _).mono ?_; rintro e w' ⟨rfl, rfl⟩
  go_wp2_with fail
  go_ret
  exact ⟨rfl, rfl⟩

/-- Between two ends; the lower one counts more. -/
def clampH (x lo hi : Int) : Int := if (if hold hi < hold x then hold hi else hold x) < hold lo then hold lo else (if hold hi < hold x then hold hi else hold x)

theorem clampH_bd (x lo hi : Int) : -1073741824 ≤ clampH x lo hi ∧ clampH x lo hi ≤ 1073741824 := by
  have := hold_bd x; have := hold_bd lo; have := hold_bd hi
  unfold clampH; split <;> split <;> omega

theorem clampH_again (x lo hi : Int) : clampH (clampH x lo hi) lo hi = clampH x lo hi := by
  have hb := clampH_bd x lo hi
  have e : hold (clampH x lo hi) = clampH x lo hi := hold_id hb.1 hb.2
  have key : ∀ y, clampH y lo hi = if (if hold hi < hold y then hold hi else hold y) < hold lo then hold lo else (if hold hi < hold y then hold hi else hold y) := fun _ => rfl
  rw [key (clampH x lo hi), e, key x]
  split <;> split <;> (try split) <;> (try split) <;> (try split) <;> (try split) <;> omega

set_option maxHeartbeats 1000000 in
theorem Clamp_any (x lo hi : Int) (w : World) :
    Calls Try.prog 20 #[.int .i64 x, .int .i64 lo, .int .i64 hi] w fun e w' => e = .returned (.int .i64 (clampH x lo hi)) ∧ w = w' := by
  go_enter Try.func20, Try.ntmps20
  go_wp2_with fail
  refine (Hold_any lo _).mono ?_; rintro e w' ⟨rfl, rfl⟩
  go_wp2_with fail
  refine (Hold_any x _).mono ?_; rintro e w' ⟨rfl, rfl⟩
  go_wp2_with fail
  refine (Hold_any hi _).mono ?_; rintro e w' ⟨rfl, rfl⟩
  go_wp2_with fail
  all_goals
  go_ret
  refine ⟨ret_int ?_, rfl⟩
  unfold clampH
  split <;> split <;> (try split) <;> (try split) <;> first | rfl | omega

set_option maxHeartbeats 1000000 in
theorem RFloor_pos (p d : Int) (hd : 0 < d) (h1 : -1152921504606846976 ≤ p) (h2 : p ≤ 1152921504606846976) (h4 : d ≤ 1073741824) (w : World) :
    Calls Try.prog 34 #[.int .i64 p, .int .i64 d] w fun e w' => e = .returned (.int .i64 (p / d)) ∧ w = w' := by
  have hd0 : (d == 0) = false := by simp; omega
  have hdd : ¬ d < 0 := by omega
  by_cases hp : 0 ≤ p
  · have e : p / d = p.tdiv d := (Int.tdiv_eq_ediv_of_nonneg hp).symm
    rw [e]
    have hb := flr_bd p d 1152921504606846976 h1 h2 (by omega)
    unfold flr at hb
    rw [if_pos hd, e] at hb
    clear e
    go_enter Try.func34, Try.ntmps34
    go_wp2_with fail
    go_ret
    exact ⟨rfl, rfl⟩
  · have e : p / d = -((d - 1 - p).tdiv d) := by rw [Int.tdiv_eq_ediv_of_nonneg (by omega), floor_neg p d hd]
    have hb := flr_bd p d 1152921504606846976 h1 h2 (by omega)
    unfold flr at hb
    rw [if_pos hd, e] at hb
    rw [e]
    clear e
    go_enter Try.func34, Try.ntmps34
    go_wp2_with fail
    go_ret
    exact ⟨rfl, rfl⟩

set_option maxHeartbeats 1000000 in
theorem RFloor_any (p d : Int) (hd : d ≠ 0) (h1 : -1152921504606846976 ≤ p) (h2 : p ≤ 1152921504606846976) (h3 : -1073741824 ≤ d) (h4 : d ≤ 1073741824) (w : World) :
    Calls Try.prog 34 #[.int .i64 p, .int .i64 d] w fun e w' => e = .returned (.int .i64 (flr p d)) ∧ w = w' := by
  by_cases hp : 0 < d
  · unfold flr; rw [if_pos hp]
    exact RFloor_pos p d hp h1 h2 h4 w
  · unfold flr; rw [if_neg hp]
    have hdd : d < 0 := by omega
    rw [Int.ediv_neg]
    go_enter Try.func34, Try.ntmps34
    go_wp2_with fail
    refine (RFloor_pos (-p) (-d) (by omega) (by omega) (by omega) (by omega) _).mono ?_; rintro e w' ⟨rfl, rfl⟩
    go_wp2_with fail
    go_ret
    exact ⟨rfl, rfl⟩

set_option maxHeartbeats 1000000 in
theorem RPart_any (a n d : Int) (w : World) :
    Calls Try.prog 17 #[.int .i64 a, .int .i64 n, .int .i64 d] w fun e w' => e = .returned (.int .i64 (partH a n d)) ∧ w = w' := by
  have hm := mul_bd a n
  have hdb := hold_bd d
  have hab := hold_bd a
  have hnb := hold_bd n
  by_cases hd : d = 0
  · have e : partH a n d = 0 := if_pos hd
    rw [e]; clear e
    subst hd
    have hd0 : hold 0 = 0 := by decide
    go_enter Try.func17, Try.ntmps17
    go_wp2_with fail
    refine (RHold_any 0 _).mono ?_; rintro e w' ⟨rfl, rfl⟩
    go_wp2_with fail
    go_ret
    exact ⟨rfl, rfl⟩
  · have hd0 : (hold d == 0) = false := by simp [hold_eq_zero, hd]
    have e : partH a n d = hold (flr (hold a * hold n) (hold d)) := by
      unfold partH; rw [if_neg hd]
    rw [e]
    clear e
    go_enter Try.func17, Try.ntmps17
    go_wp2_with fail
    refine (RHold_any d _).mono ?_; rintro e w' ⟨rfl, rfl⟩
    go_wp2_with fail
    refine (RHold_any a _).mono ?_; rintro e w' ⟨rfl, rfl⟩
    go_wp2_with fail
    refine (RHold_any n _).mono ?_; rintro e w' ⟨rfl, rfl⟩
    go_wp2_with fail
    refine (RFloor_any (hold a * hold n) (hold d) (by rw [Ne, hold_eq_zero]; exact hd) hm.1 hm.2 hdb.1 hdb.2 _).mono ?_; rintro e w' ⟨rfl, rfl⟩
    go_wp2_with fail
    refine (RHold_any _ _).mono ?_; rintro e w' ⟨rfl, rfl⟩
    go_wp2_with fail
    go_ret
    exact ⟨rfl, rfl⟩

end Go.Proofs.Ytpgnhaoolngkdaa
