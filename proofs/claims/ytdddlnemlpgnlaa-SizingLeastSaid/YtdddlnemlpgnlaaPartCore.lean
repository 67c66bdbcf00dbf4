/- Parts of lengths: the program's down and Part. -/
import Derived.Test.YtdddlnemlpgnlaaFloorPlain
import Derived.Test.YtdddlnemlpgnlaaSmall
namespace Go.Proofs.Ytdddlnemlpgnlaa
open Go.RowKit
set_option linter.unusedSimpArgs false
set_option linter.unusedVariables false

set_option maxHeartbeats 1000000 in
theorem down_any (p d : Int) (hd : d ≠ 0) (h1 : -1152921504606846976 ≤ p) (h2 : p ≤ 1152921504606846976) (h3 : -1073741824 ≤ d) (h4 : d ≤ 1073741824) (w : World) :
    Calls Try.prog 72 #[.int .i64 p, .int .i64 d] w fun e w' => e = .returned (.int .i64 (downP p d)) ∧ w = w' := by
  have hd0 : (d == 0) = false := by simp [hd]
  have hb := flr_bd p d 1152921504606846976 h1 h2 hd
  rw [← downP_eq p d hd] at hb
  unfold downP at hb
  by_cases hr : p.tmod d = 0
  · have e : downP p d = p.tdiv d := by unfold downP; rw [if_neg (by simp [hr])]
    rw [e]
    have hr0 : (p.tmod d != 0) = false := by simp [hr]
    rw [if_neg (by simp [hr])] at hb
    clear e
    go_enter Try.func72, Try.ntmps72
    go_wp2_with fail
    go_ret
    exact ⟨rfl, rfl⟩
  · have hr0 : (p.tmod d != 0) = true := by simp [hr]
    have hr1 : ¬ p % d = 0 := by rw [← Int.dvd_iff_emod_eq_zero, Int.dvd_iff_tmod_eq_zero]; exact hr
    have hr2 : ¬ d ∣ p := by rw [Int.dvd_iff_tmod_eq_zero]; exact hr
    have hr3 : (p % d != 0) = true := by simp [hr1]
    by_cases hs : (p < 0) = (d < 0)
    · have e : downP p d = p.tdiv d := by unfold downP; rw [if_neg (by simp [hs])]
      rw [e]
      rw [if_neg (by simp [hs])] at hb
      by_cases hp : p < 0
      · have hdd : d < 0 := hs ▸ hp
        clear e hs
        go_enter Try.func72, Try.ntmps72
        go_wp2_with fail
        go_ret
        exact ⟨rfl, rfl⟩
      · have hdd : ¬ d < 0 := hs ▸ hp
        clear e hs
        go_enter Try.func72, Try.ntmps72
        go_wp2_with fail
        go_ret
        exact ⟨rfl, rfl⟩
    · have e : downP p d = p.tdiv d - 1 := by unfold downP; rw [if_pos ⟨hr, hs⟩]
      rw [e]
      rw [if_pos ⟨hr, hs⟩] at hb
      by_cases hp : p < 0
      · have hdd : ¬ d < 0 := fun h => hs (by simp [hp, h])
        clear e hs
        go_enter Try.func72, Try.ntmps72
        go_wp2_with fail
        go_ret
        exact ⟨rfl, rfl⟩
      · have hdd : d < 0 := Decidable.byContradiction fun h => hs (by simp [hp, h])
        clear e hs
        go_enter Try.func72, Try.ntmps72
        go_wp2_with fail
        go_ret
        exact ⟨rfl, rfl⟩

set_option maxHeartbeats 1000000 in
theorem Part_any (a n d : Int) (w : World) :
    Calls Try.prog 59 #[.int .i64 a, .int .i64 n, .int .i64 d] w fun e w' => e = .returned (.int .i64 (partH a n d)) ∧ w = w' := by
  by_cases hd : d = 0
  · have e : partH a n d = 0 := if_pos hd
    rw [e]; clear e
    have hd0 : (d == 0) = true := by simp [hd]
    go_enter Try.func59, Try.ntmps59
    go_wp2_with fail
    go_ret
    exact ⟨rfl, rfl⟩
  · have hd0 : (d == 0) = false := by simp [hd]
    have e : partH a n d = hold (downP (hold a * hold n) (hold d)) := by
      unfold partH; rw [if_neg hd, downP_eq _ _ (by rw [Ne, hold_eq_zero]; exact hd)]
    rw [e]
    have hm := mul_bd a n
    have hdb := hold_bd d
    have hab := hold_bd a
    have hnb := hold_bd n
    clear e
    go_enter Try.func59, Try.ntmps59
    go_wp2_with fail
    refine (Hold_any a _).mono ?_; rintro e w' ⟨rfl, rfl⟩
    go_wp2_with fail
    refine (Hold_any n _).mono ?_; rintro e w' ⟨rfl, rfl⟩
    go_wp2_with fail
    refine (Hold_any d _).mono ?_; rintro e w' ⟨rfl, rfl⟩
    go_wp2_with fail
    refine (down_any (hold a * hold n) (hold d) (by rw [Ne, hold_eq_zero]; exact hd) hm.1 hm.2 hdb.1 hdb.2 _).mono ?_; rintro e w' ⟨rfl, rfl⟩
    go_wp2_with fail
    refine (Hold_any _ _).mono ?_; rintro e w' ⟨rfl, rfl⟩
    go_wp2_with fail
    go_ret
    exact ⟨rfl, rfl⟩

end Go.Proofs.Ytdddlnemlpgnlaa
