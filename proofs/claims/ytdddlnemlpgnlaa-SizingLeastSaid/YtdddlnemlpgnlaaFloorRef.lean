/- The reference's Floor. -/
import Derived.Test.YtdddlnemlpgnlaaFloorPlain
import Derived.Test.YtdddlnemlpgnlaaSmall
namespace Go.Proofs.Ytdddlnemlpgnlaa
open Go.RowKit
set_option linter.unusedSimpArgs false
set_option linter.unusedVariables false

set_option maxHeartbeats 1000000 in
theorem RFloor_pos (p d : Int) (hd : 0 < d) (h1 : -1152921504606846976 ≤ p) (h2 : p ≤ 1152921504606846976) (h4 : d ≤ 1073741824) (w : World) :
    Calls Try.prog 52 #[.int .i64 p, .int .i64 d] w fun e w' => e = .returned (.int .i64 (p / d)) ∧ w = w' := by
  have hd0 : (d == 0) = false := by simp; omega
  have hdd : ¬ d < 0 := by omega
  by_cases hp : 0 ≤ p
  · have e : p / d = p.tdiv d := (Int.tdiv_eq_ediv_of_nonneg hp).symm
    rw [e]
    have hb := flr_bd p d 1152921504606846976 h1 h2 (by omega)
    unfold flr at hb
    rw [if_pos hd, e] at hb
    clear e
    go_enter Try.func52, Try.ntmps52
    go_wp2_with fail
    go_ret
    exact ⟨rfl, rfl⟩
  · have e : p / d = -((d - 1 - p).tdiv d) := by rw [Int.tdiv_eq_ediv_of_nonneg (by omega), floor_neg p d hd]
    have hb := flr_bd p d 1152921504606846976 h1 h2 (by omega)
    unfold flr at hb
    rw [if_pos hd, e] at hb
    rw [e]
    clear e
    go_enter Try.func52, Try.ntmps52
    go_wp2_with fail
    go_ret
    exact ⟨rfl, rfl⟩

set_option maxHeartbeats 1000000 in
theorem RFloor_any (p d : Int) (hd : d ≠ 0) (h1 : -1152921504606846976 ≤ p) (h2 : p ≤ 1152921504606846976) (h3 : -1073741824 ≤ d) (h4 : d ≤ 1073741824) (w : World) :
    Calls Try.prog 52 #[.int .i64 p, .int .i64 d] w fun e w' => e = .returned (.int .i64 (flr p d)) ∧ w = w' := by
  by_cases hp : 0 < d
  · unfold flr; rw [if_pos hp]
    exact RFloor_pos p d hp h1 h2 h4 w
  · unfold flr; rw [if_neg hp]
    have hdd : d < 0 := by omega
    rw [Int.ediv_neg]
    go_enter Try.func52, Try.ntmps52
    go_wp2_with fail
    refine (RFloor_pos (-p) (-d) (by omega) (by omega) (by omega) (by omega) _).mono ?_; rintro e w' ⟨rfl, rfl⟩
    go_wp2_with fail
    go_ret
    exact ⟨rfl, rfl⟩

end Go.Proofs.Ytdddlnemlpgnlaa
