/- The fixed calls of the statements on numbers (known). -/
import Derived.Test.YtpgnhaoolngkdaaPrintBack
import Derived.Test.YtpgnhaoolngkdaaPrintAny
import Derived.Test.YtpgnhaoolngkdaaFixSub
import Derived.Test.YtpgnhaoolngkdaaPartWalks
namespace Go.Proofs.Ytpgnhaoolngkdaa
open Go.RowKit
set_option linter.unusedSimpArgs false
set_option linter.unusedVariables false

theorem k_parse (w : World) : Calls Try.prog 10 #[.string { data := #[45, 48, 46, 53] }] w fun e w' =>
    e = .returned (.tuple #[.int .i64 (-500), .int .i64 0]) ∧ Below w.heap.size w w' := by
  have h := Parse_any { data := #[45, 48, 46, 53] } (by unfold maxLen; decide) w
  rw [parseP_eq, show rparse ({ data := #[45, 48, 46, 53] } : ByteArray).data.toList = (-500, 0) from by decide +kernel] at h
  exact h
theorem k_part1 (w : World) : Calls Try.prog 16 #[.int .i64 7, .int .i64 1, .int .i64 2] w fun e w' => e = .returned (.int .i64 3) ∧ w = w' := by
  have h := Part_any 7 1 2 w
  rw [show partH 7 1 2 = 3 from by decide +kernel] at h
  exact h
theorem k_part2 (w : World) : Calls Try.prog 16 #[.int .i64 (-7), .int .i64 1, .int .i64 2] w fun e w' => e = .returned (.int .i64 (-4)) ∧ w = w' := by
  have h := Part_any (-7) 1 2 w
  rw [show partH (-7) 1 2 = -4 from by decide +kernel] at h
  exact h
theorem k_px (w : World) : Calls Try.prog 18 #[.int .i64 1500] w fun e w' => e = .returned (.int .i64 96) ∧ w = w' := by
  have h := Px_any 1500 w
  rw [show partH 1500 64 1000 = 96 from by decide +kernel] at h
  exact h
theorem prt_1250 : strOfNums (prtI 1250) = { data := #[49, 46, 50, 53] } := by
  have e : prtI 1250 = [49, 46, 50, 53] := by
    have h1 : hold 1250 = 1250 := by decide
    unfold prtI
    rw [h1, if_neg (by decide)]
    show prt 1250 = _
    unfold prt
    rw [show 1250 / 1000 = 1 from rfl, show 1250 % 1000 = 250 from rfl, be_one (by decide), if_neg (by decide), fr_on (by decide), fr_on (by decide), fr_end (by decide)]
    rfl
  rw [e]; rfl
theorem k_print (w : World) : Calls Try.prog 13 #[.int .i64 1250] w fun e w' => e = .returned (.string { data := #[49, 46, 50, 53] }) ∧ Below w.heap.size w w' := by
  have h := Print_any 1250 w
  rw [prt_1250] at h
  exact h

set_option maxHeartbeats 1000000 in
theorem known_any (w : World) : Calls Try.prog 12 #[] w fun e w' => e = .returned (.bool true) ∧ Below w.heap.size w w' := by
  go_enter Try.func12, Try.ntmps12
  go_wp2_with fail
  refine (k_parse _).mono ?_
  rintro e w1 ⟨rfl, hb1⟩
  have H1 := Lib.hid hb1
  clear hb1
  go_wp2_with fail
  refine (k_part1 _).mono ?_; rintro e w' ⟨rfl, rfl⟩
  go_wp2_with fail
  refine (k_part2 _).mono ?_; rintro e w' ⟨rfl, rfl⟩
  go_wp2_with fail
  refine (k_print _).mono ?_
  rintro e w2 ⟨rfl, hb2⟩
  have H2 := Lib.hid hb2
  clear hb2
  go_wp2_with fail
  refine (k_px _).mono ?_; rintro e w' ⟨rfl, rfl⟩
  go_wp2_with fail
  go_ret
  exact ⟨rfl, below_then H1.out H2.out⟩

end Go.Proofs.Ytpgnhaoolngkdaa
