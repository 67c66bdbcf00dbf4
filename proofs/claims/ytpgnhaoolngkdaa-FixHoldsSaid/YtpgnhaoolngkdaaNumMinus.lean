/- The reference's Number: a text that begins with a minus. -/
import Derived.Test.YtpgnhaoolngkdaaTextRef
namespace Go.Proofs.Ytpgnhaoolngkdaa
open Go.RowKit
set_option linter.unusedSimpArgs false
set_option linter.unusedVariables false

set_option maxHeartbeats 8000000 in
theorem RNumber_minus (s : ByteArray) (hs0 : s.size ≤ maxLen) (h0 : 0 < s.size) (hp : s[0].toNat = 45) (w : World) :
    Calls Try.prog 28 #[.string s, .int .i64 0] w fun e w' => e = .returned (.int .i64 (num2 s.data.toList 1)) ∧ w = w' := by
  have hs := hs0
  unfold maxLen at hs
  go_enter Try.func28, Try.ntmps28
  go_wp2_with fail
  refine (RDigits_at s 1 1 rfl (by omega) hs0 _).mono ?_; rintro e w' ⟨rfl, rfl⟩
  have hin := dgs_drop s 1 (by omega)
  generalize hn : dgs (s.data.toList.drop 1) = n at *
  have HNn := Lib.hid hn
  clear hn
  skip
  by_cases hlt : 1 + n < s.size
  · by_cases h46 : s[1 + n].toNat = 46
    · have HD : Hid (dotted (s.data.toList.drop (1 + n)) = true) := by apply Lib.hid; rw [dotted_at s _ hlt]; simp [h46]
      generalize hm : dgs (s.data.toList.drop (1 + n + 1)) = m at *
      have HM : Hid (dgs (s.data.toList.drop (1 + n + 1)) = m) := by apply Lib.hid; exact hm
      by_cases h0m : 0 < m
      · have HN : Hid (num2 s.data.toList 1 = 1 + n + 1 + m) := Lib.hid (num2_dot HNn.out HD.out HM.out h0m)
        have hin2 := dgs_drop s (1 + n + 1) (by omega)
        rw [hm] at hin2
        have HM' := Lib.hid hm
        clear hm
        go_wp2_with fail
        refine (RDigits_at s _ (1 + n + 1) (by push_cast; omega) (by omega) hs0 _).mono ?_; rintro e w' ⟨rfl, rfl⟩
        rw [HM'.out]
        go_wp2_with fail
        refine (RDigits_at s _ (1 + n + 1) (by push_cast; omega) (by omega) hs0 _).mono ?_; rintro e w' ⟨rfl, rfl⟩
        rw [HM'.out]
        go_wp2_with fail
        go_ret
        exact ⟨ret_int (by rw [HN.out]; omega), rfl⟩
      · have e0 : m = 0 := by omega
        subst e0
        have HN : Hid (num2 s.data.toList 1 = if n = 0 then 0 else 1 + n) := Lib.hid (num2_bare HNn.out HM.out)
        have HM' := Lib.hid hm
        clear hm
        go_wp2_with fail
        refine (RDigits_at s _ (1 + n + 1) (by push_cast; omega) (by omega) hs0 _).mono ?_; rintro e w' ⟨rfl, rfl⟩
        rw [HM'.out]
        go_wp2_with fail
        all_goals
        go_ret
        exact ⟨ret_int (by rw [HN.out]; split <;> first | (simp_all; done) | (push_cast; omega)), rfl⟩
    · have HD : Hid (dotted (s.data.toList.drop (1 + n)) = false) := by apply Lib.hid; rw [dotted_at s _ hlt]; simp [h46]
      have HN : Hid (num2 s.data.toList 1 = if n = 0 then 0 else 1 + n) := Lib.hid (num2_not HNn.out HD.out)
      go_wp2_with fail
      all_goals
      go_ret
      exact ⟨ret_int (by rw [HN.out]; split <;> first | (simp_all; done) | (push_cast; omega)), rfl⟩
  · have HD : Hid (dotted (s.data.toList.drop (1 + n)) = false) := by apply Lib.hid; rw [dotted_end s _ (by omega)]
    have HN : Hid (num2 s.data.toList 1 = if n = 0 then 0 else 1 + n) := Lib.hid (num2_not HNn.out HD.out)
    go_wp2_with fail
    all_goals
    go_ret
    exact ⟨ret_int (by rw [HN.out]; split <;> first | (simp_all; done) | (push_cast; omega)), rfl⟩

end Go.Proofs.Ytpgnhaoolngkdaa
