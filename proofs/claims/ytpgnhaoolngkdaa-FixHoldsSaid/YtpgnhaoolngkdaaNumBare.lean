/- The reference's Number: a text that begins without a sign. -/
import Derived.Test.YtpgnhaoolngkdaaTextRef
namespace Go.Proofs.Ytpgnhaoolngkdaa
open Go.RowKit
set_option linter.unusedSimpArgs false
set_option linter.unusedVariables false

set_option maxHeartbeats 8000000 in
theorem RNumber_bare (s : ByteArray) (hs0 : s.size ≤ maxLen) (h0 : 0 < s.size) (hp : ¬ s[0].toNat = 43) (hq : ¬ s[0].toNat = 45) (w : World) :
    Calls Try.prog 28 #[.string s, .int .i64 0] w fun e w' => e = .returned (.int .i64 (num2 s.data.toList 0)) ∧ w = w' := by
  have hs := hs0
  unfold maxLen at hs
  have hp' : ((s[0].toNat : Int) == 43) = false := by simp; omega
  have hq' : ((s[0].toNat : Int) == 45) = false := by simp; omega
  clear hp hq
  go_enter Try.func28, Try.ntmps28
  go_wp2_with fail
  refine (RDigits_at s 0 0 rfl (by omega) hs0 _).mono ?_; rintro e w' ⟨rfl, rfl⟩
  have hin := dgs_drop s 0 (by omega)
  generalize hn : dgs (s.data.toList.drop 0) = n at *
  have HNn := Lib.hid hn
  clear hn
  simp only [Nat.zero_add] at hin; skip
  by_cases hlt : n < s.size
  · by_cases h46 : s[n].toNat = 46
    · have HD : Hid (dotted (s.data.toList.drop (0 + n)) = true) := by apply Lib.hid; rw [Nat.zero_add]; rw [dotted_at s _ hlt]; simp [h46]
      generalize hm : dgs (s.data.toList.drop (n + 1)) = m at *
      have HM : Hid (dgs (s.data.toList.drop (0 + n + 1)) = m) := by apply Lib.hid; rw [Nat.zero_add]; exact hm
      by_cases h0m : 0 < m
      · have HN : Hid (num2 s.data.toList 0 = 0 + n + 1 + m) := Lib.hid (num2_dot HNn.out HD.out HM.out h0m)
        have hin2 := dgs_drop s (n + 1) (by omega)
        rw [hm] at hin2
        have HM' := Lib.hid hm
        clear hm
        go_wp2_with fail
        refine (RDigits_at s _ (n + 1) (by push_cast; omega) (by omega) hs0 _).mono ?_; rintro e w' ⟨rfl, rfl⟩
        rw [HM'.out]
        go_wp2_with fail
        refine (RDigits_at s _ (n + 1) (by push_cast; omega) (by omega) hs0 _).mono ?_; rintro e w' ⟨rfl, rfl⟩
        rw [HM'.out]
        go_wp2_with fail
        go_ret
        exact ⟨ret_int (by rw [HN.out]; omega), rfl⟩
      · have e0 : m = 0 := by omega
        subst e0
        have HN : Hid (num2 s.data.toList 0 = if n = 0 then 0 else 0 + n) := Lib.hid (num2_bare HNn.out HM.out)
        have HM' := Lib.hid hm
        clear hm
        go_wp2_with fail
        refine (RDigits_at s _ (n + 1) (by push_cast; omega) (by omega) hs0 _).mono ?_; rintro e w' ⟨rfl, rfl⟩
        rw [HM'.out]
        go_wp2_with fail
        all_goals
        go_ret
        exact ⟨ret_int (by rw [HN.out]; split <;> first | (simp_all; done) | (push_cast; omega)), rfl⟩
    · have HD : Hid (dotted (s.data.toList.drop (0 + n)) = false) := by apply Lib.hid; rw [Nat.zero_add]; rw [dotted_at s _ hlt]; simp [h46]
      have HN : Hid (num2 s.data.toList 0 = if n = 0 then 0 else 0 + n) := Lib.hid (num2_not HNn.out HD.out)
      go_wp2_with fail
      all_goals
      go_ret
      exact ⟨ret_int (by rw [HN.out]; split <;> first | (simp_all; done) | (push_cast; omega)), rfl⟩
  · have HD : Hid (dotted (s.data.toList.drop (0 + n)) = false) := by apply Lib.hid; rw [Nat.zero_add]; rw [dotted_end s _ (by omega)]
    have HN : Hid (num2 s.data.toList 0 = if n = 0 then 0 else 0 + n) := Lib.hid (num2_not HNn.out HD.out)
    go_wp2_with fail
    all_goals
    go_ret
    exact ⟨ret_int (by rw [HN.out]; split <;> first | (simp_all; done) | (push_cast; omega)), rfl⟩

end Go.Proofs.Ytpgnhaoolngkdaa
