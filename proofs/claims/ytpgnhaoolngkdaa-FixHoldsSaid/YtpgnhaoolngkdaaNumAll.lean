/- The reference's Number, whole. -/
import Derived.Test.YtpgnhaoolngkdaaNumPlus
import Derived.Test.YtpgnhaoolngkdaaNumMinus
import Derived.Test.YtpgnhaoolngkdaaNumBare
namespace Go.Proofs.Ytpgnhaoolngkdaa
open Go.RowKit
set_option linter.unusedSimpArgs false
set_option linter.unusedVariables false

set_option maxHeartbeats 2000000 in
theorem RNumber_none (s : ByteArray) (hs0 : s.size ≤ maxLen) (h0 : s.size = 0) (w : World) :
    Calls Try.prog 28 #[.string s, .int .i64 0] w fun e w' => e = .returned (.int .i64 (num2 s.data.toList 0)) ∧ w = w' := by
  have hn := dgs_end s 0 (by omega)
  have HD : Hid (dotted (s.data.toList.drop (0 + 0)) = false) := Lib.hid (dotted_end s _ (by omega))
  have HN : Hid (num2 s.data.toList 0 = if (0 : Nat) = 0 then 0 else 0 + 0) := Lib.hid (num2_not hn HD.out)
  have HNn := Lib.hid hn
  clear hn
  go_enter Try.func28, Try.ntmps28
  go_wp2_with fail
  refine (RDigits_at s 0 0 rfl (by omega) hs0 _).mono ?_; rintro e w' ⟨rfl, rfl⟩
  rw [HNn.out]
  go_wp2_with fail
  go_ret
  exact ⟨ret_int (by rw [HN.out]; rfl), rfl⟩

theorem RNumber_any (s : ByteArray) (hs0 : s.size ≤ maxLen) (w : World) :
    Calls Try.prog 28 #[.string s, .int .i64 0] w fun e w' => e = .returned (.int .i64 (num s.data.toList)) ∧ w = w' := by
  rw [num_num2]
  by_cases h0 : 0 < s.size
  · rw [sgn_at s h0]
    by_cases hp : s[0].toNat = 43
    · rw [if_pos (Or.inl hp)]; exact RNumber_plus s hs0 h0 hp w
    · by_cases hq : s[0].toNat = 45
      · rw [if_pos (Or.inr hq)]; exact RNumber_minus s hs0 h0 hq w
      · rw [if_neg (by simp [hp, hq])]; exact RNumber_bare s hs0 h0 hp hq w
  · have e : s.data.toList = [] := List.length_eq_zero_iff.1 (by rw [len_data]; omega)
    have := RNumber_none s hs0 (by omega) w
    have e2 : sgn s.data.toList = 0 := by rw [e]; rfl
    rw [e2]; exact this

end Go.Proofs.Ytpgnhaoolngkdaa
