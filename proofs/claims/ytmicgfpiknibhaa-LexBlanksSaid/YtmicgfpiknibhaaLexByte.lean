/- What bytes are to a text's tokens: walks. -/
import Derived.Test.YtmicgfpiknibhaaLexPlain
import Derived.Test.YtmicgfpiknibhaaSmall
import Derived.Lib.Hide
namespace Go.Proofs.Ytmicgfpiknibhaa
open Go.RowKit
set_option linter.unusedSimpArgs false
set_option linter.unusedVariables false

theorem byte_eq (c : UInt8) (n : Nat) : ((c.toNat : Int) == (n : Int)) = decide (c.toNat = n) := by rw [Bool.eq_iff_iff]; simp; omega
theorem byte_ge (c : UInt8) (n : Nat) : decide ((n : Int) ≤ (c.toNat : Int)) = decide (n ≤ c.toNat) := by rw [Bool.eq_iff_iff]; simp
theorem byte_le (c : UInt8) (n : Nat) : decide ((c.toNat : Int) ≤ (n : Int)) = decide (c.toNat ≤ n) := by rw [Bool.eq_iff_iff]; simp
theorem isB_int (c : UInt8) : isB c = ((decide (97 ≤ (c.toNat : Int)) && decide ((c.toNat : Int) ≤ 122)) || (decide (65 ≤ (c.toNat : Int)) && decide ((c.toNat : Int) ≤ 90)) || ((c.toNat : Int) == 95) || decide (128 ≤ (c.toNat : Int))) := by
  have e := byte_eq c 95
  have g1 := byte_ge c 97
  have g2 := byte_ge c 65
  have g3 := byte_ge c 128
  have l1 := byte_le c 122
  have l2 := byte_le c 90
  unfold isB
  rw [← e, ← g1, ← g2, ← g3, ← l1, ← l2]
  rfl
theorem isD_int (c : UInt8) : isD c = (decide (48 ≤ (c.toNat : Int)) && decide ((c.toNat : Int) ≤ 57)) := by
  have g1 := byte_ge c 48
  have l1 := byte_le c 57
  unfold isD
  rw [← g1, ← l1]
  rfl
theorem isG_int (c : UInt8) : isG c = (isB c || isD c || ((c.toNat : Int) == 45)) := by
  have e := byte_eq c 45
  unfold isG
  rw [← e]
  rfl
theorem isS_int (c : UInt8) : isS c = (((c.toNat : Int) == 32) || ((c.toNat : Int) == 9) || ((c.toNat : Int) == 10) || ((c.toNat : Int) == 12) || ((c.toNat : Int) == 13)) := by
  have e1 := byte_eq c 32
  have e2 := byte_eq c 9
  have e3 := byte_eq c 10
  have e4 := byte_eq c 12
  have e5 := byte_eq c 13
  unfold isS
  rw [← e1, ← e2, ← e3, ← e4, ← e5]
  rfl

theorem begins_any (c : UInt8) (w : World) : Calls Try.prog 58 #[.int .u8 (c.toNat : Int)] w fun e w' => e = .returned (.bool (isB c)) ∧ w = w' := by
  have hE := isB_int c
  have HE := Lib.hid hE
  clear hE
  generalize (c.toNat : Int) = x at *
  cases h0 : decide (97 ≤ x)
  all_goals cases h1 : decide (x ≤ 122)
  all_goals cases h2 : decide (65 ≤ x)
  all_goals cases h3 : decide (x ≤ 90)
  all_goals cases h4 : (x == 95)
  all_goals cases h5 : decide (128 ≤ x)
  all_goals
    rw [h0, h1, h2, h3, h4, h5] at HE
    go_enter Try.func58, Try.ntmps58
    go_wp2_with (first | fail)
    go_ret
    exact ⟨ret_bool (by rw [HE.out]; rfl), rfl⟩

theorem digit_any (c : UInt8) (w : World) : Calls Try.prog 57 #[.int .u8 (c.toNat : Int)] w fun e w' => e = .returned (.bool (isD c)) ∧ w = w' := by
  have hE := isD_int c
  have HE := Lib.hid hE
  clear hE
  generalize (c.toNat : Int) = x at *
  cases h0 : decide (48 ≤ x)
  all_goals cases h1 : decide (x ≤ 57)
  all_goals
    rw [h0, h1] at HE
    go_enter Try.func57, Try.ntmps57
    go_wp2_with (first | fail)
    go_ret
    exact ⟨ret_bool (by rw [HE.out]; rfl), rfl⟩

theorem goes_any (c : UInt8) (w : World) : Calls Try.prog 31 #[.int .u8 (c.toNat : Int)] w fun e w' => e = .returned (.bool (isG c)) ∧ w = w' := by
  have hE := isG_int c
  have hc0 := begins_any c
  generalize isB c = b0 at *
  have hc1 := digit_any c
  generalize isD c = b1 at *
  have HE := Lib.hid hE
  clear hE
  generalize (c.toNat : Int) = x at *
  cases b0
  all_goals cases b1
  all_goals cases h0 : (x == 45)
  all_goals
    rw [h0] at HE
    go_enter Try.func31, Try.ntmps31
    go_wp2_with (first | (go_at_call 58; refine (hc0 _).mono ?_; rintro e w' ⟨rfl, rfl⟩) | (go_at_call 57; refine (hc1 _).mono ?_; rintro e w' ⟨rfl, rfl⟩))
    go_ret
    exact ⟨ret_bool (by rw [HE.out]; rfl), rfl⟩

theorem blank_any (c : UInt8) (w : World) : Calls Try.prog 29 #[.int .u8 (c.toNat : Int)] w fun e w' => e = .returned (.bool (isS c)) ∧ w = w' := by
  have hE := isS_int c
  have HE := Lib.hid hE
  clear hE
  generalize (c.toNat : Int) = x at *
  cases h0 : (x == 32)
  all_goals cases h1 : (x == 9)
  all_goals cases h2 : (x == 10)
  all_goals cases h3 : (x == 12)
  all_goals cases h4 : (x == 13)
  all_goals
    rw [h0, h1, h2, h3, h4] at HE
    go_enter Try.func29, Try.ntmps29
    go_wp2_with (first | fail)
    go_ret
    exact ⟨ret_bool (by rw [HE.out]; rfl), rfl⟩

theorem RBegins_any (c : UInt8) (w : World) : Calls Try.prog 67 #[.int .u8 (c.toNat : Int)] w fun e w' => e = .returned (.bool (isB c)) ∧ w = w' := by
  have hE := isB_int c
  have HE := Lib.hid hE
  clear hE
  generalize (c.toNat : Int) = x at *
  cases h0 : decide (97 ≤ x)
  all_goals cases h1 : decide (x ≤ 122)
  all_goals cases h2 : decide (65 ≤ x)
  all_goals cases h3 : decide (x ≤ 90)
  all_goals cases h4 : (x == 95)
  all_goals cases h5 : decide (128 ≤ x)
  all_goals
    rw [h0, h1, h2, h3, h4, h5] at HE
    go_enter Try.func67, Try.ntmps67
    go_wp2_with (first | fail)
    go_ret
    exact ⟨ret_bool (by rw [HE.out]; rfl), rfl⟩

theorem isG_int2 (c : UInt8) : isG c = (isB c || (decide (48 ≤ (c.toNat : Int)) && decide ((c.toNat : Int) ≤ 57)) || ((c.toNat : Int) == 45)) := by rw [isG_int, isD_int]
theorem RGoes_any (c : UInt8) (w : World) : Calls Try.prog 66 #[.int .u8 (c.toNat : Int)] w fun e w' => e = .returned (.bool (isG c)) ∧ w = w' := by
  have hE := isG_int2 c
  have hc0 := RBegins_any c
  generalize isB c = b0 at *
  have HE := Lib.hid hE
  clear hE
  generalize (c.toNat : Int) = x at *
  cases b0
  all_goals cases h0 : decide (48 ≤ x)
  all_goals cases h1 : decide (x ≤ 57)
  all_goals cases h2 : (x == 45)
  all_goals
    rw [h0, h1, h2] at HE
    go_enter Try.func66, Try.ntmps66
    go_wp2_with (first | (go_at_call 67; refine (hc0 _).mono ?_; rintro e w' ⟨rfl, rfl⟩))
    go_ret
    exact ⟨ret_bool (by rw [HE.out]; rfl), rfl⟩

theorem RBlank_any (c : UInt8) (w : World) : Calls Try.prog 45 #[.int .u8 (c.toNat : Int)] w fun e w' => e = .returned (.bool (isS c)) ∧ w = w' := by
  have hE := isS_int c
  have HE := Lib.hid hE
  clear hE
  generalize (c.toNat : Int) = x at *
  cases h0 : (x == 32)
  all_goals cases h1 : (x == 9)
  all_goals cases h2 : (x == 10)
  all_goals cases h3 : (x == 12)
  all_goals cases h4 : (x == 13)
  all_goals
    rw [h0, h1, h2, h3, h4] at HE
    go_enter Try.func45, Try.ntmps45
    go_wp2_with (first | fail)
    go_ret
    exact ⟨ret_bool (by rw [HE.out]; rfl), rfl⟩

end Go.Proofs.Ytmicgfpiknibhaa
