/- Bytes that stand by themselves: walks. -/
import Derived.Test.YtmicgfpiknibhaaLexByte
namespace Go.Proofs.Ytmicgfpiknibhaa
open Go.RowKit
set_option linter.unusedSimpArgs false
set_option linter.unusedVariables false

def signC : List Nat → Nat → Nat → Nat
  | [], _, _ => 0
  | s :: t, k, n => if n = s then k else signC t (k + 1) n
theorem signK_C (n : Nat) : signK n = signC [58, 59, 44, 40, 41, 91, 93, 123, 125] 10 n := rfl

set_option maxHeartbeats 4000000 in
theorem RSign_any (c : UInt8) (w : World) : Calls Try.prog 52 #[.int .u8 (c.toNat : Int)] w fun e w' => e = .returned (.int .i64 (signK c.toNat : Int)) ∧ w = w' := by
  obtain ⟨K, hK⟩ : ∃ K, K = signK c.toNat := ⟨_, rfl⟩
  rw [← hK]
  rw [signK_C] at hK
  generalize c.toNat = n at *
  have HK := Lib.hid hK
  clear hK
  go_enter Try.func52, Try.ntmps52
  go_wp2_with fail
  go_loop [4] (fun v4 => ∃ j : Nat, j ≤ 9 ∧ v4 = .int .i64 j ∧ K = signC (([58, 59, 44, 40, 41, 91, 93, 123, 125] : List Nat).drop j) (10 + j) n) (fun v4 => 9 - (intOf v4).toNat)
  case atStart => exact ⟨0, by omega, rfl, HK.out⟩
  case round =>
    obtain ⟨j, hj, rfl, hk⟩ := hrel
    have HR := Lib.hid hk
    clear hk
    rcases (show j = 0 ∨ j = 1 ∨ j = 2 ∨ j = 3 ∨ j = 4 ∨ j = 5 ∨ j = 6 ∨ j = 7 ∨ j = 8 ∨ j = 9 by omega) with rfl | rfl | rfl | rfl | rfl | rfl | rfl | rfl | rfl | rfl
    · by_cases h : n = 58
      · have e : ((((({ data := #[58, 59, 44, 40, 41, 91, 93, 123, 125] } : ByteArray))[0]'(by decide)).toNat : Int) == (n : Int)) = true := by rw [h]; rfl
        have HV : Hid (K = 10) := Lib.hid (HR.out.trans (if_pos h))
        clear h
        go_wp2_with fail
        go_ret
        exact ⟨ret_int (by rw [HV.out]; rfl), rfl⟩
      · have e : ((((({ data := #[58, 59, 44, 40, 41, 91, 93, 123, 125] } : ByteArray))[0]'(by decide)).toNat : Int) == (n : Int)) = false := beq_false_of_ne (by show ¬ (58 : Int) = n; omega)
        have HV := Lib.hid (HR.out.trans (if_neg h))
        clear h
        go_wp2_with fail
        go_round
        case rel => exact ⟨1, by omega, by go_num, HV.out⟩
        case measure => (simp [intOf]; try omega)
    · by_cases h : n = 59
      · have e : ((((({ data := #[58, 59, 44, 40, 41, 91, 93, 123, 125] } : ByteArray))[1]'(by decide)).toNat : Int) == (n : Int)) = true := by rw [h]; rfl
        have HV : Hid (K = 11) := Lib.hid (HR.out.trans (if_pos h))
        clear h
        go_wp2_with fail
        go_ret
        exact ⟨ret_int (by rw [HV.out]; rfl), rfl⟩
      · have e : ((((({ data := #[58, 59, 44, 40, 41, 91, 93, 123, 125] } : ByteArray))[1]'(by decide)).toNat : Int) == (n : Int)) = false := beq_false_of_ne (by show ¬ (59 : Int) = n; omega)
        have HV := Lib.hid (HR.out.trans (if_neg h))
        clear h
        go_wp2_with fail
        go_round
        case rel => exact ⟨2, by omega, by go_num, HV.out⟩
        case measure => (simp [intOf]; try omega)
    · by_cases h : n = 44
      · have e : ((((({ data := #[58, 59, 44, 40, 41, 91, 93, 123, 125] } : ByteArray))[2]'(by decide)).toNat : Int) == (n : Int)) = true := by rw [h]; rfl
        have HV : Hid (K = 12) := Lib.hid (HR.out.trans (if_pos h))
        clear h
        go_wp2_with fail
        go_ret
        exact ⟨ret_int (by rw [HV.out]; rfl), rfl⟩
      · have e : ((((({ data := #[58, 59, 44, 40, 41, 91, 93, 123, 125] } : ByteArray))[2]'(by decide)).toNat : Int) == (n : Int)) = false := beq_false_of_ne (by show ¬ (44 : Int) = n; omega)
        have HV := Lib.hid (HR.out.trans (if_neg h))
        clear h
        go_wp2_with fail
        go_round
        case rel => exact ⟨3, by omega, by go_num, HV.out⟩
        case measure => (simp [intOf]; try omega)
    · by_cases h : n = 40
      · have e : ((((({ data := #[58, 59, 44, 40, 41, 91, 93, 123, 125] } : ByteArray))[3]'(by decide)).toNat : Int) == (n : Int)) = true := by rw [h]; rfl
        have HV : Hid (K = 13) := Lib.hid (HR.out.trans (if_pos h))
        clear h
        go_wp2_with fail
        go_ret
        exact ⟨ret_int (by rw [HV.out]; rfl), rfl⟩
      · have e : ((((({ data := #[58, 59, 44, 40, 41, 91, 93, 123, 125] } : ByteArray))[3]'(by decide)).toNat : Int) == (n : Int)) = false := beq_false_of_ne (by show ¬ (40 : Int) = n; omega)
        have HV := Lib.hid (HR.out.trans (if_neg h))
        clear h
        go_wp2_with fail
        go_round
        case rel => exact ⟨4, by omega, by go_num, HV.out⟩
        case measure => (simp [intOf]; try omega)
    · by_cases h : n = 41
      · have e : ((((({ data := #[58, 59, 44, 40, 41, 91, 93, 123, 125] } : ByteArray))[4]'(by decide)).toNat : Int) == (n : Int)) = true := by rw [h]; rfl
        have HV : Hid (K = 14) := Lib.hid (HR.out.trans (if_pos h))
        clear h
        go_wp2_with fail
        go_ret
        exact ⟨ret_int (by rw [HV.out]; rfl), rfl⟩
      · have e : ((((({ data := #[58, 59, 44, 40, 41, 91, 93, 123, 125] } : ByteArray))[4]'(by decide)).toNat : Int) == (n : Int)) = false := beq_false_of_ne (by show ¬ (41 : Int) = n; omega)
        have HV := Lib.hid (HR.out.trans (if_neg h))
        clear h
        go_wp2_with fail
        go_round
        case rel => exact ⟨5, by omega, by go_num, HV.out⟩
        case measure => (simp [intOf]; try omega)
    · by_cases h : n = 91
      · have e : ((((({ data := #[58, 59, 44, 40, 41, 91, 93, 123, 125] } : ByteArray))[5]'(by decide)).toNat : Int) == (n : Int)) = true := by rw [h]; rfl
        have HV : Hid (K = 15) := Lib.hid (HR.out.trans (if_pos h))
        clear h
        go_wp2_with fail
        go_ret
        exact ⟨ret_int (by rw [HV.out]; rfl), rfl⟩
      · have e : ((((({ data := #[58, 59, 44, 40, 41, 91, 93, 123, 125] } : ByteArray))[5]'(by decide)).toNat : Int) == (n : Int)) = false := beq_false_of_ne (by show ¬ (91 : Int) = n; omega)
        have HV := Lib.hid (HR.out.trans (if_neg h))
        clear h
        go_wp2_with fail
        go_round
        case rel => exact ⟨6, by omega, by go_num, HV.out⟩
        case measure => (simp [intOf]; try omega)
    · by_cases h : n = 93
      · have e : ((((({ data := #[58, 59, 44, 40, 41, 91, 93, 123, 125] } : ByteArray))[6]'(by decide)).toNat : Int) == (n : Int)) = true := by rw [h]; rfl
        have HV : Hid (K = 16) := Lib.hid (HR.out.trans (if_pos h))
        clear h
        go_wp2_with fail
        go_ret
        exact ⟨ret_int (by rw [HV.out]; rfl), rfl⟩
      · have e : ((((({ data := #[58, 59, 44, 40, 41, 91, 93, 123, 125] } : ByteArray))[6]'(by decide)).toNat : Int) == (n : Int)) = false := beq_false_of_ne (by show ¬ (93 : Int) = n; omega)
        have HV := Lib.hid (HR.out.trans (if_neg h))
        clear h
        go_wp2_with fail
        go_round
        case rel => exact ⟨7, by omega, by go_num, HV.out⟩
        case measure => (simp [intOf]; try omega)
    · by_cases h : n = 123
      · have e : ((((({ data := #[58, 59, 44, 40, 41, 91, 93, 123, 125] } : ByteArray))[7]'(by decide)).toNat : Int) == (n : Int)) = true := by rw [h]; rfl
        have HV : Hid (K = 17) := Lib.hid (HR.out.trans (if_pos h))
        clear h
        go_wp2_with fail
        go_ret
        exact ⟨ret_int (by rw [HV.out]; rfl), rfl⟩
      · have e : ((((({ data := #[58, 59, 44, 40, 41, 91, 93, 123, 125] } : ByteArray))[7]'(by decide)).toNat : Int) == (n : Int)) = false := beq_false_of_ne (by show ¬ (123 : Int) = n; omega)
        have HV := Lib.hid (HR.out.trans (if_neg h))
        clear h
        go_wp2_with fail
        go_round
        case rel => exact ⟨8, by omega, by go_num, HV.out⟩
        case measure => (simp [intOf]; try omega)
    · by_cases h : n = 125
      · have e : ((((({ data := #[58, 59, 44, 40, 41, 91, 93, 123, 125] } : ByteArray))[8]'(by decide)).toNat : Int) == (n : Int)) = true := by rw [h]; rfl
        have HV : Hid (K = 18) := Lib.hid (HR.out.trans (if_pos h))
        clear h
        go_wp2_with fail
        go_ret
        exact ⟨ret_int (by rw [HV.out]; rfl), rfl⟩
      · have e : ((((({ data := #[58, 59, 44, 40, 41, 91, 93, 123, 125] } : ByteArray))[8]'(by decide)).toNat : Int) == (n : Int)) = false := beq_false_of_ne (by show ¬ (125 : Int) = n; omega)
        have HV := Lib.hid (HR.out.trans (if_neg h))
        clear h
        go_wp2_with fail
        go_round
        case rel => exact ⟨9, by omega, by go_num, HV.out⟩
        case measure => (simp [intOf]; try omega)
    · have HV : Hid (K = 0) := Lib.hid HR.out
      go_wp2_with fail
      go_ret
      exact ⟨ret_int (by rw [HV.out]; rfl), rfl⟩

set_option maxHeartbeats 4000000 in
theorem sign_any (c : UInt8) (w : World) : Calls Try.prog 33 #[.int .u8 (c.toNat : Int)] w fun e w' => e = .returned (.int .i64 ((if signK c.toNat = 0 then 19 else signK c.toNat : Nat) : Int)) ∧ w = w' := by
  obtain ⟨K, hK⟩ : ∃ K, K = (if signK c.toNat = 0 then 19 else signK c.toNat) := ⟨_, rfl⟩
  rw [← hK]
  unfold signK at hK
  generalize c.toNat = n at *
  have HK := Lib.hid hK
  clear hK
  by_cases h0 : n = 58
  · have e0 : ((n : Int) == 58) = true := by rw [h0]; rfl
    have HV : Hid (K = 10) := Lib.hid (by rw [HK.out]; simp [*])
    clear h0
    go_enter Try.func33, Try.ntmps33
    go_wp2_with fail
    go_ret
    exact ⟨ret_int (by rw [HV.out]; rfl), rfl⟩
  have e0 : ((n : Int) == 58) = false := beq_false_of_ne (by omega)
  by_cases h1 : n = 59
  · have e1 : ((n : Int) == 59) = true := by rw [h1]; rfl
    have HV : Hid (K = 11) := Lib.hid (by rw [HK.out]; simp [*])
    clear h0 h1
    go_enter Try.func33, Try.ntmps33
    go_wp2_with fail
    go_ret
    exact ⟨ret_int (by rw [HV.out]; rfl), rfl⟩
  have e1 : ((n : Int) == 59) = false := beq_false_of_ne (by omega)
  by_cases h2 : n = 44
  · have e2 : ((n : Int) == 44) = true := by rw [h2]; rfl
    have HV : Hid (K = 12) := Lib.hid (by rw [HK.out]; simp [*])
    clear h0 h1 h2
    go_enter Try.func33, Try.ntmps33
    go_wp2_with fail
    go_ret
    exact ⟨ret_int (by rw [HV.out]; rfl), rfl⟩
  have e2 : ((n : Int) == 44) = false := beq_false_of_ne (by omega)
  by_cases h3 : n = 40
  · have e3 : ((n : Int) == 40) = true := by rw [h3]; rfl
    have HV : Hid (K = 13) := Lib.hid (by rw [HK.out]; simp [*])
    clear h0 h1 h2 h3
    go_enter Try.func33, Try.ntmps33
    go_wp2_with fail
    go_ret
    exact ⟨ret_int (by rw [HV.out]; rfl), rfl⟩
  have e3 : ((n : Int) == 40) = false := beq_false_of_ne (by omega)
  by_cases h4 : n = 41
  · have e4 : ((n : Int) == 41) = true := by rw [h4]; rfl
    have HV : Hid (K = 14) := Lib.hid (by rw [HK.out]; simp [*])
    clear h0 h1 h2 h3 h4
    go_enter Try.func33, Try.ntmps33
    go_wp2_with fail
    go_ret
    exact ⟨ret_int (by rw [HV.out]; rfl), rfl⟩
  have e4 : ((n : Int) == 41) = false := beq_false_of_ne (by omega)
  by_cases h5 : n = 91
  · have e5 : ((n : Int) == 91) = true := by rw [h5]; rfl
    have HV : Hid (K = 15) := Lib.hid (by rw [HK.out]; simp [*])
    clear h0 h1 h2 h3 h4 h5
    go_enter Try.func33, Try.ntmps33
    go_wp2_with fail
    go_ret
    exact ⟨ret_int (by rw [HV.out]; rfl), rfl⟩
  have e5 : ((n : Int) == 91) = false := beq_false_of_ne (by omega)
  by_cases h6 : n = 93
  · have e6 : ((n : Int) == 93) = true := by rw [h6]; rfl
    have HV : Hid (K = 16) := Lib.hid (by rw [HK.out]; simp [*])
    clear h0 h1 h2 h3 h4 h5 h6
    go_enter Try.func33, Try.ntmps33
    go_wp2_with fail
    go_ret
    exact ⟨ret_int (by rw [HV.out]; rfl), rfl⟩
  have e6 : ((n : Int) == 93) = false := beq_false_of_ne (by omega)
  by_cases h7 : n = 123
  · have e7 : ((n : Int) == 123) = true := by rw [h7]; rfl
    have HV : Hid (K = 17) := Lib.hid (by rw [HK.out]; simp [*])
    clear h0 h1 h2 h3 h4 h5 h6 h7
    go_enter Try.func33, Try.ntmps33
    go_wp2_with fail
    go_ret
    exact ⟨ret_int (by rw [HV.out]; rfl), rfl⟩
  have e7 : ((n : Int) == 123) = false := beq_false_of_ne (by omega)
  by_cases h8 : n = 125
  · have e8 : ((n : Int) == 125) = true := by rw [h8]; rfl
    have HV : Hid (K = 18) := Lib.hid (by rw [HK.out]; simp [*])
    clear h0 h1 h2 h3 h4 h5 h6 h7 h8
    go_enter Try.func33, Try.ntmps33
    go_wp2_with fail
    go_ret
    exact ⟨ret_int (by rw [HV.out]; rfl), rfl⟩
  have e8 : ((n : Int) == 125) = false := beq_false_of_ne (by omega)
  have HV : Hid (K = 19) := Lib.hid (by rw [HK.out]; simp [*])
  clear h0 h1 h2 h3 h4 h5 h6 h7 h8
  go_enter Try.func33, Try.ntmps33
  go_wp2_with fail
  go_ret
  exact ⟨ret_int (by rw [HV.out]; rfl), rfl⟩

end Go.Proofs.Ytmicgfpiknibhaa
