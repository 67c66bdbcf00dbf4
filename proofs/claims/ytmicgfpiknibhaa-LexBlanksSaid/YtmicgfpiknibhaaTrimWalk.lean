/- The program's trim: the walk. -/
import Derived.Test.YtmicgfpiknibhaaDigitWalk
import Derived.Test.YtmicgfpiknibhaaTextPlain
namespace Go.Proofs.Ytmicgfpiknibhaa
open Go.RowKit
set_option linter.unusedSimpArgs false
set_option linter.unusedVariables false

/-- Without noughts at the end. -/
def trimS (s : ByteArray) : ByteArray :=
  if h : 0 < s.size then (if (s[s.size - 1]'(by omega)).toNat = 48 then trimS (s.extract 0 (s.size - 1)) else s) else s
termination_by s.size
decreasing_by simp [ByteArray.size_extract]; omega

theorem trimS_on (s : ByteArray) (h : 0 < s.size) (h48 : (s[s.size - 1]'(by omega)).toNat = 48) : trimS s = trimS (s.extract 0 (s.size - 1)) := by rw [trimS, dif_pos h, if_pos h48]
theorem trimS_end (s : ByteArray) (h : 0 < s.size) (h48 : ¬ (s[s.size - 1]'(by omega)).toNat = 48) : trimS s = s := by rw [trimS, dif_pos h, if_neg h48]
theorem trimS_none (s : ByteArray) (h : ¬ 0 < s.size) : trimS s = s := by rw [trimS, dif_neg h]

def strLen : Value → Nat
  | .string s => s.size
  | _ => 0

set_option maxHeartbeats 2000000 in
theorem trim_any (s : ByteArray) (hs0 : s.size ≤ maxLen) (w : World) :
    Calls Try.prog 56 #[.string s] w fun e w' => e = .returned (.string (trimS s)) ∧ w = w' := by
  have hs := hs0
  unfold maxLen at hs
  go_enter Try.func56, Try.ntmps56
  go_wp2_with fail
  go_loop [0] (fun v => ∃ t : ByteArray, v = .string t ∧ t.size ≤ s.size ∧ trimS s = trimS t) (fun v => strLen v)
  case atStart => exact ⟨s, rfl, Nat.le_refl _, rfl⟩
  case round =>
    obtain ⟨t, rfl, ht, hts⟩ := hrel
    have HT := Lib.hid hts
    clear hts
    by_cases h0 : 0 < t.size
    · have hq : ((t.size : Int) - 1) = ((t.size - 1 : Nat) : Int) := by omega
      by_cases h48 : (t[t.size - 1]'(by omega)).toNat = 48
      · have HN := Lib.hid (trimS_on t h0 h48)
        go_wp2_with fail
        refine ⟨⟨_, rfl, ?_, ?_⟩, ?_⟩
        · simp only [ByteArray.size_extract]; omega
        · rw [HT.out, HN.out]
        · simp only [strLen, ByteArray.size_extract]; omega
      · have HN := Lib.hid (trimS_end t h0 h48)
        have h48' : (((t[t.size - 1]'(by omega)).toNat : Int) == 48) = false := beq_eq_false_iff_ne.2 (by omega)
        clear h48
        go_wp2_with fail
        go_ret
        exact ⟨by rw [HT.out, HN.out]; rfl, rfl⟩
    · have HN := Lib.hid (trimS_none t h0)
      go_wp2_with fail
      go_ret
      exact ⟨by rw [HT.out, HN.out]; rfl, rfl⟩

end Go.Proofs.Ytmicgfpiknibhaa
