/- The reference reads a number's text: walks. -/
import Derived.Test.YtmicgfpiknibhaaTextPlain
import Derived.Test.YtmicgfpiknibhaaSmall
import Derived.Lib.Hide
namespace Go.Proofs.Ytmicgfpiknibhaa
open Go.RowKit
set_option linter.unusedSimpArgs false
set_option linter.unusedVariables false

set_option maxHeartbeats 1000000 in
theorem RDigits_any (s : ByteArray) (a : Nat) (ha : a ≤ s.size) (hs : s.size ≤ maxLen) (w : World) :
    Calls Try.prog 64 #[.string s, .int .i64 a] w fun e w' => e = .returned (.int .i64 (dgs (s.data.toList.drop a))) ∧ w = w' := by
  unfold maxLen at hs
  go_enter Try.func64, Try.ntmps64
  go_wp2_with fail
  go_loop [1, 5] (fun i n => ∃ j : Nat, a + j ≤ s.size ∧ i = .int .i64 ((a + j : Nat) : Int) ∧ n = .int .i64 j ∧ j + dgs (s.data.toList.drop (a + j)) = dgs (s.data.toList.drop a)) (fun i _ => s.size - (intOf i).toNat)
  case atStart => exact ⟨0, by omega, by simp, rfl, by simp⟩
  case round =>
    obtain ⟨j, hj, rfl, rfl, hn⟩ := hrel
    by_cases hlt : a + j < s.size
    · have hd := dgs_at s (a + j) hlt
      have h8 : s[a + j].toNat < 256 := s[a + j].toNat_lt
      by_cases h1 : 48 ≤ (s[a + j].toNat : Int)
      · by_cases h2 : (s[a + j].toNat : Int) ≤ 57
        · rw [if_pos ((isD_iff _).2 ⟨by omega, by omega⟩)] at hd
          have HD := Lib.hid hd
          have HN := Lib.hid hn
          clear hd hn
          go_wp2_with fail
          go_round
          case rel => exact ⟨j + 1, by omega, by go_num, by go_num, by have := HD.out; have := HN.out; rw [show a + (j + 1) = a + j + 1 by omega]; omega⟩
          case measure => simp [intOf]; omega
        · rw [if_neg (by rw [isD_iff]; omega)] at hd
          have HD := Lib.hid hd
          have HN := Lib.hid hn
          clear hd hn
          go_wp2_with fail
          go_ret
          exact ⟨ret_int (by have := HD.out; have := HN.out; omega), rfl⟩
      · rw [if_neg (by rw [isD_iff]; omega)] at hd
        have HD := Lib.hid hd
        have HN := Lib.hid hn
        clear hd hn
        go_wp2_with fail
        go_ret
        exact ⟨ret_int (by have := HD.out; have := HN.out; omega), rfl⟩
    · have hd := dgs_end s (a + j) (by omega)
      have HD := Lib.hid hd
      have HN := Lib.hid hn
      clear hd hn
      go_wp2_with fail
      go_ret
      exact ⟨ret_int (by have := HD.out; have := HN.out; omega), rfl⟩

theorem RDigits_at (s : ByteArray) (x : Int) (a : Nat) (hx : x = (a : Int)) (ha : a ≤ s.size) (hs : s.size ≤ maxLen) (w : World) :
    Calls Try.prog 64 #[.string s, .int .i64 x] w fun e w' => e = .returned (.int .i64 (dgs (s.data.toList.drop a))) ∧ w = w' := by
  subst hx; exact RDigits_any s a ha hs w

theorem sgn_at (s : ByteArray) (h : 0 < s.size) : sgn s.data.toList = if s[0].toNat = 43 ∨ s[0].toNat = 45 then 1 else 0 := by
  have := drop_at s 0 h
  rw [List.drop_zero] at this
  rw [this]; rfl
theorem dotted_at (s : ByteArray) (k : Nat) (h : k < s.size) : dotted (s.data.toList.drop k) = decide (s[k].toNat = 46) := by rw [drop_at s k h]; rfl
theorem dotted_end (s : ByteArray) (k : Nat) (h : s.size ≤ k) : dotted (s.data.toList.drop k) = false := by rw [drop_end s k h]; rfl

/-- Behind the sign. -/
def num2 (l : List UInt8) (a : Nat) : Nat :=
  if dotted (l.drop (a + dgs (l.drop a))) = true ∧ 0 < dgs (l.drop (a + dgs (l.drop a) + 1)) then a + dgs (l.drop a) + 1 + dgs (l.drop (a + dgs (l.drop a) + 1))
  else if dgs (l.drop a) = 0 then 0 else a + dgs (l.drop a)

theorem num2_dot {l : List UInt8} {a n m : Nat} (hn : dgs (l.drop a) = n) (hd : dotted (l.drop (a + n)) = true) (hm : dgs (l.drop (a + n + 1)) = m) (h0 : 0 < m) :
    num2 l a = a + n + 1 + m := by unfold num2; rw [hn, hd, hm, if_pos ⟨rfl, h0⟩]
theorem num2_not {l : List UInt8} {a n : Nat} (hn : dgs (l.drop a) = n) (hd : dotted (l.drop (a + n)) = false) :
    num2 l a = if n = 0 then 0 else a + n := by unfold num2; rw [hn, hd, if_neg (by simp)]
theorem num2_bare {l : List UInt8} {a n : Nat} (hn : dgs (l.drop a) = n) (hm : dgs (l.drop (a + n + 1)) = 0) :
    num2 l a = if n = 0 then 0 else a + n := by unfold num2; rw [hn, hm, if_neg (by simp)]
theorem num_num2 (l : List UInt8) : num l = num2 l (sgn l) := rfl

end Go.Proofs.Ytmicgfpiknibhaa
