/- The seven statements on numbers: walks. -/
import Derived.Test.YtpgnhaoolngkdaaFixKnown
import Derived.Test.YtpgnhaoolngkdaaFixAdd
namespace Go.Proofs.Ytpgnhaoolngkdaa
open Go.RowKit
set_option linter.unusedSimpArgs false
set_option linter.unusedVariables false

theorem Add_raw (a b : Int) (w : World) : Calls Try.prog 22 #[.int .i64 a, .int .i64 b] w fun e w' => e = .returned (.int .i64 (hold (hold a + hold b))) ∧ w = w' := Add_any a b w
theorem Sub_raw (a b : Int) (w : World) : Calls Try.prog 23 #[.int .i64 a, .int .i64 b] w fun e w' => e = .returned (.int .i64 (hold (hold a - hold b))) ∧ w = w' := Sub_any a b w

set_option maxHeartbeats 1000000 in
theorem FixHolds_walk (a b : Int) (w : World) : Calls Try.prog 9 #[.int .i64 a, .int .i64 b] w fun e w' => e = .returned (.bool true) ∧ Below w.heap.size w w' := by
  have h1 := hold_bd a
  have h2 := hold_bd b
  go_enter Try.func9, Try.ntmps9
  go_wp2_with fail
  refine (RHold_any _ _).mono ?_; rintro e w' ⟨rfl, rfl⟩
  go_wp2_with fail
  refine (RHold_any _ _).mono ?_; rintro e w' ⟨rfl, rfl⟩
  go_wp2_with fail
  refine (Hold_any _ _).mono ?_; rintro e w' ⟨rfl, rfl⟩
  go_wp2_with fail
  refine (Add_raw _ _ _).mono ?_; rintro e w' ⟨rfl, rfl⟩
  go_wp2_with fail
  refine (RHold_any _ _).mono ?_; rintro e w' ⟨rfl, rfl⟩
  go_wp2_with fail
  refine (Sub_raw _ _ _).mono ?_; rintro e w' ⟨rfl, rfl⟩
  go_wp2_with fail
  refine (RHold_any _ _).mono ?_; rintro e w' ⟨rfl, rfl⟩
  go_wp2_with fail
  refine (Add_raw _ _ _).mono ?_; rintro e w' ⟨rfl, rfl⟩
  go_wp2_with fail
  refine (Hold_any _ _).mono ?_; rintro e w' ⟨rfl, rfl⟩
  rw [hold_hold]
  go_wp2_with fail
  refine (Add_raw _ _ _).mono ?_; rintro e w' ⟨rfl, rfl⟩
  go_wp2_with fail
  refine (known_any _).mono ?_
  rintro e w1 ⟨rfl, hb1⟩
  have H1 := Lib.hid hb1
  clear hb1
  go_wp2_with fail
  go_ret
  exact ⟨rfl, H1.out⟩

set_option maxHeartbeats 1000000 in
theorem FixParts_walk (a n d : Int) (w : World) : Calls Try.prog 6 #[.int .i64 a, .int .i64 n, .int .i64 d] w fun e w' => e = .returned (.bool true) ∧ Below w.heap.size w w' := by
  go_enter Try.func6, Try.ntmps6
  go_wp2_with fail
  refine (Part_any _ _ _ _).mono ?_; rintro e w' ⟨rfl, rfl⟩
  go_wp2_with fail
  refine (RPart_any _ _ _ _).mono ?_; rintro e w' ⟨rfl, rfl⟩
  go_wp2_with fail
  refine (Px_any _ _).mono ?_; rintro e w' ⟨rfl, rfl⟩
  go_wp2_with fail
  refine (RPart_any _ _ _ _).mono ?_; rintro e w' ⟨rfl, rfl⟩
  go_wp2_with fail
  refine (Percent_any _ _ _).mono ?_; rintro e w' ⟨rfl, rfl⟩
  go_wp2_with fail
  refine (RPart_any _ _ _ _).mono ?_; rintro e w' ⟨rfl, rfl⟩
  go_wp2_with fail
  refine (known_any _).mono ?_
  rintro e w1 ⟨rfl, hb1⟩
  have H1 := Lib.hid hb1
  clear hb1
  go_wp2_with fail
  go_ret
  exact ⟨rfl, H1.out⟩

theorem Clamp_at (x lo hi v : Int) (h : clampH x lo hi = v) (w : World) : Calls Try.prog 20 #[.int .i64 x, .int .i64 lo, .int .i64 hi] w fun e w' => e = .returned (.int .i64 v) ∧ w = w' := by
  subst h; exact Clamp_any x lo hi w

set_option maxHeartbeats 2000000 in
theorem FixClamps_walk (x lo hi : Int) (w : World) : Calls Try.prog 7 #[.int .i64 x, .int .i64 lo, .int .i64 hi] w fun e w' => e = .returned (.bool true) ∧ Below w.heap.size w w' := by
  have hk := clampH_again x lo hi
  by_cases h1 : hold hi < hold x
  · by_cases h2 : hold hi < hold lo
    · have e : clampH x lo hi = hold lo := by unfold clampH; rw [if_pos h1, if_pos h2]
      rw [e] at hk
      have HE := Lib.hid e
      have HK := Lib.hid hk
      clear e hk
      go_enter Try.func7, Try.ntmps7
      go_wp2_with fail
      refine (Clamp_at _ _ _ _ HE.out _).mono ?_; rintro e w' ⟨rfl, rfl⟩
      go_wp2_with fail
      refine (RHold_any _ _).mono ?_; rintro e w' ⟨rfl, rfl⟩
      go_wp2_with fail
      refine (RHold_any _ _).mono ?_; rintro e w' ⟨rfl, rfl⟩
      go_wp2_with fail
      refine (RHold_any _ _).mono ?_; rintro e w' ⟨rfl, rfl⟩
      go_wp2_with fail
      refine (Clamp_at _ _ _ _ HK.out _).mono ?_; rintro e w' ⟨rfl, rfl⟩
      go_wp2_with fail
      refine (known_any _).mono ?_
      rintro e w1 ⟨rfl, hb1⟩
      have H1 := Lib.hid hb1
      clear hb1
      go_wp2_with fail
      go_ret
      exact ⟨rfl, H1.out⟩
    · have e : clampH x lo hi = hold hi := by unfold clampH; rw [if_pos h1, if_neg h2]
      rw [e] at hk
      have HE := Lib.hid e
      have HK := Lib.hid hk
      clear e hk
      go_enter Try.func7, Try.ntmps7
      go_wp2_with fail
      refine (Clamp_at _ _ _ _ HE.out _).mono ?_; rintro e w' ⟨rfl, rfl⟩
      go_wp2_with fail
      refine (RHold_any _ _).mono ?_; rintro e w' ⟨rfl, rfl⟩
      go_wp2_with fail
      refine (RHold_any _ _).mono ?_; rintro e w' ⟨rfl, rfl⟩
      go_wp2_with fail
      refine (RHold_any _ _).mono ?_; rintro e w' ⟨rfl, rfl⟩
      go_wp2_with fail
      refine (Clamp_at _ _ _ _ HK.out _).mono ?_; rintro e w' ⟨rfl, rfl⟩
      go_wp2_with fail
      refine (known_any _).mono ?_
      rintro e w1 ⟨rfl, hb1⟩
      have H1 := Lib.hid hb1
      clear hb1
      go_wp2_with fail
      go_ret
      exact ⟨rfl, H1.out⟩
  · by_cases h2 : hold x < hold lo
    · have e : clampH x lo hi = hold lo := by unfold clampH; rw [if_neg h1, if_pos h2]
      rw [e] at hk
      have HE := Lib.hid e
      have HK := Lib.hid hk
      clear e hk
      go_enter Try.func7, Try.ntmps7
      go_wp2_with fail
      refine (Clamp_at _ _ _ _ HE.out _).mono ?_; rintro e w' ⟨rfl, rfl⟩
      go_wp2_with fail
      refine (RHold_any _ _).mono ?_; rintro e w' ⟨rfl, rfl⟩
      go_wp2_with fail
      refine (RHold_any _ _).mono ?_; rintro e w' ⟨rfl, rfl⟩
      go_wp2_with fail
      refine (RHold_any _ _).mono ?_; rintro e w' ⟨rfl, rfl⟩
      go_wp2_with fail
      refine (Clamp_at _ _ _ _ HK.out _).mono ?_; rintro e w' ⟨rfl, rfl⟩
      go_wp2_with fail
      refine (known_any _).mono ?_
      rintro e w1 ⟨rfl, hb1⟩
      have H1 := Lib.hid hb1
      clear hb1
      go_wp2_with fail
      go_ret
      exact ⟨rfl, H1.out⟩
    · have e : clampH x lo hi = hold x := by unfold clampH; rw [if_neg h1, if_neg h2]
      rw [e] at hk
      have HE := Lib.hid e
      have HK := Lib.hid hk
      clear e hk
      go_enter Try.func7, Try.ntmps7
      go_wp2_with fail
      refine (Clamp_at _ _ _ _ HE.out _).mono ?_; rintro e w' ⟨rfl, rfl⟩
      go_wp2_with fail
      refine (RHold_any _ _).mono ?_; rintro e w' ⟨rfl, rfl⟩
      go_wp2_with fail
      refine (RHold_any _ _).mono ?_; rintro e w' ⟨rfl, rfl⟩
      go_wp2_with fail
      refine (RHold_any _ _).mono ?_; rintro e w' ⟨rfl, rfl⟩
      go_wp2_with fail
      refine (Clamp_at _ _ _ _ HK.out _).mono ?_; rintro e w' ⟨rfl, rfl⟩
      go_wp2_with fail
      refine (known_any _).mono ?_
      rintro e w1 ⟨rfl, hb1⟩
      have H1 := Lib.hid hb1
      clear hb1
      go_wp2_with fail
      go_ret
      exact ⟨rfl, H1.out⟩

theorem Parse_r (s : ByteArray) (hs : s.size ≤ maxLen) (v x : Int) (h : rparse s.data.toList = (v, x)) (w : World) :
    Calls Try.prog 10 #[.string s] w fun e w' => e = .returned (.tuple #[.int .i64 v, .int .i64 x]) ∧ Below w.heap.size w w' := by
  have g := Parse_any s hs w
  rw [parseP_eq, h] at g
  exact g
theorem RParse_r (s : ByteArray) (hs : s.size ≤ maxLen) (v x : Int) (h : rparse s.data.toList = (v, x)) (w : World) :
    Calls Try.prog 11 #[.string s] w fun e w' => e = .returned (.tuple #[.int .i64 v, .int .i64 x]) ∧ w = w' := by
  have g := RParse_any s hs w
  rw [h] at g
  exact g

set_option maxHeartbeats 1000000 in
theorem FixReads_walk (s : ByteArray) (hs : s.size ≤ maxLen) (w : World) : Calls Try.prog 3 #[.string s] w fun e w' => e = .returned (.bool true) ∧ Below w.heap.size w w' := by
  have hr : rparse s.data.toList = ((rparse s.data.toList).1, (rparse s.data.toList).2) := rfl
  generalize (rparse s.data.toList).1 = v at hr
  generalize (rparse s.data.toList).2 = x at hr
  have HR := Lib.hid hr
  clear hr
  go_enter Try.func3, Try.ntmps3
  go_wp2_with fail
  refine (Parse_r s hs _ _ HR.out _).mono ?_
  rintro e w1 ⟨rfl, hb1⟩
  have H1 := Lib.hid hb1
  clear hb1
  go_wp2_with fail
  refine (RParse_r s hs _ _ HR.out _).mono ?_; rintro e w' ⟨rfl, rfl⟩
  go_wp2_with fail
  refine (known_any _).mono ?_
  rintro e w2 ⟨rfl, hb2⟩
  have H2 := Lib.hid hb2
  clear hb2
  go_wp2_with fail
  go_ret
  exact ⟨rfl, below_then H1.out H2.out⟩

theorem prtI_size (n : Int) : (strOfNums (prtI n)).size ≤ maxLen := by
  have hb := hold_bd n
  rw [strOfNums_size]
  unfold prtI maxLen
  split
  · have := prt_len (-(hold n)).toNat (by omega)
    rw [List.length_cons]; omega
  · have := prt_len (hold n).toNat (by omega)
    omega

set_option maxHeartbeats 1000000 in
theorem FixBack_walk (n : Int) (w : World) : Calls Try.prog 4 #[.int .i64 n] w fun e w' => e = .returned (.bool true) ∧ Below w.heap.size w w' := by
  have HP := Lib.hid (Print_any n)
  have HR := Lib.hid (RPrint_any n)
  have HS := Lib.hid (prtI_size n)
  have HB := Lib.hid (parse_back n)
  generalize strOfNums (prtI n) = s at *
  go_enter Try.func4, Try.ntmps4
  go_wp2_with fail
  refine (HP.out _).mono ?_
  rintro e w1 ⟨rfl, hb1⟩
  have H1 := Lib.hid hb1
  clear hb1
  go_wp2_with fail
  refine (Parse_r s HS.out _ _ HB.out _).mono ?_
  rintro e w2 ⟨rfl, hb2⟩
  have H2 := Lib.hid hb2
  clear hb2
  go_wp2_with fail
  refine (HR.out _).mono ?_
  rintro e w3 ⟨rfl, hb3⟩
  have H3 := Lib.hid hb3
  clear hb3
  go_wp2_with fail
  refine (RHold_any _ _).mono ?_; rintro e w' ⟨rfl, rfl⟩
  go_wp2_with fail
  refine (known_any _).mono ?_
  rintro e w4 ⟨rfl, hb4⟩
  have H4 := Lib.hid hb4
  clear hb4
  go_wp2_with fail
  go_ret
  exact ⟨rfl, below_then (below_then (below_then H1.out H2.out) H3.out) H4.out⟩

set_option maxHeartbeats 1000000 in
theorem FixOrder_walk (a b n d : Int) (w : World) : Calls Try.prog 5 #[.int .i64 a, .int .i64 b, .int .i64 n, .int .i64 d] w fun e w' => e = .returned (.bool true) ∧ Below w.heap.size w w' := by
  by_cases h : b < a ∨ n < 0 ∨ d ≤ 0
  · by_cases h1 : b < a
    · clear h
      go_enter Try.func5, Try.ntmps5
      go_wp2_with fail
      refine (known_any _).mono ?_
      rintro e w1 ⟨rfl, hb1⟩
      have H1 := Lib.hid hb1
      clear hb1
      go_wp2_with fail
      go_ret
      exact ⟨rfl, H1.out⟩
    · by_cases h2 : n < 0
      · clear h
        go_enter Try.func5, Try.ntmps5
        go_wp2_with fail
        refine (known_any _).mono ?_
        rintro e w1 ⟨rfl, hb1⟩
        have H1 := Lib.hid hb1
        clear hb1
        go_wp2_with fail
        go_ret
        exact ⟨rfl, H1.out⟩
      · have h3 : d ≤ 0 := by omega
        clear h
        go_enter Try.func5, Try.ntmps5
        go_wp2_with fail
        refine (known_any _).mono ?_
        rintro e w1 ⟨rfl, hb1⟩
        have H1 := Lib.hid hb1
        clear hb1
        go_wp2_with fail
        go_ret
        exact ⟨rfl, H1.out⟩
  · have h1 : ¬ b < a := fun x => h (.inl x)
    have h2 : ¬ n < 0 := fun x => h (.inr (.inl x))
    have h3 : ¬ d ≤ 0 := fun x => h (.inr (.inr x))
    have hm : partH a n d ≤ partH b n d := part_mono (by omega) (by omega) (by omega)
    clear h
    go_enter Try.func5, Try.ntmps5
    go_wp2_with fail
    refine (Part_any _ _ _ _).mono ?_; rintro e w' ⟨rfl, rfl⟩
    go_wp2_with fail
    refine (Part_any _ _ _ _).mono ?_; rintro e w' ⟨rfl, rfl⟩
    go_wp2_with fail
    refine (known_any _).mono ?_
    rintro e w1 ⟨rfl, hb1⟩
    have H1 := Lib.hid hb1
    clear hb1
    go_wp2_with fail
    go_ret
    exact ⟨rfl, H1.out⟩

set_option maxHeartbeats 1000000 in
theorem FixRest_walk (a n : Int) (w : World) : Calls Try.prog 8 #[.int .i64 a, .int .i64 n] w fun e w' => e = .returned (.bool true) ∧ Below w.heap.size w w' := by
  by_cases h1 : n < 0
  · go_enter Try.func8, Try.ntmps8
    go_wp2_with fail
    refine (known_any _).mono ?_
    rintro e w1 ⟨rfl, hb1⟩
    have H1 := Lib.hid hb1
    clear hb1
    go_wp2_with fail
    go_ret
    exact ⟨rfl, H1.out⟩
  · by_cases h2 : 100000 < n
    · go_enter Try.func8, Try.ntmps8
      go_wp2_with fail
      refine (known_any _).mono ?_
      rintro e w1 ⟨rfl, hb1⟩
      have H1 := Lib.hid hb1
      clear hb1
      go_wp2_with fail
      go_ret
      exact ⟨rfl, H1.out⟩
    · have hr := part_rest a n (by omega) (by omega)
      have b1 := partH_bd a n 100000
      have b2 := partH_bd a (100000 - n) 100000
      have b3 := hold_bd a
      obtain ⟨r1, r2⟩ := hr
      go_enter Try.func8, Try.ntmps8
      go_wp2_with fail
      refine (RHold_any _ _).mono ?_; rintro e w' ⟨rfl, rfl⟩
      go_wp2_with fail
      refine (Percent_any _ _ _).mono ?_; rintro e w' ⟨rfl, rfl⟩
      go_wp2_with fail
      refine (Percent_any _ _ _).mono ?_; rintro e w' ⟨rfl, rfl⟩
      go_wp2_with fail
      refine (known_any _).mono ?_
      rintro e w1 ⟨rfl, hb1⟩
      have H1 := Lib.hid hb1
      clear hb1
      go_wp2_with fail
      go_ret
      exact ⟨rfl, H1.out⟩

end Go.Proofs.Ytpgnhaoolngkdaa
