/- The reference's Number, from a place on. -/
import Derived.Test.YtmicgfpiknibhaaTextRef
import Derived.Test.YtmicgfpiknibhaaLexByte
namespace Go.Proofs.Ytmicgfpiknibhaa
open Go.RowKit
set_option linter.unusedSimpArgs false
set_option linter.unusedVariables false

theorem num2_at (L : List UInt8) (a g b n m : Nat) (hb : b = a + g) (hn : dgs (L.drop b) = n) (hm : dgs (L.drop (b + n + 1)) = m) :
    num2 (L.drop a) g = if dotted (L.drop (b + n)) = true ∧ 0 < m then g + n + 1 + m else if n = 0 then 0 else g + n := by
  have e1 : (L.drop a).drop g = L.drop b := by rw [List.drop_drop, hb]
  have e2 : (L.drop a).drop (g + n) = L.drop (b + n) := by rw [List.drop_drop, hb, Nat.add_assoc]
  have e3 : (L.drop a).drop (g + n + 1) = L.drop (b + n + 1) := by rw [List.drop_drop, hb]; congr 1; omega
  unfold num2
  rw [e1, hn, e2, e3, hm]

set_option maxHeartbeats 8000000 in
theorem RNumAt_plus (s : ByteArray) (hs0 : s.size ≤ maxLen) (a : Nat) (h0 : a < s.size) (hp : s[a].toNat = 43) (w : World) :
    Calls Try.prog 48 #[.string s, .int .i64 a] w fun e w' => e = .returned (.int .i64 (num (s.data.toList.drop a))) ∧ w = w' := by
  have hs := hs0
  unfold maxLen at hs
  have e43 : ((s[a].toNat : Int) == 43) = true := by rw [hp]; rfl
  have HS : Hid (num (s.data.toList.drop a) = num2 (s.data.toList.drop a) 1) := Lib.hid (by rw [num_num2, drop_at s a h0]; rw [show sgn (s[a] :: s.data.toList.drop (a + 1)) = 1 from if_pos (Or.inl hp)])
  clear hp
  go_enter Try.func48, Try.ntmps48
  have hin := dgs_drop s (a + 1) (by omega)
  have hq := num2_at s.data.toList a 1 (a + 1) _ _ rfl rfl rfl
  generalize hn : dgs (s.data.toList.drop (a + 1)) = n at *
  generalize hm : dgs (s.data.toList.drop (a + 1 + n + 1)) = m at *
  have HQ := Lib.hid hq
  clear hq
  have HNn := Lib.hid hn
  clear hn
  go_wp2_with fail
  refine (RDigits_at s _ (a + 1) (by push_cast; omega) (by omega) hs0 _).mono ?_; rintro e w' ⟨rfl, rfl⟩
  rw [HNn.out]
  by_cases hlt : a + 1 + n < s.size
  · by_cases h46 : s[a + 1 + n].toNat = 46
    · have e46 : ((s[a + 1 + n].toNat : Int) == 46) = true := by rw [h46]; rfl
      have HD : Hid (dotted (s.data.toList.drop (a + 1 + n)) = true) := by apply Lib.hid; rw [dotted_at s _ hlt]; simp [h46]
      have hin2 := dgs_drop s (a + 1 + n + 1) (by omega)
      rw [hm] at hin2
      have HM := Lib.hid hm
      clear hm h46
      by_cases h0m : 0 < m
      · have HN : Hid (num2 (s.data.toList.drop a) 1 = 1 + n + 1 + m) := Lib.hid (by rw [HQ.out, if_pos ⟨HD.out, h0m⟩])
        go_wp2_with fail
        refine (RDigits_at s _ (a + 1 + n + 1) (by push_cast; omega) (by omega) hs0 _).mono ?_; rintro e w' ⟨rfl, rfl⟩
        rw [HM.out]
        go_wp2_with fail
        refine (RDigits_at s _ (a + 1 + n + 1) (by push_cast; omega) (by omega) hs0 _).mono ?_; rintro e w' ⟨rfl, rfl⟩
        rw [HM.out]
        go_wp2_with fail
        go_ret
        exact ⟨ret_int (by rw [HS.out, HN.out]; omega), rfl⟩
      · have e0 : m = 0 := by omega
        subst e0
        have HN : Hid (num2 (s.data.toList.drop a) 1 = if n = 0 then 0 else 1 + n) := Lib.hid (by rw [HQ.out, if_neg (fun h => h0m h.2)])
        go_wp2_with fail
        refine (RDigits_at s _ (a + 1 + n + 1) (by push_cast; omega) (by omega) hs0 _).mono ?_; rintro e w' ⟨rfl, rfl⟩
        rw [HM.out]
        go_wp2_with fail
        all_goals
          go_ret
          exact ⟨ret_int (by rw [HS.out, HN.out]; split <;> first | (simp_all; done) | (push_cast; omega)), rfl⟩
    · have e46 : ((s[a + 1 + n].toNat : Int) == 46) = false := beq_false_of_ne (by omega)
      have HD : Hid (dotted (s.data.toList.drop (a + 1 + n)) = false) := by apply Lib.hid; rw [dotted_at s _ hlt]; simp [h46]
      have HN : Hid (num2 (s.data.toList.drop a) 1 = if n = 0 then 0 else 1 + n) := Lib.hid (by rw [HQ.out, if_neg (fun h => by rw [HD.out] at h; cases h.1)])
      clear hm h46
      go_wp2_with fail
      all_goals
        go_ret
        exact ⟨ret_int (by rw [HS.out, HN.out]; split <;> first | (simp_all; done) | (push_cast; omega)), rfl⟩
  · have HD : Hid (dotted (s.data.toList.drop (a + 1 + n)) = false) := by apply Lib.hid; rw [dotted_end s _ (by omega)]
    have HN : Hid (num2 (s.data.toList.drop a) 1 = if n = 0 then 0 else 1 + n) := Lib.hid (by rw [HQ.out, if_neg (fun h => by rw [HD.out] at h; cases h.1)])
    clear hm
    go_wp2_with fail
    all_goals
      go_ret
      exact ⟨ret_int (by rw [HS.out, HN.out]; split <;> first | (simp_all; done) | (push_cast; omega)), rfl⟩

set_option maxHeartbeats 8000000 in
theorem RNumAt_minus (s : ByteArray) (hs0 : s.size ≤ maxLen) (a : Nat) (h0 : a < s.size) (hp : s[a].toNat = 45) (w : World) :
    Calls Try.prog 48 #[.string s, .int .i64 a] w fun e w' => e = .returned (.int .i64 (num (s.data.toList.drop a))) ∧ w = w' := by
  have hs := hs0
  unfold maxLen at hs
  have e43 : ((s[a].toNat : Int) == 43) = false := by rw [hp]; rfl
  have e45 : ((s[a].toNat : Int) == 45) = true := by rw [hp]; rfl
  have HS : Hid (num (s.data.toList.drop a) = num2 (s.data.toList.drop a) 1) := Lib.hid (by rw [num_num2, drop_at s a h0]; rw [show sgn (s[a] :: s.data.toList.drop (a + 1)) = 1 from if_pos (Or.inr hp)])
  clear hp
  go_enter Try.func48, Try.ntmps48
  have hin := dgs_drop s (a + 1) (by omega)
  have hq := num2_at s.data.toList a 1 (a + 1) _ _ rfl rfl rfl
  generalize hn : dgs (s.data.toList.drop (a + 1)) = n at *
  generalize hm : dgs (s.data.toList.drop (a + 1 + n + 1)) = m at *
  have HQ := Lib.hid hq
  clear hq
  have HNn := Lib.hid hn
  clear hn
  go_wp2_with fail
  refine (RDigits_at s _ (a + 1) (by push_cast; omega) (by omega) hs0 _).mono ?_; rintro e w' ⟨rfl, rfl⟩
  rw [HNn.out]
  by_cases hlt : a + 1 + n < s.size
  · by_cases h46 : s[a + 1 + n].toNat = 46
    · have e46 : ((s[a + 1 + n].toNat : Int) == 46) = true := by rw [h46]; rfl
      have HD : Hid (dotted (s.data.toList.drop (a + 1 + n)) = true) := by apply Lib.hid; rw [dotted_at s _ hlt]; simp [h46]
      have hin2 := dgs_drop s (a + 1 + n + 1) (by omega)
      rw [hm] at hin2
      have HM := Lib.hid hm
      clear hm h46
      by_cases h0m : 0 < m
      · have HN : Hid (num2 (s.data.toList.drop a) 1 = 1 + n + 1 + m) := Lib.hid (by rw [HQ.out, if_pos ⟨HD.out, h0m⟩])
        go_wp2_with fail
        refine (RDigits_at s _ (a + 1 + n + 1) (by push_cast; omega) (by omega) hs0 _).mono ?_; rintro e w' ⟨rfl, rfl⟩
        rw [HM.out]
        go_wp2_with fail
        refine (RDigits_at s _ (a + 1 + n + 1) (by push_cast; omega) (by omega) hs0 _).mono ?_; rintro e w' ⟨rfl, rfl⟩
        rw [HM.out]
        go_wp2_with fail
        go_ret
        exact ⟨ret_int (by rw [HS.out, HN.out]; omega), rfl⟩
      · have e0 : m = 0 := by omega
        subst e0
        have HN : Hid (num2 (s.data.toList.drop a) 1 = if n = 0 then 0 else 1 + n) := Lib.hid (by rw [HQ.out, if_neg (fun h => h0m h.2)])
        go_wp2_with fail
        refine (RDigits_at s _ (a + 1 + n + 1) (by push_cast; omega) (by omega) hs0 _).mono ?_; rintro e w' ⟨rfl, rfl⟩
        rw [HM.out]
        go_wp2_with fail
        all_goals
          go_ret
          exact ⟨ret_int (by rw [HS.out, HN.out]; split <;> first | (simp_all; done) | (push_cast; omega)), rfl⟩
    · have e46 : ((s[a + 1 + n].toNat : Int) == 46) = false := beq_false_of_ne (by omega)
      have HD : Hid (dotted (s.data.toList.drop (a + 1 + n)) = false) := by apply Lib.hid; rw [dotted_at s _ hlt]; simp [h46]
      have HN : Hid (num2 (s.data.toList.drop a) 1 = if n = 0 then 0 else 1 + n) := Lib.hid (by rw [HQ.out, if_neg (fun h => by rw [HD.out] at h; cases h.1)])
      clear hm h46
      go_wp2_with fail
      all_goals
        go_ret
        exact ⟨ret_int (by rw [HS.out, HN.out]; split <;> first | (simp_all; done) | (push_cast; omega)), rfl⟩
  · have HD : Hid (dotted (s.data.toList.drop (a + 1 + n)) = false) := by apply Lib.hid; rw [dotted_end s _ (by omega)]
    have HN : Hid (num2 (s.data.toList.drop a) 1 = if n = 0 then 0 else 1 + n) := Lib.hid (by rw [HQ.out, if_neg (fun h => by rw [HD.out] at h; cases h.1)])
    clear hm
    go_wp2_with fail
    all_goals
      go_ret
      exact ⟨ret_int (by rw [HS.out, HN.out]; split <;> first | (simp_all; done) | (push_cast; omega)), rfl⟩

set_option maxHeartbeats 8000000 in
theorem RNumAt_bare (s : ByteArray) (hs0 : s.size ≤ maxLen) (a : Nat) (h0 : a < s.size) (hp : ¬ s[a].toNat = 43) (hq : ¬ s[a].toNat = 45) (w : World) :
    Calls Try.prog 48 #[.string s, .int .i64 a] w fun e w' => e = .returned (.int .i64 (num (s.data.toList.drop a))) ∧ w = w' := by
  have hs := hs0
  unfold maxLen at hs
  have e43 : ((s[a].toNat : Int) == 43) = false := beq_false_of_ne (by omega)
  have e45 : ((s[a].toNat : Int) == 45) = false := beq_false_of_ne (by omega)
  have HS : Hid (num (s.data.toList.drop a) = num2 (s.data.toList.drop a) 0) := Lib.hid (by rw [num_num2, drop_at s a h0]; rw [show sgn (s[a] :: s.data.toList.drop (a + 1)) = 0 from if_neg (by simp [hp, hq])])
  clear hp hq
  go_enter Try.func48, Try.ntmps48
  have hin := dgs_drop s (a) (by omega)
  have hq := num2_at s.data.toList a 0 (a) _ _ rfl rfl rfl
  generalize hn : dgs (s.data.toList.drop (a)) = n at *
  generalize hm : dgs (s.data.toList.drop (a + n + 1)) = m at *
  have HQ := Lib.hid hq
  clear hq
  have HNn := Lib.hid hn
  clear hn
  go_wp2_with fail
  refine (RDigits_at s _ (a) (by push_cast; omega) (by omega) hs0 _).mono ?_; rintro e w' ⟨rfl, rfl⟩
  rw [HNn.out]
  by_cases hlt : a + n < s.size
  · by_cases h46 : s[a + n].toNat = 46
    · have e46 : ((s[a + n].toNat : Int) == 46) = true := by rw [h46]; rfl
      have HD : Hid (dotted (s.data.toList.drop (a + n)) = true) := by apply Lib.hid; rw [dotted_at s _ hlt]; simp [h46]
      have hin2 := dgs_drop s (a + n + 1) (by omega)
      rw [hm] at hin2
      have HM := Lib.hid hm
      clear hm h46
      by_cases h0m : 0 < m
      · have HN : Hid (num2 (s.data.toList.drop a) 0 = 0 + n + 1 + m) := Lib.hid (by rw [HQ.out, if_pos ⟨HD.out, h0m⟩])
        go_wp2_with fail
        refine (RDigits_at s _ (a + n + 1) (by push_cast; omega) (by omega) hs0 _).mono ?_; rintro e w' ⟨rfl, rfl⟩
        rw [HM.out]
        go_wp2_with fail
        refine (RDigits_at s _ (a + n + 1) (by push_cast; omega) (by omega) hs0 _).mono ?_; rintro e w' ⟨rfl, rfl⟩
        rw [HM.out]
        go_wp2_with fail
        go_ret
        exact ⟨ret_int (by rw [HS.out, HN.out]; omega), rfl⟩
      · have e0 : m = 0 := by omega
        subst e0
        have HN : Hid (num2 (s.data.toList.drop a) 0 = if n = 0 then 0 else 0 + n) := Lib.hid (by rw [HQ.out, if_neg (fun h => h0m h.2)])
        go_wp2_with fail
        refine (RDigits_at s _ (a + n + 1) (by push_cast; omega) (by omega) hs0 _).mono ?_; rintro e w' ⟨rfl, rfl⟩
        rw [HM.out]
        go_wp2_with fail
        all_goals
          go_ret
          exact ⟨ret_int (by rw [HS.out, HN.out]; split <;> first | (simp_all; done) | (push_cast; omega)), rfl⟩
    · have e46 : ((s[a + n].toNat : Int) == 46) = false := beq_false_of_ne (by omega)
      have HD : Hid (dotted (s.data.toList.drop (a + n)) = false) := by apply Lib.hid; rw [dotted_at s _ hlt]; simp [h46]
      have HN : Hid (num2 (s.data.toList.drop a) 0 = if n = 0 then 0 else 0 + n) := Lib.hid (by rw [HQ.out, if_neg (fun h => by rw [HD.out] at h; cases h.1)])
      clear hm h46
      go_wp2_with fail
      all_goals
        go_ret
        exact ⟨ret_int (by rw [HS.out, HN.out]; split <;> first | (simp_all; done) | (push_cast; omega)), rfl⟩
  · have HD : Hid (dotted (s.data.toList.drop (a + n)) = false) := by apply Lib.hid; rw [dotted_end s _ (by omega)]
    have HN : Hid (num2 (s.data.toList.drop a) 0 = if n = 0 then 0 else 0 + n) := Lib.hid (by rw [HQ.out, if_neg (fun h => by rw [HD.out] at h; cases h.1)])
    clear hm
    go_wp2_with fail
    all_goals
      go_ret
      exact ⟨ret_int (by rw [HS.out, HN.out]; split <;> first | (simp_all; done) | (push_cast; omega)), rfl⟩

theorem RNumAt_any (s : ByteArray) (hs0 : s.size ≤ maxLen) (a : Nat) (h0 : a < s.size) (w : World) :
    Calls Try.prog 48 #[.string s, .int .i64 a] w fun e w' => e = .returned (.int .i64 (num (s.data.toList.drop a))) ∧ w = w' := by
  by_cases hp : s[a].toNat = 43
  · exact RNumAt_plus s hs0 a h0 hp w
  · by_cases hq : s[a].toNat = 45
    · exact RNumAt_minus s hs0 a h0 hq w
    · exact RNumAt_bare s hs0 a h0 hp hq w

end Go.Proofs.Ytmicgfpiknibhaa
