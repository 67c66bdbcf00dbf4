/- Runs of bytes, a name's begin, signs: the reference's walks; the program's sign. -/
import Derived.Test.YtmicgfpiknibhaaLexByte
namespace Go.Proofs.Ytmicgfpiknibhaa
open Go.RowKit
set_option linter.unusedSimpArgs false
set_option linter.unusedVariables false

theorem runL_at (p : UInt8 → Bool) (s : ByteArray) (k : Nat) (h : k < s.size) : runL p (s.data.toList.drop k) = if p s[k] then runL p (s.data.toList.drop (k + 1)) + 1 else 0 := by
  rw [drop_at s k h, runL]
theorem runL_end (p : UInt8 → Bool) (s : ByteArray) (k : Nat) (h : s.size ≤ k) : runL p (s.data.toList.drop k) = 0 := by rw [drop_end s k h]; rfl
theorem heads_at (n : Nat) (s : ByteArray) (k : Nat) (h : k < s.size) : heads n (s.data.toList.drop k) = decide (s[k].toNat = n) := by rw [drop_at s k h]; rfl
theorem heads_end (n : Nat) (s : ByteArray) (k : Nat) (h : s.size ≤ k) : heads n (s.data.toList.drop k) = false := by rw [drop_end s k h]; rfl
theorem dashed_at (s : ByteArray) (k : Nat) (h : k < s.size) : dashed (s.data.toList.drop k) = (isB s[k] || decide (s[k].toNat = 45)) := by rw [drop_at s k h]; rfl
theorem dashed_end (s : ByteArray) (k : Nat) (h : s.size ≤ k) : dashed (s.data.toList.drop k) = false := by rw [drop_end s k h]; rfl
theorem starts_at (s : ByteArray) (k : Nat) (h : k < s.size) : starts (s.data.toList.drop k) = if s[k].toNat = 45 then dashed (s.data.toList.drop (k + 1)) else isB s[k] := by rw [drop_at s k h]; rfl
theorem starts_end (s : ByteArray) (k : Nat) (h : s.size ≤ k) : starts (s.data.toList.drop k) = false := by rw [drop_end s k h]; rfl

set_option maxHeartbeats 1000000 in
theorem RRun_any (s : ByteArray) (a : Nat) (ha : a ≤ s.size) (hs : s.size ≤ maxLen) (w : World) :
    Calls Try.prog 50 #[.string s, .int .i64 a] w fun e w' => e = .returned (.int .i64 (runL isG (s.data.toList.drop a))) ∧ w = w' := by
  unfold maxLen at hs
  go_enter Try.func50, Try.ntmps50
  go_wp2_with fail
  go_loop [1, 5] (fun i n => ∃ j : Nat, a + j ≤ s.size ∧ i = .int .i64 ((a + j : Nat) : Int) ∧ n = .int .i64 j ∧ j + runL isG (s.data.toList.drop (a + j)) = runL isG (s.data.toList.drop a)) (fun i _ => s.size - (intOf i).toNat)
  case atStart => exact ⟨0, by omega, by simp, rfl, by simp⟩
  case round =>
    obtain ⟨j, hj, rfl, rfl, hn⟩ := hrel
    by_cases hlt : a + j < s.size
    · have hd := runL_at isG s (a + j) hlt
      have h8 : s[a + j].toNat < 256 := s[a + j].toNat_lt
      have hgo := RGoes_any s[a + j]
      cases hg : isG s[a + j] with
      | true =>
        rw [hg] at hgo
        rw [if_pos hg] at hd
        have HD := Lib.hid hd
        have HN := Lib.hid hn
        clear hd hn hg
        go_wp2_with (first | (go_at_call 66; refine (hgo _).mono ?_; rintro e w' ⟨rfl, rfl⟩))
        go_round
        case rel => exact ⟨j + 1, by omega, by go_num, by go_num, by have := HD.out; have := HN.out; rw [show a + (j + 1) = a + j + 1 by omega]; omega⟩
        case measure => simp [intOf]; omega
      | false =>
        rw [hg] at hgo
        rw [if_neg (by rw [hg]; simp)] at hd
        have HD := Lib.hid hd
        have HN := Lib.hid hn
        clear hd hn hg
        go_wp2_with (first | (go_at_call 66; refine (hgo _).mono ?_; rintro e w' ⟨rfl, rfl⟩))
        go_ret
        exact ⟨ret_int (by have := HD.out; have := HN.out; omega), rfl⟩
    · have hd := runL_end isG s (a + j) (by omega)
      have HD := Lib.hid hd
      have HN := Lib.hid hn
      clear hd hn
      go_wp2_with fail
      go_ret
      exact ⟨ret_int (by have := HD.out; have := HN.out; omega), rfl⟩

set_option maxHeartbeats 1000000 in
theorem RBlanks_any (s : ByteArray) (a : Nat) (ha : a ≤ s.size) (hs : s.size ≤ maxLen) (w : World) :
    Calls Try.prog 46 #[.string s, .int .i64 a] w fun e w' => e = .returned (.int .i64 (runL isS (s.data.toList.drop a))) ∧ w = w' := by
  unfold maxLen at hs
  go_enter Try.func46, Try.ntmps46
  go_wp2_with fail
  go_loop [1, 5] (fun i n => ∃ j : Nat, a + j ≤ s.size ∧ i = .int .i64 ((a + j : Nat) : Int) ∧ n = .int .i64 j ∧ j + runL isS (s.data.toList.drop (a + j)) = runL isS (s.data.toList.drop a)) (fun i _ => s.size - (intOf i).toNat)
  case atStart => exact ⟨0, by omega, by simp, rfl, by simp⟩
  case round =>
    obtain ⟨j, hj, rfl, rfl, hn⟩ := hrel
    by_cases hlt : a + j < s.size
    · have hd := runL_at isS s (a + j) hlt
      have h8 : s[a + j].toNat < 256 := s[a + j].toNat_lt
      have hgo := RBlank_any s[a + j]
      cases hg : isS s[a + j] with
      | true =>
        rw [hg] at hgo
        rw [if_pos hg] at hd
        have HD := Lib.hid hd
        have HN := Lib.hid hn
        clear hd hn hg
        go_wp2_with (first | (go_at_call 45; refine (hgo _).mono ?_; rintro e w' ⟨rfl, rfl⟩))
        go_round
        case rel => exact ⟨j + 1, by omega, by go_num, by go_num, by have := HD.out; have := HN.out; rw [show a + (j + 1) = a + j + 1 by omega]; omega⟩
        case measure => simp [intOf]; omega
      | false =>
        rw [hg] at hgo
        rw [if_neg (by rw [hg]; simp)] at hd
        have HD := Lib.hid hd
        have HN := Lib.hid hn
        clear hd hn hg
        go_wp2_with (first | (go_at_call 45; refine (hgo _).mono ?_; rintro e w' ⟨rfl, rfl⟩))
        go_ret
        exact ⟨ret_int (by have := HD.out; have := HN.out; omega), rfl⟩
    · have hd := runL_end isS s (a + j) (by omega)
      have HD := Lib.hid hd
      have HN := Lib.hid hn
      clear hd hn
      go_wp2_with fail
      go_ret
      exact ⟨ret_int (by have := HD.out; have := HN.out; omega), rfl⟩

set_option maxHeartbeats 1000000 in
theorem RStarts_any (s : ByteArray) (a : Nat) (hs : s.size ≤ maxLen) (ha : a ≤ s.size) (w : World) :
    Calls Try.prog 51 #[.string s, .int .i64 a] w fun e w' => e = .returned (.bool (starts (s.data.toList.drop a))) ∧ w = w' := by
  unfold maxLen at hs
  by_cases hlt : a < s.size
  · have hd := starts_at s a hlt
    have h8 : s[a].toNat < 256 := s[a].toNat_lt
    by_cases h45 : s[a].toNat = 45
    · have e1 : ((s[a].toNat : Int) == 45) = true := by rw [h45]; rfl
      rw [if_pos h45] at hd
      by_cases hlt2 : a + 1 < s.size
      · rw [dashed_at s (a + 1) hlt2] at hd
        have h82 : s[a + 1].toNat < 256 := s[a + 1].toNat_lt
        have hbe := RBegins_any s[a + 1]
        have he := byte_eq s[a + 1] 45
        rw [← he] at hd
        have HD := Lib.hid hd
        clear hd he h45
        cases hb : isB s[a + 1] with
        | true =>
          rw [hb] at hbe HD
          go_enter Try.func51, Try.ntmps51
          go_wp2_with (first | (go_at_call 67; refine (hbe _).mono ?_; rintro e w' ⟨rfl, rfl⟩))
          go_ret
          exact ⟨ret_bool (by rw [HD.out]; rfl), rfl⟩
        | false =>
          rw [hb] at hbe HD
          cases hq : ((s[a + 1].toNat : Int) == 45)
          all_goals
            have HD2 := Lib.hid (HD.out.trans (by rw [show ((s[a + 1].toNat : Int) == ((45 : Nat) : Int)) = ((s[a + 1].toNat : Int) == 45) from rfl, hq]))
            go_enter Try.func51, Try.ntmps51
            go_wp2_with (first | (go_at_call 67; refine (hbe _).mono ?_; rintro e w' ⟨rfl, rfl⟩))
            go_ret
            exact ⟨ret_bool (by rw [HD2.out]; rfl), rfl⟩
      · rw [dashed_end s (a + 1) (by omega)] at hd
        have HD := Lib.hid hd
        clear hd h45
        go_enter Try.func51, Try.ntmps51
        go_wp2_with fail
        go_ret
        exact ⟨ret_bool HD.out.symm, rfl⟩
    · have e1 : ((s[a].toNat : Int) == 45) = false := beq_false_of_ne (by omega)
      rw [if_neg h45] at hd
      have hbe := RBegins_any s[a]
      have HD := Lib.hid hd
      clear hd h45
      go_enter Try.func51, Try.ntmps51
      go_wp2_with (first | (go_at_call 67; refine (hbe _).mono ?_; rintro e w' ⟨rfl, rfl⟩))
      go_ret
      exact ⟨ret_bool HD.out.symm, rfl⟩
  · have hd := starts_end s a (by omega)
    have HD := Lib.hid hd
    clear hd
    go_enter Try.func51, Try.ntmps51
    go_wp2_with fail
    go_ret
    exact ⟨ret_bool HD.out.symm, rfl⟩

theorem ext_data (s : ByteArray) (a b : Nat) : (s.extract a b).data.toList = (s.data.toList.drop a).take (b - a) := by
  have e : (s.extract a b).data = s.data.extract a b := by simp
  rw [e]
  simp [Array.toList_extract, List.extract_eq_take_drop]
/-- Does a list begin with another one? -/
def hasL (l t : List UInt8) : Bool := l.take t.length == t
theorem hasL_two (l : List UInt8) (a b : UInt8) : hasL l [a, b] = (heads a.toNat l && heads b.toNat (l.drop 1)) := by
  have e : ∀ x y : UInt8, (x == y) = decide (x.toNat = y.toNat) := fun x y => by
    rw [Bool.eq_iff_iff, beq_iff_eq, decide_eq_true_eq]
    exact ⟨fun h => by rw [h], fun h => UInt8.toNat_inj.1 h⟩
  match l with
  | [] => rfl
  | [x] => simp [hasL, heads]
  | x :: y :: r => simp [hasL, heads, e]
theorem hasL_one (l : List UInt8) (a : UInt8) : hasL l [a] = heads a.toNat l := by
  have e : ∀ x y : UInt8, (x == y) = decide (x.toNat = y.toNat) := fun x y => by
    rw [Bool.eq_iff_iff, beq_iff_eq, decide_eq_true_eq]
    exact ⟨fun h => by rw [h], fun h => UInt8.toNat_inj.1 h⟩
  match l with
  | [] => rfl
  | x :: r => simp [hasL, heads, e]

set_option maxHeartbeats 1000000 in
theorem RHas_any (s t : ByteArray) (a : Nat) (hs : s.size ≤ maxLen) (ht : t.size ≤ maxLen) (ha : a ≤ s.size) (w : World) :
    Calls Try.prog 43 #[.string s, .int .i64 a, .string t] w fun e w' => e = .returned (.bool (hasL (s.data.toList.drop a) t.data.toList)) ∧ w = w' := by
  have hlt : t.data.toList.length = t.size := len_data t
  have hls : (s.data.toList.drop a).length = s.size - a := by rw [List.length_drop, len_data]
  unfold maxLen at hs ht
  by_cases h : a + t.size ≤ s.size
  · have d1 : decide ((t.size : Int) ≤ (s.size : Int) - (a : Int)) = true := decide_eq_true (by omega)
    have HE : Hid (((s.extract a (a + t.size)).toList == t.toList) = hasL (s.data.toList.drop a) t.data.toList) := Lib.hid (by
      rw [ByteArray.toList_eq, ByteArray.toList_eq, ext_data]
      unfold hasL
      rw [hlt, show a + t.size - a = t.size by omega])
    clear hlt hls
    go_enter Try.func43, Try.ntmps43
    go_wp2_with fail
    go_ret
    exact ⟨ret_bool HE.out, rfl⟩
  · have d1 : decide ((t.size : Int) ≤ (s.size : Int) - (a : Int)) = false := decide_eq_false (by omega)
    have HE : Hid (hasL (s.data.toList.drop a) t.data.toList = false) := Lib.hid (by
      unfold hasL
      apply beq_false_of_ne
      intro he
      have h2 := congrArg List.length he
      rw [List.length_take, hlt, hls] at h2
      omega)
    clear hlt hls
    go_enter Try.func43, Try.ntmps43
    go_wp2_with fail
    go_ret
    exact ⟨ret_bool HE.out.symm, rfl⟩

/-- The end of a comment. -/
def starSlash : ByteArray := { data := #[42, 47] }
theorem behind_at (s : ByteArray) (k : Nat) (h : k < s.size) : behind (s.data.toList.drop k) = if hasL (s.data.toList.drop k) starSlash.data.toList = true then 2 else behind (s.data.toList.drop (k + 1)) + 1 := by
  have e : hasL (s.data.toList.drop k) starSlash.data.toList = (heads 42 (s.data.toList.drop k) && heads 47 ((s.data.toList.drop k).drop 1)) := hasL_two _ 42 47
  rw [e, drop_at s k h, behind, List.drop_succ_cons, List.drop_zero]
  have e2 : heads 42 (s[k] :: s.data.toList.drop (k + 1)) = decide (s[k].toNat = 42) := rfl
  rw [e2]
  by_cases h1 : s[k].toNat = 42
  · simp [h1]
  · simp [h1]
theorem behind_end (s : ByteArray) (k : Nat) (h : s.size ≤ k) : behind (s.data.toList.drop k) = 0 := by rw [drop_end s k h]; rfl

set_option maxHeartbeats 1000000 in
theorem RBehind_any (s : ByteArray) (a : Nat) (hs : s.size ≤ maxLen) (ha : a ≤ s.size) (w : World) :
    Calls Try.prog 44 #[.string s, .int .i64 a, .string { data := #[42, 47] }] w fun e w' => e = .returned (.int .i64 ((a + behind (s.data.toList.drop a) : Nat) : Int)) ∧ w = w' := by
  have hsl : starSlash.size ≤ maxLen := by unfold maxLen; decide
  have hss := hs
  unfold maxLen at hs
  go_enter Try.func44, Try.ntmps44
  go_wp2_with fail
  go_loop [1] (fun i => ∃ j : Nat, a + j ≤ s.size ∧ i = .int .i64 ((a + j : Nat) : Int) ∧ j + behind (s.data.toList.drop (a + j)) = behind (s.data.toList.drop a)) (fun i => s.size - (intOf i).toNat)
  case atStart => exact ⟨0, by omega, by simp, by simp⟩
  case round =>
    obtain ⟨j, hj, rfl, hn⟩ := hrel
    by_cases hlt : a + j < s.size
    · have hd := behind_at s (a + j) hlt
      have hha : ∀ w, Calls Try.prog 43 #[.string s, .int .i64 ((a + j : Nat) : Int), .string { data := #[42, 47] }] w fun e w' => e = .returned (.bool (hasL (s.data.toList.drop (a + j)) starSlash.data.toList)) ∧ w = w' := fun w => RHas_any s starSlash (a + j) hss hsl (by omega) w
      cases hg : hasL (s.data.toList.drop (a + j)) starSlash.data.toList with
      | true =>
        rw [hg] at hha
        rw [if_pos hg] at hd
        have h3 := behind_le (s.data.toList.drop (a + j))
        rw [List.length_drop, len_data, hd] at h3
        have h4 : a + j + 2 ≤ s.size := by omega
        have HD := Lib.hid hd
        have HN := Lib.hid hn
        have HHA := Lib.hid hha
        clear hd hn hg hha hss hsl
        go_wp2_with (first | (go_at_call 43; refine (HHA.out _).mono ?_; rintro e w' ⟨rfl, rfl⟩))
        go_ret
        exact ⟨ret_int (by have := HD.out; have := HN.out; omega), rfl⟩
      | false =>
        rw [hg] at hha
        rw [if_neg (by rw [hg]; simp)] at hd
        have HD := Lib.hid hd
        have HN := Lib.hid hn
        have HHA := Lib.hid hha
        clear hd hn hg hha hss hsl
        go_wp2_with (first | (go_at_call 43; refine (HHA.out _).mono ?_; rintro e w' ⟨rfl, rfl⟩))
        go_round
        case rel => exact ⟨j + 1, by omega, by go_num, by have := HD.out; have := HN.out; rw [show a + (j + 1) = a + j + 1 by omega]; omega⟩
        case measure => simp [intOf]; omega
    · have hd := behind_end s (a + j) (by omega)
      have HD := Lib.hid hd
      have HN := Lib.hid hn
      clear hd hn hss hsl
      go_wp2_with fail
      go_ret
      exact ⟨ret_int (by have := HD.out; have := HN.out; omega), rfl⟩

end Go.Proofs.Ytmicgfpiknibhaa
