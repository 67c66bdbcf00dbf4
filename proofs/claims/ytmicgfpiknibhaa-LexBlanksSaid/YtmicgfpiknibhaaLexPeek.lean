/- The lexer looks ahead: peek, name, number. -/
import Derived.Test.YtmicgfpiknibhaaLexRef3
import Derived.Test.YtmicgfpiknibhaaLexNum
namespace Go.Proofs.Ytmicgfpiknibhaa
open Go.RowKit
set_option linter.unusedSimpArgs false
set_option linter.unusedVariables false
attribute [local go_sem] cell?_ext frozen?_ext lt_size_ext

/-- A lexer in memory: its text, its place, what it has put out. -/
def Lx (w : World) (r : Nat) (s : ByteArray) (a : Nat) (v : Value) : Prop := Blk w r 56 #[.string s, .int .i64 a, v]
/-- The byte there; 0: there is none. -/
def pk (s : ByteArray) (i : Nat) : UInt8 := if h : i < s.size then s[i] else 0
theorem pk_at {s : ByteArray} {i : Nat} (h : i < s.size) : pk s i = s[i] := dif_pos h
theorem pk_end {s : ByteArray} {i : Nat} (h : ¬ i < s.size) : pk s i = 0 := dif_neg h
theorem heads_pk (n : Nat) (hn : n ≠ 0) (s : ByteArray) (k : Nat) : heads n (s.data.toList.drop k) = decide ((pk s k).toNat = n) := by
  by_cases h : k < s.size
  · rw [heads_at n s k h, pk_at h]
  · rw [heads_end n s k (by omega), pk_end h]; symm; apply decide_eq_false; show ¬ 0 = n; omega
theorem dashed_pk (s : ByteArray) (k : Nat) : dashed (s.data.toList.drop k) = (isB (pk s k) || decide ((pk s k).toNat = 45)) := by
  by_cases h : k < s.size
  · rw [dashed_at s k h, pk_at h]
  · rw [dashed_end s k (by omega), pk_end h]; rfl
theorem isB_45 {c : UInt8} (h : c.toNat = 45) : isB c = false := by unfold isB; simp [h]
theorem starts_pk (s : ByteArray) (k : Nat) : starts (s.data.toList.drop k) = (isB (pk s k) || (decide ((pk s k).toNat = 45) && (isB (pk s (k + 1)) || decide ((pk s (k + 1)).toNat = 45)))) := by
  by_cases h : k < s.size
  · rw [starts_at s k h, pk_at h, ← dashed_pk]
    by_cases h45 : s[k].toNat = 45
    · rw [if_pos h45, isB_45 h45, decide_eq_true h45]; simp
    · rw [if_neg h45, decide_eq_false h45]; simp
  · rw [starts_end s k (by omega), pk_end h]; rfl

set_option maxHeartbeats 1000000 in
theorem peek_any (s : ByteArray) (r a n : Nat) (v : Value) (w : World) (hs0 : s.size ≤ maxLen) (ha : a ≤ s.size) (hn : n ≤ 2) (hB : Lx w r s a v) :
    Calls Try.prog 28 #[.pointer (some ⟨r, 0, none⟩), .int .i64 (n : Int)] w fun e w' => e = .returned (.int .u8 ((pk s (a + n)).toNat : Int)) ∧ Below w.heap.size w w' := by
  have hs := hs0
  unfold maxLen at hs
  have hr := hB.lt
  have c0 : w.cell? ⟨r, 0, none⟩ = some (.string s) := hB.cell 0
  have c1 : w.cell? ⟨r, 1, none⟩ = some (.int .i64 a) := hB.cell 1
  obtain ⟨b, hb⟩ : ∃ b, b = a + n := ⟨_, rfl⟩
  have hbi : (a : Int) + (n : Int) = (b : Int) := by omega
  rw [← hb]
  have HB := Lib.hid hB
  have HBB := Lib.hid hb
  clear hB
  by_cases hlt : b < s.size
  · have d0 : decide ((s.size : Int) - (a : Int) ≤ (n : Int)) = false := decide_eq_false (by omega)
    have h8 : s[b].toNat < 256 := s[b].toNat_lt
    have hle : (a : Int) + (n : Int) < (s.size : Int) := by omega
    have HP : Hid (pk s b = s[b]) := Lib.hid (pk_at hlt)
    clear hb
    go_enter Try.func28, Try.ntmps28
    go_wp2_with fail
    refine wp_region_ext (by kernel_rfl) (by kernel_rfl) ?_
    repeat (go_big_quiet_step (fail))
    refine wpQuiet_nil ?_
    rintro _ ⟨u, rfl⟩
    go_wp2_with fail
    refine wp_region_ext2 (by kernel_rfl) (by kernel_rfl) ?_
    repeat (go_big_quiet_step (fail))
    refine wpQuiet_nil ?_
    rintro _ ⟨u, rfl⟩
    go_wp2_with fail
    go_ret
    exact ⟨by rw [HP.out]; rfl, below_ext w u⟩
  · have d0 : decide ((s.size : Int) - (a : Int) ≤ (n : Int)) = true := decide_eq_true (by omega)
    have HP : Hid (pk s b = 0) := Lib.hid (pk_end hlt)
    clear hb
    go_enter Try.func28, Try.ntmps28
    go_wp2_with fail
    refine wp_region_ext (by kernel_rfl) (by kernel_rfl) ?_
    repeat (go_big_quiet_step (fail))
    refine wpQuiet_nil ?_
    rintro _ ⟨u, rfl⟩
    go_wp2_with fail
    go_ret
    exact ⟨by rw [HP.out]; rfl, below_ext w u⟩

set_option maxHeartbeats 1000000 in
theorem name_b (s : ByteArray) (r a n : Nat) (v : Value) (w : World) (hs0 : s.size ≤ maxLen) (ha : a ≤ s.size) (hn : n ≤ 1) (hB : Lx w r s a v) (e_c : isB (pk s (a + n)) = true) :
    Calls Try.prog 32 #[.pointer (some ⟨r, 0, none⟩), .int .i64 (n : Int)] w fun e w' => e = .returned (.bool true) ∧ Below w.heap.size w w' := by
  have hp0 := fun w hB => peek_any s r a n v w hs0 ha (by omega) hB
  have hp1 := fun w hB => peek_any s r a (n + 1) v w hs0 ha (by omega) hB
  rw [show ((n + 1 : Nat) : Int) = (n : Int) + 1 by omega] at hp1
  rw [show a + (n + 1) = a + n + 1 by omega] at hp1
  generalize pk s (a + n) = c at *
  generalize pk s (a + n + 1) = d at *
  have HX := Lib.hid hB
  have HB := Lib.hid (Below.refl w.heap.size w)
  clear hB hs0 ha
  have H_c : ∀ w, Calls Try.prog 58 #[.int .u8 (c.toNat : Int)] w fun e w' => e = .returned (.bool true) ∧ w = w' := fun w => by have := begins_any c w; rwa [e_c] at this
  go_enter Try.func32, Try.ntmps32
  go_wp2_with fail
  refine (hp0 _ HX.out).mono ?_; rintro e w2 ⟨rfl, hb2⟩
  have HX := Lib.hid (HX.out.then_ hb2)
  have HB := Lib.hid (below_then HB.out hb2)
  clear hb2
  go_wp2_with fail
  refine (H_c _).mono ?_; rintro e w' ⟨rfl, rfl⟩
  go_wp2_with fail
  go_ret
  exact ⟨rfl, HB.out⟩

set_option maxHeartbeats 1000000 in
theorem name_no (s : ByteArray) (r a n : Nat) (v : Value) (w : World) (hs0 : s.size ≤ maxLen) (ha : a ≤ s.size) (hn : n ≤ 1) (hB : Lx w r s a v) (e_c : isB (pk s (a + n)) = false) (hk : (((pk s (a + n)).toNat : Int) == 45) = false) :
    Calls Try.prog 32 #[.pointer (some ⟨r, 0, none⟩), .int .i64 (n : Int)] w fun e w' => e = .returned (.bool false) ∧ Below w.heap.size w w' := by
  have hp0 := fun w hB => peek_any s r a n v w hs0 ha (by omega) hB
  have hp1 := fun w hB => peek_any s r a (n + 1) v w hs0 ha (by omega) hB
  rw [show ((n + 1 : Nat) : Int) = (n : Int) + 1 by omega] at hp1
  rw [show a + (n + 1) = a + n + 1 by omega] at hp1
  generalize pk s (a + n) = c at *
  generalize pk s (a + n + 1) = d at *
  have HX := Lib.hid hB
  have HB := Lib.hid (Below.refl w.heap.size w)
  clear hB hs0 ha
  have H_c : ∀ w, Calls Try.prog 58 #[.int .u8 (c.toNat : Int)] w fun e w' => e = .returned (.bool false) ∧ w = w' := fun w => by have := begins_any c w; rwa [e_c] at this
  go_enter Try.func32, Try.ntmps32
  go_wp2_with fail
  refine (hp0 _ HX.out).mono ?_; rintro e w2 ⟨rfl, hb2⟩
  have HX := Lib.hid (HX.out.then_ hb2)
  have HB := Lib.hid (below_then HB.out hb2)
  clear hb2
  go_wp2_with fail
  refine (H_c _).mono ?_; rintro e w' ⟨rfl, rfl⟩
  go_wp2_with fail
  go_ret
  exact ⟨rfl, HB.out⟩

set_option maxHeartbeats 1000000 in
theorem name_db (s : ByteArray) (r a n : Nat) (v : Value) (w : World) (hs0 : s.size ≤ maxLen) (ha : a ≤ s.size) (hn : n ≤ 1) (hB : Lx w r s a v) (e_c : isB (pk s (a + n)) = false) (hk : (((pk s (a + n)).toNat : Int) == 45) = true) (e_d : isB (pk s (a + n + 1)) = true) :
    Calls Try.prog 32 #[.pointer (some ⟨r, 0, none⟩), .int .i64 (n : Int)] w fun e w' => e = .returned (.bool true) ∧ Below w.heap.size w w' := by
  have hp0 := fun w hB => peek_any s r a n v w hs0 ha (by omega) hB
  have hp1 := fun w hB => peek_any s r a (n + 1) v w hs0 ha (by omega) hB
  rw [show ((n + 1 : Nat) : Int) = (n : Int) + 1 by omega] at hp1
  rw [show a + (n + 1) = a + n + 1 by omega] at hp1
  generalize pk s (a + n) = c at *
  generalize pk s (a + n + 1) = d at *
  have HX := Lib.hid hB
  have HB := Lib.hid (Below.refl w.heap.size w)
  clear hB hs0 ha
  have H_c : ∀ w, Calls Try.prog 58 #[.int .u8 (c.toNat : Int)] w fun e w' => e = .returned (.bool false) ∧ w = w' := fun w => by have := begins_any c w; rwa [e_c] at this
  have H_d : ∀ w, Calls Try.prog 58 #[.int .u8 (d.toNat : Int)] w fun e w' => e = .returned (.bool true) ∧ w = w' := fun w => by have := begins_any d w; rwa [e_d] at this
  go_enter Try.func32, Try.ntmps32
  go_wp2_with fail
  refine (hp0 _ HX.out).mono ?_; rintro e w2 ⟨rfl, hb2⟩
  have HX := Lib.hid (HX.out.then_ hb2)
  have HB := Lib.hid (below_then HB.out hb2)
  clear hb2
  go_wp2_with fail
  refine (H_c _).mono ?_; rintro e w' ⟨rfl, rfl⟩
  go_wp2_with fail
  refine (hp1 _ HX.out).mono ?_; rintro e w2 ⟨rfl, hb2⟩
  have HX := Lib.hid (HX.out.then_ hb2)
  have HB := Lib.hid (below_then HB.out hb2)
  clear hb2
  go_wp2_with fail
  refine (H_d _).mono ?_; rintro e w' ⟨rfl, rfl⟩
  go_wp2_with fail
  go_ret
  exact ⟨rfl, HB.out⟩

set_option maxHeartbeats 1000000 in
theorem name_dd (s : ByteArray) (r a n : Nat) (v : Value) (w : World) (hs0 : s.size ≤ maxLen) (ha : a ≤ s.size) (hn : n ≤ 1) (hB : Lx w r s a v) (e_c : isB (pk s (a + n)) = false) (hk : (((pk s (a + n)).toNat : Int) == 45) = true) (e_d : isB (pk s (a + n + 1)) = false) :
    Calls Try.prog 32 #[.pointer (some ⟨r, 0, none⟩), .int .i64 (n : Int)] w fun e w' => e = .returned (.bool (((pk s (a + n + 1)).toNat : Int) == 45)) ∧ Below w.heap.size w w' := by
  have hp0 := fun w hB => peek_any s r a n v w hs0 ha (by omega) hB
  have hp1 := fun w hB => peek_any s r a (n + 1) v w hs0 ha (by omega) hB
  rw [show ((n + 1 : Nat) : Int) = (n : Int) + 1 by omega] at hp1
  rw [show a + (n + 1) = a + n + 1 by omega] at hp1
  generalize pk s (a + n) = c at *
  generalize pk s (a + n + 1) = d at *
  have HX := Lib.hid hB
  have HB := Lib.hid (Below.refl w.heap.size w)
  clear hB hs0 ha
  have H_c : ∀ w, Calls Try.prog 58 #[.int .u8 (c.toNat : Int)] w fun e w' => e = .returned (.bool false) ∧ w = w' := fun w => by have := begins_any c w; rwa [e_c] at this
  have H_d : ∀ w, Calls Try.prog 58 #[.int .u8 (d.toNat : Int)] w fun e w' => e = .returned (.bool false) ∧ w = w' := fun w => by have := begins_any d w; rwa [e_d] at this
  go_enter Try.func32, Try.ntmps32
  go_wp2_with fail
  refine (hp0 _ HX.out).mono ?_; rintro e w2 ⟨rfl, hb2⟩
  have HX := Lib.hid (HX.out.then_ hb2)
  have HB := Lib.hid (below_then HB.out hb2)
  clear hb2
  go_wp2_with fail
  refine (H_c _).mono ?_; rintro e w' ⟨rfl, rfl⟩
  go_wp2_with fail
  refine (hp1 _ HX.out).mono ?_; rintro e w2 ⟨rfl, hb2⟩
  have HX := Lib.hid (HX.out.then_ hb2)
  have HB := Lib.hid (below_then HB.out hb2)
  clear hb2
  go_wp2_with fail
  refine (H_d _).mono ?_; rintro e w' ⟨rfl, rfl⟩
  go_wp2_with fail
  refine (hp1 _ HX.out).mono ?_; rintro e w2 ⟨rfl, hb2⟩
  have HX := Lib.hid (HX.out.then_ hb2)
  have HB := Lib.hid (below_then HB.out hb2)
  clear hb2
  go_wp2_with fail
  go_ret
  exact ⟨rfl, HB.out⟩

theorem name_any (s : ByteArray) (r a n : Nat) (v : Value) (w : World) (hs0 : s.size ≤ maxLen) (ha : a ≤ s.size) (hn : n ≤ 1) (hB : Lx w r s a v) :
    Calls Try.prog 32 #[.pointer (some ⟨r, 0, none⟩), .int .i64 (n : Int)] w fun e w' => e = .returned (.bool (starts (s.data.toList.drop (a + n)))) ∧ Below w.heap.size w w' := by
  rw [starts_pk]
  have e1 : decide ((pk s (a + n)).toNat = 45) = (((pk s (a + n)).toNat : Int) == 45) := (byte_eq _ 45).symm
  have e2 : decide ((pk s (a + n + 1)).toNat = 45) = (((pk s (a + n + 1)).toNat : Int) == 45) := (byte_eq _ 45).symm
  rw [e1, e2]
  cases h1 : isB (pk s (a + n)) with
  | true => exact name_b s r a n v w hs0 ha hn hB h1
  | false =>
    cases h2 : (((pk s (a + n)).toNat : Int) == 45) with
    | false => exact name_no s r a n v w hs0 ha hn hB h1 h2
    | true =>
      cases h3 : isB (pk s (a + n + 1)) with
      | true => exact name_db s r a n v w hs0 ha hn hB h1 h2 h3
      | false => exact name_dd s r a n v w hs0 ha hn hB h1 h2 h3

theorem dgs_pk (s : ByteArray) (k : Nat) : (0 < dgs (s.data.toList.drop k)) ↔ isD (pk s k) = true := by
  by_cases h : k < s.size
  · rw [dgs_at s k h, pk_at h]; split <;> simp_all
  · rw [dgs_end s k (by omega), pk_end h]; decide
theorem sgn_pk (s : ByteArray) (k : Nat) : sgn (s.data.toList.drop k) = if (pk s k).toNat = 43 ∨ (pk s k).toNat = 45 then 1 else 0 := by
  by_cases h : k < s.size
  · rw [drop_at s k h, pk_at h]; rfl
  · rw [drop_end s k (by omega), pk_end h]; rfl
theorem dotted_pk (s : ByteArray) (k : Nat) : dotted (s.data.toList.drop k) = decide ((pk s k).toNat = 46) := by
  by_cases h : k < s.size
  · rw [drop_at s k h, pk_at h]; rfl
  · rw [drop_end s k (by omega), pk_end h]; rfl
theorem num_pk (s : ByteArray) (a b : Nat) (hb : b = a + sgn (s.data.toList.drop a)) : decide (0 < num (s.data.toList.drop a)) = (isD (pk s b) || (decide ((pk s b).toNat = 46) && isD (pk s (b + 1)))) := by
  have h1 := dgs_pk s b
  have h2 := dgs_pk s (b + 1)
  have h3 := dotted_pk s b
  rw [Bool.eq_iff_iff, decide_eq_true_eq]
  unfold num
  dsimp only
  generalize sgn (s.data.toList.drop a) = g at *
  simp only [List.drop_drop, ← Nat.add_assoc, ← hb]
  generalize hn : dgs (s.data.toList.drop b) = n at *
  cases hd : isD (pk s b) with
  | true =>
    have : 0 < n := h1.2 hd
    rw [Bool.true_or]
    refine iff_of_true ?_ rfl
    split
    · omega
    · rw [if_neg (by omega)]; omega
  | false =>
    have hn0 : n = 0 := by
      rcases Nat.eq_zero_or_pos n with h | h
      · exact h
      · rw [h1.1 h] at hd; cases hd
    subst hn0
    rw [Nat.add_zero, h3, Bool.false_or]
    cases hp : decide ((pk s b).toNat = 46) with
    | false => simp
    | true =>
      cases hq : isD (pk s (b + 1)) with
      | true => have := h2.2 hq; simp [this]; omega
      | false =>
        have : ¬ 0 < dgs (s.data.toList.drop (b + 1)) := fun h => by rw [h2.1 h] at hq; cases hq
        simp [this]

set_option maxHeartbeats 1000000 in
theorem number_plus_dig (s : ByteArray) (r a b : Nat) (v : Value) (w : World) (hs0 : s.size ≤ maxLen) (ha : a ≤ s.size) (hB : Lx w r s a v) (h43 : (((pk s a).toNat : Int) == 43) = true) (hb : b = a + 1) (e_d : isD (pk s b) = true) :
    Calls Try.prog 30 #[.pointer (some ⟨r, 0, none⟩)] w fun e w' => e = .returned (.bool true) ∧ Below w.heap.size w w' := by
  have hp0 := fun w hB => peek_any s r a 0 v w hs0 ha (by omega) hB
  have hp1 := fun w hB => peek_any s r a 1 v w hs0 ha (by omega) hB
  have hp2 := fun w hB => peek_any s r a 2 v w hs0 ha (by omega) hB
  rw [Nat.add_zero] at hp0
  have HX := Lib.hid hB
  have HB := Lib.hid (Below.refl w.heap.size w)
  clear hB hs0 ha
  obtain ⟨c, hc⟩ : ∃ c, c = pk s a := ⟨_, rfl⟩
  obtain ⟨d, hd⟩ : ∃ d, d = pk s b := ⟨_, rfl⟩
  obtain ⟨f, hf⟩ : ∃ f, f = pk s (b + 1) := ⟨_, rfl⟩
  rw [← hb, ← hd] at hp1
  rw [show a + 2 = b + 1 by omega, ← hf] at hp2
  rw [← hc] at hp0 h43
  rw [← hd] at e_d
  have H_d : ∀ w, Calls Try.prog 57 #[.int .u8 (d.toNat : Int)] w fun e w' => e = .returned (.bool true) ∧ w = w' := fun w => by have := digit_any d w; rwa [e_d] at this
  clear hc hd hf
  go_enter Try.func30, Try.ntmps30
  go_wp2_with fail
  refine (hp0 _ HX.out).mono ?_; rintro e w2 ⟨rfl, hb2⟩
  have HX := Lib.hid (HX.out.then_ hb2)
  have HB := Lib.hid (below_then HB.out hb2)
  clear hb2
  go_wp2_with fail
  refine (hp1 _ HX.out).mono ?_; rintro e w2 ⟨rfl, hb2⟩
  have HX := Lib.hid (HX.out.then_ hb2)
  have HB := Lib.hid (below_then HB.out hb2)
  clear hb2
  go_wp2_with fail
  refine (H_d _).mono ?_; rintro e w' ⟨rfl, rfl⟩
  go_wp2_with fail
  go_ret
  exact ⟨rfl, HB.out⟩

set_option maxHeartbeats 1000000 in
theorem number_plus_nodot (s : ByteArray) (r a b : Nat) (v : Value) (w : World) (hs0 : s.size ≤ maxLen) (ha : a ≤ s.size) (hB : Lx w r s a v) (h43 : (((pk s a).toNat : Int) == 43) = true) (hb : b = a + 1) (e_d : isD (pk s b) = false) (h46 : (((pk s b).toNat : Int) == 46) = false) :
    Calls Try.prog 30 #[.pointer (some ⟨r, 0, none⟩)] w fun e w' => e = .returned (.bool false) ∧ Below w.heap.size w w' := by
  have hp0 := fun w hB => peek_any s r a 0 v w hs0 ha (by omega) hB
  have hp1 := fun w hB => peek_any s r a 1 v w hs0 ha (by omega) hB
  have hp2 := fun w hB => peek_any s r a 2 v w hs0 ha (by omega) hB
  rw [Nat.add_zero] at hp0
  have HX := Lib.hid hB
  have HB := Lib.hid (Below.refl w.heap.size w)
  clear hB hs0 ha
  obtain ⟨c, hc⟩ : ∃ c, c = pk s a := ⟨_, rfl⟩
  obtain ⟨d, hd⟩ : ∃ d, d = pk s b := ⟨_, rfl⟩
  obtain ⟨f, hf⟩ : ∃ f, f = pk s (b + 1) := ⟨_, rfl⟩
  rw [← hb, ← hd] at hp1
  rw [show a + 2 = b + 1 by omega, ← hf] at hp2
  rw [← hc] at hp0 h43
  rw [← hd] at e_d
  have H_d : ∀ w, Calls Try.prog 57 #[.int .u8 (d.toNat : Int)] w fun e w' => e = .returned (.bool false) ∧ w = w' := fun w => by have := digit_any d w; rwa [e_d] at this
  rw [← hd] at h46
  clear hc hd hf
  go_enter Try.func30, Try.ntmps30
  go_wp2_with fail
  refine (hp0 _ HX.out).mono ?_; rintro e w2 ⟨rfl, hb2⟩
  have HX := Lib.hid (HX.out.then_ hb2)
  have HB := Lib.hid (below_then HB.out hb2)
  clear hb2
  go_wp2_with fail
  refine (hp1 _ HX.out).mono ?_; rintro e w2 ⟨rfl, hb2⟩
  have HX := Lib.hid (HX.out.then_ hb2)
  have HB := Lib.hid (below_then HB.out hb2)
  clear hb2
  go_wp2_with fail
  refine (H_d _).mono ?_; rintro e w' ⟨rfl, rfl⟩
  go_wp2_with fail
  refine (hp1 _ HX.out).mono ?_; rintro e w2 ⟨rfl, hb2⟩
  have HX := Lib.hid (HX.out.then_ hb2)
  have HB := Lib.hid (below_then HB.out hb2)
  clear hb2
  go_wp2_with fail
  go_ret
  exact ⟨rfl, HB.out⟩

set_option maxHeartbeats 1000000 in
theorem number_plus_dot (s : ByteArray) (r a b : Nat) (v : Value) (w : World) (hs0 : s.size ≤ maxLen) (ha : a ≤ s.size) (hB : Lx w r s a v) (h43 : (((pk s a).toNat : Int) == 43) = true) (hb : b = a + 1) (e_d : isD (pk s b) = false) (h46 : (((pk s b).toNat : Int) == 46) = true) :
    Calls Try.prog 30 #[.pointer (some ⟨r, 0, none⟩)] w fun e w' => e = .returned (.bool (isD (pk s (b + 1)))) ∧ Below w.heap.size w w' := by
  have hp0 := fun w hB => peek_any s r a 0 v w hs0 ha (by omega) hB
  have hp1 := fun w hB => peek_any s r a 1 v w hs0 ha (by omega) hB
  have hp2 := fun w hB => peek_any s r a 2 v w hs0 ha (by omega) hB
  rw [Nat.add_zero] at hp0
  have HX := Lib.hid hB
  have HB := Lib.hid (Below.refl w.heap.size w)
  clear hB hs0 ha
  obtain ⟨c, hc⟩ : ∃ c, c = pk s a := ⟨_, rfl⟩
  obtain ⟨d, hd⟩ : ∃ d, d = pk s b := ⟨_, rfl⟩
  obtain ⟨f, hf⟩ : ∃ f, f = pk s (b + 1) := ⟨_, rfl⟩
  rw [← hb, ← hd] at hp1
  rw [show a + 2 = b + 1 by omega, ← hf] at hp2
  rw [← hc] at hp0 h43
  rw [← hd] at e_d
  have H_d : ∀ w, Calls Try.prog 57 #[.int .u8 (d.toNat : Int)] w fun e w' => e = .returned (.bool false) ∧ w = w' := fun w => by have := digit_any d w; rwa [e_d] at this
  rw [← hd] at h46
  have H_f := digit_any f
  rw [← hf]
  clear hc hd hf
  go_enter Try.func30, Try.ntmps30
  go_wp2_with fail
  refine (hp0 _ HX.out).mono ?_; rintro e w2 ⟨rfl, hb2⟩
  have HX := Lib.hid (HX.out.then_ hb2)
  have HB := Lib.hid (below_then HB.out hb2)
  clear hb2
  go_wp2_with fail
  refine (hp1 _ HX.out).mono ?_; rintro e w2 ⟨rfl, hb2⟩
  have HX := Lib.hid (HX.out.then_ hb2)
  have HB := Lib.hid (below_then HB.out hb2)
  clear hb2
  go_wp2_with fail
  refine (H_d _).mono ?_; rintro e w' ⟨rfl, rfl⟩
  go_wp2_with fail
  refine (hp1 _ HX.out).mono ?_; rintro e w2 ⟨rfl, hb2⟩
  have HX := Lib.hid (HX.out.then_ hb2)
  have HB := Lib.hid (below_then HB.out hb2)
  clear hb2
  go_wp2_with fail
  refine (hp2 _ HX.out).mono ?_; rintro e w2 ⟨rfl, hb2⟩
  have HX := Lib.hid (HX.out.then_ hb2)
  have HB := Lib.hid (below_then HB.out hb2)
  clear hb2
  go_wp2_with fail
  refine (H_f _).mono ?_; rintro e w' ⟨rfl, rfl⟩
  go_wp2_with fail
  go_ret
  exact ⟨rfl, HB.out⟩

set_option maxHeartbeats 1000000 in
theorem number_minus_dig (s : ByteArray) (r a b : Nat) (v : Value) (w : World) (hs0 : s.size ≤ maxLen) (ha : a ≤ s.size) (hB : Lx w r s a v) (h43 : (((pk s a).toNat : Int) == 43) = false) (h45 : (((pk s a).toNat : Int) == 45) = true) (hb : b = a + 1) (e_d : isD (pk s b) = true) :
    Calls Try.prog 30 #[.pointer (some ⟨r, 0, none⟩)] w fun e w' => e = .returned (.bool true) ∧ Below w.heap.size w w' := by
  have hp0 := fun w hB => peek_any s r a 0 v w hs0 ha (by omega) hB
  have hp1 := fun w hB => peek_any s r a 1 v w hs0 ha (by omega) hB
  have hp2 := fun w hB => peek_any s r a 2 v w hs0 ha (by omega) hB
  rw [Nat.add_zero] at hp0
  have HX := Lib.hid hB
  have HB := Lib.hid (Below.refl w.heap.size w)
  clear hB hs0 ha
  obtain ⟨c, hc⟩ : ∃ c, c = pk s a := ⟨_, rfl⟩
  obtain ⟨d, hd⟩ : ∃ d, d = pk s b := ⟨_, rfl⟩
  obtain ⟨f, hf⟩ : ∃ f, f = pk s (b + 1) := ⟨_, rfl⟩
  rw [← hb, ← hd] at hp1
  rw [show a + 2 = b + 1 by omega, ← hf] at hp2
  rw [← hc] at hp0 h43 h45
  rw [← hd] at e_d
  have H_d : ∀ w, Calls Try.prog 57 #[.int .u8 (d.toNat : Int)] w fun e w' => e = .returned (.bool true) ∧ w = w' := fun w => by have := digit_any d w; rwa [e_d] at this
  clear hc hd hf
  go_enter Try.func30, Try.ntmps30
  go_wp2_with fail
  refine (hp0 _ HX.out).mono ?_; rintro e w2 ⟨rfl, hb2⟩
  have HX := Lib.hid (HX.out.then_ hb2)
  have HB := Lib.hid (below_then HB.out hb2)
  clear hb2
  go_wp2_with fail
  refine (hp1 _ HX.out).mono ?_; rintro e w2 ⟨rfl, hb2⟩
  have HX := Lib.hid (HX.out.then_ hb2)
  have HB := Lib.hid (below_then HB.out hb2)
  clear hb2
  go_wp2_with fail
  refine (H_d _).mono ?_; rintro e w' ⟨rfl, rfl⟩
  go_wp2_with fail
  go_ret
  exact ⟨rfl, HB.out⟩

set_option maxHeartbeats 1000000 in
theorem number_minus_nodot (s : ByteArray) (r a b : Nat) (v : Value) (w : World) (hs0 : s.size ≤ maxLen) (ha : a ≤ s.size) (hB : Lx w r s a v) (h43 : (((pk s a).toNat : Int) == 43) = false) (h45 : (((pk s a).toNat : Int) == 45) = true) (hb : b = a + 1) (e_d : isD (pk s b) = false) (h46 : (((pk s b).toNat : Int) == 46) = false) :
    Calls Try.prog 30 #[.pointer (some ⟨r, 0, none⟩)] w fun e w' => e = .returned (.bool false) ∧ Below w.heap.size w w' := by
  have hp0 := fun w hB => peek_any s r a 0 v w hs0 ha (by omega) hB
  have hp1 := fun w hB => peek_any s r a 1 v w hs0 ha (by omega) hB
  have hp2 := fun w hB => peek_any s r a 2 v w hs0 ha (by omega) hB
  rw [Nat.add_zero] at hp0
  have HX := Lib.hid hB
  have HB := Lib.hid (Below.refl w.heap.size w)
  clear hB hs0 ha
  obtain ⟨c, hc⟩ : ∃ c, c = pk s a := ⟨_, rfl⟩
  obtain ⟨d, hd⟩ : ∃ d, d = pk s b := ⟨_, rfl⟩
  obtain ⟨f, hf⟩ : ∃ f, f = pk s (b + 1) := ⟨_, rfl⟩
  rw [← hb, ← hd] at hp1
  rw [show a + 2 = b + 1 by omega, ← hf] at hp2
  rw [← hc] at hp0 h43 h45
  rw [← hd] at e_d
  have H_d : ∀ w, Calls Try.prog 57 #[.int .u8 (d.toNat : Int)] w fun e w' => e = .returned (.bool false) ∧ w = w' := fun w => by have := digit_any d w; rwa [e_d] at this
  rw [← hd] at h46
  clear hc hd hf
  go_enter Try.func30, Try.ntmps30
  go_wp2_with fail
  refine (hp0 _ HX.out).mono ?_; rintro e w2 ⟨rfl, hb2⟩
  have HX := Lib.hid (HX.out.then_ hb2)
  have HB := Lib.hid (below_then HB.out hb2)
  clear hb2
  go_wp2_with fail
  refine (hp1 _ HX.out).mono ?_; rintro e w2 ⟨rfl, hb2⟩
  have HX := Lib.hid (HX.out.then_ hb2)
  have HB := Lib.hid (below_then HB.out hb2)
  clear hb2
  go_wp2_with fail
  refine (H_d _).mono ?_; rintro e w' ⟨rfl, rfl⟩
  go_wp2_with fail
  refine (hp1 _ HX.out).mono ?_; rintro e w2 ⟨rfl, hb2⟩
  have HX := Lib.hid (HX.out.then_ hb2)
  have HB := Lib.hid (below_then HB.out hb2)
  clear hb2
  go_wp2_with fail
  go_ret
  exact ⟨rfl, HB.out⟩

set_option maxHeartbeats 1000000 in
theorem number_minus_dot (s : ByteArray) (r a b : Nat) (v : Value) (w : World) (hs0 : s.size ≤ maxLen) (ha : a ≤ s.size) (hB : Lx w r s a v) (h43 : (((pk s a).toNat : Int) == 43) = false) (h45 : (((pk s a).toNat : Int) == 45) = true) (hb : b = a + 1) (e_d : isD (pk s b) = false) (h46 : (((pk s b).toNat : Int) == 46) = true) :
    Calls Try.prog 30 #[.pointer (some ⟨r, 0, none⟩)] w fun e w' => e = .returned (.bool (isD (pk s (b + 1)))) ∧ Below w.heap.size w w' := by
  have hp0 := fun w hB => peek_any s r a 0 v w hs0 ha (by omega) hB
  have hp1 := fun w hB => peek_any s r a 1 v w hs0 ha (by omega) hB
  have hp2 := fun w hB => peek_any s r a 2 v w hs0 ha (by omega) hB
  rw [Nat.add_zero] at hp0
  have HX := Lib.hid hB
  have HB := Lib.hid (Below.refl w.heap.size w)
  clear hB hs0 ha
  obtain ⟨c, hc⟩ : ∃ c, c = pk s a := ⟨_, rfl⟩
  obtain ⟨d, hd⟩ : ∃ d, d = pk s b := ⟨_, rfl⟩
  obtain ⟨f, hf⟩ : ∃ f, f = pk s (b + 1) := ⟨_, rfl⟩
  rw [← hb, ← hd] at hp1
  rw [show a + 2 = b + 1 by omega, ← hf] at hp2
  rw [← hc] at hp0 h43 h45
  rw [← hd] at e_d
  have H_d : ∀ w, Calls Try.prog 57 #[.int .u8 (d.toNat : Int)] w fun e w' => e = .returned (.bool false) ∧ w = w' := fun w => by have := digit_any d w; rwa [e_d] at this
  rw [← hd] at h46
  have H_f := digit_any f
  rw [← hf]
  clear hc hd hf
  go_enter Try.func30, Try.ntmps30
  go_wp2_with fail
  refine (hp0 _ HX.out).mono ?_; rintro e w2 ⟨rfl, hb2⟩
  have HX := Lib.hid (HX.out.then_ hb2)
  have HB := Lib.hid (below_then HB.out hb2)
  clear hb2
  go_wp2_with fail
  refine (hp1 _ HX.out).mono ?_; rintro e w2 ⟨rfl, hb2⟩
  have HX := Lib.hid (HX.out.then_ hb2)
  have HB := Lib.hid (below_then HB.out hb2)
  clear hb2
  go_wp2_with fail
  refine (H_d _).mono ?_; rintro e w' ⟨rfl, rfl⟩
  go_wp2_with fail
  refine (hp1 _ HX.out).mono ?_; rintro e w2 ⟨rfl, hb2⟩
  have HX := Lib.hid (HX.out.then_ hb2)
  have HB := Lib.hid (below_then HB.out hb2)
  clear hb2
  go_wp2_with fail
  refine (hp2 _ HX.out).mono ?_; rintro e w2 ⟨rfl, hb2⟩
  have HX := Lib.hid (HX.out.then_ hb2)
  have HB := Lib.hid (below_then HB.out hb2)
  clear hb2
  go_wp2_with fail
  refine (H_f _).mono ?_; rintro e w' ⟨rfl, rfl⟩
  go_wp2_with fail
  go_ret
  exact ⟨rfl, HB.out⟩

set_option maxHeartbeats 1000000 in
theorem number_bare_dig (s : ByteArray) (r a b : Nat) (v : Value) (w : World) (hs0 : s.size ≤ maxLen) (ha : a ≤ s.size) (hB : Lx w r s a v) (h43 : (((pk s a).toNat : Int) == 43) = false) (h45 : (((pk s a).toNat : Int) == 45) = false) (hb : b = a) (e_d : isD (pk s b) = true) :
    Calls Try.prog 30 #[.pointer (some ⟨r, 0, none⟩)] w fun e w' => e = .returned (.bool true) ∧ Below w.heap.size w w' := by
  have hp0 := fun w hB => peek_any s r a 0 v w hs0 ha (by omega) hB
  have hp1 := fun w hB => peek_any s r a 1 v w hs0 ha (by omega) hB
  have hp2 := fun w hB => peek_any s r a 2 v w hs0 ha (by omega) hB
  rw [Nat.add_zero] at hp0
  have HX := Lib.hid hB
  have HB := Lib.hid (Below.refl w.heap.size w)
  clear hB hs0 ha
  obtain ⟨c, hc⟩ : ∃ c, c = pk s a := ⟨_, rfl⟩
  obtain ⟨d, hd⟩ : ∃ d, d = pk s b := ⟨_, rfl⟩
  obtain ⟨f, hf⟩ : ∃ f, f = pk s (b + 1) := ⟨_, rfl⟩
  subst hb
  rw [← hd] at hp0 hc
  rw [← hf] at hp1
  rw [← hd] at e_d h43 h45
  have H_d : ∀ w, Calls Try.prog 57 #[.int .u8 (d.toNat : Int)] w fun e w' => e = .returned (.bool true) ∧ w = w' := fun w => by have := digit_any d w; rwa [e_d] at this
  clear hc hd hf
  go_enter Try.func30, Try.ntmps30
  go_wp2_with fail
  refine (hp0 _ HX.out).mono ?_; rintro e w2 ⟨rfl, hb2⟩
  have HX := Lib.hid (HX.out.then_ hb2)
  have HB := Lib.hid (below_then HB.out hb2)
  clear hb2
  go_wp2_with fail
  refine (hp0 _ HX.out).mono ?_; rintro e w2 ⟨rfl, hb2⟩
  have HX := Lib.hid (HX.out.then_ hb2)
  have HB := Lib.hid (below_then HB.out hb2)
  clear hb2
  go_wp2_with fail
  refine (H_d _).mono ?_; rintro e w' ⟨rfl, rfl⟩
  go_wp2_with fail
  go_ret
  exact ⟨rfl, HB.out⟩

set_option maxHeartbeats 1000000 in
theorem number_bare_nodot (s : ByteArray) (r a b : Nat) (v : Value) (w : World) (hs0 : s.size ≤ maxLen) (ha : a ≤ s.size) (hB : Lx w r s a v) (h43 : (((pk s a).toNat : Int) == 43) = false) (h45 : (((pk s a).toNat : Int) == 45) = false) (hb : b = a) (e_d : isD (pk s b) = false) (h46 : (((pk s b).toNat : Int) == 46) = false) :
    Calls Try.prog 30 #[.pointer (some ⟨r, 0, none⟩)] w fun e w' => e = .returned (.bool false) ∧ Below w.heap.size w w' := by
  have hp0 := fun w hB => peek_any s r a 0 v w hs0 ha (by omega) hB
  have hp1 := fun w hB => peek_any s r a 1 v w hs0 ha (by omega) hB
  have hp2 := fun w hB => peek_any s r a 2 v w hs0 ha (by omega) hB
  rw [Nat.add_zero] at hp0
  have HX := Lib.hid hB
  have HB := Lib.hid (Below.refl w.heap.size w)
  clear hB hs0 ha
  obtain ⟨c, hc⟩ : ∃ c, c = pk s a := ⟨_, rfl⟩
  obtain ⟨d, hd⟩ : ∃ d, d = pk s b := ⟨_, rfl⟩
  obtain ⟨f, hf⟩ : ∃ f, f = pk s (b + 1) := ⟨_, rfl⟩
  subst hb
  rw [← hd] at hp0 hc
  rw [← hf] at hp1
  rw [← hd] at e_d h43 h45
  have H_d : ∀ w, Calls Try.prog 57 #[.int .u8 (d.toNat : Int)] w fun e w' => e = .returned (.bool false) ∧ w = w' := fun w => by have := digit_any d w; rwa [e_d] at this
  rw [← hd] at h46
  clear hc hd hf
  go_enter Try.func30, Try.ntmps30
  go_wp2_with fail
  refine (hp0 _ HX.out).mono ?_; rintro e w2 ⟨rfl, hb2⟩
  have HX := Lib.hid (HX.out.then_ hb2)
  have HB := Lib.hid (below_then HB.out hb2)
  clear hb2
  go_wp2_with fail
  refine (hp0 _ HX.out).mono ?_; rintro e w2 ⟨rfl, hb2⟩
  have HX := Lib.hid (HX.out.then_ hb2)
  have HB := Lib.hid (below_then HB.out hb2)
  clear hb2
  go_wp2_with fail
  refine (H_d _).mono ?_; rintro e w' ⟨rfl, rfl⟩
  go_wp2_with fail
  refine (hp0 _ HX.out).mono ?_; rintro e w2 ⟨rfl, hb2⟩
  have HX := Lib.hid (HX.out.then_ hb2)
  have HB := Lib.hid (below_then HB.out hb2)
  clear hb2
  go_wp2_with fail
  go_ret
  exact ⟨rfl, HB.out⟩

set_option maxHeartbeats 1000000 in
theorem number_bare_dot (s : ByteArray) (r a b : Nat) (v : Value) (w : World) (hs0 : s.size ≤ maxLen) (ha : a ≤ s.size) (hB : Lx w r s a v) (h43 : (((pk s a).toNat : Int) == 43) = false) (h45 : (((pk s a).toNat : Int) == 45) = false) (hb : b = a) (e_d : isD (pk s b) = false) (h46 : (((pk s b).toNat : Int) == 46) = true) :
    Calls Try.prog 30 #[.pointer (some ⟨r, 0, none⟩)] w fun e w' => e = .returned (.bool (isD (pk s (b + 1)))) ∧ Below w.heap.size w w' := by
  have hp0 := fun w hB => peek_any s r a 0 v w hs0 ha (by omega) hB
  have hp1 := fun w hB => peek_any s r a 1 v w hs0 ha (by omega) hB
  have hp2 := fun w hB => peek_any s r a 2 v w hs0 ha (by omega) hB
  rw [Nat.add_zero] at hp0
  have HX := Lib.hid hB
  have HB := Lib.hid (Below.refl w.heap.size w)
  clear hB hs0 ha
  obtain ⟨c, hc⟩ : ∃ c, c = pk s a := ⟨_, rfl⟩
  obtain ⟨d, hd⟩ : ∃ d, d = pk s b := ⟨_, rfl⟩
  obtain ⟨f, hf⟩ : ∃ f, f = pk s (b + 1) := ⟨_, rfl⟩
  subst hb
  rw [← hd] at hp0 hc
  rw [← hf] at hp1
  rw [← hd] at e_d h43 h45
  have H_d : ∀ w, Calls Try.prog 57 #[.int .u8 (d.toNat : Int)] w fun e w' => e = .returned (.bool false) ∧ w = w' := fun w => by have := digit_any d w; rwa [e_d] at this
  rw [← hd] at h46
  have H_f := digit_any f
  rw [← hf]
  clear hc hd hf
  go_enter Try.func30, Try.ntmps30
  go_wp2_with fail
  refine (hp0 _ HX.out).mono ?_; rintro e w2 ⟨rfl, hb2⟩
  have HX := Lib.hid (HX.out.then_ hb2)
  have HB := Lib.hid (below_then HB.out hb2)
  clear hb2
  go_wp2_with fail
  refine (hp0 _ HX.out).mono ?_; rintro e w2 ⟨rfl, hb2⟩
  have HX := Lib.hid (HX.out.then_ hb2)
  have HB := Lib.hid (below_then HB.out hb2)
  clear hb2
  go_wp2_with fail
  refine (H_d _).mono ?_; rintro e w' ⟨rfl, rfl⟩
  go_wp2_with fail
  refine (hp0 _ HX.out).mono ?_; rintro e w2 ⟨rfl, hb2⟩
  have HX := Lib.hid (HX.out.then_ hb2)
  have HB := Lib.hid (below_then HB.out hb2)
  clear hb2
  go_wp2_with fail
  refine (hp1 _ HX.out).mono ?_; rintro e w2 ⟨rfl, hb2⟩
  have HX := Lib.hid (HX.out.then_ hb2)
  have HB := Lib.hid (below_then HB.out hb2)
  clear hb2
  go_wp2_with fail
  refine (H_f _).mono ?_; rintro e w' ⟨rfl, rfl⟩
  go_wp2_with fail
  go_ret
  exact ⟨rfl, HB.out⟩

theorem number_any (s : ByteArray) (r a : Nat) (v : Value) (w : World) (hs0 : s.size ≤ maxLen) (ha : a ≤ s.size) (hB : Lx w r s a v) :
    Calls Try.prog 30 #[.pointer (some ⟨r, 0, none⟩)] w fun e w' => e = .returned (.bool (decide (0 < num (s.data.toList.drop a)))) ∧ Below w.heap.size w w' := by
  rw [num_pk s a _ rfl, sgn_pk]
  have e1 : ∀ b, decide ((pk s b).toNat = 46) = (((pk s b).toNat : Int) == 46) := fun b => (byte_eq _ 46).symm
  rw [e1]
  have d1 : (((pk s a).toNat : Int) == 43) = decide ((pk s a).toNat = 43) := byte_eq _ 43
  have d2 : (((pk s a).toNat : Int) == 45) = decide ((pk s a).toNat = 45) := byte_eq _ 45
  by_cases h1 : (pk s a).toNat = 43
  · rw [if_pos (.inl h1)]
    have h43 := d1.trans (decide_eq_true h1)
    cases h3 : isD (pk s (a + 1)) with
    | true => exact number_plus_dig s r a _ v w hs0 ha hB h43 rfl h3
    | false =>
      cases h4 : (((pk s (a + 1)).toNat : Int) == 46) with
      | false => exact number_plus_nodot s r a _ v w hs0 ha hB h43 rfl h3 h4
      | true => exact number_plus_dot s r a _ v w hs0 ha hB h43 rfl h3 h4
  · have h43 := d1.trans (decide_eq_false h1)
    by_cases h2 : (pk s a).toNat = 45
    · rw [if_pos (.inr h2)]
      have h45 := d2.trans (decide_eq_true h2)
      cases h3 : isD (pk s (a + 1)) with
      | true => exact number_minus_dig s r a _ v w hs0 ha hB h43 h45 rfl h3
      | false =>
        cases h4 : (((pk s (a + 1)).toNat : Int) == 46) with
        | false => exact number_minus_nodot s r a _ v w hs0 ha hB h43 h45 rfl h3 h4
        | true => exact number_minus_dot s r a _ v w hs0 ha hB h43 h45 rfl h3 h4
    · rw [if_neg (by omega)]
      have h45 := d2.trans (decide_eq_false h2)
      rw [Nat.add_zero]
      cases h3 : isD (pk s a) with
      | true => exact number_bare_dig s r a _ v w hs0 ha hB h43 h45 rfl h3
      | false =>
        cases h4 : (((pk s a).toNat : Int) == 46) with
        | false => exact number_bare_nodot s r a _ v w hs0 ha hB h43 h45 rfl h3 h4
        | true => exact number_bare_dot s r a _ v w hs0 ha hB h43 h45 rfl h3 h4

end Go.Proofs.Ytmicgfpiknibhaa
