/- What comes next in a text: the reference's One. -/
import Derived.Test.YtmicgfpiknibhaaLexMeas
import Derived.Test.YtmicgfpiknibhaaLexSign
namespace Go.Proofs.Ytmicgfpiknibhaa
open Go.RowKit
set_option linter.unusedSimpArgs false
set_option linter.unusedVariables false
attribute [local go_sem] cell?_ext frozen?_ext lt_size_ext

def optVal : Option Tk → Value
  | none => .agg #[.int .i64 0, .string { data := #[] }, .int .i64 0]
  | some t => t.val

/-- What comes next, arm by arm. -/
theorem one_comment {c : UInt8} {t : List UInt8} (h : c.toNat = 47 ∧ heads 42 t = true) : oneT (c :: t) = (none, 2 + behind (t.drop 1)) := by rw [oneT, if_pos h]
section
variable {c : UInt8} {t : List UInt8} (h1 : ¬ (c.toNat = 47 ∧ heads 42 t = true))
include h1
theorem one_blank (h : isS c = true) : oneT (c :: t) = (some ⟨20, [], 0⟩, runL isS (c :: t)) := by rw [oneT, if_neg h1, if_pos h]
variable (h2 : isS c = false)
include h2
theorem one_quote (h : c.toNat = 34 ∨ c.toNat = 39) : oneT (c :: t) = (some (quoted c.toNat t).1, (quoted c.toNat t).2) := by rw [oneT, if_neg h1, if_neg (by rw [h2]; simp), if_pos h]
variable (h3 : ¬ (c.toNat = 34 ∨ c.toNat = 39))
include h3
theorem one_num (h : 0 < num (c :: t)) : oneT (c :: t) = (some (measured (c :: t) (num (c :: t))).1, (measured (c :: t) (num (c :: t))).2) := by rw [oneT, if_neg h1, if_neg (by rw [h2]; simp), if_neg h3, if_pos h]
variable (h4 : ¬ 0 < num (c :: t))
include h4
theorem one_hash (h : c.toNat = 35 ∧ 0 < runL isG t) : oneT (c :: t) = (some ⟨4, t.take (runL isG t), 0⟩, 1 + runL isG t) := by rw [oneT, if_neg h1, if_neg (by rw [h2]; simp), if_neg h3, if_neg h4, if_pos h]
variable (h5 : ¬ (c.toNat = 35 ∧ 0 < runL isG t))
include h5
theorem one_at (h : c.toNat = 64 ∧ starts t = true) : oneT (c :: t) = (some ⟨3, t.take (runL isG t), 0⟩, 1 + runL isG t) := by rw [oneT, if_neg h1, if_neg (by rw [h2]; simp), if_neg h3, if_neg h4, if_neg h5, if_pos h]
variable (h6 : ¬ (c.toNat = 64 ∧ starts t = true))
include h6
theorem one_name (h : starts (c :: t) = true) : oneT (c :: t) = (some (named (c :: t)).1, (named (c :: t)).2) := by rw [oneT, if_neg h1, if_neg (by rw [h2]; simp), if_neg h3, if_neg h4, if_neg h5, if_neg h6, if_pos h]
variable (h7 : starts (c :: t) = false)
include h7
theorem one_sign (h : 0 < signK c.toNat) : oneT (c :: t) = (some ⟨signK c.toNat, [], 0⟩, 1) := by rw [oneT, if_neg h1, if_neg (by rw [h2]; simp), if_neg h3, if_neg h4, if_neg h5, if_neg h6, if_neg (by rw [h7]; simp), if_pos h]
theorem one_delim (h : ¬ 0 < signK c.toNat) : oneT (c :: t) = (some ⟨19, [c], 0⟩, 1) := by rw [oneT, if_neg h1, if_neg (by rw [h2]; simp), if_neg h3, if_neg h4, if_neg h5, if_neg h6, if_neg (by rw [h7]; simp), if_neg h]
end
theorem named_fun {l : List UInt8} {k : Nat} (hk : runL isG l = k) (h : heads 40 (l.drop k) = true) : named l = (⟨2, l.take k, 0⟩, k + 1) := by unfold named; rw [hk, if_pos h]
theorem named_name {l : List UInt8} {k : Nat} (hk : runL isG l = k) (h : heads 40 (l.drop k) = false) : named l = (⟨1, l.take k, 0⟩, k) := by unfold named; rw [hk, if_neg (by rw [h]; simp)]

def slashStar : ByteArray := { data := #[47, 42] }
def paren : ByteArray := { data := #[40] }
set_option maxHeartbeats 4000000 in
theorem ROne_comment (s : ByteArray) (a : Nat) (ha : a < s.size) (hs : s.size ≤ maxLen) (hc : s[a].toNat = 47 ∧ heads 42 (s.data.toList.drop (a + 1)) = true) (w : World) :
    Calls Try.prog 25 #[.string s, .int .i64 a] w fun e w' => e = .returned (.tuple #[optVal (oneT (s.data.toList.drop a)).1, .int .i64 ((a + (oneT (s.data.toList.drop a)).2 : Nat) : Int)]) ∧ Below w.heap.size w w' := by
  have hss := hs
  unfold maxLen at hs
  have h8 : s[a].toNat < 256 := s[a].toNat_lt
  have hX := drop_at s a ha
  have hsl : slashStar.size ≤ maxLen := by unfold maxLen; decide
  have hH1 : ∀ w, Calls Try.prog 43 #[.string s, .int .i64 a, .string { data := #[47, 42] }] w fun e w' => e = .returned (.bool (hasL (s.data.toList.drop a) slashStar.data.toList)) ∧ w = w' := fun w => RHas_any s slashStar a hss hsl (by omega) w
  have hhl : hasL (s.data.toList.drop a) slashStar.data.toList = (decide (s[a].toNat = 47) && heads 42 (s.data.toList.drop (a + 1))) := by rw [show slashStar.data.toList = [47, 42] from rfl, hasL_two, hX]; rfl
  rw [hhl] at hH1
  rw [hc.1, hc.2] at hH1
  have hE : oneT (s.data.toList.drop a) = (none, 2 + behind (s.data.toList.drop (a + 2))) := by rw [hX, one_comment hc, List.drop_drop]
  have ha2 : a + 2 ≤ s.size := by
    rcases Nat.lt_or_ge (a + 1) s.size with h | h
    · omega
    · have := hc.2; rw [heads_end 42 s (a + 1) h] at this; cases this
  have hB : ∀ w, Calls Try.prog 44 #[.string s, .int .i64 ((a : Int) + 2), .string { data := #[42, 47] }] w fun e w' => e = .returned (.int .i64 ((a + 2 + behind (s.data.toList.drop (a + 2)) : Nat) : Int)) ∧ w = w' := fun w => RBehind_any s (a + 2) hss ha2 w
  rw [hE]
  generalize behind (s.data.toList.drop (a + 2)) = k at *
  clear hc hX hhl hE hsl hss
  go_enter Try.func25, Try.ntmps25
  go_wp2_with fail
  refine (hH1 _).mono ?_; rintro e w' ⟨rfl, rfl⟩
  go_wp2_with fail
  refine (hB _).mono ?_; rintro e w' ⟨rfl, rfl⟩
  go_wp2_with fail
  refine bodyPost_ret (v := .tuple #[.agg #[.int .i64 0, .string { data := #[] }, .int .i64 0], .int .i64 ((a + 2 + k : Nat) : Int)]) (by simp [results, Try.results25, go_sem]) rfl ⟨by rw [show a + 2 + k = a + (2 + k) by omega]; rfl, ?_⟩
  (repeat (first | with_reducible exact Below.refl _ _ | with_reducible exact HB.out | with_reducible refine below_set ?_ (by first | (simp; done) | (simp; omega)) _ | with_reducible refine below_alloc ?_ _))

set_option maxHeartbeats 4000000 in
theorem ROne_blank (s : ByteArray) (a : Nat) (ha : a < s.size) (hs : s.size ≤ maxLen) (hc : ¬ (s[a].toNat = 47 ∧ heads 42 (s.data.toList.drop (a + 1)) = true)) (hb : isS s[a] = true) (w : World) :
    Calls Try.prog 25 #[.string s, .int .i64 a] w fun e w' => e = .returned (.tuple #[optVal (oneT (s.data.toList.drop a)).1, .int .i64 ((a + (oneT (s.data.toList.drop a)).2 : Nat) : Int)]) ∧ Below w.heap.size w w' := by
  have hss := hs
  unfold maxLen at hs
  have h8 : s[a].toNat < 256 := s[a].toNat_lt
  have hX := drop_at s a ha
  have hsl : slashStar.size ≤ maxLen := by unfold maxLen; decide
  have hH1 : ∀ w, Calls Try.prog 43 #[.string s, .int .i64 a, .string { data := #[47, 42] }] w fun e w' => e = .returned (.bool (hasL (s.data.toList.drop a) slashStar.data.toList)) ∧ w = w' := fun w => RHas_any s slashStar a hss hsl (by omega) w
  have hhl : hasL (s.data.toList.drop a) slashStar.data.toList = (decide (s[a].toNat = 47) && heads 42 (s.data.toList.drop (a + 1))) := by rw [show slashStar.data.toList = [47, 42] from rfl, hasL_two, hX]; rfl
  rw [hhl] at hH1
  have hf : (decide (s[a].toNat = 47) && heads 42 (s.data.toList.drop (a + 1))) = false := by
    rw [Bool.eq_false_iff]
    intro h
    rw [Bool.and_eq_true, decide_eq_true_eq] at h
    exact hc h
  rw [hf] at hH1
  have hbl := RBlank_any s[a]
  rw [hb] at hbl
  have hE : oneT (s.data.toList.drop a) = (some ⟨20, [], 0⟩, runL isS (s.data.toList.drop a)) := by rw [hX, one_blank hc hb]
  have hR := fun w => RBlanks_any s a (by omega) hss w
  have hk := runL_le isS (s.data.toList.drop a)
  rw [List.length_drop, len_data] at hk
  rw [hE]
  generalize runL isS (s.data.toList.drop a) = k at *
  have hkI : (a : Int) + (k : Int) ≤ (s.size : Int) := by omega
  clear hc hX hhl hE hsl hss hb hf hk
  go_enter Try.func25, Try.ntmps25
  go_wp2_with fail
  refine (hH1 _).mono ?_; rintro e w' ⟨rfl, rfl⟩
  go_wp2_with fail
  refine (hbl _).mono ?_; rintro e w' ⟨rfl, rfl⟩
  go_wp2_with fail
  refine (hR _).mono ?_; rintro e w' ⟨rfl, rfl⟩
  go_wp2_with fail
  refine bodyPost_ret (v := .tuple #[.agg #[.int .i64 20, .string { data := #[] }, .int .i64 0], .int .i64 ((a : Int) + (k : Int))]) (by simp [results, Try.results25, go_sem]) rfl ⟨by rw [show (a : Int) + (k : Int) = ((a + k : Nat) : Int) by omega]; rfl, ?_⟩
  (repeat (first | with_reducible exact Below.refl _ _ | with_reducible exact HB.out | with_reducible refine below_set ?_ (by first | (simp; done) | (simp; omega)) _ | with_reducible refine below_alloc ?_ _))

set_option maxHeartbeats 4000000 in
theorem ROne_quote (s : ByteArray) (a : Nat) (ha : a < s.size) (hs : s.size ≤ maxLen) (hc : ¬ (s[a].toNat = 47 ∧ heads 42 (s.data.toList.drop (a + 1)) = true)) (hb : isS s[a] = false) (hq : s[a].toNat = 34 ∨ s[a].toNat = 39) (w : World) :
    Calls Try.prog 25 #[.string s, .int .i64 a] w fun e w' => e = .returned (.tuple #[optVal (oneT (s.data.toList.drop a)).1, .int .i64 ((a + (oneT (s.data.toList.drop a)).2 : Nat) : Int)]) ∧ Below w.heap.size w w' := by
  have hss := hs
  unfold maxLen at hs
  have h8 : s[a].toNat < 256 := s[a].toNat_lt
  have hX := drop_at s a ha
  have hsl : slashStar.size ≤ maxLen := by unfold maxLen; decide
  have hH1 : ∀ w, Calls Try.prog 43 #[.string s, .int .i64 a, .string { data := #[47, 42] }] w fun e w' => e = .returned (.bool (hasL (s.data.toList.drop a) slashStar.data.toList)) ∧ w = w' := fun w => RHas_any s slashStar a hss hsl (by omega) w
  have hhl : hasL (s.data.toList.drop a) slashStar.data.toList = (decide (s[a].toNat = 47) && heads 42 (s.data.toList.drop (a + 1))) := by rw [show slashStar.data.toList = [47, 42] from rfl, hasL_two, hX]; rfl
  rw [hhl] at hH1
  have hf : (decide (s[a].toNat = 47) && heads 42 (s.data.toList.drop (a + 1))) = false := by
    rw [Bool.eq_false_iff]
    intro h
    rw [Bool.and_eq_true, decide_eq_true_eq] at h
    exact hc h
  rw [hf] at hH1
  have hbl := RBlank_any s[a]
  rw [hb] at hbl
  have hE : oneT (s.data.toList.drop a) = (some (quoted s[a].toNat (s.data.toList.drop (a + 1))).1, (quoted s[a].toNat (s.data.toList.drop (a + 1))).2) := by rw [hX, one_quote hc hb hq]
  have hQ : ∀ w, Calls Try.prog 47 #[.string s, .int .i64 a] w fun e w' => e = .returned (.tuple #[.agg #[.int .i64 ((quoted s[a].toNat (s.data.toList.drop (a + 1))).1.k : Int), .string (strOf (quoted s[a].toNat (s.data.toList.drop (a + 1))).1.x), .int .i64 (quoted s[a].toNat (s.data.toList.drop (a + 1))).1.n], .int .i64 ((a + (quoted s[a].toNat (s.data.toList.drop (a + 1))).2 : Nat) : Int)]) ∧ Below w.heap.size w w' := fun w => RQuoted_any s a ha hss w
  rw [hE]
  generalize quoted s[a].toNat (s.data.toList.drop (a + 1)) = Q at *
  by_cases h34 : s[a].toNat = 34
  · have e34 : ((s[a].toNat : Int) == 34) = true := by rw [h34]; rfl
    clear hq h34
    clear hc hX hhl hE hsl hss hb hf
    go_enter Try.func25, Try.ntmps25
    go_wp2_with fail
    refine (hH1 _).mono ?_; rintro e w' ⟨rfl, rfl⟩
    go_wp2_with fail
    refine (hbl _).mono ?_; rintro e w' ⟨rfl, rfl⟩
    go_wp2_with fail
    refine (hQ _).mono ?_; rintro e w2 ⟨rfl, hb2⟩
    have HBT := Lib.hid ((Blk.new w 23 #[.int .i64 0, .string { data := #[] }, .int .i64 0]).then_ hb2)
    have HB := Lib.hid (below_then (below_alloc (Below.refl w.heap.size w) (.cells #[.int .i64 0, .string { data := #[] }, .int .i64 0] 23)) hb2)
    have y0 : w2.cell? ⟨w.heap.size, 0, none⟩ = some (.int .i64 0) := HBT.out.cell 0
    have y1 : w2.cell? ⟨w.heap.size, 1, none⟩ = some (.string { data := #[] }) := HBT.out.cell 1
    have y2 : w2.cell? ⟨w.heap.size, 2, none⟩ = some (.int .i64 0) := HBT.out.cell 2
    have z0 : w2.frozen? ⟨w.heap.size, 0, none⟩ = false := HBT.out.frozen 0
    have z1 : w2.frozen? ⟨w.heap.size, 1, none⟩ = false := HBT.out.frozen 1
    have z2 : w2.frozen? ⟨w.heap.size, 2, none⟩ = false := HBT.out.frozen 2
    clear hb2
    go_wp2_with fail
    exact bodyPost_ret (v := .tuple #[.agg #[.int .i64 (Q.1.k : Int), .string (strOf Q.1.x), .int .i64 Q.1.n], .int .i64 ((a + Q.2 : Nat) : Int)]) (results_cell_tmp rfl rfl rfl (((HBT.out.put 0 (.int .i64 (Q.1.k : Int))).put 1 (.string (strOf Q.1.x))).put 2 (.int .i64 Q.1.n)) Try.underlying23 rfl (by kernel_rfl)) rfl
      ⟨rfl, below_set (below_set (below_set HB.out (Nat.le_refl _) _) (Nat.le_refl _) _) (Nat.le_refl _) _⟩
  · have e34 : ((s[a].toNat : Int) == 34) = false := beq_false_of_ne (by omega)
    have e39 : ((s[a].toNat : Int) == 39) = true := by rw [hq.resolve_left h34]; rfl
    clear hq h34
    clear hc hX hhl hE hsl hss hb hf
    go_enter Try.func25, Try.ntmps25
    go_wp2_with fail
    refine (hH1 _).mono ?_; rintro e w' ⟨rfl, rfl⟩
    go_wp2_with fail
    refine (hbl _).mono ?_; rintro e w' ⟨rfl, rfl⟩
    go_wp2_with fail
    refine (hQ _).mono ?_; rintro e w2 ⟨rfl, hb2⟩
    have HBT := Lib.hid ((Blk.new w 23 #[.int .i64 0, .string { data := #[] }, .int .i64 0]).then_ hb2)
    have HB := Lib.hid (below_then (below_alloc (Below.refl w.heap.size w) (.cells #[.int .i64 0, .string { data := #[] }, .int .i64 0] 23)) hb2)
    have y0 : w2.cell? ⟨w.heap.size, 0, none⟩ = some (.int .i64 0) := HBT.out.cell 0
    have y1 : w2.cell? ⟨w.heap.size, 1, none⟩ = some (.string { data := #[] }) := HBT.out.cell 1
    have y2 : w2.cell? ⟨w.heap.size, 2, none⟩ = some (.int .i64 0) := HBT.out.cell 2
    have z0 : w2.frozen? ⟨w.heap.size, 0, none⟩ = false := HBT.out.frozen 0
    have z1 : w2.frozen? ⟨w.heap.size, 1, none⟩ = false := HBT.out.frozen 1
    have z2 : w2.frozen? ⟨w.heap.size, 2, none⟩ = false := HBT.out.frozen 2
    clear hb2
    go_wp2_with fail
    exact bodyPost_ret (v := .tuple #[.agg #[.int .i64 (Q.1.k : Int), .string (strOf Q.1.x), .int .i64 Q.1.n], .int .i64 ((a + Q.2 : Nat) : Int)]) (results_cell_tmp rfl rfl rfl (((HBT.out.put 0 (.int .i64 (Q.1.k : Int))).put 1 (.string (strOf Q.1.x))).put 2 (.int .i64 Q.1.n)) Try.underlying23 rfl (by kernel_rfl)) rfl
      ⟨rfl, below_set (below_set (below_set HB.out (Nat.le_refl _) _) (Nat.le_refl _) _) (Nat.le_refl _) _⟩

set_option maxHeartbeats 4000000 in
theorem ROne_num (s : ByteArray) (a : Nat) (ha : a < s.size) (hs : s.size ≤ maxLen) (hc : ¬ (s[a].toNat = 47 ∧ heads 42 (s.data.toList.drop (a + 1)) = true)) (hb : isS s[a] = false) (hq : ¬ (s[a].toNat = 34 ∨ s[a].toNat = 39)) (hn : 0 < num (s.data.toList.drop a)) (w : World) :
    Calls Try.prog 25 #[.string s, .int .i64 a] w fun e w' => e = .returned (.tuple #[optVal (oneT (s.data.toList.drop a)).1, .int .i64 ((a + (oneT (s.data.toList.drop a)).2 : Nat) : Int)]) ∧ Below w.heap.size w w' := by
  have hss := hs
  unfold maxLen at hs
  have h8 : s[a].toNat < 256 := s[a].toNat_lt
  have hX := drop_at s a ha
  have hsl : slashStar.size ≤ maxLen := by unfold maxLen; decide
  have hH1 : ∀ w, Calls Try.prog 43 #[.string s, .int .i64 a, .string { data := #[47, 42] }] w fun e w' => e = .returned (.bool (hasL (s.data.toList.drop a) slashStar.data.toList)) ∧ w = w' := fun w => RHas_any s slashStar a hss hsl (by omega) w
  have hhl : hasL (s.data.toList.drop a) slashStar.data.toList = (decide (s[a].toNat = 47) && heads 42 (s.data.toList.drop (a + 1))) := by rw [show slashStar.data.toList = [47, 42] from rfl, hasL_two, hX]; rfl
  rw [hhl] at hH1
  have hf : (decide (s[a].toNat = 47) && heads 42 (s.data.toList.drop (a + 1))) = false := by
    rw [Bool.eq_false_iff]
    intro h
    rw [Bool.and_eq_true, decide_eq_true_eq] at h
    exact hc h
  rw [hf] at hH1
  have hbl := RBlank_any s[a]
  rw [hb] at hbl
  have e34 : ((s[a].toNat : Int) == 34) = false := beq_false_of_ne (fun h => hq (.inl (by omega)))
  have e39 : ((s[a].toNat : Int) == 39) = false := beq_false_of_ne (fun h => hq (.inr (by omega)))
  have hN := fun w => RNumAt_any s hss a ha w
  have hE : oneT (s.data.toList.drop a) = (some (measured (s.data.toList.drop a) (num (s.data.toList.drop a))).1, (measured (s.data.toList.drop a) (num (s.data.toList.drop a))).2) := by rw [hX, one_num hc hb hq (by rw [← hX]; exact hn)]
  have hnl := num_le (s.data.toList.drop a)
  rw [List.length_drop, len_data] at hnl
  rw [hE]
  have hM : ∀ w, Calls Try.prog 49 #[.string s, .int .i64 a, .int .i64 (num (s.data.toList.drop a) : Int)] w fun e w' => e = .returned (.tuple #[.agg #[.int .i64 ((measured (s.data.toList.drop a) (num (s.data.toList.drop a))).1.k : Int), .string (strOf (measured (s.data.toList.drop a) (num (s.data.toList.drop a))).1.x), .int .i64 (measured (s.data.toList.drop a) (num (s.data.toList.drop a))).1.n], .int .i64 ((a + (measured (s.data.toList.drop a) (num (s.data.toList.drop a))).2 : Nat) : Int)]) ∧ Below w.heap.size w w' := fun w => RMeasure5_any s a _ hn (by omega) hss w
  generalize measured (s.data.toList.drop a) (num (s.data.toList.drop a)) = Q at *
  generalize num (s.data.toList.drop a) = n at *
  have d0 : decide ((0 : Int) < (n : Int)) = true := decide_eq_true (by omega)
  have p0 : (0 : Int) < (n : Int) := by omega
  clear hc hX hhl hE hsl hss hb hf hq hn hnl
  go_enter Try.func25, Try.ntmps25
  go_wp2_with fail
  refine (hH1 _).mono ?_; rintro e w' ⟨rfl, rfl⟩
  go_wp2_with fail
  refine (hbl _).mono ?_; rintro e w' ⟨rfl, rfl⟩
  go_wp2_with fail
  refine (hN _).mono ?_; rintro e w' ⟨rfl, rfl⟩
  go_wp2_with fail
  refine (hM _).mono ?_; rintro e w2 ⟨rfl, hb2⟩
  have HBT := Lib.hid ((Blk.new w 23 #[.int .i64 0, .string { data := #[] }, .int .i64 0]).then_ hb2)
  have HB := Lib.hid (below_then (below_alloc (Below.refl w.heap.size w) (.cells #[.int .i64 0, .string { data := #[] }, .int .i64 0] 23)) hb2)
  have y0 : w2.cell? ⟨w.heap.size, 0, none⟩ = some (.int .i64 0) := HBT.out.cell 0
  have y1 : w2.cell? ⟨w.heap.size, 1, none⟩ = some (.string { data := #[] }) := HBT.out.cell 1
  have y2 : w2.cell? ⟨w.heap.size, 2, none⟩ = some (.int .i64 0) := HBT.out.cell 2
  have z0 : w2.frozen? ⟨w.heap.size, 0, none⟩ = false := HBT.out.frozen 0
  have z1 : w2.frozen? ⟨w.heap.size, 1, none⟩ = false := HBT.out.frozen 1
  have z2 : w2.frozen? ⟨w.heap.size, 2, none⟩ = false := HBT.out.frozen 2
  clear hb2
  go_wp2_with fail
  exact bodyPost_ret (v := .tuple #[.agg #[.int .i64 (Q.1.k : Int), .string (strOf Q.1.x), .int .i64 Q.1.n], .int .i64 ((a + Q.2 : Nat) : Int)]) (results_cell_tmp rfl rfl rfl (((HBT.out.put 0 (.int .i64 (Q.1.k : Int))).put 1 (.string (strOf Q.1.x))).put 2 (.int .i64 Q.1.n)) Try.underlying23 rfl (by kernel_rfl)) rfl
    ⟨rfl, below_set (below_set (below_set HB.out (Nat.le_refl _) _) (Nat.le_refl _) _) (Nat.le_refl _) _⟩

set_option maxHeartbeats 4000000 in
theorem ROne_hash (s : ByteArray) (a : Nat) (ha : a < s.size) (hs : s.size ≤ maxLen) (hc : ¬ (s[a].toNat = 47 ∧ heads 42 (s.data.toList.drop (a + 1)) = true)) (hb : isS s[a] = false) (hq : ¬ (s[a].toNat = 34 ∨ s[a].toNat = 39)) (hn : ¬ 0 < num (s.data.toList.drop a)) (hh : s[a].toNat = 35 ∧ 0 < runL isG (s.data.toList.drop (a + 1))) (w : World) :
    Calls Try.prog 25 #[.string s, .int .i64 a] w fun e w' => e = .returned (.tuple #[optVal (oneT (s.data.toList.drop a)).1, .int .i64 ((a + (oneT (s.data.toList.drop a)).2 : Nat) : Int)]) ∧ Below w.heap.size w w' := by
  have hss := hs
  unfold maxLen at hs
  have h8 : s[a].toNat < 256 := s[a].toNat_lt
  have hX := drop_at s a ha
  have hsl : slashStar.size ≤ maxLen := by unfold maxLen; decide
  have hH1 : ∀ w, Calls Try.prog 43 #[.string s, .int .i64 a, .string { data := #[47, 42] }] w fun e w' => e = .returned (.bool (hasL (s.data.toList.drop a) slashStar.data.toList)) ∧ w = w' := fun w => RHas_any s slashStar a hss hsl (by omega) w
  have hhl : hasL (s.data.toList.drop a) slashStar.data.toList = (decide (s[a].toNat = 47) && heads 42 (s.data.toList.drop (a + 1))) := by rw [show slashStar.data.toList = [47, 42] from rfl, hasL_two, hX]; rfl
  rw [hhl] at hH1
  have hf : (decide (s[a].toNat = 47) && heads 42 (s.data.toList.drop (a + 1))) = false := by
    rw [Bool.eq_false_iff]
    intro h
    rw [Bool.and_eq_true, decide_eq_true_eq] at h
    exact hc h
  rw [hf] at hH1
  have hbl := RBlank_any s[a]
  rw [hb] at hbl
  have e34 : ((s[a].toNat : Int) == 34) = false := beq_false_of_ne (fun h => hq (.inl (by omega)))
  have e39 : ((s[a].toNat : Int) == 39) = false := beq_false_of_ne (fun h => hq (.inr (by omega)))
  have hN := fun w => RNumAt_any s hss a ha w
  rw [show num (s.data.toList.drop a) = 0 by omega] at hN
  have hRu := fun w => RRun_any s (a + 1) (by omega) hss w
  have hrl := runL_le isG (s.data.toList.drop (a + 1))
  rw [List.length_drop, len_data] at hrl
  have ha1 : ((a + 1 : Nat) : Int) = (a : Int) + 1 := by omega
  rw [ha1] at hRu
  have hE : oneT (s.data.toList.drop a) = (some ⟨4, (s.data.toList.drop (a + 1)).take (runL isG (s.data.toList.drop (a + 1))), 0⟩, 1 + runL isG (s.data.toList.drop (a + 1))) := by rw [hX, one_hash hc hb hq (by rw [← hX]; exact hn) hh]
  have e35 : ((s[a].toNat : Int) == 35) = true := by rw [hh.1]; rfl
  have h0k := hh.2
  rw [hE]
  generalize hkk : runL isG (s.data.toList.drop (a + 1)) = k at *
  have d0 : decide ((0 : Int) < (k : Int)) = true := decide_eq_true (by omega)
  have p0 : (0 : Int) < (k : Int) := by omega
  have hkI : (a : Int) + 1 + (k : Int) ≤ (s.size : Int) := by omega
  clear hc hX hhl hE hsl hss hb hf hq hn hh hrl h0k hkk
  go_enter Try.func25, Try.ntmps25
  go_wp2_with fail
  refine (hH1 _).mono ?_; rintro e w' ⟨rfl, rfl⟩
  go_wp2_with fail
  refine (hbl _).mono ?_; rintro e w' ⟨rfl, rfl⟩
  go_wp2_with fail
  refine (hN _).mono ?_; rintro e w' ⟨rfl, rfl⟩
  go_wp2_with fail
  refine (hRu _).mono ?_; rintro e w' ⟨rfl, rfl⟩
  go_wp2_with fail
  refine bodyPost_ret (v := .tuple #[.agg #[.int .i64 4, .string (s.extract (a + 1) (a + 1 + k)), .int .i64 0], .int .i64 ((a : Int) + 1 + (k : Int))]) (by simp [results, Try.results25, go_sem]) rfl ⟨by rw [ext_str s (a + 1) (a + 1 + k) k (by omega), show (a : Int) + 1 + (k : Int) = ((a + (1 + k) : Nat) : Int) by omega]; rfl, ?_⟩
  (repeat (first | with_reducible exact Below.refl _ _ | with_reducible exact HB.out | with_reducible refine below_set ?_ (by first | (simp; done) | (simp; omega)) _ | with_reducible refine below_alloc ?_ _))

set_option maxHeartbeats 4000000 in
theorem ROne_at (s : ByteArray) (a : Nat) (ha : a < s.size) (hs : s.size ≤ maxLen) (hc : ¬ (s[a].toNat = 47 ∧ heads 42 (s.data.toList.drop (a + 1)) = true)) (hb : isS s[a] = false) (hq : ¬ (s[a].toNat = 34 ∨ s[a].toNat = 39)) (hn : ¬ 0 < num (s.data.toList.drop a)) (hh : ¬ (s[a].toNat = 35 ∧ 0 < runL isG (s.data.toList.drop (a + 1)))) (ht : s[a].toNat = 64 ∧ starts (s.data.toList.drop (a + 1)) = true) (w : World) :
    Calls Try.prog 25 #[.string s, .int .i64 a] w fun e w' => e = .returned (.tuple #[optVal (oneT (s.data.toList.drop a)).1, .int .i64 ((a + (oneT (s.data.toList.drop a)).2 : Nat) : Int)]) ∧ Below w.heap.size w w' := by
  have hss := hs
  unfold maxLen at hs
  have h8 : s[a].toNat < 256 := s[a].toNat_lt
  have hX := drop_at s a ha
  have hsl : slashStar.size ≤ maxLen := by unfold maxLen; decide
  have hH1 : ∀ w, Calls Try.prog 43 #[.string s, .int .i64 a, .string { data := #[47, 42] }] w fun e w' => e = .returned (.bool (hasL (s.data.toList.drop a) slashStar.data.toList)) ∧ w = w' := fun w => RHas_any s slashStar a hss hsl (by omega) w
  have hhl : hasL (s.data.toList.drop a) slashStar.data.toList = (decide (s[a].toNat = 47) && heads 42 (s.data.toList.drop (a + 1))) := by rw [show slashStar.data.toList = [47, 42] from rfl, hasL_two, hX]; rfl
  rw [hhl] at hH1
  have hf : (decide (s[a].toNat = 47) && heads 42 (s.data.toList.drop (a + 1))) = false := by
    rw [Bool.eq_false_iff]
    intro h
    rw [Bool.and_eq_true, decide_eq_true_eq] at h
    exact hc h
  rw [hf] at hH1
  have hbl := RBlank_any s[a]
  rw [hb] at hbl
  have e34 : ((s[a].toNat : Int) == 34) = false := beq_false_of_ne (fun h => hq (.inl (by omega)))
  have e39 : ((s[a].toNat : Int) == 39) = false := beq_false_of_ne (fun h => hq (.inr (by omega)))
  have hN := fun w => RNumAt_any s hss a ha w
  rw [show num (s.data.toList.drop a) = 0 by omega] at hN
  have hRu := fun w => RRun_any s (a + 1) (by omega) hss w
  have hrl := runL_le isG (s.data.toList.drop (a + 1))
  rw [List.length_drop, len_data] at hrl
  have ha1 : ((a + 1 : Nat) : Int) = (a : Int) + 1 := by omega
  rw [ha1] at hRu
  have hE : oneT (s.data.toList.drop a) = (some ⟨3, (s.data.toList.drop (a + 1)).take (runL isG (s.data.toList.drop (a + 1))), 0⟩, 1 + runL isG (s.data.toList.drop (a + 1))) := by rw [hX, one_at hc hb hq (by rw [← hX]; exact hn) hh ht]
  have e35 : ((s[a].toNat : Int) == 35) = false := beq_false_of_ne (by have := ht.1; omega)
  have e64 : ((s[a].toNat : Int) == 64) = true := by rw [ht.1]; rfl
  have hS := fun w => RStarts_any s (a + 1) hss (by omega) w
  rw [ht.2, ha1] at hS
  rw [hE]
  generalize hkk : runL isG (s.data.toList.drop (a + 1)) = k at *
  have hkI : (a : Int) + 1 + (k : Int) ≤ (s.size : Int) := by omega
  clear hc hX hhl hE hsl hss hb hf hq hn hh hrl hkk ht
  go_enter Try.func25, Try.ntmps25
  go_wp2_with fail
  refine (hH1 _).mono ?_; rintro e w' ⟨rfl, rfl⟩
  go_wp2_with fail
  refine (hbl _).mono ?_; rintro e w' ⟨rfl, rfl⟩
  go_wp2_with fail
  refine (hN _).mono ?_; rintro e w' ⟨rfl, rfl⟩
  go_wp2_with fail
  refine (hRu _).mono ?_; rintro e w' ⟨rfl, rfl⟩
  go_wp2_with fail
  refine (hS _).mono ?_; rintro e w' ⟨rfl, rfl⟩
  go_wp2_with fail
  refine (hRu _).mono ?_; rintro e w' ⟨rfl, rfl⟩
  go_wp2_with fail
  refine bodyPost_ret (v := .tuple #[.agg #[.int .i64 3, .string (s.extract (a + 1) (a + 1 + k)), .int .i64 0], .int .i64 ((a : Int) + 1 + (k : Int))]) (by simp [results, Try.results25, go_sem]) rfl ⟨by rw [ext_str s (a + 1) (a + 1 + k) k (by omega), show (a : Int) + 1 + (k : Int) = ((a + (1 + k) : Nat) : Int) by omega]; rfl, ?_⟩
  (repeat (first | with_reducible exact Below.refl _ _ | with_reducible exact HB.out | with_reducible refine below_set ?_ (by first | (simp; done) | (simp; omega)) _ | with_reducible refine below_alloc ?_ _))

set_option maxHeartbeats 4000000 in
theorem ROne_name (s : ByteArray) (a : Nat) (ha : a < s.size) (hs : s.size ≤ maxLen) (hc : ¬ (s[a].toNat = 47 ∧ heads 42 (s.data.toList.drop (a + 1)) = true)) (hb : isS s[a] = false) (hq : ¬ (s[a].toNat = 34 ∨ s[a].toNat = 39)) (hn : ¬ 0 < num (s.data.toList.drop a)) (hh : ¬ (s[a].toNat = 35 ∧ 0 < runL isG (s.data.toList.drop (a + 1)))) (ht : ¬ (s[a].toNat = 64 ∧ starts (s.data.toList.drop (a + 1)) = true)) (hm : starts (s.data.toList.drop a) = true) (w : World) :
    Calls Try.prog 25 #[.string s, .int .i64 a] w fun e w' => e = .returned (.tuple #[optVal (oneT (s.data.toList.drop a)).1, .int .i64 ((a + (oneT (s.data.toList.drop a)).2 : Nat) : Int)]) ∧ Below w.heap.size w w' := by
  have hss := hs
  unfold maxLen at hs
  have h8 : s[a].toNat < 256 := s[a].toNat_lt
  have hX := drop_at s a ha
  have hsl : slashStar.size ≤ maxLen := by unfold maxLen; decide
  have hH1 : ∀ w, Calls Try.prog 43 #[.string s, .int .i64 a, .string { data := #[47, 42] }] w fun e w' => e = .returned (.bool (hasL (s.data.toList.drop a) slashStar.data.toList)) ∧ w = w' := fun w => RHas_any s slashStar a hss hsl (by omega) w
  have hhl : hasL (s.data.toList.drop a) slashStar.data.toList = (decide (s[a].toNat = 47) && heads 42 (s.data.toList.drop (a + 1))) := by rw [show slashStar.data.toList = [47, 42] from rfl, hasL_two, hX]; rfl
  rw [hhl] at hH1
  have hf : (decide (s[a].toNat = 47) && heads 42 (s.data.toList.drop (a + 1))) = false := by
    rw [Bool.eq_false_iff]
    intro h
    rw [Bool.and_eq_true, decide_eq_true_eq] at h
    exact hc h
  rw [hf] at hH1
  have hbl := RBlank_any s[a]
  rw [hb] at hbl
  have e34 : ((s[a].toNat : Int) == 34) = false := beq_false_of_ne (fun h => hq (.inl (by omega)))
  have e39 : ((s[a].toNat : Int) == 39) = false := beq_false_of_ne (fun h => hq (.inr (by omega)))
  have hN := fun w => RNumAt_any s hss a ha w
  rw [show num (s.data.toList.drop a) = 0 by omega] at hN
  have hRu := fun w => RRun_any s (a + 1) (by omega) hss w
  have hrl := runL_le isG (s.data.toList.drop (a + 1))
  rw [List.length_drop, len_data] at hrl
  have ha1 : ((a + 1 : Nat) : Int) = (a : Int) + 1 := by omega
  rw [ha1] at hRu
  have h64 : isB s[a] = true → ¬ s[a].toNat = 64 ∧ ¬ s[a].toNat = 35 := fun h => by
    constructor <;> (intro h2; unfold isB at h; rw [h2] at h; revert h; decide)
  have hst := starts_at s a ha
  have hS := fun w => RStarts_any s a hss (by omega) w
  have hno : ¬ s[a].toNat = 64 ∧ ¬ s[a].toNat = 35 := by
    rw [hm] at hst
    by_cases h45 : s[a].toNat = 45
    · omega
    · rw [if_neg h45] at hst; exact h64 hst.symm
  have e35 : ((s[a].toNat : Int) == 35) = false := beq_false_of_ne (by omega)
  have e64 : ((s[a].toNat : Int) == 64) = false := beq_false_of_ne (by omega)
  have hE : oneT (s.data.toList.drop a) = (some (named (s.data.toList.drop a)).1, (named (s.data.toList.drop a)).2) := by
    have h := one_name (c := s[a]) (t := s.data.toList.drop (a + 1)) hc hb hq (by rw [← hX]; exact hn) hh ht (by rw [← hX]; exact hm)
    rw [← hX] at h; exact h
  rw [hm] at hS
  have hR2 := fun w => RRun_any s a (by omega) hss w
  have hk2 := runL_le isG (s.data.toList.drop a)
  rw [List.length_drop, len_data] at hk2
  have nf := @named_fun (s.data.toList.drop a) _ rfl
  have nn := @named_name (s.data.toList.drop a) _ rfl
  rw [List.drop_drop] at nf nn
  generalize runL isG (s.data.toList.drop (a + 1)) = k1 at *
  generalize runL isG (s.data.toList.drop a) = k at *
  have hpl : paren.size ≤ maxLen := by unfold maxLen; decide
  have hP : ∀ w, Calls Try.prog 43 #[.string s, .int .i64 ((a + k : Nat) : Int), .string { data := #[40] }] w fun e w' => e = .returned (.bool (heads 40 (s.data.toList.drop (a + k)))) ∧ w = w' := fun w => by
    have h := RHas_any s paren (a + k) hss hpl (by omega) w
    rw [show paren.data.toList = [40] from rfl, hasL_one] at h
    exact h
  obtain ⟨b, hbb⟩ : ∃ b, b = a + k := ⟨_, rfl⟩
  rw [← hbb] at hP nf nn
  have hbI : (a : Int) + (k : Int) = (b : Int) := by omega
  have hble : (b : Int) ≤ (s.size : Int) := by omega
  have hale : (a : Int) ≤ (b : Int) := by omega
  have hR : (b : Int) = ((a + k : Nat) : Int) := by omega
  have hxs : s.extract a b = strOf ((s.data.toList.drop a).take k) := ext_str s a b k (by omega)
  have HR := Lib.hid hR
  have HXS := Lib.hid hxs
  rw [hE]
  by_cases hp : heads 40 (s.data.toList.drop b) = true
  · rw [nf hp]
    rw [hp] at hP
    have HR2 : Hid ((b : Int) + 1 = ((a + (k + 1) : Nat) : Int)) := Lib.hid (by omega)
    have hlt : (b : Int) + 1 ≤ (s.size : Int) := by
      rcases Nat.lt_or_ge b s.size with h | h
      · omega
      · rw [heads_end 40 s b h] at hp; cases hp
    clear hc hX hhl hE hsl hss hb hf hq hn hh hrl ht hm hst h64 hno hk2 nf nn hpl hbb hR hxs hp
    go_enter Try.func25, Try.ntmps25
    go_wp2_with fail
    refine (hH1 _).mono ?_; rintro e w' ⟨rfl, rfl⟩
    go_wp2_with fail
    refine (hbl _).mono ?_; rintro e w' ⟨rfl, rfl⟩
    go_wp2_with fail
    refine (hN _).mono ?_; rintro e w' ⟨rfl, rfl⟩
    go_wp2_with fail
    refine (hRu _).mono ?_; rintro e w' ⟨rfl, rfl⟩
    go_wp2_with fail
    refine (hS _).mono ?_; rintro e w' ⟨rfl, rfl⟩
    go_wp2_with fail
    refine (hR2 _).mono ?_; rintro e w' ⟨rfl, rfl⟩
    go_wp2_with fail
    refine (hP _).mono ?_; rintro e w' ⟨rfl, rfl⟩
    go_wp2_with fail
    refine bodyPost_ret (v := .tuple #[.agg #[.int .i64 2, .string (s.extract a b), .int .i64 0], .int .i64 ((b : Int) + 1)]) (by simp [results, Try.results25, go_sem]) rfl ⟨by rw [HXS.out, HR2.out]; rfl, ?_⟩
    (repeat (first | with_reducible exact Below.refl _ _ | with_reducible exact HB.out | with_reducible refine below_set ?_ (by first | (simp; done) | (simp; omega)) _ | with_reducible refine below_alloc ?_ _))
  · have hp : heads 40 (s.data.toList.drop b) = false := by simpa using hp
    rw [nn hp]
    rw [hp] at hP
    clear hc hX hhl hE hsl hss hb hf hq hn hh hrl ht hm hst h64 hno hk2 nf nn hpl hbb hR hxs hp
    go_enter Try.func25, Try.ntmps25
    go_wp2_with fail
    refine (hH1 _).mono ?_; rintro e w' ⟨rfl, rfl⟩
    go_wp2_with fail
    refine (hbl _).mono ?_; rintro e w' ⟨rfl, rfl⟩
    go_wp2_with fail
    refine (hN _).mono ?_; rintro e w' ⟨rfl, rfl⟩
    go_wp2_with fail
    refine (hRu _).mono ?_; rintro e w' ⟨rfl, rfl⟩
    go_wp2_with fail
    refine (hS _).mono ?_; rintro e w' ⟨rfl, rfl⟩
    go_wp2_with fail
    refine (hR2 _).mono ?_; rintro e w' ⟨rfl, rfl⟩
    go_wp2_with fail
    refine (hP _).mono ?_; rintro e w' ⟨rfl, rfl⟩
    go_wp2_with fail
    refine bodyPost_ret (v := .tuple #[.agg #[.int .i64 1, .string (s.extract a b), .int .i64 0], .int .i64 (b : Int)]) (by simp [results, Try.results25, go_sem]) rfl ⟨by rw [HXS.out, HR.out]; rfl, ?_⟩
    (repeat (first | with_reducible exact Below.refl _ _ | with_reducible exact HB.out | with_reducible refine below_set ?_ (by first | (simp; done) | (simp; omega)) _ | with_reducible refine below_alloc ?_ _))

set_option maxHeartbeats 4000000 in
theorem ROne_sign (s : ByteArray) (a : Nat) (ha : a < s.size) (hs : s.size ≤ maxLen) (hc : ¬ (s[a].toNat = 47 ∧ heads 42 (s.data.toList.drop (a + 1)) = true)) (hb : isS s[a] = false) (hq : ¬ (s[a].toNat = 34 ∨ s[a].toNat = 39)) (hn : ¬ 0 < num (s.data.toList.drop a)) (hh : ¬ (s[a].toNat = 35 ∧ 0 < runL isG (s.data.toList.drop (a + 1)))) (ht : ¬ (s[a].toNat = 64 ∧ starts (s.data.toList.drop (a + 1)) = true)) (hm : starts (s.data.toList.drop a) = false) (hk : 0 < signK s[a].toNat) (w : World) :
    Calls Try.prog 25 #[.string s, .int .i64 a] w fun e w' => e = .returned (.tuple #[optVal (oneT (s.data.toList.drop a)).1, .int .i64 ((a + (oneT (s.data.toList.drop a)).2 : Nat) : Int)]) ∧ Below w.heap.size w w' := by
  have hss := hs
  unfold maxLen at hs
  have h8 : s[a].toNat < 256 := s[a].toNat_lt
  have hX := drop_at s a ha
  have hsl : slashStar.size ≤ maxLen := by unfold maxLen; decide
  have hH1 : ∀ w, Calls Try.prog 43 #[.string s, .int .i64 a, .string { data := #[47, 42] }] w fun e w' => e = .returned (.bool (hasL (s.data.toList.drop a) slashStar.data.toList)) ∧ w = w' := fun w => RHas_any s slashStar a hss hsl (by omega) w
  have hhl : hasL (s.data.toList.drop a) slashStar.data.toList = (decide (s[a].toNat = 47) && heads 42 (s.data.toList.drop (a + 1))) := by rw [show slashStar.data.toList = [47, 42] from rfl, hasL_two, hX]; rfl
  rw [hhl] at hH1
  have hf : (decide (s[a].toNat = 47) && heads 42 (s.data.toList.drop (a + 1))) = false := by
    rw [Bool.eq_false_iff]
    intro h
    rw [Bool.and_eq_true, decide_eq_true_eq] at h
    exact hc h
  rw [hf] at hH1
  have hbl := RBlank_any s[a]
  rw [hb] at hbl
  have e34 : ((s[a].toNat : Int) == 34) = false := beq_false_of_ne (fun h => hq (.inl (by omega)))
  have e39 : ((s[a].toNat : Int) == 39) = false := beq_false_of_ne (fun h => hq (.inr (by omega)))
  have hN := fun w => RNumAt_any s hss a ha w
  rw [show num (s.data.toList.drop a) = 0 by omega] at hN
  have hRu := fun w => RRun_any s (a + 1) (by omega) hss w
  have hrl := runL_le isG (s.data.toList.drop (a + 1))
  rw [List.length_drop, len_data] at hrl
  have ha1 : ((a + 1 : Nat) : Int) = (a : Int) + 1 := by omega
  rw [ha1] at hRu
  have hE : oneT (s.data.toList.drop a) = (some ⟨signK s[a].toNat, [], 0⟩, 1) := by
    have h := one_sign (c := s[a]) (t := s.data.toList.drop (a + 1)) hc hb hq (by rw [← hX]; exact hn) hh ht (by rw [← hX]; exact hm) hk
    rw [← hX] at h; exact h
  have hS := fun w => RStarts_any s a hss (by omega) w
  have hS1 := fun w => RStarts_any s (a + 1) hss (by omega) w
  rw [ha1] at hS1
  have hG := fun w => RSign_any s[a] w
  rw [hm] at hS
  rw [hE]
  generalize signK s[a].toNat = K at *
  have d0 : decide ((0 : Int) < (K : Int)) = true := decide_eq_true (by omega)
  have p0 : (0 : Int) < (K : Int) := by omega
  by_cases h35 : s[a].toNat = 35
  · have e35 : ((s[a].toNat : Int) == 35) = true := by rw [h35]; rfl
    have e64 : ((s[a].toNat : Int) == 64) = false := beq_false_of_ne (by omega)
    have hk0 : runL isG (s.data.toList.drop (a + 1)) = 0 := by
      rcases Nat.eq_zero_or_pos (runL isG (s.data.toList.drop (a + 1))) with h | h
      · exact h
      · exact absurd ⟨h35, h⟩ hh
    rw [hk0] at hRu
    clear h35 hk0 hS1
    clear hc hX hhl hE hsl hss hb hf hq hn hh hrl ht hm hk
    go_enter Try.func25, Try.ntmps25
    go_wp2_with fail
    refine (hH1 _).mono ?_; rintro e w' ⟨rfl, rfl⟩
    go_wp2_with fail
    refine (hbl _).mono ?_; rintro e w' ⟨rfl, rfl⟩
    go_wp2_with fail
    refine (hN _).mono ?_; rintro e w' ⟨rfl, rfl⟩
    go_wp2_with fail
    refine (hRu _).mono ?_; rintro e w' ⟨rfl, rfl⟩
    go_wp2_with fail
    refine (hS _).mono ?_; rintro e w' ⟨rfl, rfl⟩
    go_wp2_with fail
    refine (hG _).mono ?_; rintro e w' ⟨rfl, rfl⟩
    go_wp2_with fail
    refine bodyPost_ret (v := .tuple #[.agg #[.int .i64 (K : Int), .string { data := #[] }, .int .i64 0], .int .i64 ((a : Int) + 1)]) (by simp [results, Try.results25, go_sem]) rfl ⟨by rw [show (a : Int) + 1 = ((a + 1 : Nat) : Int) by omega]; rfl, ?_⟩
    (repeat (first | with_reducible exact Below.refl _ _ | with_reducible exact HB.out | with_reducible refine below_set ?_ (by first | (simp; done) | (simp; omega)) _ | with_reducible refine below_alloc ?_ _))
  · have e35 : ((s[a].toNat : Int) == 35) = false := beq_false_of_ne (by omega)
    generalize runL isG (s.data.toList.drop (a + 1)) = k1 at *
    by_cases h64 : s[a].toNat = 64
    · have e64 : ((s[a].toNat : Int) == 64) = true := by rw [h64]; rfl
      have hs1 : starts (s.data.toList.drop (a + 1)) = false := by
        rw [Bool.eq_false_iff]; exact fun h => ht ⟨h64, h⟩
      rw [hs1] at hS1
      clear h35 h64 hs1
      clear hc hX hhl hE hsl hss hb hf hq hn hh hrl ht hm hk
      go_enter Try.func25, Try.ntmps25
      go_wp2_with fail
      refine (hH1 _).mono ?_; rintro e w' ⟨rfl, rfl⟩
      go_wp2_with fail
      refine (hbl _).mono ?_; rintro e w' ⟨rfl, rfl⟩
      go_wp2_with fail
      refine (hN _).mono ?_; rintro e w' ⟨rfl, rfl⟩
      go_wp2_with fail
      refine (hRu _).mono ?_; rintro e w' ⟨rfl, rfl⟩
      go_wp2_with fail
      refine (hS1 _).mono ?_; rintro e w' ⟨rfl, rfl⟩
      go_wp2_with fail
      refine (hS _).mono ?_; rintro e w' ⟨rfl, rfl⟩
      go_wp2_with fail
      refine (hG _).mono ?_; rintro e w' ⟨rfl, rfl⟩
      go_wp2_with fail
      refine bodyPost_ret (v := .tuple #[.agg #[.int .i64 (K : Int), .string { data := #[] }, .int .i64 0], .int .i64 ((a : Int) + 1)]) (by simp [results, Try.results25, go_sem]) rfl ⟨by rw [show (a : Int) + 1 = ((a + 1 : Nat) : Int) by omega]; rfl, ?_⟩
      (repeat (first | with_reducible exact Below.refl _ _ | with_reducible exact HB.out | with_reducible refine below_set ?_ (by first | (simp; done) | (simp; omega)) _ | with_reducible refine below_alloc ?_ _))
    · have e64 : ((s[a].toNat : Int) == 64) = false := beq_false_of_ne (by omega)
      clear h35 h64 hS1
      clear hc hX hhl hE hsl hss hb hf hq hn hh hrl ht hm hk
      go_enter Try.func25, Try.ntmps25
      go_wp2_with fail
      refine (hH1 _).mono ?_; rintro e w' ⟨rfl, rfl⟩
      go_wp2_with fail
      refine (hbl _).mono ?_; rintro e w' ⟨rfl, rfl⟩
      go_wp2_with fail
      refine (hN _).mono ?_; rintro e w' ⟨rfl, rfl⟩
      go_wp2_with fail
      refine (hRu _).mono ?_; rintro e w' ⟨rfl, rfl⟩
      go_wp2_with fail
      refine (hS _).mono ?_; rintro e w' ⟨rfl, rfl⟩
      go_wp2_with fail
      refine (hG _).mono ?_; rintro e w' ⟨rfl, rfl⟩
      go_wp2_with fail
      refine bodyPost_ret (v := .tuple #[.agg #[.int .i64 (K : Int), .string { data := #[] }, .int .i64 0], .int .i64 ((a : Int) + 1)]) (by simp [results, Try.results25, go_sem]) rfl ⟨by rw [show (a : Int) + 1 = ((a + 1 : Nat) : Int) by omega]; rfl, ?_⟩
      (repeat (first | with_reducible exact Below.refl _ _ | with_reducible exact HB.out | with_reducible refine below_set ?_ (by first | (simp; done) | (simp; omega)) _ | with_reducible refine below_alloc ?_ _))

set_option maxHeartbeats 4000000 in
theorem ROne_delim (s : ByteArray) (a : Nat) (ha : a < s.size) (hs : s.size ≤ maxLen) (hc : ¬ (s[a].toNat = 47 ∧ heads 42 (s.data.toList.drop (a + 1)) = true)) (hb : isS s[a] = false) (hq : ¬ (s[a].toNat = 34 ∨ s[a].toNat = 39)) (hn : ¬ 0 < num (s.data.toList.drop a)) (hh : ¬ (s[a].toNat = 35 ∧ 0 < runL isG (s.data.toList.drop (a + 1)))) (ht : ¬ (s[a].toNat = 64 ∧ starts (s.data.toList.drop (a + 1)) = true)) (hm : starts (s.data.toList.drop a) = false) (hk : ¬ 0 < signK s[a].toNat) (w : World) :
    Calls Try.prog 25 #[.string s, .int .i64 a] w fun e w' => e = .returned (.tuple #[optVal (oneT (s.data.toList.drop a)).1, .int .i64 ((a + (oneT (s.data.toList.drop a)).2 : Nat) : Int)]) ∧ Below w.heap.size w w' := by
  have hss := hs
  unfold maxLen at hs
  have h8 : s[a].toNat < 256 := s[a].toNat_lt
  have hX := drop_at s a ha
  have hsl : slashStar.size ≤ maxLen := by unfold maxLen; decide
  have hH1 : ∀ w, Calls Try.prog 43 #[.string s, .int .i64 a, .string { data := #[47, 42] }] w fun e w' => e = .returned (.bool (hasL (s.data.toList.drop a) slashStar.data.toList)) ∧ w = w' := fun w => RHas_any s slashStar a hss hsl (by omega) w
  have hhl : hasL (s.data.toList.drop a) slashStar.data.toList = (decide (s[a].toNat = 47) && heads 42 (s.data.toList.drop (a + 1))) := by rw [show slashStar.data.toList = [47, 42] from rfl, hasL_two, hX]; rfl
  rw [hhl] at hH1
  have hf : (decide (s[a].toNat = 47) && heads 42 (s.data.toList.drop (a + 1))) = false := by
    rw [Bool.eq_false_iff]
    intro h
    rw [Bool.and_eq_true, decide_eq_true_eq] at h
    exact hc h
  rw [hf] at hH1
  have hbl := RBlank_any s[a]
  rw [hb] at hbl
  have e34 : ((s[a].toNat : Int) == 34) = false := beq_false_of_ne (fun h => hq (.inl (by omega)))
  have e39 : ((s[a].toNat : Int) == 39) = false := beq_false_of_ne (fun h => hq (.inr (by omega)))
  have hN := fun w => RNumAt_any s hss a ha w
  rw [show num (s.data.toList.drop a) = 0 by omega] at hN
  have hRu := fun w => RRun_any s (a + 1) (by omega) hss w
  have hrl := runL_le isG (s.data.toList.drop (a + 1))
  rw [List.length_drop, len_data] at hrl
  have ha1 : ((a + 1 : Nat) : Int) = (a : Int) + 1 := by omega
  rw [ha1] at hRu
  have hE : oneT (s.data.toList.drop a) = (some ⟨19, [s[a]], 0⟩, 1) := by
    have h := one_delim (c := s[a]) (t := s.data.toList.drop (a + 1)) hc hb hq (by rw [← hX]; exact hn) hh ht (by rw [← hX]; exact hm) hk
    rw [← hX] at h; exact h
  have hS := fun w => RStarts_any s a hss (by omega) w
  have hS1 := fun w => RStarts_any s (a + 1) hss (by omega) w
  rw [ha1] at hS1
  have hG := fun w => RSign_any s[a] w
  rw [hm] at hS
  rw [hE]
  rw [show signK s[a].toNat = 0 by omega] at hG
  have HXS : Hid (s.extract a (a + 1) = strOf [s[a]]) := Lib.hid (by rw [ext_str s a (a + 1) 1 (by omega), hX]; rfl)
  by_cases h35 : s[a].toNat = 35
  · have e35 : ((s[a].toNat : Int) == 35) = true := by rw [h35]; rfl
    have e64 : ((s[a].toNat : Int) == 64) = false := beq_false_of_ne (by omega)
    have hk0 : runL isG (s.data.toList.drop (a + 1)) = 0 := by
      rcases Nat.eq_zero_or_pos (runL isG (s.data.toList.drop (a + 1))) with h | h
      · exact h
      · exact absurd ⟨h35, h⟩ hh
    rw [hk0] at hRu
    clear h35 hk0 hS1
    clear hc hX hhl hE hsl hss hb hf hq hn hh hrl ht hm hk
    go_enter Try.func25, Try.ntmps25
    go_wp2_with fail
    refine (hH1 _).mono ?_; rintro e w' ⟨rfl, rfl⟩
    go_wp2_with fail
    refine (hbl _).mono ?_; rintro e w' ⟨rfl, rfl⟩
    go_wp2_with fail
    refine (hN _).mono ?_; rintro e w' ⟨rfl, rfl⟩
    go_wp2_with fail
    refine (hRu _).mono ?_; rintro e w' ⟨rfl, rfl⟩
    go_wp2_with fail
    refine (hS _).mono ?_; rintro e w' ⟨rfl, rfl⟩
    go_wp2_with fail
    refine (hG _).mono ?_; rintro e w' ⟨rfl, rfl⟩
    go_wp2_with fail
    refine bodyPost_ret (v := .tuple #[.agg #[.int .i64 19, .string (s.extract a (a + 1)), .int .i64 0], .int .i64 ((a : Int) + 1)]) (by simp [results, Try.results25, go_sem]) rfl ⟨by rw [HXS.out, show (a : Int) + 1 = ((a + 1 : Nat) : Int) by omega]; rfl, ?_⟩
    (repeat (first | with_reducible exact Below.refl _ _ | with_reducible exact HB.out | with_reducible refine below_set ?_ (by first | (simp; done) | (simp; omega)) _ | with_reducible refine below_alloc ?_ _))
  · have e35 : ((s[a].toNat : Int) == 35) = false := beq_false_of_ne (by omega)
    generalize runL isG (s.data.toList.drop (a + 1)) = k1 at *
    by_cases h64 : s[a].toNat = 64
    · have e64 : ((s[a].toNat : Int) == 64) = true := by rw [h64]; rfl
      have hs1 : starts (s.data.toList.drop (a + 1)) = false := by
        rw [Bool.eq_false_iff]; exact fun h => ht ⟨h64, h⟩
      rw [hs1] at hS1
      clear h35 h64 hs1
      clear hc hX hhl hE hsl hss hb hf hq hn hh hrl ht hm hk
      go_enter Try.func25, Try.ntmps25
      go_wp2_with fail
      refine (hH1 _).mono ?_; rintro e w' ⟨rfl, rfl⟩
      go_wp2_with fail
      refine (hbl _).mono ?_; rintro e w' ⟨rfl, rfl⟩
      go_wp2_with fail
      refine (hN _).mono ?_; rintro e w' ⟨rfl, rfl⟩
      go_wp2_with fail
      refine (hRu _).mono ?_; rintro e w' ⟨rfl, rfl⟩
      go_wp2_with fail
      refine (hS1 _).mono ?_; rintro e w' ⟨rfl, rfl⟩
      go_wp2_with fail
      refine (hS _).mono ?_; rintro e w' ⟨rfl, rfl⟩
      go_wp2_with fail
      refine (hG _).mono ?_; rintro e w' ⟨rfl, rfl⟩
      go_wp2_with fail
      refine bodyPost_ret (v := .tuple #[.agg #[.int .i64 19, .string (s.extract a (a + 1)), .int .i64 0], .int .i64 ((a : Int) + 1)]) (by simp [results, Try.results25, go_sem]) rfl ⟨by rw [HXS.out, show (a : Int) + 1 = ((a + 1 : Nat) : Int) by omega]; rfl, ?_⟩
      (repeat (first | with_reducible exact Below.refl _ _ | with_reducible exact HB.out | with_reducible refine below_set ?_ (by first | (simp; done) | (simp; omega)) _ | with_reducible refine below_alloc ?_ _))
    · have e64 : ((s[a].toNat : Int) == 64) = false := beq_false_of_ne (by omega)
      clear h35 h64 hS1
      clear hc hX hhl hE hsl hss hb hf hq hn hh hrl ht hm hk
      go_enter Try.func25, Try.ntmps25
      go_wp2_with fail
      refine (hH1 _).mono ?_; rintro e w' ⟨rfl, rfl⟩
      go_wp2_with fail
      refine (hbl _).mono ?_; rintro e w' ⟨rfl, rfl⟩
      go_wp2_with fail
      refine (hN _).mono ?_; rintro e w' ⟨rfl, rfl⟩
      go_wp2_with fail
      refine (hRu _).mono ?_; rintro e w' ⟨rfl, rfl⟩
      go_wp2_with fail
      refine (hS _).mono ?_; rintro e w' ⟨rfl, rfl⟩
      go_wp2_with fail
      refine (hG _).mono ?_; rintro e w' ⟨rfl, rfl⟩
      go_wp2_with fail
      refine bodyPost_ret (v := .tuple #[.agg #[.int .i64 19, .string (s.extract a (a + 1)), .int .i64 0], .int .i64 ((a : Int) + 1)]) (by simp [results, Try.results25, go_sem]) rfl ⟨by rw [HXS.out, show (a : Int) + 1 = ((a + 1 : Nat) : Int) by omega]; rfl, ?_⟩
      (repeat (first | with_reducible exact Below.refl _ _ | with_reducible exact HB.out | with_reducible refine below_set ?_ (by first | (simp; done) | (simp; omega)) _ | with_reducible refine below_alloc ?_ _))

theorem ROne_any (s : ByteArray) (a : Nat) (ha : a < s.size) (hs : s.size ≤ maxLen) (w : World) :
    Calls Try.prog 25 #[.string s, .int .i64 a] w fun e w' => e = .returned (.tuple #[optVal (oneT (s.data.toList.drop a)).1, .int .i64 ((a + (oneT (s.data.toList.drop a)).2 : Nat) : Int)]) ∧ Below w.heap.size w w' := by
  by_cases hc : s[a].toNat = 47 ∧ heads 42 (s.data.toList.drop (a + 1)) = true
  · exact ROne_comment s a ha hs hc w
  · cases hb : isS s[a] with
    | true => exact ROne_blank s a ha hs hc hb w
    | false =>
      by_cases hq : s[a].toNat = 34 ∨ s[a].toNat = 39
      · exact ROne_quote s a ha hs hc hb hq w
      · by_cases hn : 0 < num (s.data.toList.drop a)
        · exact ROne_num s a ha hs hc hb hq hn w
        · by_cases hh : s[a].toNat = 35 ∧ 0 < runL isG (s.data.toList.drop (a + 1))
          · exact ROne_hash s a ha hs hc hb hq hn hh w
          · by_cases ht : s[a].toNat = 64 ∧ starts (s.data.toList.drop (a + 1)) = true
            · exact ROne_at s a ha hs hc hb hq hn hh ht w
            · cases hm : starts (s.data.toList.drop a) with
              | true => exact ROne_name s a ha hs hc hb hq hn hh ht hm w
              | false =>
                by_cases hk : 0 < signK s[a].toNat
                · exact ROne_sign s a ha hs hc hb hq hn hh ht hm hk w
                · exact ROne_delim s a ha hs hc hb hq hn hh ht hm hk w

end Go.Proofs.Ytmicgfpiknibhaa
