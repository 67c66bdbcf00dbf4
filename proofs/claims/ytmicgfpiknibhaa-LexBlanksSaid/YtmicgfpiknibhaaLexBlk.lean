/- More blanks where there is one: plain. -/
import Derived.Test.YtmicgfpiknibhaaLexFit
namespace Go.Proofs.Ytmicgfpiknibhaa
open Go.RowKit
set_option linter.unusedVariables false

/-- Behind a blank nothing is looked at. -/
theorem hd_sp {p : UInt8 → Bool} (hp : p 32 = false) (l z : List UInt8) : hd p (l ++ 32 :: z) = hd p l := by
  cases l with
  | nil => exact hp
  | cons c t => rfl
theorem run_sp {p : UInt8 → Bool} (hp : p 32 = false) : ∀ (l z : List UInt8), runL p (l ++ 32 :: z) = runL p l
  | [], z => by show runL p (32 :: z) = 0; rw [runL, if_neg (by rw [hp]; simp)]
  | c :: t, z => by rw [List.cons_append, runL, runL, run_sp hp t z]
theorem heads_sp {n : Nat} (hn : n ≠ 32) (l z : List UInt8) : heads n (l ++ 32 :: z) = heads n l := by
  cases l with
  | nil => exact decide_eq_false (by show ¬ 32 = n; omega)
  | cons c t => rfl
theorem dashed_sp (l z : List UInt8) : dashed (l ++ 32 :: z) = dashed l := by
  cases l with
  | nil => rfl
  | cons c t => rfl
theorem starts_sp (l z : List UInt8) : starts (l ++ 32 :: z) = starts l := by
  cases l with
  | nil => rfl
  | cons c t => rw [List.cons_append, starts, starts, dashed_sp]
theorem dgs_sp (l z : List UInt8) : dgs (l ++ 32 :: z) = dgs l := by
  rw [← runL_dgs, ← runL_dgs, run_sp rfl]
theorem sgn_sp (l z : List UInt8) : sgn (l ++ 32 :: z) = sgn l := by
  cases l with
  | nil => rfl
  | cons c t => rfl
theorem drop_sp {l : List UInt8} {k : Nat} (h : k ≤ l.length) (z : List UInt8) : (l ++ 32 :: z).drop k = l.drop k ++ 32 :: z := by
  rw [List.drop_append, show k - l.length = 0 by omega, List.drop_zero]
theorem take_sp {l : List UInt8} {k : Nat} (h : k ≤ l.length) (z : List UInt8) : (l ++ 32 :: z).take k = l.take k := by
  rw [List.take_append, show k - l.length = 0 by omega, List.take_zero, List.append_nil]
theorem num_sp (l z : List UInt8) : num (l ++ 32 :: z) = num l := by
  have h1 := sgn_le l
  have h2 := dgs_le (l.drop (sgn l))
  rw [List.length_drop] at h2
  unfold num
  dsimp only
  rw [sgn_sp, drop_sp h1, dgs_sp, drop_sp (show sgn l + dgs (l.drop (sgn l)) ≤ l.length by omega), dotted_hd, dotted_hd, heads_sp (by decide)]
  by_cases h3 : heads 46 (l.drop (sgn l + dgs (l.drop (sgn l)))) = true
  · have h4 : sgn l + dgs (l.drop (sgn l)) < l.length := by
      rcases Nat.lt_or_ge (sgn l + dgs (l.drop (sgn l))) l.length with h | h
      · exact h
      · rw [List.drop_eq_nil_of_le h] at h3; cases h3
    rw [drop_sp (show sgn l + dgs (l.drop (sgn l)) + 1 ≤ l.length by omega), dgs_sp]
  · have h4 : heads 46 (l.drop (sgn l + dgs (l.drop (sgn l)))) = false := by simpa using h3
    rw [h4]
    simp only [Bool.false_eq_true, false_and, if_false]
theorem named_sp (l z : List UInt8) : named (l ++ 32 :: z) = named l := by
  have h1 := runL_le isG l
  unfold named
  rw [run_sp rfl, drop_sp h1, heads_sp (by decide), take_sp h1]
theorem measured_sp (l z : List UInt8) (n : Nat) (hn : n ≤ l.length) : measured (l ++ 32 :: z) n = measured l n := by
  have h1 := runL_le isG (l.drop n)
  unfold measured
  dsimp only
  rw [drop_sp hn, take_sp hn, heads_sp (by decide), starts_sp, run_sp rfl, take_sp h1]
/-- A string that is shut, or broken off, ahead of the blank. -/
theorem quoted_sp (q : Nat) (hq : q = 34 ∨ q = 39) (l z : List UInt8) (h : runL (qp q) l < l.length) : quoted q (l ++ 32 :: z) = quoted q l := by
  have e : ∀ (l z : List UInt8), runL (qp q) l < l.length → runL (qp q) (l ++ 32 :: z) = runL (qp q) l := by
    intro l z
    induction l with
    | nil => intro h; simp at h
    | cons c t ih =>
      intro h
      rw [List.cons_append, runL, runL]
      rw [runL] at h
      by_cases hp : qp q c = true
      · rw [if_pos hp] at h ⊢
        rw [if_pos hp, ih (by simp at h; omega)]
      · rw [if_neg hp, if_neg hp]
  have er := e l z h
  unfold quoted
  dsimp only
  rw [er, drop_sp (Nat.le_of_lt h), take_sp (Nat.le_of_lt h)]
  cases hd : l.drop (runL (qp q) l) with
  | nil => have := congrArg List.length hd; rw [List.length_drop] at this; simp at this; omega
  | cons d u => rfl
theorem quoted_open (q : Nat) (hq : q = 34 ∨ q = 39) (l : List UInt8) (h : runL (qp q) l = l.length) (z : List UInt8) : ∃ t n, quoted q (l ++ [32]) = (t, n) ∧ t.k = 5 ∧ n = l.length + 2 := by
  have hall : ∀ c ∈ l, qp q c = true := by
    have := run_all (p := qp q) l
    rw [h, List.take_length] at this
    exact this
  have hr : runL (qp q) (l ++ [32]) = l.length + 1 := by
    rw [run_app l [32] hall]
    congr 1
    have : qp q 32 = true := by rcases hq with rfl | rfl <;> rfl
    rw [runL, if_pos this]; rfl
  have hd : (l ++ [32]).drop (l.length + 1) = [] := List.drop_eq_nil_of_le (by simp)
  exact ⟨_, _, quoted_end hr hd, rfl, by omega⟩

/-- A comment that ends ahead of the blank, or does not. -/
theorem behind_sp : ∀ (l z : List UInt8), (∃ k, k ≤ l.length ∧ behind l = k ∧ ∀ z, behind (l ++ 32 :: z) = k) ∨ (∀ z, behind (l ++ 32 :: z) = l.length + 1 + behind z)
  | [], z => .inr fun z => by
    show behind (32 :: z) = 0 + 1 + behind z
    rw [behind, if_neg (fun h => by have := h.1; simp at this)]; omega
  | c :: t, z => by
    by_cases h : c.toNat = 42 ∧ heads 47 t = true
    · refine .inl ⟨2, ?_, ?_, fun z => ?_⟩
      · cases t with
        | nil => cases h.2
        | cons d u => simp
      · rw [behind, if_pos h]
      · rw [List.cons_append, behind, heads_sp (by decide), if_pos h]
    · rcases behind_sp t z with ⟨k, h1, h2, h3⟩ | h3
      · refine .inl ⟨k + 1, by simp; omega, by rw [behind, if_neg h, h2], fun z => ?_⟩
        rw [List.cons_append, behind, heads_sp (by decide), if_neg h, h3]
      · refine .inr fun z => ?_
        rw [List.cons_append, behind, heads_sp (by decide), if_neg h, h3, List.length_cons]; omega

/-- What is cut ahead of a blank: the same whatever stands behind it; or all is blank; or a string or a comment goes on. -/
theorem one_sp (s : List UInt8) (hs : s ≠ []) :
    (∃ o n, 1 ≤ n ∧ n ≤ s.length ∧ ∀ z, oneT (s ++ 32 :: z) = (o, n)) ∨
    (∀ z, oneT (s ++ 32 :: z) = (some ⟨20, [], 0⟩, s.length + runL isS (32 :: z))) ∨
    (∃ t, t.k = 5 ∧ oneT (s ++ [32]) = (some t, s.length + 1)) ∨
    (∀ z, oneT (s ++ 32 :: z) = (none, s.length + 1 + behind z)) := by
  cases s with
  | nil => exact absurd rfl hs
  | cons c t =>
    have hc1 : ∀ z, heads 42 (t ++ 32 :: z) = heads 42 t := fun z => heads_sp (by decide) t z
    by_cases h1 : c.toNat = 47 ∧ heads 42 t = true
    · -- a comment
      have hl : 0 < t.length := by cases t with | nil => cases h1.2 | cons d u => simp
      rcases behind_sp (t.drop 1) [] with ⟨k, hk1, hk2, hk3⟩ | hk3
      · rw [List.length_drop] at hk1
        refine .inl ⟨none, 2 + k, by omega, by simp; omega, fun z => ?_⟩
        rw [List.cons_append, one_comment (by rw [hc1]; exact h1), drop_sp hl, hk3]
      · refine .inr (.inr (.inr fun z => ?_))
        rw [List.cons_append, one_comment (by rw [hc1]; exact h1), drop_sp hl, hk3, List.length_drop, List.length_cons]
        congr 1; omega
    have h1z : ∀ z, ¬ (c.toNat = 47 ∧ heads 42 (t ++ 32 :: z) = true) := fun z h => h1 (by rw [hc1] at h; exact h)
    cases h2 : isS c with
    | true =>
      -- blanks
      by_cases hall : runL isS (c :: t) = (c :: t).length
      · refine .inr (.inl fun z => ?_)
        have hm : ∀ d ∈ c :: t, isS d = true := by
          have := run_all (p := isS) (c :: t)
          rw [hall, List.take_length] at this
          exact this
        have e := one_blank (c := c) (t := t ++ 32 :: z) (h1z z) h2
        rw [List.cons_append, e, ← List.cons_append, run_app _ _ hm]
      · left
        have hle := runL_le isS (c :: t)
        have e : ∀ (l z : List UInt8), runL isS l < l.length → runL isS (l ++ 32 :: z) = runL isS l := by
          intro l z
          induction l with
          | nil => intro h; simp at h
          | cons d u ih =>
            intro h
            rw [List.cons_append, runL, runL]
            rw [runL] at h
            by_cases hp : isS d = true
            · rw [if_pos hp] at h ⊢
              rw [if_pos hp, ih (by simp at h; omega)]
            · rw [if_neg hp, if_neg hp]
        have h0 : 1 ≤ runL isS (c :: t) := by rw [runL, if_pos h2]; omega
        refine ⟨some ⟨20, [], 0⟩, runL isS (c :: t), h0, hle, fun z => ?_⟩
        have e2 := one_blank (c := c) (t := t ++ 32 :: z) (h1z z) h2
        rw [List.cons_append, e2, ← List.cons_append, e _ z (by omega)]
    | false =>
    by_cases h3 : c.toNat = 34 ∨ c.toNat = 39
    · -- a string
      have hle := runL_le (qp c.toNat) t
      by_cases hop : runL (qp c.toNat) t = t.length
      · obtain ⟨u, n, e, hk, hn⟩ := quoted_open c.toNat h3 t hop []
        refine .inr (.inr (.inl ⟨u, hk, ?_⟩))
        rw [List.cons_append, one_quote (h1z []) h2 h3, e, hn, List.length_cons]
      · left
        have hb := quoted_bd c.toNat t
        refine ⟨some (quoted c.toNat t).1, (quoted c.toNat t).2, hb.1, by simpa using hb.2, fun z => ?_⟩
        rw [List.cons_append, one_quote (h1z z) h2 h3, quoted_sp c.toNat h3 t z (by omega)]
    have hnz : ∀ z, num (c :: (t ++ 32 :: z)) = num (c :: t) := fun z => num_sp (c :: t) z
    by_cases h4 : 0 < num (c :: t)
    · left
      have hnl := num_le (c :: t)
      have hb := measured_bd (c :: t) (num (c :: t)) hnl
      refine ⟨some (measured (c :: t) (num (c :: t))).1, (measured (c :: t) (num (c :: t))).2, Nat.le_trans h4 hb.1, hb.2, fun z => ?_⟩
      rw [List.cons_append, one_num (h1z z) h2 h3 (by rw [hnz]; exact h4), hnz, ← List.cons_append, measured_sp _ z _ hnl]
    have h4z : ∀ z, ¬ 0 < num (c :: (t ++ 32 :: z)) := fun z => by rw [hnz]; exact h4
    have hrz : ∀ z, runL isG (t ++ 32 :: z) = runL isG t := fun z => run_sp rfl t z
    have hrl := runL_le isG t
    by_cases h5 : c.toNat = 35 ∧ 0 < runL isG t
    · left
      refine ⟨some ⟨4, t.take (runL isG t), 0⟩, 1 + runL isG t, by omega, by simp; omega, fun z => ?_⟩
      rw [List.cons_append, one_hash (h1z z) h2 h3 (h4z z) (by rw [hrz]; exact h5), hrz, take_sp hrl]
    have h5z : ∀ z, ¬ (c.toNat = 35 ∧ 0 < runL isG (t ++ 32 :: z)) := fun z => by rw [hrz]; exact h5
    have hsz : ∀ z, starts (t ++ 32 :: z) = starts t := fun z => starts_sp t z
    by_cases h6 : c.toNat = 64 ∧ starts t = true
    · left
      refine ⟨some ⟨3, t.take (runL isG t), 0⟩, 1 + runL isG t, by omega, by simp; omega, fun z => ?_⟩
      rw [List.cons_append, one_at (h1z z) h2 h3 (h4z z) (h5z z) (by rw [hsz]; exact h6), hrz, take_sp hrl]
    have h6z : ∀ z, ¬ (c.toNat = 64 ∧ starts (t ++ 32 :: z) = true) := fun z => by rw [hsz]; exact h6
    have hcz : ∀ z, starts (c :: (t ++ 32 :: z)) = starts (c :: t) := fun z => starts_sp (c :: t) z
    cases h7 : starts (c :: t) with
    | true =>
      left
      have hb := named_bd (c :: t) h7
      refine ⟨some (named (c :: t)).1, (named (c :: t)).2, hb.1, hb.2, fun z => ?_⟩
      rw [List.cons_append, one_name (h1z z) h2 h3 (h4z z) (h5z z) (h6z z) (by rw [hcz]; exact h7), ← List.cons_append, named_sp]
    | false =>
    have h7z : ∀ z, starts (c :: (t ++ 32 :: z)) = false := fun z => by rw [hcz]; exact h7
    by_cases h8 : 0 < signK c.toNat
    · exact .inl ⟨some ⟨signK c.toNat, [], 0⟩, 1, Nat.le_refl _, by simp, fun z => by rw [List.cons_append, one_sign (h1z z) h2 h3 (h4z z) (h5z z) (h6z z) (h7z z) h8]⟩
    · exact .inl ⟨some ⟨19, [c], 0⟩, 1, Nat.le_refl _, by simp, fun z => by rw [List.cons_append, one_delim (h1z z) h2 h3 (h4z z) (h5z z) (h6z z) (h7z z) h8]⟩

theorem cut_blank (t : List UInt8) : cut (32 :: t) = ⟨20, [], 0⟩ :: cut (t.drop (runL isS t)) := by
  have e := one_blank (c := 32) (t := t) (fun h => by have := h.1; simp at this) rfl
  rw [cut_step (by simp), e, runL, if_pos (show isS 32 = true from rfl)]
  rfl
theorem behind_two (t : List UInt8) : behind (9 :: 10 :: t) = 2 + behind t := by
  rw [behind, if_neg (fun h => by have := h.1; simp at this), behind, if_neg (fun h => by have := h.1; simp at this)]; omega

/-- More blanks where there is one change nothing, if the blank is not a string's. -/
theorem cut_blanks : ∀ (n : Nat) (s : List UInt8), s.length ≤ n → (∀ t, cut (s ++ 32 :: t) = cut (s ++ 32 :: 9 :: 10 :: t)) ∨ (∃ A x, cut (s ++ [32]) = A ++ [x] ∧ x.k = 5)
  | 0, s, h => by
    obtain rfl : s = [] := List.length_eq_zero_iff.1 (by omega)
    refine .inl fun t => ?_
    rw [List.nil_append, List.nil_append, cut_blank, cut_blank]
    have e1 : runL isS (9 :: 10 :: t) = runL isS t + 1 + 1 := by
      rw [runL, if_pos (show isS 9 = true from rfl), runL, if_pos (show isS 10 = true from rfl)]
    rw [e1]; rfl
  | n + 1, s, h => by
    by_cases hs : s = []
    · subst hs; exact cut_blanks 0 [] (Nat.le_refl _)
    have hne : ∀ z, s ++ 32 :: z ≠ [] := fun z => by simp
    rcases one_sp s hs with ⟨o, m, hm1, hm2, hall⟩ | hall | ⟨t, hk, he⟩ | hall
    · have hl : (s.drop m).length ≤ n := by rw [List.length_drop]; omega
      have hst : ∀ z, cut (s ++ 32 :: z) = o.toList ++ cut (s.drop m ++ 32 :: z) := fun z => by
        rw [cut_step (hne z), hall z, drop_sp hm2]
      rcases cut_blanks n (s.drop m) hl with ih | ⟨A, x, h1, h2⟩
      · exact .inl fun t => by rw [hst, hst, ih]
      · refine .inr ⟨o.toList ++ A, x, ?_, h2⟩
        rw [hst, h1, List.append_assoc]
    · refine .inl fun t => ?_
      rw [cut_step (hne _), cut_step (hne _), hall, hall]
      have e1 : ∀ z, (s ++ 32 :: z).drop (s.length + runL isS (32 :: z)) = z.drop (runL isS z) := fun z => by
        rw [drop_run, runL, if_pos (show isS 32 = true from rfl)]; rfl
      dsimp only
      rw [e1, e1]
      have e2 : runL isS (9 :: 10 :: t) = runL isS t + 1 + 1 := by
        rw [runL, if_pos (show isS 9 = true from rfl), runL, if_pos (show isS 10 = true from rfl)]
      rw [e2]; rfl
    · refine .inr ⟨[], t, ?_, hk⟩
      rw [cut_step (hne _), he]
      dsimp only
      rw [List.drop_eq_nil_of_le (by simp), cut_nil]; rfl
    · refine .inl fun t => ?_
      rw [cut_step (hne _), cut_step (hne _), hall, hall]
      have e1 : ∀ z, (s ++ 32 :: z).drop (s.length + 1 + behind z) = z.drop (behind z) := fun z => by
        rw [show s.length + 1 + behind z = s.length + (behind z + 1) by omega, drop_run]; rfl
      dsimp only
      rw [e1, e1, behind_two]
      show [] ++ cut (t.drop (behind t)) = [] ++ cut ((9 :: 10 :: t).drop (2 + behind t))
      rw [show 2 + behind t = behind t + 1 + 1 by omega]
      rfl
theorem cut_more (s t : List UInt8) (hl : (cut (s ++ [32])).getLast?.map (·.k) = some 20) : cut (s ++ 32 :: t) = cut (s ++ 32 :: 9 :: 10 :: t) := by
  rcases cut_blanks s.length s (Nat.le_refl _) with h | ⟨A, x, h1, h2⟩
  · exact h t
  · rw [h1] at hl
    simp [h2] at hl

end Go.Proofs.Ytmicgfpiknibhaa
