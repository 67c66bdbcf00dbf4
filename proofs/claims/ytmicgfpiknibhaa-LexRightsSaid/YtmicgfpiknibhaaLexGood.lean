/- Right tokens, plain: their texts, which tokens a text is cut into, and where a token's text may end. -/
import Derived.Test.YtmicgfpiknibhaaLexOne
import Derived.Test.YtmicgfpiknibhaaLexBack
namespace Go.Proofs.Ytmicgfpiknibhaa

/-- A token's text, by kind. -/
def signB (k : Int) : UInt8 := ([58, 59, 44, 40, 41, 91, 93, 123, 125] : List UInt8).getD (k - 10).toNat 0
def quoteB (x : List UInt8) : UInt8 := if x.any (fun c => decide (c.toNat = 34)) = true then 39 else 34
def textT (t : Tk) : Option (List UInt8) :=
  if t.k = 1 ∨ t.k = 19 then some t.x
  else if t.k = 2 then some (t.x ++ [40])
  else if t.k = 3 then some (64 :: t.x)
  else if t.k = 4 then some (35 :: t.x)
  else if t.k = 5 then some (quoteB t.x :: (t.x ++ [quoteB t.x]))
  else if t.k = 7 then some (byt (prtI t.n))
  else if t.k = 8 then some (byt (prtI t.n) ++ [37])
  else if t.k = 9 then some (byt (prtI t.n) ++ t.x)
  else if 10 ≤ t.k ∧ t.k ≤ 18 then some [signB t.k]
  else if t.k = 20 then some [32]
  else none
def tx (t : Tk) : List UInt8 := (textT t).getD []
def rightT (t : Tk) : Bool := (textT t).isSome && decide (cut (tx t) = [t])

/-- Does a list begin with such a byte? -/
def hd (p : UInt8 → Bool) : List UInt8 → Bool
  | [] => false
  | c :: _ => p c
theorem hd_run (p : UInt8 → Bool) (l : List UInt8) : hd p l = decide (0 < runL p l) := by
  cases l with
  | nil => rfl
  | cons c t => unfold hd runL; cases h : p c <;> simp [h]
theorem run_none {p : UInt8 → Bool} {l : List UInt8} (h : hd p l = false) : runL p l = 0 := by
  rw [hd_run] at h; simpa using h
theorem run_app {p : UInt8 → Bool} : ∀ (x z : List UInt8), (∀ c ∈ x, p c = true) → runL p (x ++ z) = x.length + runL p z
  | [], z, _ => by simp
  | c :: t, z, h => by
    rw [List.cons_append, runL, if_pos (h c (by simp)), run_app t z fun d hd => h d (by simp [hd]), List.length_cons]; omega
theorem run_all {p : UInt8 → Bool} : ∀ (l : List UInt8), ∀ c ∈ l.take (runL p l), p c = true
  | [], c, h => by simp at h
  | d :: t, c, h => by
    rw [runL] at h
    split at h
    · rename_i hp
      rw [List.take_succ_cons] at h
      rcases List.mem_cons.1 h with rfl | h
      · exact hp
      · exact run_all t c h
    · simp at h

/-- Classes of bytes, in numbers. -/
theorem isB_iff (c : UInt8) : isB c = true ↔ (97 ≤ c.toNat ∧ c.toNat ≤ 122) ∨ (65 ≤ c.toNat ∧ c.toNat ≤ 90) ∨ c.toNat = 95 ∨ 128 ≤ c.toNat := by
  unfold isB; simp [or_assoc]
theorem isS_iff (c : UInt8) : isS c = true ↔ c.toNat = 32 ∨ c.toNat = 9 ∨ c.toNat = 10 ∨ c.toNat = 12 ∨ c.toNat = 13 := by
  unfold isS; simp [or_assoc]
theorem isG_iff (c : UInt8) : isG c = true ↔ ((97 ≤ c.toNat ∧ c.toNat ≤ 122) ∨ (65 ≤ c.toNat ∧ c.toNat ≤ 90) ∨ c.toNat = 95 ∨ 128 ≤ c.toNat) ∨ (48 ≤ c.toNat ∧ c.toNat ≤ 57) ∨ c.toNat = 45 := by
  unfold isG; rw [Bool.or_eq_true, Bool.or_eq_true, isB_iff, isD_iff, decide_eq_true_eq, or_assoc]
theorem signK_iff (n : Nat) : 0 < signK n ↔ n = 58 ∨ n = 59 ∨ n = 44 ∨ n = 40 ∨ n = 41 ∨ n = 91 ∨ n = 93 ∨ n = 123 ∨ n = 125 := by
  unfold signK
  repeat' split
  all_goals omega
theorem byte_of {c : UInt8} {n : Nat} (h : c.toNat = n) : c = UInt8.ofNat n := by rw [← h]; simp

/-- When does a number begin? -/
theorem dgs_hd (l : List UInt8) : 0 < dgs l ↔ hd isD l = true := by
  cases l with
  | nil => simp [dgs, hd]
  | cons c t => unfold dgs hd; cases h : isD c <;> simp [h]
theorem dotted_hd (l : List UInt8) : dotted l = heads 46 l := by cases l <;> rfl
theorem num_pos (l : List UInt8) : 0 < num l ↔ hd isD (l.drop (sgn l)) = true ∨ (heads 46 (l.drop (sgn l)) = true ∧ hd isD (l.drop (sgn l + 1)) = true) := by
  unfold num
  dsimp only
  by_cases hn : dgs (l.drop (sgn l)) = 0
  · have e : hd isD (l.drop (sgn l)) = false := by
      cases h : hd isD (l.drop (sgn l)) with
      | false => rfl
      | true => have := (dgs_hd _).2 h; omega
    rw [hn, Nat.add_zero, dotted_hd, e]
    by_cases h2 : heads 46 (l.drop (sgn l)) = true ∧ 0 < dgs (l.drop (sgn l + 1))
    · rw [if_pos h2]
      have h4 := (dgs_hd _).1 h2.2
      exact ⟨fun _ => .inr ⟨h2.1, h4⟩, fun _ => by omega⟩
    · rw [if_neg h2, if_pos rfl]
      simp only [Nat.lt_irrefl, Bool.false_eq_true, false_or, false_iff]
      intro h3
      exact h2 ⟨h3.1, (dgs_hd _).2 h3.2⟩
  · have e := (dgs_hd (l.drop (sgn l))).1 (by omega)
    rw [e]
    simp only [true_or, iff_true]
    split <;> (try split) <;> omega
theorem num_zero_of {c : UInt8} {t : List UInt8} (h : ¬ 0 < num (c :: t)) : isD c = false := by
  cases hd0 : isD c with
  | false => rfl
  | true =>
    exfalso
    apply h
    rw [num_pos]
    left
    have := (isD_iff c).1 hd0
    have e : sgn (c :: t) = 0 := if_neg (by omega)
    rw [e]
    exact hd0
theorem worth_hold (l : List UInt8) : hold (worth l) = worth l := by
  unfold worth; dsimp only; split <;> exact hold_hold _

/-- A right token, by kind. -/
inductive Good : Tk → Prop
  | name (k : Int) (x : List UInt8) (hk : k = 1 ∨ k = 2 ∨ k = 3) (hs : starts x = true) (hg : ∀ c ∈ x, isG c = true) : Good ⟨k, x, 0⟩
  | hash (x : List UInt8) (h0 : x ≠ []) (hg : ∀ c ∈ x, isG c = true) : Good ⟨4, x, 0⟩
  | str (q : Nat) (x : List UInt8) (hq : q = 34 ∨ q = 39) (h : ∀ c ∈ x, qp q c = true) : Good ⟨5, x, 0⟩
  | num (k n : Int) (hk : k = 7 ∨ k = 8) (hn : hold n = n) : Good ⟨k, [], n⟩
  | dim (x : List UInt8) (n : Int) (hn : hold n = n) (hs : starts x = true) (hg : ∀ c ∈ x, isG c = true) : Good ⟨9, x, n⟩
  | sign (c : UInt8) (h : 0 < signK c.toNat) : Good ⟨signK c.toNat, [], 0⟩
  | delim (c : UInt8) (h1 : isS c = false) (h2 : ¬ (c.toNat = 34 ∨ c.toNat = 39)) (h3 : isD c = false) (h4 : isB c = false) (h5 : ¬ 0 < signK c.toNat) : Good ⟨19, [c], 0⟩
  | space : Good ⟨20, [], 0⟩

theorem starts_take (l : List UInt8) (h : starts l = true) : starts (l.take (runL isG l)) = true := by
  cases l with
  | nil => cases h
  | cons c t =>
    rw [starts] at h
    by_cases h45 : c.toNat = 45
    · rw [if_pos h45] at h
      have hg : isG c = true := by rw [isG_iff]; omega
      cases t with
      | nil => cases h
      | cons d u =>
        have h2 : (isB d || decide (d.toNat = 45)) = true := h
        have hg2 : isG d = true := by
          unfold isG
          rcases (Bool.or_eq_true _ _ ▸ h2) with h | h
          · simp [h]
          · simp [h]
        rw [runL, if_pos hg, runL, if_pos hg2, List.take_succ_cons, List.take_succ_cons, starts, if_pos h45]
        exact h2
    · rw [if_neg h45] at h
      have hg : isG c = true := by unfold isG; simp [h]
      rw [runL, if_pos hg, List.take_succ_cons, starts, if_neg h45]
      exact h

/-- What a text is cut into: right tokens and bad strings. -/
theorem one_good (l : List UInt8) (t : Tk) (h : (oneT l).1 = some t) : Good t ∨ t.k = 6 := by
  cases l with
  | nil => cases h
  | cons c r =>
    have quot : ∀ q u, q = 34 ∨ q = 39 → Good (quoted q u).1 ∨ (quoted q u).1.k = 6 := fun q u hq => by
      unfold quoted; dsimp only; split
      · exact .inl (.str q _ hq (run_all u))
      · split
        · exact .inr rfl
        · exact .inl (.str q _ hq (run_all u))
    have meas : ∀ l n, Good (measured l n).1 := fun l n => by
      unfold measured; dsimp only; split
      · exact .num 8 _ (.inr rfl) (worth_hold _)
      · split
        · rename_i hs
          exact .dim _ _ (worth_hold _) (starts_take _ hs) (run_all _)
        · exact .num 7 _ (.inl rfl) (worth_hold _)
    have nam : ∀ l, starts l = true → Good (named l).1 := fun l hs => by
      unfold named; split
      · exact .name 2 _ (.inr (.inl rfl)) (starts_take _ hs) (run_all _)
      · exact .name 1 _ (.inl rfl) (starts_take _ hs) (run_all _)
    rw [oneT] at h
    split at h
    · cases h
    · split at h
      · obtain rfl := Option.some.inj h; exact .inl .space
      · rename_i h1 h2
        split at h
        · rename_i h3; obtain rfl := Option.some.inj h; exact quot _ _ h3
        · rename_i h3
          split at h
          · obtain rfl := Option.some.inj h; exact .inl (meas _ _)
          · rename_i h4
            split at h
            · rename_i h5
              obtain rfl := Option.some.inj h
              refine .inl (.hash _ ?_ (run_all _))
              intro e
              have h6 := runL_le isG r
              have h7 := congrArg List.length e
              rw [List.length_take, Nat.min_eq_left h6] at h7
              have h8 := h5.2
              simp only [List.length_nil] at h7
              omega
            · split at h
              · rename_i h6
                obtain rfl := Option.some.inj h; exact .inl (.name 3 _ (.inr (.inr rfl)) (starts_take _ h6.2) (run_all _))
              · split at h
                · rename_i h7; obtain rfl := Option.some.inj h; exact .inl (nam _ h7)
                · rename_i h7
                  split at h
                  · rename_i hk; obtain rfl := Option.some.inj h; exact .inl (.sign c hk)
                  · rename_i hk
                    obtain rfl := Option.some.inj h
                    refine .inl (.delim c (by simpa using h2) h3 (num_zero_of h4) ?_ hk)
                    cases hb : isB c with
                    | false => rfl
                    | true =>
                      exfalso
                      apply h7
                      rw [starts]
                      have := (isB_iff c).1 hb
                      rw [if_neg (by omega)]
                      exact hb
theorem mem_cutN : ∀ (m : Nat) (l : List UInt8) (t : Tk), t ∈ cutN m l → Good t ∨ t.k = 6
  | 0, _, t, h => by simp [cutN] at h
  | m + 1, l, t, h => by
    rw [cutN] at h
    split at h
    · simp at h
    · rcases List.mem_append.1 h with h | h
      · exact one_good l t (by simpa using h)
      · exact mem_cutN m _ t h
theorem mem_cut {l : List UInt8} {t : Tk} (h : t ∈ cut l) : Good t ∨ t.k = 6 := mem_cutN _ _ _ h
theorem bad_text {t : Tk} (h : t.k = 6) : textT t = none := by
  unfold textT
  rw [h]
  simp
theorem right_good {t : Tk} (h : rightT t = true) : Good t := by
  unfold rightT at h
  rw [Bool.and_eq_true, decide_eq_true_eq] at h
  have hm : t ∈ cut (tx t) := by rw [h.2]; simp
  rcases mem_cut hm with hg | h6
  · exact hg
  · rw [bad_text h6] at h; cases h.1

/-- Texts of numbers, in parts. -/
def pp (v : Nat) : List UInt8 := if v % 1000 = 0 then [] else 46 :: byt (fr 100 (v % 1000))
theorem fr_ne {f : Nat} (h : f < 1000) (h0 : f ≠ 0) : byt (fr 100 f) ≠ [] := by rw [fr_on (by omega), byt_cons]; simp
theorem dig_byt {l : List Int} (h : Dig l) : ∀ c ∈ byt l, isD c = true := by
  intro c hc
  obtain ⟨z, hz, rfl⟩ := List.mem_map.1 hc
  exact byte_isD (h z hz)
theorem byt_prt (v : Nat) : byt (prt v) = byt (be 1 (v / 1000)) ++ pp v := by
  unfold prt pp
  rw [byt_append]
  split <;> rfl
/-- A number's text: a sign, digits, digits behind a point. -/
theorem numform (n : Int) (hn : hold n = n) : ∃ (sg : List UInt8) (v : Nat), byt (prtI n) = sg ++ (byt (be 1 (v / 1000)) ++ pp v) ∧ ((sg = [] ∧ n = v) ∨ (sg = [45] ∧ n = -(v : Int) ∧ 0 < v)) := by
  unfold prtI
  rw [hn]
  by_cases h : n < 0
  · rw [if_pos h]
    exact ⟨[45], (-n).toNat, by rw [byt_cons, byt_prt]; rfl, .inr ⟨rfl, by omega, by omega⟩⟩
  · rw [if_neg h]
    exact ⟨[], n.toNat, by rw [byt_prt]; rfl, .inl ⟨rfl, by omega⟩⟩
theorem be_digs (q : Nat) : (∀ c ∈ byt (be 1 q), isD c = true) ∧ byt (be 1 q) ≠ [] := by
  refine ⟨dig_byt (be_dig 1 q), ?_⟩
  obtain ⟨z, t, hz, -, -⟩ := be_ne q
  rw [hz, byt_cons]; simp
theorem pp_is (v : Nat) : (v % 1000 = 0 ∧ pp v = []) ∨ (v % 1000 ≠ 0 ∧ ∃ F, pp v = 46 :: F ∧ F ≠ [] ∧ ∀ c ∈ F, isD c = true) := by
  unfold pp
  by_cases h : v % 1000 = 0
  · exact .inl ⟨h, if_pos h⟩
  · exact .inr ⟨h, _, if_neg h, fr_ne (by omega) h, dig_byt (fr_hundred (v % 1000) (by omega) 0).1⟩
theorem dgs_app {D : List UInt8} (z : List UInt8) (h : ∀ c ∈ D, isD c = true) : dgs (D ++ z) = D.length + dgs z := by
  rw [← runL_dgs2, ← runL_dgs2, run_app D z h]
where
  runL_dgs2 : ∀ {l : List UInt8}, runL isD l = dgs l := fun {l} => by
    induction l with
    | nil => rfl
    | cons c t ih => rw [runL, dgs, ih]
theorem hd_app {p : UInt8 → Bool} {D z : List UInt8} (h : D ≠ []) : hd p (D ++ z) = hd p D := by
  cases D with
  | nil => exact absurd rfl h
  | cons c t => rfl
/-- How far a number's text goes: behind its digits, and behind those of its part. -/
theorem num_whole (sg D z : List UInt8) (hs : sg = [] ∨ sg = [45]) (hD : ∀ c ∈ D, isD c = true) (h0 : D ≠ []) :
    num (sg ++ (D ++ z)) = if heads 46 (z.drop (dgs z)) = true ∧ 0 < dgs (z.drop (dgs z + 1)) then sg.length + D.length + dgs z + 1 + dgs (z.drop (dgs z + 1)) else sg.length + D.length + dgs z := by
  have hl : 0 < D.length := by cases D with | nil => exact absurd rfl h0 | cons c t => simp
  have hsg : sgn (sg ++ (D ++ z)) = sg.length := by
    rcases hs with rfl | rfl
    · cases D with
      | nil => exact absurd rfl h0
      | cons c t =>
        have := (isD_iff c).1 (hD c (by simp))
        exact if_neg (by omega)
    · rfl
  unfold num
  dsimp only
  rw [hsg, List.drop_left, dgs_app z hD]
  have e1 : (sg ++ (D ++ z)).drop (sg.length + (D.length + dgs z)) = z.drop (dgs z) := by
    rw [← List.drop_drop, List.drop_left, ← List.drop_drop, List.drop_left]
  have e2 : (sg ++ (D ++ z)).drop (sg.length + (D.length + dgs z) + 1) = z.drop (dgs z + 1) := by
    rw [← List.drop_drop, e1, List.drop_drop]
  rw [e1, e2, dotted_hd, if_neg (show ¬ D.length + dgs z = 0 by omega)]
  split <;> omega
theorem num_part (sg D F z : List UInt8) (hs : sg = [] ∨ sg = [45]) (hD : ∀ c ∈ D, isD c = true) (h0 : D ≠ []) (hF : ∀ c ∈ F, isD c = true) (hF0 : F ≠ []) :
    num (sg ++ (D ++ 46 :: (F ++ z))) = sg.length + D.length + 1 + F.length + dgs z := by
  have hl : 0 < F.length := by cases F with | nil => exact absurd rfl hF0 | cons c t => simp
  rw [num_whole sg D (46 :: (F ++ z)) hs hD h0]
  have e : dgs (46 :: (F ++ z)) = 0 := rfl
  rw [e, List.drop_zero, Nat.zero_add, List.drop_succ_cons, List.drop_zero, dgs_app z hF, if_pos ⟨rfl, by omega⟩]
  omega

end Go.Proofs.Ytmicgfpiknibhaa
