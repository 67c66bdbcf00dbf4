/- What is printed is read as it was: plain. -/
import Derived.Test.YtmicgfpiknibhaaPrintWalk
import Derived.Test.YtmicgfpiknibhaaLexParse
import Derived.Test.YtmicgfpiknibhaaLexOne
namespace Go.Proofs.Ytmicgfpiknibhaa


def byt (l : List Int) : List UInt8 := l.map fun z => UInt8.ofNat z.toNat
theorem byt_data (l : List Int) : (strOfNums l).data.toList = byt l := rfl
theorem byt_append (a b : List Int) : byt (a ++ b) = byt a ++ byt b := by simp [byt]
theorem byt_cons (a : Int) (b : List Int) : byt (a :: b) = UInt8.ofNat a.toNat :: byt b := rfl
theorem byt_len (a : List Int) : (byt a).length = a.length := by simp [byt]
/-- Digits, all. -/
def Dig (l : List Int) : Prop := ∀ z ∈ l, 48 ≤ z ∧ z ≤ 57
theorem byte_nat {z : Int} (h : 48 ≤ z ∧ z ≤ 57) : ((UInt8.ofNat z.toNat).toNat : Int) = z := by
  simp only [UInt8.toNat_ofNat']; omega
theorem byte_isD {z : Int} (h : 48 ≤ z ∧ z ≤ 57) : isD (UInt8.ofNat z.toNat) = true := by
  have := byte_nat h
  rw [isD_iff]; omega

theorem be_dig (least n : Nat) : Dig (be least n) := by
  by_cases h : 0 < n ∨ 0 < least
  · have ih := be_dig (least - 1) (n / 10)
    rw [be_step h]
    intro z hz
    rcases List.mem_append.1 hz with hz | hz
    · exact ih z hz
    · obtain rfl := List.mem_singleton.1 hz
      omega
  · rw [be_end h]; intro z hz; cases hz
termination_by n + least
decreasing_by omega

theorem be_whole (least n : Nat) (hn : n ≤ 1073741824) : wholeF (byt (be least n)) 0 = n := by
  by_cases h : 0 < n ∨ 0 < least
  · have ih := be_whole (least - 1) (n / 10) (by omega)
    rw [be_step h, byt_append]
    show wholeF (byt (be (least - 1) (n / 10)) ++ [UInt8.ofNat (48 + ((n % 10 : Nat) : Int)).toNat]) 0 = n
    rw [wholeF_snoc, ih, byte_nat (by omega)]
    unfold wholeN
    rw [if_neg (by omega)]; omega
  · rw [be_end h]
    show (0 : Int) = n
    omega
termination_by n + least
decreasing_by omega

theorem partF_cons (c : UInt8) (t : List UInt8) (a q : Int) : partF (c :: t) (a, q) = partF t (a + ((c.toNat : Int) - 48) * q, q / 10) := rfl

theorem fr_zero (k : Nat) : fr k 0 = [] := fr_end (by omega)
theorem fr_one (p : Nat) (hp : p < 10) (a : Int) : Dig (fr 1 p) ∧ (partF (byt (fr 1 p)) (a, 1)).1 = a + p := by
  by_cases h : p = 0
  · subst h; rw [fr_zero]; exact ⟨(fun z hz => by cases hz), (Int.add_zero a).symm⟩
  · rw [fr_on (by omega), fr_end (by omega)]
    refine ⟨(fun z hz => by obtain rfl := List.mem_singleton.1 hz; omega), ?_⟩
    rw [byt_cons, partF_cons, byte_nat (by omega)]
    show a + (48 + ((p / 1 : Nat) : Int) - 48) * 1 = a + p
    omega
theorem fr_ten (p : Nat) (hp : p < 100) (a : Int) : Dig (fr 10 p) ∧ (partF (byt (fr 10 p)) (a, 10)).1 = a + p := by
  by_cases h : p = 0
  · subst h; rw [fr_zero]; exact ⟨(fun z hz => by cases hz), (Int.add_zero a).symm⟩
  · rw [fr_on (by omega)]
    have ih := fr_one (p % 10) (by omega) (a + (48 + ((p / 10 : Nat) : Int) - 48) * 10)
    refine ⟨fun z hz => ?_, ?_⟩
    · rcases List.mem_cons.1 hz with rfl | hz
      · omega
      · exact ih.1 z hz
    · rw [byt_cons, partF_cons, byte_nat (by omega)]
      refine ih.2.trans ?_
      omega
theorem fr_hundred (p : Nat) (hp : p < 1000) (a : Int) : Dig (fr 100 p) ∧ (partF (byt (fr 100 p)) (a, 100)).1 = a + p := by
  by_cases h : p = 0
  · subst h; rw [fr_zero]; exact ⟨(fun z hz => by cases hz), (Int.add_zero a).symm⟩
  · rw [fr_on (by omega)]
    have ih := fr_ten (p % 100) (by omega) (a + (48 + ((p / 100 : Nat) : Int) - 48) * 100)
    refine ⟨fun z hz => ?_, ?_⟩
    · rcases List.mem_cons.1 hz with rfl | hz
      · omega
      · exact ih.1 z hz
    · rw [byt_cons, partF_cons, byte_nat (by omega)]
      refine ih.2.trans ?_
      omega

theorem dgs_byt : ∀ l : List Int, Dig l → dgs (byt l) = l.length
  | [], _ => rfl
  | z :: t, h => by
    have ih := dgs_byt t (fun x hx => h x (by simp [hx]))
    rw [byt_cons, dgs, if_pos (byte_isD (h z (by simp))), ih]; rfl
theorem dgs_byt_dot : ∀ (l : List Int) (r : List UInt8), Dig l → dgs (byt l ++ 46 :: r) = l.length
  | [], r, _ => rfl
  | z :: t, r, h => by
    have ih := dgs_byt_dot t r (fun x hx => h x (by simp [hx]))
    rw [byt_cons, List.cons_append, dgs, if_pos (byte_isD (h z (by simp))), ih]; rfl

theorem be_ne (q : Nat) : ∃ z t, be 1 q = z :: t ∧ 48 ≤ z ∧ z ≤ 57 := by
  have hd := be_dig 1 q
  cases e : be 1 q with
  | nil =>
    rw [be_step (by omega)] at e
    have := congrArg List.length e
    simp at this
  | cons z t => exact ⟨z, t, rfl, hd z (by rw [e]; simp)⟩

theorem pread_back (v : Nat) (hv : v ≤ 1073741824) (sg : List UInt8) (b : Bool) : pread (sg ++ byt (prt v)) sg.length b = (if b = true then -(v : Int) else v, 0) := by
  obtain ⟨z, t, hz, -, -⟩ := be_ne (v / 1000)
  have hn0 : ¬ (be 1 (v / 1000)).length = 0 := by rw [hz]; simp
  have hdg := be_dig 1 (v / 1000)
  have hw := be_whole 1 (v / 1000) (by omega)
  by_cases hp : v % 1000 = 0
  · have e : prt v = be 1 (v / 1000) := by unfold prt; rw [if_pos hp, List.append_nil]
    rw [e]
    have hd : dgs ((sg ++ byt (be 1 (v / 1000))).drop sg.length) = (be 1 (v / 1000)).length := by rw [List.drop_left, dgs_byt _ hdg]
    have hdot : dotted ((sg ++ byt (be 1 (v / 1000))).drop (sg.length + (be 1 (v / 1000)).length)) = false := by
      rw [List.drop_eq_nil_of_le (by rw [List.length_append, byt_len]; exact Nat.le_refl _)]; rfl
    rw [pread_whole hd hdot hn0 (by rw [List.length_append, byt_len]; omega), List.drop_left, ← byt_len, List.take_length, hw, hold_id (by omega) (by omega)]
    split <;> (apply Prod.ext <;> simp only <;> omega)
  · have e : prt v = be 1 (v / 1000) ++ 46 :: fr 100 (v % 1000) := by unfold prt; rw [if_neg hp]
    have hf := fr_hundred (v % 1000) (by omega) 0
    have hf0 : ¬ (fr 100 (v % 1000)).length = 0 := by rw [fr_on (by omega)]; simp
    rw [e, byt_append, byt_cons]
    have e46 : UInt8.ofNat (46 : Int).toNat = 46 := rfl
    rw [e46]
    generalize be 1 (v / 1000) = ds at *
    generalize fr 100 (v % 1000) = es at *
    have hd : dgs ((sg ++ (byt ds ++ 46 :: byt es)).drop sg.length) = ds.length := by rw [List.drop_left, dgs_byt_dot _ _ hdg]
    have hdr : (sg ++ (byt ds ++ 46 :: byt es)).drop (sg.length + ds.length) = 46 :: byt es := by
      rw [← List.drop_drop, List.drop_left, ← byt_len, List.drop_left]
    have hdr1 : (sg ++ (byt ds ++ 46 :: byt es)).drop (sg.length + ds.length + 1) = byt es := by
      rw [← List.drop_drop, hdr]; rfl
    have hdot : dotted ((sg ++ (byt ds ++ 46 :: byt es)).drop (sg.length + ds.length)) = true := by rw [hdr]; rfl
    have hm : dgs ((sg ++ (byt ds ++ 46 :: byt es)).drop (sg.length + ds.length + 1)) = es.length := by rw [hdr1, dgs_byt _ hf.1]
    have hlen : (sg ++ (byt ds ++ 46 :: byt es)).length = sg.length + ds.length + 1 + es.length := by simp [byt_len]; omega
    rw [pread_part hd hdot hm hf0 (by rw [hlen]; omega), List.drop_left, hdr1]
    have t1 : (byt ds ++ 46 :: byt es).take ds.length = byt ds := by rw [← byt_len, List.take_left]
    have t2 : (byt es).take es.length = byt es := by rw [← byt_len, List.take_length]
    rw [t1, t2, hw, hf.2, hold_id (by omega) (by omega)]
    split <;> (apply Prod.ext <;> simp only <;> omega)

/-- What is printed is read as it was. -/
theorem parse_back (n : Int) : rparse (strOfNums (prtI n)).data.toList = (hold n, 0) := by
  have hb := hold_bd n
  rw [byt_data, ← parse_same]
  unfold pparse prtI
  by_cases h : hold n < 0
  · rw [if_pos h]
    have hv := pread_back (-(hold n)).toNat (by omega) [45] true
    have e1 : sgn (byt (45 :: prt (-(hold n)).toNat)) = 1 := rfl
    have e2 : minus (byt (45 :: prt (-(hold n)).toNat)) = true := rfl
    rw [e1, e2]
    refine hv.trans ?_
    rw [if_pos rfl]
    apply Prod.ext <;> simp only <;> omega
  · rw [if_neg h]
    have hv := pread_back (hold n).toNat (by omega) [] false
    obtain ⟨z, t, hz, h1, h2⟩ := be_ne ((hold n).toNat / 1000)
    have hbn := byte_nat ⟨h1, h2⟩
    have e0 : ∃ t', byt (prt (hold n).toNat) = UInt8.ofNat z.toNat :: t' := by
      unfold prt; rw [hz, List.cons_append, byt_cons]; exact ⟨_, rfl⟩
    obtain ⟨t', e0⟩ := e0
    have e1 : sgn (byt (prt (hold n).toNat)) = 0 := by rw [e0, sgn_cons, if_neg (by omega)]
    have e2 : minus (byt (prt (hold n).toNat)) = false := by
      rw [e0]; unfold minus
      simp only [List.head?_cons, Option.map_some, Option.some.injEq, decide_eq_false_iff_not]
      omega
    rw [e1, e2]
    refine hv.trans ?_
    rw [if_neg (by decide)]
    apply Prod.ext <;> simp only <;> omega

/-- A token's text, by kind. -/
def signB (k : Int) : UInt8 := ([58, 59, 44, 40, 41, 91, 93, 123, 125] : List UInt8).getD (k - 10).toNat 0
def quoteB (x : List UInt8) : UInt8 := if x.any (fun c => decide (c.toNat = 34)) = true then 39 else 34
def textT (t : Tk) : Option (List UInt8) :=
  if t.k = 1 ∨ t.k = 19 then some t.x
  else if t.k = 2 then some (t.x ++ [40])
  else if t.k = 3 then some (64 :: t.x)
  else if t.k = 4 then some (35 :: t.x)
  else if t.k = 5 then some (quoteB t.x :: (t.x ++ [quoteB t.x]))
  else if t.k = 7 then some (byt (prtI t.n))
  else if t.k = 8 then some (byt (prtI t.n) ++ [37])
  else if t.k = 9 then some (byt (prtI t.n) ++ t.x)
  else if 10 ≤ t.k ∧ t.k ≤ 18 then some [signB t.k]
  else if t.k = 20 then some [32]
  else none
def tx (t : Tk) : List UInt8 := (textT t).getD []
def rightT (t : Tk) : Bool := (textT t).isSome && decide (cut (tx t) = [t])

/-- Does a list begin with such a byte? -/
def hd (p : UInt8 → Bool) : List UInt8 → Bool
  | [] => false
  | c :: _ => p c
theorem hd_run (p : UInt8 → Bool) (l : List UInt8) : hd p l = decide (0 < runL p l) := by
  cases l with
  | nil => rfl
  | cons c t => unfold hd runL; cases h : p c <;> simp [h]
theorem run_none {p : UInt8 → Bool} {l : List UInt8} (h : hd p l = false) : runL p l = 0 := by
  rw [hd_run] at h; simpa using h
theorem run_app {p : UInt8 → Bool} : ∀ (x z : List UInt8), (∀ c ∈ x, p c = true) → runL p (x ++ z) = x.length + runL p z
  | [], z, _ => by simp
  | c :: t, z, h => by
    rw [List.cons_append, runL, if_pos (h c (by simp)), run_app t z fun d hd => h d (by simp [hd]), List.length_cons]; omega
theorem run_all {p : UInt8 → Bool} : ∀ (l : List UInt8), ∀ c ∈ l.take (runL p l), p c = true
  | [], c, h => by simp at h
  | d :: t, c, h => by
    rw [runL] at h
    split at h
    · rename_i hp
      rw [List.take_succ_cons] at h
      rcases List.mem_cons.1 h with rfl | h
      · exact hp
      · exact run_all t c h
    · simp at h

/-- Classes of bytes, in numbers. -/
theorem isB_iff (c : UInt8) : isB c = true ↔ (97 ≤ c.toNat ∧ c.toNat ≤ 122) ∨ (65 ≤ c.toNat ∧ c.toNat ≤ 90) ∨ c.toNat = 95 ∨ 128 ≤ c.toNat := by
  unfold isB; simp [or_assoc]
theorem isS_iff (c : UInt8) : isS c = true ↔ c.toNat = 32 ∨ c.toNat = 9 ∨ c.toNat = 10 ∨ c.toNat = 12 ∨ c.toNat = 13 := by
  unfold isS; simp [or_assoc]
theorem isG_iff (c : UInt8) : isG c = true ↔ ((97 ≤ c.toNat ∧ c.toNat ≤ 122) ∨ (65 ≤ c.toNat ∧ c.toNat ≤ 90) ∨ c.toNat = 95 ∨ 128 ≤ c.toNat) ∨ (48 ≤ c.toNat ∧ c.toNat ≤ 57) ∨ c.toNat = 45 := by
  unfold isG; rw [Bool.or_eq_true, Bool.or_eq_true, isB_iff, isD_iff, decide_eq_true_eq, or_assoc]
theorem signK_iff (n : Nat) : 0 < signK n ↔ n = 58 ∨ n = 59 ∨ n = 44 ∨ n = 40 ∨ n = 41 ∨ n = 91 ∨ n = 93 ∨ n = 123 ∨ n = 125 := by
  unfold signK
  repeat' split
  all_goals omega
theorem byte_of {c : UInt8} {n : Nat} (h : c.toNat = n) : c = UInt8.ofNat n := by rw [← h]; simp

/-- When does a number begin? -/
theorem dgs_hd (l : List UInt8) : 0 < dgs l ↔ hd isD l = true := by
  cases l with
  | nil => simp [dgs, hd]
  | cons c t => unfold dgs hd; cases h : isD c <;> simp [h]
theorem dotted_hd (l : List UInt8) : dotted l = heads 46 l := by cases l <;> rfl
theorem num_pos (l : List UInt8) : 0 < num l ↔ hd isD (l.drop (sgn l)) = true ∨ (heads 46 (l.drop (sgn l)) = true ∧ hd isD (l.drop (sgn l + 1)) = true) := by
  unfold num
  dsimp only
  by_cases hn : dgs (l.drop (sgn l)) = 0
  · have e : hd isD (l.drop (sgn l)) = false := by
      cases h : hd isD (l.drop (sgn l)) with
      | false => rfl
      | true => have := (dgs_hd _).2 h; omega
    rw [hn, Nat.add_zero, dotted_hd, e]
    by_cases h2 : heads 46 (l.drop (sgn l)) = true ∧ 0 < dgs (l.drop (sgn l + 1))
    · rw [if_pos h2]
      have h4 := (dgs_hd _).1 h2.2
      exact ⟨fun _ => .inr ⟨h2.1, h4⟩, fun _ => by omega⟩
    · rw [if_neg h2, if_pos rfl]
      simp only [Nat.lt_irrefl, Bool.false_eq_true, false_or, false_iff]
      intro h3
      exact h2 ⟨h3.1, (dgs_hd _).2 h3.2⟩
  · have e := (dgs_hd (l.drop (sgn l))).1 (by omega)
    rw [e]
    simp only [true_or, iff_true]
    split <;> (try split) <;> omega
theorem num_zero_of {c : UInt8} {t : List UInt8} (h : ¬ 0 < num (c :: t)) : isD c = false := by
  cases hd0 : isD c with
  | false => rfl
  | true =>
    exfalso
    apply h
    rw [num_pos]
    left
    have := (isD_iff c).1 hd0
    have e : sgn (c :: t) = 0 := if_neg (by omega)
    rw [e]
    exact hd0
theorem worth_hold (l : List UInt8) : hold (worth l) = worth l := by
  unfold worth; dsimp only; split <;> exact hold_hold _

/-- A right token, by kind. -/
inductive Good : Tk → Prop
  | name (k : Int) (x : List UInt8) (hk : k = 1 ∨ k = 2 ∨ k = 3) (hs : starts x = true) (hg : ∀ c ∈ x, isG c = true) : Good ⟨k, x, 0⟩
  | hash (x : List UInt8) (h0 : x ≠ []) (hg : ∀ c ∈ x, isG c = true) : Good ⟨4, x, 0⟩
  | str (q : Nat) (x : List UInt8) (hq : q = 34 ∨ q = 39) (h : ∀ c ∈ x, qp q c = true) : Good ⟨5, x, 0⟩
  | num (k n : Int) (hk : k = 7 ∨ k = 8) (hn : hold n = n) : Good ⟨k, [], n⟩
  | dim (x : List UInt8) (n : Int) (hn : hold n = n) (hs : starts x = true) (hg : ∀ c ∈ x, isG c = true) : Good ⟨9, x, n⟩
  | sign (c : UInt8) (h : 0 < signK c.toNat) : Good ⟨signK c.toNat, [], 0⟩
  | delim (c : UInt8) (h1 : isS c = false) (h2 : ¬ (c.toNat = 34 ∨ c.toNat = 39)) (h3 : isD c = false) (h4 : isB c = false) (h5 : ¬ 0 < signK c.toNat) : Good ⟨19, [c], 0⟩
  | space : Good ⟨20, [], 0⟩

theorem starts_take (l : List UInt8) (h : starts l = true) : starts (l.take (runL isG l)) = true := by
  cases l with
  | nil => cases h
  | cons c t =>
    rw [starts] at h
    by_cases h45 : c.toNat = 45
    · rw [if_pos h45] at h
      have hg : isG c = true := by rw [isG_iff]; omega
      cases t with
      | nil => cases h
      | cons d u =>
        have h2 : (isB d || decide (d.toNat = 45)) = true := h
        have hg2 : isG d = true := by
          unfold isG
          rcases (Bool.or_eq_true _ _ ▸ h2) with h | h
          · simp [h]
          · simp [h]
        rw [runL, if_pos hg, runL, if_pos hg2, List.take_succ_cons, List.take_succ_cons, starts, if_pos h45]
        exact h2
    · rw [if_neg h45] at h
      have hg : isG c = true := by unfold isG; simp [h]
      rw [runL, if_pos hg, List.take_succ_cons, starts, if_neg h45]
      exact h

/-- What a text is cut into: right tokens and bad strings. -/
theorem one_good (l : List UInt8) (t : Tk) (h : (oneT l).1 = some t) : Good t ∨ t.k = 6 := by
  cases l with
  | nil => cases h
  | cons c r =>
    have quot : ∀ q u, q = 34 ∨ q = 39 → Good (quoted q u).1 ∨ (quoted q u).1.k = 6 := fun q u hq => by
      unfold quoted; dsimp only; split
      · exact .inl (.str q _ hq (run_all u))
      · split
        · exact .inr rfl
        · exact .inl (.str q _ hq (run_all u))
    have meas : ∀ l n, Good (measured l n).1 := fun l n => by
      unfold measured; dsimp only; split
      · exact .num 8 _ (.inr rfl) (worth_hold _)
      · split
        · rename_i hs
          exact .dim _ _ (worth_hold _) (starts_take _ hs) (run_all _)
        · exact .num 7 _ (.inl rfl) (worth_hold _)
    have nam : ∀ l, starts l = true → Good (named l).1 := fun l hs => by
      unfold named; split
      · exact .name 2 _ (.inr (.inl rfl)) (starts_take _ hs) (run_all _)
      · exact .name 1 _ (.inl rfl) (starts_take _ hs) (run_all _)
    rw [oneT] at h
    split at h
    · cases h
    · split at h
      · obtain rfl := Option.some.inj h; exact .inl .space
      · rename_i h1 h2
        split at h
        · rename_i h3; obtain rfl := Option.some.inj h; exact quot _ _ h3
        · rename_i h3
          split at h
          · obtain rfl := Option.some.inj h; exact .inl (meas _ _)
          · rename_i h4
            split at h
            · rename_i h5
              obtain rfl := Option.some.inj h
              refine .inl (.hash _ ?_ (run_all _))
              intro e
              have h6 := runL_le isG r
              have h7 := congrArg List.length e
              rw [List.length_take, Nat.min_eq_left h6] at h7
              have h8 := h5.2
              simp only [List.length_nil] at h7
              omega
            · split at h
              · rename_i h6
                obtain rfl := Option.some.inj h; exact .inl (.name 3 _ (.inr (.inr rfl)) (starts_take _ h6.2) (run_all _))
              · split at h
                · rename_i h7; obtain rfl := Option.some.inj h; exact .inl (nam _ h7)
                · rename_i h7
                  split at h
                  · rename_i hk; obtain rfl := Option.some.inj h; exact .inl (.sign c hk)
                  · rename_i hk
                    obtain rfl := Option.some.inj h
                    refine .inl (.delim c (by simpa using h2) h3 (num_zero_of h4) ?_ hk)
                    cases hb : isB c with
                    | false => rfl
                    | true =>
                      exfalso
                      apply h7
                      rw [starts]
                      have := (isB_iff c).1 hb
                      rw [if_neg (by omega)]
                      exact hb
theorem mem_cutN : ∀ (m : Nat) (l : List UInt8) (t : Tk), t ∈ cutN m l → Good t ∨ t.k = 6
  | 0, _, t, h => by simp [cutN] at h
  | m + 1, l, t, h => by
    rw [cutN] at h
    split at h
    · simp at h
    · rcases List.mem_append.1 h with h | h
      · exact one_good l t (by simpa using h)
      · exact mem_cutN m _ t h
theorem mem_cut {l : List UInt8} {t : Tk} (h : t ∈ cut l) : Good t ∨ t.k = 6 := mem_cutN _ _ _ h
theorem bad_text {t : Tk} (h : t.k = 6) : textT t = none := by
  unfold textT
  rw [h]
  simp
theorem right_good {t : Tk} (h : rightT t = true) : Good t := by
  unfold rightT at h
  rw [Bool.and_eq_true, decide_eq_true_eq] at h
  have hm : t ∈ cut (tx t) := by rw [h.2]; simp
  rcases mem_cut hm with hg | h6
  · exact hg
  · rw [bad_text h6] at h; cases h.1

/-- Texts of numbers, in parts. -/
def pp (v : Nat) : List UInt8 := if v % 1000 = 0 then [] else 46 :: byt (fr 100 (v % 1000))
theorem fr_ne {f : Nat} (h : f < 1000) (h0 : f ≠ 0) : byt (fr 100 f) ≠ [] := by rw [fr_on (by omega), byt_cons]; simp
theorem dig_byt {l : List Int} (h : Dig l) : ∀ c ∈ byt l, isD c = true := by
  intro c hc
  obtain ⟨z, hz, rfl⟩ := List.mem_map.1 hc
  exact byte_isD (h z hz)
theorem byt_prt (v : Nat) : byt (prt v) = byt (be 1 (v / 1000)) ++ pp v := by
  unfold prt pp
  rw [byt_append]
  split <;> rfl
/-- A number's text: a sign, digits, digits behind a point. -/
theorem numform (n : Int) (hn : hold n = n) : ∃ (sg : List UInt8) (v : Nat), byt (prtI n) = sg ++ (byt (be 1 (v / 1000)) ++ pp v) ∧ ((sg = [] ∧ n = v) ∨ (sg = [45] ∧ n = -(v : Int) ∧ 0 < v)) := by
  unfold prtI
  rw [hn]
  by_cases h : n < 0
  · rw [if_pos h]
    exact ⟨[45], (-n).toNat, by rw [byt_cons, byt_prt]; rfl, .inr ⟨rfl, by omega, by omega⟩⟩
  · rw [if_neg h]
    exact ⟨[], n.toNat, by rw [byt_prt]; rfl, .inl ⟨rfl, by omega⟩⟩
theorem be_digs (q : Nat) : (∀ c ∈ byt (be 1 q), isD c = true) ∧ byt (be 1 q) ≠ [] := by
  refine ⟨dig_byt (be_dig 1 q), ?_⟩
  obtain ⟨z, t, hz, -, -⟩ := be_ne q
  rw [hz, byt_cons]; simp
theorem pp_is (v : Nat) : (v % 1000 = 0 ∧ pp v = []) ∨ (v % 1000 ≠ 0 ∧ ∃ F, pp v = 46 :: F ∧ F ≠ [] ∧ ∀ c ∈ F, isD c = true) := by
  unfold pp
  by_cases h : v % 1000 = 0
  · exact .inl ⟨h, if_pos h⟩
  · exact .inr ⟨h, _, if_neg h, fr_ne (by omega) h, dig_byt (fr_hundred (v % 1000) (by omega) 0).1⟩
theorem dgs_app {D : List UInt8} (z : List UInt8) (h : ∀ c ∈ D, isD c = true) : dgs (D ++ z) = D.length + dgs z := by
  rw [← runL_dgs2, ← runL_dgs2, run_app D z h]
where
  runL_dgs2 : ∀ {l : List UInt8}, runL isD l = dgs l := fun {l} => by
    induction l with
    | nil => rfl
    | cons c t ih => rw [runL, dgs, ih]
theorem hd_app {p : UInt8 → Bool} {D z : List UInt8} (h : D ≠ []) : hd p (D ++ z) = hd p D := by
  cases D with
  | nil => exact absurd rfl h
  | cons c t => rfl
/-- How far a number's text goes: behind its digits, and behind those of its part. -/
theorem num_whole (sg D z : List UInt8) (hs : sg = [] ∨ sg = [45]) (hD : ∀ c ∈ D, isD c = true) (h0 : D ≠ []) :
    num (sg ++ (D ++ z)) = if heads 46 (z.drop (dgs z)) = true ∧ 0 < dgs (z.drop (dgs z + 1)) then sg.length + D.length + dgs z + 1 + dgs (z.drop (dgs z + 1)) else sg.length + D.length + dgs z := by
  have hl : 0 < D.length := by cases D with | nil => exact absurd rfl h0 | cons c t => simp
  have hsg : sgn (sg ++ (D ++ z)) = sg.length := by
    rcases hs with rfl | rfl
    · cases D with
      | nil => exact absurd rfl h0
      | cons c t =>
        have := (isD_iff c).1 (hD c (by simp))
        exact if_neg (by omega)
    · rfl
  unfold num
  dsimp only
  rw [hsg, List.drop_left, dgs_app z hD]
  have e1 : (sg ++ (D ++ z)).drop (sg.length + (D.length + dgs z)) = z.drop (dgs z) := by
    rw [← List.drop_drop, List.drop_left, ← List.drop_drop, List.drop_left]
  have e2 : (sg ++ (D ++ z)).drop (sg.length + (D.length + dgs z) + 1) = z.drop (dgs z + 1) := by
    rw [← List.drop_drop, e1, List.drop_drop]
  rw [e1, e2, dotted_hd, if_neg (show ¬ D.length + dgs z = 0 by omega)]
  split <;> omega
theorem num_part (sg D F z : List UInt8) (hs : sg = [] ∨ sg = [45]) (hD : ∀ c ∈ D, isD c = true) (h0 : D ≠ []) (hF : ∀ c ∈ F, isD c = true) (hF0 : F ≠ []) :
    num (sg ++ (D ++ 46 :: (F ++ z))) = sg.length + D.length + 1 + F.length + dgs z := by
  have hl : 0 < F.length := by cases F with | nil => exact absurd rfl hF0 | cons c t => simp
  rw [num_whole sg D (46 :: (F ++ z)) hs hD h0]
  have e : dgs (46 :: (F ++ z)) = 0 := rfl
  rw [e, List.drop_zero, Nat.zero_add, List.drop_succ_cons, List.drop_zero, dgs_app z hF, if_pos ⟨rfl, by omega⟩]
  omega

end Go.Proofs.Ytmicgfpiknibhaa
