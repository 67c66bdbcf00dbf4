/- Where a right token's text may end, plain: what is printed is cut into just these tokens. -/
import Derived.Test.YtmicgfpiknibhaaLexPr
namespace Go.Proofs.Ytmicgfpiknibhaa
open Go.RowKit
set_option linter.unusedVariables false

/-- May a token's text be followed by this? -/
def stop (a : Tk) (z : List UInt8) : Prop :=
  if a.k = 1 then hd isG z = false ∧ heads 40 z = false
  else if a.k = 3 ∨ a.k = 4 ∨ a.k = 9 then hd isG z = false
  else if a.k = 7 then num (tx a ++ z) = (tx a).length ∧ heads 37 z = false ∧ starts z = false
  else if a.k = 19 then oneT (tx a ++ z) = (some a, 1)
  else if a.k = 20 then hd isS z = false
  else True

theorem heads_hd (n : Nat) (l : List UInt8) : heads n l = hd (fun c => decide (c.toNat = n)) l := by cases l <;> rfl
theorem hd_mem {p : UInt8 → Bool} {x : List UInt8} (h : ∀ c ∈ x, p c = true) (h0 : x ≠ []) : hd p x = true := by
  cases x with
  | nil => exact absurd rfl h0
  | cons c t => exact h c (by simp)
/-- Names. -/
theorem name_head {x : List UInt8} (hs : starts x = true) : ∃ c t, x = c :: t ∧ (isB c = true ∨ (c.toNat = 45 ∧ ∃ d u, t = d :: u ∧ (isB d = true ∨ d.toNat = 45))) := by
  cases x with
  | nil => cases hs
  | cons c t =>
    refine ⟨c, t, rfl, ?_⟩
    rw [starts] at hs
    by_cases h45 : c.toNat = 45
    · rw [if_pos h45] at hs
      right
      refine ⟨h45, ?_⟩
      cases t with
      | nil => cases hs
      | cons d u =>
        refine ⟨d, u, rfl, ?_⟩
        have h : (isB d || decide (d.toNat = 45)) = true := hs
        rw [Bool.or_eq_true, decide_eq_true_eq] at h
        exact h
    · rw [if_neg h45] at hs; exact .inl hs
theorem starts_app {x : List UInt8} (z : List UInt8) (hs : starts x = true) : starts (x ++ z) = true := by
  obtain ⟨c, t, rfl, h | ⟨h, d, u, rfl, h2⟩⟩ := name_head hs
  · have := (isB_iff c).1 h
    rw [List.cons_append, starts, if_neg (by omega)]; exact h
  · rw [List.cons_append, List.cons_append, starts, if_pos h]
    show (isB d || decide (d.toNat = 45)) = true
    rcases h2 with h2 | h2 <;> simp [h2]
/-- What a name's text is cut into, whatever follows. -/
theorem one_named (x z : List UInt8) (hs : starts x = true) : oneT (x ++ z) = (some (named (x ++ z)).1, (named (x ++ z)).2) := by
  have hsz := starts_app z hs
  obtain ⟨c, t, rfl, hc⟩ := name_head hs
  rw [List.cons_append] at hsz ⊢
  have hcb : c.toNat ≠ 47 ∧ isS c = false ∧ ¬ (c.toNat = 34 ∨ c.toNat = 39) ∧ c.toNat ≠ 35 ∧ c.toNat ≠ 64 := by
    have hnS : ¬ isS c = true := fun h => by
      have h1 := (isS_iff c).1 h
      rcases hc with h2 | ⟨h2, -⟩
      · have := (isB_iff c).1 h2; omega
      · omega
    rcases hc with h2 | ⟨h2, -⟩
    · have := (isB_iff c).1 h2
      exact ⟨by omega, by simpa using hnS, by omega, by omega, by omega⟩
    · exact ⟨by omega, by simpa using hnS, by omega, by omega, by omega⟩
  have hn : ¬ 0 < num (c :: (t ++ z)) := by
    intro h
    have h2 := (num_pos _).1 h
    rcases hc with hb | ⟨h45, d, u, rfl, hd2⟩
    · have hb2 := (isB_iff c).1 hb
      have e : sgn (c :: (t ++ z)) = 0 := if_neg (by omega)
      rw [e] at h2
      rcases h2 with h2 | ⟨h2, -⟩
      · have := (isD_iff c).1 h2; omega
      · have : c.toNat = 46 := of_decide_eq_true h2
        omega
    · have e : sgn (c :: ((d :: u) ++ z)) = 1 := if_pos (.inr h45)
      rw [e] at h2
      have hdb : isD d = false ∧ d.toNat ≠ 46 := by
        rcases hd2 with h3 | h3
        · have := (isB_iff d).1 h3
          refine ⟨?_, by omega⟩
          rw [Bool.eq_false_iff]; intro h4; have := (isD_iff d).1 h4; omega
        · refine ⟨?_, by omega⟩
          rw [Bool.eq_false_iff]; intro h4; have := (isD_iff d).1 h4; omega
      rcases h2 with h2 | ⟨h2, -⟩
      · have h3 : isD d = true := h2
        rw [hdb.1] at h3; cases h3
      · exact hdb.2 (of_decide_eq_true h2)
  exact one_name (fun h => hcb.1 h.1) hcb.2.1 hcb.2.2.1 hn (fun h => hcb.2.2.2.1 h.1) (fun h => hcb.2.2.2.2 h.1) hsz
theorem run_name {x z : List UInt8} (hg : ∀ c ∈ x, isG c = true) : runL isG (x ++ z) = x.length + runL isG z := run_app x z hg
theorem drop_run (x z : List UInt8) (n : Nat) : (x ++ z).drop (x.length + n) = z.drop n := by rw [← List.drop_drop, List.drop_left]
theorem take_run (x z : List UInt8) (n : Nat) : (x ++ z).take (x.length + n) = x ++ z.take n := by
  rw [List.take_append, List.take_of_length_le (by omega), Nat.add_sub_cancel_left]
theorem named_stop {x z : List UInt8} (hg : ∀ c ∈ x, isG c = true) (h1 : hd isG z = false) (h2 : heads 40 z = false) : named (x ++ z) = (⟨1, x, 0⟩, x.length) := by
  have hr : runL isG (x ++ z) = x.length := by rw [run_name hg, run_none h1, Nat.add_zero]
  rw [named_name hr (by rw [List.drop_left]; exact h2), List.take_left]
theorem named_paren {x z : List UInt8} (hg : ∀ c ∈ x, isG c = true) : named (x ++ 40 :: z) = (⟨2, x, 0⟩, x.length + 1) := by
  have h1 : hd isG ((40 : UInt8) :: z) = false := rfl
  have hr : runL isG (x ++ 40 :: z) = x.length := by rw [run_name hg, run_none h1, Nat.add_zero]
  rw [named_fun hr (by rw [List.drop_left]; rfl), List.take_left]

/-- A hash, an at-name, a string. -/
theorem byte_num {c : UInt8} {t : List UInt8} (h1 : isD c = false) (h2 : c.toNat ≠ 43) (h3 : c.toNat ≠ 45) (h4 : c.toNat ≠ 46) : ¬ 0 < num (c :: t) := by
  intro h
  have h5 := (num_pos _).1 h
  have e : sgn (c :: t) = 0 := if_neg (by omega)
  rw [e] at h5
  rcases h5 with h5 | ⟨h5, -⟩
  · have h6 : isD c = true := h5
    rw [h1] at h6; cases h6
  · exact h4 (of_decide_eq_true h5)
theorem one_hashed (x z : List UInt8) (h0 : x ≠ []) (hg : ∀ c ∈ x, isG c = true) : oneT (35 :: (x ++ z)) = (some ⟨4, (x ++ z).take (runL isG (x ++ z)), 0⟩, 1 + runL isG (x ++ z)) := by
  have hl : 0 < x.length := by cases x with | nil => exact absurd rfl h0 | cons c t => simp
  exact one_hash (fun h => by have := h.1; simp at this) rfl (by decide) (byte_num rfl (by decide) (by decide) (by decide)) ⟨rfl, by rw [run_name hg]; omega⟩
theorem one_ated (x z : List UInt8) (hs : starts x = true) : oneT (64 :: (x ++ z)) = (some ⟨3, (x ++ z).take (runL isG (x ++ z)), 0⟩, 1 + runL isG (x ++ z)) :=
  one_at (fun h => by have := h.1; simp at this) rfl (by decide) (byte_num rfl (by decide) (by decide) (by decide)) (fun h => by have := h.1; simp at this) ⟨rfl, starts_app z hs⟩
theorem quote_is (q : Nat) (x : List UInt8) (hq : q = 34 ∨ q = 39) (h : ∀ c ∈ x, qp q c = true) : (∀ c ∈ x, qp (quoteB x).toNat c = true) ∧ ((quoteB x).toNat = 34 ∨ (quoteB x).toNat = 39) := by
  have hp : ∀ c ∈ x, c.toNat ≠ q ∧ c.toNat ≠ 10 := fun c hc => by
    have := h c hc
    unfold qp at this
    simpa using this
  unfold quoteB
  by_cases h34 : x.any (fun c => decide (c.toNat = 34)) = true
  · rw [if_pos h34]
    obtain ⟨c, hc, hc2⟩ := List.any_eq_true.1 h34
    have hc3 : c.toNat = 34 := of_decide_eq_true hc2
    have hq2 : q = 39 := by
      rcases hq with rfl | rfl
      · exact absurd hc3 (hp c hc).1
      · rfl
    refine ⟨fun d hd => ?_, .inr rfl⟩
    have := hp d hd
    have e : (39 : UInt8).toNat = 39 := rfl
    unfold qp
    rw [e, decide_eq_false (by omega), decide_eq_false this.2]; rfl
  · rw [if_neg h34]
    refine ⟨fun d hd => ?_, .inl rfl⟩
    have h1 : d.toNat ≠ 34 := fun hh => h34 (List.any_eq_true.2 ⟨d, hd, decide_eq_true hh⟩)
    have e : (34 : UInt8).toNat = 34 := rfl
    unfold qp
    rw [e, decide_eq_false h1, decide_eq_false (hp d hd).2]; rfl
theorem one_quoted (q : UInt8) (x z : List UInt8) (hq : q.toNat = 34 ∨ q.toNat = 39) (h : ∀ c ∈ x, qp q.toNat c = true) : oneT (q :: (x ++ q :: z)) = (some ⟨5, x, 0⟩, x.length + 2) := by
  have hs : isS q = false := by
    rw [Bool.eq_false_iff]; intro hh; have := (isS_iff q).1 hh; omega
  have e := one_quote (c := q) (t := x ++ q :: z) (fun hh => by have := hh.1; omega) hs hq
  rw [e]
  have h1 : qp q.toNat q = false := by unfold qp; simp
  have hr : runL (qp q.toNat) (x ++ q :: z) = x.length := by rw [run_app x _ h, run_none (show hd (qp q.toNat) (q :: z) = false from h1), Nat.add_zero]
  rw [quoted_shut hr (by rw [List.drop_left]) (by omega), List.take_left]
  exact Prod.ext rfl (by show 2 + x.length = x.length + 2; omega)

/-- Numbers' texts. -/
theorem num_text (n : Int) (hn : hold n = n) : num (byt (prtI n)) = (byt (prtI n)).length ∧ worth (byt (prtI n)) = n ∧ byt (prtI n) ≠ [] := by
  have h := parse_back n
  rw [byt_data] at h
  unfold rparse at h
  by_cases h1 : (byt (prtI n)).length = 0 ∨ num (byt (prtI n)) ≠ (byt (prtI n)).length
  · rw [if_pos h1] at h
    have := congrArg Prod.snd h
    simp at this
  · rw [if_neg h1] at h
    have h2 := congrArg Prod.fst h
    refine ⟨?_, by rw [hn] at h2; exact h2, fun e => h1 (.inl (by rw [e]; rfl))⟩
    by_cases h3 : num (byt (prtI n)) = (byt (prtI n)).length
    · exact h3
    · exact absurd (.inr h3) h1
/-- How far a printed number's text goes. -/
theorem num_more (n : Int) (hn : hold n = n) (z : List UInt8) : (byt (prtI n)).length + dgs z ≤ num (byt (prtI n) ++ z) ∧
    (hd isD z = false → (heads 46 z = false ∨ hd isD (z.drop 1) = false) → num (byt (prtI n) ++ z) = (byt (prtI n)).length) := by
  obtain ⟨sg, v, hp, hsg⟩ := numform n hn
  have hs : sg = [] ∨ sg = [45] := hsg.imp (·.1) (·.1)
  obtain ⟨hD, hD0⟩ := be_digs (v / 1000)
  rw [hp]
  rcases pp_is v with ⟨-, h0⟩ | ⟨-, F, h0, hF0, hF⟩
  · rw [h0, List.append_nil, List.append_assoc, num_whole sg _ z hs hD hD0, List.length_append]
    constructor
    · split <;> omega
    · intro h1 h2
      have e : dgs z = 0 := by
        have := dgs_hd z
        rw [h1] at this
        simp at this; omega
      rw [e, List.drop_zero, Nat.zero_add, if_neg (fun h => by
        rcases h2 with h2 | h2
        · rw [h2] at h; cases h.1
        · have := (dgs_hd _).1 h.2; rw [h2] at this; cases this)]
      omega
  · rw [h0]
    have e : (sg ++ (byt (be 1 (v / 1000)) ++ 46 :: F)) ++ z = sg ++ (byt (be 1 (v / 1000)) ++ 46 :: (F ++ z)) := by simp
    have el : (sg ++ (byt (be 1 (v / 1000)) ++ 46 :: F)).length = sg.length + (byt (be 1 (v / 1000))).length + 1 + F.length := by
      rw [List.length_append, List.length_append, List.length_cons]; omega
    rw [e, num_part sg _ F z hs hD hD0 hF hF0, el]
    constructor
    · omega
    · intro h1 _
      have e : dgs z = 0 := by
        have := dgs_hd z
        rw [h1] at this
        simp at this; omega
      omega
theorem num_first (n : Int) (hn : hold n = n) : ∃ c t, byt (prtI n) = c :: t ∧ (isD c = true ∨ (c.toNat = 45 ∧ hd isD t = true)) := by
  obtain ⟨sg, v, hp, hsg⟩ := numform n hn
  obtain ⟨hD, hD0⟩ := be_digs (v / 1000)
  rw [hp]
  cases hb : byt (be 1 (v / 1000)) with
  | nil => exact absurd hb hD0
  | cons c t =>
    have hc : isD c = true := hD c (by rw [hb]; simp)
    rcases hsg with ⟨rfl, -⟩ | ⟨rfl, -⟩
    · exact ⟨c, _, rfl, .inl hc⟩
    · exact ⟨45, _, rfl, .inr ⟨rfl, hc⟩⟩
/-- What a printed number's text is cut into, whatever follows. -/
theorem one_number (n : Int) (hn : hold n = n) (z : List UInt8) : oneT (byt (prtI n) ++ z) = (some (measured (byt (prtI n) ++ z) (num (byt (prtI n) ++ z))).1, (measured (byt (prtI n) ++ z) (num (byt (prtI n) ++ z))).2) := by
  have hpos : 0 < num (byt (prtI n) ++ z) := by
    have h1 := (num_more n hn z).1
    have h2 : 0 < (byt (prtI n)).length := by
      cases h : byt (prtI n) with
      | nil => exact absurd h (num_text n hn).2.2
      | cons c t => simp
    omega
  obtain ⟨c, t, hc, hcc⟩ := num_first n hn
  rw [hc, List.cons_append] at hpos ⊢
  have hb : (48 ≤ c.toNat ∧ c.toNat ≤ 57) ∨ c.toNat = 45 := hcc.imp (isD_iff c).1 (·.1)
  refine one_num (fun h => by have := h.1; omega) ?_ (by omega) hpos
  rw [Bool.eq_false_iff]; intro h; have := (isS_iff c).1 h; omega

theorem tx7 (x : List UInt8) (n : Int) : tx ⟨7, x, n⟩ = byt (prtI n) := rfl
theorem tx8 (x : List UInt8) (n : Int) : tx ⟨8, x, n⟩ = byt (prtI n) ++ [37] := rfl
theorem tx9 (x : List UInt8) (n : Int) : tx ⟨9, x, n⟩ = byt (prtI n) ++ x := rfl
theorem name_not {x z : List UInt8} (hs : starts x = true) : hd isD (x ++ z) = false ∧ heads 46 (x ++ z) = false ∧ heads 37 (x ++ z) = false := by
  obtain ⟨c, t, rfl, hc⟩ := name_head hs
  have hb : ((97 ≤ c.toNat ∧ c.toNat ≤ 122) ∨ (65 ≤ c.toNat ∧ c.toNat ≤ 90) ∨ c.toNat = 95 ∨ 128 ≤ c.toNat) ∨ c.toNat = 45 := hc.imp (isB_iff c).1 (·.1)
  refine ⟨?_, decide_eq_false (by omega), decide_eq_false (by omega)⟩
  show isD c = false
  rw [Bool.eq_false_iff]; intro h; have := (isD_iff c).1 h; omega
theorem one_dim (x z : List UInt8) (n : Int) (hn : hold n = n) (hs : starts x = true) : oneT (byt (prtI n) ++ (x ++ z)) = (some ⟨9, (x ++ z).take (runL isG (x ++ z)), n⟩, (byt (prtI n)).length + runL isG (x ++ z)) := by
  have h3 := name_not (z := z) hs
  have hN := (num_more n hn (x ++ z)).2 h3.1 (.inl h3.2.1)
  rw [one_number n hn, hN, measured_dim (by rw [List.drop_left]; exact h3.2.2) (by rw [List.drop_left]; exact starts_app z hs), List.drop_left, List.take_left, (num_text n hn).2.1]
theorem one_pct (z : List UInt8) (n : Int) (hn : hold n = n) : oneT (byt (prtI n) ++ 37 :: z) = (some ⟨8, [], n⟩, (byt (prtI n)).length + 1) := by
  have hN := (num_more n hn (37 :: z)).2 rfl (.inl rfl)
  rw [one_number n hn, hN, measured_pct (by rw [List.drop_left]; rfl), List.take_left, (num_text n hn).2.1]
theorem one_plain (z : List UInt8) (n : Int) (hn : hold n = n) (hN : num (byt (prtI n) ++ z) = (byt (prtI n)).length) (h1 : heads 37 z = false) (h2 : starts z = false) : oneT (byt (prtI n) ++ z) = (some ⟨7, [], n⟩, (byt (prtI n)).length) := by
  rw [one_number n hn, hN, measured_num (by rw [List.drop_left]; exact h1) (by rw [List.drop_left]; exact h2), List.take_left, (num_text n hn).2.1]

/-- A sign. -/
theorem sign_byte {c : UInt8} (h : 0 < signK c.toNat) : signB (signK c.toNat) = c ∧ tx ⟨signK c.toNat, [], 0⟩ = [c] := by
  have h1 : signB (signK c.toNat) = c := by
    rcases (signK_iff _).1 h with e | e | e | e | e | e | e | e | e <;> (rw [e, byte_of e]; rfl)
  refine ⟨h1, ?_⟩
  have h2 : tx ⟨signK c.toNat, [], 0⟩ = [signB (signK c.toNat)] := by
    rcases (signK_iff _).1 h with e | e | e | e | e | e | e | e | e <;> (rw [e]; rfl)
  rw [h2, h1]
theorem one_signed (c : UInt8) (z : List UInt8) (h : 0 < signK c.toNat) : oneT (c :: z) = (some ⟨signK c.toNat, [], 0⟩, 1) := by
  have hk := (signK_iff _).1 h
  have hD : isD c = false := by rw [Bool.eq_false_iff]; intro h; have := (isD_iff c).1 h; omega
  have hS : isS c = false := by rw [Bool.eq_false_iff]; intro h; have := (isS_iff c).1 h; omega
  have hB : isB c = false := by rw [Bool.eq_false_iff]; intro h; have := (isB_iff c).1 h; omega
  exact one_sign (fun h => by have := h.1; omega) hS (by omega) (byte_num hD (by omega) (by omega) (by omega)) (fun h => by have := h.1; omega) (fun h => by have := h.1; omega) (by rw [starts, if_neg (by omega)]; exact hB) h

/-- A right token is cut out of its text, if that ends there. -/
theorem fit (a : Tk) (hg : Good a) (z : List UInt8) (hs : stop a z) : oneT (tx a ++ z) = (some a, (tx a).length) := by
  cases hg with
  | name k x hk hst hgg =>
    rcases hk with rfl | rfl | rfl
    · have h : hd isG z = false ∧ heads 40 z = false := hs
      show oneT (x ++ z) = (some ⟨1, x, 0⟩, x.length)
      rw [one_named x z hst, named_stop hgg h.1 h.2]
    · show oneT ((x ++ [40]) ++ z) = (some ⟨2, x, 0⟩, (x ++ [40]).length)
      rw [List.append_assoc, one_named x _ hst, show ([40] : List UInt8) ++ z = 40 :: z from rfl, named_paren hgg]
      simp
    · have h : hd isG z = false := hs
      show oneT (64 :: (x ++ z)) = (some ⟨3, x, 0⟩, x.length + 1)
      rw [one_ated x z hst, run_name hgg, run_none h, Nat.add_zero, List.take_left, Nat.add_comm]
  | hash x h0 hgg =>
    have h : hd isG z = false := hs
    show oneT (35 :: (x ++ z)) = (some ⟨4, x, 0⟩, x.length + 1)
    rw [one_hashed x z h0 hgg, run_name hgg, run_none h, Nat.add_zero, List.take_left, Nat.add_comm]
  | str q x hq h =>
    obtain ⟨h1, h2⟩ := quote_is q x hq h
    show oneT ((quoteB x :: (x ++ [quoteB x])) ++ z) = (some ⟨5, x, 0⟩, (quoteB x :: (x ++ [quoteB x])).length)
    have e := one_quoted (quoteB x) x z h2 h1
    rw [show (quoteB x :: (x ++ [quoteB x])) ++ z = quoteB x :: (x ++ quoteB x :: z) by simp, e]
    simp
  | num k n hk hn =>
    rcases hk with rfl | rfl
    · have h : num (tx ⟨7, [], n⟩ ++ z) = (tx ⟨7, [], n⟩).length ∧ heads 37 z = false ∧ starts z = false := hs
      exact one_plain z n hn h.1 h.2.1 h.2.2
    · rw [tx8, List.append_assoc, show ([37] : List UInt8) ++ z = 37 :: z from rfl, one_pct z n hn, List.length_append]; rfl
  | dim x n hn hst hgg =>
    have h : hd isG z = false := hs
    rw [tx9, List.append_assoc, one_dim x z n hn hst, run_name hgg, run_none h, Nat.add_zero, List.take_left, List.length_append]
  | sign c h =>
    rw [(sign_byte h).2]
    exact one_signed c z h
  | delim c h1 h2 h3 h4 h5 => exact hs
  | space =>
    have h : hd isS z = false := hs
    show oneT (32 :: z) = (some ⟨20, [], 0⟩, 1)
    have e := one_blank (c := 32) (t := z) (fun h => by have := h.1; simp at this) rfl
    rw [e, runL, if_pos (show isS 32 = true from rfl), run_none h]

/-- How a right token's text begins. -/
theorem good_first (b : Tk) (hg : Good b) :
    (∃ c t, tx b = c :: t ∧ isD c = false ∧ isS c = false ∧ c.toNat ≠ 42 ∧ c.toNat ≠ 46 ∧ (c.toNat = 45 → t ≠ [])) ∨
    (hold b.n = b.n ∧ ∃ sfx, tx b = byt (prtI b.n) ++ sfx ∧ ((b.k = 7 ∧ sfx = []) ∨ (heads 37 sfx = true) ∨ (starts sfx = true)) ∧ hd isD sfx = false ∧ heads 46 sfx = false) ∨
    (∃ c, tx b = [c] ∧ b.k = 19 ∧ isS c = false ∧ isD c = false) ∨ (tx b = [32]) := by
  have nm : ∀ x : List UInt8, starts x = true → ∃ c t, x = c :: t ∧ isD c = false ∧ isS c = false ∧ c.toNat ≠ 42 ∧ c.toNat ≠ 46 ∧ (c.toNat = 45 → t ≠ []) := fun x hs => by
    obtain ⟨c, t, rfl, hc⟩ := name_head hs
    refine ⟨c, t, rfl, ?_⟩
    rcases hc with h | ⟨h, d, u, rfl, -⟩
    · have h2 := (isB_iff c).1 h
      refine ⟨?_, ?_, by omega, by omega, fun h => by omega⟩
      · rw [Bool.eq_false_iff]; intro h; have := (isD_iff c).1 h; omega
      · rw [Bool.eq_false_iff]; intro h; have := (isS_iff c).1 h; omega
    · refine ⟨?_, ?_, by omega, by omega, fun _ => by simp⟩
      · rw [Bool.eq_false_iff]; intro h; have := (isD_iff c).1 h; omega
      · rw [Bool.eq_false_iff]; intro h; have := (isS_iff c).1 h; omega
  cases hg with
  | name k x hk hst hgg =>
    left
    rcases hk with rfl | rfl | rfl
    · exact nm x hst
    · obtain ⟨c, t, rfl, h1, h2, h3, h4, h5⟩ := nm x hst
      exact ⟨c, t ++ [40], rfl, h1, h2, h3, h4, fun _ => by simp⟩
    · exact ⟨64, x, rfl, rfl, rfl, by decide, by decide, fun h => by simp at h⟩
  | hash x h0 hgg => exact .inl ⟨35, x, rfl, rfl, rfl, by decide, by decide, fun h => by simp at h⟩
  | str q x hq h =>
    left
    have h2 := (quote_is q x hq h).2
    refine ⟨quoteB x, x ++ [quoteB x], rfl, ?_, ?_, by omega, by omega, fun _ => by simp⟩
    · rw [Bool.eq_false_iff]; intro h; have := (isD_iff _).1 h; omega
    · rw [Bool.eq_false_iff]; intro h; have := (isS_iff _).1 h; omega
  | num k n hk hn =>
    right; left
    rcases hk with rfl | rfl
    · exact ⟨hn, [], by rw [tx7, List.append_nil], .inl ⟨rfl, rfl⟩, rfl, rfl⟩
    · exact ⟨hn, [37], rfl, .inr (.inl rfl), rfl, rfl⟩
  | dim x n hn hst hgg =>
    right; left
    have h3 := name_not (z := []) hst
    rw [List.append_nil] at h3
    exact ⟨hn, x, rfl, .inr (.inr hst), h3.1, h3.2.1⟩
  | sign c h =>
    left
    have hk := (signK_iff _).1 h
    refine ⟨c, [], (sign_byte h).2, ?_, ?_, by omega, by omega, fun h => by omega⟩
    · rw [Bool.eq_false_iff]; intro h; have := (isD_iff _).1 h; omega
    · rw [Bool.eq_false_iff]; intro h; have := (isS_iff _).1 h; omega
  | delim c h1 h2 h3 h4 h5 => exact .inr (.inr (.inl ⟨c, rfl, rfl, h1, h3⟩))
  | space => exact .inr (.inr (.inr rfl))

theorem good_ne {b : Tk} (hg : Good b) : tx b ≠ [] := by
  rcases good_first b hg with ⟨c, t, h, -⟩ | ⟨hn, sfx, h, -⟩ | ⟨c, h, -⟩ | h
  · rw [h]; simp
  · rw [h]; intro e; exact (num_text b.n hn).2.2 (List.append_eq_nil_iff.1 e).1
  · rw [h]; simp
  · rw [h]; simp
/-- How a number's text begins, whatever follows. -/
theorem num_hd {n : Int} (hn : hold n = n) (z : List UInt8) : hd isS (byt (prtI n) ++ z) = false ∧ heads 42 (byt (prtI n) ++ z) = false ∧ heads 46 (byt (prtI n) ++ z) = false ∧ byt (prtI n) ++ z ≠ [45] := by
  obtain ⟨c, t, hc, hcc⟩ := num_first n hn
  have hb : (48 ≤ c.toNat ∧ c.toNat ≤ 57) ∨ c.toNat = 45 := hcc.imp (isD_iff c).1 (·.1)
  rw [hc, List.cons_append]
  refine ⟨?_, decide_eq_false (by omega), decide_eq_false (by omega), ?_⟩
  · show isS c = false
    rw [Bool.eq_false_iff]; intro h; have := (isS_iff c).1 h; omega
  · intro e
    obtain ⟨rfl, e2⟩ := List.cons.inj e
    rcases hcc with h | ⟨-, h⟩
    · have := (isD_iff _).1 h
      simp at this
    · obtain ⟨rfl, -⟩ := List.append_eq_nil_iff.1 e2
      cases h
theorem good_star {b : Tk} (hg : Good b) (h : heads 42 (tx b) = true) : tx b = [42] := by
  rcases good_first b hg with ⟨c, t, e, -, -, h1, -⟩ | ⟨hn, sfx, e, -⟩ | ⟨c, e, -⟩ | e
  · rw [e] at h; exact absurd (of_decide_eq_true h) h1
  · rw [e, (num_hd hn sfx).2.1] at h; cases h
  · rw [e] at h ⊢
    have : c.toNat = 42 := of_decide_eq_true h
    rw [byte_of this]; rfl
  · rw [e] at h; cases h
theorem good_blank {b : Tk} (hg : Good b) (h : hd isS (tx b) = true) : tx b = [32] := by
  rcases good_first b hg with ⟨c, t, e, -, h1, -⟩ | ⟨hn, sfx, e, -⟩ | ⟨c, e, -, h1, -⟩ | e
  · rw [e] at h
    have h2 : isS c = true := h
    rw [h1] at h2; cases h2
  · rw [e, (num_hd hn sfx).1] at h; cases h
  · rw [e] at h
    have h2 : isS c = true := h
    rw [h1] at h2; cases h2
  · exact e
theorem good_dot {b : Tk} (hg : Good b) (h : heads 46 (tx b) = true) : tx b = [46] ∧ b.k = 19 := by
  rcases good_first b hg with ⟨c, t, e, -, -, -, h1, -⟩ | ⟨hn, sfx, e, -⟩ | ⟨c, e, hk, -⟩ | e
  · rw [e] at h; exact absurd (of_decide_eq_true h) h1
  · rw [e, (num_hd hn sfx).2.2.1] at h; cases h
  · rw [e] at h ⊢
    have : c.toNat = 46 := of_decide_eq_true h
    exact ⟨by rw [byte_of this]; rfl, hk⟩
  · rw [e] at h; cases h
theorem good_dash {b : Tk} (hg : Good b) (h : tx b = [45]) : b.k = 19 := by
  rcases good_first b hg with ⟨c, t, e, -, -, -, -, h1⟩ | ⟨hn, sfx, e, -⟩ | ⟨c, e, hk, -⟩ | e
  · rw [e] at h
    obtain ⟨rfl, rfl⟩ := List.cons.inj h
    exact absurd rfl (h1 rfl)
  · rw [e] at h; exact absurd h (num_hd hn sfx).2.2.2
  · exact hk
  · rw [e] at h; simp at h
theorem good_digit {b : Tk} (hg : Good b) (h : hd isD (tx b) = true) : hold b.n = b.n ∧ ∃ sfx, tx b = byt (prtI b.n) ++ sfx ∧ ((b.k = 7 ∧ sfx = []) ∨ (heads 37 sfx = true) ∨ (starts sfx = true)) ∧ hd isD sfx = false ∧ heads 46 sfx = false := by
  rcases good_first b hg with ⟨c, t, e, h1, -⟩ | hh | ⟨c, e, -, -, h1⟩ | e
  · rw [e] at h
    have h2 : isD c = true := h
    rw [h1] at h2; cases h2
  · exact hh
  · rw [e] at h
    have h2 : isD c = true := h
    rw [h1] at h2; cases h2
  · rw [e] at h; cases h

/-- Bytes that stand by themselves: when. -/
theorem kind19 {l : List UInt8} {t : Tk} (h : (oneT l).1 = some t) (hk : t.k = 19) : (oneT l).2 = 1 := by
  cases l with
  | nil => cases h
  | cons c r =>
    have quot : ∀ q u, (quoted q u).1.k ≠ 19 := fun q u => by
      unfold quoted; dsimp only; split
      · show (5 : Int) ≠ 19; decide
      · split <;> simp
    have meas : ∀ l n, (measured l n).1.k ≠ 19 := fun l n => by
      unfold measured; dsimp only; split
      · show (8 : Int) ≠ 19; decide
      · split <;> simp
    have nam : ∀ l, (named l).1.k ≠ 19 := fun l => by
      unfold named; split <;> simp
    rw [oneT] at h ⊢
    split at h
    · cases h
    · rename_i h1
      rw [if_neg h1]
      split at h
      · obtain rfl := Option.some.inj h; cases hk
      · rename_i h2
        rw [if_neg h2]
        split at h
        · obtain rfl := Option.some.inj h; exact absurd hk (quot _ _)
        · rename_i h3
          rw [if_neg h3]
          split at h
          · obtain rfl := Option.some.inj h; exact absurd hk (meas _ _)
          · rename_i h4
            rw [if_neg h4]
            split at h
            · obtain rfl := Option.some.inj h; cases hk
            · rename_i h5
              rw [if_neg h5]
              split at h
              · obtain rfl := Option.some.inj h; cases hk
              · rename_i h6
                rw [if_neg h6]
                split at h
                · obtain rfl := Option.some.inj h; exact absurd hk (nam _)
                · rename_i h7
                  rw [if_neg h7]
                  split at h
                  · rename_i hs
                    rw [if_pos hs]
                  · rename_i hs
                    rw [if_neg hs]
/-- What must not follow a byte that stands by itself. -/
def alone (c : UInt8) (z : List UInt8) : Prop := ¬ (c.toNat = 47 ∧ heads 42 z = true) ∧ ¬ 0 < num (c :: z) ∧ ¬ (c.toNat = 35 ∧ 0 < runL isG z) ∧ ¬ (c.toNat = 64 ∧ starts z = true) ∧ starts (c :: z) = false
theorem alone_one {c : UInt8} {z : List UInt8} (h1 : isS c = false) (h2 : ¬ (c.toNat = 34 ∨ c.toNat = 39)) (h5 : ¬ 0 < signK c.toNat) (h : alone c z) : oneT (c :: z) = (some ⟨19, [c], 0⟩, 1) :=
  one_delim h.1 h1 h2 h.2.1 h.2.2.1 h.2.2.2.1 h.2.2.2.2 h5
theorem one_alone {c : UInt8} {z : List UInt8} (h : oneT (c :: z) = (some ⟨19, [c], 0⟩, 1)) : alone c z := by
  rw [oneT] at h
  have quot : ∀ q u, (quoted q u).1.k ≠ 19 := fun q u => by
    unfold quoted; dsimp only; split
    · show (5 : Int) ≠ 19; decide
    · split <;> simp
  have meas : ∀ l n, (measured l n).1.k ≠ 19 := fun l n => by
    unfold measured; dsimp only; split
    · show (8 : Int) ≠ 19; decide
    · split <;> simp
  have nam : ∀ l, (named l).1.k ≠ 19 := fun l => by
    unfold named; split <;> simp
  have key : ∀ {t : Tk} {n : Nat}, (some t, n) = (some (⟨19, [c], 0⟩ : Tk), 1) → t.k = 19 := fun e => by
    have := congrArg Prod.fst e
    rw [Option.some.inj this]
  split at h
  · cases h
  · rename_i h1
    split at h
    · exact absurd (key h) (show ¬ (20 : Int) = 19 by decide)
    · split at h
      · exact absurd (key h) (quot _ _)
      · split at h
        · exact absurd (key h) (meas _ _)
        · rename_i h4
          split at h
          · exact absurd (key h) (show ¬ (4 : Int) = 19 by decide)
          · rename_i h5
            split at h
            · exact absurd (key h) (show ¬ (3 : Int) = 19 by decide)
            · rename_i h6
              split at h
              · exact absurd (key h) (nam _)
              · rename_i h7
                exact ⟨h1, h4, h5, h6, by simpa using h7⟩
/-- What stands behind a point, a dash that stand by themselves. -/
theorem alone_dot {z : List UInt8} (h : oneT (46 :: z) = (some ⟨19, [46], 0⟩, 1)) : hd isD z = false := by
  have h1 := (one_alone h).2.1
  rw [Bool.eq_false_iff]
  intro h2
  exact h1 ((num_pos _).2 (.inr ⟨rfl, h2⟩))
theorem alone_dash {z : List UInt8} (h : oneT (45 :: z) = (some ⟨19, [45], 0⟩, 1)) : dashed z = false := by
  have h1 := (one_alone h).2.2.2.2
  rw [starts, if_pos (by rfl)] at h1
  exact h1

theorem good19 {b : Tk} {c : UInt8} (hg : Good b) (hk : b.k = 19) (h : tx b = [c]) : b = ⟨19, [c], 0⟩ := by
  cases hg with
  | name k x hk2 _ _ => rcases hk2 with rfl | rfl | rfl <;> cases hk
  | hash x _ _ => cases hk
  | str q x _ _ => cases hk
  | num k n hk2 _ => rcases hk2 with rfl | rfl <;> cases hk
  | dim x n _ _ _ => cases hk
  | sign d h2 =>
    exfalso
    have hk : (signK d.toNat : Int) = 19 := hk
    rcases (signK_iff _).1 h2 with e | e | e | e | e | e | e | e | e <;> (rw [e] at hk; simp [signK] at hk)
  | delim d _ _ _ _ _ =>
    have h3 : [d] = [c] := h
    rw [h3]
  | space => cases hk

/-- Behind a right token's text more stands. -/
theorem starts_more {b : Tk} (hg : Good b) {u : List UInt8} (hb : b.k = 19 → stop b u) (h : starts (tx b) = false) : starts (tx b ++ u) = false := by
  have hne := good_ne hg
  cases hx : tx b with
  | nil => exact absurd hx hne
  | cons c t =>
    rw [hx] at h
    rw [List.cons_append]
    rw [starts] at h ⊢
    by_cases h45 : c.toNat = 45
    · rw [if_pos h45] at h ⊢
      cases t with
      | nil =>
        have e45 : tx b = [45] := by rw [hx, byte_of h45]; rfl
        have hk := good_dash hg e45
        have hb1 := hb hk
        have eb := good19 hg hk e45
        have h2 : oneT (tx b ++ u) = (some b, 1) := by
          have : stop b u = (oneT (tx b ++ u) = (some b, 1)) := by unfold stop; rw [hk]; simp
          rw [this] at hb1; exact hb1
        rw [e45, eb] at h2
        exact alone_dash h2
      | cons d r => exact h
    · rw [if_neg h45] at h ⊢; exact h
theorem dot_more {b : Tk} (hg : Good b) {u : List UInt8} (hb : b.k = 19 → stop b u) (h : heads 46 (tx b) = true) : hd isD ((tx b ++ u).drop 1) = false := by
  obtain ⟨e46, hk⟩ := good_dot hg h
  have hb1 := hb hk
  have eb := good19 hg hk e46
  have h2 : oneT (tx b ++ u) = (some b, 1) := by
    have : stop b u = (oneT (tx b ++ u) = (some b, 1)) := by unfold stop; rw [hk]; simp
    rw [this] at hb1; exact hb1
  rw [e46, eb] at h2
  rw [e46]
  exact alone_dot h2
theorem heads_app {n : Nat} {x u : List UInt8} (h : x ≠ []) : heads n (x ++ u) = heads n x := by
  cases x with
  | nil => exact absurd rfl h
  | cons c t => rfl

theorem stop_more (a b : Tk) (ha : Good a) (hg : Good b) (u : List UInt8) (hb : b.k = 19 → stop b u) (hs : stop a (tx b)) : stop a (tx b ++ u) := by
  have hne := good_ne hg
  cases ha with
  | name k x hk hst hgg =>
    rcases hk with rfl | rfl | rfl
    · have h : hd isG (tx b) = false ∧ heads 40 (tx b) = false := hs
      exact ⟨by rw [hd_app hne]; exact h.1, by rw [heads_app hne]; exact h.2⟩
    · trivial
    · have h : hd isG (tx b) = false := hs
      show hd isG (tx b ++ u) = false
      rw [hd_app hne]; exact h
  | hash x h0 hgg =>
    have h : hd isG (tx b) = false := hs
    show hd isG (tx b ++ u) = false
    rw [hd_app hne]; exact h
  | str q x hq h => trivial
  | num k n hk hn =>
    rcases hk with rfl | rfl
    · have h : num (byt (prtI n) ++ tx b) = (byt (prtI n)).length ∧ heads 37 (tx b) = false ∧ starts (tx b) = false := hs
      have h1 : hd isD (tx b) = false := by
        have h2 := (num_more n hn (tx b)).1
        rw [h.1] at h2
        rw [Bool.eq_false_iff]
        intro h3
        have := (dgs_hd _).2 h3
        omega
      refine ⟨?_, by rw [heads_app hne]; exact h.2.1, starts_more hg hb h.2.2⟩
      show num (byt (prtI n) ++ (tx b ++ u)) = (byt (prtI n)).length
      refine (num_more n hn (tx b ++ u)).2 (by rw [hd_app hne]; exact h1) ?_
      rw [heads_app hne]
      cases h46 : heads 46 (tx b) with
      | false => exact .inl rfl
      | true => exact .inr (dot_more hg hb h46)
    · trivial
  | dim x n hn hst hgg =>
    have h : hd isG (tx b) = false := hs
    show hd isG (tx b ++ u) = false
    rw [hd_app hne]; exact h
  | sign c h =>
    have hk := (signK_iff _).1 h
    rcases hk with e | e | e | e | e | e | e | e | e <;> (rw [e]; trivial)
  | delim c h1 h2 h3 h4 h5 =>
    have h : oneT (c :: tx b) = (some ⟨19, [c], 0⟩, 1) := hs
    obtain ⟨k1, k2, k3, k4, k5⟩ := one_alone h
    show oneT (c :: (tx b ++ u)) = (some ⟨19, [c], 0⟩, 1)
    refine alone_one h1 h2 h5 ⟨by rw [heads_app hne]; exact k1, ?_, ?_, ?_, ?_⟩
    · intro h6
      have h7 := (num_pos _).1 h6
      apply k2
      rw [num_pos]
      by_cases hsg : c.toNat = 43 ∨ c.toNat = 45
      · have e1 : sgn (c :: (tx b ++ u)) = 1 := if_pos hsg
        have e2 : sgn (c :: tx b) = 1 := if_pos hsg
        rw [e1] at h7
        rw [e2]
        rcases h7 with h7 | ⟨h7, h8⟩
        · left
          have h9 : hd isD (tx b ++ u) = true := h7
          rw [hd_app hne] at h9
          exact h9
        · exfalso
          have h9 : heads 46 (tx b ++ u) = true := h7
          rw [heads_app hne] at h9
          have h10 := dot_more hg hb h9
          have h11 : hd isD ((tx b ++ u).drop 1) = true := h8
          rw [h10] at h11; cases h11
      · have e1 : sgn (c :: (tx b ++ u)) = 0 := if_neg hsg
        have e2 : sgn (c :: tx b) = 0 := if_neg hsg
        rw [e1] at h7
        rw [e2]
        rcases h7 with h7 | ⟨h7, h8⟩
        · exact .inl h7
        · right
          refine ⟨h7, ?_⟩
          have h9 : hd isD (tx b ++ u) = true := h8
          rw [hd_app hne] at h9
          exact h9
    · intro h6
      apply k3
      refine ⟨h6.1, ?_⟩
      have h7 : hd isG (tx b ++ u) = true := by rw [hd_run]; exact decide_eq_true h6.2
      rw [hd_app hne, hd_run] at h7
      exact of_decide_eq_true h7
    · intro h6
      cases h7 : starts (tx b) with
      | true => exact k4 ⟨h6.1, h7⟩
      | false => rw [starts_more hg hb h7] at h6; cases h6.2
    · rw [starts] at k5 ⊢
      by_cases h45 : c.toNat = 45
      · rw [if_pos h45] at k5 ⊢
        cases hx : tx b with
        | nil => exact absurd hx hne
        | cons d r => rw [hx] at k5; exact k5
      · rw [if_neg h45] at k5 ⊢; exact k5
  | space =>
    have h : hd isS (tx b) = false := hs
    show hd isS (tx b ++ u) = false
    rw [hd_app hne]; exact h

/-- The end, and a comment, may follow whatever token. -/
theorem stop_end (a : Tk) (ha : Good a) (r : List UInt8) (hr : r = [] ∨ ∃ r', r = 47 :: 42 :: r') : stop a r := by
  have hG : hd isG r = false := by rcases hr with rfl | ⟨r', rfl⟩ <;> rfl
  have hS : hd isS r = false := by rcases hr with rfl | ⟨r', rfl⟩ <;> rfl
  have hD : hd isD r = false := by rcases hr with rfl | ⟨r', rfl⟩ <;> rfl
  have h40 : heads 40 r = false := by rcases hr with rfl | ⟨r', rfl⟩ <;> rfl
  have h37 : heads 37 r = false := by rcases hr with rfl | ⟨r', rfl⟩ <;> rfl
  have h42 : heads 42 r = false := by rcases hr with rfl | ⟨r', rfl⟩ <;> rfl
  have h46 : heads 46 r = false := by rcases hr with rfl | ⟨r', rfl⟩ <;> rfl
  have hst : starts r = false := by rcases hr with rfl | ⟨r', rfl⟩ <;> rfl
  have hds : dashed r = false := by rcases hr with rfl | ⟨r', rfl⟩ <;> rfl
  cases ha with
  | name k x hk _ hgg =>
    rcases hk with rfl | rfl | rfl
    · exact ⟨hG, h40⟩
    · trivial
    · exact hG
  | hash x h0 hgg => exact hG
  | str q x hq h => trivial
  | num k n hk hn =>
    rcases hk with rfl | rfl
    · exact ⟨(num_more n hn r).2 hD (.inl h46), h37, hst⟩
    · trivial
  | dim x n hn _ hgg => exact hG
  | sign c h =>
    have hk := (signK_iff _).1 h
    rcases hk with e | e | e | e | e | e | e | e | e <;> (rw [e]; trivial)
  | delim c h1 h2 h3 h4 h5 =>
    show oneT (c :: r) = (some ⟨19, [c], 0⟩, 1)
    refine alone_one h1 h2 h5 ⟨fun h => (by rw [h42] at h; cases h.2), ?_, fun h => (by have h6 := h.2; rw [run_none hG] at h6; omega), fun h => (by rw [hst] at h; cases h.2), ?_⟩
    · intro h
      have h7 := (num_pos _).1 h
      by_cases hsg : c.toNat = 43 ∨ c.toNat = 45
      · have e1 : sgn (c :: r) = 1 := if_pos hsg
        rw [e1] at h7
        rcases h7 with h7 | ⟨h7, -⟩
        · have h8 : hd isD r = true := h7
          rw [hD] at h8; cases h8
        · have h8 : heads 46 r = true := h7
          rw [h46] at h8; cases h8
      · have e1 : sgn (c :: r) = 0 := if_neg hsg
        rw [e1] at h7
        rcases h7 with h7 | ⟨-, h7⟩
        · have h8 : isD c = true := h7
          rw [h3] at h8; cases h8
        · have h8 : hd isD r = true := h7
          rw [hD] at h8; cases h8
    · rw [starts]
      split
      · exact hds
      · exact h4
  | space => exact hS

theorem cut_fit {a : Tk} {z : List UInt8} (hg : Good a) (hs : stop a z) : cut (tx a ++ z) = a :: cut z := by
  have hne : tx a ++ z ≠ [] := fun e => good_ne hg (List.append_eq_nil_iff.1 e).1
  rw [cut_step hne, fit a hg z hs, List.drop_left]; rfl
/-- A right token is right. -/
theorem good_right {a : Tk} (hg : Good a) : rightT a = true := by
  unfold rightT
  have h := cut_fit hg (stop_end a hg [] (.inl rfl))
  rw [List.append_nil, cut_nil] at h
  rw [h]
  have hi : (textT a).isSome = true := by
    cases ht : textT a with
    | some l => rfl
    | none =>
      exfalso
      have := good_ne hg
      unfold tx at this
      rw [ht] at this
      exact this rfl
  rw [hi]; simp

theorem cut_comment (X : List UInt8) : cut (47 :: 42 :: 42 :: 47 :: X) = cut X := by
  have e : oneT (47 :: 42 :: 42 :: 47 :: X) = (none, 4) := by rw [one_comment ⟨rfl, rfl⟩]; rfl
  rw [cut_step (by simp), e]; rfl
theorem cut_comment_x (X : List UInt8) : cut (47 :: 42 :: 32 :: 120 :: 32 :: 42 :: 47 :: X) = cut X := by
  have e : oneT (47 :: 42 :: 32 :: 120 :: 32 :: 42 :: 47 :: X) = (none, 7) := by rw [one_comment ⟨rfl, rfl⟩]; rfl
  rw [cut_step (by simp), e]; rfl

/-- A nought ahead of a point. -/
theorem num_point (w : List UInt8) (h : hd isD w = true) : num (46 :: w) = 1 + dgs w ∧ num (48 :: 46 :: w) = 2 + dgs w := by
  have hp := (dgs_hd w).2 h
  constructor
  · unfold num
    have e0 : sgn (46 :: w) = 0 := rfl
    have e1 : dgs (46 :: w) = 0 := rfl
    dsimp only
    rw [e0, List.drop_zero, e1, if_pos ⟨rfl, hp⟩]
    show 0 + 0 + 1 + dgs w = _
    omega
  · have e := num_whole [] [48] (46 :: w) (.inl rfl) (by intro c hc; simp at hc; subst hc; rfl) (by simp)
    have e1 : dgs (46 :: w) = 0 := rfl
    rw [e1, List.drop_zero, if_pos ⟨rfl, hp⟩] at e
    rw [show ([] : List UInt8) ++ ([48] ++ 46 :: w) = 48 :: 46 :: w from rfl] at e
    rw [e]
    show 0 + 1 + 0 + 1 + dgs w = _
    omega
theorem worth_nought (l : List UInt8) (h : (l.head?.map (·.toNat)) ≠ some 45) : worth (48 :: l) = worth l := by
  unfold worth
  have e : wgather (48 :: l) = wgather l := rfl
  rw [e]
  dsimp only
  rw [if_neg h, if_neg (by simp)]
theorem one_point (w : List UInt8) (h : hd isD w = true) : oneT (48 :: 46 :: w) = ((oneT (46 :: w)).1, (oneT (46 :: w)).2 + 1) := by
  obtain ⟨h1, h2⟩ := num_point w h
  have hp := (dgs_hd w).2 h
  have e1 := one_num (c := 46) (t := w) (fun h => by have := h.1; simp at this) rfl (by decide) (by rw [h1]; omega)
  have e2 := one_num (c := 48) (t := 46 :: w) (fun h => by have := h.1; simp at this) rfl (by decide) (by rw [h2]; omega)
  rw [e1, e2, h1, h2]
  have hd1 : (48 :: 46 :: w).drop (2 + dgs w) = (46 :: w).drop (1 + dgs w) := by
    rw [show 2 + dgs w = (1 + dgs w) + 1 by omega, List.drop_succ_cons]
  have ht1 : (48 :: 46 :: w).take (2 + dgs w) = 48 :: (46 :: w).take (1 + dgs w) := by
    rw [show 2 + dgs w = (1 + dgs w) + 1 by omega, List.take_succ_cons]
  have hw : worth (48 :: (46 :: w).take (1 + dgs w)) = worth ((46 :: w).take (1 + dgs w)) := worth_nought _ (by rw [show 1 + dgs w = dgs w + 1 by omega, List.take_succ_cons]; simp)
  have hm : measured (48 :: 46 :: w) (2 + dgs w) = ((measured (46 :: w) (1 + dgs w)).1, (measured (46 :: w) (1 + dgs w)).2 + 1) := by
    unfold measured
    dsimp only
    rw [hd1, ht1, hw]
    split
    · exact Prod.ext rfl (by show 2 + dgs w + 1 = 1 + dgs w + 1 + 1; omega)
    · split
      · exact Prod.ext rfl (by show 2 + dgs w + runL isG _ = 1 + dgs w + runL isG _ + 1; omega)
      · exact Prod.ext rfl (by show 2 + dgs w = 1 + dgs w + 1; omega)
  rw [hm]
theorem cut_point (w : List UInt8) (h : hd isD w = true) : cut (48 :: 46 :: w) = cut (46 :: w) := by
  rw [cut_step (l := 48 :: 46 :: w) (by simp), cut_step (l := 46 :: w) (by simp), one_point w h]
  rfl

/-- A nought behind a number's part. -/
theorem wstep_left (q : Int × Int) (c : UInt8) (h : 0 ≤ q.2) : 0 ≤ (wstep q c).2 := by
  by_cases hd : isD c = true
  · by_cases hq : q.2 = 0
    · rw [wstep_full q c hd hq]; exact h
    · rw [wstep_add q c hd hq]; simp only; split <;> omega
  · have hd : isD c = false := by simpa using hd
    by_cases h46 : c.toNat = 46
    · rw [wstep_dot q c h46]; show (0 : Int) ≤ 3; decide
    · rw [wstep_other q c h46 hd]; exact h
theorem wfold_left : ∀ (l : List UInt8) (q : Int × Int), 0 ≤ q.2 → 0 ≤ (l.foldl wstep q).2
  | [], q, h => h
  | c :: t, q, h => wfold_left t _ (wstep_left q c h)
theorem wgather_left : ∀ (l : List UInt8) (q : Int × Int), (46 : UInt8) ∈ l → 0 ≤ (l.foldl wstep q).2
  | [], q, h => by simp at h
  | c :: t, q, h => by
    rcases List.mem_cons.1 h with rfl | h
    · rw [List.foldl_cons]
      exact wfold_left t _ (by rw [wstep_dot q 46 rfl]; show (0 : Int) ≤ 3; decide)
    · exact wgather_left t _ h
theorem worth_more (l : List UInt8) (h : (46 : UInt8) ∈ l) : worth (l ++ [48]) = worth l := by
  have h0 := wgather_left l (0, -1) h
  have hb := wgather_bd l
  have hne : l ≠ [] := by intro e; rw [e] at h; simp at h
  have hhd : (l ++ [48]).head? = l.head? := by
    cases l with
    | nil => exact absurd rfl hne
    | cons c t => rfl
  unfold worth
  rw [hhd, wgather_snoc]
  have h0' : 0 ≤ (wgather l).2 := h0
  generalize wgather l = q at *
  obtain ⟨a, b⟩ := q
  simp only at h0' hb
  dsimp only
  have key : hold (wtail (wstep (a, b) 48).1 (wstep (a, b) 48).2) = hold (wtail a b) ∧ hold (-(wtail (wstep (a, b) 48).1 (wstep (a, b) 48).2)) = hold (-(wtail a b)) := by
    by_cases hb0 : b = 0
    · rw [wstep_full (a, b) 48 rfl hb0]; exact ⟨rfl, rfl⟩
    · rw [wstep_add (a, b) 48 rfl hb0]
      have e48 : (((48 : UInt8).toNat : Int) - 48) = 0 := rfl
      simp only [e48, Int.add_zero]
      rw [if_pos (show 0 < b by omega)]
      rcases (show b = 1 ∨ b = 2 ∨ b = 3 by omega) with rfl | rfl | rfl
      · have e1 : wtail a 1 = a * 10 := rfl
        have e2 : ∀ x, wtail x (1 - 1) = x := fun x => rfl
        rw [e1, e2]
        constructor <;> (split <;> (unfold hold; (repeat' split) <;> omega))
      · have e1 : wtail a 2 = a * 100 := rfl
        have e2 : ∀ x, wtail x (2 - 1) = x * 10 := fun x => rfl
        rw [e1, e2]
        constructor <;> (split <;> (unfold hold; (repeat' split) <;> omega))
      · have e1 : wtail a 3 = a * 1000 := rfl
        have e2 : ∀ x, wtail x (3 - 1) = x * 100 := fun x => rfl
        rw [e1, e2]
        constructor <;> (split <;> (unfold hold; (repeat' split) <;> omega))
  rw [key.1, key.2]

/-- The text of a part. -/
theorem worth_part (f : Nat) (h0 : 0 < f) (h : f < 1000) : worth (46 :: byt (fr 100 f)) = f := by
  have hh : hold (f : Int) = f := hold_id (by omega) (by omega)
  have ht := num_text (f : Int) hh
  have e : byt (prtI f) = 48 :: 46 :: byt (fr 100 f) := by
    have e1 : prtI (f : Int) = prt f := by
      unfold prtI
      rw [hh, if_neg (by omega), Int.toNat_natCast]
    rw [e1, byt_prt, show f / 1000 = 0 by omega, be_one (by omega)]
    unfold pp
    rw [show f % 1000 = f by omega, if_neg (by omega)]
    rfl
  have h1 := ht.2.1
  rw [e, worth_nought _ (by simp)] at h1
  exact h1

/-- Two texts that are cut into their two tokens: either the first one ends there, or it takes a nought of the second one's. -/
def Nought (a b : Tk) : Prop := a.k = 7 ∧ (∃ w, tx b = 48 :: 46 :: w ∧ hd isD w = true) ∧ ∀ w, oneT (tx a ++ 48 :: 46 :: w) = (some a, (tx a).length + 1)
theorem cut_two {l : List UInt8} {a b t : Tk} (h : cut l = [a, b]) (ho : (oneT l).1 = some t) : t = a ∧ cut (l.drop (oneT l).2) = [b] := by
  have hne : l ≠ [] := by rintro rfl; cases h
  rw [cut_step hne, ho] at h
  have h2 : t :: cut (l.drop (oneT l).2) = [a, b] := h
  obtain ⟨h3, h4⟩ := List.cons.inj h2
  exact ⟨h3, h4⟩
theorem run_same {x z : List UInt8} (hg : ∀ c ∈ x, isG c = true) (h : (x ++ z).take (runL isG (x ++ z)) = x) : hd isG z = false := by
  have h1 := congrArg List.length h
  rw [List.length_take, Nat.min_eq_left (runL_le _ _), run_name hg] at h1
  rw [hd_run]
  exact decide_eq_false (by omega)
theorem sfx_nil {b : Tk} {sfx : List UInt8} (h : (b.k = 7 ∧ sfx = []) ∨ (heads 37 sfx = true) ∨ (starts sfx = true)) (h1 : heads 37 sfx = false) (h2 : starts sfx = false) : sfx = [] := by
  rcases h with h | h | h
  · exact h.2
  · rw [h1] at h; cases h
  · rw [h2] at h; cases h

theorem unfit_num (n : Int) (hn : hold n = n) (b : Tk) (hb : Good b) (h : cut (byt (prtI n) ++ tx b) = [⟨7, [], n⟩, b]) : stop ⟨7, [], n⟩ (tx b) ∨ Nought ⟨7, [], n⟩ b := by
  have ho := one_number n hn (tx b)
  have hlo := num_more n hn (tx b)
  obtain ⟨N, hN⟩ : ∃ N, N = num (byt (prtI n) ++ tx b) := ⟨_, rfl⟩
  rw [← hN] at ho hlo
  obtain ⟨h1, h2⟩ := cut_two h (by rw [ho])
  rw [ho] at h2
  dsimp only at h2
  have hbr : heads 37 ((byt (prtI n) ++ tx b).drop N) = false ∧ starts ((byt (prtI n) ++ tx b).drop N) = false := by
    constructor
    · cases hx : heads 37 ((byt (prtI n) ++ tx b).drop N) with
      | false => rfl
      | true => rw [measured_pct hx] at h1; have := congrArg Tk.k h1; simp at this
    · cases hx : heads 37 ((byt (prtI n) ++ tx b).drop N) with
      | true => rw [measured_pct hx] at h1; have := congrArg Tk.k h1; simp at this
      | false =>
        cases hy : starts ((byt (prtI n) ++ tx b).drop N) with
        | false => rfl
        | true => rw [measured_dim hx hy] at h1; have := congrArg Tk.k h1; simp at this
  rw [measured_num hbr.1 hbr.2] at h2
  dsimp only at h2
  by_cases hNp : N = (byt (prtI n)).length
  · left
    rw [hNp, List.drop_left] at hbr
    exact ⟨by rw [tx7, ← hN, hNp], hbr.1, hbr.2⟩
  · -- the second text begins with a digit
    have hdig : hd isD (tx b) = true := by
      cases hx : hd isD (tx b) with
      | true => rfl
      | false =>
        exfalso
        apply hNp
        refine hlo.2 hx ?_
        cases h46 : heads 46 (tx b) with
        | false => exact .inl rfl
        | true => right; rw [(good_dot hb h46).1]; rfl
    obtain ⟨hbn, sfx, hbx, hsf, hsd, hs46⟩ := good_digit hb hdig
    obtain ⟨sgb, vb, hpb, hsgb⟩ := numform b.n hbn
    obtain ⟨hDb, hDb0⟩ := be_digs (vb / 1000)
    have hsg0 : sgb = [] ∧ b.n = vb := by
      rcases hsgb with h | ⟨h, -⟩
      · exact h
      · exfalso
        rw [hbx, hpb, h] at hdig
        cases hdig
    obtain ⟨hsg1, hbv⟩ := hsg0
    subst hsg1
    have hds : dgs sfx = 0 := by
      have := dgs_hd sfx
      rw [hsd] at this
      simp at this; omega
    obtain ⟨sg, v, hp, hsg⟩ := numform n hn
    have hs : sg = [] ∨ sg = [45] := hsg.imp (·.1) (·.1)
    obtain ⟨hD, hD0⟩ := be_digs (v / 1000)
    have hbx2 : tx b = byt (be 1 (vb / 1000)) ++ (pp vb ++ sfx) := by rw [hbx, hpb]; simp
    have done : (byt (prtI n) ++ tx b).drop N = sfx → False := fun hdr => by
      rw [hdr] at hbr h2
      have := sfx_nil hsf hbr.1 hbr.2
      rw [this, cut_nil] at h2; cases h2
    have hDDb : ∀ c ∈ byt (be 1 (v / 1000)) ++ byt (be 1 (vb / 1000)), isD c = true := fun c hc => (List.mem_append.1 hc).elim (hD c) (hDb c)
    rcases pp_is v with ⟨-, hv0⟩ | ⟨-, F, hv0, hF0, hF⟩
    · -- a whole number ahead
      exfalso
      apply done
      rw [hv0, List.append_nil] at hp
      have e1 : byt (prtI n) ++ tx b = sg ++ ((byt (be 1 (v / 1000)) ++ byt (be 1 (vb / 1000))) ++ (pp vb ++ sfx)) := by rw [hp, hbx2]; simp
      have hne : byt (be 1 (v / 1000)) ++ byt (be 1 (vb / 1000)) ≠ [] := fun e => hD0 (List.append_eq_nil_iff.1 e).1
      rcases pp_is vb with ⟨-, hw0⟩ | ⟨-, G, hw0, hG0, hG⟩
      · rw [hw0, List.nil_append] at e1
        have hNN : N = sg.length + (byt (be 1 (v / 1000)) ++ byt (be 1 (vb / 1000))).length := by
          rw [hN, e1, num_whole sg _ sfx hs hDDb hne, hds, List.drop_zero, hs46, if_neg (fun h => by cases h.1), Nat.add_zero]
        rw [e1, hNN, drop_run, List.drop_left]
      · rw [hw0] at e1
        have e2 : sg ++ ((byt (be 1 (v / 1000)) ++ byt (be 1 (vb / 1000))) ++ ((46 :: G) ++ sfx)) = sg ++ ((byt (be 1 (v / 1000)) ++ byt (be 1 (vb / 1000))) ++ 46 :: (G ++ sfx)) := by simp
        rw [e2] at e1
        have hNN : N = sg.length + ((byt (be 1 (v / 1000)) ++ byt (be 1 (vb / 1000))).length + (1 + G.length)) := by
          rw [hN, e1, num_part sg _ G sfx hs hDDb hne hG hG0, hds]; omega
        rw [e1, hNN, drop_run, drop_run, show 1 + G.length = G.length + 1 by omega, List.drop_succ_cons, List.drop_left]
    · -- a number with a part ahead
      have hm46 : (46 : UInt8) ∈ byt (prtI n) := by rw [hp, hv0]; simp
      have e0 : ∀ z, byt (prtI n) ++ z = sg ++ (byt (be 1 (v / 1000)) ++ 46 :: (F ++ z)) := fun z => by rw [hp, hv0]; simp
      have elen : (byt (prtI n)).length = sg.length + (byt (be 1 (v / 1000))).length + 1 + F.length := by
        rw [hp, hv0, List.length_append, List.length_append, List.length_cons]; omega
      have eN : ∀ z, num (byt (prtI n) ++ z) = (byt (prtI n)).length + dgs z := fun z => by rw [e0, num_part sg _ F z hs hD hD0 hF hF0, elen]
      have hNN : N = (byt (prtI n)).length + (byt (be 1 (vb / 1000))).length := by
        rw [hN, eN, hbx2, dgs_app _ hDb]
        have : dgs (pp vb ++ sfx) = 0 := by
          rcases pp_is vb with ⟨-, hw0⟩ | ⟨-, G, hw0, -, -⟩
          · rw [hw0, List.nil_append]; exact hds
          · rw [hw0]; rfl
        omega
      have hdr : (byt (prtI n) ++ tx b).drop N = pp vb ++ sfx := by rw [hNN, drop_run, hbx2, List.drop_left]
      rcases pp_is vb with ⟨-, hw0⟩ | ⟨hv1, G, hw0, hG0, hG⟩
      · exfalso
        apply done
        rw [hdr, hw0, List.nil_append]
      · right
        rw [hdr, hw0] at h2
        have hGd : hd isD (G ++ sfx) = true := by rw [hd_app hG0]; exact hd_mem hG hG0
        have hz : vb / 1000 = 0 := by
          have h3 := num_point (G ++ sfx) hGd
          have hgg : dgs (G ++ sfx) = G.length := by rw [dgs_app _ hG, hds, Nat.add_zero]
          have e2 : oneT (46 :: (G ++ sfx)) = _ := one_num (c := 46) (t := G ++ sfx) (fun h => by have := h.1; simp at this) rfl (by decide) (by rw [h3.1]; omega)
          have h4 := cut_two (a := b) (b := b) (l := 46 :: (G ++ sfx)) (t := (measured (46 :: (G ++ sfx)) (num (46 :: (G ++ sfx)))).1)
          have hcs := cut_step (l := 46 :: (G ++ sfx)) (by simp)
          rw [show (46 :: G) ++ sfx = 46 :: (G ++ sfx) from rfl, hcs, e2] at h2
          have h5 := (List.cons.inj (show (measured (46 :: (G ++ sfx)) (num (46 :: (G ++ sfx)))).1 :: cut _ = [b] from h2)).1
          have h6 : b.n = worth ((46 :: (G ++ sfx)).take (num (46 :: (G ++ sfx)))) := by
            rw [← h5]; unfold measured; dsimp only; (repeat' split) <;> rfl
          rw [h3.1, hgg, show 1 + G.length = G.length + 1 by omega, List.take_succ_cons, List.take_left] at h6
          have hGf : G = byt (fr 100 (vb % 1000)) := by
            have : pp vb = 46 :: byt (fr 100 (vb % 1000)) := if_neg hv1
            rw [this] at hw0
            exact (List.cons.inj hw0).2.symm
          rw [hGf, worth_part (vb % 1000) (by omega) (by omega)] at h6
          omega
        refine ⟨rfl, ⟨G ++ sfx, ?_, hGd⟩, fun w => ?_⟩
        · rw [hbx2, hz, be_one (by omega), hw0]; rfl
        · rw [tx7, one_number n hn, eN]
          have e1 : dgs (48 :: 46 :: w) = 1 := rfl
          rw [e1]
          have ed : (byt (prtI n) ++ 48 :: 46 :: w).drop ((byt (prtI n)).length + 1) = 46 :: w := by rw [drop_run]; rfl
          have et : (byt (prtI n) ++ 48 :: 46 :: w).take ((byt (prtI n)).length + 1) = byt (prtI n) ++ [48] := by rw [take_run]; rfl
          rw [measured_num (by rw [ed]; rfl) (by rw [ed]; rfl), et, worth_more _ hm46, (num_text n hn).2.1]

theorem unfit (a b : Tk) (ha : Good a) (hb : Good b) (h : cut (tx a ++ tx b) = [a, b]) : stop a (tx b) ∨ Nought a b := by
  cases ha with
  | name k x hk hst hgg =>
    rcases hk with rfl | rfl | rfl
    · left
      have h : cut (x ++ tx b) = [⟨1, x, 0⟩, b] := h
      have h1 := (cut_two h (by rw [one_named x _ hst])).1
      have h2 : heads 40 ((x ++ tx b).drop (runL isG (x ++ tx b))) = false := by
        cases hx : heads 40 ((x ++ tx b).drop (runL isG (x ++ tx b))) with
        | false => rfl
        | true => rw [named_fun rfl hx] at h1; have := congrArg Tk.k h1; simp at this
      rw [named_name rfl h2] at h1
      have h3 : (x ++ tx b).take (runL isG (x ++ tx b)) = x := congrArg Tk.x h1
      have h4 := run_same hgg h3
      rw [run_name hgg, run_none h4, Nat.add_zero, List.drop_left] at h2
      exact ⟨h4, h2⟩
    · exact .inl trivial
    · left
      have h : cut (64 :: (x ++ tx b)) = [⟨3, x, 0⟩, b] := h
      have h1 := (cut_two h (by rw [one_ated x _ hst])).1
      exact run_same hgg (congrArg Tk.x h1)
  | hash x h0 hgg =>
    left
    have h : cut (35 :: (x ++ tx b)) = [⟨4, x, 0⟩, b] := h
    have h1 := (cut_two h (by rw [one_hashed x _ h0 hgg])).1
    exact run_same hgg (congrArg Tk.x h1)
  | str q x hq h => exact .inl trivial
  | num k n hk hn =>
    rcases hk with rfl | rfl
    · exact unfit_num n hn b hb h
    · exact .inl trivial
  | dim x n hn hst hgg =>
    left
    rw [tx9, List.append_assoc] at h
    have h1 := (cut_two h (by rw [one_dim x _ n hn hst])).1
    exact run_same hgg (congrArg Tk.x h1)
  | sign c hc0 =>
    left
    have hk := (signK_iff _).1 hc0
    rcases hk with e | e | e | e | e | e | e | e | e <;> (rw [e]; trivial)
  | delim c h1 h2 h3 h4 h5 =>
    left
    have h : cut (c :: tx b) = [⟨19, [c], 0⟩, b] := h
    show oneT (c :: tx b) = (some ⟨19, [c], 0⟩, 1)
    cases ho : (oneT (c :: tx b)).1 with
    | some t =>
      have h6 := (cut_two h ho).1
      subst h6
      exact Prod.ext ho (kind19 ho rfl)
    | none =>
      exfalso
      have hcom : c.toNat = 47 ∧ heads 42 (tx b) = true := by
        rw [oneT] at ho
        repeat' (first | assumption | (cases ho; done) | split at ho)
      rw [good_star hb hcom.2, byte_of hcom.1] at h
      have e : cut [UInt8.ofNat 47, 42] = [] := by decide +kernel
      rw [e] at h; cases h
  | space =>
    left
    have h : cut (32 :: tx b) = [⟨20, [], 0⟩, b] := h
    show hd isS (tx b) = false
    cases hx : hd isS (tx b) with
    | false => rfl
    | true =>
      exfalso
      rw [good_blank hb hx] at h
      have e : cut [32, 32] = [⟨20, [], 0⟩] := by decide +kernel
      rw [e] at h
      have := congrArg List.length h
      simp at this

/-- What is printed is cut into just these tokens. -/
theorem cut_prS : ∀ (L : List Tk) (a : Tk), (∀ t ∈ a :: L, Good t) → ∀ r, (r = [] ∨ ∃ r', r = 47 :: 42 :: r') →
    ∃ v, prS none (a :: L) ++ r = tx a ++ v ∧ (a.k = 19 → stop a v) ∧ cut (prS none (a :: L) ++ r) = (a :: L) ++ cut r
  | [], a, hg, r, hr => by
    have ha := hg a (by simp)
    have e : prS none [a] ++ r = tx a ++ r := by simp [prS, sepO]
    have hs := stop_end a ha r hr
    exact ⟨r, e, fun _ => hs, by rw [e, cut_fit ha hs]; rfl⟩
  | b :: t, a, hg, r, hr => by
    have ha := hg a (by simp)
    have hb := hg b (by simp)
    obtain ⟨v, h1, h2, h3⟩ := cut_prS t b (fun x hx => hg x (by simp at hx ⊢; exact .inr hx)) r hr
    have e : prS none (a :: b :: t) ++ r = tx a ++ (sep a b ++ (prS none (b :: t) ++ r)) := by simp [prS, sepO]
    by_cases hc : cut (tx a ++ tx b) = [a, b]
    · have es : sep a b = [] := if_pos hc
      rw [es, List.nil_append, h1] at e
      rcases unfit a b ha hb hc with hs | ⟨hk, ⟨w, hw, hwd⟩, hall⟩
      · have hs2 := stop_more a b ha hb v h2 hs
        refine ⟨tx b ++ v, e, fun _ => hs2, ?_⟩
        rw [e, cut_fit ha hs2, ← h1, h3]; rfl
      · refine ⟨tx b ++ v, e, fun h => by rw [hk] at h; simp at h, ?_⟩
        have hwne : w ≠ [] := by rintro rfl; cases hwd
        have hne : tx a ++ (tx b ++ v) ≠ [] := fun e => good_ne ha (List.append_eq_nil_iff.1 e).1
        have e2 : tx b ++ v = 48 :: 46 :: (w ++ v) := by rw [hw]; rfl
        have hwv : hd isD (w ++ v) = true := by rw [hd_app hwne]; exact hwd
        rw [e, cut_step hne, e2, hall]
        dsimp only
        rw [drop_run, List.drop_succ_cons, List.drop_zero, ← cut_point _ hwv, ← e2, ← h1, h3]
        rfl
    · have es : sep a b = [47, 42, 42, 47] := if_neg hc
      rw [es] at e
      have hs := stop_end a ha ([47, 42, 42, 47] ++ (prS none (b :: t) ++ r)) (.inr ⟨_, rfl⟩)
      refine ⟨_, e, fun _ => hs, ?_⟩
      rw [e, cut_fit ha hs, show [47, 42, 42, 47] ++ (prS none (b :: t) ++ r) = 47 :: 42 :: 42 :: 47 :: (prS none (b :: t) ++ r) from rfl, cut_comment, h3]
      rfl
theorem cut_pr (L : List Tk) (hg : ∀ t ∈ L, Good t) (r : List UInt8) (hr : r = [] ∨ ∃ r', r = 47 :: 42 :: r') : cut (pr L ++ r) = L ++ cut r := by
  cases L with
  | nil => rfl
  | cons a t =>
    obtain ⟨v, -, -, h⟩ := cut_prS t a hg r hr
    exact h
theorem all_good {L : List Tk} (h : L.all rightT = true) : ∀ t ∈ L, Good t := fun t ht => right_good (List.all_eq_true.1 h t ht)
theorem cut_printed {L : List Tk} (h : L.all rightT = true) : cut (pr L) = L := by
  have := cut_pr L (all_good h) [] (.inl rfl)
  rw [List.append_nil, cut_nil, List.append_nil] at this
  exact this
theorem cut_joined {A B : List Tk} (hA : A.all rightT = true) (hB : B.all rightT = true) : cut ((pr A ++ [47, 42, 32, 120, 32, 42, 47]) ++ pr B) = A ++ B := by
  rw [List.append_assoc]
  show cut (pr A ++ 47 :: 42 :: 32 :: 120 :: 32 :: 42 :: 47 :: pr B) = A ++ B
  rw [cut_pr A (all_good hA) _ (.inr ⟨_, rfl⟩), cut_comment_x, cut_printed hB]

end Go.Proofs.Ytmicgfpiknibhaa
