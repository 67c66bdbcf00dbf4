/- A line of items, plain: what follows for a line's lengths. -/
import Derived.Test.YtndpblgedpdjdaaFlexPlain
namespace Go.Proofs.Ytndpblgedpdjdaa
set_option linter.unusedVariables false
open Sh

theorem deal_nonneg {total : Int} {n : Nat} {f : Nat → Int} (ht : 0 ≤ total) (i : Nat) : 0 ≤ deal total n f i := by
  have hS := smw_bd f n
  have h0 : 0 ≤ hold total := (hold_nonneg total).2 ht
  unfold deal
  split
  · omega
  · rename_i hs
    exact dealt_nonneg (S := sm (fun i => wt (f i)) n) h0 (by omega) (wt_bd (f i)).1
theorem deal_shut {total : Int} {n : Nat} {f : Nat → Int} {i : Nat} (hi : i < n) (h : f i = 0) : deal total n f i = 0 := by
  have hS := smw_bd f n
  have hw : wt (f i) = 0 := by rw [h]; rfl
  unfold deal
  split
  · rfl
  · rename_i hs
    split
    · exact dealt_shut (W := fun i => wt (f i)) rfl (by omega) hi hw
    · rw [dealt_shut (W := fun i => wt (f i)) rfl (by omega) hi hw]; rfl
theorem wt_id {x : Int} (h0 : 0 ≤ x) (h1 : x ≤ 1073741824) : wt x = x := by rw [wt, if_neg (by omega), hold_id (by omega) h1]
theorem hold_below {x : Int} (h : -1073741824 ≤ x) : hold x ≤ x := by unfold hold; split <;> (try split) <;> omega

namespace It
theorem clamp_A {t : It} {a b : Int} (h : b ≤ a) (hb : 0 < t.clamp a - a) : 0 < t.clamp b - b := by
  unfold clamp at *
  by_cases hm : 0 ≤ t.most
  · rw [if_pos hm] at hb ⊢; omega
  · rw [if_neg hm] at hb ⊢; omega
theorem clamp_B {t : It} {a b : Int} (h : b ≤ a) (hb : t.clamp b - b < 0) : t.clamp a - a < 0 := by
  unfold clamp at *
  by_cases hm : 0 ≤ t.most
  · rw [if_pos hm] at hb ⊢; omega
  · rw [if_neg hm] at hb ⊢; omega
theorem clamp_C {t : It} {a : Int} (hb : t.clamp a - a < 0) (m : Int) : t.clamp m ≤ t.clamp a := by
  unfold clamp at *
  by_cases hm : 0 ≤ t.most
  · rw [if_pos hm] at hb ⊢; rw [if_pos hm]; omega
  · rw [if_neg hm] at hb ⊢; rw [if_neg hm]; omega
end It

namespace Fx
variable {L : Nat → It} {g : Bool} {n : Nat} {R first : Int} {S : St}

/-- Without factors each has its wish, and there is no round. -/
theorem wishes_done (h : ∀ i, i < n → (L i).fac g = 0) : Done L g n R first 0 :=
  ⟨lft_zero.2 fun i hi => by show (L i).stiff g = true; unfold It.stiff; rw [if_pos (h i hi)], fun k hk => absurd hk (Nat.not_lt_zero _)⟩
theorem wishes_out (h : ∀ i, i < n → (L i).fac g = 0) {i : Nat} (hi : i < n) : (st L g n R first 0).out i = (L i).wish := by
  show (if (L i).stiff g = true then (L i).wish else 0) = _
  have hz : (L i).stiff g = true := by unfold It.stiff; rw [if_pos (h i hi)]
  rw [if_pos hz]

theorem facs_eq_zero (hL : ∀ i, i < n → (L i).Ok) (h : ∀ i, i < n → S.fz i = true) : facs L g S n = 0 := by
  unfold facs
  rw [sm_congr (g := fun _ => 0) fun i hi => by rw [if_pos (h i hi)]]
  exact sm_zero n

/-- A growing line without ends to its items' lengths fills its room. -/
theorem fills {r : Nat} (hn : n ≤ 1048576) (hL : ∀ i, i < n → (L i).Ok) (hlt : ∀ i, i < n → (L i).least = 0) (hm : ∀ i, i < n → (L i).most = -1) (hb : ∀ i, i < n → 0 ≤ (L i).base)
    (hg : 1000 ≤ sm (fun i => (L i).grow) n) (hgr : grows L n R = true) (hf : R - sm (fun i => (L i).margin) n - sm (fun i => (L i).base) n ≤ 1073741824)
    (hd : Done L true n R (free L (st0 L true) n R) r) (ho : ∀ i, i < n → (st L true n R (free L (st0 L true) n R) r).out i < 1073741824) :
    sm (fun i => (L i).margin) n + sm (st L true n R (free L (st0 L true) n R) r).out n = R := by
  have hw : ∀ i, i < n → (L i).wish = (L i).base := fun i hi => by
    have h1 := hlt i hi; have h2 := hm i hi; have h3 := hb i hi
    unfold It.wish It.clamp; split <;> omega
  have hs : ∀ i, i < n → (L i).stiff true = decide ((L i).grow = 0) := fun i hi => by
    unfold It.stiff It.fac
    rw [if_pos rfl, if_pos rfl, hw i hi]
    by_cases h : (L i).grow = 0 <;> simp [h]
  have hgr := of_decide_eq_true hgr
  have hwm : wishes L n = sm (fun i => (L i).base) n + sm (fun i => (L i).margin) n := by
    unfold wishes; rw [sm_add]; congr 1; exact sm_congr hw
  have hu : used L (st0 L true) n = sm (fun i => (L i).margin) n + sm (fun i => (L i).base) n := by
    unfold used; rw [sm_add]; congr 1
    refine sm_congr fun i hi => ?_
    show (if (L i).stiff true = true then (if (L i).stiff true = true then (L i).wish else 0) else (L i).base) = _
    by_cases h : (L i).stiff true = true
    · rw [if_pos h, if_pos h]; exact hw i hi
    · rw [if_neg h]
  have hF : free L (st0 L true) n R = R - (sm (fun i => (L i).margin) n + sm (fun i => (L i).base) n) := by unfold free; rw [hu]
  have hfac : facs L true (st0 L true) n = sm (fun i => (L i).grow) n := by
    unfold facs
    refine sm_congr fun i hi => ?_
    show (if (L i).stiff true = true then 0 else (L i).fac true) = _
    rw [hs i hi]
    by_cases h : (L i).grow = 0
    · rw [if_pos (decide_eq_true h), h]
    · rw [if_neg (by simp [h])]; rfl
  have hwf : ∀ i, i < n → wF L true (st0 L true) i = (L i).grow := fun i hi => by
    show (if (L i).stiff true = true then 0 else (L i).wei true) = _
    rw [hs i hi]
    by_cases h : (L i).grow = 0
    · rw [if_pos (decide_eq_true h), h]
    · rw [if_neg (by simp [h])]; rfl
  generalize hfirst : free L (st0 L true) n R = F at *
  have hgv : given L true n R F (st0 L true) = F := by unfold given part; rw [if_neg (by rw [hfac]; omega)]; exact hfirst
  have hsh : ∀ i, i < n → 0 ≤ share L true n R F (st0 L true) i := fun i hi => by unfold share; rw [hgv]; exact deal_nonneg (by omega) i
  have hraw : ∀ i, i < n → len L true n R F (st0 L true) i = raw L true n R F (st0 L true) i := fun i hi => by
    have h0 : 0 ≤ raw L true n R F (st0 L true) i := (hold_nonneg _).2 (by have := hsh i hi; have := hb i hi; omega)
    have h1 := hlt i hi; have h2 := hm i hi
    unfold len It.clamp; split <;> omega
  have hbr : ∀ i, i < n → br L true n R F (st0 L true) i = 0 := fun i hi => by
    unfold br
    split
    · rfl
    · rw [hraw i hi]; omega
  have hbrs : brs L true n R F (st0 L true) = 0 := by unfold brs; rw [sm_congr (g := fun _ => 0) hbr]; exact sm_zero n
  have hfz : ∀ i, frz (br L true n R F (st0 L true) i) (brs L true n R F (st0 L true)) = true := fun i => by unfold frz; rw [hbrs, if_neg (by omega), if_neg (by omega)]
  have hne : lft (st0 L true) n ≠ 0 := fun h => by
    have := facs_eq_zero (g := true) hL (lft_zero.1 h)
    omega
  have hd1 : Done L true n R F 1 := by
    refine ⟨lft_zero.2 fun i hi => ?_, fun k hk => ?_⟩
    · show ((st0 L true).fz i || frz (br L true n R F (st0 L true) i) (brs L true n R F (st0 L true))) = true
      rw [hfz i]; simp
    · obtain rfl : k = 0 := by omega
      exact hne
  obtain rfl := done_unique hd hd1
  have hout : ∀ i, i < n → (st L true n R F 1).out i = (L i).base + share L true n R F (st0 L true) i := fun i hi => by
    have ho := ho i hi
    have e : (st L true n R F 1).out i = if (st0 L true).fz i = false ∧ frz (br L true n R F (st0 L true) i) (brs L true n R F (st0 L true)) = true then len L true n R F (st0 L true) i else (st0 L true).out i := rfl
    rw [e] at ho ⊢
    by_cases hz : (st0 L true).fz i = false
    · rw [if_pos ⟨hz, hfz i⟩, hraw i hi] at ho ⊢
      unfold raw at ho ⊢
      have h1 := hsh i hi; have h2 := hb i hi
      unfold hold at ho ⊢
      split at ho <;> (try split at ho) <;> split <;> (try split) <;> omega
    · have hz1 : (L i).stiff true = true := by
        cases h : (L i).stiff true with
        | true => rfl
        | false => exact absurd h hz
      rw [if_neg fun h => hz h.1]
      show (if (L i).stiff true = true then (L i).wish else 0) = _
      rw [if_pos hz1, hw i hi]
      unfold share
      rw [deal_shut hi (by unfold wF; exact if_pos hz1)]
      omega
  rw [sm_congr hout, sm_add]
  have hsum : sm (share L true n R F (st0 L true)) n = F := by
    have h := deal_sum (given L true n R F (st0 L true)) n (wF L true (st0 L true)) hn
    have hs2 : sm (fun i => wt (wF L true (st0 L true) i)) n = sm (fun i => (L i).grow) n := sm_congr fun i hi => by
      rw [hwf i hi]; exact wt_id (hL i hi).grow.1 (hL i hi).grow.2
    rw [hs2, if_neg (by omega), hgv, hold_id (by omega) (by omega)] at h
    have e : sm (share L true n R F (st0 L true)) n = sm (deal (given L true n R F (st0 L true)) n (wF L true (st0 L true))) n := rfl
    rw [e, hgv]; exact h
  rw [hsum]
  omega

/-- How long a growing line is at least. -/
def tot (L : Nat → It) (S : St) (n : Nat) : Int := sm (fun i => (L i).margin + if S.fz i = true then S.out i else (L i).wish) n
structure Grown (L : Nat → It) (n : Nat) (R : Int) (S : St) : Prop where
  tot : tot L S n ≤ R
  open_ : ∀ i, i < n → S.fz i = false → (L i).base ≤ (L i).wish
  shut : ∀ i, i < n → S.fz i = true → (L i).wish ≤ S.out i
theorem used_tot (h : ∀ i, i < n → S.fz i = false → (L i).base ≤ (L i).wish) : used L S n ≤ tot L S n := by
  unfold used tot
  have key : ∀ m, m ≤ n → sm (fun i => (L i).margin + if S.fz i = true then S.out i else (L i).base) m ≤ sm (fun i => (L i).margin + if S.fz i = true then S.out i else (L i).wish) m := fun m => by
    induction m with
    | zero => intro _; exact Int.le_refl _
    | succ m ih =>
      intro hm
      have := ih (by omega)
      show sm _ m + ((L m).margin + if S.fz m = true then S.out m else (L m).base) ≤ sm _ m + ((L m).margin + if S.fz m = true then S.out m else (L m).wish)
      cases hz : S.fz m with
      | true => simp only [if_true]; omega
      | false =>
        have := h m (by omega) hz
        simp only [Bool.false_eq_true, if_false]; omega
  exact key n (Nat.le_refl n)
theorem Grown.free (h : Grown L n R S) : 0 ≤ Fx.free L S n R := by
  have h1 := used_tot h.open_
  have h2 := h.tot
  unfold Fx.free; omega
theorem sm_le_sm {f h : Nat → Int} : ∀ {n}, (∀ i, i < n → f i ≤ h i) → sm f n ≤ sm h n
  | 0, _ => Int.le_refl _
  | n + 1, hh => by
    have h1 := sm_le_sm (f := f) (h := h) (n := n) fun i hi => hh i (by omega)
    have h2 := hh n (by omega)
    show sm f n + f n ≤ sm h n + h n
    omega
theorem st0_grown (hgr : grows L n R = true) : Grown L n R (st0 L true) := by
  have hgr := of_decide_eq_true hgr
  refine ⟨?_, fun i hi hz => ?_, fun i hi hz => ?_⟩
  · have e : tot L (st0 L true) n = wishes L n := by
      unfold tot wishes
      refine sm_congr fun i hi => ?_
      show (L i).margin + (if (L i).stiff true = true then (if (L i).stiff true = true then (L i).wish else 0) else (L i).wish) = _
      split <;> omega
    omega
  · have hz : (L i).stiff true = false := hz
    unfold It.stiff at hz
    split at hz
    · cases hz
    · rw [if_pos rfl] at hz; have := of_decide_eq_false hz; omega
  · have hz : (L i).stiff true = true := hz
    show _ ≤ (if (L i).stiff true = true then (L i).wish else 0)
    rw [if_pos hz]; exact Int.le_refl _
/-- What is given in a growing line. -/
theorem given_bd (hL : ∀ i, i < n → (L i).Ok) (hf : 0 ≤ first) (h : Grown L n R S) : 0 ≤ given L true n R first S ∧ given L true n R first S ≤ Fx.free L S n R := by
  have h0 := h.free
  have hfc := (facs_bd (g := true) (S := S) hL (Nat.le_refl n)).1
  have hp : 0 ≤ partH first (facs L true S n) 1000 := It.part_nonneg hf hfc (by decide)
  unfold given part ab
  split
  · split <;> omega
  · omega
theorem share_sum (hn : n ≤ 1048576) (hG : 0 ≤ given L true n R first S) : sm (share L true n R first S) n ≤ given L true n R first S := by
  have h := deal_sum (given L true n R first S) n (wF L true S) hn
  have e : sm (share L true n R first S) n = sm (deal (given L true n R first S) n (wF L true S)) n := rfl
  rw [e, h]
  have := hold_below (x := given L true n R first S) (by omega)
  split <;> omega
theorem raw_up (hL : ∀ i, i < n → (L i).Ok) (hG : 0 ≤ given L true n R first S) {i : Nat} (hi : i < n) : (L i).base ≤ raw L true n R first S i ∧ raw L true n R first S i ≤ (L i).base + share L true n R first S i := by
  have h1 := (hL i hi).base
  have h2 : 0 ≤ share L true n R first S i := deal_nonneg hG i
  refine ⟨?_, hold_below (by omega)⟩
  have := hold_mono (a := (L i).base) (b := (L i).base + share L true n R first S i) (by omega)
  rw [hold_id h1.1 h1.2] at this
  exact this
theorem len_wish (hL : ∀ i, i < n → (L i).Ok) (hG : 0 ≤ given L true n R first S) {i : Nat} (hi : i < n) : (L i).wish ≤ len L true n R first S i := It.clamp_mono _ (raw_up hL hG hi).1
/-- Who breaches its least length has its wish. -/
theorem least_wish (hL : ∀ i, i < n → (L i).Ok) (hG : 0 ≤ given L true n R first S) {i : Nat} (hi : i < n) (hb : raw L true n R first S i < len L true n R first S i) : len L true n R first S i = (L i).wish := by
  have h1 := (raw_up hL hG hi).1
  unfold len It.wish It.clamp at *
  split at hb <;> omega
theorem step_grown (hn : n ≤ 1048576) (hL : ∀ i, i < n → (L i).Ok) (hf : 0 ≤ first) (h : Grown L n R S) : Grown L n R (step L true n R first S) := by
  have hG := given_bd (R := R) hL hf h
  refine ⟨?_, fun i hi hz => ?_, fun i hi hz => ?_⟩
  · by_cases hp : 0 < brs L true n R first S
    · have e : tot L (step L true n R first S) n = tot L S n := by
        unfold tot step
        dsimp only
        refine sm_congr fun i hi => ?_
        have hfr : frz (br L true n R first S i) (brs L true n R first S) = decide (0 < br L true n R first S i) := by unfold frz; rw [if_pos hp]
        simp only [hfr]
        congr 1
        cases hz : S.fz i with
        | true => simp
        | false =>
          by_cases hb : 0 < br L true n R first S i
          · have hb2 : raw L true n R first S i < len L true n R first S i := by unfold br at hb; rw [hz] at hb; simp at hb; omega
            simp [hb, least_wish hL hG.1 hi hb2]
          · simp [hb]
      rw [e]; exact h.tot
    · have e1 : tot L (step L true n R first S) n ≤ sm (fun i => ((L i).margin + if S.fz i = true then S.out i else raw L true n R first S i) + br L true n R first S i) n := by
        unfold tot step
        dsimp only
        refine sm_le_sm fun i hi => ?_
        have hl := len_wish (first := first) (R := R) (S := S) hL hG.1 hi
        by_cases hcq : frz (br L true n R first S i) (brs L true n R first S) = true
        · simp only [hcq]
          unfold br
          cases hz : S.fz i with
          | true => simp
          | false => simp; omega
        · have hcq := (Bool.not_eq_true _).mp hcq
          simp only [hcq]
          unfold br
          cases hz : S.fz i with
          | true => simp
          | false => simp; omega
      rw [sm_add (fun i => (L i).margin + if S.fz i = true then S.out i else raw L true n R first S i) (br L true n R first S)] at e1
      have e2 : sm (fun i => (L i).margin + if S.fz i = true then S.out i else raw L true n R first S i) n ≤ sm (fun i => ((L i).margin + if S.fz i = true then S.out i else (L i).base) + share L true n R first S i) n := by
        refine sm_le_sm fun i hi => ?_
        have h1 := (raw_up (first := first) (R := R) (S := S) hL hG.1 hi).2
        have h2 : 0 ≤ share L true n R first S i := deal_nonneg hG.1 i
        split <;> omega
      rw [sm_add (fun i => (L i).margin + if S.fz i = true then S.out i else (L i).base) (share L true n R first S)] at e2
      have e3 := share_sum (L := L) (first := first) hn hG.1
      have e4 : Fx.free L S n R = R - sm (fun i => (L i).margin + if S.fz i = true then S.out i else (L i).base) n := rfl
      have e5 : sm (br L true n R first S) n = brs L true n R first S := rfl
      have e6 : sm (fun i => br L true n R first S i) n = brs L true n R first S := rfl
      have e7 : sm (fun i => share L true n R first S i) n = sm (share L true n R first S) n := rfl
      omega
  · refine h.open_ i hi ?_
    have hz : (S.fz i || _) = false := hz
    cases hzi : S.fz i with
    | true => rw [hzi] at hz; simp at hz
    | false => rfl
  · unfold step at hz ⊢
    dsimp only at hz ⊢
    by_cases hc : S.fz i = false ∧ frz (br L true n R first S i) (brs L true n R first S) = true
    · rw [if_pos hc]; exact len_wish hL hG.1 hi
    · rw [if_neg hc]
      refine h.shut i hi ?_
      cases hzi : S.fz i with
      | true => rfl
      | false => rw [hzi] at hz; exact absurd ⟨hzi, by simpa using hz⟩ hc

/-- Of the first two, that are alike. -/
inductive Two (L : Nat → It) (S : St) : Prop
  | both (h0 : S.fz 0 = false) (h1 : S.fz 1 = false)
  | one (h0 : S.fz 0 = false) (h1 : S.fz 1 = true) (h : S.out 1 = (L 0).wish)
  | other (h0 : S.fz 0 = true) (h1 : S.fz 1 = false) (h : ∀ m, (L 0).clamp m ≤ S.out 0)
  | none (h0 : S.fz 0 = true) (h1 : S.fz 1 = true) (h : S.out 1 ≤ S.out 0)
theorem step_two (hn2 : 2 ≤ n) (hn : n ≤ 1048576) (hL : ∀ i, i < n → (L i).Ok) (hf : 0 ≤ first) (h : Grown L n R S)
    (hc : ∀ m, (L 1).clamp m = (L 0).clamp m) (hbase : (L 1).base = (L 0).base) (hgrow : (L 1).grow ≤ (L 0).grow) (ht : Two L S) : Two L (step L true n R first S) := by
  have hG := given_bd (R := R) hL hf h
  have w0 := len_wish (first := first) (R := R) (S := S) hL hG.1 (i := 0) (by omega)
  have d0 := least_wish (first := first) (R := R) (S := S) hL hG.1 (i := 0) (by omega)
  have d1 := least_wish (first := first) (R := R) (S := S) hL hG.1 (i := 1) (by omega)
  have hwish : (L 1).wish = (L 0).wish := by unfold It.wish; rw [hc, hbase]
  have l0 : len L true n R first S 0 = (L 0).clamp (raw L true n R first S 0) := rfl
  have l1 : len L true n R first S 1 = (L 0).clamp (raw L true n R first S 1) := hc _
  have f0 : ∀ i, (step L true n R first S).fz i = (S.fz i || frz (br L true n R first S i) (brs L true n R first S)) := fun _ => rfl
  have o0 : ∀ i, (step L true n R first S).out i = if S.fz i = false ∧ frz (br L true n R first S i) (brs L true n R first S) = true then len L true n R first S i else S.out i := fun _ => rfl
  have b0 : ∀ i, br L true n R first S i = if S.fz i = true then 0 else len L true n R first S i - raw L true n R first S i := fun _ => rfl
  cases ht with
  | both h0 h1 =>
    have hr : raw L true n R first S 1 ≤ raw L true n R first S 0 := by
      refine hold_mono ?_
      have : share L true n R first S 1 ≤ share L true n R first S 0 := by
        refine deal_order hn hG.1 (by omega) ?_
        have e0 : wF L true S 0 = (L 0).grow := by unfold wF; rw [h0]; rfl
        have e1 : wF L true S 1 = (L 1).grow := by unfold wF; rw [h1]; rfl
        rw [e0, e1, wt_id (hL 0 (by omega)).grow.1 (hL 0 (by omega)).grow.2, wt_id (hL 1 (by omega)).grow.1 (hL 1 (by omega)).grow.2]
        omega
      omega
    have e0 := b0 0
    have e1 := b0 1
    rw [if_neg (by rw [h0]; simp)] at e0
    rw [if_neg (by rw [h1]; simp)] at e1
    have hm := It.clamp_mono (L 0) hr
    rw [← l0, ← l1] at hm
    have g0 := f0 0
    have g1 := f0 1
    have p0 := o0 0
    have p1 := o0 1
    rw [h0, Bool.false_or] at g0
    rw [h1, Bool.false_or] at g1
    rw [h0] at p0
    rw [h1] at p1
    have hA : 0 < br L true n R first S 0 → 0 < br L true n R first S 1 := by
      intro hb
      rw [e0, l0] at hb; rw [e1, l1]
      exact It.clamp_A hr hb
    have hB : br L true n R first S 1 < 0 → br L true n R first S 0 < 0 := by
      intro hb
      rw [e1, l1] at hb; rw [e0, l0]
      exact It.clamp_B hr hb
    have hC : br L true n R first S 0 < 0 → ∀ m, (L 0).clamp m ≤ len L true n R first S 0 := by
      intro hb m
      rw [e0, l0] at hb; rw [l0]
      exact It.clamp_C hb m
    have hD : 0 < br L true n R first S 1 → len L true n R first S 1 = (L 0).wish := fun hb => by rw [d1 (by omega), hwish]
    by_cases z0 : frz (br L true n R first S 0) (brs L true n R first S) = true
    · by_cases z1 : frz (br L true n R first S 1) (brs L true n R first S) = true
      · rw [z0] at g0; rw [z1] at g1
        rw [if_pos ⟨rfl, z0⟩] at p0
        rw [if_pos ⟨rfl, z1⟩] at p1
        exact .none g0 g1 (by rw [p0, p1]; exact hm)
      · rw [z0] at g0; rw [Bool.not_eq_true _ |>.mp z1] at g1
        rw [if_pos ⟨rfl, z0⟩] at p0
        refine .other g0 g1 ?_
        rw [p0]
        refine hC ?_
        unfold frz at z0 z1
        split at z0
        · rename_i hp; rw [if_pos hp] at z1; have := hA (of_decide_eq_true z0); exact absurd (decide_eq_true this) z1
        · rename_i hp
          rw [if_neg hp] at z1
          split at z0
          · exact of_decide_eq_true z0
          · rename_i hq; rw [if_neg hq] at z1; exact absurd rfl z1
    · by_cases z1 : frz (br L true n R first S 1) (brs L true n R first S) = true
      · rw [Bool.not_eq_true _ |>.mp z0] at g0; rw [z1] at g1
        rw [if_pos ⟨rfl, z1⟩] at p1
        refine .one g0 g1 ?_
        rw [p1]
        refine hD ?_
        unfold frz at z0 z1
        split at z1
        · exact of_decide_eq_true z1
        · rename_i hp
          rw [if_neg hp] at z0
          split at z1
          · rename_i hq; rw [if_pos hq] at z0; have := hB (of_decide_eq_true z1); exact absurd (decide_eq_true this) z0
          · rename_i hq; rw [if_neg hq] at z0; exact absurd rfl z0
      · rw [Bool.not_eq_true _ |>.mp z0] at g0; rw [Bool.not_eq_true _ |>.mp z1] at g1
        exact .both g0 g1
  | one h0 h1 ho =>
    have g0 := f0 0
    have g1 := f0 1
    have p0 := o0 0
    have p1 := o0 1
    rw [h0, Bool.false_or] at g0
    rw [h1, Bool.true_or] at g1
    rw [if_neg (by rw [h1]; simp)] at p1
    rw [h0] at p0
    by_cases z0 : frz (br L true n R first S 0) (brs L true n R first S) = true
    · rw [z0] at g0
      rw [if_pos ⟨rfl, z0⟩] at p0
      exact .none g0 g1 (by rw [p0, p1, ho]; exact w0)
    · rw [Bool.not_eq_true _ |>.mp z0] at g0
      exact .one g0 g1 (by rw [p1]; exact ho)
  | other h0 h1 ho =>
    have g0 := f0 0
    have g1 := f0 1
    have p0 := o0 0
    have p1 := o0 1
    rw [h0, Bool.true_or] at g0
    rw [h1, Bool.false_or] at g1
    rw [if_neg (by rw [h0]; simp)] at p0
    rw [h1] at p1
    by_cases z1 : frz (br L true n R first S 1) (brs L true n R first S) = true
    · rw [z1] at g1
      rw [if_pos ⟨rfl, z1⟩, l1] at p1
      exact .none g0 g1 (by rw [p0, p1]; exact ho _)
    · rw [Bool.not_eq_true _ |>.mp z1] at g1
      exact .other g0 g1 (by rw [p0]; exact ho)
  | none h0 h1 ho =>
    have g0 := f0 0
    have g1 := f0 1
    have p0 := o0 0
    have p1 := o0 1
    rw [h0, Bool.true_or] at g0
    rw [h1, Bool.true_or] at g1
    rw [if_neg (by rw [h0]; simp)] at p0
    rw [if_neg (by rw [h1]; simp)] at p1
    exact .none g0 g1 (by rw [p0, p1]; exact ho)

/-- Of two alike, in a line that grows, the one that grows more is not shorter. -/
theorem more {r : Nat} (hn2 : 2 ≤ n) (hn : n ≤ 1048576) (hL : ∀ i, i < n → (L i).Ok) (hgr : grows L n R = true)
    (hc : ∀ m, (L 1).clamp m = (L 0).clamp m) (hbase : (L 1).base = (L 0).base) (hgrow : (L 1).grow ≤ (L 0).grow) (hpos : 0 < (L 0).grow) (hw : (L 0).base ≤ (L 0).wish)
    (hd : Done L true n R (free L (st0 L true) n R) r) :
    (st L true n R (free L (st0 L true) n R) r).out 1 ≤ (st L true n R (free L (st0 L true) n R) r).out 0 := by
  have g0 := st0_grown (L := L) (n := n) (R := R) hgr
  have hf : 0 ≤ free L (st0 L true) n R := g0.free
  generalize free L (st0 L true) n R = F at *
  have hwish : (L 1).wish = (L 0).wish := by unfold It.wish; rw [hc, hbase]
  have key : ∀ k, Grown L n R (st L true n R F k) ∧ Two L (st L true n R F k) := fun k => by
    induction k with
    | zero =>
      refine ⟨g0, ?_⟩
      have z0 : (L 0).stiff true = false := by
        unfold It.stiff It.fac
        rw [if_pos rfl, if_pos rfl, if_neg (by omega)]
        exact decide_eq_false (by omega)
      by_cases z1 : (L 1).grow = 0
      · have z1' : (L 1).stiff true = true := by unfold It.stiff It.fac; rw [if_pos rfl, if_pos z1]
        refine .one z0 z1' ?_
        show (if (L 1).stiff true = true then (L 1).wish else 0) = _
        rw [if_pos z1', hwish]
      · have z1' : (L 1).stiff true = false := by
          unfold It.stiff It.fac
          rw [if_pos rfl, if_pos rfl, if_neg z1]
          exact decide_eq_false (by omega)
        exact .both z0 z1'
    | succ k ih => exact ⟨step_grown hn hL hf ih.1, step_two hn2 hn hL hf ih.1 hc hbase hgrow ih.2⟩
  have h := (key r).2
  have hz := lft_zero.1 hd.last
  have z0 := hz 0 (by omega)
  have z1 := hz 1 (by omega)
  cases h with
  | both a b => rw [a] at z0; cases z0
  | one a b c => rw [a] at z0; cases z0
  | other a b c => rw [b] at z1; cases z1
  | none a b c => exact c
end Fx

end Go.Proofs.Ytndpblgedpdjdaa
