/- What is dealt, plain: sums, bounds, order, turned. -/
import Derived.Test.YtndpblgedpdjdaaShareWalks
namespace Go.Proofs.Ytndpblgedpdjdaa
open Go.Shelf Go.RowKit Go.Lib Go.Sort
set_option linter.unusedVariables false

theorem hold_negh (x : Int) : hold (-hold x) = -hold x := hold_id (by have := hold_bd x; omega) (by have := hold_bd x; omega)

theorem deal_sum (total : Int) (n : Nat) (f : Nat → Int) (hn : n ≤ 1048576) : Sh.sm (deal total n f) n = if Sh.sm (fun i => wt (f i)) n = 0 then 0 else hold total := by
  have hb := hold_bd total
  by_cases hs : Sh.sm (fun i => wt (f i)) n = 0
  · rw [if_pos hs, ← Sh.sm_zero n]
    exact Sh.sm_congr fun i _ => by unfold deal; rw [if_pos hs]
  · rw [if_neg hs]
    by_cases ht : 0 ≤ hold total
    · have e : Sh.sm (deal total n f) n = Sh.sm (Sh.dealt (hold total) (Sh.sm (fun i => wt (f i)) n) n (fun i => wt (f i))) n := Sh.sm_congr fun i _ => by unfold deal; rw [if_neg hs, if_pos ht]
      rw [e]
      have D := deals_of (hold total) n f ht hb.2 hn hs
      exact Sh.dealt_sum D.sum D.S0
    · have e : Sh.sm (deal total n f) n = Sh.sm (fun i => -Sh.dealt (-hold total) (Sh.sm (fun i => wt (f i)) n) n (fun i => wt (f i)) i) n := Sh.sm_congr fun i _ => by unfold deal; rw [if_neg hs, if_neg ht]
      rw [e, Sh.sm_neg]
      have D := deals_of (-hold total) n f (by omega) (by omega) hn hs
      rw [Sh.dealt_sum D.sum D.S0]; omega
theorem deal_bd (total : Int) (n : Nat) (f : Nat → Int) (hn : n ≤ 1048576) {i : Nat} (hi : i < n) : -1073741825 ≤ deal total n f i ∧ deal total n f i ≤ 1073741825 := by
  have hb := hold_bd total
  unfold deal
  split
  · omega
  · rename_i hs
    split
    · have := dealt_bd (deals_of (hold total) n f (by omega) hb.2 hn hs) hi; omega
    · have := dealt_bd (deals_of (-hold total) n f (by omega) (by omega) hn hs) hi; omega
theorem sm_bd (g : Nat → Int) (c : Int) : ∀ (k : Nat), (∀ i, i < k → -c ≤ g i ∧ g i ≤ c) → -c * k ≤ Sh.sm g k ∧ Sh.sm g k ≤ c * k
  | 0, _ => by simp [Sh.sm]
  | k + 1, h => by
    have h1 := sm_bd g c k (fun i hi => h i (by omega))
    have h2 := h k (by omega)
    have e1 : c * ((k + 1 : Nat) : Int) = c * k + c := by rw [Int.natCast_succ, Int.mul_add, Int.mul_one]
    have e2 : -c * ((k + 1 : Nat) : Int) = -c * k - c := by rw [Int.natCast_succ, Int.mul_add, Int.mul_one]; omega
    simp only [Sh.sm]; omega

theorem deal_near {total : Int} {n : Nat} {f : Nat → Int} (ht : 0 ≤ hold total) (hs : ¬ Sh.sm (fun i => wt (f i)) n = 0) (i : Nat) :
    deal total n f i = hold total * wt (f i) / Sh.sm (fun i => wt (f i)) n ∨ deal total n f i = hold total * wt (f i) / Sh.sm (fun i => wt (f i)) n + 1 := by
  unfold deal
  rw [if_neg hs, if_pos ht]
  exact Sh.dealt_near i

theorem deal_order {total : Int} {n : Nat} {f : Nat → Int} (hn : n ≤ 1048576) (ht : 0 ≤ total) {i j : Nat} (hi : i < n) (h : wt (f j) < wt (f i) ∨ (wt (f i) = wt (f j) ∧ i < j)) : deal total n f j ≤ deal total n f i := by
  have hb := hold_bd total
  have h0 : 0 ≤ hold total := by unfold hold; split <;> (try split) <;> omega
  unfold deal
  by_cases hs : Sh.sm (fun i => wt (f i)) n = 0
  · rw [if_pos hs, if_pos hs]; exact Int.le_refl _
  · rw [if_neg hs, if_neg hs, if_pos h0, if_pos h0]
    have D := deals_of (hold total) n f h0 hb.2 hn hs
    exact Sh.dealt_order h0 D.S0 hi h
theorem deal_turn (total : Int) (n : Nat) (f : Nat → Int) (i : Nat) : deal (hold total) n f i = -deal (-hold total) n f i := by
  have hb := hold_bd total
  unfold deal
  by_cases hs : Sh.sm (fun i => wt (f i)) n = 0
  · rw [if_pos hs, if_pos hs]; rfl
  · rw [if_neg hs, if_neg hs, hold_hold, hold_negh]
    by_cases h0 : hold total = 0
    · rw [h0, if_pos (by decide), if_pos (by decide)]
      show Sh.dealt 0 _ n _ i = -Sh.dealt 0 _ n _ i
      rw [Sh.dealt_zero]; rfl
    · by_cases h1 : 0 ≤ hold total
      · rw [if_pos h1, if_neg (c := 0 ≤ -hold total) (by omega), Int.neg_neg, Int.neg_neg]
      · rw [if_neg h1, if_pos (c := 0 ≤ -hold total) (by omega)]

end Go.Proofs.Ytndpblgedpdjdaa
