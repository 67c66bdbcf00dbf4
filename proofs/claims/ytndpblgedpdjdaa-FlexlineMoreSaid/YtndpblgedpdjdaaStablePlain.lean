/- The stable sort, plain: insertion where two orders agree, exchanges of ranges, turned ranges, the symmetric merge, the doubling of blocks. -/
import Derived.Sort.LotA
namespace Go.Proofs.Ytndpblgedpdjdaa
open Go.Sort
namespace St
set_option linter.unusedVariables false
set_option linter.unusedSectionVars false
section
variable {α : Type} [Inhabited α]

theorem at_eq (d : Array α) {x y : Nat} (h : x = y) : d[x]! = d[y]! := by rw [h]
theorem swp_at (d : Array α) {i j : Nat} (hi : i < d.size) (hj : j < d.size) (x : Nat) : (swp d i j)[x]! = if x = j then d[i]! else if x = i then d[j]! else d[x]! := by
  by_cases h1 : x = j
  · subst h1; rw [if_pos rfl, swp_right _ _ _ hj]
  · rw [if_neg h1]
    by_cases h2 : x = i
    · subst h2; rw [if_pos rfl, swp_left _ _ _ hi h1]
    · rw [if_neg h2, swp_other _ _ _ _ h2 h1]

/-! ### Ranges exchanged -/
def swR (d : Array α) (a b : Nat) : Nat → Array α
  | 0 => d
  | n + 1 => swp (swR d a b n) (a + n) (b + n)
theorem swR_size (d : Array α) (a b n : Nat) : (swR d a b n).size = d.size := by
  induction n with
  | zero => rfl
  | succ n ih => rw [swR, size_swp, ih]
theorem swR_at (d : Array α) (a b : Nat) : ∀ (n : Nat), a + n ≤ b → b + n ≤ d.size → ∀ x, (swR d a b n)[x]! = if a ≤ x ∧ x < a + n then d[x - a + b]! else if b ≤ x ∧ x < b + n then d[x - b + a]! else d[x]!
  | 0, _, _, x => by rw [if_neg (by omega), if_neg (by omega)]; rfl
  | n + 1, h1, h2, x => by
    have ih := swR_at d a b n (by omega) (by omega)
    rw [swR, swp_at _ (by rw [swR_size]; omega) (by rw [swR_size]; omega), ih (a + n), ih (b + n), ih x]
    rw [if_neg (c := a ≤ a + n ∧ a + n < a + n) (by omega), if_neg (c := b ≤ a + n ∧ a + n < b + n) (by omega), if_neg (c := a ≤ b + n ∧ b + n < a + n) (by omega), if_neg (c := b ≤ b + n ∧ b + n < b + n) (by omega)]
    by_cases e1 : x = b + n
    · rw [if_pos e1, if_neg (by omega), if_pos (by omega)]; exact at_eq _ (by omega)
    · rw [if_neg e1]
      by_cases e2 : x = a + n
      · rw [if_pos e2, if_pos (by omega)]; exact at_eq _ (by omega)
      · rw [if_neg e2]
        by_cases e3 : a ≤ x ∧ x < a + n
        · rw [if_pos e3, if_pos (by omega)]
        · rw [if_neg e3, if_neg (c := a ≤ x ∧ x < a + (n + 1)) (by omega)]
          by_cases e4 : b ≤ x ∧ x < b + n
          · rw [if_pos e4, if_pos (by omega)]
          · rw [if_neg e4, if_neg (by omega)]
theorem swR_perm (d : Array α) (a b lo hi : Nat) (h0 : lo ≤ a) (h3 : hi ≤ d.size) : ∀ n, a + n ≤ b → b + n ≤ hi → PermIn lo hi d (swR d a b n)
  | 0, _, _ => permIn_refl _ _ _
  | n + 1, h1, h2 => permIn_trans _ _ _ _ _ (swR_perm d a b lo hi h0 h3 n (by omega) (by omega)) (swp_permIn _ _ _ _ _ (by omega) (by omega) (by omega) (by omega) (by rw [swR_size]; exact h3))

/-! ### A range turned at m -/
def Turned (d d' : Array α) (l m r : Nat) : Prop :=
  ∀ x, d'[x]! = if l ≤ x ∧ x < l + (r - m) then d[x + (m - l)]! else if l + (r - m) ≤ x ∧ x < r then d[x - (r - m)]! else d[x]!

theorem turn_more {d d' : Array α} {m i j : Nat} (hij : j < i) (him : i ≤ m) (hs : m + j ≤ d.size) (h : Turned (swR d (m - i) m j) d' (m - (i - j)) m (m + j)) : Turned d d' (m - i) m (m + j) := by
  intro x
  have ha := swR_at d (m - i) m j (by omega) hs
  rw [h x, ha, ha, ha]
  by_cases c1 : m - i ≤ x ∧ x < m - i + j
  · rw [if_neg (by omega), if_neg (by omega), if_pos c1, if_pos (by omega)]; exact at_eq _ (by omega)
  · by_cases c2 : m - (i - j) ≤ x ∧ x < m - (i - j) + (m + j - m)
    · rw [if_pos c2]
      by_cases c3 : x + (m - (m - (i - j))) < m
      · rw [if_neg (by omega), if_neg (by omega), if_neg (by omega), if_pos (by omega)]; exact at_eq _ (by omega)
      · rw [if_neg (by omega), if_pos (by omega), if_neg (by omega), if_pos (by omega)]; exact at_eq _ (by omega)
    · rw [if_neg c2]
      by_cases c4 : m - (i - j) + (m + j - m) ≤ x ∧ x < m + j
      · rw [if_pos c4, if_neg (by omega), if_neg (by omega), if_neg (by omega), if_pos (by omega)]
      · rw [if_neg c4, if_neg (by omega), if_neg (by omega), if_neg (by omega), if_neg (by omega)]

theorem turn_less {d d' : Array α} {m i j : Nat} (hij : i < j) (him : i ≤ m) (hs : m + j ≤ d.size) (h : Turned (swR d (m - i) (m + j - i) i) d' (m - i) m (m + (j - i))) : Turned d d' (m - i) m (m + j) := by
  intro x
  have ha := swR_at d (m - i) (m + j - i) i (by omega) (by omega)
  rw [h x, ha, ha, ha]
  by_cases c1 : m - i ≤ x ∧ x < m - i + (m + (j - i) - m)
  · rw [if_pos c1]
    by_cases c2 : x + (m - (m - i)) < m + j - i
    · rw [if_neg (by omega), if_neg (by omega), if_pos (by omega)]
    · rw [if_neg (by omega), if_pos (by omega), if_pos (by omega)]; exact absurd c1 (by omega)
  · rw [if_neg c1]
    by_cases c3 : m - i + (m + (j - i) - m) ≤ x ∧ x < m + (j - i)
    · rw [if_pos c3, if_pos (by omega), if_pos (by omega)]; exact at_eq _ (by omega)
    · rw [if_neg c3]
      by_cases c4 : m + j - i ≤ x ∧ x < m + j - i + i
      · rw [if_neg (by omega), if_pos c4, if_neg (by omega), if_pos (by omega)]; exact at_eq _ (by omega)
      · rw [if_neg (by omega), if_neg c4, if_neg (by omega), if_neg (by omega)]

theorem turn_even {d : Array α} {m i : Nat} (him : i ≤ m) (hs : m + i ≤ d.size) : Turned d (swR d (m - i) m i) (m - i) m (m + i) := by
  intro x
  rw [swR_at d (m - i) m i (by omega) hs]
  by_cases c1 : m - i ≤ x ∧ x < m - i + i
  · rw [if_pos c1, if_pos (by omega)]; exact at_eq _ (by omega)
  · rw [if_neg c1]
    by_cases c2 : m ≤ x ∧ x < m + i
    · rw [if_pos c2, if_neg (by omega), if_pos (by omega)]; exact at_eq _ (by omega)
    · rw [if_neg c2, if_neg (by omega), if_neg (by omega)]

theorem turned_none {d : Array α} {l m r : Nat} (hl : l ≤ m) (hr : m ≤ r) (h : l = m ∨ m = r) : Turned d d l m r := by
  intro x
  by_cases c1 : l ≤ x ∧ x < l + (r - m)
  · rw [if_pos c1]; exact at_eq _ (by omega)
  · rw [if_neg c1]
    by_cases c2 : l + (r - m) ≤ x ∧ x < r
    · rw [if_pos c2]; exact at_eq _ (by omega)
    · rw [if_neg c2]

/-! ### One element moved on, or back -/
def mvR (d : Array α) (a : Nat) : Nat → Array α
  | 0 => d
  | n + 1 => swp (mvR d a n) (a + n) (a + n + 1)
theorem mvR_size (d : Array α) (a n : Nat) : (mvR d a n).size = d.size := by
  induction n with
  | zero => rfl
  | succ n ih => rw [mvR, size_swp, ih]
theorem mvR_at (d : Array α) (a : Nat) : ∀ n, a + n < d.size → ∀ x, (mvR d a n)[x]! = if a ≤ x ∧ x < a + n then d[x + 1]! else if x = a + n then d[a]! else d[x]!
  | 0, _, x => by
    rw [if_neg (by omega)]
    by_cases e : x = a + 0
    · rw [if_pos e]; exact at_eq _ e
    · rw [if_neg e]; rfl
  | n + 1, h, x => by
    have ih := mvR_at d a n (by omega)
    rw [mvR, swp_at _ (by rw [mvR_size]; omega) (by rw [mvR_size]; omega), ih (a + n), ih (a + n + 1), ih x]
    rw [if_neg (c := a ≤ a + n ∧ a + n < a + n) (by omega), if_pos (c := a + n = a + n) rfl, if_neg (c := a ≤ a + n + 1 ∧ a + n + 1 < a + n) (by omega), if_neg (c := a + n + 1 = a + n) (by omega)]
    by_cases e1 : x = a + n + 1
    · rw [if_pos e1, if_neg (by omega), if_pos (by omega)]
    · rw [if_neg e1]
      by_cases e2 : x = a + n
      · rw [if_pos e2, if_pos (by omega)]; exact at_eq _ (by omega)
      · rw [if_neg e2, if_neg (c := x = a + n) e2, if_neg (c := x = a + (n + 1)) (by omega)]
        by_cases e3 : a ≤ x ∧ x < a + n
        · rw [if_pos e3, if_pos (by omega)]
        · rw [if_neg e3, if_neg (by omega)]
theorem mvR_perm (d : Array α) (a lo hi : Nat) (h0 : lo ≤ a) (h3 : hi ≤ d.size) : ∀ n, a + n < hi → PermIn lo hi d (mvR d a n)
  | 0, _ => permIn_refl _ _ _
  | n + 1, h => permIn_trans _ _ _ _ _ (mvR_perm d a lo hi h0 h3 n (by omega)) (swp_permIn _ _ _ _ _ (by omega) (by omega) (by omega) (by omega) (by rw [mvR_size]; exact h3))

def mvL (d : Array α) (m : Nat) : Nat → Array α
  | 0 => d
  | n + 1 => swp (mvL d m n) (m - n) (m - n - 1)
theorem mvL_size (d : Array α) (m n : Nat) : (mvL d m n).size = d.size := by
  induction n with
  | zero => rfl
  | succ n ih => rw [mvL, size_swp, ih]
theorem mvL_at (d : Array α) (m : Nat) (hm : m < d.size) : ∀ n, n ≤ m → ∀ x, (mvL d m n)[x]! = if x = m - n then d[m]! else if m - n < x ∧ x ≤ m then d[x - 1]! else d[x]!
  | 0, _, x => by
    by_cases e : x = m - 0
    · rw [if_pos e]; exact at_eq _ e
    · rw [if_neg e, if_neg (by omega)]; rfl
  | n + 1, h, x => by
    have ih := mvL_at d m hm n (by omega)
    rw [mvL, swp_at _ (by rw [mvL_size]; omega) (by rw [mvL_size]; omega), ih (m - n), ih (m - n - 1), ih x]
    rw [if_pos (c := m - n = m - n) rfl, if_neg (c := m - n - 1 = m - n) (by omega), if_neg (c := m - n < m - n - 1 ∧ m - n - 1 ≤ m) (by omega)]
    by_cases e1 : x = m - n - 1
    · rw [if_pos e1, if_pos (by omega)]
    · rw [if_neg e1, if_neg (c := x = m - (n + 1)) (by omega)]
      by_cases e2 : x = m - n
      · rw [if_pos e2, if_pos (by omega)]; exact at_eq _ (by omega)
      · rw [if_neg e2, if_neg (c := x = m - n) e2]
        by_cases e3 : m - n < x ∧ x ≤ m
        · rw [if_pos e3, if_pos (by omega)]
        · rw [if_neg e3, if_neg (by omega)]
theorem mvL_perm (d : Array α) (m lo hi : Nat) (h1 : m < hi) (h3 : hi ≤ d.size) : ∀ n, lo + n ≤ m → PermIn lo hi d (mvL d m n)
  | 0, _ => permIn_refl _ _ _
  | n + 1, h => permIn_trans _ _ _ _ _ (mvL_perm d m lo hi h1 h3 n (by omega)) (swp_permIn _ _ _ _ _ (by omega) (by omega) (by omega) (by omega) (by rw [mvL_size]; exact h3))

/-! ### Two orders that agree wherever a later element is held against an earlier one -/
variable {lt L : α → α → Bool}

theorem insInner_agree (a : Nat) : ∀ (j : Nat) (d : Array α), j < d.size → (∀ x, a ≤ x → x < j → lt d[j]! d[x]! = L d[j]! d[x]!) → insInner lt a j d = insInner L a j d
  | 0, _, _, _ => rfl
  | j + 1, d, hj, h => by
    unfold insInner
    by_cases ha : j + 1 > a
    · have e := h j (by omega) (by omega)
      rw [e]
      split
      · refine insInner_agree a j (swp d (j + 1) j) (by rw [size_swp]; omega) fun x h1 h2 => ?_
        rw [swp_at _ hj (by omega), swp_at _ hj (by omega), if_pos rfl, if_neg (by omega), if_neg (by omega)]
        exact h x h1 (by omega)
      · rfl
    · have e1 : (decide (j + 1 > a) && lt d[j + 1]! d[j]!) = false := by simp [ha]
      have e2 : (decide (j + 1 > a) && L d[j + 1]! d[j]!) = false := by simp [ha]
      rw [e1, e2]; rfl

theorem insInner_perm (a : Nat) (R : α → α → Bool) (lo hi : Nat) (h0 : lo ≤ a) : ∀ (j : Nat) (d : Array α), j < hi → hi ≤ d.size → PermIn lo hi d (insInner R a j d)
  | 0, d, _, _ => permIn_refl _ _ _
  | j + 1, d, h1, h2 => by
    unfold insInner
    split
    · rename_i h
      have : j + 1 > a := by
        have := (Bool.and_eq_true _ _ ▸ h : _ ∧ _).1
        simpa using this
      exact permIn_trans _ _ _ _ _ (swp_permIn _ _ _ _ _ (by omega) (by omega) (by omega) (by omega) h2) (insInner_perm a R lo hi h0 j _ (by omega) (by rw [size_swp]; exact h2))
    · exact permIn_refl _ _ _

theorem insOuter_agree (a b : Nat) : ∀ (k i : Nat) (d : Array α), b - i = k → a ≤ i → b ≤ d.size → (∀ x y, a ≤ x → x < y → i ≤ y → y < b → lt d[y]! d[x]! = L d[y]! d[x]!) → insOuter lt a b i d = insOuter L a b i d
  | 0, i, d, hk, _, _, _ => by
    unfold insOuter
    rw [if_neg (by omega), if_neg (by omega)]
  | k + 1, i, d, hk, hi, hb, h => by
    unfold insOuter
    rw [if_pos (by omega), if_pos (by omega), insInner_agree a i d (by omega) (fun x h1 h2 => h x i h1 h2 (Nat.le_refl _) (by omega))]
    have hp := insInner_perm a L a (i + 1) (Nat.le_refl _) i d (by omega) (by omega)
    refine insOuter_agree a b k (i + 1) _ (by omega) (by omega) (by rw [hp.1]; exact hb) fun x y h1 h2 h3 h4 => ?_
    rw [hp.2.1 y (.inr h3)]
    by_cases hx : x < i + 1
    · exact permIn_all d _ a (i + 1) (fun v => lt d[y]! v = L d[y]! v) (by omega) hp (fun z hz1 hz2 => h z y hz1 (by omega) (by omega) h4) x h1 hx
    · rw [hp.2.1 x (.inr (by omega))]
      exact h x y h1 h2 (by omega) h4

theorem insertionSort_agree (hL : SWO L) (d : Array α) (a b : Nat) (hab : a ≤ b) (hb : b ≤ d.size) (h : ∀ x y, a ≤ x → x < y → y < b → lt d[y]! d[x]! = L d[y]! d[x]!) :
    PermIn a b d (insertionSort lt d a b) ∧ SortedIn L a b (insertionSort lt d a b) := by
  have e : insertionSort lt d a b = insertionSort L d a b := insOuter_agree a b _ (a + 1) d rfl (by omega) hb (fun x y h1 h2 _ h4 => h x y h1 h2 h4)
  rw [e]
  exact insertionSort_holds hL d a b hab hb

/-! ### The symmetric merge -/
theorem asym (hL : SWO L) {x y : α} (h : L x y = true) : L y x = false := hL.asymmA h
theorem sorted_le {d : Array α} {a b : Nat} (hL : SWO L) (h : SortedIn L a b d) {i j : Nat} (h1 : a ≤ i) (h2 : i ≤ j) (h3 : j < b) : L d[j]! d[i]! = false := by
  by_cases e : i = j
  · subst e; exact hL.irrefl _
  · exact h i j h1 (by omega) h3

/-- Where the first half is one element. -/
theorem merge_first (hL : SWO L) {d : Array α} {a b i : Nat} (hb : b ≤ d.size) (h1 : a + 1 ≤ i) (h2 : i ≤ b) (hs : SortedIn L (a + 1) b d) (hc : ∀ y, a + 1 ≤ y → y < b → lt d[y]! d[a]! = L d[y]! d[a]!)
    (hlo : ∀ h, a + 1 ≤ h → h < i → lt d[h]! d[a]! = true) (hhi : ∀ h, i ≤ h → h < b → lt d[h]! d[a]! = false) : PermIn a b d (mvR d a (i - 1 - a)) ∧ SortedIn L a b (mvR d a (i - 1 - a)) := by
  refine ⟨mvR_perm d a a b (Nat.le_refl _) hb _ (by omega), fun x y hx hxy hy => ?_⟩
  have ha := mvR_at d a (i - 1 - a) (by omega)
  rw [ha x, ha y]
  by_cases c1 : x < i - 1
  · rw [if_pos (c := a ≤ x ∧ x < a + (i - 1 - a)) (by omega)]
    by_cases c2 : y < i - 1
    · rw [if_pos (by omega)]; exact hs _ _ (by omega) (by omega) (by omega)
    · rw [if_neg (by omega)]
      by_cases c3 : y = i - 1
      · rw [if_pos (by omega)]
        have := hlo (x + 1) (by omega) (by omega)
        rw [hc _ (by omega) (by omega)] at this
        exact asym hL this
      · rw [if_neg (by omega)]; exact hs _ _ (by omega) (by omega) hy
  · rw [if_neg (c := a ≤ x ∧ x < a + (i - 1 - a)) (by omega), if_neg (c := a ≤ y ∧ y < a + (i - 1 - a)) (by omega), if_neg (c := y = a + (i - 1 - a)) (by omega)]
    by_cases c3 : x = i - 1
    · rw [if_pos (by omega)]
      have := hhi y (by omega) hy
      rw [hc _ (by omega) hy] at this
      exact this
    · rw [if_neg (by omega)]; exact hs _ _ (by omega) hxy hy

/-- Where the second half is one element. -/
theorem merge_last (hL : SWO L) {d : Array α} {a m i : Nat} (hb : m + 1 ≤ d.size) (h1 : a ≤ i) (h2 : i ≤ m) (hs : SortedIn L a m d) (hc : ∀ x, a ≤ x → x < m → lt d[m]! d[x]! = L d[m]! d[x]!)
    (hlo : ∀ h, a ≤ h → h < i → lt d[m]! d[h]! = false) (hhi : ∀ h, i ≤ h → h < m → lt d[m]! d[h]! = true) : PermIn a (m + 1) d (mvL d m (m - i)) ∧ SortedIn L a (m + 1) (mvL d m (m - i)) := by
  refine ⟨mvL_perm d m a (m + 1) (by omega) hb _ (by omega), fun x y hx hxy hy => ?_⟩
  have ha := mvL_at d m (by omega) (m - i) (by omega)
  rw [ha x, ha y]
  by_cases c1 : x < i
  · rw [if_neg (c := x = m - (m - i)) (by omega), if_neg (c := m - (m - i) < x ∧ x ≤ m) (by omega)]
    by_cases c2 : y = i
    · rw [if_pos (by omega)]
      have := hlo x hx c1
      rw [hc _ hx (by omega)] at this
      exact this
    · rw [if_neg (by omega)]
      by_cases c3 : y < i
      · rw [if_neg (by omega)]; exact hs _ _ hx hxy (by omega)
      · rw [if_pos (by omega)]; exact hs _ _ hx (by omega) (by omega)
  · by_cases c2 : x = i
    · rw [if_pos (c := x = m - (m - i)) (by omega), if_neg (by omega), if_pos (by omega)]
      have := hhi (y - 1) (by omega) (by omega)
      rw [hc _ (by omega) (by omega)] at this
      exact asym hL this
    · rw [if_neg (c := x = m - (m - i)) (by omega), if_pos (c := m - (m - i) < x ∧ x ≤ m) (by omega), if_neg (by omega), if_pos (by omega)]
      exact hs _ _ (by omega) (by omega) (by omega)

/-- The places where the search begins and ends. -/
def lo0 (a m b : Nat) : Nat := if (a + b) / 2 < m then (a + b) / 2 + m - b else a
def hi0 (a m b : Nat) : Nat := if (a + b) / 2 < m then (a + b) / 2 else m
theorem lo0_hi0 {a m b : Nat} (h1 : a < m) (h2 : m < b) : a ≤ lo0 a m b ∧ lo0 a m b ≤ hi0 a m b ∧ hi0 a m b ≤ m ∧ hi0 a m b ≤ (a + b) / 2 ∧ (a + b) / 2 + m - lo0 a m b ≤ b := by
  unfold lo0 hi0; split <;> omega
theorem search_in {a m b c : Nat} (h1 : a < m) (h2 : m < b) (hc : lo0 a m b ≤ c) (hc2 : c < hi0 a m b) : a ≤ c ∧ c < m ∧ m ≤ (a + b) / 2 + m - 1 - c ∧ (a + b) / 2 + m - 1 - c < b := by
  unfold lo0 at hc; unfold hi0 at hc2
  split at hc
  · rw [if_pos (by assumption)] at hc2; omega
  · rw [if_neg (by assumption)] at hc2; omega

structure Halves (lt L : α → α → Bool) (d : Array α) (a m b : Nat) : Prop where
  lo : SortedIn L a m d
  hi : SortedIn L m b d
  cross : ∀ x y, a ≤ x → x < m → m ≤ y → y < b → lt d[y]! d[x]! = L d[y]! d[x]!

/-- The search's question goes one way: where it says no at c, it says no ahead of c. -/
theorem search_mono (hL : SWO L) {d : Array α} {a m b c c' : Nat} (h1 : a < m) (h2 : m < b) (H : Halves lt L d a m b) (hc0 : lo0 a m b ≤ c') (hcc : c' ≤ c) (hc : c < hi0 a m b)
    (h : lt d[(a + b) / 2 + m - 1 - c]! d[c]! = false) : lt d[(a + b) / 2 + m - 1 - c']! d[c']! = false := by
  have k1 := search_in h1 h2 (Nat.le_trans hc0 hcc) hc
  have k2 := search_in h1 h2 hc0 (Nat.lt_of_le_of_lt hcc hc)
  rw [H.cross _ _ k1.1 k1.2.1 k1.2.2.1 k1.2.2.2] at h
  rw [H.cross _ _ k2.1 k2.2.1 k2.2.2.1 k2.2.2.2]
  have e1 := sorted_le hL H.hi (i := (a + b) / 2 + m - 1 - c) (j := (a + b) / 2 + m - 1 - c') k1.2.2.1 (by omega) k2.2.2.2
  have e2 := sorted_le hL H.lo (i := c') (j := c) k2.1 hcc k1.2.1
  exact hL.ntrans _ _ _ (hL.ntrans _ _ _ e1 h) e2
theorem search_mono' (hL : SWO L) {d : Array α} {a m b c c' : Nat} (h1 : a < m) (h2 : m < b) (H : Halves lt L d a m b) (hc0 : lo0 a m b ≤ c) (hcc : c ≤ c') (hc : c' < hi0 a m b)
    (h : lt d[(a + b) / 2 + m - 1 - c]! d[c]! = true) : lt d[(a + b) / 2 + m - 1 - c']! d[c']! = true := by
  cases e : lt d[(a + b) / 2 + m - 1 - c']! d[c']! with
  | true => rfl
  | false => rw [search_mono hL h1 h2 H hc0 hcc hc e] at h; cases h

structure Split (lt L : α → α → Bool) (d : Array α) (a mid b s e : Nat) : Prop where
  as : a ≤ s
  sm : s ≤ mid
  me : mid ≤ e
  eb : e ≤ b
  left : Halves lt L d a s mid
  right : Halves lt L d mid e b
  apart : ∀ x y, a ≤ x → x < mid → mid ≤ y → y < b → L d[y]! d[x]! = false

/-- Behind the search and the turning. -/
theorem merge_split (hL : SWO L) {d d1 : Array α} {a m b s : Nat} (h1 : a < m) (h2 : m < b) (H : Halves lt L d a m b) (hs0 : lo0 a m b ≤ s) (hs1 : s ≤ hi0 a m b)
    (hlo : ∀ c, lo0 a m b ≤ c → c < s → lt d[(a + b) / 2 + m - 1 - c]! d[c]! = false) (hhi : ∀ c, s ≤ c → c < hi0 a m b → lt d[(a + b) / 2 + m - 1 - c]! d[c]! = true)
    (hT : Turned d d1 s m ((a + b) / 2 + m - s)) : Split lt L d1 a ((a + b) / 2) b s ((a + b) / 2 + m - s) := by
  obtain ⟨k1, k2, k3, k4, k5⟩ := lo0_hi0 h1 h2
  have hsm : s ≤ m := by omega
  -- what stands where
  have ll : ∀ x, a ≤ x → x < s → d1[x]! = d[x]! := fun x _ hx => by rw [hT x, if_neg (by omega), if_neg (by omega)]
  have lr : ∀ x, s ≤ x → x < (a + b) / 2 → d1[x]! = d[x + (m - s)]! := fun x h3 h4 => by rw [hT x, if_pos (by omega)]
  have rl : ∀ x, (a + b) / 2 ≤ x → x < (a + b) / 2 + m - s → d1[x]! = d[x - ((a + b) / 2 - s)]! := fun x h3 h4 => by rw [hT x, if_neg (by omega), if_pos (by omega)]; exact at_eq _ (by omega)
  have rr : ∀ x, (a + b) / 2 + m - s ≤ x → x < b → d1[x]! = d[x]! := fun x h3 h4 => by rw [hT x, if_neg (by omega), if_neg (by omega)]
  refine ⟨by omega, by omega, by omega, by omega, ⟨?_, ?_, ?_⟩, ⟨?_, ?_, ?_⟩, ?_⟩
  · intro x y hx hxy hy
    rw [ll x hx (by omega), ll y (by omega) hy]; exact H.lo _ _ hx hxy (by omega)
  · intro x y hx hxy hy
    rw [lr x hx (by omega), lr y (by omega) hy]; exact H.hi _ _ (by omega) (by omega) (by omega)
  · intro x y hx hxm hy hyb
    rw [ll x hx hxm, lr y hy hyb]; exact H.cross _ _ hx (by omega) (by omega) (by omega)
  · intro x y hx hxy hy
    rw [rl x hx (by omega), rl y (by omega) hy]; exact H.lo _ _ (by omega) (by omega) (by omega)
  · intro x y hx hxy hy
    rw [rr x hx (by omega), rr y (by omega) hy]; exact H.hi _ _ (by omega) hxy hy
  · intro x y hx hxm hy hyb
    rw [rl x hx hxm, rr y hy hyb]; exact H.cross _ _ (by omega) (by omega) (by omega) hyb
  · intro x y hx hxm hy hyb
    by_cases c1 : x < s
    · rw [ll x hx c1]
      by_cases c2 : y < (a + b) / 2 + m - s
      · rw [rl y hy c2]; exact sorted_le hL H.lo hx (by omega) (by omega)
      · rw [rr y (by omega) hyb]
        have hne : lo0 a m b ≤ s - 1 := by
          by_cases e : lo0 a m b = s
          · exfalso
            unfold lo0 at e
            split at e <;> omega
          · omega
        have q := hlo (s - 1) hne (by omega)
        have k := search_in h1 h2 hne (by omega)
        rw [H.cross _ _ k.1 k.2.1 k.2.2.1 k.2.2.2] at q
        have e1 := sorted_le hL H.hi (i := (a + b) / 2 + m - 1 - (s - 1)) (j := y) k.2.2.1 (by omega) hyb
        have e2 := sorted_le hL H.lo (i := x) (j := s - 1) hx (by omega) k.2.1
        exact hL.ntrans _ _ _ (hL.ntrans _ _ _ e1 q) e2
    · rw [lr x (by omega) hxm]
      by_cases c2 : y < (a + b) / 2 + m - s
      · rw [rl y hy c2]
        have hne : s < hi0 a m b := by
          by_cases e : s = hi0 a m b
          · exfalso
            unfold hi0 at e
            split at e <;> omega
          · omega
        have q := hhi s (Nat.le_refl _) hne
        have k := search_in h1 h2 hs0 hne
        rw [H.cross _ _ k.1 k.2.1 k.2.2.1 k.2.2.2] at q
        have q := asym hL q
        have e1 := sorted_le hL H.hi (i := x + (m - s)) (j := (a + b) / 2 + m - 1 - s) (by omega) (by omega) k.2.2.2
        have e2 := sorted_le hL H.lo (i := s) (j := y - ((a + b) / 2 - s)) (by omega) (by omega) (by omega)
        exact hL.ntrans _ _ _ (hL.ntrans _ _ _ e2 q) e1
      · rw [rr y (by omega) hyb]; exact sorted_le hL H.hi (by omega) (by omega) hyb

/-- Both halves merged: the whole is sorted. -/
theorem merge_join {d1 d2 d3 : Array α} {a mid b s e : Nat} (hb : b ≤ d1.size) (S : Split lt L d1 a mid b s e) (p2 : PermIn a mid d1 d2) (s2 : SortedIn L a mid d2) (p3 : PermIn mid b d2 d3) (s3 : SortedIn L mid b d3) :
    PermIn a b d1 d3 ∧ SortedIn L a b d3 := by
  have ham : a ≤ mid := Nat.le_trans S.as S.sm
  have hmb : mid ≤ b := Nat.le_trans S.me S.eb
  refine ⟨permIn_trans _ _ _ _ _ (permIn_mono _ _ _ _ _ _ (Nat.le_refl _) hmb hb p2) (permIn_mono _ _ _ _ _ _ ham (Nat.le_refl _) (by rw [p2.1]; exact hb) p3), fun x y hx hxy hy => ?_⟩
  by_cases c1 : y < mid
  · rw [p3.2.1 x (.inl (by omega)), p3.2.1 y (.inl c1)]; exact s2 x y hx hxy c1
  · by_cases c2 : mid ≤ x
    · exact s3 x y c2 hxy hy
    · rw [p3.2.1 x (.inl (by omega))]
      have hyy : ∀ z, mid ≤ z → z < b → L d2[z]! d2[x]! = false := fun z hz1 hz2 => by
        rw [p2.2.1 z (.inr hz1)]
        exact permIn_all d1 d2 a mid (fun v => L d1[z]! v = false) (by omega) p2 (fun q hq1 hq2 => S.apart q z hq1 hq2 hz1 hz2) x hx (by omega)
      exact permIn_all d2 d3 mid b (fun v => L v d2[x]! = false) (by rw [p2.1]; exact hb) p3 hyy y (by omega) hy

/-- A half that is empty is sorted as it lies. -/
theorem halves_none {d : Array α} {a m b : Nat} (h1 : a ≤ m) (h2 : m ≤ b) (H : Halves lt L d a m b) (h : a = m ∨ m = b) : SortedIn L a b d := by
  rcases h with rfl | rfl
  · exact H.hi
  · exact H.lo

theorem Halves.perm_right {d d2 : Array α} {a mid m b : Nat} (hb : b ≤ d.size) (ham : a ≤ mid) (H : Halves lt L d mid m b) (p : PermIn a mid d d2) (hm : mid ≤ m) : Halves lt L d2 mid m b :=
  ⟨fun x y h1 h2 h3 => by rw [p.2.1 x (.inr h1), p.2.1 y (.inr (by omega))]; exact H.lo x y h1 h2 h3,
   fun x y h1 h2 h3 => by rw [p.2.1 x (.inr (by omega)), p.2.1 y (.inr (by omega))]; exact H.hi x y h1 h2 h3,
   fun x y h1 h2 h3 h4 => by rw [p.2.1 x (.inr h1), p.2.1 y (.inr (by omega))]; exact H.cross x y h1 h2 h3 h4⟩

theorem turned_perm_size {d d' : Array α} {a b : Nat} (p : PermIn a b d d') : d'.size = d.size := p.1

/-! ### Blocks -/
/-- A cut: whatever stands behind place c is held against what stands ahead of it as the other order says. -/
def Cut (lt L : α → α → Bool) (n c : Nat) (d : Array α) : Prop := ∀ x y, x < c → c ≤ y → y < n → lt d[y]! d[x]! = L d[y]! d[x]!

theorem Cut.perm {n c a b : Nat} {d d' : Array α} (hb : b ≤ n) (hn : n ≤ d.size) (h : Cut lt L n c d) (p : PermIn a b d d') (hc : c ≤ a ∨ b ≤ c) : Cut lt L n c d' := by
  intro x y hx hy hyn
  have key : ∀ z, c ≤ z → z < n → lt d[z]! d'[x]! = L d[z]! d'[x]! := fun z hz1 hz2 => by
    by_cases hxa : x < a
    · rw [p.2.1 x (.inl hxa)]; exact h x z hx hz1 hz2
    · by_cases hxb : x < b
      · refine permIn_all d d' a b (fun v => lt d[z]! v = L d[z]! v) (by omega) p (fun q hq1 hq2 => ?_) x (by omega) hxb
        exact h q z (by omega) hz1 hz2
      · rw [p.2.1 x (.inr (by omega))]; exact h x z hx hz1 hz2
  by_cases hya : y < a
  · rw [p.2.1 y (.inl hya)]; exact key y hy hyn
  · by_cases hyb : y < b
    · refine permIn_all d d' a b (fun v => lt v d'[x]! = L v d'[x]!) (by omega) p (fun q hq1 hq2 => ?_) y (by omega) hyb
      exact key q (by omega) (by omega)
    · rw [p.2.1 y (.inr (by omega))]; exact key y hy hyn

theorem SortedIn.far {d d' : Array α} {a b lo hi : Nat} (h : SortedIn L lo hi d) (p : PermIn a b d d') (hc : hi ≤ a ∨ b ≤ lo) : SortedIn L lo hi d' := fun x y h1 h2 h3 => by
  rw [p.2.1 x (by omega), p.2.1 y (by omega)]; exact h x y h1 h2 h3

theorem dvd_step {k a c : Nat} (ha : k ∣ a) (hc : k ∣ c) (h : c < a) : c + k ≤ a := by
  obtain ⟨p, rfl⟩ := ha
  obtain ⟨q, rfl⟩ := hc
  have : q < p := Nat.lt_of_mul_lt_mul_left h
  calc k * q + k = k * (q + 1) := by rw [Nat.mul_add, Nat.mul_one]
    _ ≤ k * p := Nat.mul_le_mul_left k this

/-- The first loop: blocks of k sorted up to a; behind a all is as it came. -/
structure Laid (lt L : α → α → Bool) (n k a : Nat) (d : Array α) : Prop where
  dvd : k ∣ a
  done : ∀ c, k ∣ c → c + k ≤ a → SortedIn L c (c + k) d
  cut : ∀ c, k ∣ c → Cut lt L n c d
  rest : ∀ x y, x < y → a ≤ y → y < n → lt d[y]! d[x]! = L d[y]! d[x]!

theorem Laid.start {n k : Nat} {d : Array α} (hk : 0 < k) (h : ∀ x y, x < y → y < n → lt d[y]! d[x]! = L d[y]! d[x]!) : Laid lt L n k 0 d :=
  ⟨Nat.dvd_zero _, fun c _ hc => absurd hc (by omega), fun c _ x y h1 h2 h3 => h x y (by omega) h3, fun x y h1 _ h3 => h x y h1 h3⟩

theorem Laid.pairs {n k a : Nat} {d : Array α} (h : Laid lt L n k a d) : ∀ x y, a ≤ x → x < y → y < n → lt d[y]! d[x]! = L d[y]! d[x]! := fun x y h1 h2 h3 => h.rest x y h2 (by omega) h3

theorem Laid.step {n k a : Nat} {d d' : Array α} (hk : 0 < k) (h : Laid lt L n k a d) (hn : n ≤ d.size) (hb : a + k ≤ n) (p : PermIn a (a + k) d d') (s : SortedIn L a (a + k) d') : Laid lt L n k (a + k) d' := by
  refine ⟨(Nat.dvd_add_right h.dvd).2 (Nat.dvd_refl k), fun c hc hle => ?_, fun c hc => ?_, fun x y h1 h2 h3 => ?_⟩
  · by_cases e : c = a
    · subst e; exact s
    · have : c + k ≤ a := by
        rcases Nat.lt_or_ge c a with hlt | hge
        · exact dvd_step h.dvd hc hlt
        · have := dvd_step hc h.dvd (by omega : a < c); omega
      exact SortedIn.far (h.done c hc this) p (.inl this)
  · refine Cut.perm hb hn (h.cut c hc) p ?_
    rcases Nat.lt_or_ge a c with hlt | hge
    · exact .inr (dvd_step hc h.dvd hlt)
    · exact .inl hge
  · rw [p.2.1 y (.inr h2)]
    by_cases hxa : x < a
    · rw [p.2.1 x (.inl hxa)]; exact h.rest x y h1 (by omega) h3
    · by_cases hxb : x < a + k
      · exact permIn_all d d' a (a + k) (fun v => lt d[y]! v = L d[y]! v) (by omega) p (fun q hq1 hq2 => h.rest q y (by omega) (by omega) h3) x (by omega) hxb
      · rw [p.2.1 x (.inr (by omega))]; exact h.rest x y h1 (by omega) h3

/-- All blocks of k sorted, the last one as far as it goes; a cut at each. -/
structure Blocks (lt L : α → α → Bool) (n k : Nat) (d : Array α) : Prop where
  done : ∀ c, k ∣ c → SortedIn L c (min (c + k) n) d
  cut : ∀ c, k ∣ c → Cut lt L n c d

theorem Laid.last {n k a : Nat} {d d' : Array α} (h : Laid lt L n k a d) (hn : n ≤ d.size) (ha : a ≤ n) (hb : n < a + k) (p : PermIn a n d d') (s : SortedIn L a n d') : Blocks lt L n k d' := by
  refine ⟨fun c hc => ?_, fun c hc => ?_⟩
  · rcases Nat.lt_or_ge c a with hlt | hge
    · have := dvd_step h.dvd hc hlt
      rw [Nat.min_eq_left (by omega)]
      exact SortedIn.far (h.done c hc this) p (.inl this)
    · rw [Nat.min_eq_right (by omega)]
      intro x y h1 h2 h3
      exact s x y (by omega) h2 h3
  · rcases Nat.lt_or_ge a c with hlt | hge
    · intro x y h1 h2 h3
      have := dvd_step hc h.dvd hlt
      omega
    · exact Cut.perm (Nat.le_refl _) hn (h.cut c hc) p (.inl hge)

/-- The second loop: blocks of 2k sorted up to a, blocks of k behind. -/
structure Half (lt L : α → α → Bool) (n k a : Nat) (d : Array α) : Prop where
  dvd : 2 * k ∣ a
  done : ∀ c, 2 * k ∣ c → c + 2 * k ≤ a → SortedIn L c (c + 2 * k) d
  todo : ∀ c, k ∣ c → a ≤ c → SortedIn L c (min (c + k) n) d
  cut2 : ∀ c, 2 * k ∣ c → Cut lt L n c d
  cut1 : ∀ c, k ∣ c → a ≤ c → Cut lt L n c d

theorem dvd_of_two {k c : Nat} (h : 2 * k ∣ c) : k ∣ c := Nat.dvd_trans (Nat.dvd_mul_left k 2) h
theorem Half.start {n k : Nat} {d : Array α} (hk : 0 < k) (h : Blocks lt L n k d) : Half lt L n k 0 d :=
  ⟨Nat.dvd_zero _, fun c _ hc => absurd hc (by omega), fun c hc _ => h.done c hc, fun c hc => h.cut c (dvd_of_two hc), fun c hc _ => h.cut c hc⟩

theorem Half.halves {n k a e : Nat} {d : Array α} (h : Half lt L n k a d) (hk : 0 < k) (he : e ≤ n) (h1 : a + k ≤ e) (h2 : e ≤ a + 2 * k) : Halves lt L d a (a + k) e := by
  have d1 : k ∣ a := dvd_of_two h.dvd
  have d2 : k ∣ a + k := (Nat.dvd_add_right d1).2 (Nat.dvd_refl k)
  refine ⟨?_, ?_, ?_⟩
  · have := h.todo a d1 (Nat.le_refl _)
    rw [Nat.min_eq_left (by omega)] at this
    exact this
  · intro x y hx hxy hy
    exact h.todo (a + k) d2 (by omega) x y hx hxy (by omega)
  · intro x y hx hxm hy hyb
    exact h.cut1 (a + k) d2 (by omega) x y hxm hy (by omega)

theorem Half.step {n k a : Nat} {d d' : Array α} (h : Half lt L n k a d) (hk : 0 < k) (hn : n ≤ d.size) (hb : a + 2 * k ≤ n) (p : PermIn a (a + 2 * k) d d') (s : SortedIn L a (a + 2 * k) d') : Half lt L n k (a + 2 * k) d' := by
  refine ⟨(Nat.dvd_add_right h.dvd).2 (Nat.dvd_refl _), fun c hc hle => ?_, fun c hc hle => ?_, fun c hc => ?_, fun c hc hle => ?_⟩
  · by_cases e : c = a
    · subst e; exact s
    · have : c + 2 * k ≤ a := by
        rcases Nat.lt_or_ge c a with hlt | hge
        · exact dvd_step h.dvd hc hlt
        · have := dvd_step hc h.dvd (by omega : a < c); omega
      exact SortedIn.far (h.done c hc this) p (.inl this)
  · exact SortedIn.far (h.todo c hc (by omega)) p (.inr hle)
  · refine Cut.perm hb hn (h.cut2 c hc) p ?_
    rcases Nat.lt_or_ge a c with hlt | hge
    · exact .inr (dvd_step hc h.dvd hlt)
    · exact .inl hge
  · exact Cut.perm hb hn (h.cut1 c hc (by omega)) p (.inr hle)

theorem Half.last {n k a : Nat} {d d' : Array α} (h : Half lt L n k a d) (hk : 0 < k) (hn : n ≤ d.size) (ha : a ≤ n) (hb : n < a + 2 * k) (p : PermIn a n d d') (s : SortedIn L a n d') : Blocks lt L n (2 * k) d' := by
  refine ⟨fun c hc => ?_, fun c hc => ?_⟩
  · rcases Nat.lt_or_ge c a with hlt | hge
    · have := dvd_step h.dvd hc hlt
      rw [Nat.min_eq_left (by omega)]
      exact SortedIn.far (h.done c hc this) p (.inl this)
    · rw [Nat.min_eq_right (by omega)]
      intro x y h1 h2 h3
      exact s x y (by omega) h2 h3
  · rcases Nat.lt_or_ge a c with hlt | hge
    · intro x y h1 h2 h3
      have := dvd_step hc h.dvd hlt
      omega
    · exact Cut.perm (Nat.le_refl _) hn (h.cut2 c hc) p (.inl hge)

/-- Where no second half is left the last block lies as it should. -/
theorem Half.tail {n k a : Nat} {d : Array α} (h : Half lt L n k a d) (hb : n ≤ a + k) : SortedIn L a n d := fun x y h1 h2 h3 => h.todo a (dvd_of_two h.dvd) (Nat.le_refl _) x y h1 h2 (by omega)

theorem Blocks.whole {n k : Nat} {d : Array α} (h : Blocks lt L n k d) (hk : n ≤ k) : SortedIn L 0 n d := fun x y h1 h2 h3 => h.done 0 (Nat.dvd_zero _) x y h1 h2 (by omega)
end
end St
end Go.Proofs.Ytndpblgedpdjdaa
