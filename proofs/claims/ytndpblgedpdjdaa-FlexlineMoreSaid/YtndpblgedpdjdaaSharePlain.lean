/- Shares, plain: ranks, and what is dealt. -/
import Derived.Test.YtndpblgedpdjdaaHold
namespace Go.Proofs.Ytndpblgedpdjdaa
namespace Sh
set_option linter.unusedVariables false
set_option linter.unusedSimpArgs false

/-- Is place j served ahead of place i? -/
def ahead (r : Nat → Int) (j i : Nat) : Bool := decide (r i < r j ∨ (r j = r i ∧ j < i))
section
variable {r : Nat → Int} {i j k n : Nat}
theorem ahead_iff : ahead r j i = true ↔ (r i < r j ∨ (r j = r i ∧ j < i)) := by simp [ahead]
theorem ahead_irrefl : ahead r i i = false := by simp [ahead]
theorem ahead_trans (h1 : ahead r i j = true) (h2 : ahead r j k = true) : ahead r i k = true := by
  rw [ahead_iff] at *; omega
theorem ahead_total (h : i ≠ j) : ahead r i j = true ∨ ahead r j i = true := by
  rw [ahead_iff, ahead_iff]; omega
theorem ahead_asymm (h1 : ahead r i j = true) : ahead r j i = false := by
  cases h : ahead r j i with
  | false => rfl
  | true => rw [ahead_iff] at *; omega
end

/-- How many are served ahead of place i. -/
def rank (n : Nat) (r : Nat → Int) (i : Nat) : Nat := (List.range n).countP fun j => ahead r j i

theorem countP_strict {α : Type} {p q : α → Bool} : ∀ {l : List α} {a : α}, (∀ x ∈ l, p x = true → q x = true) → a ∈ l → q a = true → p a = false → l.countP p < l.countP q
  | [], _, _, ha, _, _ => by cases ha
  | x :: t, a, h, ha, hq, hp => by
    have ht : ∀ y ∈ t, p y = true → q y = true := fun y hy => h y (by simp [hy])
    have hle := List.countP_mono_left ht
    rw [List.countP_cons, List.countP_cons]
    rcases List.mem_cons.1 ha with rfl | ha
    · rw [hq, hp]; simp; omega
    · have := countP_strict ht ha hq hp
      by_cases hx : p x = true
      · rw [hx, h x (by simp) hx]; simp; omega
      · rw [if_neg hx]; split <;> omega

theorem rank_lt {n : Nat} {r : Nat → Int} {i j : Nat} (hi : i < n) (h : ahead r i j = true) : rank n r i < rank n r j :=
  countP_strict (fun x _ hx => ahead_trans hx h) (List.mem_range.2 hi) h ahead_irrefl

section
variable {n : Nat} {r : Nat → Int} {s : List Nat}
theorem rank_at (hp : s.Perm (List.range n)) (hs : s.Pairwise fun a b => ahead r a b = true) (k : Nat) (hk : k < s.length) : rank n r s[k] = k := by
  unfold rank
  rw [← hp.countP_eq]
  have e : s = s.take k ++ s[k] :: s.drop (k + 1) := by rw [← List.drop_eq_getElem_cons hk, List.take_append_drop]
  have hs' := hs
  rw [e] at hs'
  rw [List.pairwise_append] at hs'
  obtain ⟨_, h2, h3⟩ := hs'
  rw [List.pairwise_cons] at h2
  generalize s[k] = x at *
  rw [e, List.countP_append, List.countP_cons]
  have c1 : (s.take k).countP (fun j => ahead r j x) = (s.take k).length := List.countP_eq_length.2 fun a ha => h3 a ha x (by simp)
  have c2 : (s.drop (k + 1)).countP (fun j => ahead r j x) = 0 := List.countP_eq_zero.2 fun a ha h => by
    have := ahead_asymm (h2.1 a ha)
    rw [this] at h; cases h
  rw [c1, c2, ahead_irrefl, List.length_take]
  simp; omega

theorem used_take (hp : s.Perm (List.range n)) (hs : s.Pairwise fun a b => ahead r a b = true) (k i : Nat) (hi : i < n) : i ∈ s.take k ↔ rank n r i < k := by
  have hm : i ∈ s := hp.mem_iff.2 (List.mem_range.2 hi)
  obtain ⟨j, hj, rfl⟩ := List.mem_iff_getElem.1 hm
  rw [rank_at hp hs j hj]
  constructor
  · intro h
    obtain ⟨j', hj', e⟩ := List.mem_iff_getElem.1 h
    rw [List.length_take] at hj'
    rw [List.getElem_take] at e
    have h1 := rank_at hp hs j' (by omega)
    have h2 := rank_at hp hs j hj
    rw [e] at h1
    omega
  · intro h
    exact List.mem_iff_getElem.2 ⟨j, by rw [List.length_take]; omega, by rw [List.getElem_take]⟩
end

theorem sorted_exists (n : Nat) (r : Nat → Int) : ∃ s : List Nat, s.Perm (List.range n) ∧ s.Pairwise (fun a b => ahead r a b = true) := by
  refine ⟨(List.range n).mergeSort (fun a b => !ahead r b a), List.mergeSort_perm _ _, ?_⟩
  have h1 := List.pairwise_mergeSort (le := fun a b => !ahead r b a) (fun a b c h1 h2 => by
    simp only [Bool.not_eq_true', Bool.not_eq_eq_eq_not, Bool.not_true] at *
    cases h : ahead r c a with
    | false => rfl
    | true =>
      by_cases e : a = b
      · subst e; rw [h] at h2; cases h2
      · rcases ahead_total (r := r) e with g | g
        · rw [ahead_trans h g] at h2; cases h2
        · rw [g] at h1; cases h1) (fun a b => by
    cases h : ahead r b a with
    | false => rfl
    | true => simp [ahead_asymm h]) (List.range n)
  have h2 : ((List.range n).mergeSort (fun a b => !ahead r b a)).Nodup := (List.mergeSort_perm _ _).nodup_iff.2 List.nodup_range
  refine (h1.and h2).imp ?_
  rintro a b ⟨h, hne⟩
  rcases ahead_total (r := r) hne with g | g
  · exact g
  · rw [g] at h; cases h

theorem rank_bd {n : Nat} {r : Nat → Int} {i : Nat} (hi : i < n) : rank n r i < n := by
  obtain ⟨s, hp, hs⟩ := sorted_exists n r
  obtain ⟨j, hj, rfl⟩ := List.mem_iff_getElem.1 (hp.mem_iff.2 (List.mem_range.2 hi))
  rw [rank_at hp hs j hj]
  have := hp.length_eq
  rw [List.length_range] at this; omega
theorem rank_surj (n : Nat) (r : Nat → Int) (k : Nat) (hk : k < n) : ∃ i, i < n ∧ rank n r i = k := by
  obtain ⟨s, hp, hs⟩ := sorted_exists n r
  have hl := hp.length_eq
  rw [List.length_range] at hl
  exact ⟨s[k]'(by omega), List.mem_range.1 (hp.mem_iff.1 (List.getElem_mem _)), rank_at hp hs k (by omega)⟩
theorem rank_inj {n : Nat} {r : Nat → Int} {i j : Nat} (hi : i < n) (hj : j < n) (h : rank n r i = rank n r j) : i = j := by
  by_cases e : i = j
  · exact e
  · rcases ahead_total (r := r) e with g | g
    · have := rank_lt (n := n) hi g; omega
    · have := rank_lt (n := n) hj g; omega
theorem rank_congr {n : Nat} {r r' : Nat → Int} (h : ∀ i, i < n → r i = r' i) {i : Nat} (hi : i < n) : rank n r i = rank n r' i := by
  unfold rank
  refine List.countP_congr fun j hj => ?_
  have hj := List.mem_range.1 hj
  unfold ahead
  rw [h i hi, h j hj]

/-- The sum of the first n. -/
def sm (f : Nat → Int) : Nat → Int
  | 0 => 0
  | n + 1 => sm f n + f n
theorem sm_add (f g : Nat → Int) : ∀ n, sm (fun i => f i + g i) n = sm f n + sm g n
  | 0 => rfl
  | n + 1 => by simp only [sm, sm_add f g n]; omega
theorem sm_neg (f : Nat → Int) : ∀ n, sm (fun i => -f i) n = -sm f n
  | 0 => rfl
  | n + 1 => by simp only [sm, sm_neg f n]; omega
theorem sm_congr {f g : Nat → Int} : ∀ {n}, (∀ i, i < n → f i = g i) → sm f n = sm g n
  | 0, _ => rfl
  | n + 1, h => by
    show sm f n + f n = sm g n + g n
    rw [sm_congr (fun i hi => h i (by omega)), h n (by omega)]
theorem sm_zero : ∀ n, sm (fun _ => 0) n = 0
  | 0 => rfl
  | n + 1 => by simp only [sm, sm_zero n]; rfl
theorem sm_nonneg {f : Nat → Int} : ∀ {n}, (∀ i, i < n → 0 ≤ f i) → 0 ≤ sm f n
  | 0, _ => Int.le_refl 0
  | n + 1, h => by
    have := sm_nonneg (n := n) (fun i hi => h i (by omega))
    have := h n (by omega)
    simp only [sm]; omega
theorem sm_le {f : Nat → Int} {c : Int} : ∀ {n}, (∀ i, i < n → f i ≤ c) → sm f n ≤ c * n
  | 0, _ => by simp [sm]
  | n + 1, h => by
    have h1 := sm_le (n := n) (fun i hi => h i (by omega))
    have h2 := h n (by omega)
    have e : c * ((n + 1 : Nat) : Int) = c * n + c := by rw [Int.natCast_succ, Int.mul_add, Int.mul_one]
    simp only [sm, e]; omega
theorem sm_mono {f : Nat → Int} {n : Nat} (h : ∀ i, i < n → 0 ≤ f i) : ∀ {k}, k ≤ n → sm f k ≤ sm f n := by
  induction n with
  | zero => intro k hk; obtain rfl : k = 0 := by omega
            exact Int.le_refl _
  | succ n ih =>
    intro k hk
    by_cases e : k = n + 1
    · subst e; exact Int.le_refl _
    · have h1 := ih (fun i hi => h i (by omega)) (k := k) (by omega)
      have h2 := h n (by omega)
      simp only [sm]; omega
theorem sm_at {f : Nat → Int} {n i : Nat} (h : ∀ i, i < n → 0 ≤ f i) (hi : i < n) : f i ≤ sm f n := by
  have h1 := sm_mono h (k := i + 1) (by omega)
  have h2 := sm_nonneg (n := i) (fun j hj => h j (by omega))
  simp only [sm] at h1; omega

/-- What the division gives, and what it leaves out. -/
def q (t S : Int) (W : Nat → Int) (i : Nat) : Int := t * W i / S
def rs (t S : Int) (W : Nat → Int) (i : Nat) : Int := t * W i % S
/-- What is left behind the first k. -/
def left (t S : Int) (W : Nat → Int) (k : Nat) : Int := t - sm (q t S W) k
/-- What a place gets: of a total that is not below 0. -/
def dealt (t S : Int) (n : Nat) (W : Nat → Int) (i : Nat) : Int := q t S W i + if (rank n (rs t S W) i : Int) < left t S W n then 1 else 0

section
variable {t S : Int} {n : Nat} {W : Nat → Int}
theorem q_nonneg (ht : 0 ≤ t) (hS : 0 < S) {i : Nat} (hW : 0 ≤ W i) : 0 ≤ q t S W i := Int.ediv_nonneg (Int.mul_nonneg ht hW) (by omega)
theorem rs_bd (hS : 0 < S) (i : Nat) : 0 ≤ rs t S W i ∧ rs t S W i < S := ⟨Int.emod_nonneg _ (by omega), Int.emod_lt_of_pos _ hS⟩
theorem parts (k : Nat) : t * sm W k = S * sm (q t S W) k + sm (rs t S W) k := by
  induction k with
  | zero => simp [sm]
  | succ k ih =>
    simp only [sm, Int.mul_add]
    have := Int.mul_ediv_add_emod (t * W k) S
    unfold q rs at *
    omega
theorem left_mul (hS : S = sm W n) : S * left t S W n = sm (rs t S W) n := by
  have := parts (t := t) (S := S) (W := W) n
  unfold left
  rw [← hS] at this
  rw [Int.mul_sub, Int.mul_comm S t]; omega
theorem left_bd (hS : S = sm W n) (hS0 : 0 < S) : 0 ≤ left t S W n ∧ left t S W n < n := by
  have h := left_mul (t := t) hS
  have h0 : 0 ≤ sm (rs t S W) n := sm_nonneg fun i _ => (rs_bd hS0 i).1
  have h1 : sm (rs t S W) n ≤ (S - 1) * n := sm_le fun i _ => by have := (rs_bd (t := t) (W := W) hS0 i).2; omega
  have hn : 0 < n := by
    rcases Nat.eq_zero_or_pos n with rfl | h
    · simp only [sm] at hS; omega
    · exact h
  constructor
  · rcases Int.lt_or_le (left t S W n) 0 with hl | hl
    · have := Int.mul_neg_of_pos_of_neg hS0 hl
      omega
    · exact hl
  · rcases Int.lt_or_le (left t S W n) n with hl | hl
    · exact hl
    · have h2 := Int.mul_le_mul_of_nonneg_left hl (Int.le_of_lt hS0)
      have h3 : (S - 1) * (n : Int) = S * n - n := by rw [Int.sub_mul, Int.one_mul]
      omega

theorem sm_count (f : Nat → Bool) : ∀ n, sm (fun i => if f i = true then 1 else 0) n = ((List.range n).countP f : Nat)
  | 0 => rfl
  | n + 1 => by
    rw [List.range_succ, List.countP_append, sm, sm_count f n]
    by_cases h : f n = true
    · rw [if_pos h, List.countP_cons, h]; simp
    · rw [if_neg h, List.countP_cons, if_neg h]; simp

theorem sm_ranks (r : Nat → Int) (L : Nat) (hL : L ≤ n) : sm (fun i => if (rank n r i : Int) < (L : Int) then 1 else 0) n = L := by
  have e : sm (fun i => if (rank n r i : Int) < (L : Int) then 1 else 0) n = sm (fun i => if decide (rank n r i < L) = true then 1 else 0) n :=
    sm_congr fun i _ => by simp only [decide_eq_true_eq, Int.ofNat_lt]
  rw [e, sm_count]
  congr 1
  obtain ⟨s, hp, hs⟩ := sorted_exists n r
  have hl := hp.length_eq
  rw [List.length_range] at hl
  rw [← hp.countP_eq]
  have e : s = s.take L ++ s.drop L := (List.take_append_drop _ _).symm
  have c1 : (s.take L).countP (fun i => decide (rank n r i < L)) = (s.take L).length := List.countP_eq_length.2 fun a ha => by
    obtain ⟨j, hj, rfl⟩ := List.mem_iff_getElem.1 ha
    rw [List.length_take] at hj
    rw [List.getElem_take, rank_at hp hs j (by omega)]; simp; omega
  have c2 : (s.drop L).countP (fun i => decide (rank n r i < L)) = 0 := List.countP_eq_zero.2 fun a ha => by
    obtain ⟨j, hj, rfl⟩ := List.mem_iff_getElem.1 ha
    rw [List.length_drop] at hj
    rw [List.getElem_drop, rank_at hp hs (L + j) (by omega)]; simp
  rw [e, List.countP_append, c1, c2, List.length_take]; omega

/-- The shares are the whole total. -/
theorem dealt_sum (hS : S = sm W n) (hS0 : 0 < S) : sm (dealt t S n W) n = t := by
  obtain ⟨h1, h2⟩ := left_bd (t := t) hS hS0
  have e : sm (dealt t S n W) n = sm (q t S W) n + sm (fun i => if (rank n (rs t S W) i : Int) < left t S W n then 1 else 0) n := sm_add _ _ n
  obtain ⟨L, hL⟩ : ∃ L : Nat, left t S W n = L := ⟨(left t S W n).toNat, by omega⟩
  rw [e, hL, sm_ranks _ L (by omega), ← hL]
  unfold left; omega
theorem dealt_near (i : Nat) : dealt t S n W i = q t S W i ∨ dealt t S n W i = q t S W i + 1 := by unfold dealt; split <;> omega
theorem left_zero (n : Nat) : left 0 S W n = 0 := by
  unfold left
  have : sm (q 0 S W) n = 0 := (sm_congr fun i _ => by unfold q; simp).trans (sm_zero n)
  omega
theorem dealt_zero (i : Nat) : dealt 0 S n W i = 0 := by
  unfold dealt
  rw [left_zero, if_neg (by omega)]
  unfold q; simp
/-- Who weighs more gets no less; of two that weigh the same the one ahead. -/
theorem dealt_order (ht : 0 ≤ t) (hS0 : 0 < S) {i j : Nat} (hi : i < n) (h : W j < W i ∨ (W i = W j ∧ i < j)) : dealt t S n W j ≤ dealt t S n W i := by
  rcases Int.lt_or_le 0 t with h0 | h0
  · have hle : t * W j ≤ t * W i := Int.mul_le_mul_of_nonneg_left (by omega) ht
    have hq : q t S W j ≤ q t S W i := Int.ediv_le_ediv hS0 hle
    by_cases e : q t S W j = q t S W i
    · have ha : ahead (rs t S W) i j = true := by
        rw [ahead_iff]
        have e1 := Int.mul_ediv_add_emod (t * W i) S
        have e2 := Int.mul_ediv_add_emod (t * W j) S
        unfold q at e
        rw [← e] at e1
        unfold rs
        rcases h with h | ⟨h, hij⟩
        · have : t * W j < t * W i := Int.mul_lt_mul_of_pos_left h h0
          left; omega
        · right; rw [h]; exact ⟨rfl, hij⟩
      have hr := rank_lt (n := n) hi ha
      unfold dealt
      rw [e]
      split <;> split <;> omega
    · unfold dealt
      split <;> split <;> omega
  · obtain rfl : t = 0 := by omega
    rw [dealt_zero, dealt_zero]; exact Int.le_refl _
end

end Sh
end Go.Proofs.Ytndpblgedpdjdaa
