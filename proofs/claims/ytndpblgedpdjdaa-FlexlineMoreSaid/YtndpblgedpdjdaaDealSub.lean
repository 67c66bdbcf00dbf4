/- Shares, plain: a place of no weight gets nothing, and where it is left out the others get the same. -/
import Derived.Test.YtndpblgedpdjdaaDealPlain
namespace Go.Proofs.Ytndpblgedpdjdaa
set_option linter.unusedVariables false
namespace Sh

/-- The places that are not shut, one behind the other. -/
def opens (n : Nat) (z : Nat → Bool) : List Nat := (List.range n).filter fun i => !z i
theorem mem_opens {n : Nat} {z : Nat → Bool} {i : Nat} : i ∈ opens n z ↔ i < n ∧ z i = false := by
  unfold opens; rw [List.mem_filter, List.mem_range]; simp
theorem opens_succ (n : Nat) (z : Nat → Bool) : opens (n + 1) z = if z n = true then opens n z else opens n z ++ [n] := by
  unfold opens
  rw [List.range_succ, List.filter_append]
  by_cases h : z n = true
  · rw [if_pos h]; simp [h]
  · rw [if_neg h]; simp at h; simp [h]
theorem opens_le (n : Nat) (z : Nat → Bool) : (opens n z).length ≤ n := by
  have := List.length_filter_le (fun i => !z i) (List.range n)
  rw [List.length_range] at this
  exact this
theorem opens_sorted (n : Nat) (z : Nat → Bool) : (opens n z).Pairwise (· < ·) := List.Pairwise.filter _ List.pairwise_lt_range
theorem opens_at {n : Nat} {z : Nat → Bool} {k : Nat} (hk : k < (opens n z).length) : (opens n z)[k] < n ∧ z (opens n z)[k] = false := mem_opens.1 (List.getElem_mem hk)
theorem opens_lt {n : Nat} {z : Nat → Bool} {j k : Nat} (hj : j < (opens n z).length) (hk : k < (opens n z).length) : (opens n z)[j] < (opens n z)[k] ↔ j < k := by
  have h := List.pairwise_iff_getElem.1 (opens_sorted n z)
  constructor
  · intro hlt
    rcases Nat.lt_trichotomy j k with h1 | h1 | h1
    · exact h1
    · subst h1; omega
    · have := h k j hk hj h1; omega
  · exact h j k hj hk
theorem opens_inj {n : Nat} {z : Nat → Bool} {j k : Nat} (hj : j < (opens n z).length) (hk : k < (opens n z).length) (h : (opens n z)[j] = (opens n z)[k]) : j = k := by
  rcases Nat.lt_trichotomy j k with h1 | h1 | h1
  · have := (opens_lt hj hk).2 h1; omega
  · exact h1
  · have := (opens_lt hk hj).2 h1; omega

/-- A number by its place among the open ones. -/
def pick (n : Nat) (z : Nat → Bool) (f : Nat → Int) (k : Nat) : Int := f ((opens n z).getD k 0)
theorem getD_at' (l : List Nat) (k : Nat) (h : k < l.length) : l.getD k 0 = l[k] := by simp [List.getD, h]
theorem pick_at {n : Nat} {z : Nat → Bool} {f : Nat → Int} {k : Nat} (hk : k < (opens n z).length) : pick n z f k = f (opens n z)[k] := by unfold pick; rw [getD_at' _ _ hk]

theorem sm_list (g : Nat → Int) : ∀ (l : List Nat), sm (fun k => g (l.getD k 0)) l.length = (l.map g).sum
  | [] => rfl
  | l@(x :: t) => by
    have key : ∀ (l : List Nat) (a : Nat), sm (fun k => g ((l ++ [a]).getD k 0)) (l ++ [a]).length = sm (fun k => g (l.getD k 0)) l.length + g a := fun l a => by
      rw [List.length_append, List.length_singleton]
      show sm _ l.length + g ((l ++ [a]).getD l.length 0) = _
      have e1 : (l ++ [a]).getD l.length 0 = a := by simp [List.getD]
      rw [e1]
      congr 1
      exact sm_congr fun i hi => by simp [List.getD, List.getElem?_append_left hi]
    have ind : ∀ (m : Nat) (l : List Nat), l.length = m → sm (fun k => g (l.getD k 0)) l.length = (l.map g).sum := fun m => by
      induction m with
      | zero => intro l hl; obtain rfl := List.length_eq_zero_iff.1 hl; rfl
      | succ m ih =>
        intro l hl
        have hne : l ≠ [] := by rintro rfl; cases hl
        obtain ⟨l', a, rfl⟩ : ∃ l' a, l = l' ++ [a] := ⟨l.dropLast, l.getLast hne, (List.dropLast_concat_getLast hne).symm⟩
        rw [key, ih l' (by simpa using hl)]
        simp
    exact ind _ _ rfl

/-- Summed over the open places. -/
theorem sm_opens (g : Nat → Int) (z : Nat → Bool) : ∀ n, sm (pick n z g) (opens n z).length = sm (fun i => if z i = true then 0 else g i) n := fun n => by
  have e : sm (pick n z g) (opens n z).length = ((opens n z).map g).sum := sm_list g (opens n z)
  rw [e]
  induction n with
  | zero => rfl
  | succ n ih =>
    rw [opens_succ]
    show _ = sm (fun i => if z i = true then 0 else g i) n + (if z n = true then 0 else g n)
    have ih := ih (sm_list g (opens n z))
    by_cases h : z n = true
    · rw [if_pos h, if_pos h, ih]; omega
    · rw [if_neg h, if_neg h, List.map_append, List.sum_append, ih]; simp

theorem range_map (l : List Nat) : (List.range l.length).map (fun k => l.getD k 0) = l := by
  apply List.ext_getElem
  · simp
  · intro i h1 h2
    rw [List.getElem_map, List.getElem_range, getD_at' _ _ h2]

/-- A place's rank among the open ones: how many open ones are served ahead. -/
theorem rank_opens {n : Nat} {z : Nat → Bool} {r : Nat → Int} {k : Nat} (hk : k < (opens n z).length) :
    rank (opens n z).length (pick n z r) k = (List.range n).countP fun i => !z i && ahead r i (opens n z)[k] := by
  have e1 : rank (opens n z).length (pick n z r) k = (opens n z).countP fun i => ahead r i (opens n z)[k] := by
    unfold rank
    have h := List.countP_map (p := fun i => ahead r i (opens n z)[k]) (f := fun k => (opens n z).getD k 0) (l := List.range (opens n z).length)
    rw [range_map] at h
    rw [h]
    refine List.countP_congr fun j hj => ?_
    have hj := List.mem_range.1 hj
    simp only [Function.comp_apply]
    rw [getD_at' _ _ hj]
    unfold ahead
    rw [pick_at hj, pick_at hk]
    simp only [decide_eq_true_eq]
    rw [opens_lt hj hk]
  rw [e1]
  unfold opens
  rw [List.countP_filter]
  refine List.countP_congr fun j _ => ?_
  rw [Bool.and_comm]

theorem rank_same {n : Nat} {z : Nat → Bool} {r : Nat → Int} (h0 : ∀ i, i < n → z i = true → r i = 0) {k : Nat} (hk : k < (opens n z).length) (hp : 0 < r (opens n z)[k]) :
    rank (opens n z).length (pick n z r) k = rank n r (opens n z)[k] := by
  rw [rank_opens hk]
  unfold rank
  refine List.countP_congr fun i hi => ?_
  have hi := List.mem_range.1 hi
  rw [Bool.and_eq_true]
  constructor
  · exact fun h => h.2
  · intro h
    refine ⟨?_, h⟩
    rw [ahead_iff] at h
    cases hz : z i with
    | false => rfl
    | true =>
      have := h0 i hi hz
      omega

/-- No more is left than there are places of which something was left out. -/
theorem left_le_pos {t S : Int} {n : Nat} {W : Nat → Int} (hS : S = sm W n) (hS0 : 0 < S) : left t S W n ≤ ((List.range n).countP fun i => decide (0 < rs t S W i) : Nat) := by
  have h := left_mul (t := t) hS
  have hle : ∀ m, sm (rs t S W) m ≤ (S - 1) * ((List.range m).countP fun i => decide (0 < rs t S W i) : Nat) := fun m => by
    induction m with
    | zero => simp [sm]
    | succ m ih =>
      rw [List.range_succ, List.countP_append]
      show sm (rs t S W) m + rs t S W m ≤ _
      have hb := rs_bd (t := t) (W := W) hS0 m
      by_cases hp : 0 < rs t S W m
      · rw [List.countP_cons, if_pos (by simp [hp])]
        simp only [List.countP_nil, Nat.zero_add, Int.natCast_add, Int.mul_add]
        omega
      · rw [List.countP_cons, if_neg (by simp [hp])]
        simp only [List.countP_nil, Nat.add_zero]
        omega
  have h2 := hle n
  generalize ((List.range n).countP fun i => decide (0 < rs t S W i) : Nat) = c at *
  rcases Int.lt_or_le c (left t S W n) with hl | hl
  · have h3 : S * ((c : Int) + 1) ≤ S * left t S W n := Int.mul_le_mul_of_nonneg_left (by omega) (by omega)
    rw [Int.mul_add, Int.mul_one] at h3
    have h4 : (S - 1) * (c : Int) = S * c - c := by rw [Int.sub_mul, Int.one_mul]
    omega
  · exact hl

/-- Of whom nothing was left out, no more is given than the division says. -/
theorem dealt_exact {t S : Int} {n : Nat} {W : Nat → Int} (hS : S = sm W n) (hS0 : 0 < S) {i : Nat} (hi : i < n) (hr : rs t S W i = 0) : dealt t S n W i = q t S W i := by
  have h := left_le_pos (t := t) hS hS0
  have hk : (List.range n).countP (fun j => decide (0 < rs t S W j)) ≤ rank n (rs t S W) i := by
    unfold rank
    refine List.countP_mono_left fun j _ hj => ?_
    rw [ahead_iff]; simp at hj; omega
  unfold dealt
  rw [if_neg (by omega)]; omega

theorem dealt_opens {t S : Int} {n : Nat} {z : Nat → Bool} {W : Nat → Int} (ht : 0 ≤ t) (h0 : ∀ i, i < n → z i = true → W i = 0) (hS : S = sm W n) (hS0 : 0 < S) {k : Nat} (hk : k < (opens n z).length) :
    dealt t S (opens n z).length (pick n z W) k = dealt t S n W (opens n z)[k] := by
  have hsum : sm (pick n z W) (opens n z).length = S := by
    rw [sm_opens, hS]
    exact sm_congr fun i hi => by
      by_cases h : z i = true
      · rw [if_pos h, h0 i hi h]
      · rw [if_neg h]
  have hi := (opens_at hk).1
  have eq : ∀ j (hj : j < (opens n z).length), q t S (pick n z W) j = q t S W (opens n z)[j] := fun j hj => by unfold q; rw [pick_at hj]
  have er : ∀ j, j < (opens n z).length → rs t S (pick n z W) j = pick n z (rs t S W) j := fun j hj => by unfold rs; rw [pick_at hj, pick_at hj]
  by_cases hp : rs t S W (opens n z)[k] = 0
  · rw [dealt_exact hS hS0 hi hp, dealt_exact hsum.symm hS0 hk (by rw [er k hk, pick_at hk]; exact hp), eq k hk]
  · have hb := rs_bd (t := t) (W := W) hS0 (opens n z)[k]
    unfold dealt
    have hl : left t S (pick n z W) (opens n z).length = left t S W n := by
      unfold left
      congr 1
      have e1 : sm (q t S (pick n z W)) (opens n z).length = sm (pick n z (q t S W)) (opens n z).length := sm_congr fun j hj => by rw [eq j hj, pick_at hj]
      rw [e1, sm_opens]
      exact sm_congr fun i hi => by
        by_cases h : z i = true
        · rw [if_pos h]; unfold q; rw [h0 i hi h]; simp
        · rw [if_neg h]
    have hr : rank (opens n z).length (rs t S (pick n z W)) k = rank n (rs t S W) (opens n z)[k] := by
      rw [rank_congr er hk]
      exact rank_same (fun i hi hz => by unfold rs; rw [h0 i hi hz]; simp) hk (by omega)
    rw [eq k hk, hl, hr]

theorem dealt_shut {t S : Int} {n : Nat} {W : Nat → Int} (hS : S = sm W n) (hS0 : 0 < S) {i : Nat} (hi : i < n) (h : W i = 0) : dealt t S n W i = 0 := by
  rw [dealt_exact hS hS0 hi (by unfold rs; rw [h]; simp)]
  unfold q; rw [h]; simp
theorem dealt_nonneg {t S : Int} {n : Nat} {W : Nat → Int} (ht : 0 ≤ t) (hS0 : 0 < S) {i : Nat} (hW : 0 ≤ W i) : 0 ≤ dealt t S n W i := by
  have := q_nonneg ht hS0 hW
  unfold dealt; split <;> omega
/-- No share is more than the total. -/
theorem dealt_le {t S : Int} {n : Nat} {W : Nat → Int} (ht : 0 ≤ t) (hS : S = sm W n) (hS0 : 0 < S) (hW : ∀ i, i < n → 0 ≤ W i) {i : Nat} (hi : i < n) : dealt t S n W i ≤ t := by
  have h := sm_at (f := dealt t S n W) (n := n) (fun j hj => dealt_nonneg ht hS0 (hW j hj)) hi
  rw [dealt_sum hS hS0] at h
  exact h
end Sh

open Sh in
/-- What is dealt to the open places alone. -/
theorem deal_opens (total : Int) (n : Nat) (z : Nat → Bool) (f : Nat → Int) (h0 : ∀ i, i < n → z i = true → f i = 0) (hf : ∀ i, i < n → 0 ≤ f i) {k : Nat} (hk : k < (opens n z).length) :
    deal total (opens n z).length (pick n z f) k = deal total n f (opens n z)[k] := by
  have hb := hold_bd total
  have hw0 : ∀ i, i < n → z i = true → wt (f i) = 0 := fun i hi hz => by rw [h0 i hi hz]; rfl
  have epick : (fun i => wt (pick n z f i)) = pick n z (fun i => wt (f i)) := by funext i; rfl
  have hsum : sm (fun i => wt (pick n z f i)) (opens n z).length = sm (fun i => wt (f i)) n := by
    rw [epick, sm_opens]
    exact sm_congr fun i hi => by
      by_cases h : z i = true
      · rw [if_pos h, hw0 i hi h]
      · rw [if_neg h]
  have hS := smw_bd f n
  unfold deal
  rw [hsum, epick]
  by_cases hs : sm (fun i => wt (f i)) n = 0
  · rw [if_pos hs, if_pos hs]
  · rw [if_neg hs, if_neg hs]
    by_cases ht : 0 ≤ hold total
    · rw [if_pos ht, if_pos ht]
      exact dealt_opens ht hw0 rfl (by omega) hk
    · rw [if_neg ht, if_neg ht]
      rw [dealt_opens (by omega) hw0 rfl (by omega) hk]

open Sh in
theorem deal_abs (total : Int) (n : Nat) (f : Nat → Int) {i : Nat} (hi : i < n) : -1073741824 ≤ deal total n f i ∧ deal total n f i ≤ 1073741824 := by
  have hb := hold_bd total
  have hS := smw_bd f n
  unfold deal
  split
  · omega
  · rename_i hs
    have hW : ∀ j, j < n → 0 ≤ wt (f j) := fun j _ => (wt_bd (f j)).1
    split
    · rename_i ht
      have h1 := dealt_nonneg (S := sm (fun i => wt (f i)) n) (n := n) (W := fun i => wt (f i)) ht (by omega) (hW i hi)
      have h2 := dealt_le (W := fun i => wt (f i)) ht rfl (by omega) hW hi
      omega
    · rename_i ht
      have h1 := dealt_nonneg (S := sm (fun i => wt (f i)) n) (t := -hold total) (n := n) (W := fun i => wt (f i)) (by omega) (by omega) (hW i hi)
      have h2 := dealt_le (t := -hold total) (W := fun i => wt (f i)) (by omega) rfl (by omega) hW hi
      omega

end Go.Proofs.Ytndpblgedpdjdaa
