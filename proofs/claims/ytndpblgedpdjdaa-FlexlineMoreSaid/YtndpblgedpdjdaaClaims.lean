/- Claims, plain: sorted claims are the places in the order in which they are served. -/
import Derived.Test.YtndpblgedpdjdaaStablePlain
import Derived.Test.YtndpblgedpdjdaaSharePlain
namespace Go.Proofs.Ytndpblgedpdjdaa
open Go.Sort Sh
set_option linter.unusedVariables false

/-- Claim x is served ahead of claim y: more was left out, or it stands ahead. -/
def Lx (x y : Int × Int) : Bool := decide (y.2 < x.2 ∨ (x.2 = y.2 ∧ x.1 < y.1))
theorem Lx_swo : SWO Lx where
  irrefl x := by simp [Lx]
  trans x y z h1 h2 := by simp only [Lx, decide_eq_true_eq] at *; omega
  ntrans x y z h1 h2 := by simp only [Lx, decide_eq_false_iff_not] at *; omega

theorem claims_sorted {n : Nat} {r : Nat → Int} {d d' : Array (Int × Int)} (hd : d.size = n) (he : ∀ i, i < n → d[i]! = ((i : Int), r i)) (hp : PermIn 0 n d d') (hs : SortedIn Lx 0 n d') :
    ∃ s : List Nat, s.Perm (List.range n) ∧ s.Pairwise (fun a b => Sh.ahead r a b = true) ∧ ∀ k, k < n → s[k]? = some (d'[k]!).1.toNat ∧ (d'[k]!).1.toNat < n ∧ d'[k]! = (((d'[k]!).1.toNat : Int), r (d'[k]!).1.toNat) := by
  have hall := permIn_all d d' 0 n (fun v => v.1.toNat < n ∧ v = ((v.1.toNat : Int), r v.1.toNat)) (by omega) hp (fun i _ hi => by
    rw [he i hi]; exact ⟨by simpa using hi, by simp⟩)
  have hperm : ((List.range n).map fun k => (d'[k]!).1.toNat).Perm (List.range n) := by
    have h := hp.2.2
    rw [extract_toList _ _ _ (by rw [hp.1]; omega), extract_toList _ _ _ (by omega)] at h
    have h := h.map (fun v : Int × Int => v.1.toNat)
    rw [List.map_map, List.map_map, ← List.range_eq_range', Nat.sub_zero] at h
    have e : (List.range n).map ((fun v : Int × Int => v.1.toNat) ∘ fun i => d[i]!) = List.range n := by
      conv => rhs; rw [← List.map_id (List.range n)]
      refine List.map_congr_left fun i hi => ?_
      simp only [Function.comp_apply, he i (List.mem_range.1 hi), Int.toNat_natCast, id_eq]
    rw [e] at h
    exact h
  refine ⟨_, hperm, ?_, fun k hk => ⟨?_, (hall k (Nat.zero_le _) hk).1, (hall k (Nat.zero_le _) hk).2⟩⟩
  · have hnd : ((List.range n).map fun k => (d'[k]!).1.toNat).Nodup := hperm.nodup_iff.2 List.nodup_range
    rw [List.pairwise_iff_getElem]
    intro i j hi hj hij
    have hne : ((List.range n).map fun k => (d'[k]!).1.toNat)[i] ≠ ((List.range n).map fun k => (d'[k]!).1.toNat)[j] := fun h => by
      have := (List.getElem_inj hnd).1 h; omega
    simp only [List.length_map, List.length_range] at hi hj
    simp only [List.getElem_map, List.getElem_range] at hne ⊢
    have h1 := (hall i (Nat.zero_le _) hi).2
    have h2 := (hall j (Nat.zero_le _) hj).2
    have h3 := hs i j (Nat.zero_le _) hij hj
    rw [h1, h2] at h3
    generalize (d'[i]!).1.toNat = x at *
    generalize (d'[j]!).1.toNat = y at *
    rw [Sh.ahead_iff]
    simp only [Lx, decide_eq_false_iff_not] at h3
    omega
  · rw [List.getElem?_map, List.getElem?_range hk]; rfl

/-- What stands in the shares behind k of them have got one more. -/
def given (t S : Int) (W : Nat → Int) (s : List Nat) (k i : Nat) : Int := q t S W i + if i ∈ s.take k then 1 else 0
theorem given_zero (t S : Int) (W : Nat → Int) (s : List Nat) (i : Nat) : given t S W s 0 i = q t S W i := by unfold given; simp
theorem given_step {t S : Int} {W : Nat → Int} {s : List Nat} {k x : Nat} (hs : s.Nodup) (hx : s[k]? = some x) (i : Nat) : given t S W s (k + 1) i = if i = x then given t S W s k x + 1 else given t S W s k i := by
  have hk : k < s.length := (List.getElem?_eq_some_iff.1 hx).1
  have ht : s.take (k + 1) = s.take k ++ [x] := by rw [List.take_add_one, hx]; rfl
  have hnx : x ∉ s.take k := fun h => by
    obtain ⟨j, hj, e⟩ := List.mem_iff_getElem.1 h
    rw [List.length_take] at hj
    rw [List.getElem_take] at e
    have e2 := (List.getElem?_eq_some_iff.1 hx).2
    have := (List.getElem_inj hs).1 (e.trans e2.symm)
    omega
  unfold given
  rw [ht]
  by_cases e : i = x
  · subst e
    rw [if_pos rfl, if_pos (by simp), if_neg hnx]; omega
  · rw [if_neg e]
    have : i ∈ s.take k ++ [x] ↔ i ∈ s.take k := by simp [e]
    simp only [this]
theorem given_all {t S : Int} {n : Nat} {W : Nat → Int} {s : List Nat} (hp : s.Perm (List.range n)) (hs : s.Pairwise fun a b => Sh.ahead (rs t S W) a b = true) {L : Nat} (hL : left t S W n = L) (i : Nat) (hi : i < n) :
    given t S W s L i = dealt t S n W i := by
  unfold given dealt
  have := used_take hp hs L i hi
  rw [hL]
  by_cases h : rank n (rs t S W) i < L
  · rw [if_pos (this.2 h), if_pos (by omega)]
  · rw [if_neg (fun x => h (this.1 x)), if_neg (by omega)]

end Go.Proofs.Ytndpblgedpdjdaa
