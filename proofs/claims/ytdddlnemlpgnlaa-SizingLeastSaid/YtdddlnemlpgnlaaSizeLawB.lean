/- Sizing: kept twice it stays; no box is smaller than what is around it; a fixed width. -/
import Derived.Test.YtdddlnemlpgnlaaSizePKeep
namespace Go.Proofs.Ytdddlnemlpgnlaa
open Go.RowKit
set_option linter.unusedSimpArgs false
set_option linter.unusedVariables false
attribute [local go_sem] cell?_ext frozen?_ext lt_size_ext

theorem pr_bd (c : Cs) (a b : Nat) : -1073741824 ≤ c.pr a b ∧ c.pr a b ≤ 1073741824 := hold_bd _
theorem pad_nonneg (c : Cs) (i : Nat) : 0 ≤ c.pad i := by unfold Cs.pad; omega
theorem edg_nonneg (c : Cs) (i : Nat) : 0 ≤ c.edg i := by unfold Cs.edg; omega
theorem addH_nonneg {a b : Int} (ha : 0 ≤ a) (hb : 0 ≤ b) : 0 ≤ addH a b := (hold_nonneg _).2 (by have h1 := (hold_nonneg a).2 ha; have h2 := (hold_nonneg b).2 hb; omega)
theorem pr_nonneg (c : Cs) (a b : Nat) : 0 ≤ c.pr a b := addH_nonneg (addH_nonneg (pad_nonneg c a) (pad_nonneg c b)) (addH_nonneg (edg_nonneg c a) (edg_nonneg c b))
theorem box_bd (c : Cs) (n x : Int) (hx : -1073741824 ≤ x ∧ x ≤ 1073741824) : -1073741824 ≤ c.box n x ∧ c.box n x ≤ 1073741824 := by
  unfold Cs.box
  split
  · have := hold_bd n; omega
  · exact hold_bd _
theorem lea_bd (c : Cs) : -1073741824 ≤ c.lea ∧ c.lea ≤ 1073741824 := by unfold Cs.lea; have := hold_bd (c.n 57); omega
theorem mos_bd (c : Cs) : -1073741824 ≤ c.mos ∧ c.mos ≤ 1073741824 := by unfold Cs.mos; have := hold_bd (c.n 58); omega
theorem fit_bd (c : Cs) : -1073741824 ≤ c.fit ∧ c.fit ≤ 1073741824 := by
  unfold Cs.fit
  have h1 := lea_bd c
  have h2 := mos_bd c
  have h3 : -1073741824 ≤ c.fre := by unfold Cs.fre; have := (pr_bd c 3 1).1; omega
  omega
theorem sayW_bd (c : Cs) (k n : Int) : -1073741824 ≤ (c.sayW k n).1 ∧ (c.sayW k n).1 ≤ 1073741824 := by
  unfold Cs.sayW
  split
  · exact box_bd c _ _ (pr_bd c 3 1)
  · split
    · exact lea_bd c
    · split
      · exact mos_bd c
      · split
        · exact fit_bd c
        · exact ⟨by decide, by decide⟩
theorem sayH_bd (c : Cs) (k n : Int) : -1073741824 ≤ (c.sayH k n).1 ∧ (c.sayH k n).1 ≤ 1073741824 := by
  unfold Cs.sayH
  split
  · exact box_bd c _ _ (pr_bd c 0 2)
  · split
    · exact box_bd c _ _ (pr_bd c 0 2)
    · exact ⟨by decide, by decide⟩
theorem hold_same {n : Int} (h : -1073741824 ≤ n ∧ n ≤ 1073741824) : hold n = n := by unfold hold; (repeat' split) <;> omega
theorem keepW_keepW (c : Cs) (n : Int) : c.keepW (c.keepW n) = c.keepW n := by
  unfold Cs.keepW
  rw [hold_same (keepF_bd (sayW_bd c _ _) (sayW_bd c _ _) (hold_bd n) (pr_bd c 3 1)), keepF_keepF]
theorem keepH_keepH (c : Cs) (n : Int) : c.keepH (c.keepH n) = c.keepH n := by
  unfold Cs.keepH
  rw [hold_same (keepF_bd (sayH_bd c _ _) (sayH_bd c _ _) (hold_bd n) (pr_bd c 0 2)), keepF_keepF]
theorem keepF_ge (hi lo : Int × Bool) (n x : Int) : x ≤ keepF hi lo n x := by unfold keepF; omega
theorem keepW_ge (c : Cs) (n : Int) : c.pr 3 1 ≤ c.keepW n := keepF_ge _ _ _ _
theorem keepH_ge (c : Cs) (n : Int) : c.pr 0 2 ≤ c.keepH n := keepF_ge _ _ _ _
theorem wide_ge (c : Cs) : c.pr 3 1 ≤ c.wide := by
  unfold Cs.wide
  split
  · exact keepW_ge c _
  · split
    · exact keepW_ge c _
    · exact keepW_ge c _
theorem hig_ge (c : Cs) (w m : Int) : c.pr 0 2 ≤ c.hig w m := by
  unfold Cs.hig
  split
  · rename_i h
    unfold Cs.giv at h ⊢
    split at h
    · rename_i h2
      rw [if_pos h2]
      exact keepH_ge c _
    · simp at h
  · split
    · exact keepH_ge c _
    · exact keepH_ge c _

/-- A case of a fixed width, with its border or without. -/
def Cs.fixed (c : Cs) (n : Int) (b : Bool) : Cs := ⟨fun j => if j = 2 then 1 else if j = 3 then n else if j = 6 then 0 else if j = 7 then 0 else if j = 10 then 6 else if j = 11 then 0 else c.n j, b, c.s⟩
theorem fixed_pr (c : Cs) (n : Int) (b : Bool) : (c.fixed n b).pr 3 1 = c.pr 3 1 := rfl
theorem fixed_keep (c : Cs) (n : Int) (b : Bool) (m : Int) : (c.fixed n b).keepW m = max (hold m) (c.pr 3 1) := by
  have h1 : (c.fixed n b).sayW ((c.fixed n b).n 10) ((c.fixed n b).n 11) = (0, false) := rfl
  have h2 : (c.fixed n b).sayW ((c.fixed n b).n 6) ((c.fixed n b).n 7) = (0, false) := rfl
  unfold Cs.keepW
  rw [h1, h2, fixed_pr]
  unfold keepF
  simp
theorem fixed_wide (c : Cs) (n : Int) (b : Bool) : (c.fixed n b).wide = max (hold ((c.fixed n b).box (hold n) (c.pr 3 1))) (c.pr 3 1) := by
  have h1 : (c.fixed n b).sayW ((c.fixed n b).n 2) ((c.fixed n b).n 3) = ((c.fixed n b).box (hold n) (c.pr 3 1), true) := rfl
  unfold Cs.wide
  rw [h1, if_pos rfl, fixed_keep]
theorem fixed_true (c : Cs) (n : Int) (h1 : c.pr 3 1 ≤ n) (h2 : n ≤ 536870912) : (c.fixed n true).wide = n := by
  have h0 := pr_nonneg c 3 1
  have e : (c.fixed n true).box (hold n) (c.pr 3 1) = max (hold (hold n)) (c.pr 3 1) := if_pos rfl
  have hn : hold n = n := hold_same (by omega)
  rw [fixed_wide, e, hn, hn]
  have hm : max n (c.pr 3 1) = n := by omega
  rw [hm, hn, hm]
theorem fixed_false (c : Cs) (n : Int) (h1 : c.pr 3 1 ≤ n) (h2 : n ≤ 536870912) : (c.fixed n false).wide = n + c.pr 3 1 := by
  have h0 := pr_nonneg c 3 1
  have e : (c.fixed n false).box (hold n) (c.pr 3 1) = addH (max (hold n) 0) (c.pr 3 1) := if_neg (fun h => by cases h)
  have hn : hold n = n := hold_same (by omega)
  have hm : max n 0 = n := by omega
  have hp : hold (c.pr 3 1) = c.pr 3 1 := hold_same (pr_bd c 3 1)
  rw [fixed_wide, e, hn, hm]
  unfold addH
  rw [hn, hp, hold_same (n := n + c.pr 3 1) (by omega), hold_same (n := n + c.pr 3 1) (by omega)]
  omega

end Go.Proofs.Ytdddlnemlpgnlaa
