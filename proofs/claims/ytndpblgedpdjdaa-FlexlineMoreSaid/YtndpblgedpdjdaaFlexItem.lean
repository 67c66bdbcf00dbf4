/- An item of a line: each function of one item, walked once. -/
import Derived.Test.YtndpblgedpdjdaaFlexPlain
import Derived.Test.YtndpblgedpdjdaaFixAdd
import Derived.Test.YtndpblgedpdjdaaPartCore
import Derived.Test.YtndpblgedpdjdaaExt
namespace Go.Proofs.Ytndpblgedpdjdaa
open Go.RowKit
set_option linter.unusedSimpArgs false
attribute [local go_sem] cell?_ext frozen?_ext

/-- An item as the program has it. -/
def It.val (t : It) : Value := .agg #[.int .i64 t.base, .int .i64 t.least, .int .i64 t.most, .int .i64 t.margin, .int .i64 t.inner, .int .i64 t.grow, .int .i64 t.shrink]


set_option maxHeartbeats 400000 in
theorem up_any (x : Int) (w : World) : Calls Try.prog 52 #[.int .i64 x] w fun e w' => e = .returned (.int .i64 (wt x)) ∧ w = w' := by
  go_enter Try.func52, Try.ntmps52
  go_wp2_with fail
  refine (Hold_any x _).mono ?_; rintro e w' ⟨rfl, rfl⟩
  go_wp2
  go_ret
  exact ⟨ret_int (wt_max x), rfl⟩

set_option maxHeartbeats 400000 in
theorem clamped_any (t : It) (n : Int) (w : World) : Calls Try.prog 37 #[t.val, .int .i64 n] w fun e w' => e = .returned (.int .i64 (t.clamp n)) ∧ Below w.heap.size w w' := by
  unfold It.val It.clamp
  by_cases hm : 0 ≤ t.most
  · rw [if_pos hm]
    go_enter Try.func37, Try.ntmps37
    go_wp2
    go_ret
    exact ⟨rfl, by (repeat (first | with_reducible exact Below.refl _ _ | with_reducible refine below_set ?_ (by first | (simp; done) | (simp; omega)) _ | with_reducible refine below_alloc ?_ _ | with_reducible refine below_to_ext ?_ _ | with_reducible refine below_drawn ?_ _))⟩
  · rw [if_neg hm]
    go_enter Try.func37, Try.ntmps37
    go_wp2
    go_ret
    exact ⟨rfl, by (repeat (first | with_reducible exact Below.refl _ _ | with_reducible refine below_set ?_ (by first | (simp; done) | (simp; omega)) _ | with_reducible refine below_alloc ?_ _ | with_reducible refine below_to_ext ?_ _ | with_reducible refine below_drawn ?_ _))⟩

set_option maxHeartbeats 400000 in
theorem grows_any (t : It) (w : World) : Calls Try.prog 47 #[t.val] w fun e w' => e = .returned (.int .i64 (t.wei true)) ∧ Below w.heap.size w w' := by
  unfold It.val
  go_enter Try.func47, Try.ntmps47
  go_wp2
  go_ret
  exact ⟨rfl, by (repeat (first | with_reducible exact Below.refl _ _ | with_reducible refine below_set ?_ (by first | (simp; done) | (simp; omega)) _ | with_reducible refine below_alloc ?_ _ | with_reducible refine below_to_ext ?_ _ | with_reducible refine below_drawn ?_ _))⟩

set_option maxHeartbeats 400000 in
theorem shrinks_any (t : It) (w : World) : Calls Try.prog 46 #[t.val] w fun e w' => e = .returned (.int .i64 (t.wei false)) ∧ Below w.heap.size w w' := by
  have e : t.wei false = partH t.inner t.shrink 1000 := by unfold It.wei; rw [if_neg (by simp)]
  rw [e]
  unfold It.val
  go_enter Try.func46, Try.ntmps46
  go_wp2_with fail
  refine (Part_any t.inner t.shrink 1000 _).mono ?_; rintro e w' ⟨rfl, rfl⟩
  go_wp2
  go_ret
  exact ⟨rfl, by (repeat (first | with_reducible exact Below.refl _ _ | with_reducible refine below_set ?_ (by first | (simp; done) | (simp; omega)) _ | with_reducible refine below_alloc ?_ _ | with_reducible refine below_to_ext ?_ _ | with_reducible refine below_drawn ?_ _))⟩

set_option maxHeartbeats 400000 in
theorem factor_any (t : It) (g : Bool) (w : World) : Calls Try.prog 43 #[t.val, .bool g] w fun e w' => e = .returned (.int .i64 (t.fac g)) ∧ Below w.heap.size w w' := by
  unfold It.val
  cases g
  all_goals
    go_enter Try.func43, Try.ntmps43
    go_wp2
    go_ret
    exact ⟨rfl, by (repeat (first | with_reducible exact Below.refl _ _ | with_reducible refine below_set ?_ (by first | (simp; done) | (simp; omega)) _ | with_reducible refine below_alloc ?_ _ | with_reducible refine below_to_ext ?_ _ | with_reducible refine below_drawn ?_ _))⟩

set_option maxHeartbeats 400000 in
theorem size_any (x : Int) (h1 : -1152921504606846976 ≤ x) (h2 : x ≤ 1152921504606846976) (w : World) : Calls Try.prog 45 #[.int .i64 x] w fun e w' => e = .returned (.int .i64 (Fx.ab x)) ∧ w = w' := by
  go_enter Try.func45, Try.ntmps45
  go_wp2
  go_ret
  exact ⟨rfl, rfl⟩

set_option maxHeartbeats 400000 in
theorem freezes_any (b s : Int) (w : World) : Calls Try.prog 29 #[.int .i64 b, .int .i64 s] w fun e w' => e = .returned (.bool (Fx.frz b s)) ∧ w = w' := by
  unfold Fx.frz
  by_cases h1 : 0 < s
  · rw [if_pos h1]
    go_enter Try.func29, Try.ntmps29
    go_wp2
    go_ret
    exact ⟨rfl, rfl⟩
  · rw [if_neg h1]
    by_cases h2 : s < 0
    · rw [if_pos h2]
      go_enter Try.func29, Try.ntmps29
      go_wp2
      go_ret
      exact ⟨rfl, rfl⟩
    · rw [if_neg h2]
      go_enter Try.func29, Try.ntmps29
      go_wp2
      go_ret
      exact ⟨rfl, rfl⟩

end Go.Proofs.Ytndpblgedpdjdaa
