/- Struts: Of, Join, Worth, and the reference's; each walked once. -/
import Derived.Test.YtppgpejneninnaaFixAdd
import Derived.Test.YtppgpejneninnaaExt
namespace Go.Proofs.Ytppgpejneninnaa
open Go.RowKit
set_option linter.unusedSimpArgs false

def mx (a b : Int) : Int := if a < b then b else a
def mn (a b : Int) : Int := if b < a then b else a
theorem hold_nonneg (d : Int) : 0 ≤ hold d ↔ 0 ≤ d := by unfold hold; split <;> (try split) <;> omega
theorem fold_mx (a b : Int) : (if a < b then b else a) = mx a b := rfl
theorem fold_mn (a b : Int) : (if b < a then b else a) = mn a b := rfl
attribute [local go_sem] cell?_ext frozen?_ext fold_mx fold_mn

set_option maxHeartbeats 400000 in
theorem Of_any (m : Int) (w : World) :
    Calls Try.prog 12 #[.int .i64 m] w fun e w' =>
      e = .returned (.agg #[.int .i64 (mx (hold m) 0), .int .i64 (mn (hold m) 0)]) ∧ Below w.heap.size w w' := by
  go_enter Try.func12, Try.ntmps12
  go_wp2_with fail
  refine (Hold_any m _).mono ?_; rintro e w' ⟨rfl, rfl⟩
  go_wp2
  refine bodyPost_ret (v := .agg #[.int .i64 (mx (hold m) 0), .int .i64 (mn (hold m) 0)]) (by simp [results, Try.results12, go_sem]) rfl ⟨rfl, ?_⟩
  repeat (first | exact Below.refl _ _ | with_reducible refine below_set ?_ (by first | (simp; done) | (simp; omega)) _ | with_reducible refine below_alloc ?_ _ | with_reducible refine below_to_ext ?_ _ | with_reducible refine below_drawn ?_ _)

set_option maxHeartbeats 400000 in
theorem Join_any (a b c d : Int) (w : World) :
    Calls Try.prog 8 #[.agg #[.int .i64 a, .int .i64 b], .agg #[.int .i64 c, .int .i64 d]] w fun e w' =>
      e = .returned (.agg #[.int .i64 (mx (hold a) (hold c)), .int .i64 (mn (hold b) (hold d))]) ∧ Below w.heap.size w w' := by
  go_enter Try.func8, Try.ntmps8
  go_wp2_with fail
  refine wp_region_ext_tail 15 (by kernel_rfl) (by kernel_rfl) ?_
  simp only [List.take_succ_cons, List.take_zero, List.drop_succ_cons, List.drop_zero]
  repeat (go_big_quiet_step ((go_at_call 18; exact quiet_ext_same (Hold_any _ _))))
  refine wpQuiet_nil ?_
  rintro _ ⟨u, rfl⟩
  go_wp2
  refine bodyPost_ret (v := .agg #[.int .i64 (mx (hold a) (hold c)), .int .i64 (mn (hold b) (hold d))]) (by simp [results, Try.results8, go_sem]) rfl ⟨rfl, ?_⟩
  repeat (first | exact Below.refl _ _ | with_reducible refine below_set ?_ (by first | (simp; done) | (simp; omega)) _ | with_reducible refine below_alloc ?_ _ | with_reducible refine below_to_ext ?_ _ | with_reducible refine below_drawn ?_ _)

set_option maxHeartbeats 400000 in
theorem Worth_any (a b : Int) (w : World) :
    Calls Try.prog 10 #[.agg #[.int .i64 a, .int .i64 b]] w fun e w' => e = .returned (.int .i64 (addH a b)) ∧ Below w.heap.size w w' := by
  go_enter Try.func10, Try.ntmps10
  go_wp2_with fail
  refine (Add_any a b _).mono ?_; rintro e w' ⟨rfl, rfl⟩
  go_wp2
  go_ret
  refine ⟨rfl, ?_⟩
  repeat (first | exact Below.refl _ _ | with_reducible refine below_set ?_ (by first | (simp; done) | (simp; omega)) _ | with_reducible refine below_alloc ?_ _ | with_reducible refine below_to_ext ?_ _ | with_reducible refine below_drawn ?_ _)

set_option maxHeartbeats 400000 in
theorem two_any (a b : Int) (w : World) :
    Calls Try.prog 7 #[.agg #[.int .i64 a, .int .i64 b]] w fun e w' => e = .returned (.agg #[.int .i64 a, .int .i64 b]) ∧ Below w.heap.size w w' := by
  go_enter Try.func7, Try.ntmps7
  go_wp2
  refine bodyPost_ret (v := .agg #[.int .i64 a, .int .i64 b]) (by simp [results, Try.results7, go_sem]) rfl ⟨rfl, ?_⟩
  repeat (first | exact Below.refl _ _ | with_reducible refine below_set ?_ (by first | (simp; done) | (simp; omega)) _ | with_reducible refine below_alloc ?_ _ | with_reducible refine below_to_ext ?_ _ | with_reducible refine below_drawn ?_ _)

set_option maxHeartbeats 400000 in
theorem RWorth_any (a b : Int) (w : World) :
    Calls Try.prog 11 #[.agg #[.int .i64 a, .int .i64 b]] w fun e w' => e = .returned (.int .i64 (addH a b)) ∧ Below w.heap.size w w' := by
  have h1 := hold_bd a
  have h2 := hold_bd b
  go_enter Try.func11, Try.ntmps11
  go_wp2_with fail
  refine wp_region_ext (by kernel_rfl) (by kernel_rfl) ?_
  repeat (go_big_quiet_step ((go_at_call 17; exact quiet_ext_same (RHold_any _ _))))
  refine wpQuiet_nil ?_
  rintro _ ⟨u, rfl⟩
  go_wp2
  go_ret
  refine ⟨rfl, ?_⟩
  repeat (first | exact Below.refl _ _ | with_reducible refine below_set ?_ (by first | (simp; done) | (simp; omega)) _ | with_reducible refine below_alloc ?_ _ | with_reducible refine below_to_ext ?_ _ | with_reducible refine below_drawn ?_ _)

set_option maxHeartbeats 400000 in
theorem ROf_any (m : Int) (w : World) :
    Calls Try.prog 13 #[.int .i64 m] w fun e w' =>
      e = .returned (.agg #[.int .i64 (mx (hold m) 0), .int .i64 (mn (hold m) 0)]) ∧ Below w.heap.size w w' := by
  by_cases hm : 0 ≤ m
  · have e1 : mx (hold m) 0 = hold m := by have := (hold_nonneg m).2 hm; unfold mx; split <;> omega
    have e2 : mn (hold m) 0 = 0 := by have := (hold_nonneg m).2 hm; unfold mn; split <;> omega
    rw [e1, e2]; clear e1 e2
    go_enter Try.func13, Try.ntmps13
    go_wp2_with fail
    refine (RHold_any m _).mono ?_; rintro e w' ⟨rfl, rfl⟩
    go_wp2
    refine bodyPost_ret (v := .agg #[.int .i64 (hold m), .int .i64 0]) (by simp [results, Try.results13, go_sem]) rfl ⟨rfl, ?_⟩
    repeat (first | exact Below.refl _ _ | with_reducible refine below_set ?_ (by first | (simp; done) | (simp; omega)) _ | with_reducible refine below_alloc ?_ _ | with_reducible refine below_to_ext ?_ _ | with_reducible refine below_drawn ?_ _)
  · have hn : ¬ 0 ≤ hold m := fun h => hm ((hold_nonneg m).1 h)
    have e1 : mx (hold m) 0 = 0 := by unfold mx; split <;> omega
    have e2 : mn (hold m) 0 = hold m := by unfold mn; split <;> omega
    rw [e1, e2]; clear e1 e2 hn
    go_enter Try.func13, Try.ntmps13
    go_wp2_with fail
    refine (RHold_any m _).mono ?_; rintro e w' ⟨rfl, rfl⟩
    go_wp2
    refine bodyPost_ret (v := .agg #[.int .i64 0, .int .i64 (hold m)]) (by simp [results, Try.results13, go_sem]) rfl ⟨rfl, ?_⟩
    repeat (first | exact Below.refl _ _ | with_reducible refine below_set ?_ (by first | (simp; done) | (simp; omega)) _ | with_reducible refine below_alloc ?_ _ | with_reducible refine below_to_ext ?_ _ | with_reducible refine below_drawn ?_ _)

end Go.Proofs.Ytppgpejneninnaa
