/- An item of a line, by the reference: each function of one item, walked once. -/
import Derived.Test.YtndpblgedpdjdaaFlexHeld
import Derived.Test.YtndpblgedpdjdaaRPart
import Derived.Test.YtndpblgedpdjdaaShareWalks
namespace Go.Proofs.Ytndpblgedpdjdaa
open Go.RowKit
set_option linter.unusedSimpArgs false
attribute [local go_sem] cell?_ext frozen?_ext

set_option maxHeartbeats 4000000 in
theorem RHeld_item (t : It) (w : World) : Calls Try.prog 16 #[t.val] w fun e w' => e = .returned t.held.val ∧ Below w.heap.size w w' := by
  unfold It.val It.held
  go_enter Try.func16, Try.ntmps16
  go_wp2_with fail
  refine wp_region_ext_tail 22 (by kernel_rfl) (by kernel_rfl) ?_
  simp only [List.take_succ_cons, List.take_zero, List.drop_succ_cons, List.drop_zero]
  repeat (go_big_quiet_step ((first | (go_at_call 21; exact quiet_ext_same (RHold_any _ _)) | (go_at_call 35; exact quiet_ext_same (RWeight_any _ _)))))
  refine wpQuiet_nil ?_
  rintro _ ⟨u, rfl⟩
  go_wp2
  refine bodyPost_ret (v := .agg #[.int .i64 (hold t.base), .int .i64 (wt t.least), .int .i64 (hold t.most), .int .i64 (hold t.margin), .int .i64 (wt t.inner), .int .i64 (wt t.grow), .int .i64 (wt t.shrink)]) (by simp [results, Try.results16, go_sem]) rfl ⟨rfl, ?_⟩
  (repeat (first | with_reducible exact Below.refl _ _ | with_reducible refine below_set ?_ (by first | (simp; done) | (simp; omega)) _ | with_reducible refine below_alloc ?_ _ | with_reducible refine below_to_ext ?_ _ | with_reducible refine below_drawn ?_ _))

/-- The reference's clamp. -/
def clampR (t : It) (n : Int) : Int := if (if 0 ≤ t.most ∧ t.most < n then t.most else n) < t.least then t.least else if 0 ≤ t.most ∧ t.most < n then t.most else n
theorem clampR_eq (t : It) (n : Int) : clampR t n = t.clamp n := by
  unfold clampR It.clamp
  by_cases h : 0 ≤ t.most ∧ t.most < n
  · simp only [h, and_self, if_true]; split <;> omega
  · rw [if_neg h]; split <;> split <;> omega

set_option maxHeartbeats 400000 in
theorem RClamp_any (t : It) (n : Int) (w : World) : Calls Try.prog 18 #[t.val, .int .i64 n] w fun e w' => e = .returned (.int .i64 (t.clamp n)) ∧ Below w.heap.size w w' := by
  rw [← clampR_eq]
  unfold It.val clampR
  by_cases hm : 0 ≤ t.most
  · by_cases hn : t.most < n
    · have hp : 0 ≤ t.most ∧ t.most < n := ⟨hm, hn⟩
      simp only [if_pos hp]; clear hp
      by_cases hl : t.most < t.least
      · rw [if_pos hl]
        go_enter Try.func18, Try.ntmps18
        go_wp2
        go_ret
        exact ⟨rfl, by (repeat (first | with_reducible exact Below.refl _ _ | with_reducible refine below_set ?_ (by first | (simp; done) | (simp; omega)) _ | with_reducible refine below_alloc ?_ _ | with_reducible refine below_to_ext ?_ _ | with_reducible refine below_drawn ?_ _))⟩
      · rw [if_neg hl]
        go_enter Try.func18, Try.ntmps18
        go_wp2
        go_ret
        exact ⟨rfl, by (repeat (first | with_reducible exact Below.refl _ _ | with_reducible refine below_set ?_ (by first | (simp; done) | (simp; omega)) _ | with_reducible refine below_alloc ?_ _ | with_reducible refine below_to_ext ?_ _ | with_reducible refine below_drawn ?_ _))⟩
    · have hp : ¬ (0 ≤ t.most ∧ t.most < n) := fun h => hn h.2
      simp only [if_neg hp]; clear hp
      by_cases hl : n < t.least
      · rw [if_pos hl]
        go_enter Try.func18, Try.ntmps18
        go_wp2
        go_ret
        exact ⟨rfl, by (repeat (first | with_reducible exact Below.refl _ _ | with_reducible refine below_set ?_ (by first | (simp; done) | (simp; omega)) _ | with_reducible refine below_alloc ?_ _ | with_reducible refine below_to_ext ?_ _ | with_reducible refine below_drawn ?_ _))⟩
      · rw [if_neg hl]
        go_enter Try.func18, Try.ntmps18
        go_wp2
        go_ret
        exact ⟨rfl, by (repeat (first | with_reducible exact Below.refl _ _ | with_reducible refine below_set ?_ (by first | (simp; done) | (simp; omega)) _ | with_reducible refine below_alloc ?_ _ | with_reducible refine below_to_ext ?_ _ | with_reducible refine below_drawn ?_ _))⟩
  · have hp : ¬ (0 ≤ t.most ∧ t.most < n) := fun h => hm h.1
    simp only [if_neg hp]; clear hp
    by_cases hl : n < t.least
    · rw [if_pos hl]
      go_enter Try.func18, Try.ntmps18
      go_wp2
      go_ret
      exact ⟨rfl, by (repeat (first | with_reducible exact Below.refl _ _ | with_reducible refine below_set ?_ (by first | (simp; done) | (simp; omega)) _ | with_reducible refine below_alloc ?_ _ | with_reducible refine below_to_ext ?_ _ | with_reducible refine below_drawn ?_ _))⟩
    · rw [if_neg hl]
      go_enter Try.func18, Try.ntmps18
      go_wp2
      go_ret
      exact ⟨rfl, by (repeat (first | with_reducible exact Below.refl _ _ | with_reducible refine below_set ?_ (by first | (simp; done) | (simp; omega)) _ | with_reducible refine below_alloc ?_ _ | with_reducible refine below_to_ext ?_ _ | with_reducible refine below_drawn ?_ _))⟩

set_option maxHeartbeats 400000 in
theorem RWish_any (t : It) (w : World) : Calls Try.prog 15 #[t.val] w fun e w' => e = .returned (.int .i64 t.wish) ∧ Below w.heap.size w w' := by
  have hc := fun w => RClamp_any t t.base w
  unfold It.val at hc ⊢
  go_enter Try.func15, Try.ntmps15
  go_wp2_with fail
  refine (hc _).mono ?_; rintro e w' ⟨rfl, hb⟩
  obtain ⟨u, rfl⟩ := ext_of_below hb; clear hb
  go_wp2
  go_ret
  exact ⟨rfl, by (repeat (first | with_reducible exact Below.refl _ _ | with_reducible refine below_set ?_ (by first | (simp; done) | (simp; omega)) _ | with_reducible refine below_alloc ?_ _ | with_reducible refine below_to_ext ?_ _ | with_reducible refine below_drawn ?_ _))⟩

set_option maxHeartbeats 400000 in
theorem RFactor_any (t : It) (g : Bool) (w : World) : Calls Try.prog 48 #[t.val, .bool g] w fun e w' => e = .returned (.int .i64 (t.fac g)) ∧ Below w.heap.size w w' := by
  unfold It.val
  cases g
  all_goals
    go_enter Try.func48, Try.ntmps48
    go_wp2
    go_ret
    exact ⟨rfl, by (repeat (first | with_reducible exact Below.refl _ _ | with_reducible refine below_set ?_ (by first | (simp; done) | (simp; omega)) _ | with_reducible refine below_alloc ?_ _ | with_reducible refine below_to_ext ?_ _ | with_reducible refine below_drawn ?_ _))⟩

set_option maxHeartbeats 400000 in
theorem RWeight_item (t : It) (g : Bool) (w : World) : Calls Try.prog 32 #[t.val, .bool g] w fun e w' => e = .returned (.int .i64 (t.wei g)) ∧ Below w.heap.size w w' := by
  cases g
  · have e : t.wei false = partH t.inner t.shrink 1000 := by unfold It.wei; rw [if_neg (by simp)]
    rw [e]
    unfold It.val
    go_enter Try.func32, Try.ntmps32
    go_wp2_with fail
    refine (RPart_any t.inner t.shrink 1000 _).mono ?_; rintro e w' ⟨rfl, rfl⟩
    go_wp2
    go_ret
    exact ⟨rfl, by (repeat (first | with_reducible exact Below.refl _ _ | with_reducible refine below_set ?_ (by first | (simp; done) | (simp; omega)) _ | with_reducible refine below_alloc ?_ _ | with_reducible refine below_to_ext ?_ _ | with_reducible refine below_drawn ?_ _))⟩
  · unfold It.val
    go_enter Try.func32, Try.ntmps32
    go_wp2
    go_ret
    exact ⟨rfl, by (repeat (first | with_reducible exact Below.refl _ _ | with_reducible refine below_set ?_ (by first | (simp; done) | (simp; omega)) _ | with_reducible refine below_alloc ?_ _ | with_reducible refine below_to_ext ?_ _ | with_reducible refine below_drawn ?_ _))⟩

set_option maxHeartbeats 400000 in
theorem RAbs_any (x : Int) (h1 : -1152921504606846976 ≤ x) (h2 : x ≤ 1152921504606846976) (w : World) : Calls Try.prog 51 #[.int .i64 x] w fun e w' => e = .returned (.int .i64 (Fx.ab x)) ∧ w = w' := by
  by_cases h : x < 0
  · have e : Fx.ab x = -x := by unfold Fx.ab; omega
    rw [e]
    go_enter Try.func51, Try.ntmps51
    go_wp2
    go_ret
    exact ⟨rfl, rfl⟩
  · have e : Fx.ab x = x := by unfold Fx.ab; omega
    rw [e]
    go_enter Try.func51, Try.ntmps51
    go_wp2
    go_ret
    exact ⟨rfl, rfl⟩

set_option maxHeartbeats 1000000 in
theorem RStiff_any (t : It) (g : Bool) (w : World) : Calls Try.prog 30 #[t.val, .bool g] w fun e w' => e = .returned (.bool (t.stiff g)) ∧ Below w.heap.size w w' := by
  have hf := fun w => RFactor_any t g w
  have hw := fun w => RWish_any t w
  generalize hfa : t.fac g = fa at *
  unfold It.stiff
  rw [hfa]
  generalize t.wish = wi at *
  by_cases h0 : fa = 0
  · rw [if_pos h0]
    have hd : decide (fa = 0) = true := decide_eq_true h0
    unfold It.val at hf hw ⊢
    go_enter Try.func30, Try.ntmps30
    go_wp2_with fail
    refine (hf _).mono ?_; rintro e w' ⟨rfl, hb⟩
    obtain ⟨u, rfl⟩ := ext_of_below hb; clear hb
    go_wp2
    go_ret
    exact ⟨rfl, by (repeat (first | with_reducible exact Below.refl _ _ | with_reducible refine below_set ?_ (by first | (simp; done) | (simp; omega)) _ | with_reducible refine below_alloc ?_ _ | with_reducible refine below_to_ext ?_ _ | with_reducible refine below_drawn ?_ _))⟩
  · rw [if_neg h0]
    cases g
    all_goals
      unfold It.val at hf hw ⊢
      go_enter Try.func30, Try.ntmps30
      go_wp2_with fail
      refine (hf _).mono ?_; rintro e w' ⟨rfl, hb⟩
      obtain ⟨u, rfl⟩ := ext_of_below hb; clear hb
      go_wp2_with fail
      refine wp_region_ext2 (by kernel_rfl) (by kernel_rfl) ?_
      repeat (go_big_quiet_step ((go_at_call 15; exact quiet_ext (hw _))))
      refine wpQuiet_nil ?_
      rintro _ ⟨u2, rfl⟩
      go_wp2
      go_ret
      exact ⟨by simp, by (repeat (first | with_reducible exact Below.refl _ _ | with_reducible refine below_set ?_ (by first | (simp; done) | (simp; omega)) _ | with_reducible refine below_alloc ?_ _ | with_reducible refine below_to_ext ?_ _ | with_reducible refine below_drawn ?_ _))⟩

end Go.Proofs.Ytndpblgedpdjdaa
