/- An item, held. -/
import Derived.Test.YtndpblgedpdjdaaFlexItem
namespace Go.Proofs.Ytndpblgedpdjdaa
open Go.RowKit
set_option linter.unusedSimpArgs false
attribute [local go_sem] cell?_ext frozen?_ext

set_option maxHeartbeats 4000000 in
theorem held_any (t : It) (w : World) : Calls Try.prog 36 #[t.val] w fun e w' => e = .returned t.held.val ∧ Below w.heap.size w w' := by
  unfold It.val It.held
  go_enter Try.func36, Try.ntmps36
  go_wp2_with fail
  refine wp_region_ext_tail 26 (by kernel_rfl) (by kernel_rfl) ?_
  simp only [List.take_succ_cons, List.take_zero, List.drop_succ_cons, List.drop_zero]
  repeat (go_big_quiet_step ((first | (go_at_call 38; exact quiet_ext_same (Hold_any _ _)) | (go_at_call 52; exact quiet_ext_same (up_any _ _)))))
  refine wpQuiet_nil ?_
  rintro _ ⟨u, rfl⟩
  go_wp2
  refine bodyPost_ret (v := .agg #[.int .i64 (hold t.base), .int .i64 (wt t.least), .int .i64 (hold t.most), .int .i64 (hold t.margin), .int .i64 (wt t.inner), .int .i64 (wt t.grow), .int .i64 (wt t.shrink)]) (by simp [results, Try.results36, go_sem]) rfl ⟨rfl, ?_⟩
  (repeat (first | with_reducible exact Below.refl _ _ | with_reducible refine below_set ?_ (by first | (simp; done) | (simp; omega)) _ | with_reducible refine below_alloc ?_ _ | with_reducible refine below_to_ext ?_ _ | with_reducible refine below_drawn ?_ _))

set_option maxHeartbeats 400000 in
theorem Wish_any (t : It) (w : World) : Calls Try.prog 17 #[t.val] w fun e w' => e = .returned (.int .i64 t.held.wish) ∧ Below w.heap.size w w' := by
  have hq := held_any t
  generalize t.held = h at *
  unfold It.val at hq ⊢
  go_enter Try.func17, Try.ntmps17
  go_wp2_with fail
  refine (hq _).mono ?_; rintro e w' ⟨rfl, hb⟩
  obtain ⟨u, rfl⟩ := ext_of_below hb; clear hb
  have hc := fun w => clamped_any h h.base w
  unfold It.val at hc
  go_wp2_with fail
  refine (hc _).mono ?_; rintro e w' ⟨rfl, hb⟩
  obtain ⟨u2, rfl⟩ := ext_of_below hb; clear hb
  go_wp2
  go_ret
  exact ⟨rfl, by (repeat (first | with_reducible exact Below.refl _ _ | with_reducible refine below_set ?_ (by first | (simp; done) | (simp; omega)) _ | with_reducible refine below_alloc ?_ _ | with_reducible refine below_to_ext ?_ _ | with_reducible refine below_drawn ?_ _))⟩

end Go.Proofs.Ytndpblgedpdjdaa
