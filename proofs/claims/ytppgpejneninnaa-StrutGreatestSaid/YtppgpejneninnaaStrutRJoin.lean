/- The reference's Join of struts. -/
import Derived.Test.YtppgpejneninnaaStrutWalks
import Derived.Deep.RegionHeld3
import Derived.Deep.DrawnRows
namespace Go.Proofs.Ytppgpejneninnaa
open Go.RowKit
set_option linter.unusedSimpArgs false
attribute [local go_sem] cell?_ext frozen?_ext lt_size_ext
attribute [local go_sem] Go.wp_at_zero Go.wp_at_succ

set_option maxHeartbeats 4000000 in
theorem RJoin_any (a b c d : Int) (w : World) :
    Calls Try.prog 9 #[.agg #[.int .i64 a, .int .i64 b], .agg #[.int .i64 c, .int .i64 d]] w fun e w' =>
      e = .returned (.agg #[.int .i64 (mx (hold a) (hold c)), .int .i64 (mn (hold b) (hold d))]) ∧ Below w.heap.size w w' := by
  obtain ⟨M, hM⟩ : ∃ M, M = mx (hold a) (hold c) := ⟨_, rfl⟩
  obtain ⟨N, hN⟩ : ∃ N, N = mn (hold b) (hold d) := ⟨_, rfl⟩
  rw [← hM, ← hN]
  by_cases h1 : hold a < hold c <;> by_cases h2 : hold d < hold b
  all_goals
    have hM1 : (hold a < hold c → M = hold c) ∧ (hold c ≤ hold a → M = hold a) := by rw [hM]; unfold mx; constructor <;> intro h <;> split <;> omega
    have hN1 : (hold d < hold b → N = hold d) ∧ (hold b ≤ hold d → N = hold b) := by rw [hN]; unfold mn; constructor <;> intro h <;> split <;> omega
    have HM := Lib.hid hM1
    have HN := Lib.hid hN1
    clear hM hN hM1 hN1
    go_enter Try.func9, Try.ntmps9
    go_wp2_with fail
    go_region_held3 (fun w' => w'.cell? ⟨w.heap.size, 0, none⟩ = some (.int .i64 a) ∧ w'.cell? ⟨w.heap.size, 1, none⟩ = some (.int .i64 b)) (go_keep)
      (first | (go_at_call 17; refine (RHold_any _ _).mono ?_; rintro e w' ⟨rfl, rfl⟩))
    all_goals
      go_wp2_with fail
      refine wp_region_ext (by kernel_rfl) (by kernel_rfl) ?_
      repeat (go_big_quiet_step ((go_at_call 17; exact quiet_ext_same (RHold_any _ _))))
      refine wpQuiet_nil ?_
      intro w1 hw1
      obtain ⟨rc1, rf1, rs1, rb1⟩ := grown_rules hw1
      clear hw1
      have RB1 := Lib.hid rb1
      clear rb1
      have z1 : w.heap.size + 1 + 1 + 1 < w1.heap.size := rs1 _ (by simp)
      have z1b : w.heap.size + 1 + 1 < w1.heap.size := by omega
      have z1c : w.heap.size + 1 < w1.heap.size := by omega
      clear rs1
      go_wp2_with (go_at_call 17; refine (RHold_any _ _).mono ?_; rintro e w' ⟨rfl, rfl⟩)
      refine wp_region_ext (by kernel_rfl) (by kernel_rfl) ?_
      repeat (go_big_quiet_step ((go_at_call 17; exact quiet_ext_same (RHold_any _ _))))
      refine wpQuiet_nil ?_
      intro w2 hw2
      obtain ⟨rc2, rf2, rs2, rb2⟩ := grown_rules hw2
      clear hw2
      have RB2 := Lib.hid rb2
      clear rb2
      have z2 : w.heap.size + 1 + 1 + 1 < w2.heap.size := rs2 _ (by simpa using z1)
      clear rs2
      go_wp2_with (go_at_call 17; refine (RHold_any _ _).mono ?_; rintro e w' ⟨rfl, rfl⟩)
      refine bodyPost_ret (v := .agg #[.int .i64 M, .int .i64 N]) (by obtain ⟨m1, m2⟩ := HM.out; obtain ⟨n1, n2⟩ := HN.out; simp [results, Try.results9, go_sem, *]) rfl ⟨rfl, ?_⟩
      repeat (first | with_reducible refine below_then ?_ RB2.out | with_reducible refine below_then ?_ RB1.out | exact Below.refl _ _ | with_reducible refine below_set ?_ (by first | (simp; done) | (simp; omega)) _ | with_reducible refine below_alloc ?_ _ | with_reducible refine below_to_ext ?_ _ | with_reducible refine below_drawn ?_ _ | with_reducible refine Below.drew ?_)

end Go.Proofs.Ytppgpejneninnaa
