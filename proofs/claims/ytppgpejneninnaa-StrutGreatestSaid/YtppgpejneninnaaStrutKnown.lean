/- The fixed calls of the statements on struts (known); StrutJoins. -/
import Derived.Test.YtppgpejneninnaaStrutPuts
import Derived.Test.YtppgpejneninnaaStrutRJoin
namespace Go.Proofs.Ytppgpejneninnaa
open Go.RowKit
set_option linter.unusedSimpArgs false
set_option linter.unusedVariables false
attribute [local go_sem] cell?_ext frozen?_ext lt_size_ext

theorem Of_10 (w : World) : Calls Try.prog 12 #[.int .i64 10] w fun e w' => e = .returned (.agg #[.int .i64 10, .int .i64 0]) ∧ Below w.heap.size w w' := Of_any 10 w
theorem Of_20 (w : World) : Calls Try.prog 12 #[.int .i64 20] w fun e w' => e = .returned (.agg #[.int .i64 20, .int .i64 0]) ∧ Below w.heap.size w w' := Of_any 20 w
theorem Of_m4 (w : World) : Calls Try.prog 12 #[.int .i64 (-4)] w fun e w' => e = .returned (.agg #[.int .i64 0, .int .i64 (-4)]) ∧ Below w.heap.size w w' := Of_any (-4) w
theorem Of_m3 (w : World) : Calls Try.prog 12 #[.int .i64 (-3)] w fun e w' => e = .returned (.agg #[.int .i64 0, .int .i64 (-3)]) ∧ Below w.heap.size w w' := Of_any (-3) w
theorem Join_1 (w : World) : Calls Try.prog 8 #[.agg #[.int .i64 10, .int .i64 0], .agg #[.int .i64 20, .int .i64 0]] w fun e w' => e = .returned (.agg #[.int .i64 20, .int .i64 0]) ∧ Below w.heap.size w w' := Join_any 10 0 20 0 w
theorem Join_2 (w : World) : Calls Try.prog 8 #[.agg #[.int .i64 10, .int .i64 0], .agg #[.int .i64 0, .int .i64 (-4)]] w fun e w' => e = .returned (.agg #[.int .i64 10, .int .i64 (-4)]) ∧ Below w.heap.size w w' := Join_any 10 0 0 (-4) w
theorem Join_3 (w : World) : Calls Try.prog 8 #[.agg #[.int .i64 0, .int .i64 (-3)], .agg #[.int .i64 0, .int .i64 (-4)]] w fun e w' => e = .returned (.agg #[.int .i64 0, .int .i64 (-4)]) ∧ Below w.heap.size w w' := Join_any 0 (-3) 0 (-4) w
theorem Worth_1 (w : World) : Calls Try.prog 10 #[.agg #[.int .i64 20, .int .i64 0]] w fun e w' => e = .returned (.int .i64 20) ∧ Below w.heap.size w w' := Worth_any 20 0 w
theorem Worth_2 (w : World) : Calls Try.prog 10 #[.agg #[.int .i64 10, .int .i64 (-4)]] w fun e w' => e = .returned (.int .i64 6) ∧ Below w.heap.size w w' := Worth_any 10 (-4) w
theorem Worth_3 (w : World) : Calls Try.prog 10 #[.agg #[.int .i64 0, .int .i64 (-4)]] w fun e w' => e = .returned (.int .i64 (-4)) ∧ Below w.heap.size w w' := Worth_any 0 (-4) w

/-- One part of nothing, stacked: one place. -/
theorem Put_one (w : World) (b : Nat) (hc : Blk w b 37 #[.int .i64 0, .int .i64 0, .int .i64 0, .int .i64 0, .int .i64 0, .bool false]) :
    Calls Try.prog 15 #[.slice (some ⟨b, 0, none⟩) 1 1, .bool true, .bool true] w fun e w' =>
      ∃ A cp x1 x2 x3 x4 x5 x6, e = .returned (.agg #[.slice A 1 cp, x1, x2, x3, x4, x5, x6]) ∧ Below w.heap.size w w' := by
  have hp : PartsAt w w.heap.size (some ⟨b, 0, none⟩) [⟨0, 0, 0, 0, 0, false⟩] := by
    intro k p hk
    match k, hk with
    | 0, hk =>
      simp at hk; subst hk
      exact ⟨b, 0, rfl, hc.lt, hc.cell 0, hc.cell 1, hc.cell 2, hc.cell 3, hc.cell 4, hc.cell 5⟩
  refine (Put_walk w [⟨0, 0, 0, 0, 0, false⟩] (some ⟨b, 0, none⟩) 1 true true (by decide) hp).mono fun e w' ⟨v, s, _, he, ho, hb⟩ => ?_
  rcases ho.2 with ⟨h1, h2⟩ | ⟨g', cap', cur, h1, _⟩
  · exact absurd h2 (by rw [stF_len]; decide)
  · rw [stF_len] at h1
    exact ⟨_, _, _, _, _, _, _, _, by rw [he, h1]; rfl, hb⟩

theorem field_0 (A : Option Addr) (cp : Nat) (x1 x2 x3 x4 x5 x6 : Value) (w : World) :
    (Instr.field 40 (.agg #[.slice A 1 cp, x1, x2, x3, x4, x5, x6]) 0).run Try.prog w = .ok (.slice A 1 cp) w := by kernel_rfl

set_option maxHeartbeats 1000000 in
theorem known_any (w : World) : Calls Try.prog 14 #[] w fun e w' => e = .returned (.bool true) ∧ Below w.heap.size w w' := by
  go_enter Try.func14, Try.ntmps14
  go_wp2_with fail
  refine (Of_10 _).mono ?_
  rintro e w0 ⟨rfl, hb0⟩
  have H0 := Lib.hid hb0
  clear hb0
  go_wp2_with fail
  refine (Of_20 _).mono ?_
  rintro e w1 ⟨rfl, hb1⟩
  have H1 := Lib.hid hb1
  clear hb1
  go_wp2_with fail
  refine (Join_1 _).mono ?_
  rintro e w2 ⟨rfl, hb2⟩
  have H2 := Lib.hid hb2
  clear hb2
  go_wp2_with fail
  refine (Worth_1 _).mono ?_
  rintro e w3 ⟨rfl, hb3⟩
  have H3 := Lib.hid hb3
  clear hb3
  go_wp2_with fail
  refine (Of_10 _).mono ?_
  rintro e w4 ⟨rfl, hb4⟩
  have H4 := Lib.hid hb4
  clear hb4
  go_wp2_with fail
  refine (Of_m4 _).mono ?_
  rintro e w5 ⟨rfl, hb5⟩
  have H5 := Lib.hid hb5
  clear hb5
  go_wp2_with fail
  refine (Join_2 _).mono ?_
  rintro e w6 ⟨rfl, hb6⟩
  have H6 := Lib.hid hb6
  clear hb6
  go_wp2_with fail
  refine (Worth_2 _).mono ?_
  rintro e w7 ⟨rfl, hb7⟩
  have H7 := Lib.hid hb7
  clear hb7
  go_wp2_with fail
  refine (Of_m3 _).mono ?_
  rintro e w8 ⟨rfl, hb8⟩
  have H8 := Lib.hid hb8
  clear hb8
  go_wp2_with fail
  refine (Of_m4 _).mono ?_
  rintro e w9 ⟨rfl, hb9⟩
  have H9 := Lib.hid hb9
  clear hb9
  go_wp2_with fail
  refine (Join_3 _).mono ?_
  rintro e w10 ⟨rfl, hb10⟩
  have H10 := Lib.hid hb10
  clear hb10
  go_wp2_with fail
  refine (Worth_3 _).mono ?_
  rintro e w11 ⟨rfl, hb11⟩
  have H11 := Lib.hid hb11
  clear hb11
  have hk : Blk (w11.alloc (.cells #[.int .i64 0, .int .i64 0, .int .i64 0, .int .i64 0, .int .i64 0, .bool false] 37)) w11.heap.size 37 #[.int .i64 0, .int .i64 0, .int .i64 0, .int .i64 0, .int .i64 0, .bool false] := Blk.new _ _ _
  have HK := Lib.hid hk
  clear hk
  go_wp2_with fail
  refine (Put_one _ _ HK.out).mono ?_
  rintro e wz ⟨A, cp, x1, x2, x3, x4, x5, x6, rfl, hbz⟩
  have HZ := Lib.hid hbz
  clear hbz
  have kf : ∀ w, (Instr.field 40 (.agg #[.slice A 1 cp, x1, x2, x3, x4, x5, x6]) 0).run Try.prog w = .ok (.slice A 1 cp) w := fun w => field_0 A cp x1 x2 x3 x4 x5 x6 w
  go_wp2_with fail
  go_ret
  refine ⟨rfl, ?_⟩
  refine below_then (below_alloc ?_ _) HZ.out
  exact below_then (below_then (below_then (below_then (below_then (below_then (below_then (below_then (below_then (below_then (below_then (H0.out) H1.out) H2.out) H3.out) H4.out) H5.out) H6.out) H7.out) H8.out) H9.out) H10.out) H11.out

end Go.Proofs.Ytppgpejneninnaa
