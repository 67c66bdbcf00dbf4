/- AxisPuts and AxisInside, walked: each call answers true; memory gains no more than the boxes of the arguments. -/
import Derived.Test.YtakoemapgnffeaaAxisLaws
import Derived.Test.YtakoemapgnffeaaSmall
namespace Go.Proofs.Ytakoemapgnffeaa
open Go.RowKit Fl
set_option linter.unusedSimpArgs false

theorem putM_bd (way r a s : Int) (h : -1073741824 ≤ a ∧ a ≤ 1073741824) : -1073741824 ≤ putM way r a s ∧ putM way r a s ≤ 1073741824 := by
  unfold putM; split
  · exact hold_bd _
  · exact h
theorem putC_bd (t : Bool) (r a s : Int) (h : -1073741824 ≤ a ∧ a ≤ 1073741824) : -1073741824 ≤ putC t r a s ∧ putC t r a s ≤ 1073741824 := by
  unfold putC; split
  · exact hold_bd _
  · exact h

set_option maxHeartbeats 1000000 in
theorem AxisPuts_walk (way : Int) (turned : Bool) (r1 r2 a1 a2 s1 s2 : Int) (w : World) :
    Calls Try.prog 6 #[.int .i64 way, .bool turned, .agg #[.int .i64 r1, .int .i64 r2], .agg #[.int .i64 a1, .int .i64 a2], .agg #[.int .i64 s1, .int .i64 s2]] w fun e w' => e = .returned (.bool true) ∧ Below w.heap.size w w' := by
  have b1 := hold_bd r1
  have b2 := hold_bd r2
  have b3 := hold_bd a1
  have b4 := hold_bd a2
  have b5 := hold_bd s1
  have b6 := hold_bd s2
  go_enter Try.func6, Try.ntmps6
  go_wp2_with fail
  go_quiet ((first
    | (go_at_call 9; exact quiet_left (Of_any _ _ _))
    | (go_at_call 17; exact quiet_left (Put_fb _ _ _ _ _ _ _ _ b1.1 b1.2 b2.1 b2.2 b3.1 b3.2 b4.1 b4.2 b5.1 b5.2 b6.1 b6.2 _))))
  go_wp2_with fail
  refine (RPut_any _ _ _ _ _ _ _ _ _).mono ?_; rintro e w' ⟨rfl, rfl⟩
  go_wp2_with fail
  have f1 := flow_bd way (putM way (hold r1) (hold a1) (hold s1)) (putC turned (hold r2) (hold a2) (hold s2)) (putM_bd _ _ _ _ b3).1 (putM_bd _ _ _ _ b3).2 (putC_bd _ _ _ _ b4).1 (putC_bd _ _ _ _ b4).2
  refine (X_fb _ _ f1.1.1 f1.1.2 _).mono ?_; rintro e w' ⟨rfl, rfl⟩
  go_wp2_with fail
  refine (Y_fb _ _ f1.2.1 f1.2.2 _).mono ?_; rintro e w' ⟨rfl, rfl⟩
  go_wp2_with fail
  refine (known_any _).mono ?_; rintro e w' ⟨rfl, rfl⟩
  go_wp2_with fail
  go_ret
  refine ⟨rfl, ?_⟩
  iterate 2 (try with_reducible refine below_drawn ?_ _)
  exact (((Below.refl _ w).alloc (Nat.le_refl _) _).alloc (by simp) _).alloc (by simp; omega) _

/-- Does something begin and end in a room? -/
def inB (r a s : Int) : Bool := decide (0 ≤ a ∧ 0 ≤ s ∧ 0 ≤ r ∧ r ≤ 1073741824 ∧ a ≤ r ∧ s ≤ r - a)

set_option maxHeartbeats 1000000 in
theorem inside_any (r a s : Int) (w : World) :
    Calls Try.prog 19 #[.int .i64 r, .int .i64 a, .int .i64 s] w fun e w' => e = .returned (.bool (inB r a s)) ∧ w = w' := by
  by_cases c0 : 0 ≤ a
  · -- holds
    by_cases c1 : 0 ≤ s
    · -- holds
      by_cases c2 : 0 ≤ r
      · -- holds
        by_cases c3 : r ≤ 1073741824
        · -- holds
          by_cases c4 : a ≤ r
          · -- holds
            by_cases c5 : s ≤ r - a
            · -- holds
              have e : inB r a s = true := by unfold inB; simp; omega
              rw [e]; clear e
              go_enter Try.func19, Try.ntmps19
              go_wp2
              go_ret
              exact ⟨rfl, rfl⟩
            · have e : inB r a s = false := by unfold inB; simp; omega
              rw [e]; clear e
              go_enter Try.func19, Try.ntmps19
              go_wp2
              go_ret
              exact ⟨rfl, rfl⟩
          · have e : inB r a s = false := by unfold inB; simp; omega
            rw [e]; clear e
            go_enter Try.func19, Try.ntmps19
            go_wp2
            go_ret
            exact ⟨rfl, rfl⟩
        · have e : inB r a s = false := by unfold inB; simp; omega
          rw [e]; clear e
          go_enter Try.func19, Try.ntmps19
          go_wp2
          go_ret
          exact ⟨rfl, rfl⟩
      · have e : inB r a s = false := by unfold inB; simp; omega
        rw [e]; clear e
        go_enter Try.func19, Try.ntmps19
        go_wp2
        go_ret
        exact ⟨rfl, rfl⟩
    · have e : inB r a s = false := by unfold inB; simp; omega
      rw [e]; clear e
      go_enter Try.func19, Try.ntmps19
      go_wp2
      go_ret
      exact ⟨rfl, rfl⟩
  · have e : inB r a s = false := by unfold inB; simp; omega
    rw [e]; clear e
    go_enter Try.func19, Try.ntmps19
    go_wp2
    go_ret
    exact ⟨rfl, rfl⟩

theorem inside_yes (r a s : Int) (w : World) (h : inB r a s = true) :
    Calls Try.prog 19 #[.int .i64 r, .int .i64 a, .int .i64 s] w fun e w' => e = .returned (.bool true) ∧ w = w' :=
  (inside_any r a s w).mono fun _ _ hh => ⟨by rw [hh.1, h], hh.2⟩

set_option maxHeartbeats 2000000 in
theorem AxisInside_walk (way : Int) (turned : Bool) (r1 r2 a1 a2 s1 s2 : Int) (w : World) :
    Calls Try.prog 7 #[.int .i64 way, .bool turned, .agg #[.int .i64 r1, .int .i64 r2], .agg #[.int .i64 a1, .int .i64 a2], .agg #[.int .i64 s1, .int .i64 s2]] w fun e w' => e = .returned (.bool true) ∧ Below w.heap.size w w' := by
  cases i1 : inB r1 a1 s1
  · have I1 := Lib.hid i1
    clear i1
    go_enter Try.func7, Try.ntmps7
    go_wp2_with fail
    refine (inside_any _ _ _ _).mono ?_; rintro e w' ⟨rfl, rfl⟩
    rw [I1.out]
    go_wp2_with fail
    refine (known_any _).mono ?_; rintro e w' ⟨rfl, rfl⟩
    go_wp2_with fail
    go_ret
    exact ⟨rfl, (((Below.refl _ w).alloc (Nat.le_refl _) _).alloc (by simp) _).alloc (by simp; omega) _⟩
  · cases i2 : inB r2 a2 s2
    · have I1 := Lib.hid i1
      have I2 := Lib.hid i2
      clear i1 i2
      go_enter Try.func7, Try.ntmps7
      go_wp2_with fail
      refine (inside_any _ _ _ _).mono ?_; rintro e w' ⟨rfl, rfl⟩
      rw [I1.out]
      go_wp2_with fail
      refine (inside_any _ _ _ _).mono ?_; rintro e w' ⟨rfl, rfl⟩
      rw [I2.out]
      go_wp2_with fail
      refine (known_any _).mono ?_; rintro e w' ⟨rfl, rfl⟩
      go_wp2_with fail
      go_ret
      exact ⟨rfl, (((Below.refl _ w).alloc (Nat.le_refl _) _).alloc (by simp) _).alloc (by simp; omega) _⟩
    · have j1 := i1
      have j2 := i2
      unfold inB at j1 j2
      rw [decide_eq_true_eq] at j1 j2
      obtain ⟨x1, x2, x3, x4, x5, x6⟩ := j1
      obtain ⟨y1, y2, y3, y4, y5, y6⟩ := j2
      have e1 : hold r1 = r1 := hold_id (by omega) (by omega)
      have e2 : hold r2 = r2 := hold_id (by omega) (by omega)
      have e3 : hold a1 = a1 := hold_id (by omega) (by omega)
      have e4 : hold a2 = a2 := hold_id (by omega) (by omega)
      have e5 : hold s1 = s1 := hold_id (by omega) (by omega)
      have e6 : hold s2 = s2 := hold_id (by omega) (by omega)
      have m1 : inB r1 (putM way r1 a1 s1) s1 = true := by
        unfold putM; split
        · have : farH r1 a1 s1 = r1 - a1 - s1 := by
            unfold farH subH; rw [e1, e3, e5, hold_id (x := r1 - a1) (by omega) (by omega), hold_id (x := r1 - a1) (by omega) (by omega), hold_id (by omega) (by omega)]
          rw [this]; unfold inB; simp; omega
        · exact i1
      have m2 : inB r2 (putC turned r2 a2 s2) s2 = true := by
        unfold putC; split
        · have : farH r2 a2 s2 = r2 - a2 - s2 := by
            unfold farH subH; rw [e2, e4, e6, hold_id (x := r2 - a2) (by omega) (by omega), hold_id (x := r2 - a2) (by omega) (by omega), hold_id (by omega) (by omega)]
          rw [this]; unfold inB; simp; omega
        · exact i2
      have g1 := putM_bd way r1 a1 s1 (by omega)
      have g2 := putC_bd turned r2 a2 s2 (by omega)
      have f1 := flow_bd way (putM way r1 a1 s1) (putC turned r2 a2 s2) g1.1 g1.2 g2.1 g2.2
      have q1 := flow_flowM way (putM way r1 a1 s1) (putC turned r2 a2 s2)
      have q2 := flow_flowC way (putM way r1 a1 s1) (putC turned r2 a2 s2)
      have I1 := Lib.hid i1
      have I2 := Lib.hid i2
      have M1 := Lib.hid m1
      have M2 := Lib.hid m2
      have Q1 := Lib.hid q1
      have Q2 := Lib.hid q2
      have OI : ∀ (w : World) (x y : Int), -1073741824 ≤ x → x ≤ 1073741824 → -1073741824 ≤ y → y ≤ 1073741824 → Calls Try.prog 9 #[.int .i64 x, .int .i64 y] w fun e w' => e = .returned (.complex .f64 (fb x) (fb y)) ∧ w = w' :=
        fun w x y h1 h2 h3 h4 => Of_id x y h1 h2 h3 h4 w
      have HO := Lib.hid OI
      have HF := Lib.hid f1
      clear i1 i2 m1 m2 q1 q2 e1 e2 e3 e4 e5 e6 OI f1
      go_enter Try.func7, Try.ntmps7
      go_wp2_with fail
      refine (inside_any _ _ _ _).mono ?_; rintro e w' ⟨rfl, rfl⟩
      rw [I1.out]
      go_wp2_with fail
      refine (inside_any _ _ _ _).mono ?_; rintro e w' ⟨rfl, rfl⟩
      rw [I2.out]
      go_wp2_with fail
      go_quiet ((first
        | (go_at_call 9; exact quiet_left (HO.out _ _ _ (by omega) (by omega) (by omega) (by omega)))
        | (go_at_call 17; exact quiet_left (Put_fb _ _ _ _ _ _ _ _ (by omega) (by omega) (by omega) (by omega) (by omega) (by omega) (by omega) (by omega) (by omega) (by omega) (by omega) (by omega) _))))
      go_wp2_with fail
      refine (Flow_fb _ _ _ HF.out.1.1 HF.out.1.2 HF.out.2.1 HF.out.2.2 _).mono ?_; rintro e w' ⟨rfl, rfl⟩
      rw [Q1.out, Q2.out]
      go_wp2_with fail
      go_quiet ((first
        | (go_at_call 10; exact quiet_left2 (X_fb _ _ g1.1 g1.2 _))
        | (go_at_call 12; exact quiet_left2 (Y_fb _ _ g2.1 g2.2 _))
        | (go_at_call 19; first | exact quiet_left2 (inside_yes _ _ _ _ M1.out) | exact quiet_left2 (inside_yes _ _ _ _ M2.out))
        | (go_at_call 13; exact quiet_left2 (known_any _))))
      go_wp2_with fail
      go_ret
      refine ⟨rfl, ?_⟩
      iterate 2 (try with_reducible refine below_drawn ?_ _)
      exact (((Below.refl _ w).alloc (Nat.le_refl _) _).alloc (by simp) _).alloc (by simp; omega) _

end Go.Proofs.Ytakoemapgnffeaa
