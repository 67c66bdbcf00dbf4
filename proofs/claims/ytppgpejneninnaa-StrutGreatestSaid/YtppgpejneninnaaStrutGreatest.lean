/- StrutGreatest, walked. -/
import Derived.Test.YtppgpejneninnaaStrutJoins
namespace Go.Proofs.Ytppgpejneninnaa
open Go.RowKit
set_option linter.unusedSimpArgs false
set_option linter.unusedVariables false
attribute [local go_sem] cell?_ext frozen?_ext lt_size_ext

/-- A slice of integers in memory, or nil. -/
def IntsAt (w : World) (ao : Option Addr) (l : List Int) : Prop :=
  ∀ k x, l[k]? = some x → ∃ b off, ao = some ⟨b, off, none⟩ ∧ w.cell? ⟨b, off + k, none⟩ = some (.int .i64 x)

theorem up_step (U x : Int) (h0 : 0 ≤ U) (h1 : U ≤ 1073741824) : mx (hold U) (hold (mx (hold x) 0)) = if U < hold x then hold x else U := by
  rw [hold_id (by omega) h1]
  by_cases hn : hold x < 0
  · have e : mx (hold x) 0 = 0 := if_pos hn
    rw [e, show hold 0 = 0 from rfl]; unfold mx; rw [if_neg (by omega), if_neg (by omega)]
  · have e : mx (hold x) 0 = hold x := if_neg hn
    rw [e, hold_hold]; rfl
theorem down_step (D x : Int) (h0 : D ≤ 0) (h1 : -1073741824 ≤ D) : mn (hold D) (hold (mn (hold x) 0)) = if hold x < D then hold x else D := by
  rw [hold_id h1 (by omega)]
  by_cases hn : 0 < hold x
  · have e : mn (hold x) 0 = 0 := if_pos hn
    rw [e, show hold 0 = 0 from rfl]; unfold mn; rw [if_neg (by omega), if_neg (by omega)]
  · have e : mn (hold x) 0 = hold x := if_neg hn
    rw [e, hold_hold]; rfl

set_option maxHeartbeats 8000000 in
theorem StrutGreatest_walk (l : List Int) (ao : Option Addr) (cap : Nat) (w : World) (hl : l.length ≤ 9223372036854775807) (hp : IntsAt w ao l) :
    Calls Try.prog 6 #[.slice ao l.length cap] w fun e w' => e = .returned (.bool true) ∧ Below w.heap.size w w' := by
  by_cases h100 : 100 < l.length
  · clear hp
    go_enter Try.func6, Try.ntmps6
    go_wp2_with fail
    refine (known_any _).mono ?_
    rintro e w1 ⟨rfl, hb1⟩
    have H1 := Lib.hid hb1
    clear hb1
    go_wp2_with fail
    go_ret
    exact ⟨rfl, H1.out⟩
  · have HP := Lib.hid hp
    clear hp
    go_enter Try.func6, Try.ntmps6
    go_wp2_with fail
    go_loopw [4, 5, 6] (fun a b i wr => ∃ (k : Nat) (U D : Int), k ≤ l.length ∧ i = .int .i64 k ∧ a = .int .i64 U ∧ b = .int .i64 D ∧ 0 ≤ U ∧ U ≤ 1073741824 ∧ -1073741824 ≤ D ∧ D ≤ 0 ∧
        Blk wr w.heap.size 23 #[.int .i64 U, .int .i64 D] ∧ Below w.heap.size w wr) (fun _ _ i _ => l.length - (intOf i).toNat)
    case atStart =>
      exact ⟨0, 0, 0, Nat.zero_le _, rfl, rfl, rfl, by omega, by omega, by omega, by omega, Blk.new _ _ _, below_alloc (Below.refl _ _) _⟩
    case round =>
      obtain ⟨k, U, D, hk, rfl, rfl, rfl, u0, u1, d0, d1, hB, hb⟩ := hrel
      have c0 := hB.cell 0
      have c1 := hB.cell 1
      have fz := hB.frozen
      have z := hB.lt
      simp at c0 c1
      have HB := Lib.hid hB
      have HW := Lib.hid hb
      clear hB hb
      by_cases hlt : k < l.length
      · obtain ⟨x, hx⟩ : ∃ x, x = l[k] := ⟨_, rfl⟩
        obtain ⟨b, off, rfl, hc⟩ := HP.out k x (by rw [hx]; exact List.getElem?_eq_getElem hlt)
        have hcr : wr.cell? ⟨b, off + k, none⟩ = some (.int .i64 x) := (HW.out.cell (p := ⟨b, off + k, none⟩) (World.block_lt_of_cell? w _ hc)).trans hc
        have zb : b < wr.heap.size := World.block_lt_of_cell? wr _ hcr
        have HX := Lib.hid hx
        clear hx
        have hh := hold_bd x
        have e1 := up_step U x u0 u1
        have e2 := down_step D x d1 d0
        have HC := Lib.hid hc
        clear hc
        by_cases hu : U < hold x <;> by_cases hd : hold x < D
        · omega
        · rw [if_pos hu] at e1; rw [if_neg hd] at e2
          go_wp2_with fail
          refine wp_region_ext_tail 7 (by kernel_rfl) (by kernel_rfl) ?_
          simp only [List.take_succ_cons, List.take_zero, List.drop_succ_cons, List.drop_zero]
          repeat (go_big_quiet_step ((first | (go_at_call 12; exact quiet_ext (Of_any _ _)) | (go_at_call 8; exact quiet_ext (Join_any _ _ _ _ _)))))
          refine wpQuiet_nil ?_
          intro w1 hw1
          have hb1 := (grown_rules hw1).2.2.2
          clear hw1
          have hB1 := HB.out.then_ hb1
          have p0 := hB1.cell 0
          have p1 := hB1.cell 1
          have pf := hB1.frozen
          have pz := hB1.lt
          have px := (hb1.cell (p := ⟨b, off + k, none⟩) zb).trans hcr
          simp at p0 p1
          have hB2 := (hB1.put 0 (.int .i64 (hold x))).put 1 (.int .i64 D)
          have hW2 := below_set (below_set (below_then HW.out hb1) (p := ⟨w.heap.size, 0, none⟩) (Nat.le_refl _) (.int .i64 (hold x))) (p := ⟨w.heap.size, 1, none⟩) (Nat.le_refl _) (.int .i64 D)
          have HB2 := Lib.hid hB2
          have HW2 := Lib.hid hW2
          have n1 : w.heap.size ≠ b := fun e => by have := World.block_lt_of_cell? w _ HC.out; simp only at this; omega
          have n2 : b ≠ w.heap.size := Ne.symm n1
          clear hB1 hb1 hB2 hW2
          go_wp2_with (go_at_call 17; refine (RHold_any _ _).mono ?_; rintro e w' ⟨rfl, rfl⟩)
          go_roundw
          case rel => exact ⟨k + 1, _, _, by omega, by go_num, rfl, rfl, by omega, by omega, by omega, by omega, HB2.out, HW2.out⟩
          case measure => simp [intOf]; omega
        · rw [if_neg hu] at e1; rw [if_pos hd] at e2
          go_wp2_with fail
          refine wp_region_ext_tail 7 (by kernel_rfl) (by kernel_rfl) ?_
          simp only [List.take_succ_cons, List.take_zero, List.drop_succ_cons, List.drop_zero]
          repeat (go_big_quiet_step ((first | (go_at_call 12; exact quiet_ext (Of_any _ _)) | (go_at_call 8; exact quiet_ext (Join_any _ _ _ _ _)))))
          refine wpQuiet_nil ?_
          intro w1 hw1
          have hb1 := (grown_rules hw1).2.2.2
          clear hw1
          have hB1 := HB.out.then_ hb1
          have p0 := hB1.cell 0
          have p1 := hB1.cell 1
          have pf := hB1.frozen
          have pz := hB1.lt
          have px := (hb1.cell (p := ⟨b, off + k, none⟩) zb).trans hcr
          simp at p0 p1
          have hB2 := (hB1.put 0 (.int .i64 U)).put 1 (.int .i64 (hold x))
          have hW2 := below_set (below_set (below_then HW.out hb1) (p := ⟨w.heap.size, 0, none⟩) (Nat.le_refl _) (.int .i64 U)) (p := ⟨w.heap.size, 1, none⟩) (Nat.le_refl _) (.int .i64 (hold x))
          have HB2 := Lib.hid hB2
          have HW2 := Lib.hid hW2
          have n1 : w.heap.size ≠ b := fun e => by have := World.block_lt_of_cell? w _ HC.out; simp only at this; omega
          have n2 : b ≠ w.heap.size := Ne.symm n1
          clear hB1 hb1 hB2 hW2
          go_wp2_with (go_at_call 17; refine (RHold_any _ _).mono ?_; rintro e w' ⟨rfl, rfl⟩)
          go_roundw
          case rel => exact ⟨k + 1, _, _, by omega, by go_num, rfl, rfl, by omega, by omega, by omega, by omega, HB2.out, HW2.out⟩
          case measure => simp [intOf]; omega
        · rw [if_neg hu] at e1; rw [if_neg hd] at e2
          go_wp2_with fail
          refine wp_region_ext_tail 7 (by kernel_rfl) (by kernel_rfl) ?_
          simp only [List.take_succ_cons, List.take_zero, List.drop_succ_cons, List.drop_zero]
          repeat (go_big_quiet_step ((first | (go_at_call 12; exact quiet_ext (Of_any _ _)) | (go_at_call 8; exact quiet_ext (Join_any _ _ _ _ _)))))
          refine wpQuiet_nil ?_
          intro w1 hw1
          have hb1 := (grown_rules hw1).2.2.2
          clear hw1
          have hB1 := HB.out.then_ hb1
          have p0 := hB1.cell 0
          have p1 := hB1.cell 1
          have pf := hB1.frozen
          have pz := hB1.lt
          have px := (hb1.cell (p := ⟨b, off + k, none⟩) zb).trans hcr
          simp at p0 p1
          have hB2 := (hB1.put 0 (.int .i64 U)).put 1 (.int .i64 D)
          have hW2 := below_set (below_set (below_then HW.out hb1) (p := ⟨w.heap.size, 0, none⟩) (Nat.le_refl _) (.int .i64 U)) (p := ⟨w.heap.size, 1, none⟩) (Nat.le_refl _) (.int .i64 D)
          have HB2 := Lib.hid hB2
          have HW2 := Lib.hid hW2
          have n1 : w.heap.size ≠ b := fun e => by have := World.block_lt_of_cell? w _ HC.out; simp only at this; omega
          have n2 : b ≠ w.heap.size := Ne.symm n1
          clear hB1 hb1 hB2 hW2
          go_wp2_with (go_at_call 17; refine (RHold_any _ _).mono ?_; rintro e w' ⟨rfl, rfl⟩)
          go_roundw
          case rel => exact ⟨k + 1, _, _, by omega, by go_num, rfl, rfl, by omega, by omega, by omega, by omega, HB2.out, HW2.out⟩
          case measure => simp [intOf]; omega
      · have hs : addH U D = U + D := by unfold addH; rw [hold_id (x := U) (by omega) u1, hold_id (x := D) d0 (by omega), hold_id (by omega) (by omega)]
        have HS := Lib.hid hs
        clear hs
        go_wp2_with fail
        refine (Worth_any _ _ _).mono ?_
        rintro e w1 ⟨rfl, hb1⟩
        rw [HS.out]
        have H1 := Lib.hid hb1
        clear hb1
        go_wp2_with fail
        refine (known_any _).mono ?_
        rintro e w2 ⟨rfl, hb2⟩
        have H2 := Lib.hid hb2
        clear hb2
        go_wp2_with fail
        go_ret
        exact ⟨rfl, below_then (below_then HW.out H1.out) H2.out⟩

end Go.Proofs.Ytppgpejneninnaa
