/- Sizing: the walk of Border. -/
import Derived.Test.YtdddlnemlpgnlaaSizeLawC
namespace Go.Proofs.Ytdddlnemlpgnlaa
open Go.RowKit
set_option linter.unusedSimpArgs false
set_option linter.unusedVariables false
attribute [local go_sem] cell?_ext frozen?_ext lt_size_ext

theorem fixed_sets (c : Cs) (n : Int) : (((((((c.cells.setIfInBounds 2 (.int .i64 1)).setIfInBounds 3 (.int .i64 n)).setIfInBounds 6 (.int .i64 0)).setIfInBounds 7 (.int .i64 0)).setIfInBounds 10 (.int .i64 6)).setIfInBounds 11 (.int .i64 0)).setIfInBounds 1 (.bool true)) = (c.fixed n true).cells := by kernel_rfl
theorem fixed_less (c : Cs) (n : Int) : (c.fixed n true).cells.setIfInBounds 1 (.bool false) = (c.fixed n false).cells := by kernel_rfl

set_option maxRecDepth 20000 in
set_option maxHeartbeats 8000000 in
theorem Border_walk (c : Cs) (hs : c.s.oneCell' = true) (n : Int) (w : World) : Calls Try.prog 5 #[c.val, .int .i64 n] w fun e w' => e = .returned (.bool true) ∧ Below w.heap.size w w' := by
  have haw : ∀ w, Calls Try.prog 15 #[.agg c.cells] w fun e w' => e = .returned (.tuple #[.int .i64 (c.pr 3 1), .int .i64 (c.pr 0 2)]) ∧ Below w.heap.size w w' := fun w => Around_any c w
  have hkn := known_any
  have hw1 : ∀ (h1 : c.pr 3 1 ≤ n) (h2 : n ≤ 536870912) w, Calls Try.prog 25 #[.agg (c.fixed n true).cells] w fun e w' => e = .returned (.int .i64 n) ∧ Below w.heap.size w w' := fun h1 h2 w => by
    have h := Wide_any (c.fixed n true) w
    rw [fixed_true c n h1 h2] at h
    exact h
  have hw2 : ∀ (h1 : c.pr 3 1 ≤ n) (h2 : n ≤ 536870912) w, Calls Try.prog 25 #[.agg (c.fixed n false).cells] w fun e w' => e = .returned (.int .i64 (n + c.pr 3 1)) ∧ Below w.heap.size w w' := fun h1 h2 w => by
    have h := Wide_any (c.fixed n false) w
    rw [fixed_false c n h1 h2] at h
    exact h
  have hp := pr_nonneg c 3 1
  generalize c.pr 3 1 = ac at *
  generalize c.pr 0 2 = dn at *
  rw [c.val_eq]
  go_enter Try.func5, Try.ntmps5
  go_upto_region 1 with fail
  refine at_any (fun wx => Blk wx w.heap.size 29 c.cells ∧ Below w.heap.size w wx) ⟨Blk.new _ _ _, below_alloc (Below.refl _ _) _⟩ ?_
  rintro wx ⟨hbk, hb⟩
  have HBK := Lib.hid hbk
  have HB := Lib.hid hb
  clear hbk hb
  go_upto_region 2 with (first
    | (refine wpList_load_want (by kernel_rfl) 29 (.tmp 2) rfl w.heap.size rfl HBK.out Try.underlying29 rfl (by kernel_rfl) ?_; simp only [Act.put, List.setIfInBounds_toArray, List.set_cons_zero, List.set_cons_succ])
    | (go_at_call 15; refine (haw _).mono ?_; rintro e wn ⟨rfl, hb2⟩; have HBK := Lib.hid (HBK.out.then_ hb2); have HB := Lib.hid (below_then HB.out hb2); clear hb2))
  by_cases h1 : n < ac
  · have d1 : decide (n < ac) = true := decide_eq_true h1
    go_wp2_with (first | (go_at_call 18; refine (hkn _).mono ?_; rintro e wn ⟨rfl, hb2⟩; have HBK := Lib.hid (HBK.out.then_ hb2); have HB := Lib.hid (below_then HB.out hb2); clear hb2))
    go_ret
    exact ⟨rfl, HB.out⟩
  by_cases h2 : 536870912 < n
  · have d1 : decide (n < ac) = false := decide_eq_false h1
    have d2 : decide (536870912 < n) = true := decide_eq_true h2
    go_wp2_with (first | (go_at_call 18; refine (hkn _).mono ?_; rintro e wn ⟨rfl, hb2⟩; have HBK := Lib.hid (HBK.out.then_ hb2); have HB := Lib.hid (below_then HB.out hb2); clear hb2))
    go_ret
    exact ⟨rfl, HB.out⟩
  by_cases h3 : 536870912 < ac
  · have d1 : decide (n < ac) = false := decide_eq_false h1
    have d2 : decide (536870912 < n) = false := decide_eq_false h2
    have d3 : decide (536870912 < ac) = true := decide_eq_true h3
    go_wp2_with (first | (go_at_call 18; refine (hkn _).mono ?_; rintro e wn ⟨rfl, hb2⟩; have HBK := Lib.hid (HBK.out.then_ hb2); have HB := Lib.hid (below_then HB.out hb2); clear hb2))
    go_ret
    exact ⟨rfl, HB.out⟩
  have d1 : decide (n < ac) = false := decide_eq_false h1
  have d2 : decide (536870912 < n) = false := decide_eq_false h2
  have d3 : decide (536870912 < ac) = false := decide_eq_false h3
  have HW1 := Lib.hid (hw1 (by omega) (by omega))
  have HW2 := Lib.hid (hw2 (by omega) (by omega))
  have b1 : ac ≤ n := by omega
  have b2 : n ≤ 536870912 := by omega
  have b3 : ac ≤ 536870912 := by omega
  clear hw1 hw2
  have y1 : wn.cell? ⟨w.heap.size, 1, none⟩ = some (.bool c.b) := HBK.out.cell 1
  have z1 : wn.frozen? ⟨w.heap.size, 1, none⟩ = false := HBK.out.frozen 1
  have y2 : wn.cell? ⟨w.heap.size, 2, none⟩ = some (.int .i64 (c.n 2)) := HBK.out.cell 2
  have z2 : wn.frozen? ⟨w.heap.size, 2, none⟩ = false := HBK.out.frozen 2
  have y3 : wn.cell? ⟨w.heap.size, 3, none⟩ = some (.int .i64 (c.n 3)) := HBK.out.cell 3
  have z3 : wn.frozen? ⟨w.heap.size, 3, none⟩ = false := HBK.out.frozen 3
  have y6 : wn.cell? ⟨w.heap.size, 6, none⟩ = some (.int .i64 (c.n 6)) := HBK.out.cell 6
  have z6 : wn.frozen? ⟨w.heap.size, 6, none⟩ = false := HBK.out.frozen 6
  have y7 : wn.cell? ⟨w.heap.size, 7, none⟩ = some (.int .i64 (c.n 7)) := HBK.out.cell 7
  have z7 : wn.frozen? ⟨w.heap.size, 7, none⟩ = false := HBK.out.frozen 7
  have y10 : wn.cell? ⟨w.heap.size, 10, none⟩ = some (.int .i64 (c.n 10)) := HBK.out.cell 10
  have z10 : wn.frozen? ⟨w.heap.size, 10, none⟩ = false := HBK.out.frozen 10
  have y11 : wn.cell? ⟨w.heap.size, 11, none⟩ = some (.int .i64 (c.n 11)) := HBK.out.cell 11
  have z11 : wn.frozen? ⟨w.heap.size, 11, none⟩ = false := HBK.out.frozen 11
  go_upto_region 6 with fail
  refine at_any (fun wx => Blk wx w.heap.size 29 (c.fixed n true).cells ∧ Below w.heap.size w wx) ⟨(by
    rw [← fixed_sets c n]
    exact ((((((HBK.out.put 2 _).put 3 _).put 6 _).put 7 _).put 10 _).put 11 _).put 1 _), below_set (below_set (below_set (below_set (below_set (below_set (below_set HB.out (Nat.le_refl _) _) (Nat.le_refl _) _) (Nat.le_refl _) _) (Nat.le_refl _) _) (Nat.le_refl _) _) (Nat.le_refl _) _) (Nat.le_refl _) _⟩ ?_
  clear HBK HB y1 y2 y3 y6 y7 y10 y11 z1 z2 z3 z6 z7 z10 z11
  rintro wy ⟨hbk, hb⟩
  have HBK := Lib.hid hbk
  have HB := Lib.hid hb
  clear hbk hb
  go_upto_region 7 with (first
    | (refine wpList_load_want (by kernel_rfl) 29 (.tmp 2) rfl w.heap.size rfl HBK.out Try.underlying29 rfl (by kernel_rfl) ?_; simp only [Act.put, List.setIfInBounds_toArray, List.set_cons_zero, List.set_cons_succ])
    | (go_at_call 25; refine (HW1.out _).mono ?_; rintro e wn ⟨rfl, hb2⟩; have HBK := Lib.hid (HBK.out.then_ hb2); have HB := Lib.hid (below_then HB.out hb2); clear hb2))
  have y1 : wn.cell? ⟨w.heap.size, 1, none⟩ = some (.bool true) := HBK.out.cell 1
  have z1 : wn.frozen? ⟨w.heap.size, 1, none⟩ = false := HBK.out.frozen 1
  go_upto_region 8 with fail
  refine at_any (fun wx => Blk wx w.heap.size 29 (c.fixed n false).cells ∧ Below w.heap.size w wx) ⟨(by
    rw [← fixed_less c n]
    exact HBK.out.put 1 _), below_set HB.out (Nat.le_refl _) _⟩ ?_
  clear HBK HB y1 z1
  rintro wz ⟨hbk, hb⟩
  have HBK := Lib.hid hbk
  have HB := Lib.hid hb
  clear hbk hb
  go_wp2_with (first
    | (refine wpList_load_want (by kernel_rfl) 29 (.tmp 2) rfl w.heap.size rfl HBK.out Try.underlying29 rfl (by kernel_rfl) ?_; simp only [Act.put, List.setIfInBounds_toArray, List.set_cons_zero, List.set_cons_succ])
    | (go_at_call 25; refine (HW2.out _).mono ?_; rintro e wn ⟨rfl, hb2⟩; have HBK := Lib.hid (HBK.out.then_ hb2); have HB := Lib.hid (below_then HB.out hb2); clear hb2)
    | (go_at_call 18; refine (hkn _).mono ?_; rintro e wn ⟨rfl, hb2⟩; have HBK := Lib.hid (HBK.out.then_ hb2); have HB := Lib.hid (below_then HB.out hb2); clear hb2))
  go_ret
  exact ⟨rfl, HB.out⟩

end Go.Proofs.Ytdddlnemlpgnlaa
