/- Sizing: the program's box, size, rated, least, most. -/
import Derived.Test.YtdddlnemlpgnlaaSizeFree
namespace Go.Proofs.Ytdddlnemlpgnlaa
open Go.RowKit
set_option linter.unusedSimpArgs false
set_option linter.unusedVariables false
attribute [local go_sem] cell?_ext frozen?_ext lt_size_ext

set_option maxRecDepth 20000 in
set_option maxHeartbeats 4000000 in
theorem box_any (c : Cs) (n x : Int) (w : World) : Calls Try.prog 54 #[c.val, .int .i64 n, .int .i64 x] w fun e w' => e = .returned (.int .i64 (c.box n x)) ∧ Below w.heap.size w w' := by
  have HE : Hid (c.box n x = if c.b = true then max (hold n) x else addH (max n 0) x) := Lib.hid rfl
  generalize c.box n x = res at *
  unfold Cs.val
  go_enter Try.func54, Try.ntmps54
  go_upto_region 1 with fail
  refine at_any (fun wx => Blk wx w.heap.size 29 #[.int .i64 (c.n 0), .bool c.b, .int .i64 (c.n 2), .int .i64 (c.n 3), .int .i64 (c.n 4), .int .i64 (c.n 5), .int .i64 (c.n 6), .int .i64 (c.n 7), .int .i64 (c.n 8), .int .i64 (c.n 9), .int .i64 (c.n 10), .int .i64 (c.n 11), .int .i64 (c.n 12), .int .i64 (c.n 13), .int .i64 (c.n 14), .int .i64 (c.n 15), .int .i64 (c.n 16), .int .i64 (c.n 17), .int .i64 (c.n 18), .int .i64 (c.n 19), .int .i64 (c.n 20), .int .i64 (c.n 21), .int .i64 (c.n 22), .int .i64 (c.n 23), .int .i64 (c.n 24), .int .i64 (c.n 25), .int .i64 (c.n 26), .int .i64 (c.n 27), .int .i64 (c.n 28), .int .i64 (c.n 29), .int .i64 (c.n 30), .int .i64 (c.n 31), .int .i64 (c.n 32), .int .i64 (c.n 33), .int .i64 (c.n 34), .int .i64 (c.n 35), .int .i64 (c.n 36), .int .i64 (c.n 37), .int .i64 (c.n 38), .int .i64 (c.n 39), .int .i64 (c.n 40), .int .i64 (c.n 41), .int .i64 (c.n 42), .int .i64 (c.n 43), .int .i64 (c.n 44), .int .i64 (c.n 45), .int .i64 (c.n 46), .int .i64 (c.n 47), .int .i64 (c.n 48), .int .i64 (c.n 49), .int .i64 (c.n 50), .int .i64 (c.n 51), c.s, .int .i64 (c.n 53), .int .i64 (c.n 54), .int .i64 (c.n 55), .int .i64 (c.n 56), .int .i64 (c.n 57), .int .i64 (c.n 58)] ∧ Below w.heap.size w wx) ⟨Blk.new _ _ _, below_alloc (Below.refl _ _) _⟩ ?_
  rintro wx ⟨hbk, hb⟩
  have x1 : wx.cell? ⟨w.heap.size, 1, none⟩ = some (.bool c.b) := hbk.cell 1
  have HB := Lib.hid hb
  clear hbk hb
  cases hc : c.b with
  | true =>
    rw [hc] at x1
    have HC := Lib.hid hc
    clear hc
    go_wp2_with fail
    refine (Hold_any _ _).mono ?_; rintro e w' ⟨rfl, rfl⟩
    go_wp2_with fail
    all_goals
      go_ret
      exact ⟨ret_int (by rw [HE.out, if_pos HC.out]; try omega), HB.out⟩
  | false =>
    rw [hc] at x1
    have HC := Lib.hid hc
    clear hc
    have hmx : max n 0 = n ∨ max n 0 = 0 := by omega
    go_wp2_with fail
    all_goals
      refine (Add_any _ _ _).mono ?_; rintro e w' ⟨rfl, rfl⟩
      go_wp2_with fail
      go_ret
      refine ⟨ret_int (by rw [HE.out, if_neg (by rw [HC.out]; simp)]; first | rfl | (congr 1; omega)), HB.out⟩

set_option maxRecDepth 20000 in
set_option maxHeartbeats 4000000 in
theorem size_any (c : Cs) (n x : Int) (w : World) : Calls Try.prog 60 #[c.val, .int .i64 n, .int .i64 x] w fun e w' => e = .returned (.int .i64 (c.siz n x)) ∧ Below w.heap.size w w' := by
  have HE : Hid (c.siz n x = if c.b = true then hold n else max (subH n x) 0) := Lib.hid rfl
  generalize c.siz n x = res at *
  unfold Cs.val
  go_enter Try.func60, Try.ntmps60
  go_upto_region 1 with fail
  refine at_any (fun wx => Blk wx w.heap.size 29 #[.int .i64 (c.n 0), .bool c.b, .int .i64 (c.n 2), .int .i64 (c.n 3), .int .i64 (c.n 4), .int .i64 (c.n 5), .int .i64 (c.n 6), .int .i64 (c.n 7), .int .i64 (c.n 8), .int .i64 (c.n 9), .int .i64 (c.n 10), .int .i64 (c.n 11), .int .i64 (c.n 12), .int .i64 (c.n 13), .int .i64 (c.n 14), .int .i64 (c.n 15), .int .i64 (c.n 16), .int .i64 (c.n 17), .int .i64 (c.n 18), .int .i64 (c.n 19), .int .i64 (c.n 20), .int .i64 (c.n 21), .int .i64 (c.n 22), .int .i64 (c.n 23), .int .i64 (c.n 24), .int .i64 (c.n 25), .int .i64 (c.n 26), .int .i64 (c.n 27), .int .i64 (c.n 28), .int .i64 (c.n 29), .int .i64 (c.n 30), .int .i64 (c.n 31), .int .i64 (c.n 32), .int .i64 (c.n 33), .int .i64 (c.n 34), .int .i64 (c.n 35), .int .i64 (c.n 36), .int .i64 (c.n 37), .int .i64 (c.n 38), .int .i64 (c.n 39), .int .i64 (c.n 40), .int .i64 (c.n 41), .int .i64 (c.n 42), .int .i64 (c.n 43), .int .i64 (c.n 44), .int .i64 (c.n 45), .int .i64 (c.n 46), .int .i64 (c.n 47), .int .i64 (c.n 48), .int .i64 (c.n 49), .int .i64 (c.n 50), .int .i64 (c.n 51), c.s, .int .i64 (c.n 53), .int .i64 (c.n 54), .int .i64 (c.n 55), .int .i64 (c.n 56), .int .i64 (c.n 57), .int .i64 (c.n 58)] ∧ Below w.heap.size w wx) ⟨Blk.new _ _ _, below_alloc (Below.refl _ _) _⟩ ?_
  rintro wx ⟨hbk, hb⟩
  have x1 : wx.cell? ⟨w.heap.size, 1, none⟩ = some (.bool c.b) := hbk.cell 1
  have HB := Lib.hid hb
  clear hbk hb
  cases hc : c.b with
  | true =>
    rw [hc] at x1
    have HC := Lib.hid hc
    clear hc
    go_wp2_with fail
    refine (Hold_any _ _).mono ?_; rintro e w' ⟨rfl, rfl⟩
    go_wp2_with fail
    all_goals
      go_ret
      exact ⟨ret_int (by rw [HE.out, if_pos HC.out]; try omega), HB.out⟩
  | false =>
    rw [hc] at x1
    have HC := Lib.hid hc
    clear hc
    go_wp2_with fail
    refine (Sub_any _ _ _).mono ?_; rintro e w' ⟨rfl, rfl⟩
    go_wp2_with fail
    all_goals
      go_ret
      exact ⟨ret_int (by rw [HE.out, if_neg (by rw [HC.out]; simp)]; try omega), HB.out⟩

set_option maxRecDepth 20000 in
set_option maxHeartbeats 4000000 in
theorem rated_any (c : Cs) (w : World) : Calls Try.prog 41 #[c.val] w fun e w' => e = .returned (.bool c.rat) ∧ Below w.heap.size w w' := by
  have HE : Hid (c.rat = (decide (0 < c.n 34) && decide (0 < c.n 35))) := Lib.hid rfl
  generalize c.rat = res at *
  unfold Cs.val
  go_enter Try.func41, Try.ntmps41
  go_upto_region 1 with fail
  refine at_any (fun wx => Blk wx w.heap.size 29 #[.int .i64 (c.n 0), .bool c.b, .int .i64 (c.n 2), .int .i64 (c.n 3), .int .i64 (c.n 4), .int .i64 (c.n 5), .int .i64 (c.n 6), .int .i64 (c.n 7), .int .i64 (c.n 8), .int .i64 (c.n 9), .int .i64 (c.n 10), .int .i64 (c.n 11), .int .i64 (c.n 12), .int .i64 (c.n 13), .int .i64 (c.n 14), .int .i64 (c.n 15), .int .i64 (c.n 16), .int .i64 (c.n 17), .int .i64 (c.n 18), .int .i64 (c.n 19), .int .i64 (c.n 20), .int .i64 (c.n 21), .int .i64 (c.n 22), .int .i64 (c.n 23), .int .i64 (c.n 24), .int .i64 (c.n 25), .int .i64 (c.n 26), .int .i64 (c.n 27), .int .i64 (c.n 28), .int .i64 (c.n 29), .int .i64 (c.n 30), .int .i64 (c.n 31), .int .i64 (c.n 32), .int .i64 (c.n 33), .int .i64 (c.n 34), .int .i64 (c.n 35), .int .i64 (c.n 36), .int .i64 (c.n 37), .int .i64 (c.n 38), .int .i64 (c.n 39), .int .i64 (c.n 40), .int .i64 (c.n 41), .int .i64 (c.n 42), .int .i64 (c.n 43), .int .i64 (c.n 44), .int .i64 (c.n 45), .int .i64 (c.n 46), .int .i64 (c.n 47), .int .i64 (c.n 48), .int .i64 (c.n 49), .int .i64 (c.n 50), .int .i64 (c.n 51), c.s, .int .i64 (c.n 53), .int .i64 (c.n 54), .int .i64 (c.n 55), .int .i64 (c.n 56), .int .i64 (c.n 57), .int .i64 (c.n 58)] ∧ Below w.heap.size w wx) ⟨Blk.new _ _ _, below_alloc (Below.refl _ _) _⟩ ?_
  rintro wx ⟨hbk, hb⟩
  have x1 : wx.cell? ⟨w.heap.size, 34, none⟩ = some (.int .i64 (c.n 34)) := hbk.cell 34
  have x2 : wx.cell? ⟨w.heap.size, 35, none⟩ = some (.int .i64 (c.n 35)) := hbk.cell 35
  have HB := Lib.hid hb
  clear hbk hb
  by_cases h1 : 0 < c.n 34
  · have d1 : decide (0 < c.n 34) = true := decide_eq_true h1
    go_wp2_with fail
    go_ret
    exact ⟨ret_bool (by rw [HE.out, d1]; simp), HB.out⟩
  · have d1 : decide (0 < c.n 34) = false := decide_eq_false h1
    go_wp2_with fail
    go_ret
    exact ⟨ret_bool (by rw [HE.out, d1]; simp), HB.out⟩

set_option maxRecDepth 20000 in
set_option maxHeartbeats 4000000 in
theorem least_any (c : Cs) (w : World) : Calls Try.prog 55 #[c.val] w fun e w' => e = .returned (.int .i64 c.lea) ∧ Below w.heap.size w w' := by
  have HE : Hid (c.lea = max (hold (c.n 57)) 0) := Lib.hid rfl
  generalize c.lea = res at *
  unfold Cs.val
  go_enter Try.func55, Try.ntmps55
  go_upto_region 1 with fail
  refine at_any (fun wx => Blk wx w.heap.size 29 #[.int .i64 (c.n 0), .bool c.b, .int .i64 (c.n 2), .int .i64 (c.n 3), .int .i64 (c.n 4), .int .i64 (c.n 5), .int .i64 (c.n 6), .int .i64 (c.n 7), .int .i64 (c.n 8), .int .i64 (c.n 9), .int .i64 (c.n 10), .int .i64 (c.n 11), .int .i64 (c.n 12), .int .i64 (c.n 13), .int .i64 (c.n 14), .int .i64 (c.n 15), .int .i64 (c.n 16), .int .i64 (c.n 17), .int .i64 (c.n 18), .int .i64 (c.n 19), .int .i64 (c.n 20), .int .i64 (c.n 21), .int .i64 (c.n 22), .int .i64 (c.n 23), .int .i64 (c.n 24), .int .i64 (c.n 25), .int .i64 (c.n 26), .int .i64 (c.n 27), .int .i64 (c.n 28), .int .i64 (c.n 29), .int .i64 (c.n 30), .int .i64 (c.n 31), .int .i64 (c.n 32), .int .i64 (c.n 33), .int .i64 (c.n 34), .int .i64 (c.n 35), .int .i64 (c.n 36), .int .i64 (c.n 37), .int .i64 (c.n 38), .int .i64 (c.n 39), .int .i64 (c.n 40), .int .i64 (c.n 41), .int .i64 (c.n 42), .int .i64 (c.n 43), .int .i64 (c.n 44), .int .i64 (c.n 45), .int .i64 (c.n 46), .int .i64 (c.n 47), .int .i64 (c.n 48), .int .i64 (c.n 49), .int .i64 (c.n 50), .int .i64 (c.n 51), c.s, .int .i64 (c.n 53), .int .i64 (c.n 54), .int .i64 (c.n 55), .int .i64 (c.n 56), .int .i64 (c.n 57), .int .i64 (c.n 58)] ∧ Below w.heap.size w wx) ⟨Blk.new _ _ _, below_alloc (Below.refl _ _) _⟩ ?_
  rintro wx ⟨hbk, hb⟩
  have x1 : wx.cell? ⟨w.heap.size, 57, none⟩ = some (.int .i64 (c.n 57)) := hbk.cell 57
  have HB := Lib.hid hb
  clear hbk hb
  go_wp2_with fail
  refine (Hold_any _ _).mono ?_; rintro e w' ⟨rfl, rfl⟩
  go_wp2_with fail
  all_goals
    go_ret
    exact ⟨ret_int (by rw [HE.out]; try omega), HB.out⟩

set_option maxRecDepth 20000 in
set_option maxHeartbeats 4000000 in
theorem most_any (c : Cs) (w : World) : Calls Try.prog 56 #[c.val] w fun e w' => e = .returned (.int .i64 c.mos) ∧ Below w.heap.size w w' := by
  have HE : Hid (c.mos = max (hold (c.n 58)) 0) := Lib.hid rfl
  generalize c.mos = res at *
  unfold Cs.val
  go_enter Try.func56, Try.ntmps56
  go_upto_region 1 with fail
  refine at_any (fun wx => Blk wx w.heap.size 29 #[.int .i64 (c.n 0), .bool c.b, .int .i64 (c.n 2), .int .i64 (c.n 3), .int .i64 (c.n 4), .int .i64 (c.n 5), .int .i64 (c.n 6), .int .i64 (c.n 7), .int .i64 (c.n 8), .int .i64 (c.n 9), .int .i64 (c.n 10), .int .i64 (c.n 11), .int .i64 (c.n 12), .int .i64 (c.n 13), .int .i64 (c.n 14), .int .i64 (c.n 15), .int .i64 (c.n 16), .int .i64 (c.n 17), .int .i64 (c.n 18), .int .i64 (c.n 19), .int .i64 (c.n 20), .int .i64 (c.n 21), .int .i64 (c.n 22), .int .i64 (c.n 23), .int .i64 (c.n 24), .int .i64 (c.n 25), .int .i64 (c.n 26), .int .i64 (c.n 27), .int .i64 (c.n 28), .int .i64 (c.n 29), .int .i64 (c.n 30), .int .i64 (c.n 31), .int .i64 (c.n 32), .int .i64 (c.n 33), .int .i64 (c.n 34), .int .i64 (c.n 35), .int .i64 (c.n 36), .int .i64 (c.n 37), .int .i64 (c.n 38), .int .i64 (c.n 39), .int .i64 (c.n 40), .int .i64 (c.n 41), .int .i64 (c.n 42), .int .i64 (c.n 43), .int .i64 (c.n 44), .int .i64 (c.n 45), .int .i64 (c.n 46), .int .i64 (c.n 47), .int .i64 (c.n 48), .int .i64 (c.n 49), .int .i64 (c.n 50), .int .i64 (c.n 51), c.s, .int .i64 (c.n 53), .int .i64 (c.n 54), .int .i64 (c.n 55), .int .i64 (c.n 56), .int .i64 (c.n 57), .int .i64 (c.n 58)] ∧ Below w.heap.size w wx) ⟨Blk.new _ _ _, below_alloc (Below.refl _ _) _⟩ ?_
  rintro wx ⟨hbk, hb⟩
  have x1 : wx.cell? ⟨w.heap.size, 58, none⟩ = some (.int .i64 (c.n 58)) := hbk.cell 58
  have HB := Lib.hid hb
  clear hbk hb
  go_wp2_with fail
  refine (Hold_any _ _).mono ?_; rintro e w' ⟨rfl, rfl⟩
  go_wp2_with fail
  all_goals
    go_ret
    exact ⟨ret_int (by rw [HE.out]; try omega), HB.out⟩

end Go.Proofs.Ytdddlnemlpgnlaa
