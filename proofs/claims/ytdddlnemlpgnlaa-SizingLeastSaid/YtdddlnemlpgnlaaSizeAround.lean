/- Sizing: the program's pair, Around. -/
import Derived.Test.YtdddlnemlpgnlaaSizeOf
namespace Go.Proofs.Ytdddlnemlpgnlaa
open Go.RowKit
set_option linter.unusedSimpArgs false
set_option linter.unusedVariables false
attribute [local go_sem] cell?_ext frozen?_ext lt_size_ext

set_option maxHeartbeats 4000000 in
theorem pair_any (c : Cs) (a b : Nat) (h : (a = 3 ∧ b = 1) ∨ (a = 0 ∧ b = 2)) (w : World) : Calls Try.prog 35 #[.agg c.frame, .int .i64 a, .int .i64 b] w fun e w' => e = .returned (.int .i64 (c.pr a b)) ∧ Below w.heap.size w w' := by
  rcases h with ⟨rfl, rfl⟩ | ⟨rfl, rfl⟩
  all_goals
    go_enter Try.func35, Try.ntmps35
    go_upto_region 1 with fail
    refine at_any (fun wx => Blk wx w.heap.size 32 c.frame ∧ Below w.heap.size w wx) ⟨Blk.new _ _ _, below_alloc (Below.refl _ _) _⟩ ?_
    rintro wx ⟨hbk, hb⟩
    have x8 : wx.cell? ⟨w.heap.size, 8, none⟩ = some (.int .i64 (c.pad 0)) := hbk.cell 8
    have x9 : wx.cell? ⟨w.heap.size, 9, none⟩ = some (.int .i64 (c.pad 1)) := hbk.cell 9
    have x10 : wx.cell? ⟨w.heap.size, 10, none⟩ = some (.int .i64 (c.pad 2)) := hbk.cell 10
    have x11 : wx.cell? ⟨w.heap.size, 11, none⟩ = some (.int .i64 (c.pad 3)) := hbk.cell 11
    have x12 : wx.cell? ⟨w.heap.size, 12, none⟩ = some (.int .i64 (c.edg 0)) := hbk.cell 12
    have x13 : wx.cell? ⟨w.heap.size, 13, none⟩ = some (.int .i64 (c.edg 1)) := hbk.cell 13
    have x14 : wx.cell? ⟨w.heap.size, 14, none⟩ = some (.int .i64 (c.edg 2)) := hbk.cell 14
    have x15 : wx.cell? ⟨w.heap.size, 15, none⟩ = some (.int .i64 (c.edg 3)) := hbk.cell 15
    have xl := hbk.lt
    have HB := Lib.hid hb
    clear hbk hb
    refine wp_region_ext (by kernel_rfl) (by kernel_rfl) ?_
    repeat (go_big_quiet_step ((go_at_call 47; exact quiet_ext_same (Add_any _ _ _))))
    refine wpQuiet_nil ?_
    intro w2 hw2
    have hb2 := (grown_rules hw2).2.2.2
    have HB2 := Lib.hid hb2
    clear hw2 hb2
    go_wp2_with fail
    go_ret
    exact ⟨rfl, below_then HB.out HB2.out⟩

set_option maxRecDepth 20000 in
set_option maxHeartbeats 4000000 in
theorem Around_any (c : Cs) (w : World) : Calls Try.prog 15 #[c.val] w fun e w' => e = .returned (.tuple #[.int .i64 (c.pr 3 1), .int .i64 (c.pr 0 2)]) ∧ Below w.heap.size w w' := by
  have hof : ∀ w, Calls Try.prog 9 #[.agg c.cells] w fun e w' => e = .returned (.agg #[.int .i64 (c.mar 0), .int .i64 (c.mar 1), .int .i64 (c.mar 2), .int .i64 (c.mar 3), .bool (decide (c.n 14 = 0)), .bool (decide (c.n 16 = 0)), .bool (decide (c.n 18 = 0)), .bool (decide (c.n 20 = 0)), .int .i64 (c.pad 0), .int .i64 (c.pad 1), .int .i64 (c.pad 2), .int .i64 (c.pad 3), .int .i64 (c.edg 0), .int .i64 (c.edg 1), .int .i64 (c.edg 2), .int .i64 (c.edg 3)]) ∧ Below w.heap.size w w' := fun w => Of_any c w
  have hpr : ∀ (a b : Int) w, (a = 3 ∧ b = 1) ∨ (a = 0 ∧ b = 2) → Calls Try.prog 35 #[.agg c.frame, .int .i64 a, .int .i64 b] w fun e w' => e = .returned (.int .i64 (c.pr a.toNat b.toNat)) ∧ Below w.heap.size w w' := fun a b w h => by
    rcases h with ⟨rfl, rfl⟩ | ⟨rfl, rfl⟩
    · exact pair_any c 3 1 (by omega) w
    · exact pair_any c 0 2 (by omega) w
  rw [c.val_eq]
  go_enter Try.func15, Try.ntmps15
  go_upto_region 1 with fail
  refine at_any (fun wx => Blk wx w.heap.size 29 c.cells ∧ Below w.heap.size w wx) ⟨Blk.new _ _ _, below_alloc (Below.refl _ _) _⟩ ?_
  rintro wx ⟨hbk, hb⟩
  have HBK := Lib.hid hbk
  have HB := Lib.hid hb
  clear hbk hb
  refine wp_region_list ?_
  refine wpList_load_whole rfl 29 (.tmp 1) rfl w.heap.size rfl HBK.out Try.underlying29 rfl (by kernel_rfl) ?_
  go_wp2_with fail
  refine (hof _).mono ?_; rintro e w2 ⟨rfl, hb2⟩
  have HB2 := Lib.hid (below_then HB.out hb2)
  clear hb2 hof HBK HB
  go_upto_region 2 with fail
  refine at_any (fun wx => Blk wx w2.heap.size 32 c.frame ∧ Below w.heap.size w wx) ⟨Blk.new _ _ _, below_alloc HB2.out _⟩ ?_
  rintro wy ⟨hbk, hb⟩
  have HBK := Lib.hid hbk
  have HB := Lib.hid hb
  clear hbk hb HB2
  refine wp_region_ext (by kernel_rfl) (by kernel_rfl) ?_
  repeat (first
    | (refine wpQuiet_load_whole (by simp [Region.wanted]) 32 (.tmp 4) rfl w2.heap.size rfl HBK.out Try.underlying32 rfl (by kernel_rfl) ?_
       simp only [Act.put, List.setIfInBounds_toArray, List.set_cons_zero, List.set_cons_succ])
    | (go_big_quiet_step ((go_at_call 35; exact quiet_ext (hpr _ _ _ (by decide))))))
  refine wpQuiet_nil ?_
  intro w3 hw3
  have hb3 := (grown_rules hw3).2.2.2
  have HB3 := Lib.hid hb3
  clear hw3 hb3
  go_wp2_with fail
  refine bodyPost_ret (v := .tuple #[.int .i64 (c.pr 3 1), .int .i64 (c.pr 0 2)]) (by simp [results, Try.results15, go_sem]) rfl ⟨rfl, below_then HB.out HB3.out⟩

end Go.Proofs.Ytdddlnemlpgnlaa
