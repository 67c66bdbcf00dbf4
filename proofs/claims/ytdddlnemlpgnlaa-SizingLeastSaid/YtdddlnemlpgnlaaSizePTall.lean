/- Sizing: the program's tall, wide, free, fitted. -/
import Derived.Test.YtdddlnemlpgnlaaSizeAround
namespace Go.Proofs.Ytdddlnemlpgnlaa
open Go.RowKit
set_option linter.unusedSimpArgs false
set_option linter.unusedVariables false
attribute [local go_sem] cell?_ext frozen?_ext lt_size_ext

/-- A width, turned; a height, turned. -/
def Cs.tal (c : Cs) (n : Int) : Int := c.box (partH (c.siz n (c.pr 3 1)) (c.n 35) (c.n 34)) (c.pr 0 2)
def Cs.wid (c : Cs) (n : Int) : Int := c.box (partH (c.siz n (c.pr 0 2)) (c.n 34) (c.n 35)) (c.pr 3 1)

set_option maxRecDepth 20000 in
set_option maxHeartbeats 4000000 in
theorem tall_any (c : Cs) (n : Int) (w : World) : Calls Try.prog 46 #[c.val, .int .i64 n] w fun e w' => e = .returned (.int .i64 (c.tal n)) ∧ Below w.heap.size w w' := by
  have haw : ∀ w, Calls Try.prog 15 #[.agg c.cells] w fun e w' => e = .returned (.tuple #[.int .i64 (c.pr 3 1), .int .i64 (c.pr 0 2)]) ∧ Below w.heap.size w w' := fun w => Around_any c w
  have hsz : ∀ a x : Int, ∀ w, Calls Try.prog 60 #[.agg c.cells, .int .i64 a, .int .i64 x] w fun e w' => e = .returned (.int .i64 (c.siz a x)) ∧ Below w.heap.size w w' := fun a x w => size_any c a x w
  have hbx : ∀ a x : Int, ∀ w, Calls Try.prog 54 #[.agg c.cells, .int .i64 a, .int .i64 x] w fun e w' => e = .returned (.int .i64 (c.box a x)) ∧ Below w.heap.size w w' := fun a x w => box_any c a x w
  have HE : Hid (c.tal n = c.box (partH (c.siz n (c.pr 3 1)) (c.n 35) (c.n 34)) (c.pr 0 2)) := Lib.hid rfl
  generalize c.tal n = res at *
  generalize c.pr 3 1 = ac at *
  generalize c.pr 0 2 = dn at *
  rw [c.val_eq]
  go_enter Try.func46, Try.ntmps46
  go_upto_region 1 with fail
  refine at_any (fun wx => Blk wx w.heap.size 29 c.cells ∧ Below w.heap.size w wx) ⟨Blk.new _ _ _, below_alloc (Below.refl _ _) _⟩ ?_
  rintro wx ⟨hbk, hb⟩
  have HBK := Lib.hid hbk
  have HB := Lib.hid hb
  clear hbk hb
  refine wp_region_list ?_
  refine wpList_load_whole rfl 29 (.tmp 2) rfl w.heap.size rfl HBK.out Try.underlying29 rfl (by kernel_rfl) ?_
  go_wp2_with fail
  refine (haw _).mono ?_; rintro e w2 ⟨rfl, hb2⟩
  have HBw2 := Lib.hid (below_then HB.out hb2)
  have HBKw2 := Lib.hid (HBK.out.then_ hb2)
  clear hb2 haw
  go_upto_region 2 with fail
  have x1 : w2.cell? ⟨w.heap.size, 34, none⟩ = some (.int .i64 (c.n 34)) := HBKw2.out.cell 34
  have x2 : w2.cell? ⟨w.heap.size, 35, none⟩ = some (.int .i64 (c.n 35)) := HBKw2.out.cell 35
  have xl := HBKw2.out.lt
  refine wp_region_ext (by kernel_rfl) (by kernel_rfl) ?_
  repeat (first
    | (refine wpQuiet_load_whole (by simp [Region.wanted]) 29 (.tmp 2) rfl w.heap.size rfl HBKw2.out Try.underlying29 rfl (by kernel_rfl) ?_
       simp only [Act.put, List.setIfInBounds_toArray, List.set_cons_zero, List.set_cons_succ])
    | (go_big_quiet_step ((first | (go_at_call 60; exact quiet_ext (hsz _ _ _)) | (go_at_call 54; exact quiet_ext (hbx _ _ _)) | (go_at_call 59; exact quiet_ext_same (Part_any _ _ _ _))))))
  refine wpQuiet_nil ?_
  intro wq hwq
  have hbq := (grown_rules hwq).2.2.2
  have HBq := Lib.hid (below_then HBw2.out hbq)
  clear hwq hbq
  go_wp2_with fail
  go_ret
  exact ⟨ret_int (by rw [HE.out]), HBq.out⟩

set_option maxRecDepth 20000 in
set_option maxHeartbeats 4000000 in
theorem wide_any (c : Cs) (n : Int) (w : World) : Calls Try.prog 42 #[c.val, .int .i64 n] w fun e w' => e = .returned (.int .i64 (c.wid n)) ∧ Below w.heap.size w w' := by
  have haw : ∀ w, Calls Try.prog 15 #[.agg c.cells] w fun e w' => e = .returned (.tuple #[.int .i64 (c.pr 3 1), .int .i64 (c.pr 0 2)]) ∧ Below w.heap.size w w' := fun w => Around_any c w
  have hsz : ∀ a x : Int, ∀ w, Calls Try.prog 60 #[.agg c.cells, .int .i64 a, .int .i64 x] w fun e w' => e = .returned (.int .i64 (c.siz a x)) ∧ Below w.heap.size w w' := fun a x w => size_any c a x w
  have hbx : ∀ a x : Int, ∀ w, Calls Try.prog 54 #[.agg c.cells, .int .i64 a, .int .i64 x] w fun e w' => e = .returned (.int .i64 (c.box a x)) ∧ Below w.heap.size w w' := fun a x w => box_any c a x w
  have HE : Hid (c.wid n = c.box (partH (c.siz n (c.pr 0 2)) (c.n 34) (c.n 35)) (c.pr 3 1)) := Lib.hid rfl
  generalize c.wid n = res at *
  generalize c.pr 3 1 = ac at *
  generalize c.pr 0 2 = dn at *
  rw [c.val_eq]
  go_enter Try.func42, Try.ntmps42
  go_upto_region 1 with fail
  refine at_any (fun wx => Blk wx w.heap.size 29 c.cells ∧ Below w.heap.size w wx) ⟨Blk.new _ _ _, below_alloc (Below.refl _ _) _⟩ ?_
  rintro wx ⟨hbk, hb⟩
  have HBK := Lib.hid hbk
  have HB := Lib.hid hb
  clear hbk hb
  refine wp_region_list ?_
  refine wpList_load_whole rfl 29 (.tmp 2) rfl w.heap.size rfl HBK.out Try.underlying29 rfl (by kernel_rfl) ?_
  go_wp2_with fail
  refine (haw _).mono ?_; rintro e w2 ⟨rfl, hb2⟩
  have HBw2 := Lib.hid (below_then HB.out hb2)
  have HBKw2 := Lib.hid (HBK.out.then_ hb2)
  clear hb2 haw
  go_upto_region 2 with fail
  have x1 : w2.cell? ⟨w.heap.size, 34, none⟩ = some (.int .i64 (c.n 34)) := HBKw2.out.cell 34
  have x2 : w2.cell? ⟨w.heap.size, 35, none⟩ = some (.int .i64 (c.n 35)) := HBKw2.out.cell 35
  have xl := HBKw2.out.lt
  refine wp_region_ext (by kernel_rfl) (by kernel_rfl) ?_
  repeat (first
    | (refine wpQuiet_load_whole (by simp [Region.wanted]) 29 (.tmp 2) rfl w.heap.size rfl HBKw2.out Try.underlying29 rfl (by kernel_rfl) ?_
       simp only [Act.put, List.setIfInBounds_toArray, List.set_cons_zero, List.set_cons_succ])
    | (go_big_quiet_step ((first | (go_at_call 60; exact quiet_ext (hsz _ _ _)) | (go_at_call 54; exact quiet_ext (hbx _ _ _)) | (go_at_call 59; exact quiet_ext_same (Part_any _ _ _ _))))))
  refine wpQuiet_nil ?_
  intro wq hwq
  have hbq := (grown_rules hwq).2.2.2
  have HBq := Lib.hid (below_then HBw2.out hbq)
  clear hwq hbq
  go_wp2_with fail
  go_ret
  exact ⟨ret_int (by rw [HE.out]), HBq.out⟩

set_option maxRecDepth 20000 in
set_option maxHeartbeats 4000000 in
theorem free_any (c : Cs) (w : World) : Calls Try.prog 43 #[c.val] w fun e w' => e = .returned (.int .i64 c.fre) ∧ Below w.heap.size w w' := by
  have hof : ∀ w, Calls Try.prog 9 #[.agg c.cells] w fun e w' => e = .returned (.agg #[.int .i64 (c.mar 0), .int .i64 (c.mar 1), .int .i64 (c.mar 2), .int .i64 (c.mar 3), .bool (decide (c.n 14 = 0)), .bool (decide (c.n 16 = 0)), .bool (decide (c.n 18 = 0)), .bool (decide (c.n 20 = 0)), .int .i64 (c.pad 0), .int .i64 (c.pad 1), .int .i64 (c.pad 2), .int .i64 (c.pad 3), .int .i64 (c.edg 0), .int .i64 (c.edg 1), .int .i64 (c.edg 2), .int .i64 (c.edg 3)]) ∧ Below w.heap.size w w' := fun w => Of_any c w
  have haw : ∀ w, Calls Try.prog 15 #[.agg c.cells] w fun e w' => e = .returned (.tuple #[.int .i64 (c.pr 3 1), .int .i64 (c.pr 0 2)]) ∧ Below w.heap.size w w' := fun w => Around_any c w
  have HE : Hid (c.fre = max (subH (subH (c.n 55) (c.mar 3)) (c.mar 1)) (c.pr 3 1)) := Lib.hid rfl
  generalize c.fre = res at *
  generalize c.pr 3 1 = ac at *
  generalize c.pr 0 2 = dn at *
  rw [c.val_eq]
  go_enter Try.func43, Try.ntmps43
  go_upto_region 1 with fail
  refine at_any (fun wx => Blk wx w.heap.size 29 c.cells ∧ Below w.heap.size w wx) ⟨Blk.new _ _ _, below_alloc (Below.refl _ _) _⟩ ?_
  rintro wx ⟨hbk, hb⟩
  have HBK := Lib.hid hbk
  have HB := Lib.hid hb
  clear hbk hb
  refine wp_region_list ?_
  refine wpList_load_whole rfl 29 (.tmp 1) rfl w.heap.size rfl HBK.out Try.underlying29 rfl (by kernel_rfl) ?_
  go_wp2_with fail
  refine (hof _).mono ?_; rintro e w2 ⟨rfl, hb2⟩
  have HBw2 := Lib.hid (below_then HB.out hb2)
  have HBKw2 := Lib.hid (HBK.out.then_ hb2)
  clear hb2 hof
  go_upto_region 2 with fail
  refine at_any (fun wx => Blk wx w.heap.size 29 c.cells ∧ Blk wx w2.heap.size 32 c.frame ∧ Below w.heap.size w wx) ⟨HBKw2.out.alloc _, Blk.new _ _ _, below_alloc HBw2.out _⟩ ?_
  rintro w3 ⟨hbk, hbf, hb⟩
  have HBKw3 := Lib.hid hbk
  have HF := Lib.hid hbf
  have HBw3 := Lib.hid hb
  clear hbk hbf hb HBKw2 HBw2
  refine wp_region_list ?_
  refine wpList_load_whole rfl 29 (.tmp 1) rfl w.heap.size rfl HBKw3.out Try.underlying29 rfl (by kernel_rfl) ?_
  go_wp2_with fail
  refine (haw _).mono ?_; rintro e w4 ⟨rfl, hb2⟩
  have HBw4 := Lib.hid (below_then HBw3.out hb2)
  have HBKw4 := Lib.hid (HBKw3.out.then_ hb2)
  have HF4 := Lib.hid (HF.out.then_ hb2)
  clear hb2 haw HBw3 HBKw3 HF
  go_upto_region 3 with fail
  have x1 : w4.cell? ⟨w.heap.size, 55, none⟩ = some (.int .i64 (c.n 55)) := HBKw4.out.cell 55
  have xl := HBKw4.out.lt
  have y1 : w4.cell? ⟨w2.heap.size, 3, none⟩ = some (.int .i64 (c.mar 3)) := HF4.out.cell 3
  have y2 : w4.cell? ⟨w2.heap.size, 1, none⟩ = some (.int .i64 (c.mar 1)) := HF4.out.cell 1
  have yl := HF4.out.lt
  refine wp_region_ext (by kernel_rfl) (by kernel_rfl) ?_
  repeat (first
    | (refine wpQuiet_load_whole (by simp [Region.wanted]) 29 (.tmp 1) rfl w.heap.size rfl HBKw4.out Try.underlying29 rfl (by kernel_rfl) ?_
       simp only [Act.put, List.setIfInBounds_toArray, List.set_cons_zero, List.set_cons_succ])
    | (go_big_quiet_step ((first | (go_at_call 61; exact quiet_ext_same (Sub_any _ _ _))))))
  refine wpQuiet_nil ?_
  intro wq hwq
  have hbq := (grown_rules hwq).2.2.2
  have HBq := Lib.hid (below_then HBw4.out hbq)
  clear hwq hbq
  go_wp2_with fail
  all_goals
    go_ret
    exact ⟨ret_int (by rw [HE.out]; omega), HBq.out⟩

set_option maxRecDepth 20000 in
set_option maxHeartbeats 4000000 in
theorem fitted_any (c : Cs) (w : World) : Calls Try.prog 57 #[c.val] w fun e w' => e = .returned (.int .i64 c.fit) ∧ Below w.heap.size w w' := by
  have hle : ∀ w, Calls Try.prog 55 #[.agg c.cells] w fun e w' => e = .returned (.int .i64 c.lea) ∧ Below w.heap.size w w' := fun w => least_any c w
  have hmo : ∀ w, Calls Try.prog 56 #[.agg c.cells] w fun e w' => e = .returned (.int .i64 c.mos) ∧ Below w.heap.size w w' := fun w => most_any c w
  have hfr : ∀ w, Calls Try.prog 43 #[.agg c.cells] w fun e w' => e = .returned (.int .i64 c.fre) ∧ Below w.heap.size w w' := fun w => free_any c w
  have HE : Hid (c.fit = max (min c.mos c.fre) c.lea) := Lib.hid rfl
  generalize c.fit = res at *
  generalize c.fre = fr at *
  generalize c.mos = mo at *
  generalize c.lea = le at *
  rw [c.val_eq]
  go_enter Try.func57, Try.ntmps57
  go_upto_region 1 with fail
  refine at_any (fun wx => Blk wx w.heap.size 29 c.cells ∧ Below w.heap.size w wx) ⟨Blk.new _ _ _, below_alloc (Below.refl _ _) _⟩ ?_
  rintro wx ⟨hbk, hb⟩
  have HBK := Lib.hid hbk
  have HB := Lib.hid hb
  clear hbk hb
  have xl := HBK.out.lt
  refine wp_region_ext (by kernel_rfl) (by kernel_rfl) ?_
  repeat (first
    | (refine wpQuiet_load_whole (by simp [Region.wanted]) 29 (.tmp 1) rfl w.heap.size rfl HBK.out Try.underlying29 rfl (by kernel_rfl) ?_
       simp only [Act.put, List.setIfInBounds_toArray, List.set_cons_zero, List.set_cons_succ])
    | (go_big_quiet_step ((first | (go_at_call 55; exact quiet_ext (hle _)) | (go_at_call 56; exact quiet_ext (hmo _)) | (go_at_call 43; exact quiet_ext (hfr _))))))
  refine wpQuiet_nil ?_
  intro wq hwq
  have hbq := (grown_rules hwq).2.2.2
  have HBq := Lib.hid (below_then HB.out hbq)
  clear hwq hbq
  go_wp2_with fail
  all_goals
    go_ret
    exact ⟨ret_int (by rw [HE.out]; omega), HBq.out⟩

end Go.Proofs.Ytdddlnemlpgnlaa
