/- Sizing, known: sizes, words and numbers where nothing is told. -/
import Derived.Test.YtdddlnemlpgnlaaSizeKnD
namespace Go.Proofs.Ytdddlnemlpgnlaa
open Go.RowKit
set_option linter.unusedSimpArgs false
set_option linter.unusedVariables false
attribute [local go_sem] cell?_ext frozen?_ext lt_size_ext

theorem RSizes_3 (a b f : Int) (w : World) : Calls Try.prog 68 #[.slice none 0 0, .int .i64 3, .agg #[.int .i64 a, .int .i64 b], .int .i64 f, .int .i64 0, .int .i64 0] w fun e w' => e = .returned (.agg #[.int .i64 0, .int .i64 0]) ∧ Below w.heap.size w w' := by
  have hsz : ∀ w, Calls Try.prog 77 #[.agg #[.int .i64 1, .int .i64 1, .int .i64 0, .string { data := #[] }], .bool false, .int .i64 f, .int .i64 0, .int .i64 0] w fun e w' => e = .returned (.agg #[.int .i64 0, .int .i64 0]) ∧ Below w.heap.size w w' := fun w => RSize17_word 1 0 (by omega) (by omega) rfl (by decide +kernel) _ _ w
  have HSZ := Lib.hid hsz
  have HHA := Lib.hid (RHas_any 3 1 1 0 (by decide) (by decide) (by decide) RFirst_3)
  clear hsz
  go_enter Try.func68, Try.ntmps68
  go_upto_region 1 with fail
  refine at_any (fun wx => Blk wx (w.heap.size + 1) 23 #[.int .i64 0, .int .i64 0] ∧ Below w.heap.size w wx) ⟨Blk.new_at (by simp), below_alloc (below_alloc (Below.refl _ _) _) _⟩ ?_
  rintro wx ⟨hbr, hb⟩
  have HBR := Lib.hid hbr
  have HB := Lib.hid hb
  clear hbr hb
  go_wp2_with fail
  refine (HHA.out _).mono ?_; rintro e w2 ⟨rfl, hb2⟩
  have HBR2 := Lib.hid (HBR.out.then_ hb2)
  have HB2 := Lib.hid (below_then HB.out hb2)
  clear hb2
  go_wp2_with fail
  refine (HSZ.out _).mono ?_; rintro e w3 ⟨rfl, hb3⟩
  have HBR3 := Lib.hid ((HBR2.out.alloc _).then_ hb3)
  have HB3 := Lib.hid (below_then (below_alloc HB2.out _) hb3)
  clear hb3
  have y0 : w3.cell? ⟨w.heap.size + 1, 0, none⟩ = some (.int .i64 0) := HBR3.out.cell 0
  have y1 : w3.cell? ⟨w.heap.size + 1, 1, none⟩ = some (.int .i64 0) := HBR3.out.cell 1
  have z0 : w3.frozen? ⟨w.heap.size + 1, 0, none⟩ = false := HBR3.out.frozen 0
  have z1 : w3.frozen? ⟨w.heap.size + 1, 1, none⟩ = false := HBR3.out.frozen 1
  go_wp2_with fail
  exact bodyPost_ret (v := .agg #[.int .i64 0, .int .i64 0]) (results_cell rfl rfl ((HBR3.out.put 0 (.int .i64 0)).put 1 (.int .i64 0)) Try.underlying23 rfl (by kernel_rfl)) rfl
    ⟨rfl, below_set (below_set HB3.out (by show w.heap.size ≤ w.heap.size + 1; omega) _) (by show w.heap.size ≤ w.heap.size + 1; omega) _⟩
theorem RSizes_4 (a b f : Int) (w : World) : Calls Try.prog 68 #[.slice none 0 0, .int .i64 4, .agg #[.int .i64 a, .int .i64 b], .int .i64 f, .int .i64 0, .int .i64 0] w fun e w' => e = .returned (.agg #[.int .i64 0, .int .i64 0]) ∧ Below w.heap.size w w' := by
  have hsz : ∀ w, Calls Try.prog 77 #[.agg #[.int .i64 1, .int .i64 1, .int .i64 0, .string { data := #[] }], .bool false, .int .i64 f, .int .i64 0, .int .i64 0] w fun e w' => e = .returned (.agg #[.int .i64 0, .int .i64 0]) ∧ Below w.heap.size w w' := fun w => RSize17_word 1 0 (by omega) (by omega) rfl (by decide +kernel) _ _ w
  have HSZ := Lib.hid hsz
  have HHA := Lib.hid (RHas_any 4 1 1 0 (by decide) (by decide) (by decide) RFirst_4)
  clear hsz
  go_enter Try.func68, Try.ntmps68
  go_upto_region 1 with fail
  refine at_any (fun wx => Blk wx (w.heap.size + 1) 23 #[.int .i64 0, .int .i64 0] ∧ Below w.heap.size w wx) ⟨Blk.new_at (by simp), below_alloc (below_alloc (Below.refl _ _) _) _⟩ ?_
  rintro wx ⟨hbr, hb⟩
  have HBR := Lib.hid hbr
  have HB := Lib.hid hb
  clear hbr hb
  go_wp2_with fail
  refine (HHA.out _).mono ?_; rintro e w2 ⟨rfl, hb2⟩
  have HBR2 := Lib.hid (HBR.out.then_ hb2)
  have HB2 := Lib.hid (below_then HB.out hb2)
  clear hb2
  go_wp2_with fail
  refine (HSZ.out _).mono ?_; rintro e w3 ⟨rfl, hb3⟩
  have HBR3 := Lib.hid ((HBR2.out.alloc _).then_ hb3)
  have HB3 := Lib.hid (below_then (below_alloc HB2.out _) hb3)
  clear hb3
  have y0 : w3.cell? ⟨w.heap.size + 1, 0, none⟩ = some (.int .i64 0) := HBR3.out.cell 0
  have y1 : w3.cell? ⟨w.heap.size + 1, 1, none⟩ = some (.int .i64 0) := HBR3.out.cell 1
  have z0 : w3.frozen? ⟨w.heap.size + 1, 0, none⟩ = false := HBR3.out.frozen 0
  have z1 : w3.frozen? ⟨w.heap.size + 1, 1, none⟩ = false := HBR3.out.frozen 1
  go_wp2_with fail
  exact bodyPost_ret (v := .agg #[.int .i64 0, .int .i64 0]) (results_cell rfl rfl ((HBR3.out.put 0 (.int .i64 0)).put 1 (.int .i64 0)) Try.underlying23 rfl (by kernel_rfl)) rfl
    ⟨rfl, below_set (below_set HB3.out (by show w.heap.size ≤ w.heap.size + 1; omega) _) (by show w.heap.size ≤ w.heap.size + 1; omega) _⟩
theorem RSizes_5 (a b f : Int) (w : World) : Calls Try.prog 68 #[.slice none 0 0, .int .i64 5, .agg #[.int .i64 a, .int .i64 b], .int .i64 f, .int .i64 0, .int .i64 0] w fun e w' => e = .returned (.agg #[.int .i64 0, .int .i64 0]) ∧ Below w.heap.size w w' := by
  have hsz : ∀ w, Calls Try.prog 77 #[.agg #[.int .i64 1, .int .i64 1, .int .i64 0, .string { data := #[] }], .bool false, .int .i64 f, .int .i64 0, .int .i64 0] w fun e w' => e = .returned (.agg #[.int .i64 0, .int .i64 0]) ∧ Below w.heap.size w w' := fun w => RSize17_word 1 0 (by omega) (by omega) rfl (by decide +kernel) _ _ w
  have HSZ := Lib.hid hsz
  have HHA := Lib.hid (RHas_any 5 1 1 0 (by decide) (by decide) (by decide) RFirst_5)
  clear hsz
  go_enter Try.func68, Try.ntmps68
  go_upto_region 1 with fail
  refine at_any (fun wx => Blk wx (w.heap.size + 1) 23 #[.int .i64 0, .int .i64 0] ∧ Below w.heap.size w wx) ⟨Blk.new_at (by simp), below_alloc (below_alloc (Below.refl _ _) _) _⟩ ?_
  rintro wx ⟨hbr, hb⟩
  have HBR := Lib.hid hbr
  have HB := Lib.hid hb
  clear hbr hb
  go_wp2_with fail
  refine (HHA.out _).mono ?_; rintro e w2 ⟨rfl, hb2⟩
  have HBR2 := Lib.hid (HBR.out.then_ hb2)
  have HB2 := Lib.hid (below_then HB.out hb2)
  clear hb2
  go_wp2_with fail
  refine (HSZ.out _).mono ?_; rintro e w3 ⟨rfl, hb3⟩
  have HBR3 := Lib.hid ((HBR2.out.alloc _).then_ hb3)
  have HB3 := Lib.hid (below_then (below_alloc HB2.out _) hb3)
  clear hb3
  have y0 : w3.cell? ⟨w.heap.size + 1, 0, none⟩ = some (.int .i64 0) := HBR3.out.cell 0
  have y1 : w3.cell? ⟨w.heap.size + 1, 1, none⟩ = some (.int .i64 0) := HBR3.out.cell 1
  have z0 : w3.frozen? ⟨w.heap.size + 1, 0, none⟩ = false := HBR3.out.frozen 0
  have z1 : w3.frozen? ⟨w.heap.size + 1, 1, none⟩ = false := HBR3.out.frozen 1
  go_wp2_with fail
  exact bodyPost_ret (v := .agg #[.int .i64 0, .int .i64 0]) (results_cell rfl rfl ((HBR3.out.put 0 (.int .i64 0)).put 1 (.int .i64 0)) Try.underlying23 rfl (by kernel_rfl)) rfl
    ⟨rfl, below_set (below_set HB3.out (by show w.heap.size ≤ w.heap.size + 1; omega) _) (by show w.heap.size ≤ w.heap.size + 1; omega) _⟩
theorem RSizes_6 (a b f : Int) (w : World) : Calls Try.prog 68 #[.slice none 0 0, .int .i64 6, .agg #[.int .i64 a, .int .i64 b], .int .i64 f, .int .i64 0, .int .i64 0] w fun e w' => e = .returned (.agg #[.int .i64 0, .int .i64 0]) ∧ Below w.heap.size w w' := by
  have hsz : ∀ w, Calls Try.prog 77 #[.agg #[.int .i64 1, .int .i64 1, .int .i64 0, .string { data := #[] }], .bool false, .int .i64 f, .int .i64 0, .int .i64 0] w fun e w' => e = .returned (.agg #[.int .i64 0, .int .i64 0]) ∧ Below w.heap.size w w' := fun w => RSize17_word 1 0 (by omega) (by omega) rfl (by decide +kernel) _ _ w
  have HSZ := Lib.hid hsz
  have HHA := Lib.hid (RHas_any 6 1 1 0 (by decide) (by decide) (by decide) RFirst_6)
  clear hsz
  go_enter Try.func68, Try.ntmps68
  go_upto_region 1 with fail
  refine at_any (fun wx => Blk wx (w.heap.size + 1) 23 #[.int .i64 0, .int .i64 0] ∧ Below w.heap.size w wx) ⟨Blk.new_at (by simp), below_alloc (below_alloc (Below.refl _ _) _) _⟩ ?_
  rintro wx ⟨hbr, hb⟩
  have HBR := Lib.hid hbr
  have HB := Lib.hid hb
  clear hbr hb
  go_wp2_with fail
  refine (HHA.out _).mono ?_; rintro e w2 ⟨rfl, hb2⟩
  have HBR2 := Lib.hid (HBR.out.then_ hb2)
  have HB2 := Lib.hid (below_then HB.out hb2)
  clear hb2
  go_wp2_with fail
  refine (HSZ.out _).mono ?_; rintro e w3 ⟨rfl, hb3⟩
  have HBR3 := Lib.hid ((HBR2.out.alloc _).then_ hb3)
  have HB3 := Lib.hid (below_then (below_alloc HB2.out _) hb3)
  clear hb3
  have y0 : w3.cell? ⟨w.heap.size + 1, 0, none⟩ = some (.int .i64 0) := HBR3.out.cell 0
  have y1 : w3.cell? ⟨w.heap.size + 1, 1, none⟩ = some (.int .i64 0) := HBR3.out.cell 1
  have z0 : w3.frozen? ⟨w.heap.size + 1, 0, none⟩ = false := HBR3.out.frozen 0
  have z1 : w3.frozen? ⟨w.heap.size + 1, 1, none⟩ = false := HBR3.out.frozen 1
  go_wp2_with fail
  exact bodyPost_ret (v := .agg #[.int .i64 0, .int .i64 0]) (results_cell rfl rfl ((HBR3.out.put 0 (.int .i64 0)).put 1 (.int .i64 0)) Try.underlying23 rfl (by kernel_rfl)) rfl
    ⟨rfl, below_set (below_set HB3.out (by show w.heap.size ≤ w.heap.size + 1; omega) _) (by show w.heap.size ≤ w.heap.size + 1; omega) _⟩
theorem RSizes_7 (a b f : Int) (w : World) : Calls Try.prog 68 #[.slice none 0 0, .int .i64 7, .agg #[.int .i64 a, .int .i64 b], .int .i64 f, .int .i64 0, .int .i64 0] w fun e w' => e = .returned (.agg #[.int .i64 6, .int .i64 0]) ∧ Below w.heap.size w w' := by
  have hsz : ∀ w, Calls Try.prog 77 #[.agg #[.int .i64 1, .int .i64 2, .int .i64 0, .string { data := #[] }], .bool false, .int .i64 f, .int .i64 0, .int .i64 0] w fun e w' => e = .returned (.agg #[.int .i64 6, .int .i64 0]) ∧ Below w.heap.size w w' := fun w => RSize17_word 2 6 (by omega) (by omega) rfl (by decide +kernel) _ _ w
  have HSZ := Lib.hid hsz
  have HHA := Lib.hid (RHas_any 7 1 2 0 (by decide) (by decide) (by decide) RFirst_7)
  clear hsz
  go_enter Try.func68, Try.ntmps68
  go_upto_region 1 with fail
  refine at_any (fun wx => Blk wx (w.heap.size + 1) 23 #[.int .i64 0, .int .i64 0] ∧ Below w.heap.size w wx) ⟨Blk.new_at (by simp), below_alloc (below_alloc (Below.refl _ _) _) _⟩ ?_
  rintro wx ⟨hbr, hb⟩
  have HBR := Lib.hid hbr
  have HB := Lib.hid hb
  clear hbr hb
  go_wp2_with fail
  refine (HHA.out _).mono ?_; rintro e w2 ⟨rfl, hb2⟩
  have HBR2 := Lib.hid (HBR.out.then_ hb2)
  have HB2 := Lib.hid (below_then HB.out hb2)
  clear hb2
  go_wp2_with fail
  refine (HSZ.out _).mono ?_; rintro e w3 ⟨rfl, hb3⟩
  have HBR3 := Lib.hid ((HBR2.out.alloc _).then_ hb3)
  have HB3 := Lib.hid (below_then (below_alloc HB2.out _) hb3)
  clear hb3
  have y0 : w3.cell? ⟨w.heap.size + 1, 0, none⟩ = some (.int .i64 0) := HBR3.out.cell 0
  have y1 : w3.cell? ⟨w.heap.size + 1, 1, none⟩ = some (.int .i64 0) := HBR3.out.cell 1
  have z0 : w3.frozen? ⟨w.heap.size + 1, 0, none⟩ = false := HBR3.out.frozen 0
  have z1 : w3.frozen? ⟨w.heap.size + 1, 1, none⟩ = false := HBR3.out.frozen 1
  go_wp2_with fail
  exact bodyPost_ret (v := .agg #[.int .i64 6, .int .i64 0]) (results_cell rfl rfl ((HBR3.out.put 0 (.int .i64 6)).put 1 (.int .i64 0)) Try.underlying23 rfl (by kernel_rfl)) rfl
    ⟨rfl, below_set (below_set HB3.out (by show w.heap.size ≤ w.heap.size + 1; omega) _) (by show w.heap.size ≤ w.heap.size + 1; omega) _⟩
theorem RSizes_8 (a b f : Int) (w : World) : Calls Try.prog 68 #[.slice none 0 0, .int .i64 8, .agg #[.int .i64 a, .int .i64 b], .int .i64 f, .int .i64 0, .int .i64 0] w fun e w' => e = .returned (.agg #[.int .i64 6, .int .i64 0]) ∧ Below w.heap.size w w' := by
  have hsz : ∀ w, Calls Try.prog 77 #[.agg #[.int .i64 1, .int .i64 2, .int .i64 0, .string { data := #[] }], .bool false, .int .i64 f, .int .i64 0, .int .i64 0] w fun e w' => e = .returned (.agg #[.int .i64 6, .int .i64 0]) ∧ Below w.heap.size w w' := fun w => RSize17_word 2 6 (by omega) (by omega) rfl (by decide +kernel) _ _ w
  have HSZ := Lib.hid hsz
  have HHA := Lib.hid (RHas_any 8 1 2 0 (by decide) (by decide) (by decide) RFirst_8)
  clear hsz
  go_enter Try.func68, Try.ntmps68
  go_upto_region 1 with fail
  refine at_any (fun wx => Blk wx (w.heap.size + 1) 23 #[.int .i64 0, .int .i64 0] ∧ Below w.heap.size w wx) ⟨Blk.new_at (by simp), below_alloc (below_alloc (Below.refl _ _) _) _⟩ ?_
  rintro wx ⟨hbr, hb⟩
  have HBR := Lib.hid hbr
  have HB := Lib.hid hb
  clear hbr hb
  go_wp2_with fail
  refine (HHA.out _).mono ?_; rintro e w2 ⟨rfl, hb2⟩
  have HBR2 := Lib.hid (HBR.out.then_ hb2)
  have HB2 := Lib.hid (below_then HB.out hb2)
  clear hb2
  go_wp2_with fail
  refine (HSZ.out _).mono ?_; rintro e w3 ⟨rfl, hb3⟩
  have HBR3 := Lib.hid ((HBR2.out.alloc _).then_ hb3)
  have HB3 := Lib.hid (below_then (below_alloc HB2.out _) hb3)
  clear hb3
  have y0 : w3.cell? ⟨w.heap.size + 1, 0, none⟩ = some (.int .i64 0) := HBR3.out.cell 0
  have y1 : w3.cell? ⟨w.heap.size + 1, 1, none⟩ = some (.int .i64 0) := HBR3.out.cell 1
  have z0 : w3.frozen? ⟨w.heap.size + 1, 0, none⟩ = false := HBR3.out.frozen 0
  have z1 : w3.frozen? ⟨w.heap.size + 1, 1, none⟩ = false := HBR3.out.frozen 1
  go_wp2_with fail
  exact bodyPost_ret (v := .agg #[.int .i64 6, .int .i64 0]) (results_cell rfl rfl ((HBR3.out.put 0 (.int .i64 6)).put 1 (.int .i64 0)) Try.underlying23 rfl (by kernel_rfl)) rfl
    ⟨rfl, below_set (below_set HB3.out (by show w.heap.size ≤ w.heap.size + 1; omega) _) (by show w.heap.size ≤ w.heap.size + 1; omega) _⟩
theorem RSizes_9 (a b f : Int) (w : World) : Calls Try.prog 68 #[.slice none 0 0, .int .i64 9, .agg #[.int .i64 a, .int .i64 b], .int .i64 f, .int .i64 0, .int .i64 0] w fun e w' => e = .returned (.agg #[.int .i64 1, .int .i64 0]) ∧ Below w.heap.size w w' := by
  have hsz : ∀ w, Calls Try.prog 77 #[.agg #[.int .i64 2, .int .i64 0, .int .i64 1, .string { data := #[] }], .bool true, .int .i64 f, .int .i64 0, .int .i64 0] w fun e w' => e = .returned (.agg #[.int .i64 1, .int .i64 0]) ∧ Below w.heap.size w w' := fun w => RSize17_len_true _ w
  have HSZ := Lib.hid hsz
  have HHA := Lib.hid (RHas_any 9 2 0 1 (by decide) (by decide) (by decide) RFirst_9)
  clear hsz
  go_enter Try.func68, Try.ntmps68
  go_upto_region 1 with fail
  refine at_any (fun wx => Blk wx (w.heap.size + 1) 23 #[.int .i64 0, .int .i64 0] ∧ Below w.heap.size w wx) ⟨Blk.new_at (by simp), below_alloc (below_alloc (Below.refl _ _) _) _⟩ ?_
  rintro wx ⟨hbr, hb⟩
  have HBR := Lib.hid hbr
  have HB := Lib.hid hb
  clear hbr hb
  go_wp2_with fail
  refine (HHA.out _).mono ?_; rintro e w2 ⟨rfl, hb2⟩
  have HBR2 := Lib.hid (HBR.out.then_ hb2)
  have HB2 := Lib.hid (below_then HB.out hb2)
  clear hb2
  go_wp2_with fail
  refine (HSZ.out _).mono ?_; rintro e w3 ⟨rfl, hb3⟩
  have HBR3 := Lib.hid ((HBR2.out.alloc _).then_ hb3)
  have HB3 := Lib.hid (below_then (below_alloc HB2.out _) hb3)
  clear hb3
  have y0 : w3.cell? ⟨w.heap.size + 1, 0, none⟩ = some (.int .i64 0) := HBR3.out.cell 0
  have y1 : w3.cell? ⟨w.heap.size + 1, 1, none⟩ = some (.int .i64 0) := HBR3.out.cell 1
  have z0 : w3.frozen? ⟨w.heap.size + 1, 0, none⟩ = false := HBR3.out.frozen 0
  have z1 : w3.frozen? ⟨w.heap.size + 1, 1, none⟩ = false := HBR3.out.frozen 1
  go_wp2_with fail
  exact bodyPost_ret (v := .agg #[.int .i64 1, .int .i64 0]) (results_cell rfl rfl ((HBR3.out.put 0 (.int .i64 1)).put 1 (.int .i64 0)) Try.underlying23 rfl (by kernel_rfl)) rfl
    ⟨rfl, below_set (below_set HB3.out (by show w.heap.size ≤ w.heap.size + 1; omega) _) (by show w.heap.size ≤ w.heap.size + 1; omega) _⟩
theorem RSizes_10 (a b f : Int) (w : World) : Calls Try.prog 68 #[.slice none 0 0, .int .i64 10, .agg #[.int .i64 a, .int .i64 b], .int .i64 f, .int .i64 0, .int .i64 0] w fun e w' => e = .returned (.agg #[.int .i64 1, .int .i64 0]) ∧ Below w.heap.size w w' := by
  have hsz : ∀ w, Calls Try.prog 77 #[.agg #[.int .i64 2, .int .i64 0, .int .i64 1, .string { data := #[] }], .bool true, .int .i64 f, .int .i64 0, .int .i64 0] w fun e w' => e = .returned (.agg #[.int .i64 1, .int .i64 0]) ∧ Below w.heap.size w w' := fun w => RSize17_len_true _ w
  have HSZ := Lib.hid hsz
  have HHA := Lib.hid (RHas_any 10 2 0 1 (by decide) (by decide) (by decide) RFirst_10)
  clear hsz
  go_enter Try.func68, Try.ntmps68
  go_upto_region 1 with fail
  refine at_any (fun wx => Blk wx (w.heap.size + 1) 23 #[.int .i64 0, .int .i64 0] ∧ Below w.heap.size w wx) ⟨Blk.new_at (by simp), below_alloc (below_alloc (Below.refl _ _) _) _⟩ ?_
  rintro wx ⟨hbr, hb⟩
  have HBR := Lib.hid hbr
  have HB := Lib.hid hb
  clear hbr hb
  go_wp2_with fail
  refine (HHA.out _).mono ?_; rintro e w2 ⟨rfl, hb2⟩
  have HBR2 := Lib.hid (HBR.out.then_ hb2)
  have HB2 := Lib.hid (below_then HB.out hb2)
  clear hb2
  go_wp2_with fail
  refine (HSZ.out _).mono ?_; rintro e w3 ⟨rfl, hb3⟩
  have HBR3 := Lib.hid ((HBR2.out.alloc _).then_ hb3)
  have HB3 := Lib.hid (below_then (below_alloc HB2.out _) hb3)
  clear hb3
  have y0 : w3.cell? ⟨w.heap.size + 1, 0, none⟩ = some (.int .i64 0) := HBR3.out.cell 0
  have y1 : w3.cell? ⟨w.heap.size + 1, 1, none⟩ = some (.int .i64 0) := HBR3.out.cell 1
  have z0 : w3.frozen? ⟨w.heap.size + 1, 0, none⟩ = false := HBR3.out.frozen 0
  have z1 : w3.frozen? ⟨w.heap.size + 1, 1, none⟩ = false := HBR3.out.frozen 1
  go_wp2_with fail
  exact bodyPost_ret (v := .agg #[.int .i64 1, .int .i64 0]) (results_cell rfl rfl ((HBR3.out.put 0 (.int .i64 1)).put 1 (.int .i64 0)) Try.underlying23 rfl (by kernel_rfl)) rfl
    ⟨rfl, below_set (below_set HB3.out (by show w.heap.size ≤ w.heap.size + 1; omega) _) (by show w.heap.size ≤ w.heap.size + 1; omega) _⟩
theorem RSizes_11 (a b f : Int) (w : World) : Calls Try.prog 68 #[.slice none 0 0, .int .i64 11, .agg #[.int .i64 a, .int .i64 b], .int .i64 f, .int .i64 0, .int .i64 0] w fun e w' => e = .returned (.agg #[.int .i64 1, .int .i64 0]) ∧ Below w.heap.size w w' := by
  have hsz : ∀ w, Calls Try.prog 77 #[.agg #[.int .i64 2, .int .i64 0, .int .i64 1, .string { data := #[] }], .bool true, .int .i64 f, .int .i64 0, .int .i64 0] w fun e w' => e = .returned (.agg #[.int .i64 1, .int .i64 0]) ∧ Below w.heap.size w w' := fun w => RSize17_len_true _ w
  have HSZ := Lib.hid hsz
  have HHA := Lib.hid (RHas_any 11 2 0 1 (by decide) (by decide) (by decide) RFirst_11)
  clear hsz
  go_enter Try.func68, Try.ntmps68
  go_upto_region 1 with fail
  refine at_any (fun wx => Blk wx (w.heap.size + 1) 23 #[.int .i64 0, .int .i64 0] ∧ Below w.heap.size w wx) ⟨Blk.new_at (by simp), below_alloc (below_alloc (Below.refl _ _) _) _⟩ ?_
  rintro wx ⟨hbr, hb⟩
  have HBR := Lib.hid hbr
  have HB := Lib.hid hb
  clear hbr hb
  go_wp2_with fail
  refine (HHA.out _).mono ?_; rintro e w2 ⟨rfl, hb2⟩
  have HBR2 := Lib.hid (HBR.out.then_ hb2)
  have HB2 := Lib.hid (below_then HB.out hb2)
  clear hb2
  go_wp2_with fail
  refine (HSZ.out _).mono ?_; rintro e w3 ⟨rfl, hb3⟩
  have HBR3 := Lib.hid ((HBR2.out.alloc _).then_ hb3)
  have HB3 := Lib.hid (below_then (below_alloc HB2.out _) hb3)
  clear hb3
  have y0 : w3.cell? ⟨w.heap.size + 1, 0, none⟩ = some (.int .i64 0) := HBR3.out.cell 0
  have y1 : w3.cell? ⟨w.heap.size + 1, 1, none⟩ = some (.int .i64 0) := HBR3.out.cell 1
  have z0 : w3.frozen? ⟨w.heap.size + 1, 0, none⟩ = false := HBR3.out.frozen 0
  have z1 : w3.frozen? ⟨w.heap.size + 1, 1, none⟩ = false := HBR3.out.frozen 1
  go_wp2_with fail
  exact bodyPost_ret (v := .agg #[.int .i64 1, .int .i64 0]) (results_cell rfl rfl ((HBR3.out.put 0 (.int .i64 1)).put 1 (.int .i64 0)) Try.underlying23 rfl (by kernel_rfl)) rfl
    ⟨rfl, below_set (below_set HB3.out (by show w.heap.size ≤ w.heap.size + 1; omega) _) (by show w.heap.size ≤ w.heap.size + 1; omega) _⟩
theorem RSizes_12 (a b f : Int) (w : World) : Calls Try.prog 68 #[.slice none 0 0, .int .i64 12, .agg #[.int .i64 a, .int .i64 b], .int .i64 f, .int .i64 0, .int .i64 0] w fun e w' => e = .returned (.agg #[.int .i64 1, .int .i64 0]) ∧ Below w.heap.size w w' := by
  have hsz : ∀ w, Calls Try.prog 77 #[.agg #[.int .i64 2, .int .i64 0, .int .i64 1, .string { data := #[] }], .bool true, .int .i64 f, .int .i64 0, .int .i64 0] w fun e w' => e = .returned (.agg #[.int .i64 1, .int .i64 0]) ∧ Below w.heap.size w w' := fun w => RSize17_len_true _ w
  have HSZ := Lib.hid hsz
  have HHA := Lib.hid (RHas_any 12 2 0 1 (by decide) (by decide) (by decide) RFirst_12)
  clear hsz
  go_enter Try.func68, Try.ntmps68
  go_upto_region 1 with fail
  refine at_any (fun wx => Blk wx (w.heap.size + 1) 23 #[.int .i64 0, .int .i64 0] ∧ Below w.heap.size w wx) ⟨Blk.new_at (by simp), below_alloc (below_alloc (Below.refl _ _) _) _⟩ ?_
  rintro wx ⟨hbr, hb⟩
  have HBR := Lib.hid hbr
  have HB := Lib.hid hb
  clear hbr hb
  go_wp2_with fail
  refine (HHA.out _).mono ?_; rintro e w2 ⟨rfl, hb2⟩
  have HBR2 := Lib.hid (HBR.out.then_ hb2)
  have HB2 := Lib.hid (below_then HB.out hb2)
  clear hb2
  go_wp2_with fail
  refine (HSZ.out _).mono ?_; rintro e w3 ⟨rfl, hb3⟩
  have HBR3 := Lib.hid ((HBR2.out.alloc _).then_ hb3)
  have HB3 := Lib.hid (below_then (below_alloc HB2.out _) hb3)
  clear hb3
  have y0 : w3.cell? ⟨w.heap.size + 1, 0, none⟩ = some (.int .i64 0) := HBR3.out.cell 0
  have y1 : w3.cell? ⟨w.heap.size + 1, 1, none⟩ = some (.int .i64 0) := HBR3.out.cell 1
  have z0 : w3.frozen? ⟨w.heap.size + 1, 0, none⟩ = false := HBR3.out.frozen 0
  have z1 : w3.frozen? ⟨w.heap.size + 1, 1, none⟩ = false := HBR3.out.frozen 1
  go_wp2_with fail
  exact bodyPost_ret (v := .agg #[.int .i64 1, .int .i64 0]) (results_cell rfl rfl ((HBR3.out.put 0 (.int .i64 1)).put 1 (.int .i64 0)) Try.underlying23 rfl (by kernel_rfl)) rfl
    ⟨rfl, below_set (below_set HB3.out (by show w.heap.size ≤ w.heap.size + 1; omega) _) (by show w.heap.size ≤ w.heap.size + 1; omega) _⟩
theorem RSizes_13 (a b f : Int) (w : World) : Calls Try.prog 68 #[.slice none 0 0, .int .i64 13, .agg #[.int .i64 a, .int .i64 b], .int .i64 f, .int .i64 0, .int .i64 0] w fun e w' => e = .returned (.agg #[.int .i64 1, .int .i64 0]) ∧ Below w.heap.size w w' := by
  have hsz : ∀ w, Calls Try.prog 77 #[.agg #[.int .i64 2, .int .i64 0, .int .i64 1, .string { data := #[] }], .bool false, .int .i64 f, .int .i64 0, .int .i64 0] w fun e w' => e = .returned (.agg #[.int .i64 1, .int .i64 0]) ∧ Below w.heap.size w w' := fun w => RSize17_len_false _ w
  have HSZ := Lib.hid hsz
  have HHA := Lib.hid (RHas_any 13 2 0 1 (by decide) (by decide) (by decide) RFirst_13)
  clear hsz
  go_enter Try.func68, Try.ntmps68
  go_upto_region 1 with fail
  refine at_any (fun wx => Blk wx (w.heap.size + 1) 23 #[.int .i64 0, .int .i64 0] ∧ Below w.heap.size w wx) ⟨Blk.new_at (by simp), below_alloc (below_alloc (Below.refl _ _) _) _⟩ ?_
  rintro wx ⟨hbr, hb⟩
  have HBR := Lib.hid hbr
  have HB := Lib.hid hb
  clear hbr hb
  go_wp2_with fail
  refine (HHA.out _).mono ?_; rintro e w2 ⟨rfl, hb2⟩
  have HBR2 := Lib.hid (HBR.out.then_ hb2)
  have HB2 := Lib.hid (below_then HB.out hb2)
  clear hb2
  go_wp2_with fail
  refine (HSZ.out _).mono ?_; rintro e w3 ⟨rfl, hb3⟩
  have HBR3 := Lib.hid ((HBR2.out.alloc _).then_ hb3)
  have HB3 := Lib.hid (below_then (below_alloc HB2.out _) hb3)
  clear hb3
  have y0 : w3.cell? ⟨w.heap.size + 1, 0, none⟩ = some (.int .i64 0) := HBR3.out.cell 0
  have y1 : w3.cell? ⟨w.heap.size + 1, 1, none⟩ = some (.int .i64 0) := HBR3.out.cell 1
  have z0 : w3.frozen? ⟨w.heap.size + 1, 0, none⟩ = false := HBR3.out.frozen 0
  have z1 : w3.frozen? ⟨w.heap.size + 1, 1, none⟩ = false := HBR3.out.frozen 1
  go_wp2_with fail
  exact bodyPost_ret (v := .agg #[.int .i64 1, .int .i64 0]) (results_cell rfl rfl ((HBR3.out.put 0 (.int .i64 1)).put 1 (.int .i64 0)) Try.underlying23 rfl (by kernel_rfl)) rfl
    ⟨rfl, below_set (below_set HB3.out (by show w.heap.size ≤ w.heap.size + 1; omega) _) (by show w.heap.size ≤ w.heap.size + 1; omega) _⟩
theorem RSizes_14 (a b f : Int) (w : World) : Calls Try.prog 68 #[.slice none 0 0, .int .i64 14, .agg #[.int .i64 a, .int .i64 b], .int .i64 f, .int .i64 0, .int .i64 0] w fun e w' => e = .returned (.agg #[.int .i64 1, .int .i64 0]) ∧ Below w.heap.size w w' := by
  have hsz : ∀ w, Calls Try.prog 77 #[.agg #[.int .i64 2, .int .i64 0, .int .i64 1, .string { data := #[] }], .bool false, .int .i64 f, .int .i64 0, .int .i64 0] w fun e w' => e = .returned (.agg #[.int .i64 1, .int .i64 0]) ∧ Below w.heap.size w w' := fun w => RSize17_len_false _ w
  have HSZ := Lib.hid hsz
  have HHA := Lib.hid (RHas_any 14 2 0 1 (by decide) (by decide) (by decide) RFirst_14)
  clear hsz
  go_enter Try.func68, Try.ntmps68
  go_upto_region 1 with fail
  refine at_any (fun wx => Blk wx (w.heap.size + 1) 23 #[.int .i64 0, .int .i64 0] ∧ Below w.heap.size w wx) ⟨Blk.new_at (by simp), below_alloc (below_alloc (Below.refl _ _) _) _⟩ ?_
  rintro wx ⟨hbr, hb⟩
  have HBR := Lib.hid hbr
  have HB := Lib.hid hb
  clear hbr hb
  go_wp2_with fail
  refine (HHA.out _).mono ?_; rintro e w2 ⟨rfl, hb2⟩
  have HBR2 := Lib.hid (HBR.out.then_ hb2)
  have HB2 := Lib.hid (below_then HB.out hb2)
  clear hb2
  go_wp2_with fail
  refine (HSZ.out _).mono ?_; rintro e w3 ⟨rfl, hb3⟩
  have HBR3 := Lib.hid ((HBR2.out.alloc _).then_ hb3)
  have HB3 := Lib.hid (below_then (below_alloc HB2.out _) hb3)
  clear hb3
  have y0 : w3.cell? ⟨w.heap.size + 1, 0, none⟩ = some (.int .i64 0) := HBR3.out.cell 0
  have y1 : w3.cell? ⟨w.heap.size + 1, 1, none⟩ = some (.int .i64 0) := HBR3.out.cell 1
  have z0 : w3.frozen? ⟨w.heap.size + 1, 0, none⟩ = false := HBR3.out.frozen 0
  have z1 : w3.frozen? ⟨w.heap.size + 1, 1, none⟩ = false := HBR3.out.frozen 1
  go_wp2_with fail
  exact bodyPost_ret (v := .agg #[.int .i64 1, .int .i64 0]) (results_cell rfl rfl ((HBR3.out.put 0 (.int .i64 1)).put 1 (.int .i64 0)) Try.underlying23 rfl (by kernel_rfl)) rfl
    ⟨rfl, below_set (below_set HB3.out (by show w.heap.size ≤ w.heap.size + 1; omega) _) (by show w.heap.size ≤ w.heap.size + 1; omega) _⟩
theorem RSizes_15 (a b f : Int) (w : World) : Calls Try.prog 68 #[.slice none 0 0, .int .i64 15, .agg #[.int .i64 a, .int .i64 b], .int .i64 f, .int .i64 0, .int .i64 0] w fun e w' => e = .returned (.agg #[.int .i64 1, .int .i64 0]) ∧ Below w.heap.size w w' := by
  have hsz : ∀ w, Calls Try.prog 77 #[.agg #[.int .i64 2, .int .i64 0, .int .i64 1, .string { data := #[] }], .bool false, .int .i64 f, .int .i64 0, .int .i64 0] w fun e w' => e = .returned (.agg #[.int .i64 1, .int .i64 0]) ∧ Below w.heap.size w w' := fun w => RSize17_len_false _ w
  have HSZ := Lib.hid hsz
  have HHA := Lib.hid (RHas_any 15 2 0 1 (by decide) (by decide) (by decide) RFirst_15)
  clear hsz
  go_enter Try.func68, Try.ntmps68
  go_upto_region 1 with fail
  refine at_any (fun wx => Blk wx (w.heap.size + 1) 23 #[.int .i64 0, .int .i64 0] ∧ Below w.heap.size w wx) ⟨Blk.new_at (by simp), below_alloc (below_alloc (Below.refl _ _) _) _⟩ ?_
  rintro wx ⟨hbr, hb⟩
  have HBR := Lib.hid hbr
  have HB := Lib.hid hb
  clear hbr hb
  go_wp2_with fail
  refine (HHA.out _).mono ?_; rintro e w2 ⟨rfl, hb2⟩
  have HBR2 := Lib.hid (HBR.out.then_ hb2)
  have HB2 := Lib.hid (below_then HB.out hb2)
  clear hb2
  go_wp2_with fail
  refine (HSZ.out _).mono ?_; rintro e w3 ⟨rfl, hb3⟩
  have HBR3 := Lib.hid ((HBR2.out.alloc _).then_ hb3)
  have HB3 := Lib.hid (below_then (below_alloc HB2.out _) hb3)
  clear hb3
  have y0 : w3.cell? ⟨w.heap.size + 1, 0, none⟩ = some (.int .i64 0) := HBR3.out.cell 0
  have y1 : w3.cell? ⟨w.heap.size + 1, 1, none⟩ = some (.int .i64 0) := HBR3.out.cell 1
  have z0 : w3.frozen? ⟨w.heap.size + 1, 0, none⟩ = false := HBR3.out.frozen 0
  have z1 : w3.frozen? ⟨w.heap.size + 1, 1, none⟩ = false := HBR3.out.frozen 1
  go_wp2_with fail
  exact bodyPost_ret (v := .agg #[.int .i64 1, .int .i64 0]) (results_cell rfl rfl ((HBR3.out.put 0 (.int .i64 1)).put 1 (.int .i64 0)) Try.underlying23 rfl (by kernel_rfl)) rfl
    ⟨rfl, below_set (below_set HB3.out (by show w.heap.size ≤ w.heap.size + 1; omega) _) (by show w.heap.size ≤ w.heap.size + 1; omega) _⟩
theorem RSizes_16 (a b f : Int) (w : World) : Calls Try.prog 68 #[.slice none 0 0, .int .i64 16, .agg #[.int .i64 a, .int .i64 b], .int .i64 f, .int .i64 0, .int .i64 0] w fun e w' => e = .returned (.agg #[.int .i64 1, .int .i64 0]) ∧ Below w.heap.size w w' := by
  have hsz : ∀ w, Calls Try.prog 77 #[.agg #[.int .i64 2, .int .i64 0, .int .i64 1, .string { data := #[] }], .bool false, .int .i64 f, .int .i64 0, .int .i64 0] w fun e w' => e = .returned (.agg #[.int .i64 1, .int .i64 0]) ∧ Below w.heap.size w w' := fun w => RSize17_len_false _ w
  have HSZ := Lib.hid hsz
  have HHA := Lib.hid (RHas_any 16 2 0 1 (by decide) (by decide) (by decide) RFirst_16)
  clear hsz
  go_enter Try.func68, Try.ntmps68
  go_upto_region 1 with fail
  refine at_any (fun wx => Blk wx (w.heap.size + 1) 23 #[.int .i64 0, .int .i64 0] ∧ Below w.heap.size w wx) ⟨Blk.new_at (by simp), below_alloc (below_alloc (Below.refl _ _) _) _⟩ ?_
  rintro wx ⟨hbr, hb⟩
  have HBR := Lib.hid hbr
  have HB := Lib.hid hb
  clear hbr hb
  go_wp2_with fail
  refine (HHA.out _).mono ?_; rintro e w2 ⟨rfl, hb2⟩
  have HBR2 := Lib.hid (HBR.out.then_ hb2)
  have HB2 := Lib.hid (below_then HB.out hb2)
  clear hb2
  go_wp2_with fail
  refine (HSZ.out _).mono ?_; rintro e w3 ⟨rfl, hb3⟩
  have HBR3 := Lib.hid ((HBR2.out.alloc _).then_ hb3)
  have HB3 := Lib.hid (below_then (below_alloc HB2.out _) hb3)
  clear hb3
  have y0 : w3.cell? ⟨w.heap.size + 1, 0, none⟩ = some (.int .i64 0) := HBR3.out.cell 0
  have y1 : w3.cell? ⟨w.heap.size + 1, 1, none⟩ = some (.int .i64 0) := HBR3.out.cell 1
  have z0 : w3.frozen? ⟨w.heap.size + 1, 0, none⟩ = false := HBR3.out.frozen 0
  have z1 : w3.frozen? ⟨w.heap.size + 1, 1, none⟩ = false := HBR3.out.frozen 1
  go_wp2_with fail
  exact bodyPost_ret (v := .agg #[.int .i64 1, .int .i64 0]) (results_cell rfl rfl ((HBR3.out.put 0 (.int .i64 1)).put 1 (.int .i64 0)) Try.underlying23 rfl (by kernel_rfl)) rfl
    ⟨rfl, below_set (below_set HB3.out (by show w.heap.size ≤ w.heap.size + 1; omega) _) (by show w.heap.size ≤ w.heap.size + 1; omega) _⟩
theorem RSizes_26 (a b f : Int) (w : World) : Calls Try.prog 68 #[.slice none 0 0, .int .i64 26, .agg #[.int .i64 a, .int .i64 b], .int .i64 f, .int .i64 0, .int .i64 0] w fun e w' => e = .returned (.agg #[.int .i64 0, .int .i64 0]) ∧ Below w.heap.size w w' := by
  have hsz : ∀ w, Calls Try.prog 77 #[.agg #[.int .i64 1, .int .i64 1, .int .i64 0, .string { data := #[] }], .bool false, .int .i64 f, .int .i64 0, .int .i64 0] w fun e w' => e = .returned (.agg #[.int .i64 0, .int .i64 0]) ∧ Below w.heap.size w w' := fun w => RSize17_word 1 0 (by omega) (by omega) rfl (by decide +kernel) _ _ w
  have HSZ := Lib.hid hsz
  have HHA := Lib.hid (RHas_any 26 1 1 0 (by decide) (by decide) (by decide) RFirst_26)
  clear hsz
  go_enter Try.func68, Try.ntmps68
  go_upto_region 1 with fail
  refine at_any (fun wx => Blk wx (w.heap.size + 1) 23 #[.int .i64 0, .int .i64 0] ∧ Below w.heap.size w wx) ⟨Blk.new_at (by simp), below_alloc (below_alloc (Below.refl _ _) _) _⟩ ?_
  rintro wx ⟨hbr, hb⟩
  have HBR := Lib.hid hbr
  have HB := Lib.hid hb
  clear hbr hb
  go_wp2_with fail
  refine (HHA.out _).mono ?_; rintro e w2 ⟨rfl, hb2⟩
  have HBR2 := Lib.hid (HBR.out.then_ hb2)
  have HB2 := Lib.hid (below_then HB.out hb2)
  clear hb2
  go_wp2_with fail
  refine (HSZ.out _).mono ?_; rintro e w3 ⟨rfl, hb3⟩
  have HBR3 := Lib.hid ((HBR2.out.alloc _).then_ hb3)
  have HB3 := Lib.hid (below_then (below_alloc HB2.out _) hb3)
  clear hb3
  have y0 : w3.cell? ⟨w.heap.size + 1, 0, none⟩ = some (.int .i64 0) := HBR3.out.cell 0
  have y1 : w3.cell? ⟨w.heap.size + 1, 1, none⟩ = some (.int .i64 0) := HBR3.out.cell 1
  have z0 : w3.frozen? ⟨w.heap.size + 1, 0, none⟩ = false := HBR3.out.frozen 0
  have z1 : w3.frozen? ⟨w.heap.size + 1, 1, none⟩ = false := HBR3.out.frozen 1
  go_wp2_with fail
  exact bodyPost_ret (v := .agg #[.int .i64 0, .int .i64 0]) (results_cell rfl rfl ((HBR3.out.put 0 (.int .i64 0)).put 1 (.int .i64 0)) Try.underlying23 rfl (by kernel_rfl)) rfl
    ⟨rfl, below_set (below_set HB3.out (by show w.heap.size ≤ w.heap.size + 1; omega) _) (by show w.heap.size ≤ w.heap.size + 1; omega) _⟩
theorem RSizes_32 (a b f : Int) (w : World) : Calls Try.prog 68 #[.slice none 0 0, .int .i64 32, .agg #[.int .i64 a, .int .i64 b], .int .i64 f, .int .i64 0, .int .i64 0] w fun e w' => e = .returned (.agg #[.int .i64 1, .int .i64 0]) ∧ Below w.heap.size w w' := by
  have hsz : ∀ w, Calls Try.prog 77 #[.agg #[.int .i64 1, .int .i64 24, .int .i64 0, .string { data := #[] }], .bool false, .int .i64 f, .int .i64 0, .int .i64 0] w fun e w' => e = .returned (.agg #[.int .i64 1, .int .i64 0]) ∧ Below w.heap.size w w' := fun w => RSize17_word 24 1 (by omega) (by omega) rfl (by decide +kernel) _ _ w
  have HSZ := Lib.hid hsz
  have HHA := Lib.hid (RHas_any 32 1 24 0 (by decide) (by decide) (by decide) RFirst_32)
  clear hsz
  go_enter Try.func68, Try.ntmps68
  go_upto_region 1 with fail
  refine at_any (fun wx => Blk wx (w.heap.size + 1) 23 #[.int .i64 0, .int .i64 0] ∧ Below w.heap.size w wx) ⟨Blk.new_at (by simp), below_alloc (below_alloc (Below.refl _ _) _) _⟩ ?_
  rintro wx ⟨hbr, hb⟩
  have HBR := Lib.hid hbr
  have HB := Lib.hid hb
  clear hbr hb
  go_wp2_with fail
  refine (HHA.out _).mono ?_; rintro e w2 ⟨rfl, hb2⟩
  have HBR2 := Lib.hid (HBR.out.then_ hb2)
  have HB2 := Lib.hid (below_then HB.out hb2)
  clear hb2
  go_wp2_with fail
  refine (HSZ.out _).mono ?_; rintro e w3 ⟨rfl, hb3⟩
  have HBR3 := Lib.hid ((HBR2.out.alloc _).then_ hb3)
  have HB3 := Lib.hid (below_then (below_alloc HB2.out _) hb3)
  clear hb3
  have y0 : w3.cell? ⟨w.heap.size + 1, 0, none⟩ = some (.int .i64 0) := HBR3.out.cell 0
  have y1 : w3.cell? ⟨w.heap.size + 1, 1, none⟩ = some (.int .i64 0) := HBR3.out.cell 1
  have z0 : w3.frozen? ⟨w.heap.size + 1, 0, none⟩ = false := HBR3.out.frozen 0
  have z1 : w3.frozen? ⟨w.heap.size + 1, 1, none⟩ = false := HBR3.out.frozen 1
  go_wp2_with fail
  exact bodyPost_ret (v := .agg #[.int .i64 1, .int .i64 0]) (results_cell rfl rfl ((HBR3.out.put 0 (.int .i64 1)).put 1 (.int .i64 0)) Try.underlying23 rfl (by kernel_rfl)) rfl
    ⟨rfl, below_set (below_set HB3.out (by show w.heap.size ≤ w.heap.size + 1; omega) _) (by show w.heap.size ≤ w.heap.size + 1; omega) _⟩
theorem RSizes_33 (a b f : Int) (w : World) : Calls Try.prog 68 #[.slice none 0 0, .int .i64 33, .agg #[.int .i64 a, .int .i64 b], .int .i64 f, .int .i64 0, .int .i64 0] w fun e w' => e = .returned (.agg #[.int .i64 1, .int .i64 0]) ∧ Below w.heap.size w w' := by
  have hsz : ∀ w, Calls Try.prog 77 #[.agg #[.int .i64 1, .int .i64 24, .int .i64 0, .string { data := #[] }], .bool false, .int .i64 f, .int .i64 0, .int .i64 0] w fun e w' => e = .returned (.agg #[.int .i64 1, .int .i64 0]) ∧ Below w.heap.size w w' := fun w => RSize17_word 24 1 (by omega) (by omega) rfl (by decide +kernel) _ _ w
  have HSZ := Lib.hid hsz
  have HHA := Lib.hid (RHas_any 33 1 24 0 (by decide) (by decide) (by decide) RFirst_33)
  clear hsz
  go_enter Try.func68, Try.ntmps68
  go_upto_region 1 with fail
  refine at_any (fun wx => Blk wx (w.heap.size + 1) 23 #[.int .i64 0, .int .i64 0] ∧ Below w.heap.size w wx) ⟨Blk.new_at (by simp), below_alloc (below_alloc (Below.refl _ _) _) _⟩ ?_
  rintro wx ⟨hbr, hb⟩
  have HBR := Lib.hid hbr
  have HB := Lib.hid hb
  clear hbr hb
  go_wp2_with fail
  refine (HHA.out _).mono ?_; rintro e w2 ⟨rfl, hb2⟩
  have HBR2 := Lib.hid (HBR.out.then_ hb2)
  have HB2 := Lib.hid (below_then HB.out hb2)
  clear hb2
  go_wp2_with fail
  refine (HSZ.out _).mono ?_; rintro e w3 ⟨rfl, hb3⟩
  have HBR3 := Lib.hid ((HBR2.out.alloc _).then_ hb3)
  have HB3 := Lib.hid (below_then (below_alloc HB2.out _) hb3)
  clear hb3
  have y0 : w3.cell? ⟨w.heap.size + 1, 0, none⟩ = some (.int .i64 0) := HBR3.out.cell 0
  have y1 : w3.cell? ⟨w.heap.size + 1, 1, none⟩ = some (.int .i64 0) := HBR3.out.cell 1
  have z0 : w3.frozen? ⟨w.heap.size + 1, 0, none⟩ = false := HBR3.out.frozen 0
  have z1 : w3.frozen? ⟨w.heap.size + 1, 1, none⟩ = false := HBR3.out.frozen 1
  go_wp2_with fail
  exact bodyPost_ret (v := .agg #[.int .i64 1, .int .i64 0]) (results_cell rfl rfl ((HBR3.out.put 0 (.int .i64 1)).put 1 (.int .i64 0)) Try.underlying23 rfl (by kernel_rfl)) rfl
    ⟨rfl, below_set (below_set HB3.out (by show w.heap.size ≤ w.heap.size + 1; omega) _) (by show w.heap.size ≤ w.heap.size + 1; omega) _⟩
theorem RWordsP_1 (w : World) : Calls Try.prog 78 #[.int .i64 1] w fun e w' => e = .returned (.slice (some ⟨w.heap.size, 0, none⟩) 3 3) ∧ w'.cell? ⟨w.heap.size, 0, none⟩ = some (.string (wordAt 3)) ∧ w.heap.size < w'.heap.size ∧ Below w.heap.size w w' := by
  go_enter Try.func78, Try.ntmps78
  go_wp2_with fail
  go_ret
  exact ⟨rfl, (Blk.new _ _ _).cell 0, by simp, below_alloc (Below.refl _ _) _⟩
theorem RWordsP_22 (w : World) : Calls Try.prog 78 #[.int .i64 22] w fun e w' => e = .returned (.slice (some ⟨w.heap.size, 0, none⟩) 4 4) ∧ w'.cell? ⟨w.heap.size, 0, none⟩ = some (.string (wordAt 10)) ∧ w.heap.size < w'.heap.size ∧ Below w.heap.size w w' := by
  go_enter Try.func78, Try.ntmps78
  go_wp2_with fail
  go_ret
  exact ⟨rfl, (Blk.new _ _ _).cell 0, by simp, below_alloc (Below.refl _ _) _⟩
theorem RWordsP_23 (w : World) : Calls Try.prog 78 #[.int .i64 23] w fun e w' => e = .returned (.slice (some ⟨w.heap.size, 0, none⟩) 3 3) ∧ w'.cell? ⟨w.heap.size, 0, none⟩ = some (.string (wordAt 14)) ∧ w.heap.size < w'.heap.size ∧ Below w.heap.size w w' := by
  go_enter Try.func78, Try.ntmps78
  go_wp2_with fail
  go_ret
  exact ⟨rfl, (Blk.new _ _ _).cell 0, by simp, below_alloc (Below.refl _ _) _⟩
theorem RWordsP_28 (w : World) : Calls Try.prog 78 #[.int .i64 28] w fun e w' => e = .returned (.slice (some ⟨w.heap.size, 0, none⟩) 6 6) ∧ w'.cell? ⟨w.heap.size, 0, none⟩ = some (.string (wordAt 17)) ∧ w.heap.size < w'.heap.size ∧ Below w.heap.size w w' := by
  go_enter Try.func78, Try.ntmps78
  go_wp2_with fail
  go_ret
  exact ⟨rfl, (Blk.new _ _ _).cell 0, by simp, below_alloc (Below.refl _ _) _⟩
theorem RWordsP_29 (w : World) : Calls Try.prog 78 #[.int .i64 29] w fun e w' => e = .returned (.slice (some ⟨w.heap.size, 0, none⟩) 4 4) ∧ w'.cell? ⟨w.heap.size, 0, none⟩ = some (.string (wordAt 20)) ∧ w.heap.size < w'.heap.size ∧ Below w.heap.size w w' := by
  go_enter Try.func78, Try.ntmps78
  go_wp2_with fail
  go_ret
  exact ⟨rfl, (Blk.new _ _ _).cell 0, by simp, below_alloc (Below.refl _ _) _⟩
theorem RWordsP_30 (w : World) : Calls Try.prog 78 #[.int .i64 30] w fun e w' => e = .returned (.slice (some ⟨w.heap.size, 0, none⟩) 5 5) ∧ w'.cell? ⟨w.heap.size, 0, none⟩ = some (.string (wordAt 1)) ∧ w.heap.size < w'.heap.size ∧ Below w.heap.size w w' := by
  go_enter Try.func78, Try.ntmps78
  go_wp2_with fail
  go_ret
  exact ⟨rfl, (Blk.new _ _ _).cell 0, by simp, below_alloc (Below.refl _ _) _⟩
theorem RWordsP_31 (w : World) : Calls Try.prog 78 #[.int .i64 31] w fun e w' => e = .returned (.slice (some ⟨w.heap.size, 0, none⟩) 7 7) ∧ w'.cell? ⟨w.heap.size, 0, none⟩ = some (.string (wordAt 20)) ∧ w.heap.size < w'.heap.size ∧ Below w.heap.size w w' := by
  go_enter Try.func78, Try.ntmps78
  go_wp2_with fail
  go_ret
  exact ⟨rfl, (Blk.new _ _ _).cell 0, by simp, below_alloc (Below.refl _ _) _⟩
theorem RWordsP_34 (w : World) : Calls Try.prog 78 #[.int .i64 34] w fun e w' => e = .returned (.slice (some ⟨w.heap.size, 0, none⟩) 3 3) ∧ w'.cell? ⟨w.heap.size, 0, none⟩ = some (.string (wordAt 24)) ∧ w.heap.size < w'.heap.size ∧ Below w.heap.size w w' := by
  go_enter Try.func78, Try.ntmps78
  go_wp2_with fail
  go_ret
  exact ⟨rfl, (Blk.new _ _ _).cell 0, by simp, below_alloc (Below.refl _ _) _⟩

set_option maxHeartbeats 4000000 in
theorem RPlace17_any (p : Int) (K n : Nat) (hn : 0 < n) (hK : 1 ≤ K ∧ K < 31)
    (hW : ∀ w, Calls Try.prog 78 #[.int .i64 p] w fun e w' => e = .returned (.slice (some ⟨w.heap.size, 0, none⟩) n n) ∧ w'.cell? ⟨w.heap.size, 0, none⟩ = some (.string (wordAt K)) ∧ w.heap.size < w'.heap.size ∧ Below w.heap.size w w')
    (w : World) : Calls Try.prog 73 #[.int .i64 p, .agg #[.int .i64 1, .int .i64 K, .int .i64 0, .string { data := #[] }]] w fun e w' => e = .returned (.int .i64 0) ∧ Below w.heap.size w w' := by
  have htx := RText_word K hK
  have n0 : (0 : Int) < (n : Int) := by omega
  generalize wordAt K = s at *
  have HTX := Lib.hid htx
  have HW := Lib.hid hW
  clear htx hW hn hK
  go_enter Try.func73, Try.ntmps73
  go_upto_region 1 with fail
  refine at_any (fun wx => Blk wx w.heap.size 72 #[.int .i64 1, .int .i64 K, .int .i64 0, .string { data := #[] }] ∧ Below w.heap.size w wx) ⟨Blk.new _ _ _, below_alloc (Below.refl _ _) _⟩ ?_
  rintro wx ⟨hbv, hb⟩
  have HBV := Lib.hid hbv
  have HB := Lib.hid hb
  clear hbv hb
  go_wp2_with fail
  refine (HW.out _).mono ?_; rintro e w2 ⟨rfl, hc, hl, hb2⟩
  have HBV2 := Lib.hid (HBV.out.then_ hb2)
  have HB2 := Lib.hid (below_then HB.out hb2)
  clear hb2
  go_upto_region 3 with fail
  go_loopw [6] (fun v6 wr => v6 = .int .i64 0 ∧ wr = w2) (fun _ _ => 0)
  case atStart => exact ⟨rfl, rfl⟩
  case round =>
    obtain ⟨rfl, rfl⟩ := hrel
    have xl := HBV2.out.lt
    have x0 : wr.cell? ⟨w.heap.size, 0, none⟩ = some (.int .i64 1) := HBV2.out.cell 0
    have x1 : wr.cell? ⟨w.heap.size, 1, none⟩ = some (.int .i64 K) := HBV2.out.cell 1
    have x2 : wr.cell? ⟨w.heap.size, 2, none⟩ = some (.int .i64 0) := HBV2.out.cell 2
    have x3 : wr.cell? ⟨w.heap.size, 3, none⟩ = some (.string { data := #[] }) := HBV2.out.cell 3
    go_upto_region 5 with fail
    refine wp_region_ext (by kernel_rfl) (by kernel_rfl) ?_
    repeat (go_big_quiet_step ((go_at_call 67; exact quiet_ext (HTX.out _))))
    refine wpQuiet_nil ?_
    intro w3 hw3
    have hb3 := (grown_rules hw3).2.2.2
    have HB3 := Lib.hid (below_then HB2.out hb3)
    clear hw3 hb3 x0 x1 x2 x3 xl hc hl
    go_wp2_with fail
    go_ret
    exact ⟨rfl, HB3.out⟩

theorem RWords17_1 (u : Int) (w : World) : Calls Try.prog 65 #[.slice none 0 0, .int .i64 1, .int .i64 u] w fun e w' => e = .returned (.int .i64 0) ∧ Below w.heap.size w w' := by
  have HPL := Lib.hid (RPlace17_any 1 3 3 (by omega) (by omega) RWordsP_1)
  have HHA := Lib.hid (RHas_any 1 1 3 0 (by decide) (by decide) (by decide) RFirst_1)
  go_enter Try.func65, Try.ntmps65
  go_wp2_with fail
  refine (HHA.out _).mono ?_; rintro e w2 ⟨rfl, hb2⟩
  have HB2 := Lib.hid hb2
  clear hb2
  go_wp2_with fail
  refine (HPL.out _).mono ?_; rintro e w3 ⟨rfl, hb3⟩
  have HB3 := Lib.hid (below_then (below_alloc HB2.out _) hb3)
  clear hb3
  go_wp2_with fail
  go_ret
  exact ⟨rfl, HB3.out⟩
theorem RWords17_22 (u : Int) (w : World) : Calls Try.prog 65 #[.slice none 0 0, .int .i64 22, .int .i64 u] w fun e w' => e = .returned (.int .i64 0) ∧ Below w.heap.size w w' := by
  have HPL := Lib.hid (RPlace17_any 22 10 4 (by omega) (by omega) RWordsP_22)
  have HHA := Lib.hid (RHas_any 22 1 10 0 (by decide) (by decide) (by decide) RFirst_22)
  go_enter Try.func65, Try.ntmps65
  go_wp2_with fail
  refine (HHA.out _).mono ?_; rintro e w2 ⟨rfl, hb2⟩
  have HB2 := Lib.hid hb2
  clear hb2
  go_wp2_with fail
  refine (HPL.out _).mono ?_; rintro e w3 ⟨rfl, hb3⟩
  have HB3 := Lib.hid (below_then (below_alloc HB2.out _) hb3)
  clear hb3
  go_wp2_with fail
  go_ret
  exact ⟨rfl, HB3.out⟩
theorem RWords17_23 (u : Int) (w : World) : Calls Try.prog 65 #[.slice none 0 0, .int .i64 23, .int .i64 u] w fun e w' => e = .returned (.int .i64 0) ∧ Below w.heap.size w w' := by
  have HPL := Lib.hid (RPlace17_any 23 14 3 (by omega) (by omega) RWordsP_23)
  have HHA := Lib.hid (RHas_any 23 1 14 0 (by decide) (by decide) (by decide) RFirst_23)
  go_enter Try.func65, Try.ntmps65
  go_wp2_with fail
  refine (HHA.out _).mono ?_; rintro e w2 ⟨rfl, hb2⟩
  have HB2 := Lib.hid hb2
  clear hb2
  go_wp2_with fail
  refine (HPL.out _).mono ?_; rintro e w3 ⟨rfl, hb3⟩
  have HB3 := Lib.hid (below_then (below_alloc HB2.out _) hb3)
  clear hb3
  go_wp2_with fail
  go_ret
  exact ⟨rfl, HB3.out⟩
theorem RWords17_28 (u : Int) (w : World) : Calls Try.prog 65 #[.slice none 0 0, .int .i64 28, .int .i64 u] w fun e w' => e = .returned (.int .i64 0) ∧ Below w.heap.size w w' := by
  have HPL := Lib.hid (RPlace17_any 28 17 6 (by omega) (by omega) RWordsP_28)
  have HHA := Lib.hid (RHas_any 28 1 17 0 (by decide) (by decide) (by decide) RFirst_28)
  go_enter Try.func65, Try.ntmps65
  go_wp2_with fail
  refine (HHA.out _).mono ?_; rintro e w2 ⟨rfl, hb2⟩
  have HB2 := Lib.hid hb2
  clear hb2
  go_wp2_with fail
  refine (HPL.out _).mono ?_; rintro e w3 ⟨rfl, hb3⟩
  have HB3 := Lib.hid (below_then (below_alloc HB2.out _) hb3)
  clear hb3
  go_wp2_with fail
  go_ret
  exact ⟨rfl, HB3.out⟩
theorem RWords17_29 (u : Int) (w : World) : Calls Try.prog 65 #[.slice none 0 0, .int .i64 29, .int .i64 u] w fun e w' => e = .returned (.int .i64 0) ∧ Below w.heap.size w w' := by
  have HPL := Lib.hid (RPlace17_any 29 20 4 (by omega) (by omega) RWordsP_29)
  have HHA := Lib.hid (RHas_any 29 1 20 0 (by decide) (by decide) (by decide) RFirst_29)
  go_enter Try.func65, Try.ntmps65
  go_wp2_with fail
  refine (HHA.out _).mono ?_; rintro e w2 ⟨rfl, hb2⟩
  have HB2 := Lib.hid hb2
  clear hb2
  go_wp2_with fail
  refine (HPL.out _).mono ?_; rintro e w3 ⟨rfl, hb3⟩
  have HB3 := Lib.hid (below_then (below_alloc HB2.out _) hb3)
  clear hb3
  go_wp2_with fail
  go_ret
  exact ⟨rfl, HB3.out⟩
theorem RWords17_30 (u : Int) (w : World) : Calls Try.prog 65 #[.slice none 0 0, .int .i64 30, .int .i64 u] w fun e w' => e = .returned (.int .i64 0) ∧ Below w.heap.size w w' := by
  have HPL := Lib.hid (RPlace17_any 30 1 5 (by omega) (by omega) RWordsP_30)
  have HHA := Lib.hid (RHas_any 30 1 1 0 (by decide) (by decide) (by decide) RFirst_30)
  go_enter Try.func65, Try.ntmps65
  go_wp2_with fail
  refine (HHA.out _).mono ?_; rintro e w2 ⟨rfl, hb2⟩
  have HB2 := Lib.hid hb2
  clear hb2
  go_wp2_with fail
  refine (HPL.out _).mono ?_; rintro e w3 ⟨rfl, hb3⟩
  have HB3 := Lib.hid (below_then (below_alloc HB2.out _) hb3)
  clear hb3
  go_wp2_with fail
  go_ret
  exact ⟨rfl, HB3.out⟩
theorem RWords17_31 (u : Int) (w : World) : Calls Try.prog 65 #[.slice none 0 0, .int .i64 31, .int .i64 u] w fun e w' => e = .returned (.int .i64 0) ∧ Below w.heap.size w w' := by
  have HPL := Lib.hid (RPlace17_any 31 20 7 (by omega) (by omega) RWordsP_31)
  have HHA := Lib.hid (RHas_any 31 1 20 0 (by decide) (by decide) (by decide) RFirst_31)
  go_enter Try.func65, Try.ntmps65
  go_wp2_with fail
  refine (HHA.out _).mono ?_; rintro e w2 ⟨rfl, hb2⟩
  have HB2 := Lib.hid hb2
  clear hb2
  go_wp2_with fail
  refine (HPL.out _).mono ?_; rintro e w3 ⟨rfl, hb3⟩
  have HB3 := Lib.hid (below_then (below_alloc HB2.out _) hb3)
  clear hb3
  go_wp2_with fail
  go_ret
  exact ⟨rfl, HB3.out⟩
theorem RWords17_34 (u : Int) (w : World) : Calls Try.prog 65 #[.slice none 0 0, .int .i64 34, .int .i64 u] w fun e w' => e = .returned (.int .i64 0) ∧ Below w.heap.size w w' := by
  have HPL := Lib.hid (RPlace17_any 34 24 3 (by omega) (by omega) RWordsP_34)
  have HHA := Lib.hid (RHas_any 34 1 24 0 (by decide) (by decide) (by decide) RFirst_34)
  go_enter Try.func65, Try.ntmps65
  go_wp2_with fail
  refine (HHA.out _).mono ?_; rintro e w2 ⟨rfl, hb2⟩
  have HB2 := Lib.hid hb2
  clear hb2
  go_wp2_with fail
  refine (HPL.out _).mono ?_; rintro e w3 ⟨rfl, hb3⟩
  have HB3 := Lib.hid (below_then (below_alloc HB2.out _) hb3)
  clear hb3
  go_wp2_with fail
  go_ret
  exact ⟨rfl, HB3.out⟩
theorem RNumbers_24 (u : Int) (w : World) : Calls Try.prog 71 #[.slice none 0 0, .int .i64 24, .int .i64 u, .int .i64 1] w fun e w' => e = .returned (.int .i64 0) ∧ Below w.heap.size w w' := by
  have HHA := Lib.hid (RHas_any 24 4 0 0 (by decide) (by decide) (by decide) RFirst_24)
  go_enter Try.func71, Try.ntmps71
  go_wp2_with fail
  refine (HHA.out _).mono ?_; rintro e w2 ⟨rfl, hb2⟩
  have HB2 := Lib.hid hb2
  clear hb2
  go_wp2_with fail
  go_ret
  exact ⟨rfl, below_alloc HB2.out _⟩
theorem RNumbers_25 (u : Int) (w : World) : Calls Try.prog 71 #[.slice none 0 0, .int .i64 25, .int .i64 u, .int .i64 1] w fun e w' => e = .returned (.int .i64 1000) ∧ Below w.heap.size w w' := by
  have HHA := Lib.hid (RHas_any 25 4 1000 0 (by decide) (by decide) (by decide) RFirst_25)
  go_enter Try.func71, Try.ntmps71
  go_wp2_with fail
  refine (HHA.out _).mono ?_; rintro e w2 ⟨rfl, hb2⟩
  have HB2 := Lib.hid hb2
  clear hb2
  go_wp2_with fail
  go_ret
  exact ⟨rfl, below_alloc HB2.out _⟩
theorem RNumbers_27 (u : Int) (w : World) : Calls Try.prog 71 #[.slice none 0 0, .int .i64 27, .int .i64 u, .int .i64 1000] w fun e w' => e = .returned (.int .i64 0) ∧ Below w.heap.size w w' := by
  have HHA := Lib.hid (RHas_any 27 4 0 0 (by decide) (by decide) (by decide) RFirst_27)
  go_enter Try.func71, Try.ntmps71
  go_wp2_with fail
  refine (HHA.out _).mono ?_; rintro e w2 ⟨rfl, hb2⟩
  have HB2 := Lib.hid hb2
  clear hb2
  go_wp2_with fail
  go_ret
  exact ⟨rfl, below_alloc HB2.out _⟩

end Go.Proofs.Ytdddlnemlpgnlaa
