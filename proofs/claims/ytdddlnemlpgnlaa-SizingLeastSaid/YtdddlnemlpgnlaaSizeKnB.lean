/- Sizing, known: the first values of layer 10. -/
import Derived.Test.YtdddlnemlpgnlaaSizeKnA
namespace Go.Proofs.Ytdddlnemlpgnlaa
open Go.RowKit
set_option linter.unusedSimpArgs false
set_option linter.unusedVariables false
attribute [local go_sem] cell?_ext frozen?_ext lt_size_ext

theorem word_before_1 : ∀ j, 1 ≤ j → j < 1 → ((wordAt j).toList == (wordAt 1).toList) = false := by
  have h : ∀ j, j < 1 → 1 ≤ j → ((wordAt j).toList == (wordAt 1).toList) = false := by decide +kernel
  exact fun j h1 h2 => h j h2 h1
theorem RWord_1 (w : World) : Calls Try.prog 83 #[.string { data := #[97, 117, 116, 111] }] w fun e w' => e = .returned (.agg #[.int .i64 1, .int .i64 1, .int .i64 0, .string { data := #[] }]) ∧ Below w.heap.size w w' :=
  RWord_any 1 (by omega) word_before_1 w
theorem word_before_2 : ∀ j, 1 ≤ j → j < 2 → ((wordAt j).toList == (wordAt 2).toList) = false := by
  have h : ∀ j, j < 2 → 1 ≤ j → ((wordAt j).toList == (wordAt 2).toList) = false := by decide +kernel
  exact fun j h1 h2 => h j h2 h1
theorem RWord_2 (w : World) : Calls Try.prog 83 #[.string { data := #[110, 111, 110, 101] }] w fun e w' => e = .returned (.agg #[.int .i64 1, .int .i64 2, .int .i64 0, .string { data := #[] }]) ∧ Below w.heap.size w w' :=
  RWord_any 2 (by omega) word_before_2 w
theorem word_before_3 : ∀ j, 1 ≤ j → j < 3 → ((wordAt j).toList == (wordAt 3).toList) = false := by
  have h : ∀ j, j < 3 → 1 ≤ j → ((wordAt j).toList == (wordAt 3).toList) = false := by decide +kernel
  exact fun j h1 h2 => h j h2 h1
theorem RWord_3 (w : World) : Calls Try.prog 83 #[.string { data := #[98, 108, 111, 99, 107] }] w fun e w' => e = .returned (.agg #[.int .i64 1, .int .i64 3, .int .i64 0, .string { data := #[] }]) ∧ Below w.heap.size w w' :=
  RWord_any 3 (by omega) word_before_3 w
theorem word_before_5 : ∀ j, 1 ≤ j → j < 5 → ((wordAt j).toList == (wordAt 5).toList) = false := by
  have h : ∀ j, j < 5 → 1 ≤ j → ((wordAt j).toList == (wordAt 5).toList) = false := by decide +kernel
  exact fun j h1 h2 => h j h2 h1
theorem RWord_5 (w : World) : Calls Try.prog 83 #[.string { data := #[99, 111, 110, 116, 101, 110, 116, 45, 98, 111, 120] }] w fun e w' => e = .returned (.agg #[.int .i64 1, .int .i64 5, .int .i64 0, .string { data := #[] }]) ∧ Below w.heap.size w w' :=
  RWord_any 5 (by omega) word_before_5 w
theorem word_before_10 : ∀ j, 1 ≤ j → j < 10 → ((wordAt j).toList == (wordAt 10).toList) = false := by
  have h : ∀ j, j < 10 → 1 ≤ j → ((wordAt j).toList == (wordAt 10).toList) = false := by decide +kernel
  exact fun j h1 h2 => h j h2 h1
theorem RWord_10 (w : World) : Calls Try.prog 83 #[.string { data := #[114, 111, 119] }] w fun e w' => e = .returned (.agg #[.int .i64 1, .int .i64 10, .int .i64 0, .string { data := #[] }]) ∧ Below w.heap.size w w' :=
  RWord_any 10 (by omega) word_before_10 w
theorem word_before_14 : ∀ j, 1 ≤ j → j < 14 → ((wordAt j).toList == (wordAt 14).toList) = false := by
  have h : ∀ j, j < 14 → 1 ≤ j → ((wordAt j).toList == (wordAt 14).toList) = false := by decide +kernel
  exact fun j h1 h2 => h j h2 h1
theorem RWord_14 (w : World) : Calls Try.prog 83 #[.string { data := #[110, 111, 119, 114, 97, 112] }] w fun e w' => e = .returned (.agg #[.int .i64 1, .int .i64 14, .int .i64 0, .string { data := #[] }]) ∧ Below w.heap.size w w' :=
  RWord_any 14 (by omega) word_before_14 w
theorem word_before_17 : ∀ j, 1 ≤ j → j < 17 → ((wordAt j).toList == (wordAt 17).toList) = false := by
  have h : ∀ j, j < 17 → 1 ≤ j → ((wordAt j).toList == (wordAt 17).toList) = false := by decide +kernel
  exact fun j h1 h2 => h j h2 h1
theorem RWord_17 (w : World) : Calls Try.prog 83 #[.string { data := #[115, 116, 97, 114, 116] }] w fun e w' => e = .returned (.agg #[.int .i64 1, .int .i64 17, .int .i64 0, .string { data := #[] }]) ∧ Below w.heap.size w w' :=
  RWord_any 17 (by omega) word_before_17 w
theorem word_before_20 : ∀ j, 1 ≤ j → j < 20 → ((wordAt j).toList == (wordAt 20).toList) = false := by
  have h : ∀ j, j < 20 → 1 ≤ j → ((wordAt j).toList == (wordAt 20).toList) = false := by decide +kernel
  exact fun j h1 h2 => h j h2 h1
theorem RWord_20 (w : World) : Calls Try.prog 83 #[.string { data := #[115, 116, 114, 101, 116, 99, 104] }] w fun e w' => e = .returned (.agg #[.int .i64 1, .int .i64 20, .int .i64 0, .string { data := #[] }]) ∧ Below w.heap.size w w' :=
  RWord_any 20 (by omega) word_before_20 w
theorem word_before_24 : ∀ j, 1 ≤ j → j < 24 → ((wordAt j).toList == (wordAt 24).toList) = false := by
  have h : ∀ j, j < 24 → 1 ≤ j → ((wordAt j).toList == (wordAt 24).toList) = false := by decide +kernel
  exact fun j h1 h2 => h j h2 h1
theorem RWord_24 (w : World) : Calls Try.prog 83 #[.string { data := #[110, 111, 114, 109, 97, 108] }] w fun e w' => e = .returned (.agg #[.int .i64 1, .int .i64 24, .int .i64 0, .string { data := #[] }]) ∧ Below w.heap.size w w' :=
  RWord_any 24 (by omega) word_before_24 w
set_option maxHeartbeats 4000000 in
theorem RFirst_1 (w : World) : Calls Try.prog 75 #[.int .i64 1] w fun e w' => e = .returned (.agg #[.int .i64 1, .int .i64 3, .int .i64 0, .string { data := #[] }]) ∧ Below w.heap.size w w' := by
  go_enter Try.func75, Try.ntmps75
  go_wp2_with fail
  refine (RWord_3 _).mono ?_; rintro e w2 ⟨rfl, hb2⟩
  have HBT := Lib.hid ((Blk.new w 72 #[.int .i64 0, .int .i64 0, .int .i64 0, .string { data := #[] }]).then_ hb2)
  have HB := Lib.hid (below_then (below_alloc (Below.refl w.heap.size w) (.cells #[.int .i64 0, .int .i64 0, .int .i64 0, .string { data := #[] }] 72)) hb2)
  have y0 : w2.cell? ⟨w.heap.size, 0, none⟩ = some (.int .i64 0) := HBT.out.cell 0
  have z0 : w2.frozen? ⟨w.heap.size, 0, none⟩ = false := HBT.out.frozen 0
  have y1 : w2.cell? ⟨w.heap.size, 1, none⟩ = some (.int .i64 0) := HBT.out.cell 1
  have z1 : w2.frozen? ⟨w.heap.size, 1, none⟩ = false := HBT.out.frozen 1
  have y2 : w2.cell? ⟨w.heap.size, 2, none⟩ = some (.int .i64 0) := HBT.out.cell 2
  have z2 : w2.frozen? ⟨w.heap.size, 2, none⟩ = false := HBT.out.frozen 2
  have y3 : w2.cell? ⟨w.heap.size, 3, none⟩ = some (.string { data := #[] }) := HBT.out.cell 3
  have z3 : w2.frozen? ⟨w.heap.size, 3, none⟩ = false := HBT.out.frozen 3
  clear hb2
  go_wp2_with fail
  exact bodyPost_ret (v := .agg #[.int .i64 1, .int .i64 3, .int .i64 0, .string { data := #[] }]) (results_cell rfl rfl ((((HBT.out.put 0 (.int .i64 1)).put 1 (.int .i64 3)).put 2 (.int .i64 0)).put 3 (.string { data := #[] })) Try.underlying72 rfl (by kernel_rfl)) rfl
    ⟨rfl, below_set (below_set (below_set (below_set HB.out (Nat.le_refl _) _) (Nat.le_refl _) _) (Nat.le_refl _) _) (Nat.le_refl _) _⟩
set_option maxHeartbeats 4000000 in
theorem RFirst_2 (w : World) : Calls Try.prog 75 #[.int .i64 2] w fun e w' => e = .returned (.agg #[.int .i64 1, .int .i64 5, .int .i64 0, .string { data := #[] }]) ∧ Below w.heap.size w w' := by
  go_enter Try.func75, Try.ntmps75
  go_wp2_with fail
  refine (RWord_5 _).mono ?_; rintro e w2 ⟨rfl, hb2⟩
  have HBT := Lib.hid ((Blk.new w 72 #[.int .i64 0, .int .i64 0, .int .i64 0, .string { data := #[] }]).then_ hb2)
  have HB := Lib.hid (below_then (below_alloc (Below.refl w.heap.size w) (.cells #[.int .i64 0, .int .i64 0, .int .i64 0, .string { data := #[] }] 72)) hb2)
  have y0 : w2.cell? ⟨w.heap.size, 0, none⟩ = some (.int .i64 0) := HBT.out.cell 0
  have z0 : w2.frozen? ⟨w.heap.size, 0, none⟩ = false := HBT.out.frozen 0
  have y1 : w2.cell? ⟨w.heap.size, 1, none⟩ = some (.int .i64 0) := HBT.out.cell 1
  have z1 : w2.frozen? ⟨w.heap.size, 1, none⟩ = false := HBT.out.frozen 1
  have y2 : w2.cell? ⟨w.heap.size, 2, none⟩ = some (.int .i64 0) := HBT.out.cell 2
  have z2 : w2.frozen? ⟨w.heap.size, 2, none⟩ = false := HBT.out.frozen 2
  have y3 : w2.cell? ⟨w.heap.size, 3, none⟩ = some (.string { data := #[] }) := HBT.out.cell 3
  have z3 : w2.frozen? ⟨w.heap.size, 3, none⟩ = false := HBT.out.frozen 3
  clear hb2
  go_wp2_with fail
  exact bodyPost_ret (v := .agg #[.int .i64 1, .int .i64 5, .int .i64 0, .string { data := #[] }]) (results_cell rfl rfl ((((HBT.out.put 0 (.int .i64 1)).put 1 (.int .i64 5)).put 2 (.int .i64 0)).put 3 (.string { data := #[] })) Try.underlying72 rfl (by kernel_rfl)) rfl
    ⟨rfl, below_set (below_set (below_set (below_set HB.out (Nat.le_refl _) _) (Nat.le_refl _) _) (Nat.le_refl _) _) (Nat.le_refl _) _⟩
set_option maxHeartbeats 4000000 in
theorem RFirst_3 (w : World) : Calls Try.prog 75 #[.int .i64 3] w fun e w' => e = .returned (.agg #[.int .i64 1, .int .i64 1, .int .i64 0, .string { data := #[] }]) ∧ Below w.heap.size w w' := by
  go_enter Try.func75, Try.ntmps75
  go_wp2_with fail
  refine (RWord_1 _).mono ?_; rintro e w2 ⟨rfl, hb2⟩
  have HBT := Lib.hid ((Blk.new w 72 #[.int .i64 0, .int .i64 0, .int .i64 0, .string { data := #[] }]).then_ hb2)
  have HB := Lib.hid (below_then (below_alloc (Below.refl w.heap.size w) (.cells #[.int .i64 0, .int .i64 0, .int .i64 0, .string { data := #[] }] 72)) hb2)
  have y0 : w2.cell? ⟨w.heap.size, 0, none⟩ = some (.int .i64 0) := HBT.out.cell 0
  have z0 : w2.frozen? ⟨w.heap.size, 0, none⟩ = false := HBT.out.frozen 0
  have y1 : w2.cell? ⟨w.heap.size, 1, none⟩ = some (.int .i64 0) := HBT.out.cell 1
  have z1 : w2.frozen? ⟨w.heap.size, 1, none⟩ = false := HBT.out.frozen 1
  have y2 : w2.cell? ⟨w.heap.size, 2, none⟩ = some (.int .i64 0) := HBT.out.cell 2
  have z2 : w2.frozen? ⟨w.heap.size, 2, none⟩ = false := HBT.out.frozen 2
  have y3 : w2.cell? ⟨w.heap.size, 3, none⟩ = some (.string { data := #[] }) := HBT.out.cell 3
  have z3 : w2.frozen? ⟨w.heap.size, 3, none⟩ = false := HBT.out.frozen 3
  clear hb2
  go_wp2_with fail
  exact bodyPost_ret (v := .agg #[.int .i64 1, .int .i64 1, .int .i64 0, .string { data := #[] }]) (results_cell rfl rfl ((((HBT.out.put 0 (.int .i64 1)).put 1 (.int .i64 1)).put 2 (.int .i64 0)).put 3 (.string { data := #[] })) Try.underlying72 rfl (by kernel_rfl)) rfl
    ⟨rfl, below_set (below_set (below_set (below_set HB.out (Nat.le_refl _) _) (Nat.le_refl _) _) (Nat.le_refl _) _) (Nat.le_refl _) _⟩
set_option maxHeartbeats 4000000 in
theorem RFirst_4 (w : World) : Calls Try.prog 75 #[.int .i64 4] w fun e w' => e = .returned (.agg #[.int .i64 1, .int .i64 1, .int .i64 0, .string { data := #[] }]) ∧ Below w.heap.size w w' := by
  go_enter Try.func75, Try.ntmps75
  go_wp2_with fail
  refine (RWord_1 _).mono ?_; rintro e w2 ⟨rfl, hb2⟩
  have HBT := Lib.hid ((Blk.new w 72 #[.int .i64 0, .int .i64 0, .int .i64 0, .string { data := #[] }]).then_ hb2)
  have HB := Lib.hid (below_then (below_alloc (Below.refl w.heap.size w) (.cells #[.int .i64 0, .int .i64 0, .int .i64 0, .string { data := #[] }] 72)) hb2)
  have y0 : w2.cell? ⟨w.heap.size, 0, none⟩ = some (.int .i64 0) := HBT.out.cell 0
  have z0 : w2.frozen? ⟨w.heap.size, 0, none⟩ = false := HBT.out.frozen 0
  have y1 : w2.cell? ⟨w.heap.size, 1, none⟩ = some (.int .i64 0) := HBT.out.cell 1
  have z1 : w2.frozen? ⟨w.heap.size, 1, none⟩ = false := HBT.out.frozen 1
  have y2 : w2.cell? ⟨w.heap.size, 2, none⟩ = some (.int .i64 0) := HBT.out.cell 2
  have z2 : w2.frozen? ⟨w.heap.size, 2, none⟩ = false := HBT.out.frozen 2
  have y3 : w2.cell? ⟨w.heap.size, 3, none⟩ = some (.string { data := #[] }) := HBT.out.cell 3
  have z3 : w2.frozen? ⟨w.heap.size, 3, none⟩ = false := HBT.out.frozen 3
  clear hb2
  go_wp2_with fail
  exact bodyPost_ret (v := .agg #[.int .i64 1, .int .i64 1, .int .i64 0, .string { data := #[] }]) (results_cell rfl rfl ((((HBT.out.put 0 (.int .i64 1)).put 1 (.int .i64 1)).put 2 (.int .i64 0)).put 3 (.string { data := #[] })) Try.underlying72 rfl (by kernel_rfl)) rfl
    ⟨rfl, below_set (below_set (below_set (below_set HB.out (Nat.le_refl _) _) (Nat.le_refl _) _) (Nat.le_refl _) _) (Nat.le_refl _) _⟩
set_option maxHeartbeats 4000000 in
theorem RFirst_5 (w : World) : Calls Try.prog 75 #[.int .i64 5] w fun e w' => e = .returned (.agg #[.int .i64 1, .int .i64 1, .int .i64 0, .string { data := #[] }]) ∧ Below w.heap.size w w' := by
  go_enter Try.func75, Try.ntmps75
  go_wp2_with fail
  refine (RWord_1 _).mono ?_; rintro e w2 ⟨rfl, hb2⟩
  have HBT := Lib.hid ((Blk.new w 72 #[.int .i64 0, .int .i64 0, .int .i64 0, .string { data := #[] }]).then_ hb2)
  have HB := Lib.hid (below_then (below_alloc (Below.refl w.heap.size w) (.cells #[.int .i64 0, .int .i64 0, .int .i64 0, .string { data := #[] }] 72)) hb2)
  have y0 : w2.cell? ⟨w.heap.size, 0, none⟩ = some (.int .i64 0) := HBT.out.cell 0
  have z0 : w2.frozen? ⟨w.heap.size, 0, none⟩ = false := HBT.out.frozen 0
  have y1 : w2.cell? ⟨w.heap.size, 1, none⟩ = some (.int .i64 0) := HBT.out.cell 1
  have z1 : w2.frozen? ⟨w.heap.size, 1, none⟩ = false := HBT.out.frozen 1
  have y2 : w2.cell? ⟨w.heap.size, 2, none⟩ = some (.int .i64 0) := HBT.out.cell 2
  have z2 : w2.frozen? ⟨w.heap.size, 2, none⟩ = false := HBT.out.frozen 2
  have y3 : w2.cell? ⟨w.heap.size, 3, none⟩ = some (.string { data := #[] }) := HBT.out.cell 3
  have z3 : w2.frozen? ⟨w.heap.size, 3, none⟩ = false := HBT.out.frozen 3
  clear hb2
  go_wp2_with fail
  exact bodyPost_ret (v := .agg #[.int .i64 1, .int .i64 1, .int .i64 0, .string { data := #[] }]) (results_cell rfl rfl ((((HBT.out.put 0 (.int .i64 1)).put 1 (.int .i64 1)).put 2 (.int .i64 0)).put 3 (.string { data := #[] })) Try.underlying72 rfl (by kernel_rfl)) rfl
    ⟨rfl, below_set (below_set (below_set (below_set HB.out (Nat.le_refl _) _) (Nat.le_refl _) _) (Nat.le_refl _) _) (Nat.le_refl _) _⟩
set_option maxHeartbeats 4000000 in
theorem RFirst_6 (w : World) : Calls Try.prog 75 #[.int .i64 6] w fun e w' => e = .returned (.agg #[.int .i64 1, .int .i64 1, .int .i64 0, .string { data := #[] }]) ∧ Below w.heap.size w w' := by
  go_enter Try.func75, Try.ntmps75
  go_wp2_with fail
  refine (RWord_1 _).mono ?_; rintro e w2 ⟨rfl, hb2⟩
  have HBT := Lib.hid ((Blk.new w 72 #[.int .i64 0, .int .i64 0, .int .i64 0, .string { data := #[] }]).then_ hb2)
  have HB := Lib.hid (below_then (below_alloc (Below.refl w.heap.size w) (.cells #[.int .i64 0, .int .i64 0, .int .i64 0, .string { data := #[] }] 72)) hb2)
  have y0 : w2.cell? ⟨w.heap.size, 0, none⟩ = some (.int .i64 0) := HBT.out.cell 0
  have z0 : w2.frozen? ⟨w.heap.size, 0, none⟩ = false := HBT.out.frozen 0
  have y1 : w2.cell? ⟨w.heap.size, 1, none⟩ = some (.int .i64 0) := HBT.out.cell 1
  have z1 : w2.frozen? ⟨w.heap.size, 1, none⟩ = false := HBT.out.frozen 1
  have y2 : w2.cell? ⟨w.heap.size, 2, none⟩ = some (.int .i64 0) := HBT.out.cell 2
  have z2 : w2.frozen? ⟨w.heap.size, 2, none⟩ = false := HBT.out.frozen 2
  have y3 : w2.cell? ⟨w.heap.size, 3, none⟩ = some (.string { data := #[] }) := HBT.out.cell 3
  have z3 : w2.frozen? ⟨w.heap.size, 3, none⟩ = false := HBT.out.frozen 3
  clear hb2
  go_wp2_with fail
  exact bodyPost_ret (v := .agg #[.int .i64 1, .int .i64 1, .int .i64 0, .string { data := #[] }]) (results_cell rfl rfl ((((HBT.out.put 0 (.int .i64 1)).put 1 (.int .i64 1)).put 2 (.int .i64 0)).put 3 (.string { data := #[] })) Try.underlying72 rfl (by kernel_rfl)) rfl
    ⟨rfl, below_set (below_set (below_set (below_set HB.out (Nat.le_refl _) _) (Nat.le_refl _) _) (Nat.le_refl _) _) (Nat.le_refl _) _⟩
set_option maxHeartbeats 4000000 in
theorem RFirst_7 (w : World) : Calls Try.prog 75 #[.int .i64 7] w fun e w' => e = .returned (.agg #[.int .i64 1, .int .i64 2, .int .i64 0, .string { data := #[] }]) ∧ Below w.heap.size w w' := by
  go_enter Try.func75, Try.ntmps75
  go_wp2_with fail
  refine (RWord_2 _).mono ?_; rintro e w2 ⟨rfl, hb2⟩
  have HBT := Lib.hid ((Blk.new w 72 #[.int .i64 0, .int .i64 0, .int .i64 0, .string { data := #[] }]).then_ hb2)
  have HB := Lib.hid (below_then (below_alloc (Below.refl w.heap.size w) (.cells #[.int .i64 0, .int .i64 0, .int .i64 0, .string { data := #[] }] 72)) hb2)
  have y0 : w2.cell? ⟨w.heap.size, 0, none⟩ = some (.int .i64 0) := HBT.out.cell 0
  have z0 : w2.frozen? ⟨w.heap.size, 0, none⟩ = false := HBT.out.frozen 0
  have y1 : w2.cell? ⟨w.heap.size, 1, none⟩ = some (.int .i64 0) := HBT.out.cell 1
  have z1 : w2.frozen? ⟨w.heap.size, 1, none⟩ = false := HBT.out.frozen 1
  have y2 : w2.cell? ⟨w.heap.size, 2, none⟩ = some (.int .i64 0) := HBT.out.cell 2
  have z2 : w2.frozen? ⟨w.heap.size, 2, none⟩ = false := HBT.out.frozen 2
  have y3 : w2.cell? ⟨w.heap.size, 3, none⟩ = some (.string { data := #[] }) := HBT.out.cell 3
  have z3 : w2.frozen? ⟨w.heap.size, 3, none⟩ = false := HBT.out.frozen 3
  clear hb2
  go_wp2_with fail
  exact bodyPost_ret (v := .agg #[.int .i64 1, .int .i64 2, .int .i64 0, .string { data := #[] }]) (results_cell rfl rfl ((((HBT.out.put 0 (.int .i64 1)).put 1 (.int .i64 2)).put 2 (.int .i64 0)).put 3 (.string { data := #[] })) Try.underlying72 rfl (by kernel_rfl)) rfl
    ⟨rfl, below_set (below_set (below_set (below_set HB.out (Nat.le_refl _) _) (Nat.le_refl _) _) (Nat.le_refl _) _) (Nat.le_refl _) _⟩
set_option maxHeartbeats 4000000 in
theorem RFirst_8 (w : World) : Calls Try.prog 75 #[.int .i64 8] w fun e w' => e = .returned (.agg #[.int .i64 1, .int .i64 2, .int .i64 0, .string { data := #[] }]) ∧ Below w.heap.size w w' := by
  go_enter Try.func75, Try.ntmps75
  go_wp2_with fail
  refine (RWord_2 _).mono ?_; rintro e w2 ⟨rfl, hb2⟩
  have HBT := Lib.hid ((Blk.new w 72 #[.int .i64 0, .int .i64 0, .int .i64 0, .string { data := #[] }]).then_ hb2)
  have HB := Lib.hid (below_then (below_alloc (Below.refl w.heap.size w) (.cells #[.int .i64 0, .int .i64 0, .int .i64 0, .string { data := #[] }] 72)) hb2)
  have y0 : w2.cell? ⟨w.heap.size, 0, none⟩ = some (.int .i64 0) := HBT.out.cell 0
  have z0 : w2.frozen? ⟨w.heap.size, 0, none⟩ = false := HBT.out.frozen 0
  have y1 : w2.cell? ⟨w.heap.size, 1, none⟩ = some (.int .i64 0) := HBT.out.cell 1
  have z1 : w2.frozen? ⟨w.heap.size, 1, none⟩ = false := HBT.out.frozen 1
  have y2 : w2.cell? ⟨w.heap.size, 2, none⟩ = some (.int .i64 0) := HBT.out.cell 2
  have z2 : w2.frozen? ⟨w.heap.size, 2, none⟩ = false := HBT.out.frozen 2
  have y3 : w2.cell? ⟨w.heap.size, 3, none⟩ = some (.string { data := #[] }) := HBT.out.cell 3
  have z3 : w2.frozen? ⟨w.heap.size, 3, none⟩ = false := HBT.out.frozen 3
  clear hb2
  go_wp2_with fail
  exact bodyPost_ret (v := .agg #[.int .i64 1, .int .i64 2, .int .i64 0, .string { data := #[] }]) (results_cell rfl rfl ((((HBT.out.put 0 (.int .i64 1)).put 1 (.int .i64 2)).put 2 (.int .i64 0)).put 3 (.string { data := #[] })) Try.underlying72 rfl (by kernel_rfl)) rfl
    ⟨rfl, below_set (below_set (below_set (below_set HB.out (Nat.le_refl _) _) (Nat.le_refl _) _) (Nat.le_refl _) _) (Nat.le_refl _) _⟩
set_option maxHeartbeats 4000000 in
theorem RFirst_9 (w : World) : Calls Try.prog 75 #[.int .i64 9] w fun e w' => e = .returned (.agg #[.int .i64 2, .int .i64 0, .int .i64 1, .string { data := #[] }]) ∧ Below w.heap.size w w' := by
  go_enter Try.func75, Try.ntmps75
  go_wp2_with fail
  refine bodyPost_ret (v := .agg #[.int .i64 2, .int .i64 0, .int .i64 1, .string { data := #[] }]) (by simp [results, Try.results75, go_sem]) rfl ⟨rfl, ?_⟩
  (repeat (first | with_reducible exact Below.refl _ _ | with_reducible refine below_set ?_ (by first | (simp; done) | (simp; omega)) _ | with_reducible refine below_alloc ?_ _))
set_option maxHeartbeats 4000000 in
theorem RFirst_10 (w : World) : Calls Try.prog 75 #[.int .i64 10] w fun e w' => e = .returned (.agg #[.int .i64 2, .int .i64 0, .int .i64 1, .string { data := #[] }]) ∧ Below w.heap.size w w' := by
  go_enter Try.func75, Try.ntmps75
  go_wp2_with fail
  refine bodyPost_ret (v := .agg #[.int .i64 2, .int .i64 0, .int .i64 1, .string { data := #[] }]) (by simp [results, Try.results75, go_sem]) rfl ⟨rfl, ?_⟩
  (repeat (first | with_reducible exact Below.refl _ _ | with_reducible refine below_set ?_ (by first | (simp; done) | (simp; omega)) _ | with_reducible refine below_alloc ?_ _))
set_option maxHeartbeats 4000000 in
theorem RFirst_11 (w : World) : Calls Try.prog 75 #[.int .i64 11] w fun e w' => e = .returned (.agg #[.int .i64 2, .int .i64 0, .int .i64 1, .string { data := #[] }]) ∧ Below w.heap.size w w' := by
  go_enter Try.func75, Try.ntmps75
  go_wp2_with fail
  refine bodyPost_ret (v := .agg #[.int .i64 2, .int .i64 0, .int .i64 1, .string { data := #[] }]) (by simp [results, Try.results75, go_sem]) rfl ⟨rfl, ?_⟩
  (repeat (first | with_reducible exact Below.refl _ _ | with_reducible refine below_set ?_ (by first | (simp; done) | (simp; omega)) _ | with_reducible refine below_alloc ?_ _))
set_option maxHeartbeats 4000000 in
theorem RFirst_12 (w : World) : Calls Try.prog 75 #[.int .i64 12] w fun e w' => e = .returned (.agg #[.int .i64 2, .int .i64 0, .int .i64 1, .string { data := #[] }]) ∧ Below w.heap.size w w' := by
  go_enter Try.func75, Try.ntmps75
  go_wp2_with fail
  refine bodyPost_ret (v := .agg #[.int .i64 2, .int .i64 0, .int .i64 1, .string { data := #[] }]) (by simp [results, Try.results75, go_sem]) rfl ⟨rfl, ?_⟩
  (repeat (first | with_reducible exact Below.refl _ _ | with_reducible refine below_set ?_ (by first | (simp; done) | (simp; omega)) _ | with_reducible refine below_alloc ?_ _))
set_option maxHeartbeats 4000000 in
theorem RFirst_13 (w : World) : Calls Try.prog 75 #[.int .i64 13] w fun e w' => e = .returned (.agg #[.int .i64 2, .int .i64 0, .int .i64 1, .string { data := #[] }]) ∧ Below w.heap.size w w' := by
  go_enter Try.func75, Try.ntmps75
  go_wp2_with fail
  refine bodyPost_ret (v := .agg #[.int .i64 2, .int .i64 0, .int .i64 1, .string { data := #[] }]) (by simp [results, Try.results75, go_sem]) rfl ⟨rfl, ?_⟩
  (repeat (first | with_reducible exact Below.refl _ _ | with_reducible refine below_set ?_ (by first | (simp; done) | (simp; omega)) _ | with_reducible refine below_alloc ?_ _))
set_option maxHeartbeats 4000000 in
theorem RFirst_14 (w : World) : Calls Try.prog 75 #[.int .i64 14] w fun e w' => e = .returned (.agg #[.int .i64 2, .int .i64 0, .int .i64 1, .string { data := #[] }]) ∧ Below w.heap.size w w' := by
  go_enter Try.func75, Try.ntmps75
  go_wp2_with fail
  refine bodyPost_ret (v := .agg #[.int .i64 2, .int .i64 0, .int .i64 1, .string { data := #[] }]) (by simp [results, Try.results75, go_sem]) rfl ⟨rfl, ?_⟩
  (repeat (first | with_reducible exact Below.refl _ _ | with_reducible refine below_set ?_ (by first | (simp; done) | (simp; omega)) _ | with_reducible refine below_alloc ?_ _))
set_option maxHeartbeats 4000000 in
theorem RFirst_15 (w : World) : Calls Try.prog 75 #[.int .i64 15] w fun e w' => e = .returned (.agg #[.int .i64 2, .int .i64 0, .int .i64 1, .string { data := #[] }]) ∧ Below w.heap.size w w' := by
  go_enter Try.func75, Try.ntmps75
  go_wp2_with fail
  refine bodyPost_ret (v := .agg #[.int .i64 2, .int .i64 0, .int .i64 1, .string { data := #[] }]) (by simp [results, Try.results75, go_sem]) rfl ⟨rfl, ?_⟩
  (repeat (first | with_reducible exact Below.refl _ _ | with_reducible refine below_set ?_ (by first | (simp; done) | (simp; omega)) _ | with_reducible refine below_alloc ?_ _))
set_option maxHeartbeats 4000000 in
theorem RFirst_16 (w : World) : Calls Try.prog 75 #[.int .i64 16] w fun e w' => e = .returned (.agg #[.int .i64 2, .int .i64 0, .int .i64 1, .string { data := #[] }]) ∧ Below w.heap.size w w' := by
  go_enter Try.func75, Try.ntmps75
  go_wp2_with fail
  refine bodyPost_ret (v := .agg #[.int .i64 2, .int .i64 0, .int .i64 1, .string { data := #[] }]) (by simp [results, Try.results75, go_sem]) rfl ⟨rfl, ?_⟩
  (repeat (first | with_reducible exact Below.refl _ _ | with_reducible refine below_set ?_ (by first | (simp; done) | (simp; omega)) _ | with_reducible refine below_alloc ?_ _))
set_option maxHeartbeats 4000000 in
theorem RFirst_17 (w : World) : Calls Try.prog 75 #[.int .i64 17] w fun e w' => e = .returned (.agg #[.int .i64 2, .int .i64 0, .int .i64 1, .string { data := #[] }]) ∧ Below w.heap.size w w' := by
  go_enter Try.func75, Try.ntmps75
  go_wp2_with fail
  refine bodyPost_ret (v := .agg #[.int .i64 2, .int .i64 0, .int .i64 1, .string { data := #[] }]) (by simp [results, Try.results75, go_sem]) rfl ⟨rfl, ?_⟩
  (repeat (first | with_reducible exact Below.refl _ _ | with_reducible refine below_set ?_ (by first | (simp; done) | (simp; omega)) _ | with_reducible refine below_alloc ?_ _))
set_option maxHeartbeats 4000000 in
theorem RFirst_18 (w : World) : Calls Try.prog 75 #[.int .i64 18] w fun e w' => e = .returned (.agg #[.int .i64 2, .int .i64 0, .int .i64 1, .string { data := #[] }]) ∧ Below w.heap.size w w' := by
  go_enter Try.func75, Try.ntmps75
  go_wp2_with fail
  refine bodyPost_ret (v := .agg #[.int .i64 2, .int .i64 0, .int .i64 1, .string { data := #[] }]) (by simp [results, Try.results75, go_sem]) rfl ⟨rfl, ?_⟩
  (repeat (first | with_reducible exact Below.refl _ _ | with_reducible refine below_set ?_ (by first | (simp; done) | (simp; omega)) _ | with_reducible refine below_alloc ?_ _))
set_option maxHeartbeats 4000000 in
theorem RFirst_19 (w : World) : Calls Try.prog 75 #[.int .i64 19] w fun e w' => e = .returned (.agg #[.int .i64 2, .int .i64 0, .int .i64 1, .string { data := #[] }]) ∧ Below w.heap.size w w' := by
  go_enter Try.func75, Try.ntmps75
  go_wp2_with fail
  refine bodyPost_ret (v := .agg #[.int .i64 2, .int .i64 0, .int .i64 1, .string { data := #[] }]) (by simp [results, Try.results75, go_sem]) rfl ⟨rfl, ?_⟩
  (repeat (first | with_reducible exact Below.refl _ _ | with_reducible refine below_set ?_ (by first | (simp; done) | (simp; omega)) _ | with_reducible refine below_alloc ?_ _))
set_option maxHeartbeats 4000000 in
theorem RFirst_20 (w : World) : Calls Try.prog 75 #[.int .i64 20] w fun e w' => e = .returned (.agg #[.int .i64 2, .int .i64 0, .int .i64 1, .string { data := #[] }]) ∧ Below w.heap.size w w' := by
  go_enter Try.func75, Try.ntmps75
  go_wp2_with fail
  refine bodyPost_ret (v := .agg #[.int .i64 2, .int .i64 0, .int .i64 1, .string { data := #[] }]) (by simp [results, Try.results75, go_sem]) rfl ⟨rfl, ?_⟩
  (repeat (first | with_reducible exact Below.refl _ _ | with_reducible refine below_set ?_ (by first | (simp; done) | (simp; omega)) _ | with_reducible refine below_alloc ?_ _))
set_option maxHeartbeats 4000000 in
theorem RFirst_21 (w : World) : Calls Try.prog 75 #[.int .i64 21] w fun e w' => e = .returned (.agg #[.int .i64 1, .int .i64 1, .int .i64 0, .string { data := #[] }]) ∧ Below w.heap.size w w' := by
  go_enter Try.func75, Try.ntmps75
  go_wp2_with fail
  refine (RWord_1 _).mono ?_; rintro e w2 ⟨rfl, hb2⟩
  have HBT := Lib.hid ((Blk.new w 72 #[.int .i64 0, .int .i64 0, .int .i64 0, .string { data := #[] }]).then_ hb2)
  have HB := Lib.hid (below_then (below_alloc (Below.refl w.heap.size w) (.cells #[.int .i64 0, .int .i64 0, .int .i64 0, .string { data := #[] }] 72)) hb2)
  have y0 : w2.cell? ⟨w.heap.size, 0, none⟩ = some (.int .i64 0) := HBT.out.cell 0
  have z0 : w2.frozen? ⟨w.heap.size, 0, none⟩ = false := HBT.out.frozen 0
  have y1 : w2.cell? ⟨w.heap.size, 1, none⟩ = some (.int .i64 0) := HBT.out.cell 1
  have z1 : w2.frozen? ⟨w.heap.size, 1, none⟩ = false := HBT.out.frozen 1
  have y2 : w2.cell? ⟨w.heap.size, 2, none⟩ = some (.int .i64 0) := HBT.out.cell 2
  have z2 : w2.frozen? ⟨w.heap.size, 2, none⟩ = false := HBT.out.frozen 2
  have y3 : w2.cell? ⟨w.heap.size, 3, none⟩ = some (.string { data := #[] }) := HBT.out.cell 3
  have z3 : w2.frozen? ⟨w.heap.size, 3, none⟩ = false := HBT.out.frozen 3
  clear hb2
  go_wp2_with fail
  exact bodyPost_ret (v := .agg #[.int .i64 1, .int .i64 1, .int .i64 0, .string { data := #[] }]) (results_cell rfl rfl ((((HBT.out.put 0 (.int .i64 1)).put 1 (.int .i64 1)).put 2 (.int .i64 0)).put 3 (.string { data := #[] })) Try.underlying72 rfl (by kernel_rfl)) rfl
    ⟨rfl, below_set (below_set (below_set (below_set HB.out (Nat.le_refl _) _) (Nat.le_refl _) _) (Nat.le_refl _) _) (Nat.le_refl _) _⟩
set_option maxHeartbeats 4000000 in
theorem RFirst_22 (w : World) : Calls Try.prog 75 #[.int .i64 22] w fun e w' => e = .returned (.agg #[.int .i64 1, .int .i64 10, .int .i64 0, .string { data := #[] }]) ∧ Below w.heap.size w w' := by
  go_enter Try.func75, Try.ntmps75
  go_wp2_with fail
  refine (RWord_10 _).mono ?_; rintro e w2 ⟨rfl, hb2⟩
  have HBT := Lib.hid ((Blk.new w 72 #[.int .i64 0, .int .i64 0, .int .i64 0, .string { data := #[] }]).then_ hb2)
  have HB := Lib.hid (below_then (below_alloc (Below.refl w.heap.size w) (.cells #[.int .i64 0, .int .i64 0, .int .i64 0, .string { data := #[] }] 72)) hb2)
  have y0 : w2.cell? ⟨w.heap.size, 0, none⟩ = some (.int .i64 0) := HBT.out.cell 0
  have z0 : w2.frozen? ⟨w.heap.size, 0, none⟩ = false := HBT.out.frozen 0
  have y1 : w2.cell? ⟨w.heap.size, 1, none⟩ = some (.int .i64 0) := HBT.out.cell 1
  have z1 : w2.frozen? ⟨w.heap.size, 1, none⟩ = false := HBT.out.frozen 1
  have y2 : w2.cell? ⟨w.heap.size, 2, none⟩ = some (.int .i64 0) := HBT.out.cell 2
  have z2 : w2.frozen? ⟨w.heap.size, 2, none⟩ = false := HBT.out.frozen 2
  have y3 : w2.cell? ⟨w.heap.size, 3, none⟩ = some (.string { data := #[] }) := HBT.out.cell 3
  have z3 : w2.frozen? ⟨w.heap.size, 3, none⟩ = false := HBT.out.frozen 3
  clear hb2
  go_wp2_with fail
  exact bodyPost_ret (v := .agg #[.int .i64 1, .int .i64 10, .int .i64 0, .string { data := #[] }]) (results_cell rfl rfl ((((HBT.out.put 0 (.int .i64 1)).put 1 (.int .i64 10)).put 2 (.int .i64 0)).put 3 (.string { data := #[] })) Try.underlying72 rfl (by kernel_rfl)) rfl
    ⟨rfl, below_set (below_set (below_set (below_set HB.out (Nat.le_refl _) _) (Nat.le_refl _) _) (Nat.le_refl _) _) (Nat.le_refl _) _⟩
set_option maxHeartbeats 4000000 in
theorem RFirst_23 (w : World) : Calls Try.prog 75 #[.int .i64 23] w fun e w' => e = .returned (.agg #[.int .i64 1, .int .i64 14, .int .i64 0, .string { data := #[] }]) ∧ Below w.heap.size w w' := by
  go_enter Try.func75, Try.ntmps75
  go_wp2_with fail
  refine (RWord_14 _).mono ?_; rintro e w2 ⟨rfl, hb2⟩
  have HBT := Lib.hid ((Blk.new w 72 #[.int .i64 0, .int .i64 0, .int .i64 0, .string { data := #[] }]).then_ hb2)
  have HB := Lib.hid (below_then (below_alloc (Below.refl w.heap.size w) (.cells #[.int .i64 0, .int .i64 0, .int .i64 0, .string { data := #[] }] 72)) hb2)
  have y0 : w2.cell? ⟨w.heap.size, 0, none⟩ = some (.int .i64 0) := HBT.out.cell 0
  have z0 : w2.frozen? ⟨w.heap.size, 0, none⟩ = false := HBT.out.frozen 0
  have y1 : w2.cell? ⟨w.heap.size, 1, none⟩ = some (.int .i64 0) := HBT.out.cell 1
  have z1 : w2.frozen? ⟨w.heap.size, 1, none⟩ = false := HBT.out.frozen 1
  have y2 : w2.cell? ⟨w.heap.size, 2, none⟩ = some (.int .i64 0) := HBT.out.cell 2
  have z2 : w2.frozen? ⟨w.heap.size, 2, none⟩ = false := HBT.out.frozen 2
  have y3 : w2.cell? ⟨w.heap.size, 3, none⟩ = some (.string { data := #[] }) := HBT.out.cell 3
  have z3 : w2.frozen? ⟨w.heap.size, 3, none⟩ = false := HBT.out.frozen 3
  clear hb2
  go_wp2_with fail
  exact bodyPost_ret (v := .agg #[.int .i64 1, .int .i64 14, .int .i64 0, .string { data := #[] }]) (results_cell rfl rfl ((((HBT.out.put 0 (.int .i64 1)).put 1 (.int .i64 14)).put 2 (.int .i64 0)).put 3 (.string { data := #[] })) Try.underlying72 rfl (by kernel_rfl)) rfl
    ⟨rfl, below_set (below_set (below_set (below_set HB.out (Nat.le_refl _) _) (Nat.le_refl _) _) (Nat.le_refl _) _) (Nat.le_refl _) _⟩
set_option maxHeartbeats 4000000 in
theorem RFirst_24 (w : World) : Calls Try.prog 75 #[.int .i64 24] w fun e w' => e = .returned (.agg #[.int .i64 4, .int .i64 0, .int .i64 0, .string { data := #[] }]) ∧ Below w.heap.size w w' := by
  go_enter Try.func75, Try.ntmps75
  go_wp2_with fail
  refine bodyPost_ret (v := .agg #[.int .i64 4, .int .i64 0, .int .i64 0, .string { data := #[] }]) (by simp [results, Try.results75, go_sem]) rfl ⟨rfl, ?_⟩
  (repeat (first | with_reducible exact Below.refl _ _ | with_reducible refine below_set ?_ (by first | (simp; done) | (simp; omega)) _ | with_reducible refine below_alloc ?_ _))
set_option maxHeartbeats 4000000 in
theorem RFirst_25 (w : World) : Calls Try.prog 75 #[.int .i64 25] w fun e w' => e = .returned (.agg #[.int .i64 4, .int .i64 1000, .int .i64 0, .string { data := #[] }]) ∧ Below w.heap.size w w' := by
  go_enter Try.func75, Try.ntmps75
  go_wp2_with fail
  refine bodyPost_ret (v := .agg #[.int .i64 4, .int .i64 1000, .int .i64 0, .string { data := #[] }]) (by simp [results, Try.results75, go_sem]) rfl ⟨rfl, ?_⟩
  (repeat (first | with_reducible exact Below.refl _ _ | with_reducible refine below_set ?_ (by first | (simp; done) | (simp; omega)) _ | with_reducible refine below_alloc ?_ _))
set_option maxHeartbeats 4000000 in
theorem RFirst_26 (w : World) : Calls Try.prog 75 #[.int .i64 26] w fun e w' => e = .returned (.agg #[.int .i64 1, .int .i64 1, .int .i64 0, .string { data := #[] }]) ∧ Below w.heap.size w w' := by
  go_enter Try.func75, Try.ntmps75
  go_wp2_with fail
  refine (RWord_1 _).mono ?_; rintro e w2 ⟨rfl, hb2⟩
  have HBT := Lib.hid ((Blk.new w 72 #[.int .i64 0, .int .i64 0, .int .i64 0, .string { data := #[] }]).then_ hb2)
  have HB := Lib.hid (below_then (below_alloc (Below.refl w.heap.size w) (.cells #[.int .i64 0, .int .i64 0, .int .i64 0, .string { data := #[] }] 72)) hb2)
  have y0 : w2.cell? ⟨w.heap.size, 0, none⟩ = some (.int .i64 0) := HBT.out.cell 0
  have z0 : w2.frozen? ⟨w.heap.size, 0, none⟩ = false := HBT.out.frozen 0
  have y1 : w2.cell? ⟨w.heap.size, 1, none⟩ = some (.int .i64 0) := HBT.out.cell 1
  have z1 : w2.frozen? ⟨w.heap.size, 1, none⟩ = false := HBT.out.frozen 1
  have y2 : w2.cell? ⟨w.heap.size, 2, none⟩ = some (.int .i64 0) := HBT.out.cell 2
  have z2 : w2.frozen? ⟨w.heap.size, 2, none⟩ = false := HBT.out.frozen 2
  have y3 : w2.cell? ⟨w.heap.size, 3, none⟩ = some (.string { data := #[] }) := HBT.out.cell 3
  have z3 : w2.frozen? ⟨w.heap.size, 3, none⟩ = false := HBT.out.frozen 3
  clear hb2
  go_wp2_with fail
  exact bodyPost_ret (v := .agg #[.int .i64 1, .int .i64 1, .int .i64 0, .string { data := #[] }]) (results_cell rfl rfl ((((HBT.out.put 0 (.int .i64 1)).put 1 (.int .i64 1)).put 2 (.int .i64 0)).put 3 (.string { data := #[] })) Try.underlying72 rfl (by kernel_rfl)) rfl
    ⟨rfl, below_set (below_set (below_set (below_set HB.out (Nat.le_refl _) _) (Nat.le_refl _) _) (Nat.le_refl _) _) (Nat.le_refl _) _⟩
set_option maxHeartbeats 4000000 in
theorem RFirst_27 (w : World) : Calls Try.prog 75 #[.int .i64 27] w fun e w' => e = .returned (.agg #[.int .i64 4, .int .i64 0, .int .i64 0, .string { data := #[] }]) ∧ Below w.heap.size w w' := by
  go_enter Try.func75, Try.ntmps75
  go_wp2_with fail
  refine bodyPost_ret (v := .agg #[.int .i64 4, .int .i64 0, .int .i64 0, .string { data := #[] }]) (by simp [results, Try.results75, go_sem]) rfl ⟨rfl, ?_⟩
  (repeat (first | with_reducible exact Below.refl _ _ | with_reducible refine below_set ?_ (by first | (simp; done) | (simp; omega)) _ | with_reducible refine below_alloc ?_ _))
set_option maxHeartbeats 4000000 in
theorem RFirst_28 (w : World) : Calls Try.prog 75 #[.int .i64 28] w fun e w' => e = .returned (.agg #[.int .i64 1, .int .i64 17, .int .i64 0, .string { data := #[] }]) ∧ Below w.heap.size w w' := by
  go_enter Try.func75, Try.ntmps75
  go_wp2_with fail
  refine (RWord_17 _).mono ?_; rintro e w2 ⟨rfl, hb2⟩
  have HBT := Lib.hid ((Blk.new w 72 #[.int .i64 0, .int .i64 0, .int .i64 0, .string { data := #[] }]).then_ hb2)
  have HB := Lib.hid (below_then (below_alloc (Below.refl w.heap.size w) (.cells #[.int .i64 0, .int .i64 0, .int .i64 0, .string { data := #[] }] 72)) hb2)
  have y0 : w2.cell? ⟨w.heap.size, 0, none⟩ = some (.int .i64 0) := HBT.out.cell 0
  have z0 : w2.frozen? ⟨w.heap.size, 0, none⟩ = false := HBT.out.frozen 0
  have y1 : w2.cell? ⟨w.heap.size, 1, none⟩ = some (.int .i64 0) := HBT.out.cell 1
  have z1 : w2.frozen? ⟨w.heap.size, 1, none⟩ = false := HBT.out.frozen 1
  have y2 : w2.cell? ⟨w.heap.size, 2, none⟩ = some (.int .i64 0) := HBT.out.cell 2
  have z2 : w2.frozen? ⟨w.heap.size, 2, none⟩ = false := HBT.out.frozen 2
  have y3 : w2.cell? ⟨w.heap.size, 3, none⟩ = some (.string { data := #[] }) := HBT.out.cell 3
  have z3 : w2.frozen? ⟨w.heap.size, 3, none⟩ = false := HBT.out.frozen 3
  clear hb2
  go_wp2_with fail
  exact bodyPost_ret (v := .agg #[.int .i64 1, .int .i64 17, .int .i64 0, .string { data := #[] }]) (results_cell rfl rfl ((((HBT.out.put 0 (.int .i64 1)).put 1 (.int .i64 17)).put 2 (.int .i64 0)).put 3 (.string { data := #[] })) Try.underlying72 rfl (by kernel_rfl)) rfl
    ⟨rfl, below_set (below_set (below_set (below_set HB.out (Nat.le_refl _) _) (Nat.le_refl _) _) (Nat.le_refl _) _) (Nat.le_refl _) _⟩
set_option maxHeartbeats 4000000 in
theorem RFirst_29 (w : World) : Calls Try.prog 75 #[.int .i64 29] w fun e w' => e = .returned (.agg #[.int .i64 1, .int .i64 20, .int .i64 0, .string { data := #[] }]) ∧ Below w.heap.size w w' := by
  go_enter Try.func75, Try.ntmps75
  go_wp2_with fail
  refine (RWord_20 _).mono ?_; rintro e w2 ⟨rfl, hb2⟩
  have HBT := Lib.hid ((Blk.new w 72 #[.int .i64 0, .int .i64 0, .int .i64 0, .string { data := #[] }]).then_ hb2)
  have HB := Lib.hid (below_then (below_alloc (Below.refl w.heap.size w) (.cells #[.int .i64 0, .int .i64 0, .int .i64 0, .string { data := #[] }] 72)) hb2)
  have y0 : w2.cell? ⟨w.heap.size, 0, none⟩ = some (.int .i64 0) := HBT.out.cell 0
  have z0 : w2.frozen? ⟨w.heap.size, 0, none⟩ = false := HBT.out.frozen 0
  have y1 : w2.cell? ⟨w.heap.size, 1, none⟩ = some (.int .i64 0) := HBT.out.cell 1
  have z1 : w2.frozen? ⟨w.heap.size, 1, none⟩ = false := HBT.out.frozen 1
  have y2 : w2.cell? ⟨w.heap.size, 2, none⟩ = some (.int .i64 0) := HBT.out.cell 2
  have z2 : w2.frozen? ⟨w.heap.size, 2, none⟩ = false := HBT.out.frozen 2
  have y3 : w2.cell? ⟨w.heap.size, 3, none⟩ = some (.string { data := #[] }) := HBT.out.cell 3
  have z3 : w2.frozen? ⟨w.heap.size, 3, none⟩ = false := HBT.out.frozen 3
  clear hb2
  go_wp2_with fail
  exact bodyPost_ret (v := .agg #[.int .i64 1, .int .i64 20, .int .i64 0, .string { data := #[] }]) (results_cell rfl rfl ((((HBT.out.put 0 (.int .i64 1)).put 1 (.int .i64 20)).put 2 (.int .i64 0)).put 3 (.string { data := #[] })) Try.underlying72 rfl (by kernel_rfl)) rfl
    ⟨rfl, below_set (below_set (below_set (below_set HB.out (Nat.le_refl _) _) (Nat.le_refl _) _) (Nat.le_refl _) _) (Nat.le_refl _) _⟩
set_option maxHeartbeats 4000000 in
theorem RFirst_30 (w : World) : Calls Try.prog 75 #[.int .i64 30] w fun e w' => e = .returned (.agg #[.int .i64 1, .int .i64 1, .int .i64 0, .string { data := #[] }]) ∧ Below w.heap.size w w' := by
  go_enter Try.func75, Try.ntmps75
  go_wp2_with fail
  refine (RWord_1 _).mono ?_; rintro e w2 ⟨rfl, hb2⟩
  have HBT := Lib.hid ((Blk.new w 72 #[.int .i64 0, .int .i64 0, .int .i64 0, .string { data := #[] }]).then_ hb2)
  have HB := Lib.hid (below_then (below_alloc (Below.refl w.heap.size w) (.cells #[.int .i64 0, .int .i64 0, .int .i64 0, .string { data := #[] }] 72)) hb2)
  have y0 : w2.cell? ⟨w.heap.size, 0, none⟩ = some (.int .i64 0) := HBT.out.cell 0
  have z0 : w2.frozen? ⟨w.heap.size, 0, none⟩ = false := HBT.out.frozen 0
  have y1 : w2.cell? ⟨w.heap.size, 1, none⟩ = some (.int .i64 0) := HBT.out.cell 1
  have z1 : w2.frozen? ⟨w.heap.size, 1, none⟩ = false := HBT.out.frozen 1
  have y2 : w2.cell? ⟨w.heap.size, 2, none⟩ = some (.int .i64 0) := HBT.out.cell 2
  have z2 : w2.frozen? ⟨w.heap.size, 2, none⟩ = false := HBT.out.frozen 2
  have y3 : w2.cell? ⟨w.heap.size, 3, none⟩ = some (.string { data := #[] }) := HBT.out.cell 3
  have z3 : w2.frozen? ⟨w.heap.size, 3, none⟩ = false := HBT.out.frozen 3
  clear hb2
  go_wp2_with fail
  exact bodyPost_ret (v := .agg #[.int .i64 1, .int .i64 1, .int .i64 0, .string { data := #[] }]) (results_cell rfl rfl ((((HBT.out.put 0 (.int .i64 1)).put 1 (.int .i64 1)).put 2 (.int .i64 0)).put 3 (.string { data := #[] })) Try.underlying72 rfl (by kernel_rfl)) rfl
    ⟨rfl, below_set (below_set (below_set (below_set HB.out (Nat.le_refl _) _) (Nat.le_refl _) _) (Nat.le_refl _) _) (Nat.le_refl _) _⟩
set_option maxHeartbeats 4000000 in
theorem RFirst_31 (w : World) : Calls Try.prog 75 #[.int .i64 31] w fun e w' => e = .returned (.agg #[.int .i64 1, .int .i64 20, .int .i64 0, .string { data := #[] }]) ∧ Below w.heap.size w w' := by
  go_enter Try.func75, Try.ntmps75
  go_wp2_with fail
  refine (RWord_20 _).mono ?_; rintro e w2 ⟨rfl, hb2⟩
  have HBT := Lib.hid ((Blk.new w 72 #[.int .i64 0, .int .i64 0, .int .i64 0, .string { data := #[] }]).then_ hb2)
  have HB := Lib.hid (below_then (below_alloc (Below.refl w.heap.size w) (.cells #[.int .i64 0, .int .i64 0, .int .i64 0, .string { data := #[] }] 72)) hb2)
  have y0 : w2.cell? ⟨w.heap.size, 0, none⟩ = some (.int .i64 0) := HBT.out.cell 0
  have z0 : w2.frozen? ⟨w.heap.size, 0, none⟩ = false := HBT.out.frozen 0
  have y1 : w2.cell? ⟨w.heap.size, 1, none⟩ = some (.int .i64 0) := HBT.out.cell 1
  have z1 : w2.frozen? ⟨w.heap.size, 1, none⟩ = false := HBT.out.frozen 1
  have y2 : w2.cell? ⟨w.heap.size, 2, none⟩ = some (.int .i64 0) := HBT.out.cell 2
  have z2 : w2.frozen? ⟨w.heap.size, 2, none⟩ = false := HBT.out.frozen 2
  have y3 : w2.cell? ⟨w.heap.size, 3, none⟩ = some (.string { data := #[] }) := HBT.out.cell 3
  have z3 : w2.frozen? ⟨w.heap.size, 3, none⟩ = false := HBT.out.frozen 3
  clear hb2
  go_wp2_with fail
  exact bodyPost_ret (v := .agg #[.int .i64 1, .int .i64 20, .int .i64 0, .string { data := #[] }]) (results_cell rfl rfl ((((HBT.out.put 0 (.int .i64 1)).put 1 (.int .i64 20)).put 2 (.int .i64 0)).put 3 (.string { data := #[] })) Try.underlying72 rfl (by kernel_rfl)) rfl
    ⟨rfl, below_set (below_set (below_set (below_set HB.out (Nat.le_refl _) _) (Nat.le_refl _) _) (Nat.le_refl _) _) (Nat.le_refl _) _⟩
set_option maxHeartbeats 4000000 in
theorem RFirst_32 (w : World) : Calls Try.prog 75 #[.int .i64 32] w fun e w' => e = .returned (.agg #[.int .i64 1, .int .i64 24, .int .i64 0, .string { data := #[] }]) ∧ Below w.heap.size w w' := by
  go_enter Try.func75, Try.ntmps75
  go_wp2_with fail
  refine (RWord_24 _).mono ?_; rintro e w2 ⟨rfl, hb2⟩
  have HBT := Lib.hid ((Blk.new w 72 #[.int .i64 0, .int .i64 0, .int .i64 0, .string { data := #[] }]).then_ hb2)
  have HB := Lib.hid (below_then (below_alloc (Below.refl w.heap.size w) (.cells #[.int .i64 0, .int .i64 0, .int .i64 0, .string { data := #[] }] 72)) hb2)
  have y0 : w2.cell? ⟨w.heap.size, 0, none⟩ = some (.int .i64 0) := HBT.out.cell 0
  have z0 : w2.frozen? ⟨w.heap.size, 0, none⟩ = false := HBT.out.frozen 0
  have y1 : w2.cell? ⟨w.heap.size, 1, none⟩ = some (.int .i64 0) := HBT.out.cell 1
  have z1 : w2.frozen? ⟨w.heap.size, 1, none⟩ = false := HBT.out.frozen 1
  have y2 : w2.cell? ⟨w.heap.size, 2, none⟩ = some (.int .i64 0) := HBT.out.cell 2
  have z2 : w2.frozen? ⟨w.heap.size, 2, none⟩ = false := HBT.out.frozen 2
  have y3 : w2.cell? ⟨w.heap.size, 3, none⟩ = some (.string { data := #[] }) := HBT.out.cell 3
  have z3 : w2.frozen? ⟨w.heap.size, 3, none⟩ = false := HBT.out.frozen 3
  clear hb2
  go_wp2_with fail
  exact bodyPost_ret (v := .agg #[.int .i64 1, .int .i64 24, .int .i64 0, .string { data := #[] }]) (results_cell rfl rfl ((((HBT.out.put 0 (.int .i64 1)).put 1 (.int .i64 24)).put 2 (.int .i64 0)).put 3 (.string { data := #[] })) Try.underlying72 rfl (by kernel_rfl)) rfl
    ⟨rfl, below_set (below_set (below_set (below_set HB.out (Nat.le_refl _) _) (Nat.le_refl _) _) (Nat.le_refl _) _) (Nat.le_refl _) _⟩
set_option maxHeartbeats 4000000 in
theorem RFirst_33 (w : World) : Calls Try.prog 75 #[.int .i64 33] w fun e w' => e = .returned (.agg #[.int .i64 1, .int .i64 24, .int .i64 0, .string { data := #[] }]) ∧ Below w.heap.size w w' := by
  go_enter Try.func75, Try.ntmps75
  go_wp2_with fail
  refine (RWord_24 _).mono ?_; rintro e w2 ⟨rfl, hb2⟩
  have HBT := Lib.hid ((Blk.new w 72 #[.int .i64 0, .int .i64 0, .int .i64 0, .string { data := #[] }]).then_ hb2)
  have HB := Lib.hid (below_then (below_alloc (Below.refl w.heap.size w) (.cells #[.int .i64 0, .int .i64 0, .int .i64 0, .string { data := #[] }] 72)) hb2)
  have y0 : w2.cell? ⟨w.heap.size, 0, none⟩ = some (.int .i64 0) := HBT.out.cell 0
  have z0 : w2.frozen? ⟨w.heap.size, 0, none⟩ = false := HBT.out.frozen 0
  have y1 : w2.cell? ⟨w.heap.size, 1, none⟩ = some (.int .i64 0) := HBT.out.cell 1
  have z1 : w2.frozen? ⟨w.heap.size, 1, none⟩ = false := HBT.out.frozen 1
  have y2 : w2.cell? ⟨w.heap.size, 2, none⟩ = some (.int .i64 0) := HBT.out.cell 2
  have z2 : w2.frozen? ⟨w.heap.size, 2, none⟩ = false := HBT.out.frozen 2
  have y3 : w2.cell? ⟨w.heap.size, 3, none⟩ = some (.string { data := #[] }) := HBT.out.cell 3
  have z3 : w2.frozen? ⟨w.heap.size, 3, none⟩ = false := HBT.out.frozen 3
  clear hb2
  go_wp2_with fail
  exact bodyPost_ret (v := .agg #[.int .i64 1, .int .i64 24, .int .i64 0, .string { data := #[] }]) (results_cell rfl rfl ((((HBT.out.put 0 (.int .i64 1)).put 1 (.int .i64 24)).put 2 (.int .i64 0)).put 3 (.string { data := #[] })) Try.underlying72 rfl (by kernel_rfl)) rfl
    ⟨rfl, below_set (below_set (below_set (below_set HB.out (Nat.le_refl _) _) (Nat.le_refl _) _) (Nat.le_refl _) _) (Nat.le_refl _) _⟩
set_option maxHeartbeats 4000000 in
theorem RFirst_34 (w : World) : Calls Try.prog 75 #[.int .i64 34] w fun e w' => e = .returned (.agg #[.int .i64 1, .int .i64 24, .int .i64 0, .string { data := #[] }]) ∧ Below w.heap.size w w' := by
  go_enter Try.func75, Try.ntmps75
  go_wp2_with fail
  refine (RWord_24 _).mono ?_; rintro e w2 ⟨rfl, hb2⟩
  have HBT := Lib.hid ((Blk.new w 72 #[.int .i64 0, .int .i64 0, .int .i64 0, .string { data := #[] }]).then_ hb2)
  have HB := Lib.hid (below_then (below_alloc (Below.refl w.heap.size w) (.cells #[.int .i64 0, .int .i64 0, .int .i64 0, .string { data := #[] }] 72)) hb2)
  have y0 : w2.cell? ⟨w.heap.size, 0, none⟩ = some (.int .i64 0) := HBT.out.cell 0
  have z0 : w2.frozen? ⟨w.heap.size, 0, none⟩ = false := HBT.out.frozen 0
  have y1 : w2.cell? ⟨w.heap.size, 1, none⟩ = some (.int .i64 0) := HBT.out.cell 1
  have z1 : w2.frozen? ⟨w.heap.size, 1, none⟩ = false := HBT.out.frozen 1
  have y2 : w2.cell? ⟨w.heap.size, 2, none⟩ = some (.int .i64 0) := HBT.out.cell 2
  have z2 : w2.frozen? ⟨w.heap.size, 2, none⟩ = false := HBT.out.frozen 2
  have y3 : w2.cell? ⟨w.heap.size, 3, none⟩ = some (.string { data := #[] }) := HBT.out.cell 3
  have z3 : w2.frozen? ⟨w.heap.size, 3, none⟩ = false := HBT.out.frozen 3
  clear hb2
  go_wp2_with fail
  exact bodyPost_ret (v := .agg #[.int .i64 1, .int .i64 24, .int .i64 0, .string { data := #[] }]) (results_cell rfl rfl ((((HBT.out.put 0 (.int .i64 1)).put 1 (.int .i64 24)).put 2 (.int .i64 0)).put 3 (.string { data := #[] })) Try.underlying72 rfl (by kernel_rfl)) rfl
    ⟨rfl, below_set (below_set (below_set (below_set HB.out (Nat.le_refl _) _) (Nat.le_refl _) _) (Nat.le_refl _) _) (Nat.le_refl _) _⟩
set_option maxHeartbeats 4000000 in
theorem RFirst_35 (w : World) : Calls Try.prog 75 #[.int .i64 35] w fun e w' => e = .returned (.agg #[.int .i64 1, .int .i64 2, .int .i64 0, .string { data := #[] }]) ∧ Below w.heap.size w w' := by
  go_enter Try.func75, Try.ntmps75
  go_wp2_with fail
  refine (RWord_2 _).mono ?_; rintro e w2 ⟨rfl, hb2⟩
  have HBT := Lib.hid ((Blk.new w 72 #[.int .i64 0, .int .i64 0, .int .i64 0, .string { data := #[] }]).then_ hb2)
  have HB := Lib.hid (below_then (below_alloc (Below.refl w.heap.size w) (.cells #[.int .i64 0, .int .i64 0, .int .i64 0, .string { data := #[] }] 72)) hb2)
  have y0 : w2.cell? ⟨w.heap.size, 0, none⟩ = some (.int .i64 0) := HBT.out.cell 0
  have z0 : w2.frozen? ⟨w.heap.size, 0, none⟩ = false := HBT.out.frozen 0
  have y1 : w2.cell? ⟨w.heap.size, 1, none⟩ = some (.int .i64 0) := HBT.out.cell 1
  have z1 : w2.frozen? ⟨w.heap.size, 1, none⟩ = false := HBT.out.frozen 1
  have y2 : w2.cell? ⟨w.heap.size, 2, none⟩ = some (.int .i64 0) := HBT.out.cell 2
  have z2 : w2.frozen? ⟨w.heap.size, 2, none⟩ = false := HBT.out.frozen 2
  have y3 : w2.cell? ⟨w.heap.size, 3, none⟩ = some (.string { data := #[] }) := HBT.out.cell 3
  have z3 : w2.frozen? ⟨w.heap.size, 3, none⟩ = false := HBT.out.frozen 3
  clear hb2
  go_wp2_with fail
  exact bodyPost_ret (v := .agg #[.int .i64 1, .int .i64 2, .int .i64 0, .string { data := #[] }]) (results_cell rfl rfl ((((HBT.out.put 0 (.int .i64 1)).put 1 (.int .i64 2)).put 2 (.int .i64 0)).put 3 (.string { data := #[] })) Try.underlying72 rfl (by kernel_rfl)) rfl
    ⟨rfl, below_set (below_set (below_set (below_set HB.out (Nat.le_refl _) _) (Nat.le_refl _) _) (Nat.le_refl _) _) (Nat.le_refl _) _⟩

end Go.Proofs.Ytdddlnemlpgnlaa
