/- Alignment: spaces, the program's and the reference's. -/
import Derived.Test.YtohnhgchoppgmaaAlignBase
namespace Go.Proofs.Ytohnhgchoppgmaa
open Go.Shelf Go.RowKit Go.Lib Go.Sort
set_option linter.unusedSimpArgs false
set_option linter.unusedVariables false

/-- What is free, spread around items. -/
def spaces (f : Int) (n : Nat) (way : Int) (i : Nat) : Int :=
  if n = 0 then f
  else if way = 1 then (if i = 0 then f else 0)
  else if way = 2 then (if i = n then f - f / 2 else if i = 0 then f / 2 else 0)
  else if 0 ≤ f ∧ way = 3 ∧ 1 < n then deal f (n + 1) (wEnd n 0 1) i
  else if 0 ≤ f ∧ way = 4 then deal f (n + 1) (wEnd n 1 2) i
  else if 0 ≤ f ∧ way = 5 then deal f (n + 1) (fun _ => 1) i
  else if i = n then f else 0

set_option maxHeartbeats 1000000 in
theorem adealt_3 (f : Int) (n : Nat) (hn : n ≤ 1024) (w : World) : Calls Try.prog 22 #[.int .i64 f, .int .i64 n, .int .i64 3] w (RowOut w (n + 1) (deal f (n + 1) (wEnd n 0 1))) := by
  have HB0 : Hid (Below w.heap.size w (w.alloc (.cells #[.int .i64 n] 3))) := Lib.hid ((Below.refl _ w).alloc (Nat.le_refl _) _)
  go_enter Try.func22, Try.ntmps22
  go_wp2_with fail
  refine (weights_2 n hn w.heap.size _ (by simp) (by simp)).mono ?_
  rintro e w1 ⟨o, rfl, ho, hr, hb1⟩
  have HC := Lib.hid (Deal_any f (some ⟨o, 0, none⟩) (n + 1) (n + 1) (wEnd n 0 1) (by omega) w1 (Sl.row hr))
  have HB1 := Lib.hid (below_then HB0.out hb1)
  clear hr hb1 ho
  go_wp2_with fail
  refine (HC.out).mono ?_
  rintro e w2 ⟨o2, rfl, ho2, hr2, hb2⟩
  have HR2 := Lib.hid hr2
  have HB2 := Lib.hid (below_then HB1.out hb2)
  have ho3 : w.heap.size ≤ o2 := Nat.le_trans HB1.out.size ho2
  clear hr2 hb2 HC
  go_wp2_with fail
  go_ret
  exact ⟨o2, rfl, ho3, HR2.out, HB2.out⟩

set_option maxHeartbeats 1000000 in
theorem adealt_4 (f : Int) (n : Nat) (hn : n ≤ 1024) (w : World) : Calls Try.prog 22 #[.int .i64 f, .int .i64 n, .int .i64 4] w (RowOut w (n + 1) (deal f (n + 1) (wEnd n 1 2))) := by
  have HB0 : Hid (Below w.heap.size w (w.alloc (.cells #[.int .i64 n] 3))) := Lib.hid ((Below.refl _ w).alloc (Nat.le_refl _) _)
  go_enter Try.func22, Try.ntmps22
  go_wp2_with fail
  refine (weights_3 n hn w.heap.size _ (by simp) (by simp)).mono ?_
  rintro e w1 ⟨o, rfl, ho, hr, hb1⟩
  have HC := Lib.hid (Deal_any f (some ⟨o, 0, none⟩) (n + 1) (n + 1) (wEnd n 1 2) (by omega) w1 (Sl.row hr))
  have HB1 := Lib.hid (below_then HB0.out hb1)
  clear hr hb1 ho
  go_wp2_with fail
  refine (HC.out).mono ?_
  rintro e w2 ⟨o2, rfl, ho2, hr2, hb2⟩
  have HR2 := Lib.hid hr2
  have HB2 := Lib.hid (below_then HB1.out hb2)
  have ho3 : w.heap.size ≤ o2 := Nat.le_trans HB1.out.size ho2
  clear hr2 hb2 HC
  go_wp2_with fail
  go_ret
  exact ⟨o2, rfl, ho3, HR2.out, HB2.out⟩

set_option maxHeartbeats 1000000 in
theorem adealt_5 (f : Int) (n : Nat) (hn : n ≤ 1024) (w : World) : Calls Try.prog 22 #[.int .i64 f, .int .i64 n, .int .i64 5] w (RowOut w (n + 1) (deal f (n + 1) (fun _ => 1))) := by
  have HB0 : Hid (Below w.heap.size w (w.alloc (.cells #[.int .i64 n] 3))) := Lib.hid ((Below.refl _ w).alloc (Nat.le_refl _) _)
  go_enter Try.func22, Try.ntmps22
  go_wp2_with fail
  refine (weights_1 n hn _).mono ?_
  rintro e w1 ⟨o, rfl, ho, hr, hb1⟩
  have HC := Lib.hid (Deal_any f (some ⟨o, 0, none⟩) (n + 1) (n + 1) (fun _ => 1) (by omega) w1 (Sl.row hr))
  have HB1 := Lib.hid (below_then HB0.out hb1)
  clear hr hb1 ho
  go_wp2_with fail
  refine (HC.out).mono ?_
  rintro e w2 ⟨o2, rfl, ho2, hr2, hb2⟩
  have HR2 := Lib.hid hr2
  have HB2 := Lib.hid (below_then HB1.out hb2)
  have ho3 : w.heap.size ≤ o2 := Nat.le_trans HB1.out.size ho2
  clear hr2 hb2 HC
  go_wp2_with fail
  go_ret
  exact ⟨o2, rfl, ho3, HR2.out, HB2.out⟩

set_option maxHeartbeats 1000000 in
theorem Spaces_1 (free k way : Int) (hw : way = 1) (w : World) : Calls Try.prog 10 #[.int .i64 free, .int .i64 k, .int .i64 way] w (RowOut w (manyN k + 1) (spaces (hold free) (manyN k) way)) := by
  have hb := hold_bd free
  have hn := manyN_bd k
  have HH := Lib.hid (Hold_any free)
  have HM := Lib.hid (many_any k)
  generalize hold free = f at *
  generalize manyN k = n at *
  have HD : Hid (∀ i, i < n + 1 → spaces f n way i = if i = 0 then f else 0) := Lib.hid (fun i hi => by
    unfold spaces
    (repeat' split) <;> first | rfl | omega)
  have hmk := run_make_row' (P := Try.prog) 24 3 (.int .i64 0) 8 Try.underlying24 int_info rfl .i64 .i64 (n + 1) (by omega) (by omega)
  obtain ⟨m, hm⟩ : ∃ m, m = n + 1 := ⟨_, rfl⟩
  rw [← hm] at hmk ⊢
  rw [← hm] at HD
  have qm : (n : Int) + 1 = (m : Int) := by omega
  have hpos : 0 < m := by omega
  have hnm : n < m := by omega
  have t1 : (way == 1) = true := by simp [hw]
  have t2 : (way == 2) = false := by simp [hw]
  have t3 : (way == 3) = false := by simp [hw]
  have t4 : (way == 4) = false := by simp [hw]
  have t5 : (way == 5) = false := by simp [hw]
  have HW := Lib.hid hw
  have HMM := Lib.hid hm
  clear hw hm
  go_enter Try.func10, Try.ntmps10
  go_wp2_with fail
  refine (HH.out _).mono ?_; rintro e w' ⟨rfl, rfl⟩
  go_wp2_with fail
  refine (HM.out _).mono ?_; rintro e w' ⟨rfl, rfl⟩
  have hr0 := World.rowIs_made w (.int .i64 0) m 3
  have z0 := hr0.cell (i := 0) (by omega)
  have z1 := hr0.frozen 0
  clear hr0
  go_wp2_with fail
  go_ret
  refine ⟨w.heap.size, rfl, Nat.le_refl _, (row_one w m 0 _).congr (fun i hi => ?_), (Below.refl _ w).alloc (Nat.le_refl _) _⟩
  rw [HD.out i hi]
  split <;> rfl

set_option maxHeartbeats 1000000 in
theorem Spaces_2a (free k way : Int) (hw : way = 2) (hnn : manyN k = 0) (w : World) : Calls Try.prog 10 #[.int .i64 free, .int .i64 k, .int .i64 way] w (RowOut w (manyN k + 1) (spaces (hold free) (manyN k) way)) := by
  have hb := hold_bd free
  have HH := Lib.hid (Hold_any free)
  have HM := Lib.hid (many_any k)
  generalize hold free = f at *
  generalize manyN k = n at *
  subst hnn hw
  have HD : Hid (∀ i, spaces f 0 2 i = f) := Lib.hid (fun i => if_pos rfl)
  have hmk : ∀ w, (Instr.makeSlice 24 (.int .i64 1) (.int .i64 1)).run Try.prog w = .ok (.slice (some ⟨w.heap.size, 0, none⟩) 1 1) (w.alloc (.cells #[.int .i64 0] 3)) := by
    intro w
    rw [show (#[Value.int .i64 0] : Array Value) = madeCells #[.int .i64 0] 1 from by simp only [madeCells]; rw [show Array.range 1 = #[0] from by decide]; simp]
    exact run_make_row' (P := Try.prog) 24 3 (.int .i64 0) 8 Try.underlying24 int_info rfl .i64 .i64 1 (by omega) (by omega) w
  go_enter Try.func10, Try.ntmps10
  go_wp2_with fail
  refine (HH.out _).mono ?_; rintro e w' ⟨rfl, rfl⟩
  go_wp2_with fail
  refine (HM.out _).mono ?_; rintro e w' ⟨rfl, rfl⟩
  go_wp2_with fail
  refine (half_any f hb.1 hb.2 _).mono ?_; rintro e w' ⟨rfl, rfl⟩
  go_wp2_with fail
  go_ret
  refine ⟨w.heap.size, rfl, Nat.le_refl _, (World.rowIs_alloc w #[.int .i64 f] _ (fun _ => .int .i64 f) (fun i hi => ?_)).congr (fun i hi => by rw [HD.out]), (Below.refl _ w).alloc (Nat.le_refl _) _⟩
  obtain rfl : i = 0 := by simp at hi; omega
  rfl

set_option maxHeartbeats 1000000 in
theorem Spaces_2b (free k way : Int) (hw : way = 2) (hnn : ¬ manyN k = 0) (w : World) : Calls Try.prog 10 #[.int .i64 free, .int .i64 k, .int .i64 way] w (RowOut w (manyN k + 1) (spaces (hold free) (manyN k) way)) := by
  have hb := hold_bd free
  have hn := manyN_bd k
  have HH := Lib.hid (Hold_any free)
  have HM := Lib.hid (many_any k)
  generalize hold free = f at *
  generalize manyN k = n at *
  have HD : Hid (∀ i, i < n + 1 → spaces f n way i = if i = n then f - f / 2 else if i = 0 then f / 2 else 0) := Lib.hid (fun i hi => by
    unfold spaces
    (repeat' split) <;> first | rfl | omega)
  have hmk := run_make_row' (P := Try.prog) 24 3 (.int .i64 0) 8 Try.underlying24 int_info rfl .i64 .i64 (n + 1) (by omega) (by omega)
  obtain ⟨m, hm⟩ : ∃ m, m = n + 1 := ⟨_, rfl⟩
  rw [← hm] at hmk ⊢
  rw [← hm] at HD
  have qm : (n : Int) + 1 = (m : Int) := by omega
  have hpos : 0 < m := by omega
  have hnm : n < m := by omega
  have t1 : (way == 1) = false := by simp [hw]
  have t2 : (way == 2) = true := by simp [hw]
  have t3 : (way == 3) = false := by simp [hw]
  have t4 : (way == 4) = false := by simp [hw]
  have t5 : (way == 5) = false := by simp [hw]
  have HW := Lib.hid hw
  have hn0 : ((n : Int) == 0) = false := by simp; omega
  have HMM := Lib.hid hm
  clear hw hm
  go_enter Try.func10, Try.ntmps10
  go_wp2_with fail
  refine (HH.out _).mono ?_; rintro e w' ⟨rfl, rfl⟩
  go_wp2_with fail
  refine (HM.out _).mono ?_; rintro e w' ⟨rfl, rfl⟩
  have hr0 := World.rowIs_made w (.int .i64 0) m 3
  have z0 := hr0.cell hpos
  have z1 := hr0.frozen 0
  have z2 := hr0.cell hnm
  have z3 := hr0.frozen n
  have hlt := hr0.lt
  clear hr0
  go_wp2_with fail
  refine (half_any f hb.1 hb.2 _).mono ?_; rintro e w' ⟨rfl, rfl⟩
  have hne : ¬ (n = 0) := by omega
  have hne2 : ¬ (0 = n) := by omega
  have z4 : ((madeCells #[Value.int .i64 0] m).setIfInBounds 0 (.int .i64 (f / 2)))[0]? = some (.int .i64 (f / 2)) := made_set0 m _ hpos
  have z5 : ((madeCells #[Value.int .i64 0] m).setIfInBounds 0 (.int .i64 (f / 2)))[n]? = some (.int .i64 0) := made_setn m n _ hnm hne2
  go_wp2_with fail
  go_ret
  refine ⟨w.heap.size, rfl, Nat.le_refl _, (row_two w m 0 n _ _).congr (fun i hi => ?_), (Below.refl _ w).alloc (Nat.le_refl _) _⟩
  rw [HD.out i hi]
  by_cases e1 : i = n
  · rw [if_pos e1, if_pos e1]
  · rw [if_neg e1, if_neg e1]
    split <;> rfl

set_option maxHeartbeats 1000000 in
theorem Spaces_3a (free k way : Int) (hw : way = 3) (hnn : manyN k < 2) (w : World) : Calls Try.prog 10 #[.int .i64 free, .int .i64 k, .int .i64 way] w (RowOut w (manyN k + 1) (spaces (hold free) (manyN k) way)) := by
  have hb := hold_bd free
  have hn := manyN_bd k
  have HH := Lib.hid (Hold_any free)
  have HM := Lib.hid (many_any k)
  generalize hold free = f at *
  generalize manyN k = n at *
  have HD : Hid (∀ i, i < n + 1 → spaces f n way i = if i = n then f else 0) := Lib.hid (fun i hi => by
    unfold spaces
    (repeat' split) <;> first | rfl | omega)
  have hmk := run_make_row' (P := Try.prog) 24 3 (.int .i64 0) 8 Try.underlying24 int_info rfl .i64 .i64 (n + 1) (by omega) (by omega)
  obtain ⟨m, hm⟩ : ∃ m, m = n + 1 := ⟨_, rfl⟩
  rw [← hm] at hmk ⊢
  rw [← hm] at HD
  have qm : (n : Int) + 1 = (m : Int) := by omega
  have hpos : 0 < m := by omega
  have hnm : n < m := by omega
  have t1 : (way == 1) = false := by simp [hw]
  have t2 : (way == 2) = false := by simp [hw]
  have t3 : (way == 3) = true := by simp [hw]
  have t4 : (way == 4) = false := by simp [hw]
  have t5 : (way == 5) = false := by simp [hw]
  have HW := Lib.hid hw
  have HMM := Lib.hid hm
  clear hw hm
  go_enter Try.func10, Try.ntmps10
  go_wp2_with fail
  refine (HH.out _).mono ?_; rintro e w' ⟨rfl, rfl⟩
  go_wp2_with fail
  refine (HM.out _).mono ?_; rintro e w' ⟨rfl, rfl⟩
  have hr0 := World.rowIs_made w (.int .i64 0) m 3
  have z0 := hr0.cell (i := n) (by omega)
  have z1 := hr0.frozen n
  clear hr0
  go_wp2_with fail
  go_ret
  refine ⟨w.heap.size, rfl, Nat.le_refl _, (row_one w m n _).congr (fun i hi => ?_), (Below.refl _ w).alloc (Nat.le_refl _) _⟩
  rw [HD.out i hi]
  split <;> rfl

set_option maxHeartbeats 1000000 in
theorem Spaces_3b (free k way : Int) (hw : way = 3) (hnn : ¬ manyN k < 2) (hff : ¬ 0 ≤ hold free) (w : World) : Calls Try.prog 10 #[.int .i64 free, .int .i64 k, .int .i64 way] w (RowOut w (manyN k + 1) (spaces (hold free) (manyN k) way)) := by
  have hb := hold_bd free
  have hn := manyN_bd k
  have HH := Lib.hid (Hold_any free)
  have HM := Lib.hid (many_any k)
  generalize hold free = f at *
  generalize manyN k = n at *
  have HD : Hid (∀ i, i < n + 1 → spaces f n way i = if i = n then f else 0) := Lib.hid (fun i hi => by
    unfold spaces
    (repeat' split) <;> first | rfl | omega)
  have hmk := run_make_row' (P := Try.prog) 24 3 (.int .i64 0) 8 Try.underlying24 int_info rfl .i64 .i64 (n + 1) (by omega) (by omega)
  obtain ⟨m, hm⟩ : ∃ m, m = n + 1 := ⟨_, rfl⟩
  rw [← hm] at hmk ⊢
  rw [← hm] at HD
  have qm : (n : Int) + 1 = (m : Int) := by omega
  have hpos : 0 < m := by omega
  have hnm : n < m := by omega
  have t1 : (way == 1) = false := by simp [hw]
  have t2 : (way == 2) = false := by simp [hw]
  have t3 : (way == 3) = true := by simp [hw]
  have t4 : (way == 4) = false := by simp [hw]
  have t5 : (way == 5) = false := by simp [hw]
  have HW := Lib.hid hw
  have HMM := Lib.hid hm
  clear hw hm
  go_enter Try.func10, Try.ntmps10
  go_wp2_with fail
  refine (HH.out _).mono ?_; rintro e w' ⟨rfl, rfl⟩
  go_wp2_with fail
  refine (HM.out _).mono ?_; rintro e w' ⟨rfl, rfl⟩
  have hr0 := World.rowIs_made w (.int .i64 0) m 3
  have z0 := hr0.cell (i := n) (by omega)
  have z1 := hr0.frozen n
  clear hr0
  go_wp2_with fail
  go_ret
  refine ⟨w.heap.size, rfl, Nat.le_refl _, (row_one w m n _).congr (fun i hi => ?_), (Below.refl _ w).alloc (Nat.le_refl _) _⟩
  rw [HD.out i hi]
  split <;> rfl

set_option maxHeartbeats 1000000 in
theorem Spaces_3c (free k way : Int) (hw : way = 3) (hnn : ¬ manyN k < 2) (hff : 0 ≤ hold free) (w : World) : Calls Try.prog 10 #[.int .i64 free, .int .i64 k, .int .i64 way] w (RowOut w (manyN k + 1) (spaces (hold free) (manyN k) way)) := by
  have hb := hold_bd free
  have hn := manyN_bd k
  have HH := Lib.hid (Hold_any free)
  have HM := Lib.hid (many_any k)
  generalize hold free = f at *
  generalize manyN k = n at *
  have HD : Hid (∀ i, i < n + 1 → spaces f n way i = deal f (n + 1) (wEnd n 0 1) i) := Lib.hid (fun i hi => by
    unfold spaces
    (repeat' split) <;> first | rfl | omega)
  have hmk := run_make_row' (P := Try.prog) 24 3 (.int .i64 0) 8 Try.underlying24 int_info rfl .i64 .i64 (n + 1) (by omega) (by omega)
  obtain ⟨m, hm⟩ : ∃ m, m = n + 1 := ⟨_, rfl⟩
  rw [← hm] at hmk ⊢
  rw [← hm] at HD
  have qm : (n : Int) + 1 = (m : Int) := by omega
  have hpos : 0 < m := by omega
  have hnm : n < m := by omega
  have t1 : (way == 1) = false := by simp [hw]
  have t2 : (way == 2) = false := by simp [hw]
  have t3 : (way == 3) = true := by simp [hw]
  have t4 : (way == 4) = false := by simp [hw]
  have t5 : (way == 5) = false := by simp [hw]
  have HW := Lib.hid hw
  have HMM := Lib.hid hm
  clear hw hm
  go_enter Try.func10, Try.ntmps10
  go_wp2_with fail
  refine (HH.out _).mono ?_; rintro e w' ⟨rfl, rfl⟩
  go_wp2_with fail
  refine (HM.out _).mono ?_; rintro e w' ⟨rfl, rfl⟩
  have hB : Below w.heap.size w (w.alloc (.cells (madeCells #[.int .i64 0] m) 3)) := (Below.refl _ w).alloc (Nat.le_refl _) _
  have HB := Lib.hid hB
  clear hB
  obtain rfl : way = 3 := HW.out
  clear t1 t2 t3 t4 t5
  go_wp2_with fail
  refine (adealt_3 f n hn _).mono ?_
  rintro e w1 ⟨o, rfl, ho, hr, hb1⟩
  have HR := Lib.hid hr
  have HB2 := Lib.hid (below_then HB.out hb1)
  have ho2 : w.heap.size ≤ o := Nat.le_trans HB.out.size ho
  clear hr hb1 ho
  go_wp2_with fail
  go_ret
  have hmm := HMM.out
  subst hmm
  exact ⟨o, rfl, ho2, HR.out.congr (fun i hi => by rw [HD.out i hi]), HB2.out⟩

set_option maxHeartbeats 1000000 in
theorem Spaces_4a (free k way : Int) (hw : way = 4) (hff : ¬ 0 ≤ hold free) (w : World) : Calls Try.prog 10 #[.int .i64 free, .int .i64 k, .int .i64 way] w (RowOut w (manyN k + 1) (spaces (hold free) (manyN k) way)) := by
  have hb := hold_bd free
  have hn := manyN_bd k
  have HH := Lib.hid (Hold_any free)
  have HM := Lib.hid (many_any k)
  generalize hold free = f at *
  generalize manyN k = n at *
  have HD : Hid (∀ i, i < n + 1 → spaces f n way i = if i = n then f else 0) := Lib.hid (fun i hi => by
    unfold spaces
    (repeat' split) <;> first | rfl | omega)
  have hmk := run_make_row' (P := Try.prog) 24 3 (.int .i64 0) 8 Try.underlying24 int_info rfl .i64 .i64 (n + 1) (by omega) (by omega)
  obtain ⟨m, hm⟩ : ∃ m, m = n + 1 := ⟨_, rfl⟩
  rw [← hm] at hmk ⊢
  rw [← hm] at HD
  have qm : (n : Int) + 1 = (m : Int) := by omega
  have hpos : 0 < m := by omega
  have hnm : n < m := by omega
  have t1 : (way == 1) = false := by simp [hw]
  have t2 : (way == 2) = false := by simp [hw]
  have t3 : (way == 3) = false := by simp [hw]
  have t4 : (way == 4) = true := by simp [hw]
  have t5 : (way == 5) = false := by simp [hw]
  have HW := Lib.hid hw
  have HMM := Lib.hid hm
  clear hw hm
  go_enter Try.func10, Try.ntmps10
  go_wp2_with fail
  refine (HH.out _).mono ?_; rintro e w' ⟨rfl, rfl⟩
  go_wp2_with fail
  refine (HM.out _).mono ?_; rintro e w' ⟨rfl, rfl⟩
  have hr0 := World.rowIs_made w (.int .i64 0) m 3
  have z0 := hr0.cell (i := n) (by omega)
  have z1 := hr0.frozen n
  clear hr0
  go_wp2_with fail
  go_ret
  refine ⟨w.heap.size, rfl, Nat.le_refl _, (row_one w m n _).congr (fun i hi => ?_), (Below.refl _ w).alloc (Nat.le_refl _) _⟩
  rw [HD.out i hi]
  split <;> rfl

set_option maxHeartbeats 1000000 in
theorem Spaces_4b (free k way : Int) (hw : way = 4) (hnn : manyN k = 0) (hff : 0 ≤ hold free) (w : World) : Calls Try.prog 10 #[.int .i64 free, .int .i64 k, .int .i64 way] w (RowOut w (manyN k + 1) (spaces (hold free) (manyN k) way)) := by
  have hb := hold_bd free
  have hn := manyN_bd k
  have HH := Lib.hid (Hold_any free)
  have HM := Lib.hid (many_any k)
  generalize hold free = f at *
  generalize manyN k = n at *
  have HD : Hid (∀ i, i < n + 1 → spaces f n way i = if i = n then f else 0) := Lib.hid (fun i hi => by
    unfold spaces
    (repeat' split) <;> first | rfl | omega)
  have hmk := run_make_row' (P := Try.prog) 24 3 (.int .i64 0) 8 Try.underlying24 int_info rfl .i64 .i64 (n + 1) (by omega) (by omega)
  obtain ⟨m, hm⟩ : ∃ m, m = n + 1 := ⟨_, rfl⟩
  rw [← hm] at hmk ⊢
  rw [← hm] at HD
  have qm : (n : Int) + 1 = (m : Int) := by omega
  have hpos : 0 < m := by omega
  have hnm : n < m := by omega
  have t1 : (way == 1) = false := by simp [hw]
  have t2 : (way == 2) = false := by simp [hw]
  have t3 : (way == 3) = false := by simp [hw]
  have t4 : (way == 4) = true := by simp [hw]
  have t5 : (way == 5) = false := by simp [hw]
  have HW := Lib.hid hw
  have hnz : ¬ (0 : Int) < (n : Int) := by omega
  have HNN := Lib.hid hnn
  clear hnn
  have HMM := Lib.hid hm
  clear hw hm
  go_enter Try.func10, Try.ntmps10
  go_wp2_with fail
  refine (HH.out _).mono ?_; rintro e w' ⟨rfl, rfl⟩
  go_wp2_with fail
  refine (HM.out _).mono ?_; rintro e w' ⟨rfl, rfl⟩
  have hr0 := World.rowIs_made w (.int .i64 0) m 3
  have z0 := hr0.cell (i := n) (by omega)
  have z1 := hr0.frozen n
  clear hr0
  go_wp2_with fail
  go_ret
  refine ⟨w.heap.size, rfl, Nat.le_refl _, (row_one w m n _).congr (fun i hi => ?_), (Below.refl _ w).alloc (Nat.le_refl _) _⟩
  rw [HD.out i hi]
  split <;> rfl

set_option maxHeartbeats 1000000 in
theorem Spaces_4c (free k way : Int) (hw : way = 4) (hnn : 0 < manyN k) (hff : 0 ≤ hold free) (w : World) : Calls Try.prog 10 #[.int .i64 free, .int .i64 k, .int .i64 way] w (RowOut w (manyN k + 1) (spaces (hold free) (manyN k) way)) := by
  have hb := hold_bd free
  have hn := manyN_bd k
  have HH := Lib.hid (Hold_any free)
  have HM := Lib.hid (many_any k)
  generalize hold free = f at *
  generalize manyN k = n at *
  have HD : Hid (∀ i, i < n + 1 → spaces f n way i = deal f (n + 1) (wEnd n 1 2) i) := Lib.hid (fun i hi => by
    unfold spaces
    (repeat' split) <;> first | rfl | omega)
  have hmk := run_make_row' (P := Try.prog) 24 3 (.int .i64 0) 8 Try.underlying24 int_info rfl .i64 .i64 (n + 1) (by omega) (by omega)
  obtain ⟨m, hm⟩ : ∃ m, m = n + 1 := ⟨_, rfl⟩
  rw [← hm] at hmk ⊢
  rw [← hm] at HD
  have qm : (n : Int) + 1 = (m : Int) := by omega
  have hpos : 0 < m := by omega
  have hnm : n < m := by omega
  have t1 : (way == 1) = false := by simp [hw]
  have t2 : (way == 2) = false := by simp [hw]
  have t3 : (way == 3) = false := by simp [hw]
  have t4 : (way == 4) = true := by simp [hw]
  have t5 : (way == 5) = false := by simp [hw]
  have HW := Lib.hid hw
  have HMM := Lib.hid hm
  clear hw hm
  go_enter Try.func10, Try.ntmps10
  go_wp2_with fail
  refine (HH.out _).mono ?_; rintro e w' ⟨rfl, rfl⟩
  go_wp2_with fail
  refine (HM.out _).mono ?_; rintro e w' ⟨rfl, rfl⟩
  have hB : Below w.heap.size w (w.alloc (.cells (madeCells #[.int .i64 0] m) 3)) := (Below.refl _ w).alloc (Nat.le_refl _) _
  have HB := Lib.hid hB
  clear hB
  obtain rfl : way = 4 := HW.out
  clear t1 t2 t3 t4 t5
  go_wp2_with fail
  refine (adealt_4 f n hn _).mono ?_
  rintro e w1 ⟨o, rfl, ho, hr, hb1⟩
  have HR := Lib.hid hr
  have HB2 := Lib.hid (below_then HB.out hb1)
  have ho2 : w.heap.size ≤ o := Nat.le_trans HB.out.size ho
  clear hr hb1 ho
  go_wp2_with fail
  go_ret
  have hmm := HMM.out
  subst hmm
  exact ⟨o, rfl, ho2, HR.out.congr (fun i hi => by rw [HD.out i hi]), HB2.out⟩

set_option maxHeartbeats 1000000 in
theorem Spaces_5a (free k way : Int) (hw : way = 5) (hff : ¬ 0 ≤ hold free) (w : World) : Calls Try.prog 10 #[.int .i64 free, .int .i64 k, .int .i64 way] w (RowOut w (manyN k + 1) (spaces (hold free) (manyN k) way)) := by
  have hb := hold_bd free
  have hn := manyN_bd k
  have HH := Lib.hid (Hold_any free)
  have HM := Lib.hid (many_any k)
  generalize hold free = f at *
  generalize manyN k = n at *
  have HD : Hid (∀ i, i < n + 1 → spaces f n way i = if i = n then f else 0) := Lib.hid (fun i hi => by
    unfold spaces
    (repeat' split) <;> first | rfl | omega)
  have hmk := run_make_row' (P := Try.prog) 24 3 (.int .i64 0) 8 Try.underlying24 int_info rfl .i64 .i64 (n + 1) (by omega) (by omega)
  obtain ⟨m, hm⟩ : ∃ m, m = n + 1 := ⟨_, rfl⟩
  rw [← hm] at hmk ⊢
  rw [← hm] at HD
  have qm : (n : Int) + 1 = (m : Int) := by omega
  have hpos : 0 < m := by omega
  have hnm : n < m := by omega
  have t1 : (way == 1) = false := by simp [hw]
  have t2 : (way == 2) = false := by simp [hw]
  have t3 : (way == 3) = false := by simp [hw]
  have t4 : (way == 4) = false := by simp [hw]
  have t5 : (way == 5) = true := by simp [hw]
  have HW := Lib.hid hw
  have HMM := Lib.hid hm
  clear hw hm
  go_enter Try.func10, Try.ntmps10
  go_wp2_with fail
  refine (HH.out _).mono ?_; rintro e w' ⟨rfl, rfl⟩
  go_wp2_with fail
  refine (HM.out _).mono ?_; rintro e w' ⟨rfl, rfl⟩
  have hr0 := World.rowIs_made w (.int .i64 0) m 3
  have z0 := hr0.cell (i := n) (by omega)
  have z1 := hr0.frozen n
  clear hr0
  go_wp2_with fail
  go_ret
  refine ⟨w.heap.size, rfl, Nat.le_refl _, (row_one w m n _).congr (fun i hi => ?_), (Below.refl _ w).alloc (Nat.le_refl _) _⟩
  rw [HD.out i hi]
  split <;> rfl

set_option maxHeartbeats 1000000 in
theorem Spaces_5b (free k way : Int) (hw : way = 5) (hnn : manyN k = 0) (hff : 0 ≤ hold free) (w : World) : Calls Try.prog 10 #[.int .i64 free, .int .i64 k, .int .i64 way] w (RowOut w (manyN k + 1) (spaces (hold free) (manyN k) way)) := by
  have hb := hold_bd free
  have hn := manyN_bd k
  have HH := Lib.hid (Hold_any free)
  have HM := Lib.hid (many_any k)
  generalize hold free = f at *
  generalize manyN k = n at *
  have HD : Hid (∀ i, i < n + 1 → spaces f n way i = if i = n then f else 0) := Lib.hid (fun i hi => by
    unfold spaces
    (repeat' split) <;> first | rfl | omega)
  have hmk := run_make_row' (P := Try.prog) 24 3 (.int .i64 0) 8 Try.underlying24 int_info rfl .i64 .i64 (n + 1) (by omega) (by omega)
  obtain ⟨m, hm⟩ : ∃ m, m = n + 1 := ⟨_, rfl⟩
  rw [← hm] at hmk ⊢
  rw [← hm] at HD
  have qm : (n : Int) + 1 = (m : Int) := by omega
  have hpos : 0 < m := by omega
  have hnm : n < m := by omega
  have t1 : (way == 1) = false := by simp [hw]
  have t2 : (way == 2) = false := by simp [hw]
  have t3 : (way == 3) = false := by simp [hw]
  have t4 : (way == 4) = false := by simp [hw]
  have t5 : (way == 5) = true := by simp [hw]
  have HW := Lib.hid hw
  have hnz : ¬ (0 : Int) < (n : Int) := by omega
  have HNN := Lib.hid hnn
  clear hnn
  have HMM := Lib.hid hm
  clear hw hm
  go_enter Try.func10, Try.ntmps10
  go_wp2_with fail
  refine (HH.out _).mono ?_; rintro e w' ⟨rfl, rfl⟩
  go_wp2_with fail
  refine (HM.out _).mono ?_; rintro e w' ⟨rfl, rfl⟩
  have hr0 := World.rowIs_made w (.int .i64 0) m 3
  have z0 := hr0.cell (i := n) (by omega)
  have z1 := hr0.frozen n
  clear hr0
  go_wp2_with fail
  go_ret
  refine ⟨w.heap.size, rfl, Nat.le_refl _, (row_one w m n _).congr (fun i hi => ?_), (Below.refl _ w).alloc (Nat.le_refl _) _⟩
  rw [HD.out i hi]
  split <;> rfl

set_option maxHeartbeats 1000000 in
theorem Spaces_5c (free k way : Int) (hw : way = 5) (hnn : 0 < manyN k) (hff : 0 ≤ hold free) (w : World) : Calls Try.prog 10 #[.int .i64 free, .int .i64 k, .int .i64 way] w (RowOut w (manyN k + 1) (spaces (hold free) (manyN k) way)) := by
  have hb := hold_bd free
  have hn := manyN_bd k
  have HH := Lib.hid (Hold_any free)
  have HM := Lib.hid (many_any k)
  generalize hold free = f at *
  generalize manyN k = n at *
  have HD : Hid (∀ i, i < n + 1 → spaces f n way i = deal f (n + 1) (fun _ => 1) i) := Lib.hid (fun i hi => by
    unfold spaces
    (repeat' split) <;> first | rfl | omega)
  have hmk := run_make_row' (P := Try.prog) 24 3 (.int .i64 0) 8 Try.underlying24 int_info rfl .i64 .i64 (n + 1) (by omega) (by omega)
  obtain ⟨m, hm⟩ : ∃ m, m = n + 1 := ⟨_, rfl⟩
  rw [← hm] at hmk ⊢
  rw [← hm] at HD
  have qm : (n : Int) + 1 = (m : Int) := by omega
  have hpos : 0 < m := by omega
  have hnm : n < m := by omega
  have t1 : (way == 1) = false := by simp [hw]
  have t2 : (way == 2) = false := by simp [hw]
  have t3 : (way == 3) = false := by simp [hw]
  have t4 : (way == 4) = false := by simp [hw]
  have t5 : (way == 5) = true := by simp [hw]
  have HW := Lib.hid hw
  have HMM := Lib.hid hm
  clear hw hm
  go_enter Try.func10, Try.ntmps10
  go_wp2_with fail
  refine (HH.out _).mono ?_; rintro e w' ⟨rfl, rfl⟩
  go_wp2_with fail
  refine (HM.out _).mono ?_; rintro e w' ⟨rfl, rfl⟩
  have hB : Below w.heap.size w (w.alloc (.cells (madeCells #[.int .i64 0] m) 3)) := (Below.refl _ w).alloc (Nat.le_refl _) _
  have HB := Lib.hid hB
  clear hB
  obtain rfl : way = 5 := HW.out
  clear t1 t2 t3 t4 t5
  go_wp2_with fail
  refine (adealt_5 f n hn _).mono ?_
  rintro e w1 ⟨o, rfl, ho, hr, hb1⟩
  have HR := Lib.hid hr
  have HB2 := Lib.hid (below_then HB.out hb1)
  have ho2 : w.heap.size ≤ o := Nat.le_trans HB.out.size ho
  clear hr hb1 ho
  go_wp2_with fail
  go_ret
  have hmm := HMM.out
  subst hmm
  exact ⟨o, rfl, ho2, HR.out.congr (fun i hi => by rw [HD.out i hi]), HB2.out⟩

set_option maxHeartbeats 1000000 in
theorem Spaces_6 (free k way : Int) (hw : ¬ way = 1 ∧ ¬ way = 2 ∧ ¬ way = 3 ∧ ¬ way = 4 ∧ ¬ way = 5) (w : World) : Calls Try.prog 10 #[.int .i64 free, .int .i64 k, .int .i64 way] w (RowOut w (manyN k + 1) (spaces (hold free) (manyN k) way)) := by
  have hb := hold_bd free
  have hn := manyN_bd k
  have HH := Lib.hid (Hold_any free)
  have HM := Lib.hid (many_any k)
  generalize hold free = f at *
  generalize manyN k = n at *
  have HD : Hid (∀ i, i < n + 1 → spaces f n way i = if i = n then f else 0) := Lib.hid (fun i hi => by
    unfold spaces
    (repeat' split) <;> first | rfl | omega)
  have hmk := run_make_row' (P := Try.prog) 24 3 (.int .i64 0) 8 Try.underlying24 int_info rfl .i64 .i64 (n + 1) (by omega) (by omega)
  obtain ⟨m, hm⟩ : ∃ m, m = n + 1 := ⟨_, rfl⟩
  rw [← hm] at hmk ⊢
  rw [← hm] at HD
  have qm : (n : Int) + 1 = (m : Int) := by omega
  have hpos : 0 < m := by omega
  have hnm : n < m := by omega
  have t1 : (way == 1) = false := by simp; omega
  have t2 : (way == 2) = false := by simp; omega
  have t3 : (way == 3) = false := by simp; omega
  have t4 : (way == 4) = false := by simp; omega
  have t5 : (way == 5) = false := by simp; omega
  have HW := Lib.hid hw
  have HMM := Lib.hid hm
  clear hw hm
  go_enter Try.func10, Try.ntmps10
  go_wp2_with fail
  refine (HH.out _).mono ?_; rintro e w' ⟨rfl, rfl⟩
  go_wp2_with fail
  refine (HM.out _).mono ?_; rintro e w' ⟨rfl, rfl⟩
  have hr0 := World.rowIs_made w (.int .i64 0) m 3
  have z0 := hr0.cell (i := n) (by omega)
  have z1 := hr0.frozen n
  clear hr0
  go_wp2_with fail
  go_ret
  refine ⟨w.heap.size, rfl, Nat.le_refl _, (row_one w m n _).congr (fun i hi => ?_), (Below.refl _ w).alloc (Nat.le_refl _) _⟩
  rw [HD.out i hi]
  split <;> rfl

theorem Spaces_any (free k way : Int) (w : World) : Calls Try.prog 10 #[.int .i64 free, .int .i64 k, .int .i64 way] w (RowOut w (manyN k + 1) (spaces (hold free) (manyN k) way)) := by
  by_cases h1 : way = 1
  · exact Spaces_1 free k way h1 w
  by_cases h2 : way = 2
  · by_cases hn : manyN k = 0
    · exact Spaces_2a free k way h2 hn w
    · exact Spaces_2b free k way h2 hn w
  by_cases h3 : way = 3
  · by_cases hn : manyN k < 2
    · exact Spaces_3a free k way h3 hn w
    · by_cases hf : 0 ≤ hold free
      · exact Spaces_3c free k way h3 hn hf w
      · exact Spaces_3b free k way h3 hn hf w
  by_cases h4 : way = 4
  · by_cases hf : 0 ≤ hold free
    · by_cases hn : manyN k = 0
      · exact Spaces_4b free k way h4 hn hf w
      · exact Spaces_4c free k way h4 (by omega) hf w
    · exact Spaces_4a free k way h4 hf w
  by_cases h5 : way = 5
  · by_cases hf : 0 ≤ hold free
    · by_cases hn : manyN k = 0
      · exact Spaces_5b free k way h5 hn hf w
      · exact Spaces_5c free k way h5 (by omega) hf w
    · exact Spaces_5a free k way h5 hf w
  exact Spaces_6 free k way ⟨h1, h2, h3, h4, h5⟩ w

end Go.Proofs.Ytohnhgchoppgmaa
