/- Alignment: the reference's spaces. -/
import Derived.Test.YtohnhgchoppgmaaAlignSpaces
namespace Go.Proofs.Ytohnhgchoppgmaa
open Go.Shelf Go.RowKit Go.Lib Go.Sort
set_option linter.unusedSimpArgs false
set_option linter.unusedVariables false

theorem wEnd_same (n : Nat) : wEnd n 1 1 = fun _ => 1 := by funext i; unfold wEnd; split <;> rfl

set_option maxHeartbeats 1000000 in
theorem RWts_any (n : Nat) (hn : n ≤ 1024) (e1 o1 : Int) (w : World) : Calls Try.prog 26 #[.int .i64 n, .int .i64 e1, .int .i64 o1] w (RowOut w (n + 1) (wEnd n e1 o1)) := by
  have hmk := run_make_row' (P := Try.prog) 24 3 (.int .i64 0) 8 Try.underlying24 int_info rfl .i64 .i64 (n + 1) (by omega) (by omega)
  obtain ⟨m, hm⟩ : ∃ m, m = n + 1 := ⟨_, rfl⟩
  rw [← hm] at hmk ⊢
  have qm : (n : Int) + 1 = (m : Int) := by omega
  have HM := Lib.hid hm
  have hmb : m ≤ 1025 := by omega
  clear hm
  go_enter Try.func26, Try.ntmps26
  go_wp2_with fail
  have HR0 := Lib.hid (World.rowIs_made w (.int .i64 0) m 3)
  clear hmk qm
  go_loopw [8] (fun v8 wr => ∃ k : Nat, k ≤ m ∧ v8 = .int .i64 k ∧ wr.rowIs w.heap.size 3 m (fun i => .int .i64 (if i < k then wEnd n e1 o1 i else 0)) ∧ Below w.heap.size w wr) (fun v8 _ => m - (intOf v8).toNat)
  case atStart => exact ⟨0, Nat.zero_le _, rfl, HR0.out.congr (fun i hi => by simp), (Below.refl _ w).alloc (Nat.le_refl _) _⟩
  case round =>
    clear HR0
    obtain ⟨k, hk, rfl, hr, hb⟩ := hrel
    by_cases hlt : k < m
    · have fz := hr.frozen k
      have c6 := hr.cell hlt
      have kz : (k : Int) ≤ (n : Int) := by have := HM.out; omega
      have HR := Lib.hid hr
      have HB := Lib.hid hb
      clear hr hb
      have hcong : ∀ (x : Int), wEnd n e1 o1 k = x → ∀ j, j < m → (if j = k then Value.int .i64 x else .int .i64 (if j < k then wEnd n e1 o1 j else 0)) = .int .i64 (if j < k + 1 then wEnd n e1 o1 j else 0) := fun x hx j hj => by
        by_cases e : j = k
        · subst e; rw [if_pos rfl, if_pos (by omega), hx]
        · rw [if_neg e]
          by_cases e2 : j < k
          · rw [if_pos e2, if_pos (by omega)]
          · rw [if_neg e2, if_neg (by omega)]
      have HCG := Lib.hid hcong
      clear hcong
      by_cases hk0 : k = 0
      · have t0 : ((k : Int) == 0) = true := by simp [hk0]
        have HE : Hid (wEnd n e1 o1 k = e1) := Lib.hid (if_pos (.inl hk0))
        clear hk0
        go_wp2_with fail
        go_roundw
        case rel =>
          refine ⟨k + 1, hlt, by go_num, ((HR.out.set k _).set k _).congr (fun j hj => ?_), below_set (below_set HB.out (Nat.le_refl _) _) (Nat.le_refl _) _⟩
          rw [← HCG.out e1 HE.out j hj]
          by_cases e : j = k
          · rw [if_pos e, if_pos e]
          · rw [if_neg e, if_neg e, if_neg e]
        case measure => simp [intOf]; omega
      · have t0 : ((k : Int) == 0) = false := by simp [hk0]
        by_cases hkn : k = n
        · have t1 : ((k : Int) == (n : Int)) = true := by simp [hkn]
          have HE : Hid (wEnd n e1 o1 k = e1) := Lib.hid (if_pos (.inr hkn))
          clear hk0 hkn
          go_wp2_with fail
          go_roundw
          case rel =>
            refine ⟨k + 1, hlt, by go_num, ((HR.out.set k _).set k _).congr (fun j hj => ?_), below_set (below_set HB.out (Nat.le_refl _) _) (Nat.le_refl _) _⟩
            rw [← HCG.out e1 HE.out j hj]
            by_cases e : j = k
            · rw [if_pos e, if_pos e]
            · rw [if_neg e, if_neg e, if_neg e]
          case measure => simp [intOf]; omega
        · have t1 : ((k : Int) == (n : Int)) = false := by simp; omega
          have HE : Hid (wEnd n e1 o1 k = o1) := Lib.hid (if_neg (by omega))
          clear hk0 hkn
          go_wp2_with fail
          go_roundw
          case rel =>
            refine ⟨k + 1, hlt, by go_num, (HR.out.set k _).congr (fun j hj => ?_), below_set HB.out (Nat.le_refl _) _⟩
            rw [← HCG.out o1 HE.out j hj]
          case measure => simp [intOf]; omega
    · obtain rfl : k = m := by omega
      have kz : ¬ (k : Int) ≤ (n : Int) := by have := HM.out; omega
      have HR := Lib.hid hr
      have HB := Lib.hid hb
      clear hr hb
      go_wp2_with fail
      go_ret
      exact ⟨w.heap.size, rfl, Nat.le_refl _, HR.out.congr (fun j hj => by rw [if_pos hj]), HB.out⟩

set_option maxHeartbeats 1000000 in
theorem RSpaces_n0 (free k way : Int) (hnn : manyN k = 0) (w : World) : Calls Try.prog 11 #[.int .i64 free, .int .i64 k, .int .i64 way] w (RowOut w (manyN k + 1) (spaces (hold free) (manyN k) way)) := by
  have hb := hold_bd free
  have hn := manyN_bd k
  have HH := Lib.hid (RHold_any free)
  have HM := Lib.hid (RMany_any k)
  generalize hold free = f at *
  generalize manyN k = n at *
  have HD : Hid (∀ i, i < n + 1 → spaces f n way i = f) := Lib.hid (fun i hi => by
    unfold spaces
    (repeat' split) <;> first | rfl | omega)
  have hmk := run_make_row' (P := Try.prog) 24 3 (.int .i64 0) 8 Try.underlying24 int_info rfl .i64 .i64 (n + 1) (by omega) (by omega)
  obtain ⟨m, hm⟩ : ∃ m, m = n + 1 := ⟨_, rfl⟩
  rw [← hm] at hmk ⊢
  rw [← hm] at HD
  have qm : (n : Int) + 1 = (m : Int) := by omega
  have hpos : 0 < m := by omega
  have hnm : n < m := by omega
  have hn0 : ((n : Int) == 0) = true := by simp; omega
  have hnz : ¬ (0 : Int) < (n : Int) := by omega
  have HNN := Lib.hid hnn
  clear hnn
  have HMM := Lib.hid hm
  clear hm
  go_enter Try.func11, Try.ntmps11
  go_wp2_with fail
  refine (HH.out _).mono ?_; rintro e w' ⟨rfl, rfl⟩
  go_wp2_with fail
  refine (HM.out _).mono ?_; rintro e w' ⟨rfl, rfl⟩
  have hr0 := World.rowIs_made w (.int .i64 0) m 3
  have z0 := hr0.cell (i := 0) (by omega)
  have z1 := hr0.frozen 0
  clear hr0
  go_wp2_with fail
  go_ret
  refine ⟨w.heap.size, rfl, Nat.le_refl _, (row_one w m 0 _).congr (fun i hi => ?_), (Below.refl _ w).alloc (Nat.le_refl _) _⟩
  rw [HD.out i hi]
  rw [if_pos (by have := HMM.out; have := HNN.out; omega)]

set_option maxHeartbeats 1000000 in
theorem RSpaces_1 (free k way : Int) (hw : way = 1) (hnn : ¬ manyN k = 0) (w : World) : Calls Try.prog 11 #[.int .i64 free, .int .i64 k, .int .i64 way] w (RowOut w (manyN k + 1) (spaces (hold free) (manyN k) way)) := by
  have hb := hold_bd free
  have hn := manyN_bd k
  have HH := Lib.hid (RHold_any free)
  have HM := Lib.hid (RMany_any k)
  generalize hold free = f at *
  generalize manyN k = n at *
  have HD : Hid (∀ i, i < n + 1 → spaces f n way i = if i = 0 then f else 0) := Lib.hid (fun i hi => by
    unfold spaces
    (repeat' split) <;> first | rfl | omega)
  have hmk := run_make_row' (P := Try.prog) 24 3 (.int .i64 0) 8 Try.underlying24 int_info rfl .i64 .i64 (n + 1) (by omega) (by omega)
  obtain ⟨m, hm⟩ : ∃ m, m = n + 1 := ⟨_, rfl⟩
  rw [← hm] at hmk ⊢
  rw [← hm] at HD
  have qm : (n : Int) + 1 = (m : Int) := by omega
  have hpos : 0 < m := by omega
  have hnm : n < m := by omega
  have t1 : (way == 1) = true := by simp [hw]
  have t2 : (way == 2) = false := by simp [hw]
  have t3 : (way == 3) = false := by simp [hw]
  have t4 : (way == 4) = false := by simp [hw]
  have t5 : (way == 5) = false := by simp [hw]
  have HW := Lib.hid hw
  have hn0 : ((n : Int) == 0) = false := by simp; omega
  have HMM := Lib.hid hm
  clear hw hm
  go_enter Try.func11, Try.ntmps11
  go_wp2_with fail
  refine (HH.out _).mono ?_; rintro e w' ⟨rfl, rfl⟩
  go_wp2_with fail
  refine (HM.out _).mono ?_; rintro e w' ⟨rfl, rfl⟩
  have hr0 := World.rowIs_made w (.int .i64 0) m 3
  have z0 := hr0.cell (i := 0) (by omega)
  have z1 := hr0.frozen 0
  clear hr0
  go_wp2_with fail
  go_ret
  refine ⟨w.heap.size, rfl, Nat.le_refl _, (row_one w m 0 _).congr (fun i hi => ?_), (Below.refl _ w).alloc (Nat.le_refl _) _⟩
  rw [HD.out i hi]
  split <;> rfl

set_option maxHeartbeats 1000000 in
theorem RSpaces_2 (free k way : Int) (hw : way = 2) (hnn : ¬ manyN k = 0) (w : World) : Calls Try.prog 11 #[.int .i64 free, .int .i64 k, .int .i64 way] w (RowOut w (manyN k + 1) (spaces (hold free) (manyN k) way)) := by
  have hb := hold_bd free
  have hn := manyN_bd k
  have HH := Lib.hid (RHold_any free)
  have HM := Lib.hid (RMany_any k)
  generalize hold free = f at *
  generalize manyN k = n at *
  have HD : Hid (∀ i, i < n + 1 → spaces f n way i = if i = n then f - f / 2 else if i = 0 then f / 2 else 0) := Lib.hid (fun i hi => by
    unfold spaces
    (repeat' split) <;> first | rfl | omega)
  have hmk := run_make_row' (P := Try.prog) 24 3 (.int .i64 0) 8 Try.underlying24 int_info rfl .i64 .i64 (n + 1) (by omega) (by omega)
  obtain ⟨m, hm⟩ : ∃ m, m = n + 1 := ⟨_, rfl⟩
  rw [← hm] at hmk ⊢
  rw [← hm] at HD
  have qm : (n : Int) + 1 = (m : Int) := by omega
  have hpos : 0 < m := by omega
  have hnm : n < m := by omega
  have t1 : (way == 1) = false := by simp [hw]
  have t2 : (way == 2) = true := by simp [hw]
  have t3 : (way == 3) = false := by simp [hw]
  have t4 : (way == 4) = false := by simp [hw]
  have t5 : (way == 5) = false := by simp [hw]
  have HW := Lib.hid hw
  have hn0 : ((n : Int) == 0) = false := by simp; omega
  have hn0 : ((n : Int) == 0) = false := by simp; omega
  have HMM := Lib.hid hm
  clear hw hm
  go_enter Try.func11, Try.ntmps11
  go_wp2_with fail
  refine (HH.out _).mono ?_; rintro e w' ⟨rfl, rfl⟩
  go_wp2_with fail
  refine (HM.out _).mono ?_; rintro e w' ⟨rfl, rfl⟩
  have hr0 := World.rowIs_made w (.int .i64 0) m 3
  have z0 := hr0.cell hpos
  have z1 := hr0.frozen 0
  have z2 := hr0.cell hnm
  have z3 := hr0.frozen n
  have hlt := hr0.lt
  clear hr0
  go_wp2_with fail
  refine (RFloor_half f hb.1 hb.2 _).mono ?_; rintro e w' ⟨rfl, rfl⟩
  have hne : ¬ (n = 0) := by omega
  have hne2 : ¬ (0 = n) := by omega
  have z4 : ((madeCells #[Value.int .i64 0] m).setIfInBounds 0 (.int .i64 (f / 2)))[0]? = some (.int .i64 (f / 2)) := made_set0 m _ hpos
  have z5 : ((madeCells #[Value.int .i64 0] m).setIfInBounds 0 (.int .i64 (f / 2)))[n]? = some (.int .i64 0) := made_setn m n _ hnm hne2
  go_wp2_with fail
  go_ret
  refine ⟨w.heap.size, rfl, Nat.le_refl _, (row_two w m 0 n _ _).congr (fun i hi => ?_), (Below.refl _ w).alloc (Nat.le_refl _) _⟩
  rw [HD.out i hi]
  by_cases e1 : i = n
  · rw [if_pos e1, if_pos e1]
  · rw [if_neg e1, if_neg e1]
    split <;> rfl

set_option maxHeartbeats 1000000 in
theorem RSpaces_3 (free k way : Int) (hw : way = 3) (hnn : 1 < manyN k) (hff : 0 ≤ hold free) (w : World) : Calls Try.prog 11 #[.int .i64 free, .int .i64 k, .int .i64 way] w (RowOut w (manyN k + 1) (spaces (hold free) (manyN k) way)) := by
  have hb := hold_bd free
  have hn := manyN_bd k
  have HH := Lib.hid (RHold_any free)
  have HM := Lib.hid (RMany_any k)
  generalize hold free = f at *
  generalize manyN k = n at *
  have HD : Hid (∀ i, i < n + 1 → spaces f n way i = deal f (n + 1) (wEnd n 0 1) i) := Lib.hid (fun i hi => by
    unfold spaces
    (repeat' split) <;> first | rfl | omega)
  have hmk := run_make_row' (P := Try.prog) 24 3 (.int .i64 0) 8 Try.underlying24 int_info rfl .i64 .i64 (n + 1) (by omega) (by omega)
  obtain ⟨m, hm⟩ : ∃ m, m = n + 1 := ⟨_, rfl⟩
  rw [← hm] at hmk ⊢
  rw [← hm] at HD
  have qm : (n : Int) + 1 = (m : Int) := by omega
  have hpos : 0 < m := by omega
  have hnm : n < m := by omega
  have t1 : (way == 1) = false := by simp [hw]
  have t2 : (way == 2) = false := by simp [hw]
  have t3 : (way == 3) = true := by simp [hw]
  have t4 : (way == 4) = false := by simp [hw]
  have t5 : (way == 5) = false := by simp [hw]
  have HW := Lib.hid hw
  have hn0 : ((n : Int) == 0) = false := by simp; omega
  have HMM := Lib.hid hm
  clear hw hm
  go_enter Try.func11, Try.ntmps11
  go_wp2_with fail
  refine (HH.out _).mono ?_; rintro e w' ⟨rfl, rfl⟩
  go_wp2_with fail
  refine (HM.out _).mono ?_; rintro e w' ⟨rfl, rfl⟩
  have hB : Below w.heap.size w (w.alloc (.cells (madeCells #[.int .i64 0] m) 3)) := (Below.refl _ w).alloc (Nat.le_refl _) _
  have HB := Lib.hid hB
  clear hB
  obtain rfl : way = 3 := HW.out
  clear t1 t2 t3 t4 t5
  go_wp2_with fail
  refine (RWts_any n hn 0 1 _).mono ?_
  rintro e w0 ⟨oo, rfl, hoo, hrr, hbb0⟩
  have HC := Lib.hid (RDeal_any f (some ⟨oo, 0, none⟩) (n + 1) (n + 1) (wEnd n 0 1) (by omega) w0 (Sl.row hrr))
  have HB1 := Lib.hid (below_then HB.out hbb0)
  clear hrr hbb0 hoo HB
  go_wp2_with fail
  refine (HC.out).mono ?_
  rintro e w1 ⟨o, rfl, ho, hr, hb1⟩
  have HB := HB1
  have HR := Lib.hid hr
  have HB2 := Lib.hid (below_then HB.out hb1)
  have ho2 : w.heap.size ≤ o := Nat.le_trans HB.out.size ho
  clear hr hb1 ho
  go_wp2_with fail
  go_ret
  have hmm := HMM.out
  subst hmm
  exact ⟨o, rfl, ho2, HR.out.congr (fun i hi => by rw [HD.out i hi]), HB2.out⟩

set_option maxHeartbeats 1000000 in
theorem RSpaces_3b (free k way : Int) (hw : way = 3) (hnn : manyN k = 1) (hff : 0 ≤ hold free) (w : World) : Calls Try.prog 11 #[.int .i64 free, .int .i64 k, .int .i64 way] w (RowOut w (manyN k + 1) (spaces (hold free) (manyN k) way)) := by
  have hb := hold_bd free
  have hn := manyN_bd k
  have HH := Lib.hid (RHold_any free)
  have HM := Lib.hid (RMany_any k)
  generalize hold free = f at *
  generalize manyN k = n at *
  have HD : Hid (∀ i, i < n + 1 → spaces f n way i = if i = n then f else 0) := Lib.hid (fun i hi => by
    unfold spaces
    (repeat' split) <;> first | rfl | omega)
  have hmk := run_make_row' (P := Try.prog) 24 3 (.int .i64 0) 8 Try.underlying24 int_info rfl .i64 .i64 (n + 1) (by omega) (by omega)
  obtain ⟨m, hm⟩ : ∃ m, m = n + 1 := ⟨_, rfl⟩
  rw [← hm] at hmk ⊢
  rw [← hm] at HD
  have qm : (n : Int) + 1 = (m : Int) := by omega
  have hpos : 0 < m := by omega
  have hnm : n < m := by omega
  have t1 : (way == 1) = false := by simp [hw]
  have t2 : (way == 2) = false := by simp [hw]
  have t3 : (way == 3) = true := by simp [hw]
  have t4 : (way == 4) = false := by simp [hw]
  have t5 : (way == 5) = false := by simp [hw]
  have HW := Lib.hid hw
  have hn0 : ((n : Int) == 0) = false := by simp; omega
  have hnz : ¬ (1 : Int) < (n : Int) := by omega
  have HNN := Lib.hid hnn
  clear hnn
  have HMM := Lib.hid hm
  clear hw hm
  go_enter Try.func11, Try.ntmps11
  go_wp2_with fail
  refine (HH.out _).mono ?_; rintro e w' ⟨rfl, rfl⟩
  go_wp2_with fail
  refine (HM.out _).mono ?_; rintro e w' ⟨rfl, rfl⟩
  have hr0 := World.rowIs_made w (.int .i64 0) m 3
  have z0 := hr0.cell (i := n) (by omega)
  have z1 := hr0.frozen n
  clear hr0
  go_wp2_with fail
  go_ret
  refine ⟨w.heap.size, rfl, Nat.le_refl _, (row_one w m n _).congr (fun i hi => ?_), (Below.refl _ w).alloc (Nat.le_refl _) _⟩
  rw [HD.out i hi]
  split <;> rfl

set_option maxHeartbeats 1000000 in
theorem RSpaces_4 (free k way : Int) (hw : way = 4) (hnn : ¬ manyN k = 0) (hff : 0 ≤ hold free) (w : World) : Calls Try.prog 11 #[.int .i64 free, .int .i64 k, .int .i64 way] w (RowOut w (manyN k + 1) (spaces (hold free) (manyN k) way)) := by
  have hb := hold_bd free
  have hn := manyN_bd k
  have HH := Lib.hid (RHold_any free)
  have HM := Lib.hid (RMany_any k)
  generalize hold free = f at *
  generalize manyN k = n at *
  have HD : Hid (∀ i, i < n + 1 → spaces f n way i = deal f (n + 1) (wEnd n 1 2) i) := Lib.hid (fun i hi => by
    unfold spaces
    (repeat' split) <;> first | rfl | omega)
  have hmk := run_make_row' (P := Try.prog) 24 3 (.int .i64 0) 8 Try.underlying24 int_info rfl .i64 .i64 (n + 1) (by omega) (by omega)
  obtain ⟨m, hm⟩ : ∃ m, m = n + 1 := ⟨_, rfl⟩
  rw [← hm] at hmk ⊢
  rw [← hm] at HD
  have qm : (n : Int) + 1 = (m : Int) := by omega
  have hpos : 0 < m := by omega
  have hnm : n < m := by omega
  have t1 : (way == 1) = false := by simp [hw]
  have t2 : (way == 2) = false := by simp [hw]
  have t3 : (way == 3) = false := by simp [hw]
  have t4 : (way == 4) = true := by simp [hw]
  have t5 : (way == 5) = false := by simp [hw]
  have HW := Lib.hid hw
  have hn0 : ((n : Int) == 0) = false := by simp; omega
  have HMM := Lib.hid hm
  clear hw hm
  go_enter Try.func11, Try.ntmps11
  go_wp2_with fail
  refine (HH.out _).mono ?_; rintro e w' ⟨rfl, rfl⟩
  go_wp2_with fail
  refine (HM.out _).mono ?_; rintro e w' ⟨rfl, rfl⟩
  have hB : Below w.heap.size w (w.alloc (.cells (madeCells #[.int .i64 0] m) 3)) := (Below.refl _ w).alloc (Nat.le_refl _) _
  have HB := Lib.hid hB
  clear hB
  obtain rfl : way = 4 := HW.out
  clear t1 t2 t3 t4 t5
  go_wp2_with fail
  refine (RWts_any n hn 1 2 _).mono ?_
  rintro e w0 ⟨oo, rfl, hoo, hrr, hbb0⟩
  have HC := Lib.hid (RDeal_any f (some ⟨oo, 0, none⟩) (n + 1) (n + 1) (wEnd n 1 2) (by omega) w0 (Sl.row hrr))
  have HB1 := Lib.hid (below_then HB.out hbb0)
  clear hrr hbb0 hoo HB
  go_wp2_with fail
  refine (HC.out).mono ?_
  rintro e w1 ⟨o, rfl, ho, hr, hb1⟩
  have HB := HB1
  have HR := Lib.hid hr
  have HB2 := Lib.hid (below_then HB.out hb1)
  have ho2 : w.heap.size ≤ o := Nat.le_trans HB.out.size ho
  clear hr hb1 ho
  go_wp2_with fail
  go_ret
  have hmm := HMM.out
  subst hmm
  exact ⟨o, rfl, ho2, HR.out.congr (fun i hi => by rw [HD.out i hi]), HB2.out⟩

set_option maxHeartbeats 1000000 in
theorem RSpaces_5 (free k way : Int) (hw : way = 5) (hnn : ¬ manyN k = 0) (hff : 0 ≤ hold free) (w : World) : Calls Try.prog 11 #[.int .i64 free, .int .i64 k, .int .i64 way] w (RowOut w (manyN k + 1) (spaces (hold free) (manyN k) way)) := by
  have hb := hold_bd free
  have hn := manyN_bd k
  have HH := Lib.hid (RHold_any free)
  have HM := Lib.hid (RMany_any k)
  generalize hold free = f at *
  generalize manyN k = n at *
  have HD : Hid (∀ i, i < n + 1 → spaces f n way i = deal f (n + 1) (fun _ => 1) i) := Lib.hid (fun i hi => by
    unfold spaces
    (repeat' split) <;> first | rfl | omega)
  have hmk := run_make_row' (P := Try.prog) 24 3 (.int .i64 0) 8 Try.underlying24 int_info rfl .i64 .i64 (n + 1) (by omega) (by omega)
  obtain ⟨m, hm⟩ : ∃ m, m = n + 1 := ⟨_, rfl⟩
  rw [← hm] at hmk ⊢
  rw [← hm] at HD
  have qm : (n : Int) + 1 = (m : Int) := by omega
  have hpos : 0 < m := by omega
  have hnm : n < m := by omega
  have t1 : (way == 1) = false := by simp [hw]
  have t2 : (way == 2) = false := by simp [hw]
  have t3 : (way == 3) = false := by simp [hw]
  have t4 : (way == 4) = false := by simp [hw]
  have t5 : (way == 5) = true := by simp [hw]
  have HW := Lib.hid hw
  have hn0 : ((n : Int) == 0) = false := by simp; omega
  have HMM := Lib.hid hm
  clear hw hm
  go_enter Try.func11, Try.ntmps11
  go_wp2_with fail
  refine (HH.out _).mono ?_; rintro e w' ⟨rfl, rfl⟩
  go_wp2_with fail
  refine (HM.out _).mono ?_; rintro e w' ⟨rfl, rfl⟩
  have hB : Below w.heap.size w (w.alloc (.cells (madeCells #[.int .i64 0] m) 3)) := (Below.refl _ w).alloc (Nat.le_refl _) _
  have HB := Lib.hid hB
  clear hB
  obtain rfl : way = 5 := HW.out
  clear t1 t2 t3 t4 t5
  go_wp2_with fail
  refine (RWts_any n hn 1 1 _).mono ?_
  rintro e w0 ⟨oo, rfl, hoo, hrr, hbb0⟩
  have HC := Lib.hid (RDeal_any f (some ⟨oo, 0, none⟩) (n + 1) (n + 1) (wEnd n 1 1) (by omega) w0 (Sl.row hrr))
  have HB1 := Lib.hid (below_then HB.out hbb0)
  clear hrr hbb0 hoo HB
  go_wp2_with fail
  refine (HC.out).mono ?_
  rintro e w1 ⟨o, rfl, ho, hr, hb1⟩
  have HB := HB1
  have HR := Lib.hid hr
  have HB2 := Lib.hid (below_then HB.out hb1)
  have ho2 : w.heap.size ≤ o := Nat.le_trans HB.out.size ho
  clear hr hb1 ho
  go_wp2_with fail
  go_ret
  have hmm := HMM.out
  subst hmm
  exact ⟨o, rfl, ho2, HR.out.congr (fun i hi => by rw [HD.out i hi]; rw [wEnd_same]), HB2.out⟩

set_option maxHeartbeats 1000000 in
theorem RSpaces_m3 (free k way : Int) (hw : way = 3) (hnn : ¬ manyN k = 0) (hff : ¬ 0 ≤ hold free) (w : World) : Calls Try.prog 11 #[.int .i64 free, .int .i64 k, .int .i64 way] w (RowOut w (manyN k + 1) (spaces (hold free) (manyN k) way)) := by
  have hb := hold_bd free
  have hn := manyN_bd k
  have HH := Lib.hid (RHold_any free)
  have HM := Lib.hid (RMany_any k)
  generalize hold free = f at *
  generalize manyN k = n at *
  have HD : Hid (∀ i, i < n + 1 → spaces f n way i = if i = n then f else 0) := Lib.hid (fun i hi => by
    unfold spaces
    (repeat' split) <;> first | rfl | omega)
  have hmk := run_make_row' (P := Try.prog) 24 3 (.int .i64 0) 8 Try.underlying24 int_info rfl .i64 .i64 (n + 1) (by omega) (by omega)
  obtain ⟨m, hm⟩ : ∃ m, m = n + 1 := ⟨_, rfl⟩
  rw [← hm] at hmk ⊢
  rw [← hm] at HD
  have qm : (n : Int) + 1 = (m : Int) := by omega
  have hpos : 0 < m := by omega
  have hnm : n < m := by omega
  have t1 : (way == 1) = false := by simp [hw]
  have t2 : (way == 2) = false := by simp [hw]
  have t3 : (way == 3) = true := by simp [hw]
  have t4 : (way == 4) = false := by simp [hw]
  have t5 : (way == 5) = false := by simp [hw]
  have HW := Lib.hid hw
  have hn0 : ((n : Int) == 0) = false := by simp; omega
  have HMM := Lib.hid hm
  clear hw hm
  go_enter Try.func11, Try.ntmps11
  go_wp2_with fail
  refine (HH.out _).mono ?_; rintro e w' ⟨rfl, rfl⟩
  go_wp2_with fail
  refine (HM.out _).mono ?_; rintro e w' ⟨rfl, rfl⟩
  have hr0 := World.rowIs_made w (.int .i64 0) m 3
  have z0 := hr0.cell (i := n) (by omega)
  have z1 := hr0.frozen n
  clear hr0
  go_wp2_with fail
  go_ret
  refine ⟨w.heap.size, rfl, Nat.le_refl _, (row_one w m n _).congr (fun i hi => ?_), (Below.refl _ w).alloc (Nat.le_refl _) _⟩
  rw [HD.out i hi]
  split <;> rfl

set_option maxHeartbeats 1000000 in
theorem RSpaces_m4 (free k way : Int) (hw : way = 4) (hnn : ¬ manyN k = 0) (hff : ¬ 0 ≤ hold free) (w : World) : Calls Try.prog 11 #[.int .i64 free, .int .i64 k, .int .i64 way] w (RowOut w (manyN k + 1) (spaces (hold free) (manyN k) way)) := by
  have hb := hold_bd free
  have hn := manyN_bd k
  have HH := Lib.hid (RHold_any free)
  have HM := Lib.hid (RMany_any k)
  generalize hold free = f at *
  generalize manyN k = n at *
  have HD : Hid (∀ i, i < n + 1 → spaces f n way i = if i = n then f else 0) := Lib.hid (fun i hi => by
    unfold spaces
    (repeat' split) <;> first | rfl | omega)
  have hmk := run_make_row' (P := Try.prog) 24 3 (.int .i64 0) 8 Try.underlying24 int_info rfl .i64 .i64 (n + 1) (by omega) (by omega)
  obtain ⟨m, hm⟩ : ∃ m, m = n + 1 := ⟨_, rfl⟩
  rw [← hm] at hmk ⊢
  rw [← hm] at HD
  have qm : (n : Int) + 1 = (m : Int) := by omega
  have hpos : 0 < m := by omega
  have hnm : n < m := by omega
  have t1 : (way == 1) = false := by simp [hw]
  have t2 : (way == 2) = false := by simp [hw]
  have t3 : (way == 3) = false := by simp [hw]
  have t4 : (way == 4) = true := by simp [hw]
  have t5 : (way == 5) = false := by simp [hw]
  have HW := Lib.hid hw
  have hn0 : ((n : Int) == 0) = false := by simp; omega
  have HMM := Lib.hid hm
  clear hw hm
  go_enter Try.func11, Try.ntmps11
  go_wp2_with fail
  refine (HH.out _).mono ?_; rintro e w' ⟨rfl, rfl⟩
  go_wp2_with fail
  refine (HM.out _).mono ?_; rintro e w' ⟨rfl, rfl⟩
  have hr0 := World.rowIs_made w (.int .i64 0) m 3
  have z0 := hr0.cell (i := n) (by omega)
  have z1 := hr0.frozen n
  clear hr0
  go_wp2_with fail
  go_ret
  refine ⟨w.heap.size, rfl, Nat.le_refl _, (row_one w m n _).congr (fun i hi => ?_), (Below.refl _ w).alloc (Nat.le_refl _) _⟩
  rw [HD.out i hi]
  split <;> rfl

set_option maxHeartbeats 1000000 in
theorem RSpaces_m5 (free k way : Int) (hw : way = 5) (hnn : ¬ manyN k = 0) (hff : ¬ 0 ≤ hold free) (w : World) : Calls Try.prog 11 #[.int .i64 free, .int .i64 k, .int .i64 way] w (RowOut w (manyN k + 1) (spaces (hold free) (manyN k) way)) := by
  have hb := hold_bd free
  have hn := manyN_bd k
  have HH := Lib.hid (RHold_any free)
  have HM := Lib.hid (RMany_any k)
  generalize hold free = f at *
  generalize manyN k = n at *
  have HD : Hid (∀ i, i < n + 1 → spaces f n way i = if i = n then f else 0) := Lib.hid (fun i hi => by
    unfold spaces
    (repeat' split) <;> first | rfl | omega)
  have hmk := run_make_row' (P := Try.prog) 24 3 (.int .i64 0) 8 Try.underlying24 int_info rfl .i64 .i64 (n + 1) (by omega) (by omega)
  obtain ⟨m, hm⟩ : ∃ m, m = n + 1 := ⟨_, rfl⟩
  rw [← hm] at hmk ⊢
  rw [← hm] at HD
  have qm : (n : Int) + 1 = (m : Int) := by omega
  have hpos : 0 < m := by omega
  have hnm : n < m := by omega
  have t1 : (way == 1) = false := by simp [hw]
  have t2 : (way == 2) = false := by simp [hw]
  have t3 : (way == 3) = false := by simp [hw]
  have t4 : (way == 4) = false := by simp [hw]
  have t5 : (way == 5) = true := by simp [hw]
  have HW := Lib.hid hw
  have hn0 : ((n : Int) == 0) = false := by simp; omega
  have HMM := Lib.hid hm
  clear hw hm
  go_enter Try.func11, Try.ntmps11
  go_wp2_with fail
  refine (HH.out _).mono ?_; rintro e w' ⟨rfl, rfl⟩
  go_wp2_with fail
  refine (HM.out _).mono ?_; rintro e w' ⟨rfl, rfl⟩
  have hr0 := World.rowIs_made w (.int .i64 0) m 3
  have z0 := hr0.cell (i := n) (by omega)
  have z1 := hr0.frozen n
  clear hr0
  go_wp2_with fail
  go_ret
  refine ⟨w.heap.size, rfl, Nat.le_refl _, (row_one w m n _).congr (fun i hi => ?_), (Below.refl _ w).alloc (Nat.le_refl _) _⟩
  rw [HD.out i hi]
  split <;> rfl

set_option maxHeartbeats 1000000 in
theorem RSpaces_6a (free k way : Int) (hw : ¬ way = 1 ∧ ¬ way = 2 ∧ ¬ way = 3 ∧ ¬ way = 4 ∧ ¬ way = 5) (hnn : ¬ manyN k = 0) (hff : 0 ≤ hold free) (w : World) : Calls Try.prog 11 #[.int .i64 free, .int .i64 k, .int .i64 way] w (RowOut w (manyN k + 1) (spaces (hold free) (manyN k) way)) := by
  have hb := hold_bd free
  have hn := manyN_bd k
  have HH := Lib.hid (RHold_any free)
  have HM := Lib.hid (RMany_any k)
  generalize hold free = f at *
  generalize manyN k = n at *
  have HD : Hid (∀ i, i < n + 1 → spaces f n way i = if i = n then f else 0) := Lib.hid (fun i hi => by
    unfold spaces
    (repeat' split) <;> first | rfl | omega)
  have hmk := run_make_row' (P := Try.prog) 24 3 (.int .i64 0) 8 Try.underlying24 int_info rfl .i64 .i64 (n + 1) (by omega) (by omega)
  obtain ⟨m, hm⟩ : ∃ m, m = n + 1 := ⟨_, rfl⟩
  rw [← hm] at hmk ⊢
  rw [← hm] at HD
  have qm : (n : Int) + 1 = (m : Int) := by omega
  have hpos : 0 < m := by omega
  have hnm : n < m := by omega
  have t1 : (way == 1) = false := by simp; omega
  have t2 : (way == 2) = false := by simp; omega
  have t3 : (way == 3) = false := by simp; omega
  have t4 : (way == 4) = false := by simp; omega
  have t5 : (way == 5) = false := by simp; omega
  have HW := Lib.hid hw
  have hn0 : ((n : Int) == 0) = false := by simp; omega
  have HMM := Lib.hid hm
  clear hw hm
  go_enter Try.func11, Try.ntmps11
  go_wp2_with fail
  refine (HH.out _).mono ?_; rintro e w' ⟨rfl, rfl⟩
  go_wp2_with fail
  refine (HM.out _).mono ?_; rintro e w' ⟨rfl, rfl⟩
  have hr0 := World.rowIs_made w (.int .i64 0) m 3
  have z0 := hr0.cell (i := n) (by omega)
  have z1 := hr0.frozen n
  clear hr0
  go_wp2_with fail
  go_ret
  refine ⟨w.heap.size, rfl, Nat.le_refl _, (row_one w m n _).congr (fun i hi => ?_), (Below.refl _ w).alloc (Nat.le_refl _) _⟩
  rw [HD.out i hi]
  split <;> rfl

set_option maxHeartbeats 1000000 in
theorem RSpaces_6b (free k way : Int) (hw : ¬ way = 1 ∧ ¬ way = 2 ∧ ¬ way = 3 ∧ ¬ way = 4 ∧ ¬ way = 5) (hnn : ¬ manyN k = 0) (hff : ¬ 0 ≤ hold free) (w : World) : Calls Try.prog 11 #[.int .i64 free, .int .i64 k, .int .i64 way] w (RowOut w (manyN k + 1) (spaces (hold free) (manyN k) way)) := by
  have hb := hold_bd free
  have hn := manyN_bd k
  have HH := Lib.hid (RHold_any free)
  have HM := Lib.hid (RMany_any k)
  generalize hold free = f at *
  generalize manyN k = n at *
  have HD : Hid (∀ i, i < n + 1 → spaces f n way i = if i = n then f else 0) := Lib.hid (fun i hi => by
    unfold spaces
    (repeat' split) <;> first | rfl | omega)
  have hmk := run_make_row' (P := Try.prog) 24 3 (.int .i64 0) 8 Try.underlying24 int_info rfl .i64 .i64 (n + 1) (by omega) (by omega)
  obtain ⟨m, hm⟩ : ∃ m, m = n + 1 := ⟨_, rfl⟩
  rw [← hm] at hmk ⊢
  rw [← hm] at HD
  have qm : (n : Int) + 1 = (m : Int) := by omega
  have hpos : 0 < m := by omega
  have hnm : n < m := by omega
  have t1 : (way == 1) = false := by simp; omega
  have t2 : (way == 2) = false := by simp; omega
  have t3 : (way == 3) = false := by simp; omega
  have t4 : (way == 4) = false := by simp; omega
  have t5 : (way == 5) = false := by simp; omega
  have HW := Lib.hid hw
  have hn0 : ((n : Int) == 0) = false := by simp; omega
  have HMM := Lib.hid hm
  clear hw hm
  go_enter Try.func11, Try.ntmps11
  go_wp2_with fail
  refine (HH.out _).mono ?_; rintro e w' ⟨rfl, rfl⟩
  go_wp2_with fail
  refine (HM.out _).mono ?_; rintro e w' ⟨rfl, rfl⟩
  have hr0 := World.rowIs_made w (.int .i64 0) m 3
  have z0 := hr0.cell (i := n) (by omega)
  have z1 := hr0.frozen n
  clear hr0
  go_wp2_with fail
  go_ret
  refine ⟨w.heap.size, rfl, Nat.le_refl _, (row_one w m n _).congr (fun i hi => ?_), (Below.refl _ w).alloc (Nat.le_refl _) _⟩
  rw [HD.out i hi]
  split <;> rfl

theorem RSpaces_any (free k way : Int) (w : World) : Calls Try.prog 11 #[.int .i64 free, .int .i64 k, .int .i64 way] w (RowOut w (manyN k + 1) (spaces (hold free) (manyN k) way)) := by
  by_cases hn : manyN k = 0
  · exact RSpaces_n0 free k way hn w
  by_cases h1 : way = 1
  · exact RSpaces_1 free k way h1 hn w
  by_cases h2 : way = 2
  · exact RSpaces_2 free k way h2 hn w
  by_cases hf : 0 ≤ hold free
  · by_cases h3 : way = 3
    · by_cases h : 1 < manyN k
      · exact RSpaces_3 free k way h3 h hf w
      · exact RSpaces_3b free k way h3 (by omega) hf w
    by_cases h4 : way = 4
    · exact RSpaces_4 free k way h4 hn hf w
    by_cases h5 : way = 5
    · exact RSpaces_5 free k way h5 hn hf w
    exact RSpaces_6a free k way ⟨h1, h2, h3, h4, h5⟩ hn hf w
  · by_cases h3 : way = 3
    · exact RSpaces_m3 free k way h3 hn hf w
    by_cases h4 : way = 4
    · exact RSpaces_m4 free k way h4 hn hf w
    by_cases h5 : way = 5
    · exact RSpaces_m5 free k way h5 hn hf w
    exact RSpaces_6b free k way ⟨h1, h2, h3, h4, h5⟩ hn hf w

end Go.Proofs.Ytohnhgchoppgmaa
