/- Alignment: halves, numbers of items, the weights of spaces, what is dealt by them. -/
import Derived.Test.YtohnhgchoppgmaaInts
import Derived.Test.YtohnhgchoppgmaaPartCore
import Derived.Test.YtohnhgchoppgmaaFloorRef
namespace Go.Proofs.Ytohnhgchoppgmaa
open Go.Shelf Go.RowKit Go.Lib Go.Sort
set_option linter.unusedSimpArgs false
set_option linter.unusedVariables false

/-- A new row of noughts with one, two stores. -/
theorem row_one (w : World) (m a : Nat) (v : Value) : (w.alloc (.cells ((madeCells #[.int .i64 0] m).setIfInBounds a v) 3)).rowIs w.heap.size 3 m (fun j => if j = a then v else .int .i64 0) := by
  rw [← World.setCell_alloc_new]
  exact (World.rowIs_made w _ m _).set a v
theorem row_two (w : World) (m a b : Nat) (v u : Value) : (w.alloc (.cells (((madeCells #[.int .i64 0] m).setIfInBounds a v).setIfInBounds b u) 3)).rowIs w.heap.size 3 m (fun j => if j = b then u else if j = a then v else .int .i64 0) := by
  rw [← World.setCell_alloc_new, ← World.setCell_alloc_new]
  exact ((World.rowIs_made w _ m _).set a v).set b u

theorem made_set0 (m : Nat) (v : Value) (h : 0 < m) : ((madeCells #[Value.int .i64 0] m).setIfInBounds 0 v)[0]? = some v := by simp [madeCells, h]
theorem made_setn (m n : Nat) (v : Value) (h : n < m) (h0 : ¬ 0 = n) : ((madeCells #[Value.int .i64 0] m).setIfInBounds 0 v)[n]? = some (.int .i64 0) := by
  rw [Array.getElem?_setIfInBounds, if_neg h0]
  simp [madeCells, h, Nat.mod_one]

theorem part_half (x : Int) (h1 : -1073741824 ≤ x) (h2 : x ≤ 1073741824) : partH x 1 2 = x / 2 := by
  unfold partH flr
  rw [if_neg (by decide), hold_id h1 h2, hold_id (x := 1) (by decide) (by decide), hold_id (x := 2) (by decide) (by decide), if_pos (by decide), Int.mul_one]
  exact hold_id (by omega) (by omega)
theorem half_any (x : Int) (h1 : -1073741824 ≤ x) (h2 : x ≤ 1073741824) (w : World) :
    Calls Try.prog 21 #[.int .i64 x] w fun e w' => e = .returned (.int .i64 (x / 2)) ∧ w = w' := by
  have HP := Lib.hid (part_half x h1 h2)
  go_enter Try.func21, Try.ntmps21
  go_wp2_with fail
  refine (Part_any x 1 2 _).mono ?_; rintro e w' ⟨rfl, rfl⟩
  rw [HP.out]
  go_wp2_with fail
  go_ret
  exact ⟨rfl, rfl⟩
theorem RFloor_half (x : Int) (h1 : -1073741824 ≤ x) (h2 : x ≤ 1073741824) (w : World) :
    Calls Try.prog 24 #[.int .i64 x, .int .i64 2] w fun e w' => e = .returned (.int .i64 (x / 2)) ∧ w = w' := by
  have h := RFloor_any x 2 (by decide) (by omega) (by omega) (by decide) (by decide) w
  rw [show flr x 2 = x / 2 from by unfold flr; rw [if_pos (by decide)]] at h
  exact h

/-- A number of items. -/
def manyN (n : Int) : Nat := (min (max n 0) 1024).toNat
theorem manyN_bd (n : Int) : manyN n ≤ 1024 := by unfold manyN; omega
theorem manyN_eq (n : Int) : min (max n 0) 1024 = ((manyN n : Nat) : Int) := by unfold manyN; omega
theorem manyN_id (n : Nat) (h : n ≤ 1024) : manyN (n : Int) = n := by unfold manyN; omega
theorem many_any (n : Int) (w : World) : Calls Try.prog 20 #[.int .i64 n] w fun e w' => e = .returned (.int .i64 (manyN n)) ∧ w = w' := by
  have he := manyN_eq n
  go_enter Try.func20, Try.ntmps20
  go_wp2_with fail
  go_ret
  exact ⟨rfl, rfl⟩
theorem RMany_any (n : Int) (w : World) : Calls Try.prog 23 #[.int .i64 n] w fun e w' => e = .returned (.int .i64 (manyN n)) ∧ w = w' := by
  by_cases h1 : n < 0
  · have e : manyN n = 0 := by unfold manyN; omega
    rw [e]; clear e
    go_enter Try.func23, Try.ntmps23
    go_wp2_with fail
    go_ret
    exact ⟨rfl, rfl⟩
  · by_cases h2 : 1024 < n
    · have e : manyN n = 1024 := by unfold manyN; omega
      rw [e]; clear e
      go_enter Try.func23, Try.ntmps23
      go_wp2_with fail
      go_ret
      exact ⟨rfl, rfl⟩
    · have e : ((manyN n : Nat) : Int) = n := by unfold manyN; omega
      rw [e]; clear e
      go_enter Try.func23, Try.ntmps23
      go_wp2_with fail
      go_ret
      exact ⟨rfl, rfl⟩

theorem inner_yes (i n : Int) (h1 : 0 < i) (h2 : i < n) (w : World) : Calls Try.prog 32 #[.int .i64 i, .int .i64 n] w fun e w' => e = .returned (.bool true) ∧ w = w' := by
  go_enter Try.func32, Try.ntmps32
  go_wp2_with fail
  go_ret
  exact ⟨by simp [h1, h2], rfl⟩
theorem inner_no (i n : Int) (h : ¬ (0 < i ∧ i < n)) (w : World) : Calls Try.prog 32 #[.int .i64 i, .int .i64 n] w fun e w' => e = .returned (.bool false) ∧ w = w' := by
  by_cases h1 : 0 < i
  · have h2 : ¬ i < n := fun h2 => h ⟨h1, h2⟩
    clear h
    go_enter Try.func32, Try.ntmps32
    go_wp2_with fail
    go_ret
    exact ⟨by first | (simp; done) | (simp; omega), rfl⟩
  · clear h
    go_enter Try.func32, Try.ntmps32
    go_wp2_with fail
    go_ret
    exact ⟨by first | (simp; done) | (simp; omega), rfl⟩

/-- Ends of one weight, others of another one. -/
def wEnd (n : Nat) (e o : Int) (i : Nat) : Int := if i = 0 ∨ i = n then e else o

theorem d1_any (i : Int) (w : World) : Calls Try.prog 30 #[.int .i64 i] w fun e w' => e = .returned (.int .i64 1) ∧ w = w' := by
  go_enter Try.func30, Try.ntmps30
  go_wp2_with fail
  go_ret
  exact ⟨rfl, rfl⟩
theorem d2_any (i n : Nat) (hin : i ≤ n) (B : Nat) (w : World) (hc : w.cell? ⟨B, 0, none⟩ = some (.int .i64 n)) : Calls Try.prog 31 #[.int .i64 i, .pointer (some ⟨B, 0, none⟩)] w fun e w' => e = .returned (.int .i64 (wEnd n 0 1 i)) ∧ w = w' := by
  by_cases h : i = 0 ∨ i = n
  · have e : wEnd n 0 1 i = 0 := if_pos h
    rw [e]; clear e
    have hno : ¬ ((0 : Int) < (i : Int) ∧ (i : Int) < (n : Int)) := by omega
    have HNO := Lib.hid hno
    clear h hno
    go_enter Try.func31, Try.ntmps31
    go_wp2_with fail
    refine (inner_no _ _ HNO.out _).mono ?_; rintro e w' ⟨rfl, rfl⟩
    go_wp2_with fail
    go_ret
    exact ⟨rfl, rfl⟩
  · have e : wEnd n 0 1 i = 1 := if_neg h
    rw [e]; clear e
    go_enter Try.func31, Try.ntmps31
    go_wp2_with fail
    refine (inner_yes _ _ (by omega) (by omega) _).mono ?_; rintro e w' ⟨rfl, rfl⟩
    go_wp2_with fail
    go_ret
    exact ⟨rfl, rfl⟩
theorem d3_any (i n : Nat) (hin : i ≤ n) (B : Nat) (w : World) (hc : w.cell? ⟨B, 0, none⟩ = some (.int .i64 n)) : Calls Try.prog 33 #[.int .i64 i, .pointer (some ⟨B, 0, none⟩)] w fun e w' => e = .returned (.int .i64 (wEnd n 1 2 i)) ∧ w = w' := by
  by_cases h : i = 0 ∨ i = n
  · have e : wEnd n 1 2 i = 1 := if_pos h
    rw [e]; clear e
    have hno : ¬ ((0 : Int) < (i : Int) ∧ (i : Int) < (n : Int)) := by omega
    have HNO := Lib.hid hno
    clear h hno
    go_enter Try.func33, Try.ntmps33
    go_wp2_with fail
    refine (inner_no _ _ HNO.out _).mono ?_; rintro e w' ⟨rfl, rfl⟩
    go_wp2_with fail
    go_ret
    exact ⟨rfl, rfl⟩
  · have e : wEnd n 1 2 i = 2 := if_neg h
    rw [e]; clear e
    go_enter Try.func33, Try.ntmps33
    go_wp2_with fail
    refine (inner_yes _ _ (by omega) (by omega) _).mono ?_; rintro e w' ⟨rfl, rfl⟩
    go_wp2_with fail
    go_ret
    exact ⟨rfl, rfl⟩

set_option maxHeartbeats 1000000 in
theorem weights_1 (n : Nat) (hn : n ≤ 1024) (w : World) :
    Calls Try.prog 34 #[.int .i64 n, .func (.func 30) #[] #[]] w (RowOut w (n + 1) (fun _ => 1)) := by
  have hmk := run_make_row' (P := Try.prog) 24 3 (.int .i64 0) 8 Try.underlying24 int_info rfl .i64 .i64 (n + 1) (by omega) (by omega)
  obtain ⟨m, hm⟩ : ∃ m, m = n + 1 := ⟨_, rfl⟩
  rw [← hm] at hmk ⊢
  have qm : (n : Int) + 1 = (m : Int) := by omega
  have HM := Lib.hid hm
  have hmb : m ≤ 1025 := by omega
  clear hm
  go_enter Try.func34, Try.ntmps34
  go_wp2_with fail
  have HR0 := Lib.hid (World.rowIs_made w (.int .i64 0) m 3)
  clear hmk qm
  go_loopw [12] (fun v12 wr => ∃ k : Nat, k ≤ m ∧ v12 = .int .i64 k ∧ wr.rowIs w.heap.size 3 m (fun i => .int .i64 (if i < k then (fun _ => 1) i else 0)) ∧ Below w.heap.size w wr) (fun v12 _ => m - (intOf v12).toNat)
  case atStart => exact ⟨0, Nat.zero_le _, rfl, HR0.out.congr (fun i hi => by simp), (Below.refl _ w).alloc (Nat.le_refl _) _⟩
  case round =>
    clear HR0
    obtain ⟨k, hk, rfl, hr, hb⟩ := hrel
    by_cases hlt : k < m
    · have fz := hr.frozen k
      have c6 := hr.cell hlt
      have HR := Lib.hid hr
      have HB := Lib.hid hb
      have kz : (k : Int) < (m : Int) := by omega
      clear hr hb
      go_wp2_with fail
      refine (d1_any _ _).mono ?_; rintro e w' ⟨rfl, rfl⟩
      go_wp2_with fail
      go_roundw
      case rel =>
        refine ⟨k + 1, hlt, by go_num, (HR.out.set k _).congr (fun j hj => ?_), below_set HB.out (Nat.le_refl _) _⟩
        by_cases e : j = k
        · subst e; rw [if_pos rfl, if_pos (by omega)]
        · rw [if_neg e]
          by_cases e2 : j < k
          · rw [if_pos e2, if_pos (by omega)]
          · rw [if_neg e2, if_neg (by omega)]
      case measure => simp [intOf]; omega
    · obtain rfl : k = m := by omega
      have HR := Lib.hid hr
      have HB := Lib.hid hb
      clear hr hb
      go_wp2_with fail
      go_ret
      exact ⟨w.heap.size, rfl, Nat.le_refl _, HR.out.congr (fun j hj => by rw [if_pos hj]), HB.out⟩

set_option maxHeartbeats 1000000 in
theorem weights_2 (n : Nat) (hn : n ≤ 1024) (B : Nat) (w : World) (hB : B < w.heap.size) (hc : w.cell? ⟨B, 0, none⟩ = some (.int .i64 n)) :
    Calls Try.prog 34 #[.int .i64 n, .func (.func 31) #[] #[.pointer (some ⟨B, 0, none⟩)]] w (RowOut w (n + 1) (wEnd n 0 1)) := by
  have hmk := run_make_row' (P := Try.prog) 24 3 (.int .i64 0) 8 Try.underlying24 int_info rfl .i64 .i64 (n + 1) (by omega) (by omega)
  obtain ⟨m, hm⟩ : ∃ m, m = n + 1 := ⟨_, rfl⟩
  rw [← hm] at hmk ⊢
  have qm : (n : Int) + 1 = (m : Int) := by omega
  have HC := Lib.hid (fun w' (hb : Below w.heap.size w w') => (hb.cell (p := ⟨B, 0, none⟩) hB).trans hc)
  clear hc
  have HM := Lib.hid hm
  have hmb : m ≤ 1025 := by omega
  clear hm
  go_enter Try.func34, Try.ntmps34
  go_wp2_with fail
  have HR0 := Lib.hid (World.rowIs_made w (.int .i64 0) m 3)
  clear hmk qm
  go_loopw [12] (fun v12 wr => ∃ k : Nat, k ≤ m ∧ v12 = .int .i64 k ∧ wr.rowIs w.heap.size 3 m (fun i => .int .i64 (if i < k then (wEnd n 0 1) i else 0)) ∧ Below w.heap.size w wr) (fun v12 _ => m - (intOf v12).toNat)
  case atStart => exact ⟨0, Nat.zero_le _, rfl, HR0.out.congr (fun i hi => by simp), (Below.refl _ w).alloc (Nat.le_refl _) _⟩
  case round =>
    clear HR0
    obtain ⟨k, hk, rfl, hr, hb⟩ := hrel
    by_cases hlt : k < m
    · have fz := hr.frozen k
      have c6 := hr.cell hlt
      have HR := Lib.hid hr
      have HB := Lib.hid hb
      have kz : (k : Int) < (m : Int) := by omega
      clear hr hb
      go_wp2_with fail
      refine (d2_any k n (by have := HM.out; omega) B _ (HC.out _ HB.out)).mono ?_; rintro e w' ⟨rfl, rfl⟩
      go_wp2_with fail
      go_roundw
      case rel =>
        refine ⟨k + 1, hlt, by go_num, (HR.out.set k _).congr (fun j hj => ?_), below_set HB.out (Nat.le_refl _) _⟩
        by_cases e : j = k
        · subst e; rw [if_pos rfl, if_pos (by omega)]
        · rw [if_neg e]
          by_cases e2 : j < k
          · rw [if_pos e2, if_pos (by omega)]
          · rw [if_neg e2, if_neg (by omega)]
      case measure => simp [intOf]; omega
    · obtain rfl : k = m := by omega
      have HR := Lib.hid hr
      have HB := Lib.hid hb
      clear hr hb
      go_wp2_with fail
      go_ret
      exact ⟨w.heap.size, rfl, Nat.le_refl _, HR.out.congr (fun j hj => by rw [if_pos hj]), HB.out⟩

set_option maxHeartbeats 1000000 in
theorem weights_3 (n : Nat) (hn : n ≤ 1024) (B : Nat) (w : World) (hB : B < w.heap.size) (hc : w.cell? ⟨B, 0, none⟩ = some (.int .i64 n)) :
    Calls Try.prog 34 #[.int .i64 n, .func (.func 33) #[] #[.pointer (some ⟨B, 0, none⟩)]] w (RowOut w (n + 1) (wEnd n 1 2)) := by
  have hmk := run_make_row' (P := Try.prog) 24 3 (.int .i64 0) 8 Try.underlying24 int_info rfl .i64 .i64 (n + 1) (by omega) (by omega)
  obtain ⟨m, hm⟩ : ∃ m, m = n + 1 := ⟨_, rfl⟩
  rw [← hm] at hmk ⊢
  have qm : (n : Int) + 1 = (m : Int) := by omega
  have HC := Lib.hid (fun w' (hb : Below w.heap.size w w') => (hb.cell (p := ⟨B, 0, none⟩) hB).trans hc)
  clear hc
  have HM := Lib.hid hm
  have hmb : m ≤ 1025 := by omega
  clear hm
  go_enter Try.func34, Try.ntmps34
  go_wp2_with fail
  have HR0 := Lib.hid (World.rowIs_made w (.int .i64 0) m 3)
  clear hmk qm
  go_loopw [12] (fun v12 wr => ∃ k : Nat, k ≤ m ∧ v12 = .int .i64 k ∧ wr.rowIs w.heap.size 3 m (fun i => .int .i64 (if i < k then (wEnd n 1 2) i else 0)) ∧ Below w.heap.size w wr) (fun v12 _ => m - (intOf v12).toNat)
  case atStart => exact ⟨0, Nat.zero_le _, rfl, HR0.out.congr (fun i hi => by simp), (Below.refl _ w).alloc (Nat.le_refl _) _⟩
  case round =>
    clear HR0
    obtain ⟨k, hk, rfl, hr, hb⟩ := hrel
    by_cases hlt : k < m
    · have fz := hr.frozen k
      have c6 := hr.cell hlt
      have HR := Lib.hid hr
      have HB := Lib.hid hb
      have kz : (k : Int) < (m : Int) := by omega
      clear hr hb
      go_wp2_with fail
      refine (d3_any k n (by have := HM.out; omega) B _ (HC.out _ HB.out)).mono ?_; rintro e w' ⟨rfl, rfl⟩
      go_wp2_with fail
      go_roundw
      case rel =>
        refine ⟨k + 1, hlt, by go_num, (HR.out.set k _).congr (fun j hj => ?_), below_set HB.out (Nat.le_refl _) _⟩
        by_cases e : j = k
        · subst e; rw [if_pos rfl, if_pos (by omega)]
        · rw [if_neg e]
          by_cases e2 : j < k
          · rw [if_pos e2, if_pos (by omega)]
          · rw [if_neg e2, if_neg (by omega)]
      case measure => simp [intOf]; omega
    · obtain rfl : k = m := by omega
      have HR := Lib.hid hr
      have HB := Lib.hid hb
      clear hr hb
      go_wp2_with fail
      go_ret
      exact ⟨w.heap.size, rfl, Nat.le_refl _, HR.out.congr (fun j hj => by rw [if_pos hj]), HB.out⟩

end Go.Proofs.Ytohnhgchoppgmaa
