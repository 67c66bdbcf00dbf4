/- Sizing: a case as a value; the small functions, walked. -/
import Derived.Test.YtdddlnemlpgnlaaExt
import Derived.Test.YtdddlnemlpgnlaaMem
import Derived.Test.YtdddlnemlpgnlaaFixAdd
import Derived.Test.YtdddlnemlpgnlaaFixSub
import Derived.Test.YtdddlnemlpgnlaaPercent
import Derived.Test.YtdddlnemlpgnlaaRPart
import Derived.Deep.CutRange
namespace Go.Proofs.Ytdddlnemlpgnlaa
open Go.RowKit
set_option linter.unusedSimpArgs false
set_option linter.unusedVariables false
attribute [local go_sem] cell?_ext frozen?_ext lt_size_ext

/-- A case's cells: all integers but for one bool and one text. -/
structure Cs where
  n : Nat → Int
  b : Bool
  s : Value
def Cs.val (c : Cs) : Value := .agg #[.int .i64 (c.n 0), .bool c.b, .int .i64 (c.n 2), .int .i64 (c.n 3), .int .i64 (c.n 4), .int .i64 (c.n 5), .int .i64 (c.n 6), .int .i64 (c.n 7), .int .i64 (c.n 8), .int .i64 (c.n 9), .int .i64 (c.n 10), .int .i64 (c.n 11), .int .i64 (c.n 12), .int .i64 (c.n 13), .int .i64 (c.n 14), .int .i64 (c.n 15), .int .i64 (c.n 16), .int .i64 (c.n 17), .int .i64 (c.n 18), .int .i64 (c.n 19), .int .i64 (c.n 20), .int .i64 (c.n 21), .int .i64 (c.n 22), .int .i64 (c.n 23), .int .i64 (c.n 24), .int .i64 (c.n 25), .int .i64 (c.n 26), .int .i64 (c.n 27), .int .i64 (c.n 28), .int .i64 (c.n 29), .int .i64 (c.n 30), .int .i64 (c.n 31), .int .i64 (c.n 32), .int .i64 (c.n 33), .int .i64 (c.n 34), .int .i64 (c.n 35), .int .i64 (c.n 36), .int .i64 (c.n 37), .int .i64 (c.n 38), .int .i64 (c.n 39), .int .i64 (c.n 40), .int .i64 (c.n 41), .int .i64 (c.n 42), .int .i64 (c.n 43), .int .i64 (c.n 44), .int .i64 (c.n 45), .int .i64 (c.n 46), .int .i64 (c.n 47), .int .i64 (c.n 48), .int .i64 (c.n 49), .int .i64 (c.n 50), .int .i64 (c.n 51), c.s, .int .i64 (c.n 53), .int .i64 (c.n 54), .int .i64 (c.n 55), .int .i64 (c.n 56), .int .i64 (c.n 57), .int .i64 (c.n 58)]
/-- A size's worth. -/
def sideF (k n a : Int) : Int := if k = 1 then hold n else if k = 2 then partH a n 100000 else 0
theorem sideF_bd (k n a : Int) : -1073741824 ≤ sideF k n a ∧ sideF k n a ≤ 1073741824 := by
  unfold sideF
  split
  · exact hold_bd n
  · split
    · exact partH_bd _ _ _
    · omega

set_option maxHeartbeats 400000 in
theorem RUp_any (n l : Int) (w : World) : Calls Try.prog 12 #[.int .i64 n, .int .i64 l] w fun e w' => e = .returned (.int .i64 (max n l)) ∧ w = w' := by
  by_cases h : n < l
  · have hd : decide (n < l) = true := decide_eq_true h
    have hm : Hid (max n l = l) := Lib.hid (by omega)
    go_enter Try.func12, Try.ntmps12
    go_wp2
    go_ret
    exact ⟨ret_int hm.out.symm, rfl⟩
  · have hd : decide (n < l) = false := decide_eq_false h
    have hm : Hid (max n l = n) := Lib.hid (by omega)
    go_enter Try.func12, Try.ntmps12
    go_wp2
    go_ret
    exact ⟨ret_int hm.out.symm, rfl⟩

set_option maxHeartbeats 400000 in
theorem RAdd20_any (a b : Int) (w : World) : Calls Try.prog 50 #[.int .i64 a, .int .i64 b] w fun e w' => e = .returned (.int .i64 (addH a b)) ∧ w = w' := by
  have h1 := hold_bd a
  have h2 := hold_bd b
  go_enter Try.func50, Try.ntmps50
  go_wp2_with fail
  refine (RHold_any a _).mono ?_; rintro e w' ⟨rfl, rfl⟩
  go_wp2_with fail
  refine (RHold_any b _).mono ?_; rintro e w' ⟨rfl, rfl⟩
  go_wp2_with fail
  refine (RHold_any _ _).mono ?_; rintro e w' ⟨rfl, rfl⟩
  go_wp2_with fail
  go_ret
  exact ⟨rfl, rfl⟩
set_option maxHeartbeats 400000 in
theorem RSub20_any (a b : Int) (w : World) : Calls Try.prog 63 #[.int .i64 a, .int .i64 b] w fun e w' => e = .returned (.int .i64 (subH a b)) ∧ w = w' := by
  have h1 := hold_bd a
  have h2 := hold_bd b
  go_enter Try.func63, Try.ntmps63
  go_wp2_with fail
  refine (RHold_any a _).mono ?_; rintro e w' ⟨rfl, rfl⟩
  go_wp2_with fail
  refine (RHold_any b _).mono ?_; rintro e w' ⟨rfl, rfl⟩
  go_wp2_with fail
  refine (RHold_any _ _).mono ?_; rintro e w' ⟨rfl, rfl⟩
  go_wp2_with fail
  go_ret
  exact ⟨rfl, rfl⟩

set_option maxHeartbeats 1000000 in
theorem RSide_any (k n a : Int) (w : World) : Calls Try.prog 13 #[.agg #[.int .i64 k, .int .i64 n], .int .i64 a] w fun e w' => e = .returned (.int .i64 (sideF k n a)) ∧ Below w.heap.size w w' := by
  have hb := below_alloc (Below.refl w.heap.size w) (.cells #[.int .i64 k, .int .i64 n] 23)
  have HB := Lib.hid hb
  clear hb
  by_cases h1 : k = 1
  · have HE : Hid (sideF k n a = hold n) := Lib.hid (by unfold sideF; rw [if_pos h1])
    have e1 : (k == 1) = true := by rw [h1]; rfl
    clear h1
    go_enter Try.func13, Try.ntmps13
    go_wp2_with fail
    refine (RHold_any _ _).mono ?_; rintro e w' ⟨rfl, rfl⟩
    go_wp2_with fail
    go_ret
    exact ⟨ret_int HE.out.symm, HB.out⟩
  · have e1 : (k == 1) = false := beq_false_of_ne h1
    by_cases h2 : k = 2
    · have HE : Hid (sideF k n a = partH a n 100000) := Lib.hid (by unfold sideF; rw [if_neg h1, if_pos h2])
      have e2 : (k == 2) = true := by rw [h2]; rfl
      clear h1 h2
      go_enter Try.func13, Try.ntmps13
      go_wp2_with fail
      refine (RPart_any _ _ _ _).mono ?_; rintro e w' ⟨rfl, rfl⟩
      go_wp2_with fail
      go_ret
      exact ⟨ret_int HE.out.symm, HB.out⟩
    · have HE : Hid (sideF k n a = 0) := Lib.hid (by unfold sideF; rw [if_neg h1, if_neg h2])
      have e2 : (k == 2) = false := beq_false_of_ne h2
      clear h1 h2
      go_enter Try.func13, Try.ntmps13
      go_wp2_with fail
      go_ret
      exact ⟨ret_int HE.out.symm, HB.out⟩

set_option maxHeartbeats 4000000 in
theorem edge_any (c : Cs) (k n : Int) (w : World) : Calls Try.prog 32 #[c.val, .agg #[.int .i64 k, .int .i64 n]] w fun e w' => e = .returned (.int .i64 (sideF k n (c.n 55))) ∧ Below w.heap.size w w' := by
  have hb := below_alloc (below_alloc (Below.refl w.heap.size w) (.cells #[.int .i64 (c.n 0), .bool c.b, .int .i64 (c.n 2), .int .i64 (c.n 3), .int .i64 (c.n 4), .int .i64 (c.n 5), .int .i64 (c.n 6), .int .i64 (c.n 7), .int .i64 (c.n 8), .int .i64 (c.n 9), .int .i64 (c.n 10), .int .i64 (c.n 11), .int .i64 (c.n 12), .int .i64 (c.n 13), .int .i64 (c.n 14), .int .i64 (c.n 15), .int .i64 (c.n 16), .int .i64 (c.n 17), .int .i64 (c.n 18), .int .i64 (c.n 19), .int .i64 (c.n 20), .int .i64 (c.n 21), .int .i64 (c.n 22), .int .i64 (c.n 23), .int .i64 (c.n 24), .int .i64 (c.n 25), .int .i64 (c.n 26), .int .i64 (c.n 27), .int .i64 (c.n 28), .int .i64 (c.n 29), .int .i64 (c.n 30), .int .i64 (c.n 31), .int .i64 (c.n 32), .int .i64 (c.n 33), .int .i64 (c.n 34), .int .i64 (c.n 35), .int .i64 (c.n 36), .int .i64 (c.n 37), .int .i64 (c.n 38), .int .i64 (c.n 39), .int .i64 (c.n 40), .int .i64 (c.n 41), .int .i64 (c.n 42), .int .i64 (c.n 43), .int .i64 (c.n 44), .int .i64 (c.n 45), .int .i64 (c.n 46), .int .i64 (c.n 47), .int .i64 (c.n 48), .int .i64 (c.n 49), .int .i64 (c.n 50), .int .i64 (c.n 51), c.s, .int .i64 (c.n 53), .int .i64 (c.n 54), .int .i64 (c.n 55), .int .i64 (c.n 56), .int .i64 (c.n 57), .int .i64 (c.n 58)] 29)) (.cells #[.int .i64 k, .int .i64 n] 23)
  have HB := Lib.hid hb
  clear hb
  unfold Cs.val
  by_cases h1 : k = 1
  · have HE : Hid (sideF k n (c.n 55) = hold n) := Lib.hid (by unfold sideF; rw [if_pos h1])
    have e1 : (k == 1) = true := by rw [h1]; rfl
    clear h1
    go_enter Try.func32, Try.ntmps32
    go_wp2_with fail
    refine (Hold_any _ _).mono ?_; rintro e w' ⟨rfl, rfl⟩
    go_wp2_with fail
    go_ret
    exact ⟨ret_int HE.out.symm, HB.out⟩
  · have e1 : (k == 1) = false := beq_false_of_ne h1
    by_cases h2 : k = 2
    · have HE : Hid (sideF k n (c.n 55) = partH (c.n 55) n 100000) := Lib.hid (by unfold sideF; rw [if_neg h1, if_pos h2])
      have e2 : (k == 2) = true := by rw [h2]; rfl
      clear h1 h2
      go_enter Try.func32, Try.ntmps32
      go_wp2_with fail
      refine (Percent_any _ _ _).mono ?_; rintro e w' ⟨rfl, rfl⟩
      go_wp2_with fail
      go_ret
      exact ⟨ret_int HE.out.symm, HB.out⟩
    · have HE : Hid (sideF k n (c.n 55) = 0) := Lib.hid (by unfold sideF; rw [if_neg h1, if_neg h2])
      have e2 : (k == 2) = false := beq_false_of_ne h2
      clear h1 h2
      go_enter Try.func32, Try.ntmps32
      go_wp2_with fail
      go_ret
      exact ⟨ret_int HE.out.symm, HB.out⟩

/-- A walk goes on at any world of which some facts are known. -/
theorem at_any {P : Program} {c : Code} {Q : Exit → Act → World → Prop} {a : Act} {w : World} (F : World → Prop) (h : F w) (k : ∀ wx, F wx → c.wp P Q a wx) : c.wp P Q a w := k w h

/-- A side's margin, pad, edge. -/
def Cs.mar (c : Cs) (i : Nat) : Int := sideF (c.n (14 + 2 * i)) (c.n (15 + 2 * i)) (c.n 55)
def Cs.pad (c : Cs) (i : Nat) : Int := max (sideF (c.n (22 + 2 * i)) (c.n (23 + 2 * i)) (c.n 55)) 0
def Cs.edg (c : Cs) (i : Nat) : Int := max (hold (c.n (30 + i))) 0
def Cs.pr (c : Cs) (a b : Nat) : Int := addH (addH (c.pad a) (c.pad b)) (addH (c.edg a) (c.edg b))

set_option maxHeartbeats 4000000 in
theorem RMargin_any (c : Cs) (i : Nat) (hi : i < 4) (w : World) : Calls Try.prog 10 #[c.val, .int .i64 i] w fun e w' => e = .returned (.int .i64 (c.mar i)) ∧ Below w.heap.size w w' := by
  have hs := fun w => RSide_any (c.n (14 + 2 * i)) (c.n (15 + 2 * i)) (c.n 55) w
  have hE : Hid (sideF (c.n (14 + 2 * i)) (c.n (15 + 2 * i)) (c.n 55) = c.mar i) := Lib.hid rfl
  rw [hE.out] at hs
  generalize c.mar i = m at *
  have h4 : i = 0 ∨ i = 1 ∨ i = 2 ∨ i = 3 := by omega
  clear hi hE
  unfold Cs.val
  rcases h4 with rfl | rfl | rfl | rfl
  all_goals
    go_enter Try.func10, Try.ntmps10
    go_upto_region 1 with fail
    refine at_any (fun wx => Blk wx w.heap.size 36 #[.int .i64 (c.n 0), .bool c.b, .int .i64 (c.n 2), .int .i64 (c.n 3), .int .i64 (c.n 4), .int .i64 (c.n 5), .int .i64 (c.n 6), .int .i64 (c.n 7), .int .i64 (c.n 8), .int .i64 (c.n 9), .int .i64 (c.n 10), .int .i64 (c.n 11), .int .i64 (c.n 12), .int .i64 (c.n 13), .int .i64 (c.n 14), .int .i64 (c.n 15), .int .i64 (c.n 16), .int .i64 (c.n 17), .int .i64 (c.n 18), .int .i64 (c.n 19), .int .i64 (c.n 20), .int .i64 (c.n 21), .int .i64 (c.n 22), .int .i64 (c.n 23), .int .i64 (c.n 24), .int .i64 (c.n 25), .int .i64 (c.n 26), .int .i64 (c.n 27), .int .i64 (c.n 28), .int .i64 (c.n 29), .int .i64 (c.n 30), .int .i64 (c.n 31), .int .i64 (c.n 32), .int .i64 (c.n 33), .int .i64 (c.n 34), .int .i64 (c.n 35), .int .i64 (c.n 36), .int .i64 (c.n 37), .int .i64 (c.n 38), .int .i64 (c.n 39), .int .i64 (c.n 40), .int .i64 (c.n 41), .int .i64 (c.n 42), .int .i64 (c.n 43), .int .i64 (c.n 44), .int .i64 (c.n 45), .int .i64 (c.n 46), .int .i64 (c.n 47), .int .i64 (c.n 48), .int .i64 (c.n 49), .int .i64 (c.n 50), .int .i64 (c.n 51), c.s, .int .i64 (c.n 53), .int .i64 (c.n 54), .int .i64 (c.n 55), .int .i64 (c.n 56), .int .i64 (c.n 57), .int .i64 (c.n 58)] ∧ Below w.heap.size w wx) ⟨Blk.new _ _ _, below_alloc (Below.refl _ _) _⟩ ?_
    rintro wx ⟨hbk, hb⟩
    have x0 : wx.cell? ⟨w.heap.size, 14, none⟩ = some (.int .i64 (c.n 14)) := hbk.cell 14
    have x1 : wx.cell? ⟨w.heap.size, 15, none⟩ = some (.int .i64 (c.n 15)) := hbk.cell 15
    have x2 : wx.cell? ⟨w.heap.size, 16, none⟩ = some (.int .i64 (c.n 16)) := hbk.cell 16
    have x3 : wx.cell? ⟨w.heap.size, 17, none⟩ = some (.int .i64 (c.n 17)) := hbk.cell 17
    have x4 : wx.cell? ⟨w.heap.size, 18, none⟩ = some (.int .i64 (c.n 18)) := hbk.cell 18
    have x5 : wx.cell? ⟨w.heap.size, 19, none⟩ = some (.int .i64 (c.n 19)) := hbk.cell 19
    have x6 : wx.cell? ⟨w.heap.size, 20, none⟩ = some (.int .i64 (c.n 20)) := hbk.cell 20
    have x7 : wx.cell? ⟨w.heap.size, 21, none⟩ = some (.int .i64 (c.n 21)) := hbk.cell 21
    have x8 : wx.cell? ⟨w.heap.size, 55, none⟩ = some (.int .i64 (c.n 55)) := hbk.cell 55
    have xl := hbk.lt
    have HB := Lib.hid hb
    clear hbk hb
    refine wp_region_ext (by kernel_rfl) (by kernel_rfl) ?_
    repeat (go_big_quiet_step ((go_at_call 13; exact quiet_ext (hs _))))
    refine wpQuiet_nil ?_
    intro w2 hw2
    have hb2 := (grown_rules hw2).2.2.2
    have HB2 := Lib.hid hb2
    clear hw2 hb2
    go_wp2_with fail
    go_ret
    exact ⟨rfl, below_then HB.out HB2.out⟩

end Go.Proofs.Ytdddlnemlpgnlaa
