/- The statements on alignment: walks. -/
import Derived.Test.YtohnhgchoppgmaaAlignMore
namespace Go.Proofs.Ytohnhgchoppgmaa
open Go.Shelf Go.RowKit Go.Lib Go.Sort
set_option linter.unusedSimpArgs false
set_option linter.unusedVariables false

set_option maxHeartbeats 1000000 in
theorem AlignOffsets_walk (way room size : Int) (w : World) : Calls Try.prog 5 #[.int .i64 way, .int .i64 room, .int .i64 size] w fun e w' => e = .returned (.bool true) ∧ Below w.heap.size w w' := by
  go_enter Try.func5, Try.ntmps5
  go_wp2_with fail
  refine (Offset_any _ _ _ _).mono ?_; rintro e w' ⟨rfl, rfl⟩
  go_wp2_with fail
  refine (ROffset_any _ _ _ _).mono ?_; rintro e w' ⟨rfl, rfl⟩
  go_wp2_with fail
  refine (known_any _).mono ?_
  rintro e w4 ⟨rfl, hb4⟩
  have HB4 := Lib.hid hb4
  clear hb4
  go_wp2_with fail
  go_ret
  exact ⟨rfl, HB4.out⟩

set_option maxHeartbeats 1000000 in
theorem AlignAutos_walk (free : Int) (ao : Option Addr) (cap n : Nat) (f : Nat → Bool) (w : World) (hm : n ≤ maxLen) (hS : Bl w ao n f) :
    Calls Try.prog 4 #[.int .i64 free, .slice ao n cap] w fun e w' => e = .returned (.bool true) ∧ Below w.heap.size w w' := by
  by_cases hn : n ≤ 100
  · have hnz : ¬ (100 : Int) < (n : Int) := by omega
    have hnd : decide ((100 : Int) < (n : Int)) = false := decide_eq_false hnz
    have HC1 := Lib.hid (Autos_any free ao cap n f (by omega) w hS)
    have HC2 := Lib.hid (fun w1 (hb1 : Below w.heap.size w w1) => RAutos_any free ao cap n f (by omega) w1 (hS.below hb1))
    have HE := Lib.hid (autos_eq free n (oneFor f))
    clear hS hm
    go_enter Try.func4, Try.ntmps4
    go_wp2_with fail
    refine (HC1.out).mono ?_
    rintro e w1 ⟨o, rfl, ho, hr, hb1⟩
    have HR := Lib.hid (hr.congr (g := fun i => .int .i64 (if free ≤ 0 then 0 else deal free n (oneFor f) i)) (fun i hi => by rw [HE.out]))
    have HB1 := Lib.hid hb1
    clear hr hb1 HC1
    go_wp2_with fail
    refine (HC2.out _ HB1.out).mono ?_
    rintro e w2 ⟨o2, rfl, ho2, hr2, hb2⟩
    have HI := Lib.hid (RInts_same (some ⟨o, 0, none⟩) (some ⟨o2, 0, none⟩) n n n _ _ (fun i hi => rfl) (by omega) _ ((Sl.row HR.out).below hb2) (Sl.row hr2))
    have HB2 := Lib.hid (below_then HB1.out hb2)
    clear hr2 hb2 HC2
    go_wp2_with fail
    refine (HI.out).mono ?_
    rintro e w3 ⟨rfl, hb3⟩
    have HB3 := Lib.hid (below_then HB2.out hb3)
    clear hb3 HI
    go_wp2_with fail
    refine (known_any _).mono ?_
    rintro e w4 ⟨rfl, hb4⟩
    have HB4 := Lib.hid (below_then HB3.out hb4)
    clear hb4
    go_wp2_with fail
    go_ret
    exact ⟨rfl, HB4.out⟩
  · have hnz : (100 : Int) < (n : Int) := by omega
    have hnd : decide ((100 : Int) < (n : Int)) = true := decide_eq_true hnz
    clear hS hm
    go_enter Try.func4, Try.ntmps4
    go_wp2_with fail
    refine (known_any _).mono ?_
    rintro e w4 ⟨rfl, hb4⟩
    have HB4 := Lib.hid hb4
    clear hb4
    go_wp2_with fail
    go_ret
    exact ⟨rfl, HB4.out⟩

set_option maxHeartbeats 1000000 in
theorem AlignSpaces_walk (free n way : Int) (w : World) : Calls Try.prog 3 #[.int .i64 free, .int .i64 n, .int .i64 way] w fun e w' => e = .returned (.bool true) ∧ Below w.heap.size w w' := by
  by_cases hn : 80 < n
  · have hmb := manyN_bd ((someN n : Nat) : Int)
    go_enter Try.func3, Try.ntmps3
    go_wp2_with fail
    refine (some_any _ _).mono ?_; rintro e w' ⟨rfl, rfl⟩
    go_wp2_with fail
    refine (Spaces_any _ _ _ _).mono ?_
    rintro e w1 ⟨o, rfl, ho, hr, hb1⟩
    have HR := Lib.hid hr
    have HB1 := Lib.hid hb1
    clear hr hb1
    go_wp2_with fail
    refine (RSpaces_any _ _ _ _).mono ?_
    rintro e w2 ⟨o2, rfl, ho2, hr2, hb2⟩
    have HI := Lib.hid (RInts_same (some ⟨o, 0, none⟩) (some ⟨o2, 0, none⟩) (manyN ((someN n : Nat) : Int) + 1) (manyN ((someN n : Nat) : Int) + 1) (manyN ((someN n : Nat) : Int) + 1) _ _ (fun i hi => rfl) (by omega) _ ((Sl.row HR.out).below hb2) (Sl.row hr2))
    have HB2 := Lib.hid (below_then HB1.out hb2)
    clear hr2 hb2
    go_wp2_with fail
    refine (HI.out).mono ?_
    rintro e w3 ⟨rfl, hb3⟩
    have HB3 := Lib.hid (below_then HB2.out hb3)
    clear hb3 HI
    go_wp2_with fail
    refine (known_any _).mono ?_
    rintro e w4 ⟨rfl, hb4⟩
    have HB4 := Lib.hid (below_then HB3.out hb4)
    clear hb4
    go_wp2_with fail
    go_ret
    exact ⟨rfl, HB4.out⟩
  · have hmb := manyN_bd n
    go_enter Try.func3, Try.ntmps3
    go_wp2_with fail
    refine (Spaces_any _ _ _ _).mono ?_
    rintro e w1 ⟨o, rfl, ho, hr, hb1⟩
    have HR := Lib.hid hr
    have HB1 := Lib.hid hb1
    clear hr hb1
    go_wp2_with fail
    refine (RSpaces_any _ _ _ _).mono ?_
    rintro e w2 ⟨o2, rfl, ho2, hr2, hb2⟩
    have HI := Lib.hid (RInts_same (some ⟨o, 0, none⟩) (some ⟨o2, 0, none⟩) (manyN n + 1) (manyN n + 1) (manyN n + 1) _ _ (fun i hi => rfl) (by omega) _ ((Sl.row HR.out).below hb2) (Sl.row hr2))
    have HB2 := Lib.hid (below_then HB1.out hb2)
    clear hr2 hb2
    go_wp2_with fail
    refine (HI.out).mono ?_
    rintro e w3 ⟨rfl, hb3⟩
    have HB3 := Lib.hid (below_then HB2.out hb3)
    clear hb3 HI
    go_wp2_with fail
    refine (known_any _).mono ?_
    rintro e w4 ⟨rfl, hb4⟩
    have HB4 := Lib.hid (below_then HB3.out hb4)
    clear hb4
    go_wp2_with fail
    go_ret
    exact ⟨rfl, HB4.out⟩

/-! Where nothing is free -/
theorem deal_none (n : Nat) (f : Nat → Int) (i : Nat) : deal 0 n f i = 0 := by
  unfold deal
  split
  · rfl
  · rw [show hold 0 = 0 from rfl, if_pos (by decide), Sh.dealt_zero]
theorem spaces_none (n : Nat) (way : Int) (i : Nat) : spaces 0 n way i = 0 := by
  unfold spaces
  (repeat' split) <;> first | rfl | exact deal_none _ _ _
theorem linesS_none (n : Nat) (way : Int) (i : Nat) : linesS 0 n way i = 0 := by
  unfold linesS
  (repeat' split) <;> first | rfl | exact spaces_none _ _ _

set_option maxHeartbeats 1000000 in
theorem AlignNothing_walk (n a b : Int) (w : World) : Calls Try.prog 7 #[.int .i64 n, .int .i64 a, .int .i64 b] w fun e w' => e = .returned (.bool true) ∧ Below w.heap.size w w' := by
  have hk := someN_bd n
  have hmk := manyN_id (someN n) (by omega)
  have HL : Hid (∀ way w', Calls Try.prog 17 #[.int .i64 0, .int .i64 (someN n), .int .i64 way] w' (TwoOut w' (someN n) (someN n + 1) (linesM 0 (someN n) way) (fun _ => 0))) := Lib.hid (fun way w' => by
    have h := Lines_any 0 (someN n) way w'
    rw [hmk, show hold 0 = 0 from rfl] at h
    refine h.mono ?_
    rintro e w'' ⟨o1, o2, he, h1, h2, hb⟩
    exact ⟨o1, o2, he, h1, h2.congr (fun i hi => by rw [linesS_none]), hb⟩)
  have HSP : Hid (∀ way w', Calls Try.prog 10 #[.int .i64 0, .int .i64 (someN n), .int .i64 way] w' (RowOut w' (someN n + 1) (fun _ => 0))) := Lib.hid (fun way w' => by
    have h := Spaces_any 0 (someN n) way w'
    rw [hmk, show hold 0 = 0 from rfl] at h
    refine h.mono ?_
    rintro e w'' ⟨o, he, ho, h1, hb⟩
    exact ⟨o, he, ho, h1.congr (fun i hi => by rw [spaces_none]), hb⟩)
  have HM := Lib.hid (fun w' => some_any n w')
  generalize someN n = k at *
  clear hmk
  go_enter Try.func7, Try.ntmps7
  go_wp2_with fail
  refine (HM.out _).mono ?_; rintro e w' ⟨rfl, rfl⟩
  go_wp2_with fail
  refine (HL.out _ _).mono ?_
  rintro e w1 ⟨o1, o2, rfl, h1, h2, hb1⟩
  have HR1 := Lib.hid h2
  have HB1 := Lib.hid hb1
  clear h1 h2 hb1
  go_wp2_with fail
  refine (HL.out _ _).mono ?_
  rintro e w2 ⟨o3, o4, rfl, h3, h4, hb2⟩
  have HR2 := Lib.hid (And.intro (HR1.out.of_block (hb2.block _ HR1.out.lt)) h4)
  have HB2 := Lib.hid (below_then HB1.out hb2)
  clear h3 h4 hb2 HR1
  go_wp2_with fail
  refine (HSP.out _ _).mono ?_
  rintro e w3 ⟨o5, rfl, ho5, h5, hb3⟩
  have HR3 := Lib.hid (And.intro ((Sl.row HR2.out.1).below hb3) (And.intro ((Sl.row HR2.out.2).below hb3) (Sl.row h5)))
  have HB3 := Lib.hid (below_then HB2.out hb3)
  clear h5 hb3 HR2 ho5
  go_wp2_with fail
  refine (HSP.out _ _).mono ?_
  rintro e w4 ⟨o6, rfl, ho6, h6, hb4⟩
  have HR4 := Lib.hid (And.intro (HR3.out.1.below hb4) (HR3.out.2.1.below hb4))
  have HI := Lib.hid (RInts_same (some ⟨o5, 0, none⟩) (some ⟨o6, 0, none⟩) (k + 1) (k + 1) (k + 1) _ _ (fun i hi => rfl) (by omega) _ (HR3.out.2.2.below hb4) (Sl.row h6))
  have HB4 := Lib.hid (below_then HB3.out hb4)
  clear h6 hb4 HR3 ho6
  go_wp2_with fail
  refine (HI.out).mono ?_
  rintro e w5 ⟨rfl, hb5⟩
  have HI2 := Lib.hid (RInts_same (some ⟨o2, 0, none⟩) (some ⟨o4, 0, none⟩) (k + 1) (k + 1) (k + 1) _ _ (fun i hi => rfl) (by omega) _ (HR4.out.1.below hb5) (HR4.out.2.below hb5))
  have HB5 := Lib.hid (below_then HB4.out hb5)
  clear hb5 HI
  go_wp2_with fail
  refine (HI2.out).mono ?_
  rintro e w6 ⟨rfl, hb6⟩
  have HB6 := Lib.hid (below_then HB5.out hb6)
  clear hb6 HI2
  go_wp2_with fail
  refine (known_any _).mono ?_
  rintro e w7 ⟨rfl, hb7⟩
  have HB7 := Lib.hid (below_then HB6.out hb7)
  clear hb7
  go_wp2_with fail
  go_ret
  exact ⟨rfl, HB7.out⟩

end Go.Proofs.Ytohnhgchoppgmaa
