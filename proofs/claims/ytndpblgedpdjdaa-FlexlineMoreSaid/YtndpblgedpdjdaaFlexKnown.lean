/- The laws' known(): two lines resolved. -/
import Derived.Test.YtndpblgedpdjdaaFlexResolve
import Derived.Test.YtndpblgedpdjdaaInts
namespace Go.Proofs.Ytndpblgedpdjdaa
open Go.RowKit
set_option linter.unusedSimpArgs false
set_option linter.unusedVariables false

def itA : It := ⟨10, 0, -1, 0, 0, 1000, 0⟩
def itB : It := ⟨20, 0, -1, 0, 0, 1000, 0⟩
def itC : It := ⟨10, 0, 30, 0, 0, 1000, 0⟩
def K1 (i : Nat) : It := if i = 0 then itA else itB
def K2 (i : Nat) : It := if i = 0 then itC else itB
theorem k1_grows : true = Fx.grows (fun i => (K1 i).held) 2 (hold 100) := by decide +kernel
theorem k2_grows : true = Fx.grows (fun i => (K2 i).held) 2 (hold 100) := by decide +kernel
theorem k1_done : Fx.Done (fun i => (K1 i).held) true 2 (hold 100) (Fx.free (fun i => (K1 i).held) (Fx.st0 (fun i => (K1 i).held) true) 2 (hold 100)) 1 := ⟨by decide +kernel, by decide +kernel⟩
theorem k2_done : Fx.Done (fun i => (K2 i).held) true 2 (hold 100) (Fx.free (fun i => (K2 i).held) (Fx.st0 (fun i => (K2 i).held) true) 2 (hold 100)) 2 := ⟨by decide +kernel, by decide +kernel⟩
theorem k1_out : ∀ i, i < 2 → (Fx.st (fun i => (K1 i).held) true 2 (hold 100) (Fx.free (fun i => (K1 i).held) (Fx.st0 (fun i => (K1 i).held) true) 2 (hold 100)) 1).out i = ([45, 55] : List Int).getD i 0 := by decide +kernel
theorem k2_out : ∀ i, i < 2 → (Fx.st (fun i => (K2 i).held) true 2 (hold 100) (Fx.free (fun i => (K2 i).held) (Fx.st0 (fun i => (K2 i).held) true) 2 (hold 100)) 2).out i = ([30, 70] : List Int).getD i 0 := by decide +kernel

/-- Two items in one block. -/
theorem Its.pair {w : World} {b : Nat} {t : TypeId} {x y : It} (h : Blk w b t #[.int .i64 x.base, .int .i64 x.least, .int .i64 x.most, .int .i64 x.margin, .int .i64 x.inner, .int .i64 x.grow, .int .i64 x.shrink, .int .i64 y.base, .int .i64 y.least, .int .i64 y.most, .int .i64 y.margin, .int .i64 y.inner, .int .i64 y.grow, .int .i64 y.shrink]) :
    Its w (some ⟨b, 0, none⟩) 2 (fun i => if i = 0 then x else y) := by
  refine .inr ⟨b, 0, rfl, h.lt, fun k hk => ?_⟩
  match k, hk with
  | 0, _ => exact ⟨h.cell 0, h.cell 1, h.cell 2, h.cell 3, h.cell 4, h.cell 5, h.cell 6⟩
  | 1, _ => exact ⟨h.cell 7, h.cell 8, h.cell 9, h.cell 10, h.cell 11, h.cell 12, h.cell 13⟩

theorem pair_new (w : World) (a b : Obj) (x y : It) : Its (((w.alloc a).alloc b).alloc (.cells #[.int .i64 x.base, .int .i64 x.least, .int .i64 x.most, .int .i64 x.margin, .int .i64 x.inner, .int .i64 x.grow, .int .i64 x.shrink, .int .i64 y.base, .int .i64 y.least, .int .i64 y.most, .int .i64 y.margin, .int .i64 y.inner, .int .i64 y.grow, .int .i64 y.shrink] 34))
    (some ⟨w.heap.size + 1 + 1, 0, none⟩) 2 (fun i => if i = 0 then x else y) := by
  have e : ((w.alloc a).alloc b).heap.size = w.heap.size + 1 + 1 := by simp
  rw [← e]
  exact Its.pair (Blk.new _ _ _)
theorem pair_new1 (w : World) (x y : It) : Its (w.alloc (.cells #[.int .i64 x.base, .int .i64 x.least, .int .i64 x.most, .int .i64 x.margin, .int .i64 x.inner, .int .i64 x.grow, .int .i64 x.shrink, .int .i64 y.base, .int .i64 y.least, .int .i64 y.most, .int .i64 y.margin, .int .i64 y.inner, .int .i64 y.grow, .int .i64 y.shrink] 34))
    (some ⟨w.heap.size, 0, none⟩) 2 (fun i => if i = 0 then x else y) := Its.pair (Blk.new _ _ _)

set_option maxRecDepth 20000 in
set_option maxHeartbeats 4000000 in
theorem known_any (w : World) : Calls Try.prog 10 #[] w fun e w' => e = .returned (.bool true) ∧ Below w.heap.size w w' := by
  have hO1 := k1_out
  have hO2 := k2_out
  have hR1 := fun (h : Its (((w.alloc (.cells #[.int .i64 10, .int .i64 0, .int .i64 (-1), .int .i64 0, .int .i64 0, .int .i64 1000, .int .i64 0] 34)).alloc (.cells #[.int .i64 20, .int .i64 0, .int .i64 (-1), .int .i64 0, .int .i64 0, .int .i64 1000, .int .i64 0] 34)).alloc (.cells #[.int .i64 10, .int .i64 0, .int .i64 (-1), .int .i64 0, .int .i64 0, .int .i64 1000, .int .i64 0, .int .i64 20, .int .i64 0, .int .i64 (-1), .int .i64 0, .int .i64 0, .int .i64 1000, .int .i64 0] 34)) (some ⟨w.heap.size + 1 + 1, 0, none⟩) 2 K1) => Resolve_any (some ⟨w.heap.size + 1 + 1, 0, none⟩) 2 2 K1 100 true 1 (by decide) k1_grows k1_done _ h
  have hR2 := fun (w : World) (h : Its (w.alloc (.cells #[.int .i64 10, .int .i64 0, .int .i64 30, .int .i64 0, .int .i64 0, .int .i64 1000, .int .i64 0, .int .i64 20, .int .i64 0, .int .i64 (-1), .int .i64 0, .int .i64 0, .int .i64 1000, .int .i64 0] 34)) (some ⟨w.heap.size, 0, none⟩) 2 K2) => Resolve_any (some ⟨w.heap.size, 0, none⟩) 2 2 K2 100 true 2 (by decide) k2_grows k2_done _ h
  generalize (Fx.st (fun i => (K1 i).held) true 2 (hold 100) (Fx.free (fun i => (K1 i).held) (Fx.st0 (fun i => (K1 i).held) true) 2 (hold 100)) 1).out = f1 at *
  generalize (Fx.st (fun i => (K2 i).held) true 2 (hold 100) (Fx.free (fun i => (K2 i).held) (Fx.st0 (fun i => (K2 i).held) true) 2 (hold 100)) 2).out = f2 at *
  have HR1 := Lib.hid (hR1 (pair_new w _ _ itA itB))
  have HR2 : Hid (∀ w : World, Calls Try.prog 11 #[.slice (some ⟨w.heap.size, 0, none⟩) 2 2, .int .i64 100] (w.alloc (.cells #[.int .i64 10, .int .i64 0, .int .i64 30, .int .i64 0, .int .i64 0, .int .i64 1000, .int .i64 0, .int .i64 20, .int .i64 0, .int .i64 (-1), .int .i64 0, .int .i64 0, .int .i64 1000, .int .i64 0] 34)) (ResOut (w.alloc (.cells #[.int .i64 10, .int .i64 0, .int .i64 30, .int .i64 0, .int .i64 0, .int .i64 1000, .int .i64 0, .int .i64 20, .int .i64 0, .int .i64 (-1), .int .i64 0, .int .i64 0, .int .i64 1000, .int .i64 0] 34)) 2 f2 2)) := Lib.hid fun w => hR2 w (pair_new1 w itC itB)
  have HO1 := Lib.hid hO1
  have HO2 := Lib.hid hO2
  clear hR1 hR2 hO1 hO2
  go_enter Try.func10, Try.ntmps10
  go_wp2_with fail
  refine HR1.out.mono ?_
  rintro e w1 ⟨o1, rfl, ho1, hr1, hb1⟩
  have hA : Blk w1 w.heap.size 34 #[.int .i64 10, .int .i64 0, .int .i64 (-1), .int .i64 0, .int .i64 0, .int .i64 1000, .int .i64 0] := Blk.of_kept (((Blk.new w 34 #[.int .i64 10, .int .i64 0, .int .i64 (-1), .int .i64 0, .int .i64 0, .int .i64 1000, .int .i64 0]).alloc (.cells #[.int .i64 20, .int .i64 0, .int .i64 (-1), .int .i64 0, .int .i64 0, .int .i64 1000, .int .i64 0] 34)).alloc (.cells #[.int .i64 10, .int .i64 0, .int .i64 (-1), .int .i64 0, .int .i64 0, .int .i64 1000, .int .i64 0, .int .i64 20, .int .i64 0, .int .i64 (-1), .int .i64 0, .int .i64 0, .int .i64 1000, .int .i64 0] 34)) (hb1.block _ (by simp; omega))
  have hB : Blk w1 (w.heap.size + 1) 34 #[.int .i64 20, .int .i64 0, .int .i64 (-1), .int .i64 0, .int .i64 0, .int .i64 1000, .int .i64 0] := by
    have h := Blk.of_kept (w' := w1) ((Blk.new (w.alloc (.cells #[.int .i64 10, .int .i64 0, .int .i64 (-1), .int .i64 0, .int .i64 0, .int .i64 1000, .int .i64 0] 34)) 34 #[.int .i64 20, .int .i64 0, .int .i64 (-1), .int .i64 0, .int .i64 0, .int .i64 1000, .int .i64 0]).alloc (.cells #[.int .i64 10, .int .i64 0, .int .i64 (-1), .int .i64 0, .int .i64 0, .int .i64 1000, .int .i64 0, .int .i64 20, .int .i64 0, .int .i64 (-1), .int .i64 0, .int .i64 0, .int .i64 1000, .int .i64 0] 34)) (hb1.block _ (by simp))
    have e : (w.alloc (.cells #[.int .i64 10, .int .i64 0, .int .i64 (-1), .int .i64 0, .int .i64 0, .int .i64 1000, .int .i64 0] 34)).heap.size = w.heap.size + 1 := by simp
    rwa [e] at h
  have hbw : Below w.heap.size w w1 := below_then (below_alloc (below_alloc (below_alloc (Below.refl _ w) _) _) _) hb1
  have a0 := hA.cell 0
  have a1 := hA.cell 1
  have a2 := hA.cell 2
  have a3 := hA.cell 3
  have a4 := hA.cell 4
  have a5 := hA.cell 5
  have a6 := hA.cell 6
  have af := hA.frozen 2
  have al := hA.lt
  have c0 := hB.cell 0
  have c1 := hB.cell 1
  have c2 := hB.cell 2
  have c3 := hB.cell 3
  have c4 := hB.cell 4
  have c5 := hB.cell 5
  have c6 := hB.cell 6
  have cl := hB.lt
  have HRW1 := Lib.hid hr1
  have HBW := Lib.hid hbw
  have hne : o1 ≠ w.heap.size := by simp at ho1; omega
  have hs2 := (Sl.row (hr1.setOther (a := ⟨w.heap.size, 2, none⟩) hne (.int .i64 30))).below (below_alloc (Below.refl _ _) (.cells #[.int .i64 10, .int .i64 0, .int .i64 30, .int .i64 0, .int .i64 0, .int .i64 1000, .int .i64 0, .int .i64 20, .int .i64 0, .int .i64 (-1), .int .i64 0, .int .i64 0, .int .i64 1000, .int .i64 0] 34))
  have hR2 := HR2.out (w1.setCell ⟨w.heap.size, 2, none⟩ (.int .i64 30))
  have hsz : (w1.setCell ⟨w.heap.size, 2, none⟩ (.int .i64 30)).heap.size = w1.heap.size := by simp [World.setCell]
  rw [hsz] at hR2
  have HR22 := Lib.hid hR2
  have HS2 := Lib.hid hs2
  have HSZ := Lib.hid hsz
  have hbx : Below w.heap.size w ((w1.setCell ⟨w.heap.size, 2, none⟩ (.int .i64 30)).alloc (.cells #[.int .i64 10, .int .i64 0, .int .i64 30, .int .i64 0, .int .i64 0, .int .i64 1000, .int .i64 0, .int .i64 20, .int .i64 0, .int .i64 (-1), .int .i64 0, .int .i64 0, .int .i64 1000, .int .i64 0] 34)) := below_alloc (below_set hbw (Nat.le_refl _) _) _
  have HBX := Lib.hid hbx
  clear hr1 hb1 hA hB hbw HR1 HR2 hR2 hs2 hsz hne hbx
  go_wp2_with fail
  refine HR22.out.mono ?_
  rintro e w2 ⟨o2, rfl, ho2, hr2, hb2⟩
  have HI1 := Lib.hid (RInts_same (some ⟨o1, 0, none⟩) (some ⟨w2.heap.size, 0, none⟩) 2 2 2 f1 (fun i => ([45, 55] : List Int).getD i 0) HO1.out (by decide) _ ((HS2.out.below hb2).below ((Below.refl _ w2).alloc (Nat.le_refl _) (.cells #[.int .i64 45, .int .i64 55] 3))) (nums_lit w2 [45, 55]))
  have HB2 := Lib.hid (below_alloc (below_then HBX.out hb2) (.cells #[.int .i64 45, .int .i64 55] 3))
  have HS3 := Lib.hid ((Sl.row hr2).below ((Below.refl _ w2).alloc (Nat.le_refl _) (.cells #[.int .i64 45, .int .i64 55] 3)))
  clear hr2 hb2 HR22 HS2 a0 a1 a2 a3 a4 a5 a6 af al c0 c1 c2 c3 c4 c5 c6 cl
  go_wp2_with fail
  refine HI1.out.mono ?_
  rintro e w3 ⟨rfl, hb3⟩
  have HI2 := Lib.hid (RInts_same (some ⟨o2, 0, none⟩) (some ⟨w3.heap.size, 0, none⟩) 2 2 2 f2 (fun i => ([30, 70] : List Int).getD i 0) HO2.out (by decide) _ ((HS3.out.below hb3).below ((Below.refl _ w3).alloc (Nat.le_refl _) (.cells #[.int .i64 30, .int .i64 70] 3))) (nums_lit w3 [30, 70]))
  have HB3 := Lib.hid (below_alloc (below_then HB2.out hb3) (.cells #[.int .i64 30, .int .i64 70] 3))
  clear hb3 HI1
  go_wp2_with fail
  refine HI2.out.mono ?_
  rintro e w4 ⟨rfl, hb4⟩
  have HB4 := Lib.hid (below_then HB3.out hb4)
  clear hb4 HI2
  go_wp2_with fail
  go_ret
  exact ⟨rfl, HB4.out⟩

end Go.Proofs.Ytndpblgedpdjdaa
