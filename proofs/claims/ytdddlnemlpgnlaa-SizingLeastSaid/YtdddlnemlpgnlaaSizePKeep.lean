/- Sizing: the program's kept, KeepW, KeepH, Given, Wide, High. -/
import Derived.Test.YtdddlnemlpgnlaaSizePSays
namespace Go.Proofs.Ytdddlnemlpgnlaa
open Go.RowKit
set_option linter.unusedSimpArgs false
set_option linter.unusedVariables false
attribute [local go_sem] cell?_ext frozen?_ext lt_size_ext

/-- The same where a guard says yes. -/
theorem wpList_load_want {ops : Array Oper} {rest : List Oper} {op : Oper} {a : Act} {w : World} {Q : Exit → Act → World → Prop} {t : TypeId} {cs : Array Value} {d : TypeDesc} (hw : Region.wanted op (yielded ops a.tmps) = true) (ty : TypeId) (x : Operand) (ho : op.op = .load ty x)
    (q : Nat) (hx : a.eval x = .pointer (some ⟨q, 0, none⟩)) (hb : Blk w q t cs) (hu : Try.prog.underlying ty = some d) (hd : d.isRow = true) (hi : (Try.prog.info? ty).map (·.size) = some cs.size)
    (h : wpList Try.prog ops Q rest (a.put op.dst (.agg cs)) w) : wpList Try.prog ops Q (op :: rest) a w := by
  refine BigFrame.wpList_want hw fun K hK => wp_load_mid ty x ho q 0 hx cs.toList d hb.range hu hd (by simpa using hi) (hK _ _ ?_)
  simpa using h

set_option maxRecDepth 20000 in
set_option maxHeartbeats 8000000 in
theorem keptW_any (c : Cs) (n x k1 n1 k2 n2 : Int) (w : World) : Calls Try.prog 38 #[c.val, .int .i64 n, .int .i64 x, .agg #[.int .i64 k1, .int .i64 n1], .agg #[.int .i64 k2, .int .i64 n2], .func (.func 39) #[] #[]] w
    fun e w' => e = .returned (.int .i64 (keepF (c.sayW k2 n2) (c.sayW k1 n1) (hold n) x)) ∧ Below w.heap.size w w' := by
  have hac : ∀ k n : Int, ∀ w, Calls Try.prog 39 #[.agg c.cells, .agg #[.int .i64 k, .int .i64 n]] w fun e w' => e = .returned (.tuple #[.int .i64 (c.sayW k n).1, .bool (c.sayW k n).2]) ∧ Below w.heap.size w w' := fun k n w => across_any c k n w
  have hhi := hac k2 n2
  have hlo := hac k1 n1
  generalize c.sayW k2 n2 = hi at *
  generalize c.sayW k1 n1 = lo at *
  obtain ⟨hi, hib⟩ := hi
  obtain ⟨lo, lob⟩ := lo
  dsimp only at hhi hlo
  clear hac
  rw [c.val_eq]
  go_enter Try.func38, Try.ntmps38
  go_upto_region 1 with fail
  refine at_any (fun wx => Blk wx w.heap.size 29 c.cells ∧ Blk wx (w.heap.size + 1) 23 #[.int .i64 k1, .int .i64 n1] ∧ Blk wx (w.heap.size + 1 + 1) 23 #[.int .i64 k2, .int .i64 n2] ∧ Below w.heap.size w wx) ⟨((Blk.new _ _ _).alloc _).alloc _, (Blk.new_at (by simp)).alloc _, Blk.new_at (by simp), below_alloc (below_alloc (below_alloc (Below.refl _ _) _) _) _⟩ ?_
  rintro wx ⟨hbk, hbl, hbh, hb⟩
  have x1 : wx.cell? ⟨w.heap.size + 1 + 1, 0, none⟩ = some (.int .i64 k2) := hbh.cell 0
  have x2 : wx.cell? ⟨w.heap.size + 1 + 1, 1, none⟩ = some (.int .i64 n2) := hbh.cell 1
  have HBK := Lib.hid hbk
  have HBL := Lib.hid hbl
  have HB := Lib.hid hb
  clear hbk hb hbl hbh
  go_wp2_with fail
  refine (Hold_any _ _).mono ?_; rintro e w' ⟨rfl, rfl⟩
  go_upto_region 2 with fail
  refine wp_region_list ?_
  refine wpList_plain rfl fun K hK => BigFrame.wp_move (.tmp 5) rfl (hK _ _ ?_)
  refine wpList_load_whole rfl 29 (.tmp 6) rfl w.heap.size rfl HBK.out Try.underlying29 rfl (by kernel_rfl) ?_
  go_wp2_with fail
  refine (hhi _).mono ?_; rintro e w2 ⟨rfl, hb2⟩
  have HB2 := Lib.hid (below_then HB.out hb2)
  have HBK2 := Lib.hid (HBK.out.then_ hb2)
  have hbl2 := HBL.out.then_ hb2
  have y1 : w2.cell? ⟨w.heap.size + 1, 0, none⟩ = some (.int .i64 k1) := hbl2.cell 0
  have y2 : w2.cell? ⟨w.heap.size + 1, 1, none⟩ = some (.int .i64 n1) := hbl2.cell 1
  clear hb2 hbl2 x1 x2 hhi HBL HBK HB
  cases hib
  all_goals
    go_upto_region 5 with fail
    all_goals
      refine wp_region_list ?_
      refine wpList_plain rfl fun K hK => BigFrame.wp_move (.tmp 5) rfl (hK _ _ ?_)
      refine wpList_load_whole rfl 29 (.tmp 6) rfl w.heap.size rfl HBK2.out Try.underlying29 rfl (by kernel_rfl) ?_
      go_wp2_with fail
      all_goals
        refine (hlo _).mono ?_; rintro e w3 ⟨rfl, hb3⟩
        have HB3 := Lib.hid (below_then HB2.out hb3)
        clear hb3
        cases lob
        all_goals
          go_wp2_with fail
          all_goals
            go_ret
            exact ⟨ret_int (by unfold keepF; simp only [if_true, if_false, true_and, false_and, Bool.false_eq_true]; (repeat' split) <;> omega), HB3.out⟩

set_option maxRecDepth 20000 in
set_option maxHeartbeats 8000000 in
theorem keptH_any (c : Cs) (n x k1 n1 k2 n2 : Int) (w : World) : Calls Try.prog 38 #[c.val, .int .i64 n, .int .i64 x, .agg #[.int .i64 k1, .int .i64 n1], .agg #[.int .i64 k2, .int .i64 n2], .func (.func 40) #[] #[]] w
    fun e w' => e = .returned (.int .i64 (keepF (c.sayH k2 n2) (c.sayH k1 n1) (hold n) x)) ∧ Below w.heap.size w w' := by
  have hdo : ∀ k n : Int, ∀ w, Calls Try.prog 40 #[.agg c.cells, .agg #[.int .i64 k, .int .i64 n]] w fun e w' => e = .returned (.tuple #[.int .i64 (c.sayH k n).1, .bool (c.sayH k n).2]) ∧ Below w.heap.size w w' := fun k n w => downC_any c k n w
  have hhi := hdo k2 n2
  have hlo := hdo k1 n1
  generalize c.sayH k2 n2 = hi at *
  generalize c.sayH k1 n1 = lo at *
  obtain ⟨hi, hib⟩ := hi
  obtain ⟨lo, lob⟩ := lo
  dsimp only at hhi hlo
  clear hdo
  rw [c.val_eq]
  go_enter Try.func38, Try.ntmps38
  go_upto_region 1 with fail
  refine at_any (fun wx => Blk wx w.heap.size 29 c.cells ∧ Blk wx (w.heap.size + 1) 23 #[.int .i64 k1, .int .i64 n1] ∧ Blk wx (w.heap.size + 1 + 1) 23 #[.int .i64 k2, .int .i64 n2] ∧ Below w.heap.size w wx) ⟨((Blk.new _ _ _).alloc _).alloc _, (Blk.new_at (by simp)).alloc _, Blk.new_at (by simp), below_alloc (below_alloc (below_alloc (Below.refl _ _) _) _) _⟩ ?_
  rintro wx ⟨hbk, hbl, hbh, hb⟩
  have x1 : wx.cell? ⟨w.heap.size + 1 + 1, 0, none⟩ = some (.int .i64 k2) := hbh.cell 0
  have x2 : wx.cell? ⟨w.heap.size + 1 + 1, 1, none⟩ = some (.int .i64 n2) := hbh.cell 1
  have HBK := Lib.hid hbk
  have HBL := Lib.hid hbl
  have HB := Lib.hid hb
  clear hbk hb hbl hbh
  go_wp2_with fail
  refine (Hold_any _ _).mono ?_; rintro e w' ⟨rfl, rfl⟩
  go_upto_region 2 with fail
  refine wp_region_list ?_
  refine wpList_plain rfl fun K hK => BigFrame.wp_move (.tmp 5) rfl (hK _ _ ?_)
  refine wpList_load_whole rfl 29 (.tmp 6) rfl w.heap.size rfl HBK.out Try.underlying29 rfl (by kernel_rfl) ?_
  go_wp2_with fail
  refine (hhi _).mono ?_; rintro e w2 ⟨rfl, hb2⟩
  have HB2 := Lib.hid (below_then HB.out hb2)
  have HBK2 := Lib.hid (HBK.out.then_ hb2)
  have hbl2 := HBL.out.then_ hb2
  have y1 : w2.cell? ⟨w.heap.size + 1, 0, none⟩ = some (.int .i64 k1) := hbl2.cell 0
  have y2 : w2.cell? ⟨w.heap.size + 1, 1, none⟩ = some (.int .i64 n1) := hbl2.cell 1
  clear hb2 hbl2 x1 x2 hhi HBL HBK HB
  cases hib
  all_goals
    go_upto_region 5 with fail
    all_goals
      refine wp_region_list ?_
      refine wpList_plain rfl fun K hK => BigFrame.wp_move (.tmp 5) rfl (hK _ _ ?_)
      refine wpList_load_whole rfl 29 (.tmp 6) rfl w.heap.size rfl HBK2.out Try.underlying29 rfl (by kernel_rfl) ?_
      go_wp2_with fail
      all_goals
        refine (hlo _).mono ?_; rintro e w3 ⟨rfl, hb3⟩
        have HB3 := Lib.hid (below_then HB2.out hb3)
        clear hb3
        cases lob
        all_goals
          go_wp2_with fail
          all_goals
            go_ret
            exact ⟨ret_int (by unfold keepF; simp only [if_true, if_false, true_and, false_and, Bool.false_eq_true]; (repeat' split) <;> omega), HB3.out⟩

set_option maxRecDepth 20000 in
set_option maxHeartbeats 4000000 in
theorem KeepW_any (c : Cs) (n : Int) (w : World) : Calls Try.prog 19 #[c.val, .int .i64 n] w fun e w' => e = .returned (.int .i64 (c.keepW n)) ∧ Below w.heap.size w w' := by
  have haw : ∀ w, Calls Try.prog 15 #[.agg c.cells] w fun e w' => e = .returned (.tuple #[.int .i64 (c.pr 3 1), .int .i64 (c.pr 0 2)]) ∧ Below w.heap.size w w' := fun w => Around_any c w
  have hkp : ∀ x w, Calls Try.prog 38 #[.agg c.cells, .int .i64 n, .int .i64 x, .agg #[.int .i64 (c.n 6), .int .i64 (c.n 7)], .agg #[.int .i64 (c.n 10), .int .i64 (c.n 11)], .func (.func 39) #[] #[]] w
    fun e w' => e = .returned (.int .i64 (keepF (c.sayW (c.n 10) (c.n 11)) (c.sayW (c.n 6) (c.n 7)) (hold n) x)) ∧ Below w.heap.size w w' := fun x w => keptW_any c n x _ _ _ _ w
  have HE : Hid (c.keepW n = keepF (c.sayW (c.n 10) (c.n 11)) (c.sayW (c.n 6) (c.n 7)) (hold n) (c.pr 3 1)) := Lib.hid rfl
  generalize c.keepW n = res at *
  generalize c.pr 3 1 = ac at *
  generalize c.pr 0 2 = dn at *
  rw [c.val_eq]
  go_enter Try.func19, Try.ntmps19
  go_upto_region 1 with fail
  refine at_any (fun wx => Blk wx w.heap.size 29 c.cells ∧ Below w.heap.size w wx) ⟨Blk.new _ _ _, below_alloc (Below.refl _ _) _⟩ ?_
  rintro wx ⟨hbk, hb⟩
  have HBK := Lib.hid hbk
  have HB := Lib.hid hb
  clear hbk hb
  refine wp_region_list ?_
  refine wpList_load_whole rfl 29 (.tmp 2) rfl w.heap.size rfl HBK.out Try.underlying29 rfl (by kernel_rfl) ?_
  go_wp2_with fail
  refine (haw _).mono ?_; rintro e w2 ⟨rfl, hb2⟩
  have HBw2 := Lib.hid (below_then HB.out hb2)
  have HBKw2 := Lib.hid (HBK.out.then_ hb2)
  clear hb2 haw
  go_upto_region 2 with fail
  have x0 : w2.cell? ⟨w.heap.size, 6, none⟩ = some (.int .i64 (c.n 6)) := HBKw2.out.cell 6
  have x1 : w2.cell? ⟨w.heap.size, 7, none⟩ = some (.int .i64 (c.n 7)) := HBKw2.out.cell 7
  have x2 : w2.cell? ⟨w.heap.size, 10, none⟩ = some (.int .i64 (c.n 10)) := HBKw2.out.cell 10
  have x3 : w2.cell? ⟨w.heap.size, 11, none⟩ = some (.int .i64 (c.n 11)) := HBKw2.out.cell 11
  have xl := HBKw2.out.lt
  refine wp_region_list ?_
  refine wpList_load_whole rfl 29 (.tmp 2) rfl w.heap.size rfl HBKw2.out Try.underlying29 rfl (by kernel_rfl) ?_
  go_wp2_with fail
  refine (hkp _ _).mono ?_; rintro e w3 ⟨rfl, hb3⟩
  have HBw3 := Lib.hid (below_then HBw2.out hb3)
  clear hb3
  go_wp2_with fail
  go_ret
  exact ⟨ret_int (by rw [HE.out]), HBw3.out⟩

set_option maxRecDepth 20000 in
set_option maxHeartbeats 4000000 in
theorem KeepH_any (c : Cs) (n : Int) (w : World) : Calls Try.prog 20 #[c.val, .int .i64 n] w fun e w' => e = .returned (.int .i64 (c.keepH n)) ∧ Below w.heap.size w w' := by
  have haw : ∀ w, Calls Try.prog 15 #[.agg c.cells] w fun e w' => e = .returned (.tuple #[.int .i64 (c.pr 3 1), .int .i64 (c.pr 0 2)]) ∧ Below w.heap.size w w' := fun w => Around_any c w
  have hkp : ∀ x w, Calls Try.prog 38 #[.agg c.cells, .int .i64 n, .int .i64 x, .agg #[.int .i64 (c.n 8), .int .i64 (c.n 9)], .agg #[.int .i64 (c.n 12), .int .i64 (c.n 13)], .func (.func 40) #[] #[]] w
    fun e w' => e = .returned (.int .i64 (keepF (c.sayH (c.n 12) (c.n 13)) (c.sayH (c.n 8) (c.n 9)) (hold n) x)) ∧ Below w.heap.size w w' := fun x w => keptH_any c n x _ _ _ _ w
  have HE : Hid (c.keepH n = keepF (c.sayH (c.n 12) (c.n 13)) (c.sayH (c.n 8) (c.n 9)) (hold n) (c.pr 0 2)) := Lib.hid rfl
  generalize c.keepH n = res at *
  generalize c.pr 3 1 = ac at *
  generalize c.pr 0 2 = dn at *
  rw [c.val_eq]
  go_enter Try.func20, Try.ntmps20
  go_upto_region 1 with fail
  refine at_any (fun wx => Blk wx w.heap.size 29 c.cells ∧ Below w.heap.size w wx) ⟨Blk.new _ _ _, below_alloc (Below.refl _ _) _⟩ ?_
  rintro wx ⟨hbk, hb⟩
  have HBK := Lib.hid hbk
  have HB := Lib.hid hb
  clear hbk hb
  refine wp_region_list ?_
  refine wpList_load_whole rfl 29 (.tmp 2) rfl w.heap.size rfl HBK.out Try.underlying29 rfl (by kernel_rfl) ?_
  go_wp2_with fail
  refine (haw _).mono ?_; rintro e w2 ⟨rfl, hb2⟩
  have HBw2 := Lib.hid (below_then HB.out hb2)
  have HBKw2 := Lib.hid (HBK.out.then_ hb2)
  clear hb2 haw
  go_upto_region 2 with fail
  have x0 : w2.cell? ⟨w.heap.size, 8, none⟩ = some (.int .i64 (c.n 8)) := HBKw2.out.cell 8
  have x1 : w2.cell? ⟨w.heap.size, 9, none⟩ = some (.int .i64 (c.n 9)) := HBKw2.out.cell 9
  have x2 : w2.cell? ⟨w.heap.size, 12, none⟩ = some (.int .i64 (c.n 12)) := HBKw2.out.cell 12
  have x3 : w2.cell? ⟨w.heap.size, 13, none⟩ = some (.int .i64 (c.n 13)) := HBKw2.out.cell 13
  have xl := HBKw2.out.lt
  refine wp_region_list ?_
  refine wpList_load_whole rfl 29 (.tmp 2) rfl w.heap.size rfl HBKw2.out Try.underlying29 rfl (by kernel_rfl) ?_
  go_wp2_with fail
  refine (hkp _ _).mono ?_; rintro e w3 ⟨rfl, hb3⟩
  have HBw3 := Lib.hid (below_then HBw2.out hb3)
  clear hb3
  go_wp2_with fail
  go_ret
  exact ⟨ret_int (by rw [HE.out]), HBw3.out⟩

set_option maxRecDepth 20000 in
set_option maxHeartbeats 4000000 in
theorem Given_any (c : Cs) (w : World) : Calls Try.prog 21 #[c.val] w fun e w' => e = .returned (.tuple #[.int .i64 c.giv.1, .bool c.giv.2]) ∧ Below w.heap.size w w' := by
  have hdo : ∀ k n : Int, ∀ w, Calls Try.prog 40 #[.agg c.cells, .agg #[.int .i64 k, .int .i64 n]] w fun e w' => e = .returned (.tuple #[.int .i64 (c.sayH k n).1, .bool (c.sayH k n).2]) ∧ Below w.heap.size w w' := fun k n w => downC_any c k n w
  have hkh : ∀ a : Int, ∀ w, Calls Try.prog 20 #[.agg c.cells, .int .i64 a] w fun e w' => e = .returned (.int .i64 (c.keepH a)) ∧ Below w.heap.size w w' := fun a w => KeepH_any c a w
  have HE : Hid (c.giv = if (c.sayH (c.n 4) (c.n 5)).2 = true then (c.keepH (c.sayH (c.n 4) (c.n 5)).1, true) else (0, false)) := Lib.hid rfl
  have hdo := hdo (c.n 4) (c.n 5)
  generalize c.giv = res at *
  generalize c.sayH (c.n 4) (c.n 5) = sa at *
  obtain ⟨v, ok⟩ := sa
  dsimp only at hdo
  rw [c.val_eq]
  go_enter Try.func21, Try.ntmps21
  go_upto_region 1 with fail
  refine at_any (fun wx => Blk wx w.heap.size 29 c.cells ∧ Below w.heap.size w wx) ⟨Blk.new _ _ _, below_alloc (Below.refl _ _) _⟩ ?_
  rintro wx ⟨hbk, hb⟩
  have HBK := Lib.hid hbk
  have HB := Lib.hid hb
  clear hbk hb
  have x1 : wx.cell? ⟨w.heap.size, 4, none⟩ = some (.int .i64 (c.n 4)) := HBK.out.cell 4
  have x2 : wx.cell? ⟨w.heap.size, 5, none⟩ = some (.int .i64 (c.n 5)) := HBK.out.cell 5
  have xl := HBK.out.lt
  refine wp_region_list ?_
  refine wpList_load_whole rfl 29 (.tmp 1) rfl w.heap.size rfl HBK.out Try.underlying29 rfl (by kernel_rfl) ?_
  go_wp2_with fail
  refine (hdo _).mono ?_; rintro e w2 ⟨rfl, hb2⟩
  have HBw2 := Lib.hid (below_then HB.out hb2)
  have HBKw2 := Lib.hid (HBK.out.then_ hb2)
  clear hb2 hdo x1 x2 xl
  cases ok with
  | true =>
    go_upto_region 4 with fail
    refine wp_region_list ?_
    refine wpList_load_whole rfl 29 (.tmp 1) rfl w.heap.size rfl HBKw2.out Try.underlying29 rfl (by kernel_rfl) ?_
    go_wp2_with fail
    refine (hkh _ _).mono ?_; rintro e w3 ⟨rfl, hb3⟩
    have HBw3 := Lib.hid (below_then HBw2.out hb3)
    clear hb3
    go_wp2_with fail
    refine bodyPost_ret (v := .tuple #[.int .i64 (c.keepH v), .bool true]) (by simp [results, Try.results21, go_sem]) rfl ?_
    exact ⟨by rw [HE.out]; simp, HBw3.out⟩
  | false =>
    go_wp2_with fail
    refine bodyPost_ret (v := .tuple #[.int .i64 0, .bool false]) (by simp [results, Try.results21, go_sem]) rfl ?_
    exact ⟨by rw [HE.out]; simp, HBw2.out⟩

set_option maxRecDepth 20000 in
set_option maxHeartbeats 4000000 in
theorem High_any (c : Cs) (n m : Int) (w : World) : Calls Try.prog 30 #[c.val, .int .i64 n, .int .i64 m] w fun e w' => e = .returned (.int .i64 (c.hig n m)) ∧ Below w.heap.size w w' := by
  have hgi : ∀ w, Calls Try.prog 21 #[.agg c.cells] w fun e w' => e = .returned (.tuple #[.int .i64 c.giv.1, .bool c.giv.2]) ∧ Below w.heap.size w w' := fun w => Given_any c w
  have hra : ∀ w, Calls Try.prog 41 #[.agg c.cells] w fun e w' => e = .returned (.bool c.rat) ∧ Below w.heap.size w w' := fun w => rated_any c w
  have hta : ∀ a : Int, ∀ w, Calls Try.prog 46 #[.agg c.cells, .int .i64 a] w fun e w' => e = .returned (.int .i64 (c.tal a)) ∧ Below w.heap.size w w' := fun a w => tall_any c a w
  have hkh : ∀ a : Int, ∀ w, Calls Try.prog 20 #[.agg c.cells, .int .i64 a] w fun e w' => e = .returned (.int .i64 (c.keepH a)) ∧ Below w.heap.size w w' := fun a w => KeepH_any c a w
  have haw : ∀ w, Calls Try.prog 15 #[.agg c.cells] w fun e w' => e = .returned (.tuple #[.int .i64 (c.pr 3 1), .int .i64 (c.pr 0 2)]) ∧ Below w.heap.size w w' := fun w => Around_any c w
  have HE : Hid (c.hig n m = if c.giv.2 = true then c.giv.1 else if c.rat = true then c.keepH (c.tal n) else c.keepH (addH (max m 0) (c.pr 0 2))) := Lib.hid rfl
  generalize c.hig n m = res at *
  generalize c.giv = gi at *
  generalize c.rat = ra at *
  generalize c.pr 3 1 = ac at *
  generalize c.pr 0 2 = dn at *
  obtain ⟨g, ok⟩ := gi
  dsimp only at hgi
  rw [c.val_eq]
  go_enter Try.func30, Try.ntmps30
  go_upto_region 1 with fail
  refine at_any (fun wx => Blk wx w.heap.size 29 c.cells ∧ Below w.heap.size w wx) ⟨Blk.new _ _ _, below_alloc (Below.refl _ _) _⟩ ?_
  rintro wx ⟨hbk, hb⟩
  have HBK := Lib.hid hbk
  have HB := Lib.hid hb
  clear hbk hb
  refine wp_region_list ?_
  refine wpList_load_whole rfl 29 (.tmp 3) rfl w.heap.size rfl HBK.out Try.underlying29 rfl (by kernel_rfl) ?_
  go_wp2_with fail
  refine (hgi _).mono ?_; rintro e w2 ⟨rfl, hb2⟩
  have HBw2 := Lib.hid (below_then HB.out hb2)
  have HBKw2 := Lib.hid (HBK.out.then_ hb2)
  clear hb2 hgi
  cases ok with
  | true =>
    go_wp2_with fail
    go_ret
    exact ⟨ret_int (by rw [HE.out]; simp), HBw2.out⟩
  | false =>
    go_upto_region 4 with fail
    refine wp_region_list ?_
    refine wpList_load_whole rfl 29 (.tmp 3) rfl w.heap.size rfl HBKw2.out Try.underlying29 rfl (by kernel_rfl) ?_
    go_wp2_with fail
    refine (hra _).mono ?_; rintro e w3 ⟨rfl, hb2⟩
    have HBw3 := Lib.hid (below_then HBw2.out hb2)
    have HBKw3 := Lib.hid (HBKw2.out.then_ hb2)
    clear hb2 hra
    cases ra with
    | true =>
      go_upto_region 5 with fail
      refine wp_region_ext (by kernel_rfl) (by kernel_rfl) ?_
      repeat (first
        | (refine wpQuiet_load_whole (by simp [Region.wanted]) 29 (.tmp 3) rfl w.heap.size rfl HBKw3.out Try.underlying29 rfl (by kernel_rfl) ?_
           simp only [Act.put, List.setIfInBounds_toArray, List.set_cons_zero, List.set_cons_succ])
        | (go_big_quiet_step ((first | (go_at_call 46; exact quiet_ext (hta _ _)) | (go_at_call 20; exact quiet_ext (hkh _ _))))))
      refine wpQuiet_nil ?_
      intro wq hwq
      have hbq := (grown_rules hwq).2.2.2
      have HBq := Lib.hid (below_then HBw3.out hbq)
      clear hwq hbq
      go_wp2_with fail
      go_ret
      exact ⟨ret_int (by rw [HE.out]; simp), HBq.out⟩
    | false =>
      go_upto_region 6 with fail
      refine wp_region_list ?_
      refine wpList_load_whole rfl 29 (.tmp 3) rfl w.heap.size rfl HBKw3.out Try.underlying29 rfl (by kernel_rfl) ?_
      go_wp2_with fail
      refine (haw _).mono ?_; rintro e w4 ⟨rfl, hb2⟩
      have HBw4 := Lib.hid (below_then HBw3.out hb2)
      have HBKw4 := Lib.hid (HBKw3.out.then_ hb2)
      clear hb2 haw
      go_upto_region 7 with fail
      by_cases hm0 : m < 0
      · have HM : Hid (max m 0 = 0) := Lib.hid (by omega)
        refine wp_region_ext (by kernel_rfl) (by kernel_rfl) ?_
        repeat (first
          | (refine wpQuiet_load_whole (by simp [Region.wanted]) 29 (.tmp 3) rfl w.heap.size rfl HBKw4.out Try.underlying29 rfl (by kernel_rfl) ?_
             simp only [Act.put, List.setIfInBounds_toArray, List.set_cons_zero, List.set_cons_succ])
          | (go_big_quiet_step ((first | (go_at_call 47; exact quiet_ext_same (Add_any _ _ _)) | (go_at_call 20; exact quiet_ext (hkh _ _))))))
        refine wpQuiet_nil ?_
        intro wq hwq
        have hbq := (grown_rules hwq).2.2.2
        have HBq := Lib.hid (below_then HBw4.out hbq)
        clear hwq hbq
        go_wp2_with fail
        go_ret
        exact ⟨ret_int (by rw [HE.out, HM.out]; simp), HBq.out⟩
      · have HM : Hid (max m 0 = m) := Lib.hid (by omega)
        refine wp_region_ext (by kernel_rfl) (by kernel_rfl) ?_
        repeat (first
          | (refine wpQuiet_load_whole (by simp [Region.wanted]) 29 (.tmp 3) rfl w.heap.size rfl HBKw4.out Try.underlying29 rfl (by kernel_rfl) ?_
             simp only [Act.put, List.setIfInBounds_toArray, List.set_cons_zero, List.set_cons_succ])
          | (go_big_quiet_step ((first | (go_at_call 47; exact quiet_ext_same (Add_any _ _ _)) | (go_at_call 20; exact quiet_ext (hkh _ _))))))
        refine wpQuiet_nil ?_
        intro wq hwq
        have hbq := (grown_rules hwq).2.2.2
        have HBq := Lib.hid (below_then HBw4.out hbq)
        clear hwq hbq
        go_wp2_with fail
        go_ret
        exact ⟨ret_int (by rw [HE.out, HM.out]; simp), HBq.out⟩

/-- The width of a box in a line of its own. -/
def Cs.wide (c : Cs) : Int := if (c.sayW (c.n 2) (c.n 3)).2 = true then c.keepW (c.sayW (c.n 2) (c.n 3)).1 else if (c.giv.2 && c.rat) = true then c.keepW (c.wid c.giv.1) else c.keepW c.fre
set_option maxRecDepth 20000 in
set_option maxHeartbeats 4000000 in
theorem Wide_any (c : Cs) (w : World) : Calls Try.prog 25 #[c.val] w fun e w' => e = .returned (.int .i64 c.wide) ∧ Below w.heap.size w w' := by
  have hac : ∀ k n : Int, ∀ w, Calls Try.prog 39 #[.agg c.cells, .agg #[.int .i64 k, .int .i64 n]] w fun e w' => e = .returned (.tuple #[.int .i64 (c.sayW k n).1, .bool (c.sayW k n).2]) ∧ Below w.heap.size w w' := fun k n w => across_any c k n w
  have hkw : ∀ a : Int, ∀ w, Calls Try.prog 19 #[.agg c.cells, .int .i64 a] w fun e w' => e = .returned (.int .i64 (c.keepW a)) ∧ Below w.heap.size w w' := fun a w => KeepW_any c a w
  have hgi : ∀ w, Calls Try.prog 21 #[.agg c.cells] w fun e w' => e = .returned (.tuple #[.int .i64 c.giv.1, .bool c.giv.2]) ∧ Below w.heap.size w w' := fun w => Given_any c w
  have hra : ∀ w, Calls Try.prog 41 #[.agg c.cells] w fun e w' => e = .returned (.bool c.rat) ∧ Below w.heap.size w w' := fun w => rated_any c w
  have hwi : ∀ a : Int, ∀ w, Calls Try.prog 42 #[.agg c.cells, .int .i64 a] w fun e w' => e = .returned (.int .i64 (c.wid a)) ∧ Below w.heap.size w w' := fun a w => wide_any c a w
  have hfr : ∀ w, Calls Try.prog 43 #[.agg c.cells] w fun e w' => e = .returned (.int .i64 c.fre) ∧ Below w.heap.size w w' := fun w => free_any c w
  have HE : Hid (c.wide = if (c.sayW (c.n 2) (c.n 3)).2 = true then c.keepW (c.sayW (c.n 2) (c.n 3)).1 else if (c.giv.2 && c.rat) = true then c.keepW (c.wid c.giv.1) else c.keepW c.fre) := Lib.hid rfl
  have hac := hac (c.n 2) (c.n 3)
  generalize c.wide = res at *
  generalize c.sayW (c.n 2) (c.n 3) = sa at *
  generalize c.giv = gi at *
  generalize c.rat = ra at *
  generalize c.fre = fr at *
  obtain ⟨v, ok⟩ := sa
  obtain ⟨g, okg⟩ := gi
  dsimp only at hac hgi
  rw [c.val_eq]
  go_enter Try.func25, Try.ntmps25
  go_upto_region 1 with fail
  refine at_any (fun wx => Blk wx w.heap.size 29 c.cells ∧ Below w.heap.size w wx) ⟨Blk.new _ _ _, below_alloc (Below.refl _ _) _⟩ ?_
  rintro wx ⟨hbk, hb⟩
  have HBK := Lib.hid hbk
  have HB := Lib.hid hb
  clear hbk hb
  have x1 : wx.cell? ⟨w.heap.size, 2, none⟩ = some (.int .i64 (c.n 2)) := HBK.out.cell 2
  have x2 : wx.cell? ⟨w.heap.size, 3, none⟩ = some (.int .i64 (c.n 3)) := HBK.out.cell 3
  have xl := HBK.out.lt
  refine wp_region_list ?_
  refine wpList_load_whole rfl 29 (.tmp 1) rfl w.heap.size rfl HBK.out Try.underlying29 rfl (by kernel_rfl) ?_
  go_wp2_with fail
  refine (hac _).mono ?_; rintro e w2 ⟨rfl, hb2⟩
  have HBw2 := Lib.hid (below_then HB.out hb2)
  have HBKw2 := Lib.hid (HBK.out.then_ hb2)
  clear hb2 hac x1 x2 xl
  cases ok with
  | true =>
    go_upto_region 3 with fail
    refine wp_region_list ?_
    refine wpList_load_whole rfl 29 (.tmp 1) rfl w.heap.size rfl HBKw2.out Try.underlying29 rfl (by kernel_rfl) ?_
    go_wp2_with fail
    refine (hkw _ _).mono ?_; rintro e w3 ⟨rfl, hb2⟩
    have HBw3 := Lib.hid (below_then HBw2.out hb2)
    have HBKw3 := Lib.hid (HBKw2.out.then_ hb2)
    clear hb2
    go_wp2_with fail
    go_ret
    exact ⟨ret_int (by rw [HE.out]; simp), HBw3.out⟩
  | false =>
    go_upto_region 4 with fail
    refine wp_region_list ?_
    refine wpList_load_whole rfl 29 (.tmp 1) rfl w.heap.size rfl HBKw2.out Try.underlying29 rfl (by kernel_rfl) ?_
    go_wp2_with fail
    refine (hgi _).mono ?_; rintro e w3 ⟨rfl, hb2⟩
    have HBw3 := Lib.hid (below_then HBw2.out hb2)
    have HBKw3 := Lib.hid (HBKw2.out.then_ hb2)
    clear hb2 hgi
    cases okg with
    | true =>
      go_upto_region 5 with fail
      refine wp_region_list ?_
      refine wpList_plain rfl fun K hK => BigFrame.wp_move (.tmp 6) rfl (hK _ _ ?_)
      refine wpList_plain rfl fun K hK => BigFrame.wp_move (.tmp 24) rfl (hK _ _ ?_)
      refine wpList_load_want (by rfl) 29 (.tmp 1) rfl w.heap.size rfl HBKw3.out Try.underlying29 rfl (by kernel_rfl) ?_
      go_wp2_with fail
      refine (hra _).mono ?_; rintro e w4 ⟨rfl, hb2⟩
      have HBw4 := Lib.hid (below_then HBw3.out hb2)
      have HBKw4 := Lib.hid (HBKw3.out.then_ hb2)
      clear hb2 hra
      cases ra with
      | true =>
        go_upto_region 6 with fail
        refine wp_region_ext (by kernel_rfl) (by kernel_rfl) ?_
        repeat (first
          | (refine wpQuiet_load_whole (by simp [Region.wanted]) 29 (.tmp 1) rfl w.heap.size rfl HBKw4.out Try.underlying29 rfl (by kernel_rfl) ?_
             simp only [Act.put, List.setIfInBounds_toArray, List.set_cons_zero, List.set_cons_succ])
          | (go_big_quiet_step ((first | (go_at_call 42; exact quiet_ext (hwi _ _)) | (go_at_call 19; exact quiet_ext (hkw _ _))))))
        refine wpQuiet_nil ?_
        intro wq hwq
        have hbq := (grown_rules hwq).2.2.2
        have HBq := Lib.hid (below_then HBw4.out hbq)
        clear hwq hbq
        go_wp2_with fail
        go_ret
        exact ⟨ret_int (by rw [HE.out]; simp), HBq.out⟩
      | false =>
        go_upto_region 7 with fail
        refine wp_region_ext (by kernel_rfl) (by kernel_rfl) ?_
        repeat (first
          | (refine wpQuiet_load_whole (by simp [Region.wanted]) 29 (.tmp 1) rfl w.heap.size rfl HBKw4.out Try.underlying29 rfl (by kernel_rfl) ?_
             simp only [Act.put, List.setIfInBounds_toArray, List.set_cons_zero, List.set_cons_succ])
          | (go_big_quiet_step ((first | (go_at_call 43; exact quiet_ext (hfr _)) | (go_at_call 19; exact quiet_ext (hkw _ _))))))
        refine wpQuiet_nil ?_
        intro wq hwq
        have hbq := (grown_rules hwq).2.2.2
        have HBq := Lib.hid (below_then HBw4.out hbq)
        clear hwq hbq
        go_wp2_with fail
        go_ret
        exact ⟨ret_int (by rw [HE.out]; simp), HBq.out⟩
    | false =>
      go_upto_region 7 with fail
      refine wp_region_ext (by kernel_rfl) (by kernel_rfl) ?_
      repeat (first
        | (refine wpQuiet_load_whole (by simp [Region.wanted]) 29 (.tmp 1) rfl w.heap.size rfl HBKw3.out Try.underlying29 rfl (by kernel_rfl) ?_
           simp only [Act.put, List.setIfInBounds_toArray, List.set_cons_zero, List.set_cons_succ])
        | (go_big_quiet_step ((first | (go_at_call 43; exact quiet_ext (hfr _)) | (go_at_call 19; exact quiet_ext (hkw _ _))))))
      refine wpQuiet_nil ?_
      intro wq hwq
      have hbq := (grown_rules hwq).2.2.2
      have HBq := Lib.hid (below_then HBw3.out hbq)
      clear hwq hbq
      go_wp2_with fail
      go_ret
      exact ⟨ret_int (by rw [HE.out]; simp), HBq.out⟩
end Go.Proofs.Ytdddlnemlpgnlaa
