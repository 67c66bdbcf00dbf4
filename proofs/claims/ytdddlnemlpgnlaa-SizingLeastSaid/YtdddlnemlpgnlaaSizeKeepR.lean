/- Sizing: the reference's KeepW, KeepH. -/
import Derived.Test.YtdddlnemlpgnlaaSizeKeep
namespace Go.Proofs.Ytdddlnemlpgnlaa
open Go.RowKit
set_option linter.unusedSimpArgs false
set_option linter.unusedVariables false
attribute [local go_sem] cell?_ext frozen?_ext lt_size_ext

set_option maxRecDepth 20000 in
set_option maxHeartbeats 8000000 in
theorem RKeepW_any (c : Cs) (n : Int) (w : World) : Calls Try.prog 23 #[c.val, .int .i64 n] w fun e w' => e = .returned (.int .i64 (c.keepW n)) ∧ Below w.heap.size w w' := by
  have hac : ∀ w, Calls Try.prog 16 #[.agg #[.int .i64 (c.n 0), .bool c.b, .int .i64 (c.n 2), .int .i64 (c.n 3), .int .i64 (c.n 4), .int .i64 (c.n 5), .int .i64 (c.n 6), .int .i64 (c.n 7), .int .i64 (c.n 8), .int .i64 (c.n 9), .int .i64 (c.n 10), .int .i64 (c.n 11), .int .i64 (c.n 12), .int .i64 (c.n 13), .int .i64 (c.n 14), .int .i64 (c.n 15), .int .i64 (c.n 16), .int .i64 (c.n 17), .int .i64 (c.n 18), .int .i64 (c.n 19), .int .i64 (c.n 20), .int .i64 (c.n 21), .int .i64 (c.n 22), .int .i64 (c.n 23), .int .i64 (c.n 24), .int .i64 (c.n 25), .int .i64 (c.n 26), .int .i64 (c.n 27), .int .i64 (c.n 28), .int .i64 (c.n 29), .int .i64 (c.n 30), .int .i64 (c.n 31), .int .i64 (c.n 32), .int .i64 (c.n 33), .int .i64 (c.n 34), .int .i64 (c.n 35), .int .i64 (c.n 36), .int .i64 (c.n 37), .int .i64 (c.n 38), .int .i64 (c.n 39), .int .i64 (c.n 40), .int .i64 (c.n 41), .int .i64 (c.n 42), .int .i64 (c.n 43), .int .i64 (c.n 44), .int .i64 (c.n 45), .int .i64 (c.n 46), .int .i64 (c.n 47), .int .i64 (c.n 48), .int .i64 (c.n 49), .int .i64 (c.n 50), .int .i64 (c.n 51), c.s, .int .i64 (c.n 53), .int .i64 (c.n 54), .int .i64 (c.n 55), .int .i64 (c.n 56), .int .i64 (c.n 57), .int .i64 (c.n 58)]] w fun e w' => e = .returned (.int .i64 (c.pr 3 1)) ∧ Below w.heap.size w w' := fun w => Across_any c w
  have hhi : ∀ w, Calls Try.prog 27 #[.agg #[.int .i64 (c.n 0), .bool c.b, .int .i64 (c.n 2), .int .i64 (c.n 3), .int .i64 (c.n 4), .int .i64 (c.n 5), .int .i64 (c.n 6), .int .i64 (c.n 7), .int .i64 (c.n 8), .int .i64 (c.n 9), .int .i64 (c.n 10), .int .i64 (c.n 11), .int .i64 (c.n 12), .int .i64 (c.n 13), .int .i64 (c.n 14), .int .i64 (c.n 15), .int .i64 (c.n 16), .int .i64 (c.n 17), .int .i64 (c.n 18), .int .i64 (c.n 19), .int .i64 (c.n 20), .int .i64 (c.n 21), .int .i64 (c.n 22), .int .i64 (c.n 23), .int .i64 (c.n 24), .int .i64 (c.n 25), .int .i64 (c.n 26), .int .i64 (c.n 27), .int .i64 (c.n 28), .int .i64 (c.n 29), .int .i64 (c.n 30), .int .i64 (c.n 31), .int .i64 (c.n 32), .int .i64 (c.n 33), .int .i64 (c.n 34), .int .i64 (c.n 35), .int .i64 (c.n 36), .int .i64 (c.n 37), .int .i64 (c.n 38), .int .i64 (c.n 39), .int .i64 (c.n 40), .int .i64 (c.n 41), .int .i64 (c.n 42), .int .i64 (c.n 43), .int .i64 (c.n 44), .int .i64 (c.n 45), .int .i64 (c.n 46), .int .i64 (c.n 47), .int .i64 (c.n 48), .int .i64 (c.n 49), .int .i64 (c.n 50), .int .i64 (c.n 51), c.s, .int .i64 (c.n 53), .int .i64 (c.n 54), .int .i64 (c.n 55), .int .i64 (c.n 56), .int .i64 (c.n 57), .int .i64 (c.n 58)], .agg #[.int .i64 (c.n 10), .int .i64 (c.n 11)]] w fun e w' => e = .returned (.tuple #[.int .i64 (c.sayW (c.n 10) (c.n 11)).1, .bool (c.sayW (c.n 10) (c.n 11)).2]) ∧ Below w.heap.size w w' := fun w => RSaysW_any c _ _ w
  have hlo : ∀ w, Calls Try.prog 27 #[.agg #[.int .i64 (c.n 0), .bool c.b, .int .i64 (c.n 2), .int .i64 (c.n 3), .int .i64 (c.n 4), .int .i64 (c.n 5), .int .i64 (c.n 6), .int .i64 (c.n 7), .int .i64 (c.n 8), .int .i64 (c.n 9), .int .i64 (c.n 10), .int .i64 (c.n 11), .int .i64 (c.n 12), .int .i64 (c.n 13), .int .i64 (c.n 14), .int .i64 (c.n 15), .int .i64 (c.n 16), .int .i64 (c.n 17), .int .i64 (c.n 18), .int .i64 (c.n 19), .int .i64 (c.n 20), .int .i64 (c.n 21), .int .i64 (c.n 22), .int .i64 (c.n 23), .int .i64 (c.n 24), .int .i64 (c.n 25), .int .i64 (c.n 26), .int .i64 (c.n 27), .int .i64 (c.n 28), .int .i64 (c.n 29), .int .i64 (c.n 30), .int .i64 (c.n 31), .int .i64 (c.n 32), .int .i64 (c.n 33), .int .i64 (c.n 34), .int .i64 (c.n 35), .int .i64 (c.n 36), .int .i64 (c.n 37), .int .i64 (c.n 38), .int .i64 (c.n 39), .int .i64 (c.n 40), .int .i64 (c.n 41), .int .i64 (c.n 42), .int .i64 (c.n 43), .int .i64 (c.n 44), .int .i64 (c.n 45), .int .i64 (c.n 46), .int .i64 (c.n 47), .int .i64 (c.n 48), .int .i64 (c.n 49), .int .i64 (c.n 50), .int .i64 (c.n 51), c.s, .int .i64 (c.n 53), .int .i64 (c.n 54), .int .i64 (c.n 55), .int .i64 (c.n 56), .int .i64 (c.n 57), .int .i64 (c.n 58)], .agg #[.int .i64 (c.n 6), .int .i64 (c.n 7)]] w fun e w' => e = .returned (.tuple #[.int .i64 (c.sayW (c.n 6) (c.n 7)).1, .bool (c.sayW (c.n 6) (c.n 7)).2]) ∧ Below w.heap.size w w' := fun w => RSaysW_any c _ _ w
  have HE : Hid (c.keepW n = keepF (c.sayW (c.n 10) (c.n 11)) (c.sayW (c.n 6) (c.n 7)) (hold n) (c.pr 3 1)) := Lib.hid rfl
  generalize c.keepW n = res at *
  generalize c.sayW (c.n 10) (c.n 11) = hi at *
  generalize c.sayW (c.n 6) (c.n 7) = lo at *
  generalize c.pr 3 1 = ac at *
  obtain ⟨hi, hib⟩ := hi
  obtain ⟨lo, lob⟩ := lo
  dsimp only at hhi hlo
  have HAC := Lib.hid hac
  have HLO := Lib.hid hlo
  clear hac hlo
  unfold Cs.val
  go_enter Try.func23, Try.ntmps23
  go_upto_region 1 with fail
  refine at_any (fun wx => Blk wx w.heap.size 36 #[.int .i64 (c.n 0), .bool c.b, .int .i64 (c.n 2), .int .i64 (c.n 3), .int .i64 (c.n 4), .int .i64 (c.n 5), .int .i64 (c.n 6), .int .i64 (c.n 7), .int .i64 (c.n 8), .int .i64 (c.n 9), .int .i64 (c.n 10), .int .i64 (c.n 11), .int .i64 (c.n 12), .int .i64 (c.n 13), .int .i64 (c.n 14), .int .i64 (c.n 15), .int .i64 (c.n 16), .int .i64 (c.n 17), .int .i64 (c.n 18), .int .i64 (c.n 19), .int .i64 (c.n 20), .int .i64 (c.n 21), .int .i64 (c.n 22), .int .i64 (c.n 23), .int .i64 (c.n 24), .int .i64 (c.n 25), .int .i64 (c.n 26), .int .i64 (c.n 27), .int .i64 (c.n 28), .int .i64 (c.n 29), .int .i64 (c.n 30), .int .i64 (c.n 31), .int .i64 (c.n 32), .int .i64 (c.n 33), .int .i64 (c.n 34), .int .i64 (c.n 35), .int .i64 (c.n 36), .int .i64 (c.n 37), .int .i64 (c.n 38), .int .i64 (c.n 39), .int .i64 (c.n 40), .int .i64 (c.n 41), .int .i64 (c.n 42), .int .i64 (c.n 43), .int .i64 (c.n 44), .int .i64 (c.n 45), .int .i64 (c.n 46), .int .i64 (c.n 47), .int .i64 (c.n 48), .int .i64 (c.n 49), .int .i64 (c.n 50), .int .i64 (c.n 51), c.s, .int .i64 (c.n 53), .int .i64 (c.n 54), .int .i64 (c.n 55), .int .i64 (c.n 56), .int .i64 (c.n 57), .int .i64 (c.n 58)] ∧ Below w.heap.size w wx) ⟨Blk.new _ _ _, below_alloc (Below.refl _ _) _⟩ ?_
  rintro wx ⟨hbk, hb⟩
  have x1 : wx.cell? ⟨w.heap.size, 10, none⟩ = some (.int .i64 (c.n 10)) := hbk.cell 10
  have x2 : wx.cell? ⟨w.heap.size, 11, none⟩ = some (.int .i64 (c.n 11)) := hbk.cell 11
  have xl := hbk.lt
  have HBK := Lib.hid hbk
  have HB := Lib.hid hb
  clear hbk hb
  go_wp2_with fail
  refine (RHold_any _ _).mono ?_; rintro e w' ⟨rfl, rfl⟩
  go_upto_region 2 with fail
  refine wp_region_list ?_
  refine wpList_load_whole rfl 36 (.tmp 2) rfl w.heap.size rfl HBK.out Try.underlying36 rfl (by kernel_rfl) ?_
  go_wp2_with fail
  refine (hhi _).mono ?_; rintro e w2 ⟨rfl, hb2⟩
  have HB2 := Lib.hid hb2
  have HBK2 := Lib.hid (HBK.out.of_kept (hb2.block _ HBK.out.lt))
  clear hb2 x1 x2 xl hhi
  cases hib with
  | true =>
    by_cases hlt : hi < hold n
    · have d1 : decide (hi < hold n) = true := decide_eq_true hlt
      have HLT : Hid (hi < hold n) := Lib.hid hlt
      clear hlt
      have hbk2 := HBK2.out
      have y1 : w2.cell? ⟨w.heap.size, 6, none⟩ = some (.int .i64 (c.n 6)) := hbk2.cell 6
      have y2 : w2.cell? ⟨w.heap.size, 7, none⟩ = some (.int .i64 (c.n 7)) := hbk2.cell 7
      have yl := hbk2.lt
      clear hbk2
      go_upto_region 5 with fail
      refine wp_region_list ?_
      refine wpList_load_whole rfl 36 (.tmp 2) rfl w.heap.size rfl HBK2.out Try.underlying36 rfl (by kernel_rfl) ?_
      go_wp2_with fail
      refine (HLO.out _).mono ?_; rintro e w3 ⟨rfl, hb3⟩
      have HB3 := Lib.hid hb3
      have HBK3 := Lib.hid (HBK2.out.of_kept (hb3.block _ HBK2.out.lt))
      clear hb3 y1 y2 yl
      cases lob with
      | true =>
        go_wp2_with fail
        refine (RUp_any _ _ _).mono ?_; rintro e w' ⟨rfl, rfl⟩
        go_upto_region 8 with fail
        refine wp_region_list ?_
        refine wpList_plain rfl fun K hK => BigFrame.wp_move (.tmp 5) rfl (hK _ _ ?_)
        refine wpList_load_whole rfl 36 (.tmp 2) rfl w.heap.size rfl HBK3.out Try.underlying36 rfl (by kernel_rfl) ?_
        go_wp2_with fail
        refine (HAC.out _).mono ?_; rintro e w4 ⟨rfl, hb4⟩
        have HB4 := Lib.hid hb4
        clear hb4
        go_wp2_with fail
        refine (RUp_any _ _ _).mono ?_; rintro e w' ⟨rfl, rfl⟩
        go_wp2_with fail
        go_ret
        exact ⟨ret_int (by rw [HE.out]; unfold keepF; dsimp only; (try have hlt' := HLT.out); (try simp only [if_true, if_false, true_and, false_and, Bool.false_eq_true]) <;> ((repeat' split) <;> omega)), below_then (below_then (below_then HB.out HB2.out) HB3.out) HB4.out⟩
      | false =>
        go_upto_region 8 with fail
        refine wp_region_list ?_
        refine wpList_plain rfl fun K hK => BigFrame.wp_move (.tmp 5) rfl (hK _ _ ?_)
        refine wpList_load_whole rfl 36 (.tmp 2) rfl w.heap.size rfl HBK3.out Try.underlying36 rfl (by kernel_rfl) ?_
        go_wp2_with fail
        refine (HAC.out _).mono ?_; rintro e w4 ⟨rfl, hb4⟩
        have HB4 := Lib.hid hb4
        clear hb4
        go_wp2_with fail
        refine (RUp_any _ _ _).mono ?_; rintro e w' ⟨rfl, rfl⟩
        go_wp2_with fail
        go_ret
        exact ⟨ret_int (by rw [HE.out]; unfold keepF; dsimp only; (try have hlt' := HLT.out); (try simp only [if_true, if_false, true_and, false_and, Bool.false_eq_true]) <;> ((repeat' split) <;> omega)), below_then (below_then (below_then HB.out HB2.out) HB3.out) HB4.out⟩
    · have d1 : decide (hi < hold n) = false := decide_eq_false hlt
      have HLT : Hid (¬ hi < hold n) := Lib.hid hlt
      clear hlt
      have hbk2 := HBK2.out
      have y1 : w2.cell? ⟨w.heap.size, 6, none⟩ = some (.int .i64 (c.n 6)) := hbk2.cell 6
      have y2 : w2.cell? ⟨w.heap.size, 7, none⟩ = some (.int .i64 (c.n 7)) := hbk2.cell 7
      have yl := hbk2.lt
      clear hbk2
      go_upto_region 5 with fail
      refine wp_region_list ?_
      refine wpList_load_whole rfl 36 (.tmp 2) rfl w.heap.size rfl HBK2.out Try.underlying36 rfl (by kernel_rfl) ?_
      go_wp2_with fail
      refine (HLO.out _).mono ?_; rintro e w3 ⟨rfl, hb3⟩
      have HB3 := Lib.hid hb3
      have HBK3 := Lib.hid (HBK2.out.of_kept (hb3.block _ HBK2.out.lt))
      clear hb3 y1 y2 yl
      cases lob with
      | true =>
        go_wp2_with fail
        refine (RUp_any _ _ _).mono ?_; rintro e w' ⟨rfl, rfl⟩
        go_upto_region 8 with fail
        refine wp_region_list ?_
        refine wpList_plain rfl fun K hK => BigFrame.wp_move (.tmp 5) rfl (hK _ _ ?_)
        refine wpList_load_whole rfl 36 (.tmp 2) rfl w.heap.size rfl HBK3.out Try.underlying36 rfl (by kernel_rfl) ?_
        go_wp2_with fail
        refine (HAC.out _).mono ?_; rintro e w4 ⟨rfl, hb4⟩
        have HB4 := Lib.hid hb4
        clear hb4
        go_wp2_with fail
        refine (RUp_any _ _ _).mono ?_; rintro e w' ⟨rfl, rfl⟩
        go_wp2_with fail
        go_ret
        exact ⟨ret_int (by rw [HE.out]; unfold keepF; dsimp only; (try have hlt' := HLT.out); (try simp only [if_true, if_false, true_and, false_and, Bool.false_eq_true]) <;> ((repeat' split) <;> omega)), below_then (below_then (below_then HB.out HB2.out) HB3.out) HB4.out⟩
      | false =>
        go_upto_region 8 with fail
        refine wp_region_list ?_
        refine wpList_plain rfl fun K hK => BigFrame.wp_move (.tmp 5) rfl (hK _ _ ?_)
        refine wpList_load_whole rfl 36 (.tmp 2) rfl w.heap.size rfl HBK3.out Try.underlying36 rfl (by kernel_rfl) ?_
        go_wp2_with fail
        refine (HAC.out _).mono ?_; rintro e w4 ⟨rfl, hb4⟩
        have HB4 := Lib.hid hb4
        clear hb4
        go_wp2_with fail
        refine (RUp_any _ _ _).mono ?_; rintro e w' ⟨rfl, rfl⟩
        go_wp2_with fail
        go_ret
        exact ⟨ret_int (by rw [HE.out]; unfold keepF; dsimp only; (try have hlt' := HLT.out); (try simp only [if_true, if_false, true_and, false_and, Bool.false_eq_true]) <;> ((repeat' split) <;> omega)), below_then (below_then (below_then HB.out HB2.out) HB3.out) HB4.out⟩
  | false =>
    have hbk2 := HBK2.out
    have y1 : w2.cell? ⟨w.heap.size, 6, none⟩ = some (.int .i64 (c.n 6)) := hbk2.cell 6
    have y2 : w2.cell? ⟨w.heap.size, 7, none⟩ = some (.int .i64 (c.n 7)) := hbk2.cell 7
    have yl := hbk2.lt
    clear hbk2
    go_upto_region 5 with fail
    refine wp_region_list ?_
    refine wpList_load_whole rfl 36 (.tmp 2) rfl w.heap.size rfl HBK2.out Try.underlying36 rfl (by kernel_rfl) ?_
    go_wp2_with fail
    refine (HLO.out _).mono ?_; rintro e w3 ⟨rfl, hb3⟩
    have HB3 := Lib.hid hb3
    have HBK3 := Lib.hid (HBK2.out.of_kept (hb3.block _ HBK2.out.lt))
    clear hb3 y1 y2 yl
    cases lob with
    | true =>
      go_wp2_with fail
      refine (RUp_any _ _ _).mono ?_; rintro e w' ⟨rfl, rfl⟩
      go_upto_region 8 with fail
      refine wp_region_list ?_
      refine wpList_plain rfl fun K hK => BigFrame.wp_move (.tmp 5) rfl (hK _ _ ?_)
      refine wpList_load_whole rfl 36 (.tmp 2) rfl w.heap.size rfl HBK3.out Try.underlying36 rfl (by kernel_rfl) ?_
      go_wp2_with fail
      refine (HAC.out _).mono ?_; rintro e w4 ⟨rfl, hb4⟩
      have HB4 := Lib.hid hb4
      clear hb4
      go_wp2_with fail
      refine (RUp_any _ _ _).mono ?_; rintro e w' ⟨rfl, rfl⟩
      go_wp2_with fail
      go_ret
      exact ⟨ret_int (by rw [HE.out]; unfold keepF; dsimp only; (try have hlt' := HLT.out); (try simp only [if_true, if_false, true_and, false_and, Bool.false_eq_true]) <;> ((repeat' split) <;> omega)), below_then (below_then (below_then HB.out HB2.out) HB3.out) HB4.out⟩
    | false =>
      go_upto_region 8 with fail
      refine wp_region_list ?_
      refine wpList_plain rfl fun K hK => BigFrame.wp_move (.tmp 5) rfl (hK _ _ ?_)
      refine wpList_load_whole rfl 36 (.tmp 2) rfl w.heap.size rfl HBK3.out Try.underlying36 rfl (by kernel_rfl) ?_
      go_wp2_with fail
      refine (HAC.out _).mono ?_; rintro e w4 ⟨rfl, hb4⟩
      have HB4 := Lib.hid hb4
      clear hb4
      go_wp2_with fail
      refine (RUp_any _ _ _).mono ?_; rintro e w' ⟨rfl, rfl⟩
      go_wp2_with fail
      go_ret
      exact ⟨ret_int (by rw [HE.out]; unfold keepF; dsimp only; (try have hlt' := HLT.out); (try simp only [if_true, if_false, true_and, false_and, Bool.false_eq_true]) <;> ((repeat' split) <;> omega)), below_then (below_then (below_then HB.out HB2.out) HB3.out) HB4.out⟩

set_option maxRecDepth 20000 in
set_option maxHeartbeats 8000000 in
theorem RKeepH_any (c : Cs) (n : Int) (w : World) : Calls Try.prog 24 #[c.val, .int .i64 n] w fun e w' => e = .returned (.int .i64 (c.keepH n)) ∧ Below w.heap.size w w' := by
  have hac : ∀ w, Calls Try.prog 17 #[.agg #[.int .i64 (c.n 0), .bool c.b, .int .i64 (c.n 2), .int .i64 (c.n 3), .int .i64 (c.n 4), .int .i64 (c.n 5), .int .i64 (c.n 6), .int .i64 (c.n 7), .int .i64 (c.n 8), .int .i64 (c.n 9), .int .i64 (c.n 10), .int .i64 (c.n 11), .int .i64 (c.n 12), .int .i64 (c.n 13), .int .i64 (c.n 14), .int .i64 (c.n 15), .int .i64 (c.n 16), .int .i64 (c.n 17), .int .i64 (c.n 18), .int .i64 (c.n 19), .int .i64 (c.n 20), .int .i64 (c.n 21), .int .i64 (c.n 22), .int .i64 (c.n 23), .int .i64 (c.n 24), .int .i64 (c.n 25), .int .i64 (c.n 26), .int .i64 (c.n 27), .int .i64 (c.n 28), .int .i64 (c.n 29), .int .i64 (c.n 30), .int .i64 (c.n 31), .int .i64 (c.n 32), .int .i64 (c.n 33), .int .i64 (c.n 34), .int .i64 (c.n 35), .int .i64 (c.n 36), .int .i64 (c.n 37), .int .i64 (c.n 38), .int .i64 (c.n 39), .int .i64 (c.n 40), .int .i64 (c.n 41), .int .i64 (c.n 42), .int .i64 (c.n 43), .int .i64 (c.n 44), .int .i64 (c.n 45), .int .i64 (c.n 46), .int .i64 (c.n 47), .int .i64 (c.n 48), .int .i64 (c.n 49), .int .i64 (c.n 50), .int .i64 (c.n 51), c.s, .int .i64 (c.n 53), .int .i64 (c.n 54), .int .i64 (c.n 55), .int .i64 (c.n 56), .int .i64 (c.n 57), .int .i64 (c.n 58)]] w fun e w' => e = .returned (.int .i64 (c.pr 0 2)) ∧ Below w.heap.size w w' := fun w => Down_any c w
  have hhi : ∀ w, Calls Try.prog 29 #[.agg #[.int .i64 (c.n 0), .bool c.b, .int .i64 (c.n 2), .int .i64 (c.n 3), .int .i64 (c.n 4), .int .i64 (c.n 5), .int .i64 (c.n 6), .int .i64 (c.n 7), .int .i64 (c.n 8), .int .i64 (c.n 9), .int .i64 (c.n 10), .int .i64 (c.n 11), .int .i64 (c.n 12), .int .i64 (c.n 13), .int .i64 (c.n 14), .int .i64 (c.n 15), .int .i64 (c.n 16), .int .i64 (c.n 17), .int .i64 (c.n 18), .int .i64 (c.n 19), .int .i64 (c.n 20), .int .i64 (c.n 21), .int .i64 (c.n 22), .int .i64 (c.n 23), .int .i64 (c.n 24), .int .i64 (c.n 25), .int .i64 (c.n 26), .int .i64 (c.n 27), .int .i64 (c.n 28), .int .i64 (c.n 29), .int .i64 (c.n 30), .int .i64 (c.n 31), .int .i64 (c.n 32), .int .i64 (c.n 33), .int .i64 (c.n 34), .int .i64 (c.n 35), .int .i64 (c.n 36), .int .i64 (c.n 37), .int .i64 (c.n 38), .int .i64 (c.n 39), .int .i64 (c.n 40), .int .i64 (c.n 41), .int .i64 (c.n 42), .int .i64 (c.n 43), .int .i64 (c.n 44), .int .i64 (c.n 45), .int .i64 (c.n 46), .int .i64 (c.n 47), .int .i64 (c.n 48), .int .i64 (c.n 49), .int .i64 (c.n 50), .int .i64 (c.n 51), c.s, .int .i64 (c.n 53), .int .i64 (c.n 54), .int .i64 (c.n 55), .int .i64 (c.n 56), .int .i64 (c.n 57), .int .i64 (c.n 58)], .agg #[.int .i64 (c.n 12), .int .i64 (c.n 13)]] w fun e w' => e = .returned (.tuple #[.int .i64 (c.sayH (c.n 12) (c.n 13)).1, .bool (c.sayH (c.n 12) (c.n 13)).2]) ∧ Below w.heap.size w w' := fun w => RSaysH_any c _ _ w
  have hlo : ∀ w, Calls Try.prog 29 #[.agg #[.int .i64 (c.n 0), .bool c.b, .int .i64 (c.n 2), .int .i64 (c.n 3), .int .i64 (c.n 4), .int .i64 (c.n 5), .int .i64 (c.n 6), .int .i64 (c.n 7), .int .i64 (c.n 8), .int .i64 (c.n 9), .int .i64 (c.n 10), .int .i64 (c.n 11), .int .i64 (c.n 12), .int .i64 (c.n 13), .int .i64 (c.n 14), .int .i64 (c.n 15), .int .i64 (c.n 16), .int .i64 (c.n 17), .int .i64 (c.n 18), .int .i64 (c.n 19), .int .i64 (c.n 20), .int .i64 (c.n 21), .int .i64 (c.n 22), .int .i64 (c.n 23), .int .i64 (c.n 24), .int .i64 (c.n 25), .int .i64 (c.n 26), .int .i64 (c.n 27), .int .i64 (c.n 28), .int .i64 (c.n 29), .int .i64 (c.n 30), .int .i64 (c.n 31), .int .i64 (c.n 32), .int .i64 (c.n 33), .int .i64 (c.n 34), .int .i64 (c.n 35), .int .i64 (c.n 36), .int .i64 (c.n 37), .int .i64 (c.n 38), .int .i64 (c.n 39), .int .i64 (c.n 40), .int .i64 (c.n 41), .int .i64 (c.n 42), .int .i64 (c.n 43), .int .i64 (c.n 44), .int .i64 (c.n 45), .int .i64 (c.n 46), .int .i64 (c.n 47), .int .i64 (c.n 48), .int .i64 (c.n 49), .int .i64 (c.n 50), .int .i64 (c.n 51), c.s, .int .i64 (c.n 53), .int .i64 (c.n 54), .int .i64 (c.n 55), .int .i64 (c.n 56), .int .i64 (c.n 57), .int .i64 (c.n 58)], .agg #[.int .i64 (c.n 8), .int .i64 (c.n 9)]] w fun e w' => e = .returned (.tuple #[.int .i64 (c.sayH (c.n 8) (c.n 9)).1, .bool (c.sayH (c.n 8) (c.n 9)).2]) ∧ Below w.heap.size w w' := fun w => RSaysH_any c _ _ w
  have HE : Hid (c.keepH n = keepF (c.sayH (c.n 12) (c.n 13)) (c.sayH (c.n 8) (c.n 9)) (hold n) (c.pr 0 2)) := Lib.hid rfl
  generalize c.keepH n = res at *
  generalize c.sayH (c.n 12) (c.n 13) = hi at *
  generalize c.sayH (c.n 8) (c.n 9) = lo at *
  generalize c.pr 0 2 = ac at *
  obtain ⟨hi, hib⟩ := hi
  obtain ⟨lo, lob⟩ := lo
  dsimp only at hhi hlo
  have HAC := Lib.hid hac
  have HLO := Lib.hid hlo
  clear hac hlo
  unfold Cs.val
  go_enter Try.func24, Try.ntmps24
  go_upto_region 1 with fail
  refine at_any (fun wx => Blk wx w.heap.size 36 #[.int .i64 (c.n 0), .bool c.b, .int .i64 (c.n 2), .int .i64 (c.n 3), .int .i64 (c.n 4), .int .i64 (c.n 5), .int .i64 (c.n 6), .int .i64 (c.n 7), .int .i64 (c.n 8), .int .i64 (c.n 9), .int .i64 (c.n 10), .int .i64 (c.n 11), .int .i64 (c.n 12), .int .i64 (c.n 13), .int .i64 (c.n 14), .int .i64 (c.n 15), .int .i64 (c.n 16), .int .i64 (c.n 17), .int .i64 (c.n 18), .int .i64 (c.n 19), .int .i64 (c.n 20), .int .i64 (c.n 21), .int .i64 (c.n 22), .int .i64 (c.n 23), .int .i64 (c.n 24), .int .i64 (c.n 25), .int .i64 (c.n 26), .int .i64 (c.n 27), .int .i64 (c.n 28), .int .i64 (c.n 29), .int .i64 (c.n 30), .int .i64 (c.n 31), .int .i64 (c.n 32), .int .i64 (c.n 33), .int .i64 (c.n 34), .int .i64 (c.n 35), .int .i64 (c.n 36), .int .i64 (c.n 37), .int .i64 (c.n 38), .int .i64 (c.n 39), .int .i64 (c.n 40), .int .i64 (c.n 41), .int .i64 (c.n 42), .int .i64 (c.n 43), .int .i64 (c.n 44), .int .i64 (c.n 45), .int .i64 (c.n 46), .int .i64 (c.n 47), .int .i64 (c.n 48), .int .i64 (c.n 49), .int .i64 (c.n 50), .int .i64 (c.n 51), c.s, .int .i64 (c.n 53), .int .i64 (c.n 54), .int .i64 (c.n 55), .int .i64 (c.n 56), .int .i64 (c.n 57), .int .i64 (c.n 58)] ∧ Below w.heap.size w wx) ⟨Blk.new _ _ _, below_alloc (Below.refl _ _) _⟩ ?_
  rintro wx ⟨hbk, hb⟩
  have x1 : wx.cell? ⟨w.heap.size, 12, none⟩ = some (.int .i64 (c.n 12)) := hbk.cell 12
  have x2 : wx.cell? ⟨w.heap.size, 13, none⟩ = some (.int .i64 (c.n 13)) := hbk.cell 13
  have xl := hbk.lt
  have HBK := Lib.hid hbk
  have HB := Lib.hid hb
  clear hbk hb
  go_wp2_with fail
  refine (RHold_any _ _).mono ?_; rintro e w' ⟨rfl, rfl⟩
  go_upto_region 2 with fail
  refine wp_region_list ?_
  refine wpList_load_whole rfl 36 (.tmp 2) rfl w.heap.size rfl HBK.out Try.underlying36 rfl (by kernel_rfl) ?_
  go_wp2_with fail
  refine (hhi _).mono ?_; rintro e w2 ⟨rfl, hb2⟩
  have HB2 := Lib.hid hb2
  have HBK2 := Lib.hid (HBK.out.of_kept (hb2.block _ HBK.out.lt))
  clear hb2 x1 x2 xl hhi
  cases hib with
  | true =>
    by_cases hlt : hi < hold n
    · have d1 : decide (hi < hold n) = true := decide_eq_true hlt
      have HLT : Hid (hi < hold n) := Lib.hid hlt
      clear hlt
      have hbk2 := HBK2.out
      have y1 : w2.cell? ⟨w.heap.size, 8, none⟩ = some (.int .i64 (c.n 8)) := hbk2.cell 8
      have y2 : w2.cell? ⟨w.heap.size, 9, none⟩ = some (.int .i64 (c.n 9)) := hbk2.cell 9
      have yl := hbk2.lt
      clear hbk2
      go_upto_region 5 with fail
      refine wp_region_list ?_
      refine wpList_load_whole rfl 36 (.tmp 2) rfl w.heap.size rfl HBK2.out Try.underlying36 rfl (by kernel_rfl) ?_
      go_wp2_with fail
      refine (HLO.out _).mono ?_; rintro e w3 ⟨rfl, hb3⟩
      have HB3 := Lib.hid hb3
      have HBK3 := Lib.hid (HBK2.out.of_kept (hb3.block _ HBK2.out.lt))
      clear hb3 y1 y2 yl
      cases lob with
      | true =>
        go_wp2_with fail
        refine (RUp_any _ _ _).mono ?_; rintro e w' ⟨rfl, rfl⟩
        go_upto_region 8 with fail
        refine wp_region_list ?_
        refine wpList_plain rfl fun K hK => BigFrame.wp_move (.tmp 5) rfl (hK _ _ ?_)
        refine wpList_load_whole rfl 36 (.tmp 2) rfl w.heap.size rfl HBK3.out Try.underlying36 rfl (by kernel_rfl) ?_
        go_wp2_with fail
        refine (HAC.out _).mono ?_; rintro e w4 ⟨rfl, hb4⟩
        have HB4 := Lib.hid hb4
        clear hb4
        go_wp2_with fail
        refine (RUp_any _ _ _).mono ?_; rintro e w' ⟨rfl, rfl⟩
        go_wp2_with fail
        go_ret
        exact ⟨ret_int (by rw [HE.out]; unfold keepF; dsimp only; (try have hlt' := HLT.out); (try simp only [if_true, if_false, true_and, false_and, Bool.false_eq_true]) <;> ((repeat' split) <;> omega)), below_then (below_then (below_then HB.out HB2.out) HB3.out) HB4.out⟩
      | false =>
        go_upto_region 8 with fail
        refine wp_region_list ?_
        refine wpList_plain rfl fun K hK => BigFrame.wp_move (.tmp 5) rfl (hK _ _ ?_)
        refine wpList_load_whole rfl 36 (.tmp 2) rfl w.heap.size rfl HBK3.out Try.underlying36 rfl (by kernel_rfl) ?_
        go_wp2_with fail
        refine (HAC.out _).mono ?_; rintro e w4 ⟨rfl, hb4⟩
        have HB4 := Lib.hid hb4
        clear hb4
        go_wp2_with fail
        refine (RUp_any _ _ _).mono ?_; rintro e w' ⟨rfl, rfl⟩
        go_wp2_with fail
        go_ret
        exact ⟨ret_int (by rw [HE.out]; unfold keepF; dsimp only; (try have hlt' := HLT.out); (try simp only [if_true, if_false, true_and, false_and, Bool.false_eq_true]) <;> ((repeat' split) <;> omega)), below_then (below_then (below_then HB.out HB2.out) HB3.out) HB4.out⟩
    · have d1 : decide (hi < hold n) = false := decide_eq_false hlt
      have HLT : Hid (¬ hi < hold n) := Lib.hid hlt
      clear hlt
      have hbk2 := HBK2.out
      have y1 : w2.cell? ⟨w.heap.size, 8, none⟩ = some (.int .i64 (c.n 8)) := hbk2.cell 8
      have y2 : w2.cell? ⟨w.heap.size, 9, none⟩ = some (.int .i64 (c.n 9)) := hbk2.cell 9
      have yl := hbk2.lt
      clear hbk2
      go_upto_region 5 with fail
      refine wp_region_list ?_
      refine wpList_load_whole rfl 36 (.tmp 2) rfl w.heap.size rfl HBK2.out Try.underlying36 rfl (by kernel_rfl) ?_
      go_wp2_with fail
      refine (HLO.out _).mono ?_; rintro e w3 ⟨rfl, hb3⟩
      have HB3 := Lib.hid hb3
      have HBK3 := Lib.hid (HBK2.out.of_kept (hb3.block _ HBK2.out.lt))
      clear hb3 y1 y2 yl
      cases lob with
      | true =>
        go_wp2_with fail
        refine (RUp_any _ _ _).mono ?_; rintro e w' ⟨rfl, rfl⟩
        go_upto_region 8 with fail
        refine wp_region_list ?_
        refine wpList_plain rfl fun K hK => BigFrame.wp_move (.tmp 5) rfl (hK _ _ ?_)
        refine wpList_load_whole rfl 36 (.tmp 2) rfl w.heap.size rfl HBK3.out Try.underlying36 rfl (by kernel_rfl) ?_
        go_wp2_with fail
        refine (HAC.out _).mono ?_; rintro e w4 ⟨rfl, hb4⟩
        have HB4 := Lib.hid hb4
        clear hb4
        go_wp2_with fail
        refine (RUp_any _ _ _).mono ?_; rintro e w' ⟨rfl, rfl⟩
        go_wp2_with fail
        go_ret
        exact ⟨ret_int (by rw [HE.out]; unfold keepF; dsimp only; (try have hlt' := HLT.out); (try simp only [if_true, if_false, true_and, false_and, Bool.false_eq_true]) <;> ((repeat' split) <;> omega)), below_then (below_then (below_then HB.out HB2.out) HB3.out) HB4.out⟩
      | false =>
        go_upto_region 8 with fail
        refine wp_region_list ?_
        refine wpList_plain rfl fun K hK => BigFrame.wp_move (.tmp 5) rfl (hK _ _ ?_)
        refine wpList_load_whole rfl 36 (.tmp 2) rfl w.heap.size rfl HBK3.out Try.underlying36 rfl (by kernel_rfl) ?_
        go_wp2_with fail
        refine (HAC.out _).mono ?_; rintro e w4 ⟨rfl, hb4⟩
        have HB4 := Lib.hid hb4
        clear hb4
        go_wp2_with fail
        refine (RUp_any _ _ _).mono ?_; rintro e w' ⟨rfl, rfl⟩
        go_wp2_with fail
        go_ret
        exact ⟨ret_int (by rw [HE.out]; unfold keepF; dsimp only; (try have hlt' := HLT.out); (try simp only [if_true, if_false, true_and, false_and, Bool.false_eq_true]) <;> ((repeat' split) <;> omega)), below_then (below_then (below_then HB.out HB2.out) HB3.out) HB4.out⟩
  | false =>
    have hbk2 := HBK2.out
    have y1 : w2.cell? ⟨w.heap.size, 8, none⟩ = some (.int .i64 (c.n 8)) := hbk2.cell 8
    have y2 : w2.cell? ⟨w.heap.size, 9, none⟩ = some (.int .i64 (c.n 9)) := hbk2.cell 9
    have yl := hbk2.lt
    clear hbk2
    go_upto_region 5 with fail
    refine wp_region_list ?_
    refine wpList_load_whole rfl 36 (.tmp 2) rfl w.heap.size rfl HBK2.out Try.underlying36 rfl (by kernel_rfl) ?_
    go_wp2_with fail
    refine (HLO.out _).mono ?_; rintro e w3 ⟨rfl, hb3⟩
    have HB3 := Lib.hid hb3
    have HBK3 := Lib.hid (HBK2.out.of_kept (hb3.block _ HBK2.out.lt))
    clear hb3 y1 y2 yl
    cases lob with
    | true =>
      go_wp2_with fail
      refine (RUp_any _ _ _).mono ?_; rintro e w' ⟨rfl, rfl⟩
      go_upto_region 8 with fail
      refine wp_region_list ?_
      refine wpList_plain rfl fun K hK => BigFrame.wp_move (.tmp 5) rfl (hK _ _ ?_)
      refine wpList_load_whole rfl 36 (.tmp 2) rfl w.heap.size rfl HBK3.out Try.underlying36 rfl (by kernel_rfl) ?_
      go_wp2_with fail
      refine (HAC.out _).mono ?_; rintro e w4 ⟨rfl, hb4⟩
      have HB4 := Lib.hid hb4
      clear hb4
      go_wp2_with fail
      refine (RUp_any _ _ _).mono ?_; rintro e w' ⟨rfl, rfl⟩
      go_wp2_with fail
      go_ret
      exact ⟨ret_int (by rw [HE.out]; unfold keepF; dsimp only; (try have hlt' := HLT.out); (try simp only [if_true, if_false, true_and, false_and, Bool.false_eq_true]) <;> ((repeat' split) <;> omega)), below_then (below_then (below_then HB.out HB2.out) HB3.out) HB4.out⟩
    | false =>
      go_upto_region 8 with fail
      refine wp_region_list ?_
      refine wpList_plain rfl fun K hK => BigFrame.wp_move (.tmp 5) rfl (hK _ _ ?_)
      refine wpList_load_whole rfl 36 (.tmp 2) rfl w.heap.size rfl HBK3.out Try.underlying36 rfl (by kernel_rfl) ?_
      go_wp2_with fail
      refine (HAC.out _).mono ?_; rintro e w4 ⟨rfl, hb4⟩
      have HB4 := Lib.hid hb4
      clear hb4
      go_wp2_with fail
      refine (RUp_any _ _ _).mono ?_; rintro e w' ⟨rfl, rfl⟩
      go_wp2_with fail
      go_ret
      exact ⟨ret_int (by rw [HE.out]; unfold keepF; dsimp only; (try have hlt' := HLT.out); (try simp only [if_true, if_false, true_and, false_and, Bool.false_eq_true]) <;> ((repeat' split) <;> omega)), below_then (below_then (below_then HB.out HB2.out) HB3.out) HB4.out⟩

end Go.Proofs.Ytdddlnemlpgnlaa
