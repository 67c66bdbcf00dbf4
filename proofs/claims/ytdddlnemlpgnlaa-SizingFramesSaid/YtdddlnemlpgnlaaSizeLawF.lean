/- Sizing: the walk of Frames. -/
import Derived.Test.YtdddlnemlpgnlaaSizeLawC
namespace Go.Proofs.Ytdddlnemlpgnlaa
open Go.RowKit
set_option linter.unusedSimpArgs false
set_option linter.unusedVariables false
attribute [local go_sem] cell?_ext frozen?_ext lt_size_ext

set_option maxRecDepth 20000 in
set_option maxHeartbeats 8000000 in
theorem Frames_walk (c : Cs) (hs : c.s.oneCell' = true) (w : World) : Calls Try.prog 3 #[c.val] w fun e w' => e = .returned (.bool true) ∧ Below w.heap.size w w' := by
  have hfr : ∀ w, Calls Try.prog 9 #[.agg c.cells] w fun e w' => e = .returned (.agg #[.int .i64 (c.mar 0), .int .i64 (c.mar 1), .int .i64 (c.mar 2), .int .i64 (c.mar 3), .bool (decide (c.n 14 = 0)), .bool (decide (c.n 16 = 0)), .bool (decide (c.n 18 = 0)), .bool (decide (c.n 20 = 0)), .int .i64 (c.pad 0), .int .i64 (c.pad 1), .int .i64 (c.pad 2), .int .i64 (c.pad 3), .int .i64 (c.edg 0), .int .i64 (c.edg 1), .int .i64 (c.edg 2), .int .i64 (c.edg 3)]) ∧ Below w.heap.size w w' := fun w => Of_any c w
  have hof : ∀ w, Calls Try.prog 11 #[.agg c.cells] w fun e w' => e = .returned (.agg c.cells) ∧ Below w.heap.size w w' := fun w => of_any c hs w
  have haw : ∀ w, Calls Try.prog 15 #[.agg c.cells] w fun e w' => e = .returned (.tuple #[.int .i64 (c.pr 3 1), .int .i64 (c.pr 0 2)]) ∧ Below w.heap.size w w' := fun w => Around_any c w
  have rac : ∀ w, Calls Try.prog 16 #[.agg c.cells] w fun e w' => e = .returned (.int .i64 (c.pr 3 1)) ∧ Below w.heap.size w w' := fun w => Across_any c w
  have rdn : ∀ w, Calls Try.prog 17 #[.agg c.cells] w fun e w' => e = .returned (.int .i64 (c.pr 0 2)) ∧ Below w.heap.size w w' := fun w => Down_any c w
  have hkn := known_any
  rw [c.val_eq]
  go_enter Try.func3, Try.ntmps3
  go_upto_region 1 with fail
  refine at_any (fun wx => Blk wx w.heap.size 29 c.cells ∧ Below w.heap.size w wx) ⟨Blk.new _ _ _, below_alloc (Below.refl _ _) _⟩ ?_
  rintro wx ⟨hbk, hb⟩
  have HBK := Lib.hid hbk
  have HB := Lib.hid hb
  clear hbk hb
  have hma : ∀ (k : Nat), k < 4 → ∀ w, Calls Try.prog 10 #[.agg c.cells, .int .i64 k] w fun e w' => e = .returned (.int .i64 (c.mar k)) ∧ Below w.heap.size w w' := fun k hk w => RMargin_any c k hk w
  go_upto_region 2 with (first
    | (refine wpList_load_want (by kernel_rfl) 29 (.tmp 1) rfl w.heap.size rfl HBK.out Try.underlying29 rfl (by kernel_rfl) ?_; simp only [Act.put, List.setIfInBounds_toArray, List.set_cons_zero, List.set_cons_succ])
    | (go_at_call 9; refine (hfr _).mono ?_; rintro e wn ⟨rfl, hb2⟩; have HBK := Lib.hid (HBK.out.then_ hb2); have HB := Lib.hid (below_then HB.out hb2); clear hb2))
  have hle : w.heap.size ≤ wn.heap.size := HB.out.size
  go_upto_region 3 with fail
  go_loopw [4] (fun v4 wr => ∃ k : Nat, k ≤ 4 ∧ v4 = .int .i64 k ∧ Blk wr w.heap.size 29 c.cells ∧ Blk wr wn.heap.size 32 c.frame ∧ Below w.heap.size w wr) (fun v4 _ => 4 - (intOf v4).toNat)
  case atStart => exact ⟨0, by omega, rfl, HBK.out.alloc _, Blk.new _ _ _, below_alloc HB.out _⟩
  case round =>
    clear HBK HB hfr
    obtain ⟨k, hk, rfl, hbk, hf, hb⟩ := hrel
    have HBK := Lib.hid hbk
    have HF := Lib.hid hf
    have HB := Lib.hid hb
    clear hbk hf hb
    have h4 : k = 4 ∨ k < 4 := by omega
    rcases h4 with rfl | h4
    · clear HF hma
      go_wp2_with (first
        | (refine wpList_load_want (by kernel_rfl) 29 (.tmp 1) rfl w.heap.size rfl HBK.out Try.underlying29 rfl (by kernel_rfl) ?_; simp only [Act.put, List.setIfInBounds_toArray, List.set_cons_zero, List.set_cons_succ])
        | (go_at_call 15; refine (haw _).mono ?_; rintro e wn ⟨rfl, hb2⟩; have HBK := Lib.hid (HBK.out.then_ hb2); have HB := Lib.hid (below_then HB.out hb2); clear hb2)
        | (go_at_call 11; refine (hof _).mono ?_; rintro e wn ⟨rfl, hb2⟩; have HBK := Lib.hid (HBK.out.then_ hb2); have HB := Lib.hid (below_then HB.out hb2); clear hb2)
        | (go_at_call 16; refine (rac _).mono ?_; rintro e wn ⟨rfl, hb2⟩; have HBK := Lib.hid (HBK.out.then_ hb2); have HB := Lib.hid (below_then HB.out hb2); clear hb2)
        | (go_at_call 17; refine (rdn _).mono ?_; rintro e wn ⟨rfl, hb2⟩; have HBK := Lib.hid (HBK.out.then_ hb2); have HB := Lib.hid (below_then HB.out hb2); clear hb2)
        | (go_at_call 18; refine (hkn _).mono ?_; rintro e wn ⟨rfl, hb2⟩; have HBK := Lib.hid (HBK.out.then_ hb2); have HB := Lib.hid (below_then HB.out hb2); clear hb2))
      go_ret
      exact ⟨rfl, HB.out⟩
    · rcases (show k = 0 ∨ k = 1 ∨ k = 2 ∨ k = 3 by omega) with rfl | rfl | rfl | rfl
      ·   have x14 : wr.cell? ⟨w.heap.size, 14, none⟩ = some (.int .i64 (c.n 14)) := HBK.out.cell 14
          have x22 : wr.cell? ⟨w.heap.size, 22, none⟩ = some (.int .i64 (c.n 22)) := HBK.out.cell 22
          have x23 : wr.cell? ⟨w.heap.size, 23, none⟩ = some (.int .i64 (c.n 23)) := HBK.out.cell 23
          have x30 : wr.cell? ⟨w.heap.size, 30, none⟩ = some (.int .i64 (c.n 30)) := HBK.out.cell 30
          have x55 : wr.cell? ⟨w.heap.size, 55, none⟩ = some (.int .i64 (c.n 55)) := HBK.out.cell 55
          have y0 : wr.cell? ⟨wn.heap.size, 0, none⟩ = some (.int .i64 (c.mar 0)) := HF.out.cell 0
          have y1 : wr.cell? ⟨wn.heap.size, 4, none⟩ = some (.bool (c.n 14 == 0)) := HF.out.cell 4
          have y2 : wr.cell? ⟨wn.heap.size, 8, none⟩ = some (.int .i64 (max (sideF (c.n 22) (c.n 23) (c.n 55)) 0)) := HF.out.cell 8
          have y3 : wr.cell? ⟨wn.heap.size, 12, none⟩ = some (.int .i64 (max (hold (c.n 30)) 0)) := HF.out.cell 12
          have xl := HBK.out.lt
          have yl := HF.out.lt
          have hmk : ∀ w, Calls Try.prog 10 #[.agg c.cells, .int .i64 0] w fun e w' => e = .returned (.int .i64 (c.mar 0)) ∧ Below w.heap.size w w' := hma 0 (by omega)
          have hsd := fun w => RSide_any (c.n 22) (c.n 23) (c.n 55) w
          generalize sideF (c.n 22) (c.n 23) (c.n 55) = sd at *
          generalize c.mar 0 = mk at *
          clear hma
          go_upto_region 5 with fail
          refine wp_region_ext (by kernel_rfl) (by kernel_rfl) ?_
          repeat (first
            | (refine wpQuiet_load_whole (by first | rfl | simp [Region.wanted]) 29 (.tmp 1) rfl w.heap.size rfl HBK.out Try.underlying29 rfl (by kernel_rfl) ?_
               simp only [Act.put, List.setIfInBounds_toArray, List.set_cons_zero, List.set_cons_succ])
            | (go_big_quiet_step ((first | (go_at_call 11; exact quiet_ext (hof _)) | (go_at_call 10; exact quiet_ext (hmk _)) | (go_at_call 13; exact quiet_ext (hsd _)) | (go_at_call 12; exact quiet_ext_same (RUp_any _ _ _)) | (go_at_call 14; exact quiet_ext_same (RHold_any _ _))))))
          refine wpQuiet_nil ?_
          intro wq hwq
          have hbq := (grown_rules hwq).2.2.2
          have HBK := Lib.hid (HBK.out.then_ hbq)
          have HF := Lib.hid (HF.out.then_ hbq)
          have HB := Lib.hid (below_then HB.out hbq)
          clear hwq hbq
          go_wp2_with fail
          go_roundw
          case rel => exact ⟨1, by omega, by go_num, HBK.out, HF.out, HB.out⟩
          case measure => (simp [intOf]; try omega)
      ·   have x16 : wr.cell? ⟨w.heap.size, 16, none⟩ = some (.int .i64 (c.n 16)) := HBK.out.cell 16
          have x24 : wr.cell? ⟨w.heap.size, 24, none⟩ = some (.int .i64 (c.n 24)) := HBK.out.cell 24
          have x25 : wr.cell? ⟨w.heap.size, 25, none⟩ = some (.int .i64 (c.n 25)) := HBK.out.cell 25
          have x31 : wr.cell? ⟨w.heap.size, 31, none⟩ = some (.int .i64 (c.n 31)) := HBK.out.cell 31
          have x55 : wr.cell? ⟨w.heap.size, 55, none⟩ = some (.int .i64 (c.n 55)) := HBK.out.cell 55
          have y0 : wr.cell? ⟨wn.heap.size, 1, none⟩ = some (.int .i64 (c.mar 1)) := HF.out.cell 1
          have y1 : wr.cell? ⟨wn.heap.size, 5, none⟩ = some (.bool (c.n 16 == 0)) := HF.out.cell 5
          have y2 : wr.cell? ⟨wn.heap.size, 9, none⟩ = some (.int .i64 (max (sideF (c.n 24) (c.n 25) (c.n 55)) 0)) := HF.out.cell 9
          have y3 : wr.cell? ⟨wn.heap.size, 13, none⟩ = some (.int .i64 (max (hold (c.n 31)) 0)) := HF.out.cell 13
          have xl := HBK.out.lt
          have yl := HF.out.lt
          have hmk : ∀ w, Calls Try.prog 10 #[.agg c.cells, .int .i64 1] w fun e w' => e = .returned (.int .i64 (c.mar 1)) ∧ Below w.heap.size w w' := hma 1 (by omega)
          have hsd := fun w => RSide_any (c.n 24) (c.n 25) (c.n 55) w
          generalize sideF (c.n 24) (c.n 25) (c.n 55) = sd at *
          generalize c.mar 1 = mk at *
          clear hma
          go_upto_region 5 with fail
          refine wp_region_ext (by kernel_rfl) (by kernel_rfl) ?_
          repeat (first
            | (refine wpQuiet_load_whole (by first | rfl | simp [Region.wanted]) 29 (.tmp 1) rfl w.heap.size rfl HBK.out Try.underlying29 rfl (by kernel_rfl) ?_
               simp only [Act.put, List.setIfInBounds_toArray, List.set_cons_zero, List.set_cons_succ])
            | (go_big_quiet_step ((first | (go_at_call 11; exact quiet_ext (hof _)) | (go_at_call 10; exact quiet_ext (hmk _)) | (go_at_call 13; exact quiet_ext (hsd _)) | (go_at_call 12; exact quiet_ext_same (RUp_any _ _ _)) | (go_at_call 14; exact quiet_ext_same (RHold_any _ _))))))
          refine wpQuiet_nil ?_
          intro wq hwq
          have hbq := (grown_rules hwq).2.2.2
          have HBK := Lib.hid (HBK.out.then_ hbq)
          have HF := Lib.hid (HF.out.then_ hbq)
          have HB := Lib.hid (below_then HB.out hbq)
          clear hwq hbq
          go_wp2_with fail
          go_roundw
          case rel => exact ⟨2, by omega, by go_num, HBK.out, HF.out, HB.out⟩
          case measure => (simp [intOf]; try omega)
      ·   have x18 : wr.cell? ⟨w.heap.size, 18, none⟩ = some (.int .i64 (c.n 18)) := HBK.out.cell 18
          have x26 : wr.cell? ⟨w.heap.size, 26, none⟩ = some (.int .i64 (c.n 26)) := HBK.out.cell 26
          have x27 : wr.cell? ⟨w.heap.size, 27, none⟩ = some (.int .i64 (c.n 27)) := HBK.out.cell 27
          have x32 : wr.cell? ⟨w.heap.size, 32, none⟩ = some (.int .i64 (c.n 32)) := HBK.out.cell 32
          have x55 : wr.cell? ⟨w.heap.size, 55, none⟩ = some (.int .i64 (c.n 55)) := HBK.out.cell 55
          have y0 : wr.cell? ⟨wn.heap.size, 2, none⟩ = some (.int .i64 (c.mar 2)) := HF.out.cell 2
          have y1 : wr.cell? ⟨wn.heap.size, 6, none⟩ = some (.bool (c.n 18 == 0)) := HF.out.cell 6
          have y2 : wr.cell? ⟨wn.heap.size, 10, none⟩ = some (.int .i64 (max (sideF (c.n 26) (c.n 27) (c.n 55)) 0)) := HF.out.cell 10
          have y3 : wr.cell? ⟨wn.heap.size, 14, none⟩ = some (.int .i64 (max (hold (c.n 32)) 0)) := HF.out.cell 14
          have xl := HBK.out.lt
          have yl := HF.out.lt
          have hmk : ∀ w, Calls Try.prog 10 #[.agg c.cells, .int .i64 2] w fun e w' => e = .returned (.int .i64 (c.mar 2)) ∧ Below w.heap.size w w' := hma 2 (by omega)
          have hsd := fun w => RSide_any (c.n 26) (c.n 27) (c.n 55) w
          generalize sideF (c.n 26) (c.n 27) (c.n 55) = sd at *
          generalize c.mar 2 = mk at *
          clear hma
          go_upto_region 5 with fail
          refine wp_region_ext (by kernel_rfl) (by kernel_rfl) ?_
          repeat (first
            | (refine wpQuiet_load_whole (by first | rfl | simp [Region.wanted]) 29 (.tmp 1) rfl w.heap.size rfl HBK.out Try.underlying29 rfl (by kernel_rfl) ?_
               simp only [Act.put, List.setIfInBounds_toArray, List.set_cons_zero, List.set_cons_succ])
            | (go_big_quiet_step ((first | (go_at_call 11; exact quiet_ext (hof _)) | (go_at_call 10; exact quiet_ext (hmk _)) | (go_at_call 13; exact quiet_ext (hsd _)) | (go_at_call 12; exact quiet_ext_same (RUp_any _ _ _)) | (go_at_call 14; exact quiet_ext_same (RHold_any _ _))))))
          refine wpQuiet_nil ?_
          intro wq hwq
          have hbq := (grown_rules hwq).2.2.2
          have HBK := Lib.hid (HBK.out.then_ hbq)
          have HF := Lib.hid (HF.out.then_ hbq)
          have HB := Lib.hid (below_then HB.out hbq)
          clear hwq hbq
          go_wp2_with fail
          go_roundw
          case rel => exact ⟨3, by omega, by go_num, HBK.out, HF.out, HB.out⟩
          case measure => (simp [intOf]; try omega)
      ·   have x20 : wr.cell? ⟨w.heap.size, 20, none⟩ = some (.int .i64 (c.n 20)) := HBK.out.cell 20
          have x28 : wr.cell? ⟨w.heap.size, 28, none⟩ = some (.int .i64 (c.n 28)) := HBK.out.cell 28
          have x29 : wr.cell? ⟨w.heap.size, 29, none⟩ = some (.int .i64 (c.n 29)) := HBK.out.cell 29
          have x33 : wr.cell? ⟨w.heap.size, 33, none⟩ = some (.int .i64 (c.n 33)) := HBK.out.cell 33
          have x55 : wr.cell? ⟨w.heap.size, 55, none⟩ = some (.int .i64 (c.n 55)) := HBK.out.cell 55
          have y0 : wr.cell? ⟨wn.heap.size, 3, none⟩ = some (.int .i64 (c.mar 3)) := HF.out.cell 3
          have y1 : wr.cell? ⟨wn.heap.size, 7, none⟩ = some (.bool (c.n 20 == 0)) := HF.out.cell 7
          have y2 : wr.cell? ⟨wn.heap.size, 11, none⟩ = some (.int .i64 (max (sideF (c.n 28) (c.n 29) (c.n 55)) 0)) := HF.out.cell 11
          have y3 : wr.cell? ⟨wn.heap.size, 15, none⟩ = some (.int .i64 (max (hold (c.n 33)) 0)) := HF.out.cell 15
          have xl := HBK.out.lt
          have yl := HF.out.lt
          have hmk : ∀ w, Calls Try.prog 10 #[.agg c.cells, .int .i64 3] w fun e w' => e = .returned (.int .i64 (c.mar 3)) ∧ Below w.heap.size w w' := hma 3 (by omega)
          have hsd := fun w => RSide_any (c.n 28) (c.n 29) (c.n 55) w
          generalize sideF (c.n 28) (c.n 29) (c.n 55) = sd at *
          generalize c.mar 3 = mk at *
          clear hma
          go_upto_region 5 with fail
          refine wp_region_ext (by kernel_rfl) (by kernel_rfl) ?_
          repeat (first
            | (refine wpQuiet_load_whole (by first | rfl | simp [Region.wanted]) 29 (.tmp 1) rfl w.heap.size rfl HBK.out Try.underlying29 rfl (by kernel_rfl) ?_
               simp only [Act.put, List.setIfInBounds_toArray, List.set_cons_zero, List.set_cons_succ])
            | (go_big_quiet_step ((first | (go_at_call 11; exact quiet_ext (hof _)) | (go_at_call 10; exact quiet_ext (hmk _)) | (go_at_call 13; exact quiet_ext (hsd _)) | (go_at_call 12; exact quiet_ext_same (RUp_any _ _ _)) | (go_at_call 14; exact quiet_ext_same (RHold_any _ _))))))
          refine wpQuiet_nil ?_
          intro wq hwq
          have hbq := (grown_rules hwq).2.2.2
          have HBK := Lib.hid (HBK.out.then_ hbq)
          have HF := Lib.hid (HF.out.then_ hbq)
          have HB := Lib.hid (below_then HB.out hbq)
          clear hwq hbq
          go_wp2_with fail
          go_roundw
          case rel => exact ⟨4, by omega, by go_num, HBK.out, HF.out, HB.out⟩
          case measure => (simp [intOf]; try omega)

end Go.Proofs.Ytdddlnemlpgnlaa
