/- Sizing: the laws' walks. -/
import Derived.Test.YtdddlnemlpgnlaaSizeLawC
namespace Go.Proofs.Ytdddlnemlpgnlaa
open Go.RowKit
set_option linter.unusedSimpArgs false
set_option linter.unusedVariables false
attribute [local go_sem] cell?_ext frozen?_ext lt_size_ext

set_option maxRecDepth 20000 in
set_option maxHeartbeats 8000000 in
theorem Says_walk (c : Cs) (hs : c.s.oneCell' = true) (k n : Int) (w : World) : Calls Try.prog 6 #[c.val, .agg #[.int .i64 k, .int .i64 n]] w fun e w' => e = .returned (.bool true) ∧ Below w.heap.size w w' := by
  have hsw : ∀ k n : Int, ∀ w, Calls Try.prog 26 #[.agg c.cells, .agg #[.int .i64 k, .int .i64 n]] w fun e w' => e = .returned (.tuple #[.int .i64 (c.sayW k n).1, .bool (c.sayW k n).2]) ∧ Below w.heap.size w w' := fun k n w => SaysW_any c k n w
  have hsh : ∀ k n : Int, ∀ w, Calls Try.prog 28 #[.agg c.cells, .agg #[.int .i64 k, .int .i64 n]] w fun e w' => e = .returned (.tuple #[.int .i64 (c.sayH k n).1, .bool (c.sayH k n).2]) ∧ Below w.heap.size w w' := fun k n w => SaysH_any c k n w
  have hof : ∀ w, Calls Try.prog 11 #[.agg c.cells] w fun e w' => e = .returned (.agg c.cells) ∧ Below w.heap.size w w' := fun w => of_any c hs w
  have rsw : ∀ k n : Int, ∀ w, Calls Try.prog 27 #[.agg c.cells, .agg #[.int .i64 k, .int .i64 n]] w fun e w' => e = .returned (.tuple #[.int .i64 (c.sayW k n).1, .bool (c.sayW k n).2]) ∧ Below w.heap.size w w' := fun k n w => RSaysW_any c k n w
  have rsh : ∀ k n : Int, ∀ w, Calls Try.prog 29 #[.agg c.cells, .agg #[.int .i64 k, .int .i64 n]] w fun e w' => e = .returned (.tuple #[.int .i64 (c.sayH k n).1, .bool (c.sayH k n).2]) ∧ Below w.heap.size w w' := fun k n w => RSaysH_any c k n w
  have hkn := known_any
  have hsw := hsw k n
  have hsh := hsh k n
  have rsw := rsw k n
  have rsh := rsh k n
  generalize c.sayW k n = sw at *
  generalize c.sayH k n = sh at *
  obtain ⟨sw, swb⟩ := sw
  obtain ⟨sh, shb⟩ := sh
  dsimp only at hsw hsh rsw rsh
  rw [c.val_eq]
  go_enter Try.func6, Try.ntmps6
  go_upto_region 1 with fail
  refine at_any (fun wx => Blk wx w.heap.size 29 c.cells ∧ Blk wx (w.heap.size + 1) 23 #[.int .i64 k, .int .i64 n] ∧ Below w.heap.size w wx) ⟨(Blk.new _ _ _).alloc _, Blk.new_at (by simp), below_alloc (below_alloc (Below.refl _ _) _) _⟩ ?_
  rintro wx ⟨hbk, hbz, hb⟩
  have HBZ := Lib.hid hbz
  have HBK := Lib.hid hbk
  have HB := Lib.hid hb
  clear hbk hb hbz
  have z0 : wx.cell? ⟨w.heap.size + 1, 0, none⟩ = some (.int .i64 k) := HBZ.out.cell 0
  have z1 : wx.cell? ⟨w.heap.size + 1, 1, none⟩ = some (.int .i64 n) := HBZ.out.cell 1
  go_upto_region 2 with (first
    | (refine wpList_load_want (by kernel_rfl) 29 (.tmp 2) rfl w.heap.size rfl HBK.out Try.underlying29 rfl (by kernel_rfl) ?_; simp only [Act.put, List.setIfInBounds_toArray, List.set_cons_zero, List.set_cons_succ])
    | (go_at_call 26; refine (hsw _).mono ?_; rintro e wn ⟨rfl, hb2⟩; have HBK := Lib.hid (HBK.out.then_ hb2); have HBZ := Lib.hid (HBZ.out.then_ hb2); have z0 : wn.cell? ⟨w.heap.size + 1, 0, none⟩ = some (.int .i64 k) := HBZ.out.cell 0; have z1 : wn.cell? ⟨w.heap.size + 1, 1, none⟩ = some (.int .i64 n) := HBZ.out.cell 1; have HB := Lib.hid (below_then HB.out hb2); clear hb2)
    | (go_at_call 28; refine (hsh _).mono ?_; rintro e wn ⟨rfl, hb2⟩; have HBK := Lib.hid (HBK.out.then_ hb2); have HBZ := Lib.hid (HBZ.out.then_ hb2); have z0 : wn.cell? ⟨w.heap.size + 1, 0, none⟩ = some (.int .i64 k) := HBZ.out.cell 0; have z1 : wn.cell? ⟨w.heap.size + 1, 1, none⟩ = some (.int .i64 n) := HBZ.out.cell 1; have HB := Lib.hid (below_then HB.out hb2); clear hb2)
    | (go_at_call 18; refine (hkn _).mono ?_; rintro e wn ⟨rfl, hb2⟩; have HBK := Lib.hid (HBK.out.then_ hb2); have HBZ := Lib.hid (HBZ.out.then_ hb2); have z0 : wn.cell? ⟨w.heap.size + 1, 0, none⟩ = some (.int .i64 k) := HBZ.out.cell 0; have z1 : wn.cell? ⟨w.heap.size + 1, 1, none⟩ = some (.int .i64 n) := HBZ.out.cell 1; have HB := Lib.hid (below_then HB.out hb2); clear hb2))
  have xl := HBK.out.lt
  have zl := HBZ.out.lt
  refine wp_region_ext (by kernel_rfl) (by kernel_rfl) ?_
  repeat (first
    | (refine wpQuiet_load_whole (by first | rfl | simp [Region.wanted]) 29 (.tmp 2) rfl w.heap.size rfl HBK.out Try.underlying29 rfl (by kernel_rfl) ?_
       simp only [Act.put, List.setIfInBounds_toArray, List.set_cons_zero, List.set_cons_succ])
    | (go_big_quiet_step ((first | (go_at_call 11; exact quiet_ext (hof _)) | (go_at_call 27; exact quiet_ext (rsw _))))))
  refine wpQuiet_nil ?_
  intro wq hwq
  have hbq := (grown_rules hwq).2.2.2
  have HBK := Lib.hid (HBK.out.then_ hbq)
  have HBZ := Lib.hid (HBZ.out.then_ hbq)
  have HB := Lib.hid (below_then HB.out hbq)
  clear hwq hbq
  have z0 : wq.cell? ⟨w.heap.size + 1, 0, none⟩ = some (.int .i64 k) := HBZ.out.cell 0
  have z1 : wq.cell? ⟨w.heap.size + 1, 1, none⟩ = some (.int .i64 n) := HBZ.out.cell 1
  clear xl zl
  go_upto_region 4 with (first
    | (refine wpList_load_want (by kernel_rfl) 29 (.tmp 2) rfl w.heap.size rfl HBK.out Try.underlying29 rfl (by kernel_rfl) ?_; simp only [Act.put, List.setIfInBounds_toArray, List.set_cons_zero, List.set_cons_succ])
    | (go_at_call 26; refine (hsw _).mono ?_; rintro e wn ⟨rfl, hb2⟩; have HBK := Lib.hid (HBK.out.then_ hb2); have HBZ := Lib.hid (HBZ.out.then_ hb2); have z0 : wn.cell? ⟨w.heap.size + 1, 0, none⟩ = some (.int .i64 k) := HBZ.out.cell 0; have z1 : wn.cell? ⟨w.heap.size + 1, 1, none⟩ = some (.int .i64 n) := HBZ.out.cell 1; have HB := Lib.hid (below_then HB.out hb2); clear hb2)
    | (go_at_call 28; refine (hsh _).mono ?_; rintro e wn ⟨rfl, hb2⟩; have HBK := Lib.hid (HBK.out.then_ hb2); have HBZ := Lib.hid (HBZ.out.then_ hb2); have z0 : wn.cell? ⟨w.heap.size + 1, 0, none⟩ = some (.int .i64 k) := HBZ.out.cell 0; have z1 : wn.cell? ⟨w.heap.size + 1, 1, none⟩ = some (.int .i64 n) := HBZ.out.cell 1; have HB := Lib.hid (below_then HB.out hb2); clear hb2)
    | (go_at_call 18; refine (hkn _).mono ?_; rintro e wn ⟨rfl, hb2⟩; have HBK := Lib.hid (HBK.out.then_ hb2); have HBZ := Lib.hid (HBZ.out.then_ hb2); have z0 : wn.cell? ⟨w.heap.size + 1, 0, none⟩ = some (.int .i64 k) := HBZ.out.cell 0; have z1 : wn.cell? ⟨w.heap.size + 1, 1, none⟩ = some (.int .i64 n) := HBZ.out.cell 1; have HB := Lib.hid (below_then HB.out hb2); clear hb2))
  have xl := HBK.out.lt
  have zl := HBZ.out.lt
  refine wp_region_ext (by kernel_rfl) (by kernel_rfl) ?_
  repeat (first
    | (refine wpQuiet_load_whole (by first | rfl | simp [Region.wanted]) 29 (.tmp 2) rfl w.heap.size rfl HBK.out Try.underlying29 rfl (by kernel_rfl) ?_
       simp only [Act.put, List.setIfInBounds_toArray, List.set_cons_zero, List.set_cons_succ])
    | (go_big_quiet_step ((first | (go_at_call 11; exact quiet_ext (hof _)) | (go_at_call 29; exact quiet_ext (rsh _))))))
  refine wpQuiet_nil ?_
  intro wq hwq
  have hbq := (grown_rules hwq).2.2.2
  have HBK := Lib.hid (HBK.out.then_ hbq)
  have HBZ := Lib.hid (HBZ.out.then_ hbq)
  have HB := Lib.hid (below_then HB.out hbq)
  clear hwq hbq
  have z0 : wq.cell? ⟨w.heap.size + 1, 0, none⟩ = some (.int .i64 k) := HBZ.out.cell 0
  have z1 : wq.cell? ⟨w.heap.size + 1, 1, none⟩ = some (.int .i64 n) := HBZ.out.cell 1
  clear xl zl
  go_wp2_with (first
    | (refine wpList_load_want (by kernel_rfl) 29 (.tmp 2) rfl w.heap.size rfl HBK.out Try.underlying29 rfl (by kernel_rfl) ?_; simp only [Act.put, List.setIfInBounds_toArray, List.set_cons_zero, List.set_cons_succ])
    | (go_at_call 26; refine (hsw _).mono ?_; rintro e wn ⟨rfl, hb2⟩; have HBK := Lib.hid (HBK.out.then_ hb2); have HBZ := Lib.hid (HBZ.out.then_ hb2); have z0 : wn.cell? ⟨w.heap.size + 1, 0, none⟩ = some (.int .i64 k) := HBZ.out.cell 0; have z1 : wn.cell? ⟨w.heap.size + 1, 1, none⟩ = some (.int .i64 n) := HBZ.out.cell 1; have HB := Lib.hid (below_then HB.out hb2); clear hb2)
    | (go_at_call 28; refine (hsh _).mono ?_; rintro e wn ⟨rfl, hb2⟩; have HBK := Lib.hid (HBK.out.then_ hb2); have HBZ := Lib.hid (HBZ.out.then_ hb2); have z0 : wn.cell? ⟨w.heap.size + 1, 0, none⟩ = some (.int .i64 k) := HBZ.out.cell 0; have z1 : wn.cell? ⟨w.heap.size + 1, 1, none⟩ = some (.int .i64 n) := HBZ.out.cell 1; have HB := Lib.hid (below_then HB.out hb2); clear hb2)
    | (go_at_call 18; refine (hkn _).mono ?_; rintro e wn ⟨rfl, hb2⟩; have HBK := Lib.hid (HBK.out.then_ hb2); have HBZ := Lib.hid (HBZ.out.then_ hb2); have z0 : wn.cell? ⟨w.heap.size + 1, 0, none⟩ = some (.int .i64 k) := HBZ.out.cell 0; have z1 : wn.cell? ⟨w.heap.size + 1, 1, none⟩ = some (.int .i64 n) := HBZ.out.cell 1; have HB := Lib.hid (below_then HB.out hb2); clear hb2))
  go_ret
  exact ⟨rfl, HB.out⟩

end Go.Proofs.Ytdddlnemlpgnlaa
