/- Sizing: the reference's Pair, Across, Down. -/
import Derived.Test.YtdddlnemlpgnlaaSizeBase
import Derived.Deep.MidRow
namespace Go.Proofs.Ytdddlnemlpgnlaa
open Go.RowKit
set_option linter.unusedSimpArgs false
set_option linter.unusedVariables false
attribute [local go_sem] cell?_ext frozen?_ext lt_size_ext

/-- A struct's variable that fills its block, read whole: at a plain region's list. -/
theorem wpList_load_whole {ops : Array Oper} {rest : List Oper} {op : Oper} {a : Act} {w : World} {Q : Exit → Act → World → Prop} {t : TypeId} {cs : Array Value} {d : TypeDesc} (hgd : op.guard = none) (ty : TypeId) (x : Operand) (ho : op.op = .load ty x)
    (q : Nat) (hx : a.eval x = .pointer (some ⟨q, 0, none⟩)) (hb : Blk w q t cs) (hu : Try.prog.underlying ty = some d) (hd : d.isRow = true) (hi : (Try.prog.info? ty).map (·.size) = some cs.size)
    (h : wpList Try.prog ops Q rest (a.put op.dst (.agg cs)) w) : wpList Try.prog ops Q (op :: rest) a w := by
  refine wpList_load_mid hgd ty x ho q 0 hx cs.toList d (fun j u hu => by rw [Nat.zero_add, hb.cell j]; simpa using hu) hu hd (by simpa using hi) ?_
  simpa using h

set_option maxHeartbeats 4000000 in
theorem RPair_any (c : Cs) (a b : Nat) (h : (a = 3 ∧ b = 1) ∨ (a = 0 ∧ b = 2)) (w : World) : Calls Try.prog 36 #[c.val, .int .i64 a, .int .i64 b] w fun e w' => e = .returned (.int .i64 (c.pr a b)) ∧ Below w.heap.size w w' := by
  have hs := fun k n w => RSide_any k n (c.n 55) w
  unfold Cs.val
  rcases h with ⟨rfl, rfl⟩ | ⟨rfl, rfl⟩
  all_goals
    go_enter Try.func36, Try.ntmps36
    go_upto_region 1 with fail
    refine at_any (fun wx => Blk wx w.heap.size 36 #[.int .i64 (c.n 0), .bool c.b, .int .i64 (c.n 2), .int .i64 (c.n 3), .int .i64 (c.n 4), .int .i64 (c.n 5), .int .i64 (c.n 6), .int .i64 (c.n 7), .int .i64 (c.n 8), .int .i64 (c.n 9), .int .i64 (c.n 10), .int .i64 (c.n 11), .int .i64 (c.n 12), .int .i64 (c.n 13), .int .i64 (c.n 14), .int .i64 (c.n 15), .int .i64 (c.n 16), .int .i64 (c.n 17), .int .i64 (c.n 18), .int .i64 (c.n 19), .int .i64 (c.n 20), .int .i64 (c.n 21), .int .i64 (c.n 22), .int .i64 (c.n 23), .int .i64 (c.n 24), .int .i64 (c.n 25), .int .i64 (c.n 26), .int .i64 (c.n 27), .int .i64 (c.n 28), .int .i64 (c.n 29), .int .i64 (c.n 30), .int .i64 (c.n 31), .int .i64 (c.n 32), .int .i64 (c.n 33), .int .i64 (c.n 34), .int .i64 (c.n 35), .int .i64 (c.n 36), .int .i64 (c.n 37), .int .i64 (c.n 38), .int .i64 (c.n 39), .int .i64 (c.n 40), .int .i64 (c.n 41), .int .i64 (c.n 42), .int .i64 (c.n 43), .int .i64 (c.n 44), .int .i64 (c.n 45), .int .i64 (c.n 46), .int .i64 (c.n 47), .int .i64 (c.n 48), .int .i64 (c.n 49), .int .i64 (c.n 50), .int .i64 (c.n 51), c.s, .int .i64 (c.n 53), .int .i64 (c.n 54), .int .i64 (c.n 55), .int .i64 (c.n 56), .int .i64 (c.n 57), .int .i64 (c.n 58)] ∧ Below w.heap.size w wx) ⟨Blk.new _ _ _, below_alloc (Below.refl _ _) _⟩ ?_
    rintro wx ⟨hbk, hb⟩
    have x22 : wx.cell? ⟨w.heap.size, 22, none⟩ = some (.int .i64 (c.n 22)) := hbk.cell 22
    have x23 : wx.cell? ⟨w.heap.size, 23, none⟩ = some (.int .i64 (c.n 23)) := hbk.cell 23
    have x24 : wx.cell? ⟨w.heap.size, 24, none⟩ = some (.int .i64 (c.n 24)) := hbk.cell 24
    have x25 : wx.cell? ⟨w.heap.size, 25, none⟩ = some (.int .i64 (c.n 25)) := hbk.cell 25
    have x26 : wx.cell? ⟨w.heap.size, 26, none⟩ = some (.int .i64 (c.n 26)) := hbk.cell 26
    have x27 : wx.cell? ⟨w.heap.size, 27, none⟩ = some (.int .i64 (c.n 27)) := hbk.cell 27
    have x28 : wx.cell? ⟨w.heap.size, 28, none⟩ = some (.int .i64 (c.n 28)) := hbk.cell 28
    have x29 : wx.cell? ⟨w.heap.size, 29, none⟩ = some (.int .i64 (c.n 29)) := hbk.cell 29
    have x55 : wx.cell? ⟨w.heap.size, 55, none⟩ = some (.int .i64 (c.n 55)) := hbk.cell 55
    have xl := hbk.lt
    have HBK := Lib.hid hbk
    have HB := Lib.hid hb
    clear hbk hb
    refine wp_region_ext (by kernel_rfl) (by kernel_rfl) ?_
    repeat (go_big_quiet_step ((first | (go_at_call 13; exact quiet_ext (hs _ _ _)) | (go_at_call 12; exact quiet_ext_same (RUp_any _ _ _)) | (go_at_call 50; exact quiet_ext_same (RAdd20_any _ _ _)))))
    refine wpQuiet_nil ?_
    intro w2 hw2
    have hb2 := (grown_rules hw2).2.2.2
    have hbk := HBK.out.of_kept (hb2.block _ HBK.out.lt)
    clear hw2 x22 x23 x24 x25 x26 x27 x28 x29 x55 xl
    have y30 : w2.cell? ⟨w.heap.size, 30, none⟩ = some (.int .i64 (c.n 30)) := hbk.cell 30
    have y31 : w2.cell? ⟨w.heap.size, 31, none⟩ = some (.int .i64 (c.n 31)) := hbk.cell 31
    have y32 : w2.cell? ⟨w.heap.size, 32, none⟩ = some (.int .i64 (c.n 32)) := hbk.cell 32
    have y33 : w2.cell? ⟨w.heap.size, 33, none⟩ = some (.int .i64 (c.n 33)) := hbk.cell 33
    have xl := hbk.lt
    have HB2 := Lib.hid hb2
    clear hbk hb2
    go_upto_region 2 with fail
    refine wp_region_ext (by kernel_rfl) (by kernel_rfl) ?_
    repeat (go_big_quiet_step ((first | (go_at_call 14; exact quiet_ext_same (RHold_any _ _)) | (go_at_call 12; exact quiet_ext_same (RUp_any _ _ _)) | (go_at_call 50; exact quiet_ext_same (RAdd20_any _ _ _)))))
    refine wpQuiet_nil ?_
    intro w3 hw3
    have hb3 := (grown_rules hw3).2.2.2
    have HB3 := Lib.hid hb3
    clear hw3 hb3
    go_wp2_with fail
    go_ret
    exact ⟨rfl, below_then (below_then HB.out HB2.out) HB3.out⟩

set_option maxRecDepth 20000 in
set_option maxHeartbeats 4000000 in
theorem Across_any (c : Cs) (w : World) : Calls Try.prog 16 #[c.val] w fun e w' => e = .returned (.int .i64 (c.pr 3 1)) ∧ Below w.heap.size w w' := by
  have h := fun w => RPair_any c 3 1 (.inl ⟨rfl, rfl⟩) w
  generalize c.pr 3 1 = x at *
  unfold Cs.val at h ⊢
  go_enter Try.func16, Try.ntmps16
  go_upto_region 1 with fail
  refine at_any (fun wx => Blk wx w.heap.size 36 #[.int .i64 (c.n 0), .bool c.b, .int .i64 (c.n 2), .int .i64 (c.n 3), .int .i64 (c.n 4), .int .i64 (c.n 5), .int .i64 (c.n 6), .int .i64 (c.n 7), .int .i64 (c.n 8), .int .i64 (c.n 9), .int .i64 (c.n 10), .int .i64 (c.n 11), .int .i64 (c.n 12), .int .i64 (c.n 13), .int .i64 (c.n 14), .int .i64 (c.n 15), .int .i64 (c.n 16), .int .i64 (c.n 17), .int .i64 (c.n 18), .int .i64 (c.n 19), .int .i64 (c.n 20), .int .i64 (c.n 21), .int .i64 (c.n 22), .int .i64 (c.n 23), .int .i64 (c.n 24), .int .i64 (c.n 25), .int .i64 (c.n 26), .int .i64 (c.n 27), .int .i64 (c.n 28), .int .i64 (c.n 29), .int .i64 (c.n 30), .int .i64 (c.n 31), .int .i64 (c.n 32), .int .i64 (c.n 33), .int .i64 (c.n 34), .int .i64 (c.n 35), .int .i64 (c.n 36), .int .i64 (c.n 37), .int .i64 (c.n 38), .int .i64 (c.n 39), .int .i64 (c.n 40), .int .i64 (c.n 41), .int .i64 (c.n 42), .int .i64 (c.n 43), .int .i64 (c.n 44), .int .i64 (c.n 45), .int .i64 (c.n 46), .int .i64 (c.n 47), .int .i64 (c.n 48), .int .i64 (c.n 49), .int .i64 (c.n 50), .int .i64 (c.n 51), c.s, .int .i64 (c.n 53), .int .i64 (c.n 54), .int .i64 (c.n 55), .int .i64 (c.n 56), .int .i64 (c.n 57), .int .i64 (c.n 58)] ∧ Below w.heap.size w wx) ⟨Blk.new _ _ _, below_alloc (Below.refl _ _) _⟩ ?_
  rintro wx ⟨hbk, hb⟩
  have HBK := Lib.hid hbk
  have HB := Lib.hid hb
  clear hbk hb
  refine wp_region_list ?_
  refine wpList_load_whole rfl 36 (.tmp 1) rfl w.heap.size rfl HBK.out Try.underlying36 rfl (by kernel_rfl) ?_
  go_wp2_with fail
  refine (h _).mono ?_; rintro e w2 ⟨rfl, hb2⟩
  have HB2 := Lib.hid (below_then HB.out hb2)
  clear hb2
  go_wp2_with fail
  go_ret
  exact ⟨rfl, HB2.out⟩

set_option maxRecDepth 20000 in
set_option maxHeartbeats 4000000 in
theorem Down_any (c : Cs) (w : World) : Calls Try.prog 17 #[c.val] w fun e w' => e = .returned (.int .i64 (c.pr 0 2)) ∧ Below w.heap.size w w' := by
  have h := fun w => RPair_any c 0 2 (.inr ⟨rfl, rfl⟩) w
  generalize c.pr 0 2 = x at *
  unfold Cs.val at h ⊢
  go_enter Try.func17, Try.ntmps17
  go_upto_region 1 with fail
  refine at_any (fun wx => Blk wx w.heap.size 36 #[.int .i64 (c.n 0), .bool c.b, .int .i64 (c.n 2), .int .i64 (c.n 3), .int .i64 (c.n 4), .int .i64 (c.n 5), .int .i64 (c.n 6), .int .i64 (c.n 7), .int .i64 (c.n 8), .int .i64 (c.n 9), .int .i64 (c.n 10), .int .i64 (c.n 11), .int .i64 (c.n 12), .int .i64 (c.n 13), .int .i64 (c.n 14), .int .i64 (c.n 15), .int .i64 (c.n 16), .int .i64 (c.n 17), .int .i64 (c.n 18), .int .i64 (c.n 19), .int .i64 (c.n 20), .int .i64 (c.n 21), .int .i64 (c.n 22), .int .i64 (c.n 23), .int .i64 (c.n 24), .int .i64 (c.n 25), .int .i64 (c.n 26), .int .i64 (c.n 27), .int .i64 (c.n 28), .int .i64 (c.n 29), .int .i64 (c.n 30), .int .i64 (c.n 31), .int .i64 (c.n 32), .int .i64 (c.n 33), .int .i64 (c.n 34), .int .i64 (c.n 35), .int .i64 (c.n 36), .int .i64 (c.n 37), .int .i64 (c.n 38), .int .i64 (c.n 39), .int .i64 (c.n 40), .int .i64 (c.n 41), .int .i64 (c.n 42), .int .i64 (c.n 43), .int .i64 (c.n 44), .int .i64 (c.n 45), .int .i64 (c.n 46), .int .i64 (c.n 47), .int .i64 (c.n 48), .int .i64 (c.n 49), .int .i64 (c.n 50), .int .i64 (c.n 51), c.s, .int .i64 (c.n 53), .int .i64 (c.n 54), .int .i64 (c.n 55), .int .i64 (c.n 56), .int .i64 (c.n 57), .int .i64 (c.n 58)] ∧ Below w.heap.size w wx) ⟨Blk.new _ _ _, below_alloc (Below.refl _ _) _⟩ ?_
  rintro wx ⟨hbk, hb⟩
  have HBK := Lib.hid hbk
  have HB := Lib.hid hb
  clear hbk hb
  refine wp_region_list ?_
  refine wpList_load_whole rfl 36 (.tmp 1) rfl w.heap.size rfl HBK.out Try.underlying36 rfl (by kernel_rfl) ?_
  go_wp2_with fail
  refine (h _).mono ?_; rintro e w2 ⟨rfl, hb2⟩
  have HB2 := Lib.hid (below_then HB.out hb2)
  clear hb2
  go_wp2_with fail
  go_ret
  exact ⟨rfl, HB2.out⟩

end Go.Proofs.Ytdddlnemlpgnlaa
