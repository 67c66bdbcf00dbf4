/- Sizing: the reference's Given. -/
import Derived.Test.YtdddlnemlpgnlaaSizeKeepR
namespace Go.Proofs.Ytdddlnemlpgnlaa
open Go.RowKit
set_option linter.unusedSimpArgs false
set_option linter.unusedVariables false
attribute [local go_sem] cell?_ext frozen?_ext lt_size_ext

def Cs.giv (c : Cs) : Int × Bool := if (c.sayH (c.n 4) (c.n 5)).2 = true then (c.keepH (c.sayH (c.n 4) (c.n 5)).1, true) else (0, false)

set_option maxRecDepth 20000 in
set_option maxHeartbeats 4000000 in
theorem RGiven_any (c : Cs) (w : World) : Calls Try.prog 22 #[c.val] w fun e w' => e = .returned (.tuple #[.int .i64 c.giv.1, .bool c.giv.2]) ∧ Below w.heap.size w w' := by
  have hsa : ∀ w, Calls Try.prog 29 #[.agg #[.int .i64 (c.n 0), .bool c.b, .int .i64 (c.n 2), .int .i64 (c.n 3), .int .i64 (c.n 4), .int .i64 (c.n 5), .int .i64 (c.n 6), .int .i64 (c.n 7), .int .i64 (c.n 8), .int .i64 (c.n 9), .int .i64 (c.n 10), .int .i64 (c.n 11), .int .i64 (c.n 12), .int .i64 (c.n 13), .int .i64 (c.n 14), .int .i64 (c.n 15), .int .i64 (c.n 16), .int .i64 (c.n 17), .int .i64 (c.n 18), .int .i64 (c.n 19), .int .i64 (c.n 20), .int .i64 (c.n 21), .int .i64 (c.n 22), .int .i64 (c.n 23), .int .i64 (c.n 24), .int .i64 (c.n 25), .int .i64 (c.n 26), .int .i64 (c.n 27), .int .i64 (c.n 28), .int .i64 (c.n 29), .int .i64 (c.n 30), .int .i64 (c.n 31), .int .i64 (c.n 32), .int .i64 (c.n 33), .int .i64 (c.n 34), .int .i64 (c.n 35), .int .i64 (c.n 36), .int .i64 (c.n 37), .int .i64 (c.n 38), .int .i64 (c.n 39), .int .i64 (c.n 40), .int .i64 (c.n 41), .int .i64 (c.n 42), .int .i64 (c.n 43), .int .i64 (c.n 44), .int .i64 (c.n 45), .int .i64 (c.n 46), .int .i64 (c.n 47), .int .i64 (c.n 48), .int .i64 (c.n 49), .int .i64 (c.n 50), .int .i64 (c.n 51), c.s, .int .i64 (c.n 53), .int .i64 (c.n 54), .int .i64 (c.n 55), .int .i64 (c.n 56), .int .i64 (c.n 57), .int .i64 (c.n 58)], .agg #[.int .i64 (c.n 4), .int .i64 (c.n 5)]] w fun e w' => e = .returned (.tuple #[.int .i64 (c.sayH (c.n 4) (c.n 5)).1, .bool (c.sayH (c.n 4) (c.n 5)).2]) ∧ Below w.heap.size w w' := fun w => RSaysH_any c _ _ w
  have hkp : ∀ n w, Calls Try.prog 24 #[.agg #[.int .i64 (c.n 0), .bool c.b, .int .i64 (c.n 2), .int .i64 (c.n 3), .int .i64 (c.n 4), .int .i64 (c.n 5), .int .i64 (c.n 6), .int .i64 (c.n 7), .int .i64 (c.n 8), .int .i64 (c.n 9), .int .i64 (c.n 10), .int .i64 (c.n 11), .int .i64 (c.n 12), .int .i64 (c.n 13), .int .i64 (c.n 14), .int .i64 (c.n 15), .int .i64 (c.n 16), .int .i64 (c.n 17), .int .i64 (c.n 18), .int .i64 (c.n 19), .int .i64 (c.n 20), .int .i64 (c.n 21), .int .i64 (c.n 22), .int .i64 (c.n 23), .int .i64 (c.n 24), .int .i64 (c.n 25), .int .i64 (c.n 26), .int .i64 (c.n 27), .int .i64 (c.n 28), .int .i64 (c.n 29), .int .i64 (c.n 30), .int .i64 (c.n 31), .int .i64 (c.n 32), .int .i64 (c.n 33), .int .i64 (c.n 34), .int .i64 (c.n 35), .int .i64 (c.n 36), .int .i64 (c.n 37), .int .i64 (c.n 38), .int .i64 (c.n 39), .int .i64 (c.n 40), .int .i64 (c.n 41), .int .i64 (c.n 42), .int .i64 (c.n 43), .int .i64 (c.n 44), .int .i64 (c.n 45), .int .i64 (c.n 46), .int .i64 (c.n 47), .int .i64 (c.n 48), .int .i64 (c.n 49), .int .i64 (c.n 50), .int .i64 (c.n 51), c.s, .int .i64 (c.n 53), .int .i64 (c.n 54), .int .i64 (c.n 55), .int .i64 (c.n 56), .int .i64 (c.n 57), .int .i64 (c.n 58)], .int .i64 n] w fun e w' => e = .returned (.int .i64 (c.keepH n)) ∧ Below w.heap.size w w' := fun n w => RKeepH_any c n w
  have HE : Hid (c.giv = if (c.sayH (c.n 4) (c.n 5)).2 = true then (c.keepH (c.sayH (c.n 4) (c.n 5)).1, true) else (0, false)) := Lib.hid rfl
  generalize c.giv = res at *
  generalize c.sayH (c.n 4) (c.n 5) = sh at *
  obtain ⟨h, ok⟩ := sh
  dsimp only at hsa
  have HKP := Lib.hid hkp
  clear hkp
  unfold Cs.val
  go_enter Try.func22, Try.ntmps22
  go_upto_region 1 with fail
  refine at_any (fun wx => Blk wx w.heap.size 36 #[.int .i64 (c.n 0), .bool c.b, .int .i64 (c.n 2), .int .i64 (c.n 3), .int .i64 (c.n 4), .int .i64 (c.n 5), .int .i64 (c.n 6), .int .i64 (c.n 7), .int .i64 (c.n 8), .int .i64 (c.n 9), .int .i64 (c.n 10), .int .i64 (c.n 11), .int .i64 (c.n 12), .int .i64 (c.n 13), .int .i64 (c.n 14), .int .i64 (c.n 15), .int .i64 (c.n 16), .int .i64 (c.n 17), .int .i64 (c.n 18), .int .i64 (c.n 19), .int .i64 (c.n 20), .int .i64 (c.n 21), .int .i64 (c.n 22), .int .i64 (c.n 23), .int .i64 (c.n 24), .int .i64 (c.n 25), .int .i64 (c.n 26), .int .i64 (c.n 27), .int .i64 (c.n 28), .int .i64 (c.n 29), .int .i64 (c.n 30), .int .i64 (c.n 31), .int .i64 (c.n 32), .int .i64 (c.n 33), .int .i64 (c.n 34), .int .i64 (c.n 35), .int .i64 (c.n 36), .int .i64 (c.n 37), .int .i64 (c.n 38), .int .i64 (c.n 39), .int .i64 (c.n 40), .int .i64 (c.n 41), .int .i64 (c.n 42), .int .i64 (c.n 43), .int .i64 (c.n 44), .int .i64 (c.n 45), .int .i64 (c.n 46), .int .i64 (c.n 47), .int .i64 (c.n 48), .int .i64 (c.n 49), .int .i64 (c.n 50), .int .i64 (c.n 51), c.s, .int .i64 (c.n 53), .int .i64 (c.n 54), .int .i64 (c.n 55), .int .i64 (c.n 56), .int .i64 (c.n 57), .int .i64 (c.n 58)] ∧ Below w.heap.size w wx) ⟨Blk.new _ _ _, below_alloc (Below.refl _ _) _⟩ ?_
  rintro wx ⟨hbk, hb⟩
  have x1 : wx.cell? ⟨w.heap.size, 4, none⟩ = some (.int .i64 (c.n 4)) := hbk.cell 4
  have x2 : wx.cell? ⟨w.heap.size, 5, none⟩ = some (.int .i64 (c.n 5)) := hbk.cell 5
  have xl := hbk.lt
  have HBK := Lib.hid hbk
  have HB := Lib.hid hb
  clear hbk hb
  refine wp_region_list ?_
  refine wpList_load_whole rfl 36 (.tmp 1) rfl w.heap.size rfl HBK.out Try.underlying36 rfl (by kernel_rfl) ?_
  go_wp2_with fail
  refine (hsa _).mono ?_; rintro e w2 ⟨rfl, hb2⟩
  have HB2 := Lib.hid hb2
  have HBK2 := Lib.hid (HBK.out.of_kept (hb2.block _ HBK.out.lt))
  clear hb2 x1 x2 xl hsa
  cases ok with
  | true =>
    go_upto_region 4 with fail
    refine wp_region_list ?_
    refine wpList_load_whole rfl 36 (.tmp 1) rfl w.heap.size rfl HBK2.out Try.underlying36 rfl (by kernel_rfl) ?_
    go_wp2_with fail
    refine (HKP.out _ _).mono ?_; rintro e w3 ⟨rfl, hb3⟩
    have HB3 := Lib.hid hb3
    clear hb3
    go_wp2_with fail
    refine bodyPost_ret (v := .tuple #[.int .i64 (c.keepH h), .bool true]) (by simp [results, Try.results22, go_sem]) rfl ?_
    exact ⟨by rw [HE.out]; simp, below_then (below_then HB.out HB2.out) HB3.out⟩
  | false =>
    go_wp2_with fail
    refine bodyPost_ret (v := .tuple #[.int .i64 0, .bool false]) (by simp [results, Try.results22, go_sem]) rfl ?_
    exact ⟨by rw [HE.out, if_neg (by simp)], below_then HB.out HB2.out⟩

end Go.Proofs.Ytdddlnemlpgnlaa
