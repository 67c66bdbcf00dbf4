/- Sizing: the reference's Free. -/
import Derived.Test.YtdddlnemlpgnlaaSizeQuiet
namespace Go.Proofs.Ytdddlnemlpgnlaa
open Go.RowKit
set_option linter.unusedSimpArgs false
set_option linter.unusedVariables false
attribute [local go_sem] cell?_ext frozen?_ext lt_size_ext

/-- The free width. -/
def Cs.fre (c : Cs) : Int := max (subH (subH (c.n 55) (c.mar 3)) (c.mar 1)) (c.pr 3 1)

set_option maxRecDepth 20000 in
set_option maxHeartbeats 4000000 in
theorem RFree20_any (c : Cs) (w : World) : Calls Try.prog 62 #[c.val] w fun e w' => e = .returned (.int .i64 c.fre) ∧ Below w.heap.size w w' := by
  have hm : ∀ (i : Int) w, 0 ≤ i → i < 4 → Calls Try.prog 10 #[.agg #[.int .i64 (c.n 0), .bool c.b, .int .i64 (c.n 2), .int .i64 (c.n 3), .int .i64 (c.n 4), .int .i64 (c.n 5), .int .i64 (c.n 6), .int .i64 (c.n 7), .int .i64 (c.n 8), .int .i64 (c.n 9), .int .i64 (c.n 10), .int .i64 (c.n 11), .int .i64 (c.n 12), .int .i64 (c.n 13), .int .i64 (c.n 14), .int .i64 (c.n 15), .int .i64 (c.n 16), .int .i64 (c.n 17), .int .i64 (c.n 18), .int .i64 (c.n 19), .int .i64 (c.n 20), .int .i64 (c.n 21), .int .i64 (c.n 22), .int .i64 (c.n 23), .int .i64 (c.n 24), .int .i64 (c.n 25), .int .i64 (c.n 26), .int .i64 (c.n 27), .int .i64 (c.n 28), .int .i64 (c.n 29), .int .i64 (c.n 30), .int .i64 (c.n 31), .int .i64 (c.n 32), .int .i64 (c.n 33), .int .i64 (c.n 34), .int .i64 (c.n 35), .int .i64 (c.n 36), .int .i64 (c.n 37), .int .i64 (c.n 38), .int .i64 (c.n 39), .int .i64 (c.n 40), .int .i64 (c.n 41), .int .i64 (c.n 42), .int .i64 (c.n 43), .int .i64 (c.n 44), .int .i64 (c.n 45), .int .i64 (c.n 46), .int .i64 (c.n 47), .int .i64 (c.n 48), .int .i64 (c.n 49), .int .i64 (c.n 50), .int .i64 (c.n 51), c.s, .int .i64 (c.n 53), .int .i64 (c.n 54), .int .i64 (c.n 55), .int .i64 (c.n 56), .int .i64 (c.n 57), .int .i64 (c.n 58)], .int .i64 i] w fun e w' => e = .returned (.int .i64 (c.mar i.toNat)) ∧ Below w.heap.size w w' := fun i w h0 h1 => by
    have h := RMargin_any c i.toNat (by omega) w
    rw [Int.toNat_of_nonneg h0] at h
    exact h
  have hac : ∀ w, Calls Try.prog 16 #[.agg #[.int .i64 (c.n 0), .bool c.b, .int .i64 (c.n 2), .int .i64 (c.n 3), .int .i64 (c.n 4), .int .i64 (c.n 5), .int .i64 (c.n 6), .int .i64 (c.n 7), .int .i64 (c.n 8), .int .i64 (c.n 9), .int .i64 (c.n 10), .int .i64 (c.n 11), .int .i64 (c.n 12), .int .i64 (c.n 13), .int .i64 (c.n 14), .int .i64 (c.n 15), .int .i64 (c.n 16), .int .i64 (c.n 17), .int .i64 (c.n 18), .int .i64 (c.n 19), .int .i64 (c.n 20), .int .i64 (c.n 21), .int .i64 (c.n 22), .int .i64 (c.n 23), .int .i64 (c.n 24), .int .i64 (c.n 25), .int .i64 (c.n 26), .int .i64 (c.n 27), .int .i64 (c.n 28), .int .i64 (c.n 29), .int .i64 (c.n 30), .int .i64 (c.n 31), .int .i64 (c.n 32), .int .i64 (c.n 33), .int .i64 (c.n 34), .int .i64 (c.n 35), .int .i64 (c.n 36), .int .i64 (c.n 37), .int .i64 (c.n 38), .int .i64 (c.n 39), .int .i64 (c.n 40), .int .i64 (c.n 41), .int .i64 (c.n 42), .int .i64 (c.n 43), .int .i64 (c.n 44), .int .i64 (c.n 45), .int .i64 (c.n 46), .int .i64 (c.n 47), .int .i64 (c.n 48), .int .i64 (c.n 49), .int .i64 (c.n 50), .int .i64 (c.n 51), c.s, .int .i64 (c.n 53), .int .i64 (c.n 54), .int .i64 (c.n 55), .int .i64 (c.n 56), .int .i64 (c.n 57), .int .i64 (c.n 58)]] w fun e w' => e = .returned (.int .i64 (c.pr 3 1)) ∧ Below w.heap.size w w' := fun w => Across_any c w
  have HE : Hid (c.fre = max (subH (subH (c.n 55) (c.mar 3)) (c.mar 1)) (c.pr 3 1)) := Lib.hid rfl
  generalize c.fre = res at *
  generalize c.pr 3 1 = ac at *
  unfold Cs.val
  go_enter Try.func62, Try.ntmps62
  go_upto_region 1 with fail
  refine at_any (fun wx => Blk wx w.heap.size 36 #[.int .i64 (c.n 0), .bool c.b, .int .i64 (c.n 2), .int .i64 (c.n 3), .int .i64 (c.n 4), .int .i64 (c.n 5), .int .i64 (c.n 6), .int .i64 (c.n 7), .int .i64 (c.n 8), .int .i64 (c.n 9), .int .i64 (c.n 10), .int .i64 (c.n 11), .int .i64 (c.n 12), .int .i64 (c.n 13), .int .i64 (c.n 14), .int .i64 (c.n 15), .int .i64 (c.n 16), .int .i64 (c.n 17), .int .i64 (c.n 18), .int .i64 (c.n 19), .int .i64 (c.n 20), .int .i64 (c.n 21), .int .i64 (c.n 22), .int .i64 (c.n 23), .int .i64 (c.n 24), .int .i64 (c.n 25), .int .i64 (c.n 26), .int .i64 (c.n 27), .int .i64 (c.n 28), .int .i64 (c.n 29), .int .i64 (c.n 30), .int .i64 (c.n 31), .int .i64 (c.n 32), .int .i64 (c.n 33), .int .i64 (c.n 34), .int .i64 (c.n 35), .int .i64 (c.n 36), .int .i64 (c.n 37), .int .i64 (c.n 38), .int .i64 (c.n 39), .int .i64 (c.n 40), .int .i64 (c.n 41), .int .i64 (c.n 42), .int .i64 (c.n 43), .int .i64 (c.n 44), .int .i64 (c.n 45), .int .i64 (c.n 46), .int .i64 (c.n 47), .int .i64 (c.n 48), .int .i64 (c.n 49), .int .i64 (c.n 50), .int .i64 (c.n 51), c.s, .int .i64 (c.n 53), .int .i64 (c.n 54), .int .i64 (c.n 55), .int .i64 (c.n 56), .int .i64 (c.n 57), .int .i64 (c.n 58)] ∧ Below w.heap.size w wx) ⟨Blk.new _ _ _, below_alloc (Below.refl _ _) _⟩ ?_
  rintro wx ⟨hbk, hb⟩
  have x1 : wx.cell? ⟨w.heap.size, 55, none⟩ = some (.int .i64 (c.n 55)) := hbk.cell 55
  have xl := hbk.lt
  have HBK := Lib.hid hbk
  have HB := Lib.hid hb
  clear hbk hb
  refine wp_region_ext (by kernel_rfl) (by kernel_rfl) ?_
  repeat (first
    | (refine wpQuiet_load_whole (by simp [Region.wanted]) 36 (.tmp 1) rfl w.heap.size rfl HBK.out Try.underlying36 rfl (by kernel_rfl) ?_
       simp only [Act.put, List.setIfInBounds_toArray, List.set_cons_zero, List.set_cons_succ])
    | (go_big_quiet_step ((first | (go_at_call 10; exact quiet_ext (hm _ _ (by decide) (by decide))) | (go_at_call 16; exact quiet_ext (hac _)) | (go_at_call 63; exact quiet_ext_same (RSub20_any _ _ _)) | (go_at_call 12; exact quiet_ext_same (RUp_any _ _ _))))))
  refine wpQuiet_nil ?_
  intro w2 hw2
  have hb2 := (grown_rules hw2).2.2.2
  have HB2 := Lib.hid hb2
  clear hw2 hb2
  go_wp2_with fail
  go_ret
  exact ⟨ret_int (by rw [HE.out]), below_then HB.out HB2.out⟩

/-- The free width, between the box's own. -/
def Cs.lea (c : Cs) : Int := max (hold (c.n 57)) 0
def Cs.mos (c : Cs) : Int := max (hold (c.n 58)) 0
def Cs.fit (c : Cs) : Int := max (min c.mos c.fre) c.lea

set_option maxRecDepth 20000 in
set_option maxHeartbeats 4000000 in
theorem RFitted_any (c : Cs) (w : World) : Calls Try.prog 45 #[c.val] w fun e w' => e = .returned (.int .i64 c.fit) ∧ Below w.heap.size w w' := by
  have hfr : ∀ w, Calls Try.prog 62 #[.agg #[.int .i64 (c.n 0), .bool c.b, .int .i64 (c.n 2), .int .i64 (c.n 3), .int .i64 (c.n 4), .int .i64 (c.n 5), .int .i64 (c.n 6), .int .i64 (c.n 7), .int .i64 (c.n 8), .int .i64 (c.n 9), .int .i64 (c.n 10), .int .i64 (c.n 11), .int .i64 (c.n 12), .int .i64 (c.n 13), .int .i64 (c.n 14), .int .i64 (c.n 15), .int .i64 (c.n 16), .int .i64 (c.n 17), .int .i64 (c.n 18), .int .i64 (c.n 19), .int .i64 (c.n 20), .int .i64 (c.n 21), .int .i64 (c.n 22), .int .i64 (c.n 23), .int .i64 (c.n 24), .int .i64 (c.n 25), .int .i64 (c.n 26), .int .i64 (c.n 27), .int .i64 (c.n 28), .int .i64 (c.n 29), .int .i64 (c.n 30), .int .i64 (c.n 31), .int .i64 (c.n 32), .int .i64 (c.n 33), .int .i64 (c.n 34), .int .i64 (c.n 35), .int .i64 (c.n 36), .int .i64 (c.n 37), .int .i64 (c.n 38), .int .i64 (c.n 39), .int .i64 (c.n 40), .int .i64 (c.n 41), .int .i64 (c.n 42), .int .i64 (c.n 43), .int .i64 (c.n 44), .int .i64 (c.n 45), .int .i64 (c.n 46), .int .i64 (c.n 47), .int .i64 (c.n 48), .int .i64 (c.n 49), .int .i64 (c.n 50), .int .i64 (c.n 51), c.s, .int .i64 (c.n 53), .int .i64 (c.n 54), .int .i64 (c.n 55), .int .i64 (c.n 56), .int .i64 (c.n 57), .int .i64 (c.n 58)]] w fun e w' => e = .returned (.int .i64 c.fre) ∧ Below w.heap.size w w' := fun w => RFree20_any c w
  have HE : Hid (c.fit = max (min c.mos c.fre) c.lea) := Lib.hid rfl
  have HM : Hid (c.mos = max (hold (c.n 58)) 0) := Lib.hid rfl
  have HL : Hid (c.lea = max (hold (c.n 57)) 0) := Lib.hid rfl
  generalize c.fit = res at *
  generalize c.fre = fr at *
  generalize c.mos = mo at *
  generalize c.lea = le at *
  unfold Cs.val
  go_enter Try.func45, Try.ntmps45
  go_upto_region 1 with fail
  refine at_any (fun wx => Blk wx w.heap.size 36 #[.int .i64 (c.n 0), .bool c.b, .int .i64 (c.n 2), .int .i64 (c.n 3), .int .i64 (c.n 4), .int .i64 (c.n 5), .int .i64 (c.n 6), .int .i64 (c.n 7), .int .i64 (c.n 8), .int .i64 (c.n 9), .int .i64 (c.n 10), .int .i64 (c.n 11), .int .i64 (c.n 12), .int .i64 (c.n 13), .int .i64 (c.n 14), .int .i64 (c.n 15), .int .i64 (c.n 16), .int .i64 (c.n 17), .int .i64 (c.n 18), .int .i64 (c.n 19), .int .i64 (c.n 20), .int .i64 (c.n 21), .int .i64 (c.n 22), .int .i64 (c.n 23), .int .i64 (c.n 24), .int .i64 (c.n 25), .int .i64 (c.n 26), .int .i64 (c.n 27), .int .i64 (c.n 28), .int .i64 (c.n 29), .int .i64 (c.n 30), .int .i64 (c.n 31), .int .i64 (c.n 32), .int .i64 (c.n 33), .int .i64 (c.n 34), .int .i64 (c.n 35), .int .i64 (c.n 36), .int .i64 (c.n 37), .int .i64 (c.n 38), .int .i64 (c.n 39), .int .i64 (c.n 40), .int .i64 (c.n 41), .int .i64 (c.n 42), .int .i64 (c.n 43), .int .i64 (c.n 44), .int .i64 (c.n 45), .int .i64 (c.n 46), .int .i64 (c.n 47), .int .i64 (c.n 48), .int .i64 (c.n 49), .int .i64 (c.n 50), .int .i64 (c.n 51), c.s, .int .i64 (c.n 53), .int .i64 (c.n 54), .int .i64 (c.n 55), .int .i64 (c.n 56), .int .i64 (c.n 57), .int .i64 (c.n 58)] ∧ Below w.heap.size w wx) ⟨Blk.new _ _ _, below_alloc (Below.refl _ _) _⟩ ?_
  rintro wx ⟨hbk, hb⟩
  have x1 : wx.cell? ⟨w.heap.size, 57, none⟩ = some (.int .i64 (c.n 57)) := hbk.cell 57
  have x2 : wx.cell? ⟨w.heap.size, 58, none⟩ = some (.int .i64 (c.n 58)) := hbk.cell 58
  have HBK := Lib.hid hbk
  have HB := Lib.hid hb
  have HFR := Lib.hid hfr
  clear hbk hb hfr
  go_wp2_with fail
  refine (RHold_any _ _).mono ?_; rintro e w' ⟨rfl, rfl⟩
  go_wp2_with fail
  refine (RUp_any _ _ _).mono ?_; rintro e w' ⟨rfl, rfl⟩
  rw [← HM.out]
  clear x1 x2
  go_upto_region 2 with fail
  refine wp_region_list ?_
  refine wpList_load_whole rfl 36 (.tmp 1) rfl w.heap.size rfl HBK.out Try.underlying36 rfl (by kernel_rfl) ?_
  by_cases hlt : fr < mo
  · have d1 : decide (fr < mo) = true := decide_eq_true hlt
    have HMIN : Hid (min mo fr = fr) := Lib.hid (by omega)
    go_wp2_with fail
    refine (HFR.out _).mono ?_; rintro e w2 ⟨rfl, hb2⟩
    have HB2 := Lib.hid hb2
    have HBK2 := Lib.hid (HBK.out.of_kept (hb2.block _ HBK.out.lt))
    clear hb2
    go_upto_region 3 with fail
    refine wp_region_list ?_
    refine wpList_load_whole rfl 36 (.tmp 1) rfl w.heap.size rfl HBK2.out Try.underlying36 rfl (by kernel_rfl) ?_
    go_wp2_with fail
    refine (HFR.out _).mono ?_; rintro e w3 ⟨rfl, hb3⟩
    have HB3 := Lib.hid hb3
    have hbk3 := HBK2.out.of_kept (hb3.block _ HBK2.out.lt)
    have x1 : w3.cell? ⟨w.heap.size, 57, none⟩ = some (.int .i64 (c.n 57)) := hbk3.cell 57
    clear hb3 hbk3
    go_wp2_with fail
    refine (RHold_any _ _).mono ?_; rintro e w' ⟨rfl, rfl⟩
    go_wp2_with fail
    refine (RUp_any _ _ _).mono ?_; rintro e w' ⟨rfl, rfl⟩
    rw [← HL.out]
    go_wp2_with fail
    refine (RUp_any _ _ _).mono ?_; rintro e w' ⟨rfl, rfl⟩
    go_wp2_with fail
    go_ret
    exact ⟨ret_int (by rw [HE.out, HMIN.out]), below_then (below_then HB.out HB2.out) HB3.out⟩
  · have d1 : decide (fr < mo) = false := decide_eq_false hlt
    have HMIN : Hid (min mo fr = mo) := Lib.hid (by omega)
    go_wp2_with fail
    refine (HFR.out _).mono ?_; rintro e w2 ⟨rfl, hb2⟩
    have HB2 := Lib.hid hb2
    have hbk3 := HBK.out.of_kept (hb2.block _ HBK.out.lt)
    have x1 : w2.cell? ⟨w.heap.size, 57, none⟩ = some (.int .i64 (c.n 57)) := hbk3.cell 57
    clear hb2 hbk3
    go_wp2_with fail
    refine (RHold_any _ _).mono ?_; rintro e w' ⟨rfl, rfl⟩
    go_wp2_with fail
    refine (RUp_any _ _ _).mono ?_; rintro e w' ⟨rfl, rfl⟩
    rw [← HL.out]
    go_wp2_with fail
    refine (RUp_any _ _ _).mono ?_; rintro e w' ⟨rfl, rfl⟩
    go_wp2_with fail
    go_ret
    exact ⟨ret_int (by rw [HE.out, HMIN.out]), below_then HB.out HB2.out⟩

end Go.Proofs.Ytdddlnemlpgnlaa
