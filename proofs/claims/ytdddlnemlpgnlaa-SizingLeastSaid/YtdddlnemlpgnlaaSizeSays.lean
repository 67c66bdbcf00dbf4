/- Sizing: what a size says of a width. -/
import Derived.Test.YtdddlnemlpgnlaaSizeFree
namespace Go.Proofs.Ytdddlnemlpgnlaa
open Go.RowKit
set_option linter.unusedSimpArgs false
set_option linter.unusedVariables false
attribute [local go_sem] cell?_ext frozen?_ext lt_size_ext

def Cs.sayW (c : Cs) (k n : Int) : Int × Bool :=
  if k = 1 ∨ k = 2 then (c.box (sideF k n (c.n 55)) (c.pr 3 1), true) else if k = 3 then (c.lea, true) else if k = 4 then (c.mos, true) else if k = 5 then (c.fit, true) else (0, false)

set_option maxRecDepth 20000 in
set_option maxHeartbeats 4000000 in
theorem RSaysW_any (c : Cs) (k n : Int) (w : World) : Calls Try.prog 27 #[c.val, .agg #[.int .i64 k, .int .i64 n]] w
    fun e w' => e = .returned (.tuple #[.int .i64 (c.sayW k n).1, .bool (c.sayW k n).2]) ∧ Below w.heap.size w w' := by
  have hsd := fun w => RSide_any k n (c.n 55) w
  have hac : ∀ w, Calls Try.prog 16 #[.agg #[.int .i64 (c.n 0), .bool c.b, .int .i64 (c.n 2), .int .i64 (c.n 3), .int .i64 (c.n 4), .int .i64 (c.n 5), .int .i64 (c.n 6), .int .i64 (c.n 7), .int .i64 (c.n 8), .int .i64 (c.n 9), .int .i64 (c.n 10), .int .i64 (c.n 11), .int .i64 (c.n 12), .int .i64 (c.n 13), .int .i64 (c.n 14), .int .i64 (c.n 15), .int .i64 (c.n 16), .int .i64 (c.n 17), .int .i64 (c.n 18), .int .i64 (c.n 19), .int .i64 (c.n 20), .int .i64 (c.n 21), .int .i64 (c.n 22), .int .i64 (c.n 23), .int .i64 (c.n 24), .int .i64 (c.n 25), .int .i64 (c.n 26), .int .i64 (c.n 27), .int .i64 (c.n 28), .int .i64 (c.n 29), .int .i64 (c.n 30), .int .i64 (c.n 31), .int .i64 (c.n 32), .int .i64 (c.n 33), .int .i64 (c.n 34), .int .i64 (c.n 35), .int .i64 (c.n 36), .int .i64 (c.n 37), .int .i64 (c.n 38), .int .i64 (c.n 39), .int .i64 (c.n 40), .int .i64 (c.n 41), .int .i64 (c.n 42), .int .i64 (c.n 43), .int .i64 (c.n 44), .int .i64 (c.n 45), .int .i64 (c.n 46), .int .i64 (c.n 47), .int .i64 (c.n 48), .int .i64 (c.n 49), .int .i64 (c.n 50), .int .i64 (c.n 51), c.s, .int .i64 (c.n 53), .int .i64 (c.n 54), .int .i64 (c.n 55), .int .i64 (c.n 56), .int .i64 (c.n 57), .int .i64 (c.n 58)]] w fun e w' => e = .returned (.int .i64 (c.pr 3 1)) ∧ Below w.heap.size w w' := fun w => Across_any c w
  have hbx : ∀ a x w, Calls Try.prog 44 #[.agg #[.int .i64 (c.n 0), .bool c.b, .int .i64 (c.n 2), .int .i64 (c.n 3), .int .i64 (c.n 4), .int .i64 (c.n 5), .int .i64 (c.n 6), .int .i64 (c.n 7), .int .i64 (c.n 8), .int .i64 (c.n 9), .int .i64 (c.n 10), .int .i64 (c.n 11), .int .i64 (c.n 12), .int .i64 (c.n 13), .int .i64 (c.n 14), .int .i64 (c.n 15), .int .i64 (c.n 16), .int .i64 (c.n 17), .int .i64 (c.n 18), .int .i64 (c.n 19), .int .i64 (c.n 20), .int .i64 (c.n 21), .int .i64 (c.n 22), .int .i64 (c.n 23), .int .i64 (c.n 24), .int .i64 (c.n 25), .int .i64 (c.n 26), .int .i64 (c.n 27), .int .i64 (c.n 28), .int .i64 (c.n 29), .int .i64 (c.n 30), .int .i64 (c.n 31), .int .i64 (c.n 32), .int .i64 (c.n 33), .int .i64 (c.n 34), .int .i64 (c.n 35), .int .i64 (c.n 36), .int .i64 (c.n 37), .int .i64 (c.n 38), .int .i64 (c.n 39), .int .i64 (c.n 40), .int .i64 (c.n 41), .int .i64 (c.n 42), .int .i64 (c.n 43), .int .i64 (c.n 44), .int .i64 (c.n 45), .int .i64 (c.n 46), .int .i64 (c.n 47), .int .i64 (c.n 48), .int .i64 (c.n 49), .int .i64 (c.n 50), .int .i64 (c.n 51), c.s, .int .i64 (c.n 53), .int .i64 (c.n 54), .int .i64 (c.n 55), .int .i64 (c.n 56), .int .i64 (c.n 57), .int .i64 (c.n 58)], .int .i64 a, .int .i64 x] w fun e w' => e = .returned (.int .i64 (c.box a x)) ∧ Below w.heap.size w w' := fun a x w => RBox_any c a x w
  have hfi : ∀ w, Calls Try.prog 45 #[.agg #[.int .i64 (c.n 0), .bool c.b, .int .i64 (c.n 2), .int .i64 (c.n 3), .int .i64 (c.n 4), .int .i64 (c.n 5), .int .i64 (c.n 6), .int .i64 (c.n 7), .int .i64 (c.n 8), .int .i64 (c.n 9), .int .i64 (c.n 10), .int .i64 (c.n 11), .int .i64 (c.n 12), .int .i64 (c.n 13), .int .i64 (c.n 14), .int .i64 (c.n 15), .int .i64 (c.n 16), .int .i64 (c.n 17), .int .i64 (c.n 18), .int .i64 (c.n 19), .int .i64 (c.n 20), .int .i64 (c.n 21), .int .i64 (c.n 22), .int .i64 (c.n 23), .int .i64 (c.n 24), .int .i64 (c.n 25), .int .i64 (c.n 26), .int .i64 (c.n 27), .int .i64 (c.n 28), .int .i64 (c.n 29), .int .i64 (c.n 30), .int .i64 (c.n 31), .int .i64 (c.n 32), .int .i64 (c.n 33), .int .i64 (c.n 34), .int .i64 (c.n 35), .int .i64 (c.n 36), .int .i64 (c.n 37), .int .i64 (c.n 38), .int .i64 (c.n 39), .int .i64 (c.n 40), .int .i64 (c.n 41), .int .i64 (c.n 42), .int .i64 (c.n 43), .int .i64 (c.n 44), .int .i64 (c.n 45), .int .i64 (c.n 46), .int .i64 (c.n 47), .int .i64 (c.n 48), .int .i64 (c.n 49), .int .i64 (c.n 50), .int .i64 (c.n 51), c.s, .int .i64 (c.n 53), .int .i64 (c.n 54), .int .i64 (c.n 55), .int .i64 (c.n 56), .int .i64 (c.n 57), .int .i64 (c.n 58)]] w fun e w' => e = .returned (.int .i64 c.fit) ∧ Below w.heap.size w w' := fun w => RFitted_any c w
  have HD : Hid (c.sayW k n = if k = 1 ∨ k = 2 then (c.box (sideF k n (c.n 55)) (c.pr 3 1), true) else if k = 3 then (c.lea, true) else if k = 4 then (c.mos, true) else if k = 5 then (c.fit, true) else (0, false)) := Lib.hid rfl
  have HM : Hid (c.mos = max (hold (c.n 58)) 0) := Lib.hid rfl
  have HL : Hid (c.lea = max (hold (c.n 57)) 0) := Lib.hid rfl
  generalize c.sayW k n = res at *
  generalize sideF k n (c.n 55) = sd at *
  generalize c.pr 3 1 = ac at *
  generalize c.fit = fi at *
  unfold Cs.val
  go_enter Try.func27, Try.ntmps27
  go_upto_region 1 with fail
  refine at_any (fun wx => Blk wx w.heap.size 36 #[.int .i64 (c.n 0), .bool c.b, .int .i64 (c.n 2), .int .i64 (c.n 3), .int .i64 (c.n 4), .int .i64 (c.n 5), .int .i64 (c.n 6), .int .i64 (c.n 7), .int .i64 (c.n 8), .int .i64 (c.n 9), .int .i64 (c.n 10), .int .i64 (c.n 11), .int .i64 (c.n 12), .int .i64 (c.n 13), .int .i64 (c.n 14), .int .i64 (c.n 15), .int .i64 (c.n 16), .int .i64 (c.n 17), .int .i64 (c.n 18), .int .i64 (c.n 19), .int .i64 (c.n 20), .int .i64 (c.n 21), .int .i64 (c.n 22), .int .i64 (c.n 23), .int .i64 (c.n 24), .int .i64 (c.n 25), .int .i64 (c.n 26), .int .i64 (c.n 27), .int .i64 (c.n 28), .int .i64 (c.n 29), .int .i64 (c.n 30), .int .i64 (c.n 31), .int .i64 (c.n 32), .int .i64 (c.n 33), .int .i64 (c.n 34), .int .i64 (c.n 35), .int .i64 (c.n 36), .int .i64 (c.n 37), .int .i64 (c.n 38), .int .i64 (c.n 39), .int .i64 (c.n 40), .int .i64 (c.n 41), .int .i64 (c.n 42), .int .i64 (c.n 43), .int .i64 (c.n 44), .int .i64 (c.n 45), .int .i64 (c.n 46), .int .i64 (c.n 47), .int .i64 (c.n 48), .int .i64 (c.n 49), .int .i64 (c.n 50), .int .i64 (c.n 51), c.s, .int .i64 (c.n 53), .int .i64 (c.n 54), .int .i64 (c.n 55), .int .i64 (c.n 56), .int .i64 (c.n 57), .int .i64 (c.n 58)] ∧ Blk wx (w.heap.size + 1) 23 #[.int .i64 k, .int .i64 n] ∧ Below w.heap.size w wx)
    ⟨(Blk.new _ _ _).alloc _, (by have h := Blk.new (w.alloc (.cells #[.int .i64 (c.n 0), .bool c.b, .int .i64 (c.n 2), .int .i64 (c.n 3), .int .i64 (c.n 4), .int .i64 (c.n 5), .int .i64 (c.n 6), .int .i64 (c.n 7), .int .i64 (c.n 8), .int .i64 (c.n 9), .int .i64 (c.n 10), .int .i64 (c.n 11), .int .i64 (c.n 12), .int .i64 (c.n 13), .int .i64 (c.n 14), .int .i64 (c.n 15), .int .i64 (c.n 16), .int .i64 (c.n 17), .int .i64 (c.n 18), .int .i64 (c.n 19), .int .i64 (c.n 20), .int .i64 (c.n 21), .int .i64 (c.n 22), .int .i64 (c.n 23), .int .i64 (c.n 24), .int .i64 (c.n 25), .int .i64 (c.n 26), .int .i64 (c.n 27), .int .i64 (c.n 28), .int .i64 (c.n 29), .int .i64 (c.n 30), .int .i64 (c.n 31), .int .i64 (c.n 32), .int .i64 (c.n 33), .int .i64 (c.n 34), .int .i64 (c.n 35), .int .i64 (c.n 36), .int .i64 (c.n 37), .int .i64 (c.n 38), .int .i64 (c.n 39), .int .i64 (c.n 40), .int .i64 (c.n 41), .int .i64 (c.n 42), .int .i64 (c.n 43), .int .i64 (c.n 44), .int .i64 (c.n 45), .int .i64 (c.n 46), .int .i64 (c.n 47), .int .i64 (c.n 48), .int .i64 (c.n 49), .int .i64 (c.n 50), .int .i64 (c.n 51), c.s, .int .i64 (c.n 53), .int .i64 (c.n 54), .int .i64 (c.n 55), .int .i64 (c.n 56), .int .i64 (c.n 57), .int .i64 (c.n 58)] 36)) 23 #[.int .i64 k, .int .i64 n]; rw [World.size_alloc] at h; exact h), below_alloc (below_alloc (Below.refl _ _) _) _⟩ ?_
  rintro wx ⟨hbk, hbz, hb⟩
  have x1 : wx.cell? ⟨w.heap.size, 57, none⟩ = some (.int .i64 (c.n 57)) := hbk.cell 57
  have x2 : wx.cell? ⟨w.heap.size, 58, none⟩ = some (.int .i64 (c.n 58)) := hbk.cell 58
  have x3 : wx.cell? ⟨w.heap.size, 55, none⟩ = some (.int .i64 (c.n 55)) := hbk.cell 55
  have z0 : wx.cell? ⟨w.heap.size + 1, 0, none⟩ = some (.int .i64 k) := hbz.cell 0
  have z1 : wx.cell? ⟨w.heap.size + 1, 1, none⟩ = some (.int .i64 n) := hbz.cell 1
  have xl := hbk.lt
  have zl := hbz.lt
  have HBK := Lib.hid hbk
  have HB := Lib.hid hb
  clear hbk hb hbz
  by_cases h1 : k = 1
  · have HE : Hid (res = (c.box sd ac, true)) := Lib.hid (by rw [HD.out, if_pos (.inl h1)])
    have e1 : (k == 1) = true := by rw [h1]; rfl
    clear h1
    go_upto_region 4 with fail
    refine wp_region_ext (by kernel_rfl) (by kernel_rfl) ?_
    repeat (first
      | (refine wpQuiet_load_whole (by simp [Region.wanted]) 36 (.tmp 2) rfl w.heap.size rfl HBK.out Try.underlying36 rfl (by kernel_rfl) ?_
         simp only [Act.put, List.setIfInBounds_toArray, List.set_cons_zero, List.set_cons_succ])
      | (go_big_quiet_step ((first | (go_at_call 13; exact quiet_ext (hsd _)) | (go_at_call 16; exact quiet_ext (hac _)) | (go_at_call 44; exact quiet_ext (hbx _ _ _))))))
    refine wpQuiet_nil ?_
    intro w2 hw2
    have hb2 := (grown_rules hw2).2.2.2
    have HB2 := Lib.hid hb2
    clear hw2 hb2
    go_wp2_with fail
    refine bodyPost_ret (v := .tuple #[.int .i64 (c.box sd ac), .bool true]) (by simp [results, Try.results27, go_sem]) rfl ?_
    exact ⟨by rw [HE.out], below_then HB.out HB2.out⟩
  · have e1 : (k == 1) = false := beq_false_of_ne h1
    by_cases h2 : k = 2
    · have HE : Hid (res = (c.box sd ac, true)) := Lib.hid (by rw [HD.out, if_pos (.inr h2)])
      have e2 : (k == 2) = true := by rw [h2]; rfl
      clear h1 h2
      go_upto_region 4 with fail
      refine wp_region_ext (by kernel_rfl) (by kernel_rfl) ?_
      repeat (first
        | (refine wpQuiet_load_whole (by simp [Region.wanted]) 36 (.tmp 2) rfl w.heap.size rfl HBK.out Try.underlying36 rfl (by kernel_rfl) ?_
           simp only [Act.put, List.setIfInBounds_toArray, List.set_cons_zero, List.set_cons_succ])
        | (go_big_quiet_step ((first | (go_at_call 13; exact quiet_ext (hsd _)) | (go_at_call 16; exact quiet_ext (hac _)) | (go_at_call 44; exact quiet_ext (hbx _ _ _))))))
      refine wpQuiet_nil ?_
      intro w2 hw2
      have hb2 := (grown_rules hw2).2.2.2
      have HB2 := Lib.hid hb2
      clear hw2 hb2
      go_wp2_with fail
      refine bodyPost_ret (v := .tuple #[.int .i64 (c.box sd ac), .bool true]) (by simp [results, Try.results27, go_sem]) rfl ?_
      exact ⟨by rw [HE.out], below_then HB.out HB2.out⟩
    · have e2 : (k == 2) = false := beq_false_of_ne h2
      have hn : ¬ (k = 1 ∨ k = 2) := fun h => h.elim h1 h2
      by_cases h3 : k = 3
      · have HE : Hid (res = (c.lea, true)) := Lib.hid (by rw [HD.out, if_neg hn, if_pos h3])
        have e3 : (k == 3) = true := by rw [h3]; rfl
        clear h1 h2 h3 hn
        go_wp2_with fail
        refine (RHold_any _ _).mono ?_; rintro e w' ⟨rfl, rfl⟩
        go_wp2_with fail
        refine (RUp_any _ _ _).mono ?_; rintro e w' ⟨rfl, rfl⟩
        rw [← HL.out]
        go_wp2_with fail
        refine bodyPost_ret (v := .tuple #[.int .i64 c.lea, .bool true]) (by simp [results, Try.results27, go_sem]) rfl ?_
        exact ⟨by rw [HE.out], HB.out⟩
      · have e3 : (k == 3) = false := beq_false_of_ne h3
        by_cases h4 : k = 4
        · have HE : Hid (res = (c.mos, true)) := Lib.hid (by rw [HD.out, if_neg hn, if_neg h3, if_pos h4])
          have e4 : (k == 4) = true := by rw [h4]; rfl
          clear h1 h2 h3 h4 hn
          go_wp2_with fail
          refine (RHold_any _ _).mono ?_; rintro e w' ⟨rfl, rfl⟩
          go_wp2_with fail
          refine (RUp_any _ _ _).mono ?_; rintro e w' ⟨rfl, rfl⟩
          rw [← HM.out]
          go_wp2_with fail
          refine bodyPost_ret (v := .tuple #[.int .i64 c.mos, .bool true]) (by simp [results, Try.results27, go_sem]) rfl ?_
          exact ⟨by rw [HE.out], HB.out⟩
        · have e4 : (k == 4) = false := beq_false_of_ne h4
          by_cases h5 : k = 5
          · have HE : Hid (res = (fi, true)) := Lib.hid (by rw [HD.out, if_neg hn, if_neg h3, if_neg h4, if_pos h5])
            have e5 : (k == 5) = true := by rw [h5]; rfl
            clear h1 h2 h3 h4 h5 hn
            go_upto_region 10 with fail
            refine wp_region_list ?_
            refine wpList_load_whole rfl 36 (.tmp 2) rfl w.heap.size rfl HBK.out Try.underlying36 rfl (by kernel_rfl) ?_
            go_wp2_with fail
            refine (hfi _).mono ?_; rintro e w2 ⟨rfl, hb2⟩
            have HB2 := Lib.hid hb2
            clear hb2
            go_wp2_with fail
            refine bodyPost_ret (v := .tuple #[.int .i64 fi, .bool true]) (by simp [results, Try.results27, go_sem]) rfl ?_
            exact ⟨by rw [HE.out], below_then HB.out HB2.out⟩
          · have e5 : (k == 5) = false := beq_false_of_ne h5
            have HE : Hid (res = (0, false)) := Lib.hid (by rw [HD.out, if_neg hn, if_neg h3, if_neg h4, if_neg h5])
            clear h1 h2 h3 h4 h5 hn
            go_wp2_with fail
            refine bodyPost_ret (v := .tuple #[.int .i64 0, .bool false]) (by simp [results, Try.results27, go_sem]) rfl ?_
            exact ⟨by rw [HE.out], HB.out⟩

end Go.Proofs.Ytdddlnemlpgnlaa
