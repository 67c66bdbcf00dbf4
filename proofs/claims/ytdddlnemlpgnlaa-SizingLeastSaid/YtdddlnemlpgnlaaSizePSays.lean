/- Sizing: the program's worth, across, down, SaysW, SaysH. -/
import Derived.Test.YtdddlnemlpgnlaaSizePTall
import Derived.Test.YtdddlnemlpgnlaaSizeHigh
namespace Go.Proofs.Ytdddlnemlpgnlaa
open Go.RowKit
set_option linter.unusedSimpArgs false
set_option linter.unusedVariables false
attribute [local go_sem] cell?_ext frozen?_ext lt_size_ext

def worthF (k n b : Int) : Int × Bool := if k = 1 then (hold n, true) else if k = 2 then (partH b n 100000, decide (0 ≤ b)) else (0, false)

set_option maxHeartbeats 4000000 in
theorem worth_any (k n b : Int) (w : World) : Calls Try.prog 58 #[.agg #[.int .i64 k, .int .i64 n], .int .i64 b] w fun e w' => e = .returned (.tuple #[.int .i64 (worthF k n b).1, .bool (worthF k n b).2]) ∧ Below w.heap.size w w' := by
  have hb := below_alloc (Below.refl w.heap.size w) (.cells #[.int .i64 k, .int .i64 n] 23)
  have HB := Lib.hid hb
  have HD : Hid (worthF k n b = if k = 1 then (hold n, true) else if k = 2 then (partH b n 100000, decide (0 ≤ b)) else (0, false)) := Lib.hid rfl
  generalize worthF k n b = res at *
  clear hb
  by_cases h1 : k = 1
  · have HE : Hid (res = (hold n, true)) := Lib.hid (by rw [HD.out, if_pos h1])
    have e1 : (k == 1) = true := by rw [h1]; rfl
    clear h1
    go_enter Try.func58, Try.ntmps58
    go_wp2_with fail
    refine (Hold_any _ _).mono ?_; rintro e w' ⟨rfl, rfl⟩
    go_wp2_with fail
    refine bodyPost_ret (v := .tuple #[.int .i64 (hold n), .bool true]) (by simp [results, Try.results58, go_sem]) rfl ?_
    exact ⟨by rw [HE.out], HB.out⟩
  · have e1 : (k == 1) = false := beq_false_of_ne h1
    by_cases h2 : k = 2
    · have HE : Hid (res = (partH b n 100000, decide (0 ≤ b))) := Lib.hid (by rw [HD.out, if_neg h1, if_pos h2])
      have e2 : (k == 2) = true := by rw [h2]; rfl
      clear h1 h2
      go_enter Try.func58, Try.ntmps58
      go_wp2_with fail
      refine (Percent_any _ _ _).mono ?_; rintro e w' ⟨rfl, rfl⟩
      go_wp2_with fail
      refine bodyPost_ret (v := .tuple #[.int .i64 (partH b n 100000), .bool (decide (0 ≤ b))]) (by simp [results, Try.results58, go_sem]) rfl ?_
      exact ⟨by rw [HE.out], HB.out⟩
    · have HE : Hid (res = (0, false)) := Lib.hid (by rw [HD.out, if_neg h1, if_neg h2])
      have e2 : (k == 2) = false := beq_false_of_ne h2
      clear h1 h2
      go_enter Try.func58, Try.ntmps58
      go_wp2_with fail
      refine bodyPost_ret (v := .tuple #[.int .i64 0, .bool false]) (by simp [results, Try.results58, go_sem]) rfl ?_
      exact ⟨by rw [HE.out], HB.out⟩

theorem box_hold (c : Cs) (n x : Int) : c.box (hold n) x = c.box n x := by
  unfold Cs.box
  rw [hold_hold]
  split
  · rfl
  · have : hold (max (hold n) 0) = hold (max n 0) := by unfold hold; (repeat' split) <;> omega
    unfold addH
    rw [this]
theorem sayH_of_worth (c : Cs) (k n : Int) : c.sayH k n = if (worthF k n (hold (c.n 56))).2 = true then (c.box (worthF k n (hold (c.n 56))).1 (c.pr 0 2), true) else (0, false) := by
  unfold Cs.sayH worthF
  by_cases h1 : k = 1
  · simp [h1, box_hold]
  · by_cases h2 : k = 2
    · have e : partH (hold (c.n 56)) n 100000 = partH (c.n 56) n 100000 := by unfold partH; rw [hold_hold]
      by_cases h3 : 0 ≤ c.n 56
      · have h4 : 0 ≤ hold (c.n 56) := (hold_nonneg _).2 h3
        simp [h1, h2, h3, h4, e]
      · have h4 : ¬ 0 ≤ hold (c.n 56) := fun h => h3 ((hold_nonneg _).1 h)
        simp [h1, h2, h3, h4]
    · simp [h1, h2]

set_option maxRecDepth 20000 in
set_option maxHeartbeats 4000000 in
theorem across_any (c : Cs) (k n : Int) (w : World) : Calls Try.prog 39 #[c.val, .agg #[.int .i64 k, .int .i64 n]] w fun e w' => e = .returned (.tuple #[.int .i64 (c.sayW k n).1, .bool (c.sayW k n).2]) ∧ Below w.heap.size w w' := by
  have haw : ∀ w, Calls Try.prog 15 #[.agg c.cells] w fun e w' => e = .returned (.tuple #[.int .i64 (c.pr 3 1), .int .i64 (c.pr 0 2)]) ∧ Below w.heap.size w w' := fun w => Around_any c w
  have hed : ∀ k n : Int, ∀ w, Calls Try.prog 32 #[.agg c.cells, .agg #[.int .i64 k, .int .i64 n]] w fun e w' => e = .returned (.int .i64 (sideF k n (c.n 55))) ∧ Below w.heap.size w w' := fun k n w => edge_any c k n w
  have hbx : ∀ a x : Int, ∀ w, Calls Try.prog 54 #[.agg c.cells, .int .i64 a, .int .i64 x] w fun e w' => e = .returned (.int .i64 (c.box a x)) ∧ Below w.heap.size w w' := fun a x w => box_any c a x w
  have hle : ∀ w, Calls Try.prog 55 #[.agg c.cells] w fun e w' => e = .returned (.int .i64 c.lea) ∧ Below w.heap.size w w' := fun w => least_any c w
  have hmo : ∀ w, Calls Try.prog 56 #[.agg c.cells] w fun e w' => e = .returned (.int .i64 c.mos) ∧ Below w.heap.size w w' := fun w => most_any c w
  have hfi : ∀ w, Calls Try.prog 57 #[.agg c.cells] w fun e w' => e = .returned (.int .i64 c.fit) ∧ Below w.heap.size w w' := fun w => fitted_any c w
  have HD : Hid (c.sayW k n = if k = 1 ∨ k = 2 then (c.box (sideF k n (c.n 55)) (c.pr 3 1), true) else if k = 3 then (c.lea, true) else if k = 4 then (c.mos, true) else if k = 5 then (c.fit, true) else (0, false)) := Lib.hid rfl
  generalize c.sayW k n = res at *
  generalize c.pr 3 1 = ac at *
  generalize c.pr 0 2 = dn at *
  generalize c.fit = fi at *
  generalize c.mos = mo at *
  generalize c.lea = le at *
  rw [c.val_eq]
  go_enter Try.func39, Try.ntmps39
  go_upto_region 1 with fail
  refine at_any (fun wx => Blk wx w.heap.size 29 c.cells ∧ Blk wx (w.heap.size + 1) 23 #[.int .i64 k, .int .i64 n] ∧ Below w.heap.size w wx) ⟨(Blk.new _ _ _).alloc _, Blk.new_at (by simp), below_alloc (below_alloc (Below.refl _ _) _) _⟩ ?_
  rintro wx ⟨hbk, hbz, hb⟩
  have HBZ := Lib.hid hbz
  have HBK := Lib.hid hbk
  have HB := Lib.hid hb
  clear hbk hb hbz
  refine wp_region_list ?_
  refine wpList_load_whole rfl 29 (.tmp 2) rfl w.heap.size rfl HBK.out Try.underlying29 rfl (by kernel_rfl) ?_
  go_wp2_with fail
  refine (haw _).mono ?_; rintro e w2 ⟨rfl, hb2⟩
  have HBw2 := Lib.hid (below_then HB.out hb2)
  have HBKw2 := Lib.hid (HBK.out.then_ hb2)
  have HBZw2 := Lib.hid (HBZ.out.then_ hb2)
  clear hb2 haw
  have z0 : w2.cell? ⟨w.heap.size + 1, 0, none⟩ = some (.int .i64 k) := HBZw2.out.cell 0
  have z1 : w2.cell? ⟨w.heap.size + 1, 1, none⟩ = some (.int .i64 n) := HBZw2.out.cell 1
  have xl := HBKw2.out.lt
  have zl := HBZw2.out.lt
  by_cases h1 : k = 1
  · have HE : Hid (res = (c.box (sideF k n (c.n 55)) ac, true)) := Lib.hid (by rw [HD.out, if_pos (.inl h1)])
    have e1 : (k == 1) = true := by rw [h1]; rfl
    clear h1
    go_upto_region 5 with fail
    refine wp_region_ext (by kernel_rfl) (by kernel_rfl) ?_
    repeat (first
      | (refine wpQuiet_load_whole (by simp [Region.wanted]) 29 (.tmp 2) rfl w.heap.size rfl HBKw2.out Try.underlying29 rfl (by kernel_rfl) ?_
         simp only [Act.put, List.setIfInBounds_toArray, List.set_cons_zero, List.set_cons_succ])
      | (go_big_quiet_step ((first | (go_at_call 32; exact quiet_ext (hed _ _ _)) | (go_at_call 54; exact quiet_ext (hbx _ _ _))))))
    refine wpQuiet_nil ?_
    intro wq hwq
    have hbq := (grown_rules hwq).2.2.2
    have HBq := Lib.hid (below_then HBw2.out hbq)
    clear hwq hbq
    go_wp2_with fail
    refine bodyPost_ret (v := .tuple #[.int .i64 (c.box (sideF k n (c.n 55)) ac), .bool true]) (by simp [results, Try.results39, go_sem]) rfl ?_
    exact ⟨by rw [HE.out], HBq.out⟩
  have e1 : (k == 1) = false := beq_false_of_ne h1
  by_cases h2 : k = 2
  · have HE : Hid (res = (c.box (sideF k n (c.n 55)) ac, true)) := Lib.hid (by rw [HD.out, if_pos (.inr h2)])
    have e2 : (k == 2) = true := by rw [h2]; rfl
    clear h1 h2
    go_upto_region 5 with fail
    refine wp_region_ext (by kernel_rfl) (by kernel_rfl) ?_
    repeat (first
      | (refine wpQuiet_load_whole (by simp [Region.wanted]) 29 (.tmp 2) rfl w.heap.size rfl HBKw2.out Try.underlying29 rfl (by kernel_rfl) ?_
         simp only [Act.put, List.setIfInBounds_toArray, List.set_cons_zero, List.set_cons_succ])
      | (go_big_quiet_step ((first | (go_at_call 32; exact quiet_ext (hed _ _ _)) | (go_at_call 54; exact quiet_ext (hbx _ _ _))))))
    refine wpQuiet_nil ?_
    intro wq hwq
    have hbq := (grown_rules hwq).2.2.2
    have HBq := Lib.hid (below_then HBw2.out hbq)
    clear hwq hbq
    go_wp2_with fail
    refine bodyPost_ret (v := .tuple #[.int .i64 (c.box (sideF k n (c.n 55)) ac), .bool true]) (by simp [results, Try.results39, go_sem]) rfl ?_
    exact ⟨by rw [HE.out], HBq.out⟩
  have e2 : (k == 2) = false := beq_false_of_ne h2
  have hn : ¬ (k = 1 ∨ k = 2) := fun h => h.elim h1 h2
  by_cases h3 : k = 3
  · have HE : Hid (res = (le, true)) := Lib.hid (by rw [HD.out, if_neg hn, if_pos h3])
    have e3 : (k == 3) = true := by rw [h3]; rfl
    clear h1 h2 h3 hn
    go_upto_region 7 with fail
    refine wp_region_list ?_
    refine wpList_load_whole rfl 29 (.tmp 2) rfl w.heap.size rfl HBKw2.out Try.underlying29 rfl (by kernel_rfl) ?_
    go_wp2_with fail
    refine (hle _).mono ?_; rintro e w3 ⟨rfl, hb3⟩
    have HBw3 := Lib.hid (below_then HBw2.out hb3)
    clear hb3
    go_wp2_with fail
    refine bodyPost_ret (v := .tuple #[.int .i64 le, .bool true]) (by simp [results, Try.results39, go_sem]) rfl ?_
    exact ⟨by rw [HE.out], HBw3.out⟩
  have e3 : (k == 3) = false := beq_false_of_ne h3
  by_cases h4 : k = 4
  · have HE : Hid (res = (mo, true)) := Lib.hid (by rw [HD.out, if_neg hn, if_neg h3, if_pos h4])
    have e4 : (k == 4) = true := by rw [h4]; rfl
    clear h1 h2 h3 h4 hn
    go_upto_region 9 with fail
    refine wp_region_list ?_
    refine wpList_load_whole rfl 29 (.tmp 2) rfl w.heap.size rfl HBKw2.out Try.underlying29 rfl (by kernel_rfl) ?_
    go_wp2_with fail
    refine (hmo _).mono ?_; rintro e w3 ⟨rfl, hb3⟩
    have HBw3 := Lib.hid (below_then HBw2.out hb3)
    clear hb3
    go_wp2_with fail
    refine bodyPost_ret (v := .tuple #[.int .i64 mo, .bool true]) (by simp [results, Try.results39, go_sem]) rfl ?_
    exact ⟨by rw [HE.out], HBw3.out⟩
  have e4 : (k == 4) = false := beq_false_of_ne h4
  by_cases h5 : k = 5
  · have HE : Hid (res = (fi, true)) := Lib.hid (by rw [HD.out, if_neg hn, if_neg h3, if_neg h4, if_pos h5])
    have e5 : (k == 5) = true := by rw [h5]; rfl
    clear h1 h2 h3 h4 h5 hn
    go_upto_region 11 with fail
    refine wp_region_list ?_
    refine wpList_load_whole rfl 29 (.tmp 2) rfl w.heap.size rfl HBKw2.out Try.underlying29 rfl (by kernel_rfl) ?_
    go_wp2_with fail
    refine (hfi _).mono ?_; rintro e w3 ⟨rfl, hb3⟩
    have HBw3 := Lib.hid (below_then HBw2.out hb3)
    clear hb3
    go_wp2_with fail
    refine bodyPost_ret (v := .tuple #[.int .i64 fi, .bool true]) (by simp [results, Try.results39, go_sem]) rfl ?_
    exact ⟨by rw [HE.out], HBw3.out⟩
  have e5 : (k == 5) = false := beq_false_of_ne h5
  have HE : Hid (res = (0, false)) := Lib.hid (by rw [HD.out, if_neg hn, if_neg h3, if_neg h4, if_neg h5])
  clear h1 h2 h3 h4 h5 hn
  go_wp2_with fail
  refine bodyPost_ret (v := .tuple #[.int .i64 0, .bool false]) (by simp [results, Try.results39, go_sem]) rfl ?_
  exact ⟨by rw [HE.out], HBw2.out⟩

set_option maxRecDepth 20000 in
set_option maxHeartbeats 4000000 in
theorem downC_any (c : Cs) (k n : Int) (w : World) : Calls Try.prog 40 #[c.val, .agg #[.int .i64 k, .int .i64 n]] w fun e w' => e = .returned (.tuple #[.int .i64 (c.sayH k n).1, .bool (c.sayH k n).2]) ∧ Below w.heap.size w w' := by
  have haw : ∀ w, Calls Try.prog 15 #[.agg c.cells] w fun e w' => e = .returned (.tuple #[.int .i64 (c.pr 3 1), .int .i64 (c.pr 0 2)]) ∧ Below w.heap.size w w' := fun w => Around_any c w
  have hbx : ∀ a x : Int, ∀ w, Calls Try.prog 54 #[.agg c.cells, .int .i64 a, .int .i64 x] w fun e w' => e = .returned (.int .i64 (c.box a x)) ∧ Below w.heap.size w w' := fun a x w => box_any c a x w
  have hwo : ∀ b w, Calls Try.prog 58 #[.agg #[.int .i64 k, .int .i64 n], .int .i64 b] w fun e w' => e = .returned (.tuple #[.int .i64 (worthF k n b).1, .bool (worthF k n b).2]) ∧ Below w.heap.size w w' := fun b w => worth_any k n b w
  have HD : Hid (c.sayH k n = if (worthF k n (hold (c.n 56))).2 = true then (c.box (worthF k n (hold (c.n 56))).1 (c.pr 0 2), true) else (0, false)) := Lib.hid (sayH_of_worth c k n)
  generalize c.sayH k n = res at *
  generalize c.pr 3 1 = ac at *
  generalize c.pr 0 2 = dn at *
  have hwb := hwo (hold (c.n 56))
  clear hwo
  generalize worthF k n (hold (c.n 56)) = wo at *
  obtain ⟨v, ok⟩ := wo
  dsimp only at hwb
  rw [c.val_eq]
  go_enter Try.func40, Try.ntmps40
  go_upto_region 1 with fail
  refine at_any (fun wx => Blk wx w.heap.size 29 c.cells ∧ Blk wx (w.heap.size + 1) 23 #[.int .i64 k, .int .i64 n] ∧ Below w.heap.size w wx) ⟨(Blk.new _ _ _).alloc _, Blk.new_at (by simp), below_alloc (below_alloc (Below.refl _ _) _) _⟩ ?_
  rintro wx ⟨hbk, hbz, hb⟩
  have HBZ := Lib.hid hbz
  have HBK := Lib.hid hbk
  have HB := Lib.hid hb
  clear hbk hb hbz
  refine wp_region_list ?_
  refine wpList_load_whole rfl 29 (.tmp 2) rfl w.heap.size rfl HBK.out Try.underlying29 rfl (by kernel_rfl) ?_
  go_wp2_with fail
  refine (haw _).mono ?_; rintro e w2 ⟨rfl, hb2⟩
  have HBw2 := Lib.hid (below_then HB.out hb2)
  have HBKw2 := Lib.hid (HBK.out.then_ hb2)
  have HBZw2 := Lib.hid (HBZ.out.then_ hb2)
  clear hb2 haw
  have z0 : w2.cell? ⟨w.heap.size + 1, 0, none⟩ = some (.int .i64 k) := HBZw2.out.cell 0
  have z1 : w2.cell? ⟨w.heap.size + 1, 1, none⟩ = some (.int .i64 n) := HBZw2.out.cell 1
  have x1 : w2.cell? ⟨w.heap.size, 56, none⟩ = some (.int .i64 (c.n 56)) := HBKw2.out.cell 56
  have xl := HBKw2.out.lt
  have zl := HBZw2.out.lt
  go_upto_region 2 with fail
  refine wp_region_ext (by kernel_rfl) (by kernel_rfl) ?_
  repeat (first
    | (refine wpQuiet_load_whole (by simp [Region.wanted]) 29 (.tmp 2) rfl w.heap.size rfl HBKw2.out Try.underlying29 rfl (by kernel_rfl) ?_
       simp only [Act.put, List.setIfInBounds_toArray, List.set_cons_zero, List.set_cons_succ])
    | (go_big_quiet_step ((first | (go_at_call 33; exact quiet_ext_same (Hold_any _ _)) | (go_at_call 58; exact quiet_ext (hwb _))))))
  refine wpQuiet_nil ?_
  intro wq hwq
  have HBKq := Lib.hid (HBKw2.out.then_ (grown_rules hwq).2.2.2)
  have hbq := (grown_rules hwq).2.2.2
  have HBq := Lib.hid (below_then HBw2.out hbq)
  clear hwq hbq
  clear x1 xl zl z0 z1
  cases ok with
  | true =>
    go_upto_region 5 with fail
    refine wp_region_list ?_
    refine wpList_load_whole rfl 29 (.tmp 2) rfl w.heap.size rfl HBKq.out Try.underlying29 rfl (by kernel_rfl) ?_
    go_wp2_with fail
    refine (hbx _ _ _).mono ?_; rintro e w3 ⟨rfl, hb3⟩
    have HBw3 := Lib.hid (below_then HBq.out hb3)
    clear hb3
    go_wp2_with fail
    refine bodyPost_ret (v := .tuple #[.int .i64 (c.box v dn), .bool true]) (by simp [results, Try.results40, go_sem]) rfl ?_
    exact ⟨by rw [HD.out]; simp, HBw3.out⟩
  | false =>
    go_wp2_with fail
    refine bodyPost_ret (v := .tuple #[.int .i64 0, .bool false]) (by simp [results, Try.results40, go_sem]) rfl ?_
    exact ⟨by rw [HD.out]; simp, HBq.out⟩

set_option maxRecDepth 20000 in
set_option maxHeartbeats 4000000 in
theorem SaysW_any (c : Cs) (k n : Int) (w : World) : Calls Try.prog 26 #[c.val, .agg #[.int .i64 k, .int .i64 n]] w fun e w' => e = .returned (.tuple #[.int .i64 (c.sayW k n).1, .bool (c.sayW k n).2]) ∧ Below w.heap.size w w' := by
  have hac : ∀ k n : Int, ∀ w, Calls Try.prog 39 #[.agg c.cells, .agg #[.int .i64 k, .int .i64 n]] w fun e w' => e = .returned (.tuple #[.int .i64 (c.sayW k n).1, .bool (c.sayW k n).2]) ∧ Below w.heap.size w w' := fun k n w => across_any c k n w
  rw [c.val_eq]
  go_enter Try.func26, Try.ntmps26
  go_upto_region 1 with fail
  refine at_any (fun wx => Blk wx w.heap.size 29 c.cells ∧ Blk wx (w.heap.size + 1) 23 #[.int .i64 k, .int .i64 n] ∧ Below w.heap.size w wx) ⟨(Blk.new _ _ _).alloc _, Blk.new_at (by simp), below_alloc (below_alloc (Below.refl _ _) _) _⟩ ?_
  rintro wx ⟨hbk, hbz, hb⟩
  have HBZ := Lib.hid hbz
  have HBK := Lib.hid hbk
  have HB := Lib.hid hb
  clear hbk hb hbz
  have z0 : wx.cell? ⟨w.heap.size + 1, 0, none⟩ = some (.int .i64 k) := HBZ.out.cell 0
  have z1 : wx.cell? ⟨w.heap.size + 1, 1, none⟩ = some (.int .i64 n) := HBZ.out.cell 1
  have xl := HBK.out.lt
  have zl := HBZ.out.lt
  refine wp_region_list ?_
  refine wpList_load_whole rfl 29 (.tmp 2) rfl w.heap.size rfl HBK.out Try.underlying29 rfl (by kernel_rfl) ?_
  go_wp2_with fail
  refine (hac _ _ _).mono ?_; rintro e w3 ⟨rfl, hb3⟩
  have HBw3 := Lib.hid (below_then HB.out hb3)
  clear hb3
  go_wp2_with fail
  refine bodyPost_ret (v := .tuple #[.int .i64 (c.sayW k n).1, .bool (c.sayW k n).2]) (by simp [results, Try.results26, go_sem]) rfl ?_
  exact ⟨rfl, HBw3.out⟩

set_option maxRecDepth 20000 in
set_option maxHeartbeats 4000000 in
theorem SaysH_any (c : Cs) (k n : Int) (w : World) : Calls Try.prog 28 #[c.val, .agg #[.int .i64 k, .int .i64 n]] w fun e w' => e = .returned (.tuple #[.int .i64 (c.sayH k n).1, .bool (c.sayH k n).2]) ∧ Below w.heap.size w w' := by
  have hdo : ∀ k n : Int, ∀ w, Calls Try.prog 40 #[.agg c.cells, .agg #[.int .i64 k, .int .i64 n]] w fun e w' => e = .returned (.tuple #[.int .i64 (c.sayH k n).1, .bool (c.sayH k n).2]) ∧ Below w.heap.size w w' := fun k n w => downC_any c k n w
  rw [c.val_eq]
  go_enter Try.func28, Try.ntmps28
  go_upto_region 1 with fail
  refine at_any (fun wx => Blk wx w.heap.size 29 c.cells ∧ Blk wx (w.heap.size + 1) 23 #[.int .i64 k, .int .i64 n] ∧ Below w.heap.size w wx) ⟨(Blk.new _ _ _).alloc _, Blk.new_at (by simp), below_alloc (below_alloc (Below.refl _ _) _) _⟩ ?_
  rintro wx ⟨hbk, hbz, hb⟩
  have HBZ := Lib.hid hbz
  have HBK := Lib.hid hbk
  have HB := Lib.hid hb
  clear hbk hb hbz
  have z0 : wx.cell? ⟨w.heap.size + 1, 0, none⟩ = some (.int .i64 k) := HBZ.out.cell 0
  have z1 : wx.cell? ⟨w.heap.size + 1, 1, none⟩ = some (.int .i64 n) := HBZ.out.cell 1
  have xl := HBK.out.lt
  have zl := HBZ.out.lt
  refine wp_region_list ?_
  refine wpList_load_whole rfl 29 (.tmp 2) rfl w.heap.size rfl HBK.out Try.underlying29 rfl (by kernel_rfl) ?_
  go_wp2_with fail
  refine (hdo _ _ _).mono ?_; rintro e w3 ⟨rfl, hb3⟩
  have HBw3 := Lib.hid (below_then HB.out hb3)
  clear hb3
  go_wp2_with fail
  refine bodyPost_ret (v := .tuple #[.int .i64 (c.sayH k n).1, .bool (c.sayH k n).2]) (by simp [results, Try.results28, go_sem]) rfl ?_
  exact ⟨rfl, HBw3.out⟩

end Go.Proofs.Ytdddlnemlpgnlaa
