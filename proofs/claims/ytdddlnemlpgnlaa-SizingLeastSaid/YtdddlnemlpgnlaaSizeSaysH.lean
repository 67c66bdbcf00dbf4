/- Sizing: what a size says of a height. -/
import Derived.Test.YtdddlnemlpgnlaaSizeSays
namespace Go.Proofs.Ytdddlnemlpgnlaa
open Go.RowKit
set_option linter.unusedSimpArgs false
set_option linter.unusedVariables false
attribute [local go_sem] cell?_ext frozen?_ext lt_size_ext

def Cs.sayH (c : Cs) (k n : Int) : Int × Bool :=
  if k = 1 then (c.box n (c.pr 0 2), true) else if k = 2 ∧ 0 ≤ c.n 56 then (c.box (partH (c.n 56) n 100000) (c.pr 0 2), true) else (0, false)

set_option maxRecDepth 20000 in
set_option maxHeartbeats 4000000 in
theorem RSaysH_any (c : Cs) (k n : Int) (w : World) : Calls Try.prog 29 #[c.val, .agg #[.int .i64 k, .int .i64 n]] w
    fun e w' => e = .returned (.tuple #[.int .i64 (c.sayH k n).1, .bool (c.sayH k n).2]) ∧ Below w.heap.size w w' := by
  have hdn : ∀ w, Calls Try.prog 17 #[.agg #[.int .i64 (c.n 0), .bool c.b, .int .i64 (c.n 2), .int .i64 (c.n 3), .int .i64 (c.n 4), .int .i64 (c.n 5), .int .i64 (c.n 6), .int .i64 (c.n 7), .int .i64 (c.n 8), .int .i64 (c.n 9), .int .i64 (c.n 10), .int .i64 (c.n 11), .int .i64 (c.n 12), .int .i64 (c.n 13), .int .i64 (c.n 14), .int .i64 (c.n 15), .int .i64 (c.n 16), .int .i64 (c.n 17), .int .i64 (c.n 18), .int .i64 (c.n 19), .int .i64 (c.n 20), .int .i64 (c.n 21), .int .i64 (c.n 22), .int .i64 (c.n 23), .int .i64 (c.n 24), .int .i64 (c.n 25), .int .i64 (c.n 26), .int .i64 (c.n 27), .int .i64 (c.n 28), .int .i64 (c.n 29), .int .i64 (c.n 30), .int .i64 (c.n 31), .int .i64 (c.n 32), .int .i64 (c.n 33), .int .i64 (c.n 34), .int .i64 (c.n 35), .int .i64 (c.n 36), .int .i64 (c.n 37), .int .i64 (c.n 38), .int .i64 (c.n 39), .int .i64 (c.n 40), .int .i64 (c.n 41), .int .i64 (c.n 42), .int .i64 (c.n 43), .int .i64 (c.n 44), .int .i64 (c.n 45), .int .i64 (c.n 46), .int .i64 (c.n 47), .int .i64 (c.n 48), .int .i64 (c.n 49), .int .i64 (c.n 50), .int .i64 (c.n 51), c.s, .int .i64 (c.n 53), .int .i64 (c.n 54), .int .i64 (c.n 55), .int .i64 (c.n 56), .int .i64 (c.n 57), .int .i64 (c.n 58)]] w fun e w' => e = .returned (.int .i64 (c.pr 0 2)) ∧ Below w.heap.size w w' := fun w => Down_any c w
  have hbx : ∀ a x w, Calls Try.prog 44 #[.agg #[.int .i64 (c.n 0), .bool c.b, .int .i64 (c.n 2), .int .i64 (c.n 3), .int .i64 (c.n 4), .int .i64 (c.n 5), .int .i64 (c.n 6), .int .i64 (c.n 7), .int .i64 (c.n 8), .int .i64 (c.n 9), .int .i64 (c.n 10), .int .i64 (c.n 11), .int .i64 (c.n 12), .int .i64 (c.n 13), .int .i64 (c.n 14), .int .i64 (c.n 15), .int .i64 (c.n 16), .int .i64 (c.n 17), .int .i64 (c.n 18), .int .i64 (c.n 19), .int .i64 (c.n 20), .int .i64 (c.n 21), .int .i64 (c.n 22), .int .i64 (c.n 23), .int .i64 (c.n 24), .int .i64 (c.n 25), .int .i64 (c.n 26), .int .i64 (c.n 27), .int .i64 (c.n 28), .int .i64 (c.n 29), .int .i64 (c.n 30), .int .i64 (c.n 31), .int .i64 (c.n 32), .int .i64 (c.n 33), .int .i64 (c.n 34), .int .i64 (c.n 35), .int .i64 (c.n 36), .int .i64 (c.n 37), .int .i64 (c.n 38), .int .i64 (c.n 39), .int .i64 (c.n 40), .int .i64 (c.n 41), .int .i64 (c.n 42), .int .i64 (c.n 43), .int .i64 (c.n 44), .int .i64 (c.n 45), .int .i64 (c.n 46), .int .i64 (c.n 47), .int .i64 (c.n 48), .int .i64 (c.n 49), .int .i64 (c.n 50), .int .i64 (c.n 51), c.s, .int .i64 (c.n 53), .int .i64 (c.n 54), .int .i64 (c.n 55), .int .i64 (c.n 56), .int .i64 (c.n 57), .int .i64 (c.n 58)], .int .i64 a, .int .i64 x] w fun e w' => e = .returned (.int .i64 (c.box a x)) ∧ Below w.heap.size w w' := fun a x w => RBox_any c a x w
  have HD : Hid (c.sayH k n = if k = 1 then (c.box n (c.pr 0 2), true) else if k = 2 ∧ 0 ≤ c.n 56 then (c.box (partH (c.n 56) n 100000) (c.pr 0 2), true) else (0, false)) := Lib.hid rfl
  generalize c.sayH k n = res at *
  generalize c.pr 0 2 = dn at *
  unfold Cs.val
  go_enter Try.func29, Try.ntmps29
  go_upto_region 1 with fail
  refine at_any (fun wx => Blk wx w.heap.size 36 #[.int .i64 (c.n 0), .bool c.b, .int .i64 (c.n 2), .int .i64 (c.n 3), .int .i64 (c.n 4), .int .i64 (c.n 5), .int .i64 (c.n 6), .int .i64 (c.n 7), .int .i64 (c.n 8), .int .i64 (c.n 9), .int .i64 (c.n 10), .int .i64 (c.n 11), .int .i64 (c.n 12), .int .i64 (c.n 13), .int .i64 (c.n 14), .int .i64 (c.n 15), .int .i64 (c.n 16), .int .i64 (c.n 17), .int .i64 (c.n 18), .int .i64 (c.n 19), .int .i64 (c.n 20), .int .i64 (c.n 21), .int .i64 (c.n 22), .int .i64 (c.n 23), .int .i64 (c.n 24), .int .i64 (c.n 25), .int .i64 (c.n 26), .int .i64 (c.n 27), .int .i64 (c.n 28), .int .i64 (c.n 29), .int .i64 (c.n 30), .int .i64 (c.n 31), .int .i64 (c.n 32), .int .i64 (c.n 33), .int .i64 (c.n 34), .int .i64 (c.n 35), .int .i64 (c.n 36), .int .i64 (c.n 37), .int .i64 (c.n 38), .int .i64 (c.n 39), .int .i64 (c.n 40), .int .i64 (c.n 41), .int .i64 (c.n 42), .int .i64 (c.n 43), .int .i64 (c.n 44), .int .i64 (c.n 45), .int .i64 (c.n 46), .int .i64 (c.n 47), .int .i64 (c.n 48), .int .i64 (c.n 49), .int .i64 (c.n 50), .int .i64 (c.n 51), c.s, .int .i64 (c.n 53), .int .i64 (c.n 54), .int .i64 (c.n 55), .int .i64 (c.n 56), .int .i64 (c.n 57), .int .i64 (c.n 58)] ∧ Blk wx (w.heap.size + 1) 23 #[.int .i64 k, .int .i64 n] ∧ Below w.heap.size w wx)
    ⟨(Blk.new _ _ _).alloc _, (by have h := Blk.new (w.alloc (.cells #[.int .i64 (c.n 0), .bool c.b, .int .i64 (c.n 2), .int .i64 (c.n 3), .int .i64 (c.n 4), .int .i64 (c.n 5), .int .i64 (c.n 6), .int .i64 (c.n 7), .int .i64 (c.n 8), .int .i64 (c.n 9), .int .i64 (c.n 10), .int .i64 (c.n 11), .int .i64 (c.n 12), .int .i64 (c.n 13), .int .i64 (c.n 14), .int .i64 (c.n 15), .int .i64 (c.n 16), .int .i64 (c.n 17), .int .i64 (c.n 18), .int .i64 (c.n 19), .int .i64 (c.n 20), .int .i64 (c.n 21), .int .i64 (c.n 22), .int .i64 (c.n 23), .int .i64 (c.n 24), .int .i64 (c.n 25), .int .i64 (c.n 26), .int .i64 (c.n 27), .int .i64 (c.n 28), .int .i64 (c.n 29), .int .i64 (c.n 30), .int .i64 (c.n 31), .int .i64 (c.n 32), .int .i64 (c.n 33), .int .i64 (c.n 34), .int .i64 (c.n 35), .int .i64 (c.n 36), .int .i64 (c.n 37), .int .i64 (c.n 38), .int .i64 (c.n 39), .int .i64 (c.n 40), .int .i64 (c.n 41), .int .i64 (c.n 42), .int .i64 (c.n 43), .int .i64 (c.n 44), .int .i64 (c.n 45), .int .i64 (c.n 46), .int .i64 (c.n 47), .int .i64 (c.n 48), .int .i64 (c.n 49), .int .i64 (c.n 50), .int .i64 (c.n 51), c.s, .int .i64 (c.n 53), .int .i64 (c.n 54), .int .i64 (c.n 55), .int .i64 (c.n 56), .int .i64 (c.n 57), .int .i64 (c.n 58)] 36)) 23 #[.int .i64 k, .int .i64 n]; rw [World.size_alloc] at h; exact h), below_alloc (below_alloc (Below.refl _ _) _) _⟩ ?_
  rintro wx ⟨hbk, hbz, hb⟩
  have x3 : wx.cell? ⟨w.heap.size, 56, none⟩ = some (.int .i64 (c.n 56)) := hbk.cell 56
  have z0 : wx.cell? ⟨w.heap.size + 1, 0, none⟩ = some (.int .i64 k) := hbz.cell 0
  have z1 : wx.cell? ⟨w.heap.size + 1, 1, none⟩ = some (.int .i64 n) := hbz.cell 1
  have xl := hbk.lt
  have zl := hbz.lt
  have HBK := Lib.hid hbk
  have HB := Lib.hid hb
  clear hbk hb hbz
  by_cases h1 : k = 1
  · have HE : Hid (res = (c.box n dn, true)) := Lib.hid (by rw [HD.out, if_pos h1])
    have e1 : (k == 1) = true := by rw [h1]; rfl
    clear h1
    go_upto_region 2 with fail
    refine wp_region_ext (by kernel_rfl) (by kernel_rfl) ?_
    repeat (first
      | (refine wpQuiet_load_whole (by simp [Region.wanted]) 36 (.tmp 2) rfl w.heap.size rfl HBK.out Try.underlying36 rfl (by kernel_rfl) ?_
         simp only [Act.put, List.setIfInBounds_toArray, List.set_cons_zero, List.set_cons_succ])
      | (go_big_quiet_step ((first | (go_at_call 17; exact quiet_ext (hdn _)) | (go_at_call 44; exact quiet_ext (hbx _ _ _))))))
    refine wpQuiet_nil ?_
    intro w2 hw2
    have hb2 := (grown_rules hw2).2.2.2
    have HB2 := Lib.hid hb2
    clear hw2 hb2
    go_wp2_with fail
    refine bodyPost_ret (v := .tuple #[.int .i64 (c.box n dn), .bool true]) (by simp [results, Try.results29, go_sem]) rfl ?_
    exact ⟨by rw [HE.out], below_then HB.out HB2.out⟩
  · have e1 : (k == 1) = false := beq_false_of_ne h1
    by_cases h2 : k = 2
    · have e2 : (k == 2) = true := by rw [h2]; rfl
      by_cases h3 : 0 ≤ c.n 56
      · have HE : Hid (res = (c.box (partH (c.n 56) n 100000) dn, true)) := Lib.hid (by rw [HD.out, if_neg h1, if_pos ⟨h2, h3⟩])
        have e3 : decide (0 ≤ c.n 56) = true := decide_eq_true h3
        clear h1 h2 h3
        go_upto_region 4 with fail
        refine wp_region_ext (by kernel_rfl) (by kernel_rfl) ?_
        repeat (first
          | (refine wpQuiet_load_whole (by simp [Region.wanted]) 36 (.tmp 2) rfl w.heap.size rfl HBK.out Try.underlying36 rfl (by kernel_rfl) ?_
             simp only [Act.put, List.setIfInBounds_toArray, List.set_cons_zero, List.set_cons_succ])
          | (go_big_quiet_step ((first | (go_at_call 34; exact quiet_ext_same (RPart_any _ _ _ _)) | (go_at_call 17; exact quiet_ext (hdn _)) | (go_at_call 44; exact quiet_ext (hbx _ _ _))))))
        refine wpQuiet_nil ?_
        intro w2 hw2
        have hb2 := (grown_rules hw2).2.2.2
        have HB2 := Lib.hid hb2
        clear hw2 hb2
        go_wp2_with fail
        refine bodyPost_ret (v := .tuple #[.int .i64 (c.box (partH (c.n 56) n 100000) dn), .bool true]) (by simp [results, Try.results29, go_sem]) rfl ?_
        exact ⟨by rw [HE.out], below_then HB.out HB2.out⟩
      · have HE : Hid (res = (0, false)) := Lib.hid (by rw [HD.out, if_neg h1, if_neg fun h => h3 h.2])
        have e3 : decide (0 ≤ c.n 56) = false := decide_eq_false h3
        clear h1 h2 h3
        go_wp2_with fail
        refine bodyPost_ret (v := .tuple #[.int .i64 0, .bool false]) (by simp [results, Try.results29, go_sem]) rfl ?_
        exact ⟨by rw [HE.out], HB.out⟩
    · have e2 : (k == 2) = false := beq_false_of_ne h2
      have HE : Hid (res = (0, false)) := Lib.hid (by rw [HD.out, if_neg h1, if_neg fun h => h2 h.1])
      clear h1 h2
      go_wp2_with fail
      refine bodyPost_ret (v := .tuple #[.int .i64 0, .bool false]) (by simp [results, Try.results29, go_sem]) rfl ?_
      exact ⟨by rw [HE.out], HB.out⟩

end Go.Proofs.Ytdddlnemlpgnlaa
