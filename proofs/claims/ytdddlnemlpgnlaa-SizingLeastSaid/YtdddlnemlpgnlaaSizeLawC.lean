/- Sizing: the laws' walks. -/
import Derived.Test.YtdddlnemlpgnlaaSizeLawA
import Derived.Test.YtdddlnemlpgnlaaSizeLawB
namespace Go.Proofs.Ytdddlnemlpgnlaa
open Go.RowKit
set_option linter.unusedSimpArgs false
set_option linter.unusedVariables false
attribute [local go_sem] cell?_ext frozen?_ext lt_size_ext

set_option maxRecDepth 20000 in
set_option maxHeartbeats 8000000 in
theorem High_walk (c : Cs) (hs : c.s.oneCell' = true) (n m : Int) (w : World) : Calls Try.prog 7 #[c.val, .int .i64 n, .int .i64 m] w fun e w' => e = .returned (.bool true) ∧ Below w.heap.size w w' := by
  have hhi : ∀ a m : Int, ∀ w, Calls Try.prog 30 #[.agg c.cells, .int .i64 a, .int .i64 m] w fun e w' => e = .returned (.int .i64 (c.hig a m)) ∧ Below w.heap.size w w' := fun a m w => High_any c a m w
  have hof : ∀ w, Calls Try.prog 11 #[.agg c.cells] w fun e w' => e = .returned (.agg c.cells) ∧ Below w.heap.size w w' := fun w => of_any c hs w
  have rhi : ∀ a m : Int, ∀ w, Calls Try.prog 31 #[.agg c.cells, .int .i64 a, .int .i64 m] w fun e w' => e = .returned (.int .i64 (c.hig a m)) ∧ Below w.heap.size w w' := fun a m w => RHigh_any c a m w
  have hkn := known_any
  rw [c.val_eq]
  go_enter Try.func7, Try.ntmps7
  go_upto_region 1 with fail
  refine at_any (fun wx => Blk wx w.heap.size 29 c.cells ∧ Below w.heap.size w wx) ⟨Blk.new _ _ _, below_alloc (Below.refl _ _) _⟩ ?_
  rintro wx ⟨hbk, hb⟩
  have HBK := Lib.hid hbk
  have HB := Lib.hid hb
  clear hbk hb
  have xl := HBK.out.lt
  refine wp_region_ext (by kernel_rfl) (by kernel_rfl) ?_
  repeat (first
    | (refine wpQuiet_load_whole (by first | rfl | simp [Region.wanted]) 29 (.tmp 3) rfl w.heap.size rfl HBK.out Try.underlying29 rfl (by kernel_rfl) ?_
       simp only [Act.put, List.setIfInBounds_toArray, List.set_cons_zero, List.set_cons_succ])
    | (go_big_quiet_step ((first | (go_at_call 30; exact quiet_ext (hhi _ _ _)) | (go_at_call 11; exact quiet_ext (hof _)) | (go_at_call 31; exact quiet_ext (rhi _ _ _)) | (go_at_call 18; exact quiet_ext (hkn _))))))
  refine wpQuiet_nil ?_
  intro wq hwq
  have hbq := (grown_rules hwq).2.2.2
  have HBK := Lib.hid (HBK.out.then_ hbq)
  have HB := Lib.hid (below_then HB.out hbq)
  clear hwq hbq
  go_wp2_with fail
  go_ret
  exact ⟨rfl, HB.out⟩

set_option maxRecDepth 20000 in
set_option maxHeartbeats 8000000 in
theorem Keeps_walk (c : Cs) (hs : c.s.oneCell' = true) (n m : Int) (w : World) : Calls Try.prog 4 #[c.val, .int .i64 n, .int .i64 m] w fun e w' => e = .returned (.bool true) ∧ Below w.heap.size w w' := by
  have hkw : ∀ w, Calls Try.prog 19 #[.agg c.cells, .int .i64 n] w fun e w' => e = .returned (.int .i64 (c.keepW n)) ∧ Below w.heap.size w w' := fun w => KeepW_any c n w
  have hkh : ∀ w, Calls Try.prog 20 #[.agg c.cells, .int .i64 m] w fun e w' => e = .returned (.int .i64 (c.keepH m)) ∧ Below w.heap.size w w' := fun w => KeepH_any c m w
  have rkw : ∀ w, Calls Try.prog 23 #[.agg c.cells, .int .i64 n] w fun e w' => e = .returned (.int .i64 (c.keepW n)) ∧ Below w.heap.size w w' := fun w => RKeepW_any c n w
  have rkh : ∀ w, Calls Try.prog 24 #[.agg c.cells, .int .i64 m] w fun e w' => e = .returned (.int .i64 (c.keepH m)) ∧ Below w.heap.size w w' := fun w => RKeepH_any c m w
  have hkw2 : ∀ w, Calls Try.prog 19 #[.agg c.cells, .int .i64 (c.keepW n)] w fun e w' => e = .returned (.int .i64 (c.keepW n)) ∧ Below w.heap.size w w' := fun w => by
    have h := KeepW_any c (c.keepW n) w
    rw [keepW_keepW] at h
    exact h
  have hkh2 : ∀ w, Calls Try.prog 20 #[.agg c.cells, .int .i64 (c.keepH m)] w fun e w' => e = .returned (.int .i64 (c.keepH m)) ∧ Below w.heap.size w w' := fun w => by
    have h := KeepH_any c (c.keepH m) w
    rw [keepH_keepH] at h
    exact h
  have hgi : ∀ w, Calls Try.prog 21 #[.agg c.cells] w fun e w' => e = .returned (.tuple #[.int .i64 c.giv.1, .bool c.giv.2]) ∧ Below w.heap.size w w' := fun w => Given_any c w
  have hof : ∀ w, Calls Try.prog 11 #[.agg c.cells] w fun e w' => e = .returned (.agg c.cells) ∧ Below w.heap.size w w' := fun w => of_any c hs w
  have rgi : ∀ w, Calls Try.prog 22 #[.agg c.cells] w fun e w' => e = .returned (.tuple #[.int .i64 c.giv.1, .bool c.giv.2]) ∧ Below w.heap.size w w' := fun w => RGiven_any c w
  have hkn := known_any
  generalize c.keepW n = kw at *
  generalize c.keepH m = kh at *
  generalize c.giv = gi at *
  obtain ⟨g, ok⟩ := gi
  dsimp only at hgi rgi
  rw [c.val_eq]
  go_enter Try.func4, Try.ntmps4
  go_upto_region 1 with fail
  refine at_any (fun wx => Blk wx w.heap.size 29 c.cells ∧ Below w.heap.size w wx) ⟨Blk.new _ _ _, below_alloc (Below.refl _ _) _⟩ ?_
  rintro wx ⟨hbk, hb⟩
  have HBK := Lib.hid hbk
  have HB := Lib.hid hb
  clear hbk hb
  have xl := HBK.out.lt
  refine wp_region_ext (by kernel_rfl) (by kernel_rfl) ?_
  repeat (first
    | (refine wpQuiet_load_whole (by first | rfl | simp [Region.wanted]) 29 (.tmp 3) rfl w.heap.size rfl HBK.out Try.underlying29 rfl (by kernel_rfl) ?_
       simp only [Act.put, List.setIfInBounds_toArray, List.set_cons_zero, List.set_cons_succ])
    | (go_big_quiet_step ((first | (go_at_call 19; exact quiet_ext (hkw _)) | (go_at_call 20; exact quiet_ext (hkh _))))))
  refine wpQuiet_nil ?_
  intro wq hwq
  have hbq := (grown_rules hwq).2.2.2
  have HBK := Lib.hid (HBK.out.then_ hbq)
  have HB := Lib.hid (below_then HB.out hbq)
  clear hwq hbq
  clear xl
  go_wp2_with (first
    | (refine wpList_load_want (by kernel_rfl) 29 (.tmp 3) rfl w.heap.size rfl HBK.out Try.underlying29 rfl (by kernel_rfl) ?_; simp only [Act.put, List.setIfInBounds_toArray, List.set_cons_zero, List.set_cons_succ])
    | (go_at_call 21; refine (hgi _).mono ?_; rintro e wn ⟨rfl, hb2⟩; have HBK := Lib.hid (HBK.out.then_ hb2); have HB := Lib.hid (below_then HB.out hb2); clear hb2)
    | (go_at_call 11; refine (hof _).mono ?_; rintro e wn ⟨rfl, hb2⟩; have HBK := Lib.hid (HBK.out.then_ hb2); have HB := Lib.hid (below_then HB.out hb2); clear hb2)
    | (go_at_call 22; refine (rgi _).mono ?_; rintro e wn ⟨rfl, hb2⟩; have HBK := Lib.hid (HBK.out.then_ hb2); have HB := Lib.hid (below_then HB.out hb2); clear hb2)
    | (go_at_call 23; refine (rkw _).mono ?_; rintro e wn ⟨rfl, hb2⟩; have HBK := Lib.hid (HBK.out.then_ hb2); have HB := Lib.hid (below_then HB.out hb2); clear hb2)
    | (go_at_call 24; refine (rkh _).mono ?_; rintro e wn ⟨rfl, hb2⟩; have HBK := Lib.hid (HBK.out.then_ hb2); have HB := Lib.hid (below_then HB.out hb2); clear hb2)
    | (go_at_call 19; refine (hkw2 _).mono ?_; rintro e wn ⟨rfl, hb2⟩; have HBK := Lib.hid (HBK.out.then_ hb2); have HB := Lib.hid (below_then HB.out hb2); clear hb2)
    | (go_at_call 20; refine (hkh2 _).mono ?_; rintro e wn ⟨rfl, hb2⟩; have HBK := Lib.hid (HBK.out.then_ hb2); have HB := Lib.hid (below_then HB.out hb2); clear hb2)
    | (go_at_call 18; refine (hkn _).mono ?_; rintro e wn ⟨rfl, hb2⟩; have HBK := Lib.hid (HBK.out.then_ hb2); have HB := Lib.hid (below_then HB.out hb2); clear hb2))
  go_ret
  exact ⟨rfl, HB.out⟩

set_option maxRecDepth 20000 in
set_option maxHeartbeats 8000000 in
theorem Least_walk (c : Cs) (hs : c.s.oneCell' = true) (n m : Int) (w : World) : Calls Try.prog 8 #[c.val, .int .i64 n, .int .i64 m] w fun e w' => e = .returned (.bool true) ∧ Below w.heap.size w w' := by
  have haw : ∀ w, Calls Try.prog 15 #[.agg c.cells] w fun e w' => e = .returned (.tuple #[.int .i64 (c.pr 3 1), .int .i64 (c.pr 0 2)]) ∧ Below w.heap.size w w' := fun w => Around_any c w
  have hwd : ∀ w, Calls Try.prog 25 #[.agg c.cells] w fun e w' => e = .returned (.int .i64 c.wide) ∧ Below w.heap.size w w' := fun w => Wide_any c w
  have hhi : ∀ a m : Int, ∀ w, Calls Try.prog 30 #[.agg c.cells, .int .i64 a, .int .i64 m] w fun e w' => e = .returned (.int .i64 (c.hig a m)) ∧ Below w.heap.size w w' := fun a m w => High_any c a m w
  have hkn := known_any
  have hhi := hhi n m
  have d1 : decide (c.pr 3 1 ≤ c.wide) = true := decide_eq_true (wide_ge c)
  have d2 : decide (c.pr 0 2 ≤ c.hig n m) = true := decide_eq_true (hig_ge c n m)
  have d3 : decide (0 ≤ c.pr 3 1) = true := decide_eq_true (pr_nonneg c 3 1)
  have d4 : decide (0 ≤ c.pr 0 2) = true := decide_eq_true (pr_nonneg c 0 2)
  generalize c.pr 3 1 = ac at *
  generalize c.pr 0 2 = dn at *
  generalize c.wide = wd at *
  generalize c.hig n m = hg at *
  rw [c.val_eq]
  go_enter Try.func8, Try.ntmps8
  go_upto_region 1 with fail
  refine at_any (fun wx => Blk wx w.heap.size 29 c.cells ∧ Below w.heap.size w wx) ⟨Blk.new _ _ _, below_alloc (Below.refl _ _) _⟩ ?_
  rintro wx ⟨hbk, hb⟩
  have HBK := Lib.hid hbk
  have HB := Lib.hid hb
  clear hbk hb
  go_wp2_with (first
    | (refine wpList_load_want (by kernel_rfl) 29 (.tmp 3) rfl w.heap.size rfl HBK.out Try.underlying29 rfl (by kernel_rfl) ?_; simp only [Act.put, List.setIfInBounds_toArray, List.set_cons_zero, List.set_cons_succ])
    | (go_at_call 15; refine (haw _).mono ?_; rintro e wn ⟨rfl, hb2⟩; have HBK := Lib.hid (HBK.out.then_ hb2); have HB := Lib.hid (below_then HB.out hb2); clear hb2)
    | (go_at_call 25; refine (hwd _).mono ?_; rintro e wn ⟨rfl, hb2⟩; have HBK := Lib.hid (HBK.out.then_ hb2); have HB := Lib.hid (below_then HB.out hb2); clear hb2)
    | (go_at_call 30; refine (hhi _).mono ?_; rintro e wn ⟨rfl, hb2⟩; have HBK := Lib.hid (HBK.out.then_ hb2); have HB := Lib.hid (below_then HB.out hb2); clear hb2)
    | (go_at_call 18; refine (hkn _).mono ?_; rintro e wn ⟨rfl, hb2⟩; have HBK := Lib.hid (HBK.out.then_ hb2); have HB := Lib.hid (below_then HB.out hb2); clear hb2))
  go_ret
  exact ⟨rfl, HB.out⟩

end Go.Proofs.Ytdddlnemlpgnlaa
