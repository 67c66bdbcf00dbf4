/- Sizing: known. -/
import Derived.Test.YtdddlnemlpgnlaaSizeKnF
namespace Go.Proofs.Ytdddlnemlpgnlaa
open Go.RowKit
set_option linter.unusedSimpArgs false
set_option linter.unusedVariables false
attribute [local go_sem] cell?_ext frozen?_ext lt_size_ext

def sL : List Int := [0, 0, 0, 0, 0, 0, 0, 0, 0, 0, 6, 0, 6, 0, 1, 0, 1, 640, 1, 0, 1, 640, 1, 0, 1, 0, 1, 0, 1, 0, 0, 0, 0, 0, 0, 0, 0, 0, 0, 1000, 0, 0, 0, 0, 0, 0, 0, 1, 0, 1, 0, 0, 0, 1024, 1200]
def tL : List Int := [0, 0, 2, 50000, 0, 0, 0, 0, 0, 0, 6, 0, 6, 0, 1, 0, 1, 0, 1, 0, 1, 0, 1, 0, 1, 64, 1, 0, 1, 64, 0, 0, 0, 0, 0, 0, 0, 0, 0, 1000, 0, 0, 0, 0, 0, 0, 0, 1, 0, 1, 0, 0, 0, 1024, 1200]
theorem wpList_build_want {ops : Array Oper} {rest : List Oper} {o : Oper} {a : Act} {w : World} {Q : Exit → Act → World → Prop} (hw : Region.wanted o (yielded ops a.tmps) = true) (t : TypeId) (parts : Array (Nat × Operand)) (ho : o.op = .build t parts) (cs : Array Value)
    (hb : Try.prog.built t (parts.map fun (i, x) => (i, a.eval x)).toList = some cs) (h : wpList Try.prog ops Q rest (a.put o.dst (.agg cs)) w) : wpList Try.prog ops Q (o :: rest) a w :=
  BigFrame.wpList_want hw fun _ hK => wp_build t parts ho (by rw [hb]; rfl) (by rw [hb]; exact hK _ _ h)
set_option maxRecDepth 20000 in
set_option maxHeartbeats 4000000 in
theorem RStart_any (w : World) : Calls Try.prog 37 #[] w fun e w' => e = .returned (.agg (sty finL)) ∧ Below w.heap.size w w' := by
  go_enter Try.func37, Try.ntmps37
  go_upto_region 1 with fail
  refine at_any (fun wx => Blk wx w.heap.size 27 (sty []) ∧ Below w.heap.size w wx) ⟨Blk.new _ _ _, below_alloc (Below.refl _ _) _⟩ ?_
  rintro wx ⟨hbr, hb⟩
  have HBR := Lib.hid hbr
  have HB := Lib.hid hb
  clear hbr hb
  refine wp_region_list ?_
  refine wpList_build_to rfl 27 #[(27, .const (.int .i64 1024)), (28, .const (.int .i64 1200))] rfl (sty upL) (by kernel_rfl) ?_
  refine wpList_plain rfl fun K hK => ?_
  have HK := Lib.hid hK
  clear hK
  go_simp
  refine (RCompute_any _).mono ?_; rintro e w2 ⟨rfl, hb2⟩
  have hbr2 := HBR.out.then_ hb2
  have HB2 := Lib.hid (below_then HB.out hb2)
  clear hb2
  refine HK.out _ _ ?_
  clear HK
  refine wpList_store_mid rfl 27 (.tmp 0) (.tmp 2) rfl w.heap.size 0 (sty finL) rfl rfl (hbr2.there (by simp [sty])) (by kernel_rfl) (sty_one _) ?_
  have hr2 := hbr2.setCells_all (sty finL) (by simp [sty])
  have hb3 := below_setCells (g := w.heap.size) (Nat.le_refl _) (sty finL).toList 0 _ HB2.out
  clear hbr2 HB2
  go_wp2_with fail
  exact bodyPost_ret (v := .agg (sty finL)) (results_cell rfl rfl hr2 Try.underlying27 rfl (by kernel_rfl)) rfl ⟨rfl, hb3⟩

def kS : Cs := ⟨fun j => ([0, 0, 0, 0, 0, 0, 0, 0, 0, 0, 6, 0, 6, 0, 1, 0, 1, 640, 1, 0, 1, 640, 1, 0, 1, 0, 1, 0, 1, 0, 0, 0, 0, 0, 0, 0, 0, 0, 0, 1000, 0, 0, 0, 0, 0, 0, 0, 1, 0, 1, 0, 0, 0, 1024, 1200, 6400, -1, 0, 0] : List Int).getD j 0, false, .string { data := #[] }⟩
def kT : Cs := ⟨fun j => ([0, 0, 2, 50000, 0, 0, 0, 0, 0, 0, 6, 0, 6, 0, 1, 0, 1, 0, 1, 0, 1, 0, 1, 0, 1, 64, 1, 0, 1, 64, 0, 0, 0, 0, 0, 0, 0, 0, 0, 1000, 0, 0, 0, 0, 0, 0, 0, 1, 0, 1, 0, 0, 0, 1024, 1200, 6400, -1, 0, 0] : List Int).getD j 0, false, .string { data := #[] }⟩
def kU : Cs := ⟨fun j => ([0, 0, 2, 50000, 0, 0, 0, 0, 0, 0, 6, 0, 6, 0, 1, 0, 1, 0, 1, 0, 1, 0, 1, 0, 1, 64, 1, 0, 1, 64, 0, 0, 0, 0, 0, 0, 0, 0, 0, 1000, 0, 0, 0, 0, 0, 0, 0, 1, 0, 1, 0, 0, 0, 1024, 1200, 6400, -1, 0, 0] : List Int).getD j 0, true, .string { data := #[] }⟩
theorem wide_S (w : World) : Calls Try.prog 25 #[.agg kS.cells] w fun e w' => e = .returned (.int .i64 5120) ∧ Below w.heap.size w w' := by
  have h := Wide_any kS w
  rw [show kS.wide = 5120 from by decide +kernel] at h
  exact h
theorem wide_T (w : World) : Calls Try.prog 25 #[.agg kT.cells] w fun e w' => e = .returned (.int .i64 3328) ∧ Below w.heap.size w w' := by
  have h := Wide_any kT w
  rw [show kT.wide = 3328 from by decide +kernel] at h
  exact h
theorem wide_U (w : World) : Calls Try.prog 25 #[.agg kU.cells] w fun e w' => e = .returned (.int .i64 3200) ∧ Below w.heap.size w w' := by
  have h := Wide_any kU w
  rw [show kU.wide = 3200 from by decide +kernel] at h
  exact h

set_option maxRecDepth 20000 in
set_option maxHeartbeats 8000000 in
theorem known_any (w : World) : Calls Try.prog 18 #[] w fun e w' => e = .returned (.bool true) ∧ Below w.heap.size w w' := by
  go_enter Try.func18, Try.ntmps18
  go_upto_region 1 with fail
  refine wp_region_list ?_
  refine wpList_plain rfl fun K hK => ?_
  have HK := Lib.hid hK
  clear hK
  go_simp
  refine (RStart_any _).mono ?_; rintro e w1 ⟨rfl, hb1⟩
  refine HK.out _ _ ?_
  clear HK
  refine wpList_run_to rfl (.pointer (some ⟨w1.heap.size, 0, none⟩)) (w1.alloc (.cells (sty []) 27)) (by kernel_rfl) ?_
  refine wpList_store_mid rfl 27 (.tmp 1) (.tmp 4) rfl w1.heap.size 0 (sty finL) rfl rfl ((Blk.new w1 27 (sty [])).there (by simp [sty])) (by kernel_rfl) (sty_one _) ?_
  have hs := (Blk.new w1 27 (sty [])).setCells_all (sty finL) (by simp [sty])
  have hle := hb1.size
  have hb := below_setCells (g := w1.heap.size) hle (sty finL).toList 0 _ (below_alloc hb1 (.cells (sty []) 27))
  clear hb1
  go_upto_region 2 with fail
  refine at_any (fun wx => Blk wx w1.heap.size 27 (sty finL) ∧ Below w.heap.size w wx) ⟨hs, hb⟩ ?_
  clear hs hb
  rintro wx ⟨hs, hb⟩
  have HS := Lib.hid hs
  have HB := Lib.hid hb
  clear hs hb
  have y20 : wx.cell? ⟨w1.heap.size, 20, none⟩ = some (.int .i64 1) := HS.out.cell 20
  have z20 : wx.frozen? ⟨w1.heap.size, 20, none⟩ = false := HS.out.frozen 20
  have y21 : wx.cell? ⟨w1.heap.size, 21, none⟩ = some (.int .i64 0) := HS.out.cell 21
  have z21 : wx.frozen? ⟨w1.heap.size, 21, none⟩ = false := HS.out.frozen 21
  have y16 : wx.cell? ⟨w1.heap.size, 16, none⟩ = some (.int .i64 1) := HS.out.cell 16
  have z16 : wx.frozen? ⟨w1.heap.size, 16, none⟩ = false := HS.out.frozen 16
  have y17 : wx.cell? ⟨w1.heap.size, 17, none⟩ = some (.int .i64 0) := HS.out.cell 17
  have z17 : wx.frozen? ⟨w1.heap.size, 17, none⟩ = false := HS.out.frozen 17
  go_upto_region 3 with fail
  refine at_any (fun wx => Blk wx w1.heap.size 27 (sty sL) ∧ Below w.heap.size w wx) ⟨(by
    have e : ((((sty finL).setIfInBounds 20 (.int .i64 1)).setIfInBounds 21 (.int .i64 640)).setIfInBounds 16 (.int .i64 1)).setIfInBounds 17 (.int .i64 640) = sty sL := by kernel_rfl
    rw [← e]
    exact (((HS.out.put 20 _).put 21 _).put 16 _).put 17 _), below_set (below_set (below_set (below_set HB.out hle _) hle _) hle _) hle _⟩ ?_
  clear HS HB y20 y21 y16 y17 z20 z21 z16 z17
  rintro wy ⟨hs, hb⟩
  have HS := Lib.hid hs
  have HB := Lib.hid hb
  clear hs hb
  refine wp_region_list ?_
  refine wpList_plain rfl fun K hK => ?_
  have HK := Lib.hid hK
  clear hK
  go_simp
  refine (RStart_any _).mono ?_; rintro e w2 ⟨rfl, hb1⟩
  refine HK.out _ _ ?_
  clear HK
  refine wpList_run_to rfl (.pointer (some ⟨w2.heap.size, 0, none⟩)) (w2.alloc (.cells (sty []) 27)) (by kernel_rfl) ?_
  refine wpList_store_mid rfl 27 (.tmp 2) (.tmp 11) rfl w2.heap.size 0 (sty finL) rfl rfl ((Blk.new w2 27 (sty [])).there (by simp [sty])) (by kernel_rfl) (sty_one _) ?_
  have ht := (Blk.new w2 27 (sty [])).setCells_all (sty finL) (by simp [sty])
  have hs := HS.out.then_ hb1
  have hne : w1.heap.size ≠ w2.heap.size := by have := hs.lt; omega
  have hbb := below_then HB.out hb1
  have hle2 : w.heap.size ≤ w2.heap.size := hbb.size
  have hb := below_setCells (g := w2.heap.size) hle2 (sty finL).toList 0 _ (below_alloc hbb (.cells (sty []) 27))
  clear hb1 hbb HB HS
  go_upto_region 4 with fail
  refine at_any (fun wx => Blk wx w1.heap.size 27 (sty sL) ∧ Blk wx w2.heap.size 27 (sty finL) ∧ Below w.heap.size w wx) ⟨(hs.alloc _).setFar hne _ _, ht, hb⟩ ?_
  clear hs ht hb
  rintro wz ⟨hs, ht, hb⟩
  have HS := Lib.hid hs
  have HT := Lib.hid ht
  have HB := Lib.hid hb
  clear hs ht hb
  have y2 : wz.cell? ⟨w2.heap.size, 2, none⟩ = some (.int .i64 0) := HT.out.cell 2
  have z2 : wz.frozen? ⟨w2.heap.size, 2, none⟩ = false := HT.out.frozen 2
  have y3 : wz.cell? ⟨w2.heap.size, 3, none⟩ = some (.int .i64 0) := HT.out.cell 3
  have z3 : wz.frozen? ⟨w2.heap.size, 3, none⟩ = false := HT.out.frozen 3
  have y28 : wz.cell? ⟨w2.heap.size, 28, none⟩ = some (.int .i64 1) := HT.out.cell 28
  have z28 : wz.frozen? ⟨w2.heap.size, 28, none⟩ = false := HT.out.frozen 28
  have y29 : wz.cell? ⟨w2.heap.size, 29, none⟩ = some (.int .i64 0) := HT.out.cell 29
  have z29 : wz.frozen? ⟨w2.heap.size, 29, none⟩ = false := HT.out.frozen 29
  have y24 : wz.cell? ⟨w2.heap.size, 24, none⟩ = some (.int .i64 1) := HT.out.cell 24
  have z24 : wz.frozen? ⟨w2.heap.size, 24, none⟩ = false := HT.out.frozen 24
  have y25 : wz.cell? ⟨w2.heap.size, 25, none⟩ = some (.int .i64 0) := HT.out.cell 25
  have z25 : wz.frozen? ⟨w2.heap.size, 25, none⟩ = false := HT.out.frozen 25
  go_upto_region 6 with fail
  refine at_any (fun wx => Blk wx w1.heap.size 27 (sty sL) ∧ Blk wx w2.heap.size 27 (sty tL) ∧ Below w.heap.size w wx) ⟨(((((HS.out.far hne _).far hne _).far hne _).far hne _).far hne _).far hne _, (by
    have e : ((((((sty finL).setIfInBounds 2 (.int .i64 2)).setIfInBounds 3 (.int .i64 50000)).setIfInBounds 28 (.int .i64 1)).setIfInBounds 29 (.int .i64 64)).setIfInBounds 24 (.int .i64 1)).setIfInBounds 25 (.int .i64 64) = sty tL := by kernel_rfl
    rw [← e]
    exact (((((HT.out.put 2 _).put 3 _).put 28 _).put 29 _).put 24 _).put 25 _), below_set (below_set (below_set (below_set (below_set (below_set HB.out hle2 _) hle2 _) hle2 _) hle2 _) hle2 _) hle2 _⟩ ?_
  clear HS HT HB y2 y3 y28 y29 y24 y25 z2 z3 z28 z29 z24 z25
  rintro w3 ⟨hs, ht, hb⟩
  have hne3 : w1.heap.size ≠ w3.heap.size := by have := hs.lt; omega
  have hne4 : w2.heap.size ≠ w3.heap.size := by have := ht.lt; omega
  have hle3 : w.heap.size ≤ w3.heap.size := hb.size
  refine wp_region_list ?_
  refine wpList_load_whole rfl 27 (.tmp 2) rfl w2.heap.size rfl ht Try.underlying27 rfl (by kernel_rfl) ?_
  refine wpList_run_to rfl (.pointer (some ⟨w3.heap.size, 0, none⟩)) (w3.alloc (.cells (sty []) 27)) (by kernel_rfl) ?_
  refine wpList_store_mid rfl 27 (.tmp 3) (.tmp 20) rfl w3.heap.size 0 (sty tL) rfl rfl ((Blk.new w3 27 (sty [])).there (by simp [sty])) (by kernel_rfl) (sty_one _) ?_
  have hu := (Blk.new w3 27 (sty [])).setCells_all (sty tL) (by simp [sty])
  have hb4 := below_setCells (g := w3.heap.size) hle3 (sty tL).toList 0 _ (below_alloc hb (.cells (sty []) 27))
  go_upto_region 7 with fail
  refine at_any (fun wx => Blk wx w1.heap.size 27 (sty sL) ∧ Blk wx w2.heap.size 27 (sty tL) ∧ Blk wx w3.heap.size 27 (sty tL) ∧ Below w.heap.size w wx) ⟨(hs.alloc _).setFar hne3 _ _, (ht.alloc _).setFar hne4 _ _, hu, hb4⟩ ?_
  clear hs ht hb hu hb4
  rintro w4 ⟨hs, ht, hu, hb⟩
  have HS := Lib.hid hs
  have HT := Lib.hid ht
  have HU := Lib.hid hu
  have HB := Lib.hid hb
  clear hs ht hu hb
  have y1 : w4.cell? ⟨w3.heap.size, 1, none⟩ = some (.bool false) := HU.out.cell 1
  have z1 : w4.frozen? ⟨w3.heap.size, 1, none⟩ = false := HU.out.frozen 1
  go_upto_region 8 with fail
  refine at_any (fun wx => Blk wx w1.heap.size 27 (sty sL) ∧ Blk wx w2.heap.size 27 (sty tL) ∧ Blk wx w3.heap.size 27 ((sty tL).setIfInBounds 1 (.bool true)) ∧ Below w.heap.size w wx) ⟨HS.out.far hne3 _, HT.out.far hne4 _, HU.out.put 1 _, below_set HB.out hle3 _⟩ ?_
  clear HS HT HU HB y1 z1
  rintro w5 ⟨hs, ht, hu, hb⟩
  have HS := Lib.hid hs
  have HT := Lib.hid ht
  have HU := Lib.hid hu
  have HB := Lib.hid hb
  clear hs ht hu hb
  have hwS := wide_S
  have hwT := wide_T
  have hwU := wide_U
  obtain ⟨cS, hcS⟩ : ∃ x, x = kS.cells := ⟨_, rfl⟩
  obtain ⟨cT, hcT⟩ : ∃ x, x = kT.cells := ⟨_, rfl⟩
  obtain ⟨cU, hcU⟩ : ∃ x, x = kU.cells := ⟨_, rfl⟩
  rw [← hcS] at hwS
  rw [← hcT] at hwT
  rw [← hcU] at hwU
  have HWS := Lib.hid hwS
  have HWT := Lib.hid hwT
  have HWU := Lib.hid hwU
  have HCS := Lib.hid hcS
  have HCT := Lib.hid hcT
  have HCU := Lib.hid hcU
  clear hwS hwT hwU hcS hcT hcU
  go_wp2_with (first
    | (refine wpList_load_want (by kernel_rfl) 27 (.tmp 1) rfl w1.heap.size rfl HS.out Try.underlying27 rfl (by kernel_rfl) ?_; simp only [Act.put, List.setIfInBounds_toArray, List.set_cons_zero, List.set_cons_succ])
    | (refine wpList_load_want (by kernel_rfl) 27 (.tmp 2) rfl w2.heap.size rfl HT.out Try.underlying27 rfl (by kernel_rfl) ?_; simp only [Act.put, List.setIfInBounds_toArray, List.set_cons_zero, List.set_cons_succ])
    | (refine wpList_load_want (by kernel_rfl) 27 (.tmp 3) rfl w3.heap.size rfl HU.out Try.underlying27 rfl (by kernel_rfl) ?_; simp only [Act.put, List.setIfInBounds_toArray, List.set_cons_zero, List.set_cons_succ])
    | (refine wpList_build_want (by kernel_rfl) 29 #[(0, .tmp 22), (1, .const (.int .i64 6400)), (2, .const (.int .i64 (-1)))] rfl cS (by rw [HCS.out]; kernel_rfl) ?_; simp only [Act.put, List.setIfInBounds_toArray, List.set_cons_zero, List.set_cons_succ])
    | (refine wpList_build_want (by kernel_rfl) 29 #[(0, .tmp 27), (1, .const (.int .i64 6400)), (2, .const (.int .i64 (-1)))] rfl cT (by rw [HCT.out]; kernel_rfl) ?_; simp only [Act.put, List.setIfInBounds_toArray, List.set_cons_zero, List.set_cons_succ])
    | (refine wpList_build_want (by kernel_rfl) 29 #[(0, .tmp 33), (1, .const (.int .i64 6400)), (2, .const (.int .i64 (-1)))] rfl cU (by rw [HCU.out]; kernel_rfl) ?_))
  refine (HWS.out _).mono ?_; rintro e wn ⟨rfl, hb2⟩; have HS := Lib.hid (HS.out.then_ hb2); have HT := Lib.hid (HT.out.then_ hb2); have HU := Lib.hid (HU.out.then_ hb2); have HB := Lib.hid (below_then HB.out hb2); clear hb2
  go_wp2_with (first
    | (refine wpList_load_want (by kernel_rfl) 27 (.tmp 1) rfl w1.heap.size rfl HS.out Try.underlying27 rfl (by kernel_rfl) ?_; simp only [Act.put, List.setIfInBounds_toArray, List.set_cons_zero, List.set_cons_succ])
    | (refine wpList_load_want (by kernel_rfl) 27 (.tmp 2) rfl w2.heap.size rfl HT.out Try.underlying27 rfl (by kernel_rfl) ?_; simp only [Act.put, List.setIfInBounds_toArray, List.set_cons_zero, List.set_cons_succ])
    | (refine wpList_load_want (by kernel_rfl) 27 (.tmp 3) rfl w3.heap.size rfl HU.out Try.underlying27 rfl (by kernel_rfl) ?_; simp only [Act.put, List.setIfInBounds_toArray, List.set_cons_zero, List.set_cons_succ])
    | (refine wpList_build_want (by kernel_rfl) 29 #[(0, .tmp 22), (1, .const (.int .i64 6400)), (2, .const (.int .i64 (-1)))] rfl cS (by rw [HCS.out]; kernel_rfl) ?_; simp only [Act.put, List.setIfInBounds_toArray, List.set_cons_zero, List.set_cons_succ])
    | (refine wpList_build_want (by kernel_rfl) 29 #[(0, .tmp 27), (1, .const (.int .i64 6400)), (2, .const (.int .i64 (-1)))] rfl cT (by rw [HCT.out]; kernel_rfl) ?_; simp only [Act.put, List.setIfInBounds_toArray, List.set_cons_zero, List.set_cons_succ])
    | (refine wpList_build_want (by kernel_rfl) 29 #[(0, .tmp 33), (1, .const (.int .i64 6400)), (2, .const (.int .i64 (-1)))] rfl cU (by rw [HCU.out]; kernel_rfl) ?_))
  refine (HWT.out _).mono ?_; rintro e wn ⟨rfl, hb2⟩; have HS := Lib.hid (HS.out.then_ hb2); have HT := Lib.hid (HT.out.then_ hb2); have HU := Lib.hid (HU.out.then_ hb2); have HB := Lib.hid (below_then HB.out hb2); clear hb2
  go_wp2_with (first
    | (refine wpList_load_want (by kernel_rfl) 27 (.tmp 1) rfl w1.heap.size rfl HS.out Try.underlying27 rfl (by kernel_rfl) ?_; simp only [Act.put, List.setIfInBounds_toArray, List.set_cons_zero, List.set_cons_succ])
    | (refine wpList_load_want (by kernel_rfl) 27 (.tmp 2) rfl w2.heap.size rfl HT.out Try.underlying27 rfl (by kernel_rfl) ?_; simp only [Act.put, List.setIfInBounds_toArray, List.set_cons_zero, List.set_cons_succ])
    | (refine wpList_load_want (by kernel_rfl) 27 (.tmp 3) rfl w3.heap.size rfl HU.out Try.underlying27 rfl (by kernel_rfl) ?_; simp only [Act.put, List.setIfInBounds_toArray, List.set_cons_zero, List.set_cons_succ])
    | (refine wpList_build_want (by kernel_rfl) 29 #[(0, .tmp 22), (1, .const (.int .i64 6400)), (2, .const (.int .i64 (-1)))] rfl cS (by rw [HCS.out]; kernel_rfl) ?_; simp only [Act.put, List.setIfInBounds_toArray, List.set_cons_zero, List.set_cons_succ])
    | (refine wpList_build_want (by kernel_rfl) 29 #[(0, .tmp 27), (1, .const (.int .i64 6400)), (2, .const (.int .i64 (-1)))] rfl cT (by rw [HCT.out]; kernel_rfl) ?_; simp only [Act.put, List.setIfInBounds_toArray, List.set_cons_zero, List.set_cons_succ])
    | (refine wpList_build_want (by kernel_rfl) 29 #[(0, .tmp 33), (1, .const (.int .i64 6400)), (2, .const (.int .i64 (-1)))] rfl cU (by rw [HCU.out]; kernel_rfl) ?_))
  refine (HWU.out _).mono ?_; rintro e wn ⟨rfl, hb2⟩; have HS := Lib.hid (HS.out.then_ hb2); have HT := Lib.hid (HT.out.then_ hb2); have HU := Lib.hid (HU.out.then_ hb2); have HB := Lib.hid (below_then HB.out hb2); clear hb2
  go_wp2_with fail
  go_ret
  exact ⟨rfl, HB.out⟩

end Go.Proofs.Ytdddlnemlpgnlaa
