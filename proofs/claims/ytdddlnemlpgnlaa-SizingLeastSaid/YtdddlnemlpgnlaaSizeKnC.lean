/- Sizing, known: texts of words; what a property has where nothing is told. -/
import Derived.Test.YtdddlnemlpgnlaaSizeKnB
namespace Go.Proofs.Ytdddlnemlpgnlaa
open Go.RowKit
set_option linter.unusedSimpArgs false
set_option linter.unusedVariables false
attribute [local go_sem] cell?_ext frozen?_ext lt_size_ext

/-- A function with two results, the first one a struct's variable that fills its block. -/
theorem results_cell_tmp {fn : Func} {tmps : Array Value} {w : World} {s u : Nat} {t t' : TypeId} {g : Nat} {cs : Array Value} {d : TypeDesc} {x : Value} (hf : fn.results = #[.cell s t, .tmp u]) (hp : tmps.getD s undef = .pointer (some ⟨g, 0, none⟩)) (hx : tmps.getD u undef = x) (hb : Blk w g t' cs)
    (hu : Try.prog.underlying t = some d) (hd : d.isRow = true) (hi : (Try.prog.info? t).map (·.size) = some cs.size) : (results fn tmps).run Try.prog w = .ok (.tuple #[.agg cs, x]) w := by
  have h1 := run_loadVar_mid (P := Try.prog) w g 0 t cs.toList d hb.range hu hd (by simpa using hi)
  rw [Array.toArray_toList] at h1
  have h2 : (loadVar t ⟨g, 0, none⟩).run Try.prog w = .ok (.agg cs) w := h1
  have e : results fn tmps = (do let v ← (do loadVar t (← asAddr (tmps.getD s undef))); pure (.tuple #[v, tmps.getD u undef])) := by
    unfold results
    rw [hf]
    simp
  rw [e, hp, hx]
  show (Sem.run Try.prog _ w) = _
  simp only [asAddr, pure_bind, Sem.run_bind, h2, Result.andThen_ok, Sem.run_pure]

set_option maxHeartbeats 4000000 in
theorem RText_zero (w : World) : Calls Try.prog 67 #[.agg #[.int .i64 0, .int .i64 0, .int .i64 0, .string { data := #[] }]] w fun e w' => e = .returned (.string { data := #[] }) ∧ Below w.heap.size w w' := by
  go_enter Try.func67, Try.ntmps67
  go_wp2_with fail
  go_ret
  exact ⟨rfl, below_alloc (Below.refl _ _) _⟩
set_option maxHeartbeats 4000000 in
theorem RText_word (K : Nat) (hK : 1 ≤ K ∧ K < 31) (w : World) : Calls Try.prog 67 #[.agg #[.int .i64 1, .int .i64 K, .int .i64 0, .string { data := #[] }]] w fun e w' => e = .returned (.string (wordAt K)) ∧ Below w.heap.size w w' := by
  have h1 : (1 : Int) ≤ (K : Int) := by omega
  have h2 : (K : Int) ≤ 30 := by omega
  have h3 : (K : Int) < 31 := by omega
  have h4 : (0 : Int) ≤ (K : Int) := by omega
  have d1 : decide ((1 : Int) ≤ (K : Int)) = true := decide_eq_true h1
  have d2 : decide ((K : Int) ≤ 30) = true := decide_eq_true h2
  have HK := Lib.hid hK
  go_enter Try.func67, Try.ntmps67
  go_upto_region 2 with fail
  refine at_any (fun wx => Blk wx w.heap.size 72 #[.int .i64 1, .int .i64 K, .int .i64 0, .string { data := #[] }] ∧ Below w.heap.size w wx) ⟨Blk.new _ _ _, below_alloc (Below.refl _ _) _⟩ ?_
  rintro wx ⟨hbk, hb⟩
  have x1 : wx.cell? ⟨w.heap.size, 1, none⟩ = some (.int .i64 K) := hbk.cell 1
  have HBK := Lib.hid hbk
  have HB := Lib.hid hb
  clear hbk hb
  go_region_with (first | (go_at_call 76; refine (RWords9_any _).mono ?_; rintro e w2 ⟨rfl, hbw, hb2⟩; have y1 : w2.cell? ⟨w.heap.size, 1, none⟩ = some (.int .i64 K) := (HBK.out.drew.then_ hb2).cell 1; have y2 : w2.cell? ⟨wx.heap.size, K, none⟩ = some (.string (wordAt K)) := word_cell hbw K HK.out.2; have HB2 := Lib.hid (below_then HB.out.drew hb2); clear hbw hb2))
  all_goals
    go_wp2_with fail
    go_ret
    exact ⟨rfl, HB2.out⟩

set_option maxHeartbeats 4000000 in
theorem RHas_any (p k n d : Int) (e0 : decide (p ≤ 0) = false) (e36 : (p == 36) = false) (e37 : (p == 37) = false)
    (hF : ∀ w, Calls Try.prog 75 #[.int .i64 p] w fun e w' => e = .returned (.agg #[.int .i64 k, .int .i64 n, .int .i64 d, .string { data := #[] }]) ∧ Below w.heap.size w w')
    (w : World) :
    Calls Try.prog 66 #[.slice none 0 0, .int .i64 p] w fun e w' => e = .returned (.tuple #[.agg #[.int .i64 k, .int .i64 n, .int .i64 d, .string { data := #[] }], .bool false]) ∧ Below w.heap.size w w' := by
  go_enter Try.func66, Try.ntmps66
  go_upto_region 4 with fail
  refine at_any (fun wx => Blk wx w.heap.size 72 #[.int .i64 0, .int .i64 0, .int .i64 0, .string { data := #[] }] ∧ Blk wx (w.heap.size + 1) 72 #[.int .i64 0, .int .i64 0, .int .i64 0, .string { data := #[] }] ∧ Below w.heap.size w wx) ⟨(Blk.new _ _ _).alloc _, Blk.new_at (by simp), below_alloc (below_alloc (Below.refl _ _) _) _⟩ ?_
  rintro wx ⟨hbr, hbv, hb⟩
  have HBR := Lib.hid hbr
  have HBV := Lib.hid hbv
  have HB := Lib.hid hb
  clear hbr hbv hb
  have x0 : wx.cell? ⟨w.heap.size + 1, 0, none⟩ = some (.int .i64 0) := HBV.out.cell 0
  have x1 : wx.cell? ⟨w.heap.size + 1, 1, none⟩ = some (.int .i64 0) := HBV.out.cell 1
  have x2 : wx.cell? ⟨w.heap.size + 1, 2, none⟩ = some (.int .i64 0) := HBV.out.cell 2
  have x3 : wx.cell? ⟨w.heap.size + 1, 3, none⟩ = some (.string { data := #[] }) := HBV.out.cell 3
  go_wp2_with fail
  refine (RText_zero _).mono ?_; rintro e w2 ⟨rfl, hb2⟩
  have HBR2 := Lib.hid (HBR.out.then_ hb2)
  have HBV2 := Lib.hid (HBV.out.then_ hb2)
  have HB2 := Lib.hid (below_then HB.out hb2)
  clear hb2 x0 x1 x2 x3
  have x0 : w2.cell? ⟨w.heap.size + 1, 0, none⟩ = some (.int .i64 0) := HBV2.out.cell 0
  have x1 : w2.cell? ⟨w.heap.size + 1, 1, none⟩ = some (.int .i64 0) := HBV2.out.cell 1
  have x2 : w2.cell? ⟨w.heap.size + 1, 2, none⟩ = some (.int .i64 0) := HBV2.out.cell 2
  have x3 : w2.cell? ⟨w.heap.size + 1, 3, none⟩ = some (.string { data := #[] }) := HBV2.out.cell 3
  go_wp2_with fail
  refine (hF _).mono ?_; rintro e w3 ⟨rfl, hb3⟩
  have HBR3 := Lib.hid (HBR2.out.then_ hb3)
  have HB3 := Lib.hid (below_then HB2.out hb3)
  clear hb3 x0 x1 x2 x3 hF
  have x0 : w3.cell? ⟨w.heap.size, 0, none⟩ = some (.int .i64 0) := HBR3.out.cell 0
  have xz0 : w3.frozen? ⟨w.heap.size, 0, none⟩ = false := HBR3.out.frozen 0
  have x1 : w3.cell? ⟨w.heap.size, 1, none⟩ = some (.int .i64 0) := HBR3.out.cell 1
  have xz1 : w3.frozen? ⟨w.heap.size, 1, none⟩ = false := HBR3.out.frozen 1
  have x2 : w3.cell? ⟨w.heap.size, 2, none⟩ = some (.int .i64 0) := HBR3.out.cell 2
  have xz2 : w3.frozen? ⟨w.heap.size, 2, none⟩ = false := HBR3.out.frozen 2
  have x3 : w3.cell? ⟨w.heap.size, 3, none⟩ = some (.string { data := #[] }) := HBR3.out.cell 3
  have xz3 : w3.frozen? ⟨w.heap.size, 3, none⟩ = false := HBR3.out.frozen 3
  go_wp2_with fail
  exact bodyPost_ret (v := .tuple #[.agg #[.int .i64 k, .int .i64 n, .int .i64 d, .string { data := #[] }], .bool false]) (results_cell_tmp rfl rfl rfl ((((HBR3.out.put 0 (.int .i64 k)).put 1 (.int .i64 n)).put 2 (.int .i64 d)).put 3 (.string { data := #[] })) Try.underlying72 rfl (by kernel_rfl)) rfl
    ⟨rfl, below_set (below_set (below_set (below_set HB3.out (Nat.le_refl _) _) (Nat.le_refl _) _) (Nat.le_refl _) _) (Nat.le_refl _) _⟩

set_option maxHeartbeats 4000000 in
theorem RHas_36 (w : World) : Calls Try.prog 66 #[.slice none 0 0, .int .i64 36] w fun e w' => e = .returned (.tuple #[.agg #[.int .i64 0, .int .i64 0, .int .i64 0, .string { data := #[] }], .bool true]) ∧ Below w.heap.size w w' := by
  go_enter Try.func66, Try.ntmps66
  go_upto_region 4 with fail
  refine at_any (fun wx => Blk wx w.heap.size 72 #[.int .i64 0, .int .i64 0, .int .i64 0, .string { data := #[] }] ∧ Blk wx (w.heap.size + 1) 72 #[.int .i64 0, .int .i64 0, .int .i64 0, .string { data := #[] }] ∧ Below w.heap.size w wx) ⟨(Blk.new _ _ _).alloc _, Blk.new_at (by simp), below_alloc (below_alloc (Below.refl _ _) _) _⟩ ?_
  rintro wx ⟨hbr, hbv, hb⟩
  have HBR := Lib.hid hbr
  have HBV := Lib.hid hbv
  have HB := Lib.hid hb
  clear hbr hbv hb
  have x0 : wx.cell? ⟨w.heap.size + 1, 0, none⟩ = some (.int .i64 0) := HBV.out.cell 0
  have x1 : wx.cell? ⟨w.heap.size + 1, 1, none⟩ = some (.int .i64 0) := HBV.out.cell 1
  have x2 : wx.cell? ⟨w.heap.size + 1, 2, none⟩ = some (.int .i64 0) := HBV.out.cell 2
  have x3 : wx.cell? ⟨w.heap.size + 1, 3, none⟩ = some (.string { data := #[] }) := HBV.out.cell 3
  go_wp2_with fail
  refine (RText_zero _).mono ?_; rintro e w2 ⟨rfl, hb2⟩
  have HBR2 := Lib.hid (HBR.out.then_ hb2)
  have HBV2 := Lib.hid (HBV.out.then_ hb2)
  have HB2 := Lib.hid (below_then HB.out hb2)
  clear hb2 x0 x1 x2 x3
  have x0 : w2.cell? ⟨w.heap.size + 1, 0, none⟩ = some (.int .i64 0) := HBV2.out.cell 0
  have x1 : w2.cell? ⟨w.heap.size + 1, 1, none⟩ = some (.int .i64 0) := HBV2.out.cell 1
  have x2 : w2.cell? ⟨w.heap.size + 1, 2, none⟩ = some (.int .i64 0) := HBV2.out.cell 2
  have x3 : w2.cell? ⟨w.heap.size + 1, 3, none⟩ = some (.string { data := #[] }) := HBV2.out.cell 3
  have y0 : w2.cell? ⟨w.heap.size, 0, none⟩ = some (.int .i64 0) := HBR2.out.cell 0
  have yz0 : w2.frozen? ⟨w.heap.size, 0, none⟩ = false := HBR2.out.frozen 0
  have y1 : w2.cell? ⟨w.heap.size, 1, none⟩ = some (.int .i64 0) := HBR2.out.cell 1
  have yz1 : w2.frozen? ⟨w.heap.size, 1, none⟩ = false := HBR2.out.frozen 1
  have y2 : w2.cell? ⟨w.heap.size, 2, none⟩ = some (.int .i64 0) := HBR2.out.cell 2
  have yz2 : w2.frozen? ⟨w.heap.size, 2, none⟩ = false := HBR2.out.frozen 2
  have y3 : w2.cell? ⟨w.heap.size, 3, none⟩ = some (.string { data := #[] }) := HBR2.out.cell 3
  have yz3 : w2.frozen? ⟨w.heap.size, 3, none⟩ = false := HBR2.out.frozen 3
  go_wp2_with fail
  exact bodyPost_ret (v := .tuple #[.agg #[.int .i64 0, .int .i64 0, .int .i64 0, .string { data := #[] }], .bool true]) (results_cell_tmp rfl rfl rfl ((((HBR2.out.put 0 (.int .i64 0)).put 1 (.int .i64 0)).put 2 (.int .i64 0)).put 3 (.string { data := #[] })) Try.underlying72 rfl (by kernel_rfl)) rfl
    ⟨rfl, below_set (below_set (below_set (below_set HB2.out (Nat.le_refl _) _) (Nat.le_refl _) _) (Nat.le_refl _) _) (Nat.le_refl _) _⟩

set_option maxHeartbeats 4000000 in
theorem RHas_37 (w : World) : Calls Try.prog 66 #[.slice none 0 0, .int .i64 37] w fun e w' => e = .returned (.tuple #[.agg #[.int .i64 0, .int .i64 0, .int .i64 0, .string { data := #[] }], .bool true]) ∧ Below w.heap.size w w' := by
  go_enter Try.func66, Try.ntmps66
  go_upto_region 4 with fail
  refine at_any (fun wx => Blk wx w.heap.size 72 #[.int .i64 0, .int .i64 0, .int .i64 0, .string { data := #[] }] ∧ Blk wx (w.heap.size + 1) 72 #[.int .i64 0, .int .i64 0, .int .i64 0, .string { data := #[] }] ∧ Below w.heap.size w wx) ⟨(Blk.new _ _ _).alloc _, Blk.new_at (by simp), below_alloc (below_alloc (Below.refl _ _) _) _⟩ ?_
  rintro wx ⟨hbr, hbv, hb⟩
  have HBR := Lib.hid hbr
  have HBV := Lib.hid hbv
  have HB := Lib.hid hb
  clear hbr hbv hb
  have x0 : wx.cell? ⟨w.heap.size + 1, 0, none⟩ = some (.int .i64 0) := HBV.out.cell 0
  have x1 : wx.cell? ⟨w.heap.size + 1, 1, none⟩ = some (.int .i64 0) := HBV.out.cell 1
  have x2 : wx.cell? ⟨w.heap.size + 1, 2, none⟩ = some (.int .i64 0) := HBV.out.cell 2
  have x3 : wx.cell? ⟨w.heap.size + 1, 3, none⟩ = some (.string { data := #[] }) := HBV.out.cell 3
  go_wp2_with fail
  refine (RText_zero _).mono ?_; rintro e w2 ⟨rfl, hb2⟩
  have HBR2 := Lib.hid (HBR.out.then_ hb2)
  have HBV2 := Lib.hid (HBV.out.then_ hb2)
  have HB2 := Lib.hid (below_then HB.out hb2)
  clear hb2 x0 x1 x2 x3
  have x0 : w2.cell? ⟨w.heap.size + 1, 0, none⟩ = some (.int .i64 0) := HBV2.out.cell 0
  have x1 : w2.cell? ⟨w.heap.size + 1, 1, none⟩ = some (.int .i64 0) := HBV2.out.cell 1
  have x2 : w2.cell? ⟨w.heap.size + 1, 2, none⟩ = some (.int .i64 0) := HBV2.out.cell 2
  have x3 : w2.cell? ⟨w.heap.size + 1, 3, none⟩ = some (.string { data := #[] }) := HBV2.out.cell 3
  have y0 : w2.cell? ⟨w.heap.size, 0, none⟩ = some (.int .i64 0) := HBR2.out.cell 0
  have yz0 : w2.frozen? ⟨w.heap.size, 0, none⟩ = false := HBR2.out.frozen 0
  have y1 : w2.cell? ⟨w.heap.size, 1, none⟩ = some (.int .i64 0) := HBR2.out.cell 1
  have yz1 : w2.frozen? ⟨w.heap.size, 1, none⟩ = false := HBR2.out.frozen 1
  have y2 : w2.cell? ⟨w.heap.size, 2, none⟩ = some (.int .i64 0) := HBR2.out.cell 2
  have yz2 : w2.frozen? ⟨w.heap.size, 2, none⟩ = false := HBR2.out.frozen 2
  have y3 : w2.cell? ⟨w.heap.size, 3, none⟩ = some (.string { data := #[] }) := HBR2.out.cell 3
  have yz3 : w2.frozen? ⟨w.heap.size, 3, none⟩ = false := HBR2.out.frozen 3
  go_wp2_with fail
  exact bodyPost_ret (v := .tuple #[.agg #[.int .i64 0, .int .i64 0, .int .i64 0, .string { data := #[] }], .bool true]) (results_cell_tmp rfl rfl rfl ((((HBR2.out.put 0 (.int .i64 0)).put 1 (.int .i64 0)).put 2 (.int .i64 0)).put 3 (.string { data := #[] })) Try.underlying72 rfl (by kernel_rfl)) rfl
    ⟨rfl, below_set (below_set (below_set (below_set HB2.out (Nat.le_refl _) _) (Nat.le_refl _) _) (Nat.le_refl _) _) (Nat.le_refl _) _⟩

end Go.Proofs.Ytdddlnemlpgnlaa
