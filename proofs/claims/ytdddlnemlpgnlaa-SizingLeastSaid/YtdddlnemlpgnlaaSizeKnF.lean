/- Sizing, known: the first style. -/
import Derived.Test.YtdddlnemlpgnlaaSizeKnE
namespace Go.Proofs.Ytdddlnemlpgnlaa
open Go.RowKit
set_option linter.unusedSimpArgs false
set_option linter.unusedVariables false
attribute [local go_sem] cell?_ext frozen?_ext lt_size_ext

/-- A style's cells, of a list of its numbers. -/
def sty (L : List Int) : Array Value := #[.int .i64 (L.getD 0 0), .bool false, .int .i64 (L.getD 2 0), .int .i64 (L.getD 3 0), .int .i64 (L.getD 4 0), .int .i64 (L.getD 5 0), .int .i64 (L.getD 6 0), .int .i64 (L.getD 7 0), .int .i64 (L.getD 8 0), .int .i64 (L.getD 9 0), .int .i64 (L.getD 10 0), .int .i64 (L.getD 11 0), .int .i64 (L.getD 12 0), .int .i64 (L.getD 13 0), .int .i64 (L.getD 14 0), .int .i64 (L.getD 15 0), .int .i64 (L.getD 16 0), .int .i64 (L.getD 17 0), .int .i64 (L.getD 18 0), .int .i64 (L.getD 19 0), .int .i64 (L.getD 20 0), .int .i64 (L.getD 21 0), .int .i64 (L.getD 22 0), .int .i64 (L.getD 23 0), .int .i64 (L.getD 24 0), .int .i64 (L.getD 25 0), .int .i64 (L.getD 26 0), .int .i64 (L.getD 27 0), .int .i64 (L.getD 28 0), .int .i64 (L.getD 29 0), .int .i64 (L.getD 30 0), .int .i64 (L.getD 31 0), .int .i64 (L.getD 32 0), .int .i64 (L.getD 33 0), .int .i64 (L.getD 34 0), .int .i64 (L.getD 35 0), .int .i64 (L.getD 36 0), .int .i64 (L.getD 37 0), .int .i64 (L.getD 38 0), .int .i64 (L.getD 39 0), .int .i64 (L.getD 40 0), .int .i64 (L.getD 41 0), .int .i64 (L.getD 42 0), .int .i64 (L.getD 43 0), .int .i64 (L.getD 44 0), .int .i64 (L.getD 45 0), .int .i64 (L.getD 46 0), .int .i64 (L.getD 47 0), .int .i64 (L.getD 48 0), .int .i64 (L.getD 49 0), .int .i64 (L.getD 50 0), .int .i64 (L.getD 51 0), .string { data := #[] }, .int .i64 (L.getD 53 0), .int .i64 (L.getD 54 0)]

theorem wpList_build_to {ops : Array Oper} {rest : List Oper} {o : Oper} {a : Act} {w : World} {Q : Exit → Act → World → Prop} (hg : o.guard = none) (t : TypeId) (parts : Array (Nat × Operand)) (ho : o.op = .build t parts) (cs : Array Value)
    (hb : Try.prog.built t (parts.map fun (i, x) => (i, a.eval x)).toList = some cs) (h : wpList Try.prog ops Q rest (a.put o.dst (.agg cs)) w) : wpList Try.prog ops Q (o :: rest) a w :=
  wpList_build hg t parts ho (by rw [hb]; rfl) (by rw [hb]; exact h)
theorem wpList_run_to {ops : Array Oper} {rest : List Oper} {o : Oper} {a : Act} {w : World} {Q : Exit → Act → World → Prop} (hg : o.guard = none) (v : Value) (w' : World) (hrun : (execOp a.eval o).run Try.prog w = .ok (.value v) w')
    (h : wpList Try.prog ops Q rest (a.put o.dst v) w') : wpList Try.prog ops Q (o :: rest) a w := by
  refine wpList_plain hg fun K hK => ?_
  unfold Oper.wp
  rw [hrun, Oper.upon_value]
  exact hK _ _ h
theorem Blk.setFar {w : World} {g b : Nat} {t : TypeId} {cs : Array Value} (h : Blk w g t cs) (hne : g ≠ b) : ∀ (vs : List Value) (o : Nat), Blk (w.setCells b o vs) g t cs := by
  intro vs
  induction vs generalizing w with
  | nil => intro o; exact h
  | cons v r ih => intro o; exact ih (h.far hne v) (o + 1)
theorem sty_one (L : List Int) : (sty L).all (·.oneCell') = true := by simp [sty, Value.oneCell']
def finL : List Int := [0, 0, 0, 0, 0, 0, 0, 0, 0, 0, 6, 0, 6, 0, 1, 0, 1, 0, 1, 0, 1, 0, 1, 0, 1, 0, 1, 0, 1, 0, 0, 0, 0, 0, 0, 0, 0, 0, 0, 1000, 0, 0, 0, 0, 0, 0, 0, 1, 0, 1, 0, 0, 0, 1024, 1200]
def stL (k : Nat) : List Int := [0, 0, 0, 0, 0, 0, 0, 0, 0, 0, 6, 0, 6, 0, if 0 < k then 1 else 0, 0, if 1 < k then 1 else 0, 0, if 2 < k then 1 else 0, 0, if 3 < k then 1 else 0, 0, if 0 < k then 1 else 0, 0, if 1 < k then 1 else 0, 0, if 2 < k then 1 else 0, 0, if 3 < k then 1 else 0, 0, 0, 0, 0, 0, 0, 0, 0, 0, 0, 0, 0, 0, 0, 0, 0, 0, 0, 0, 0, 0, 0, 0, 0, 1024, 0]
def upL : List Int := [0, 0, 0, 0, 0, 0, 0, 0, 0, 0, 0, 0, 0, 0, 0, 0, 0, 0, 0, 0, 0, 0, 0, 0, 0, 0, 0, 0, 0, 0, 0, 0, 0, 0, 0, 0, 0, 0, 0, 0, 0, 0, 0, 0, 0, 0, 0, 0, 0, 0, 0, 0, 0, 1024, 1200]
set_option maxHeartbeats 4000000 in
theorem RFont_any (w : World) : Calls Try.prog 64 #[.slice none 0 0, .agg (sty upL), .int .i64 0, .int .i64 0] w fun e w' => e = .returned (.int .i64 1024) ∧ Below w.heap.size w w' := by
  go_enter Try.func64, Try.ntmps64
  go_upto_region 1 with fail
  refine at_any (fun wx => Blk wx w.heap.size 27 (sty upL) ∧ Below w.heap.size w wx) ⟨Blk.new _ _ _, below_alloc (Below.refl _ _) _⟩ ?_
  rintro wx ⟨hbu, hb⟩
  have HBU := Lib.hid hbu
  have HB := Lib.hid hb
  clear hbu hb
  go_wp2_with fail
  refine (RHas_36 _).mono ?_; rintro e w2 ⟨rfl, hb2⟩
  have HBU2 := Lib.hid (HBU.out.then_ hb2)
  have HB2 := Lib.hid (below_then HB.out hb2)
  clear hb2
  have x1 : w2.cell? ⟨w.heap.size, 53, none⟩ = some (.int .i64 1024) := HBU2.out.cell 53
  have xl := HBU2.out.lt
  go_wp2_with fail
  go_ret
  exact ⟨rfl, below_alloc HB2.out _⟩

set_option maxRecDepth 20000 in
set_option maxHeartbeats 16000000 in
theorem RCompute_any (w : World) : Calls Try.prog 53 #[.slice none 0 0, .agg (sty upL), .int .i64 0, .int .i64 0] w fun e w' => e = .returned (.agg (sty finL)) ∧ Below w.heap.size w w' := by
  go_enter Try.func53, Try.ntmps53
  go_upto_region 1 with fail
  refine at_any (fun wx => Blk wx w.heap.size 27 (sty upL) ∧ Blk wx (w.heap.size + 1) 27 (sty []) ∧ Below w.heap.size w wx) ⟨(Blk.new _ _ _).alloc _, Blk.new_at (by simp), below_alloc (below_alloc (Below.refl _ _) _) _⟩ ?_
  rintro wx ⟨hbu, hbr, hb⟩
  have HU := Lib.hid hbu
  have HR := Lib.hid hbr
  have HB := Lib.hid hb
  clear hbu hbr hb
  refine wp_region_list ?_
  refine wpList_plain rfl fun K hK => BigFrame.wp_move (.tmp 0) rfl (hK _ _ ?_)
  refine wpList_load_whole rfl 27 (.tmp 5) rfl w.heap.size rfl HU.out Try.underlying27 rfl (by kernel_rfl) ?_
  go_wp2_with fail
  refine (RFont_any _).mono ?_; rintro e w2 ⟨rfl, hb2⟩
  have hu := HU.out.then_ hb2
  have hr := HR.out.then_ hb2
  have HBB := Lib.hid (below_then HB.out hb2)
  have hne : w.heap.size ≠ w2.heap.size := by have := hu.lt; omega
  have hne1 : w.heap.size + 1 ≠ w2.heap.size := by have := hr.lt; omega
  have hle : w.heap.size ≤ w2.heap.size := by have := hu.lt; omega
  clear hb2 HU HR HB
  go_upto_region 2 with fail
  refine wp_region_list ?_
  refine wpList_plain rfl fun K hK => BigFrame.wp_move (.tmp 9) rfl (hK _ _ ?_)
  refine wpList_build_to rfl 27 #[(27, .tmp 27)] rfl (sty [0, 0, 0, 0, 0, 0, 0, 0, 0, 0, 0, 0, 0, 0, 0, 0, 0, 0, 0, 0, 0, 0, 0, 0, 0, 0, 0, 0, 0, 0, 0, 0, 0, 0, 0, 0, 0, 0, 0, 0, 0, 0, 0, 0, 0, 0, 0, 0, 0, 0, 0, 0, 0, 1024, 0]) (by kernel_rfl) ?_
  refine wpList_run_to rfl (.pointer (some ⟨w2.heap.size, 0, none⟩)) (w2.alloc (.cells (sty []) 27)) (by kernel_rfl) ?_
  refine wpList_store_mid rfl 27 (.tmp 10) (.tmp 28) rfl w2.heap.size 0 (sty [0, 0, 0, 0, 0, 0, 0, 0, 0, 0, 0, 0, 0, 0, 0, 0, 0, 0, 0, 0, 0, 0, 0, 0, 0, 0, 0, 0, 0, 0, 0, 0, 0, 0, 0, 0, 0, 0, 0, 0, 0, 0, 0, 0, 0, 0, 0, 0, 0, 0, 0, 0, 0, 1024, 0]) rfl rfl ((Blk.new w2 27 (sty [])).there (by simp [sty])) (by kernel_rfl) (sty_one _) ?_
  have hs0 := (Blk.new w2 27 (sty [])).setCells_all (sty [0, 0, 0, 0, 0, 0, 0, 0, 0, 0, 0, 0, 0, 0, 0, 0, 0, 0, 0, 0, 0, 0, 0, 0, 0, 0, 0, 0, 0, 0, 0, 0, 0, 0, 0, 0, 0, 0, 0, 0, 0, 0, 0, 0, 0, 0, 0, 0, 0, 0, 0, 0, 0, 1024, 0]) (by simp [sty])
  go_upto_region 3 with fail
  refine at_any (fun wx => Blk wx w.heap.size 27 (sty upL) ∧ Blk wx (w.heap.size + 1) 27 (sty []) ∧ Blk wx w2.heap.size 27 (sty [0, 0, 0, 0, 0, 0, 0, 0, 0, 0, 0, 0, 0, 0, 0, 0, 0, 0, 0, 0, 0, 0, 0, 0, 0, 0, 0, 0, 0, 0, 0, 0, 0, 0, 0, 0, 0, 0, 0, 0, 0, 0, 0, 0, 0, 0, 0, 0, 0, 0, 0, 0, 0, 1024, 0]) ∧ Below w.heap.size w wx) ⟨(hu.alloc _).setFar hne _ _, (hr.alloc _).setFar hne1 _ _, hs0, below_setCells hle _ _ _ (below_alloc HBB.out _)⟩ ?_
  rintro w3 ⟨hu, hr, hs, hb⟩
  have HUw3 := Lib.hid hu
  have HRw3 := Lib.hid hr
  have HSw3 := Lib.hid hs
  have HBw3 := Lib.hid hb
  clear hu hr hs hb HBB hs0
  have x0 : w3.cell? ⟨w.heap.size, 0, none⟩ = some (.int .i64 0) := HUw3.out.cell 0
  have xl := HUw3.out.lt
  go_wp2_with fail
  refine (RWords17_1 _ _).mono ?_; rintro e w4 ⟨rfl, hb⟩
  have HUw4 := Lib.hid (HUw3.out.then_ hb)
  have HRw4 := Lib.hid (HRw3.out.then_ hb)
  have HBw4 := Lib.hid (below_then HBw3.out hb)
  have HSw4 := Lib.hid (HSw3.out.then_ hb)
  clear hb HUw3 HRw3 HSw3 HBw3
  clear x0
  clear xl
  have y0 : w4.cell? ⟨w2.heap.size, 0, none⟩ = some (.int .i64 0) := HSw4.out.cell 0
  have z0 : w4.frozen? ⟨w2.heap.size, 0, none⟩ = false := HSw4.out.frozen 0
  go_wp2_with fail
  refine (RHas_any 2 1 5 0 (by decide) (by decide) (by decide) RFirst_2 _).mono ?_; rintro e w5 ⟨rfl, hb⟩
  have HUw5 := Lib.hid ((HUw4.out.far hne _).then_ hb)
  have HRw5 := Lib.hid ((HRw4.out.far hne1 _).then_ hb)
  have HBw5 := Lib.hid (below_then (below_set HBw4.out hle _) hb)
  have HSw5 : Hid (Blk w5 w2.heap.size 27 (sty [0, 0, 0, 0, 0, 0, 0, 0, 0, 0, 0, 0, 0, 0, 0, 0, 0, 0, 0, 0, 0, 0, 0, 0, 0, 0, 0, 0, 0, 0, 0, 0, 0, 0, 0, 0, 0, 0, 0, 0, 0, 0, 0, 0, 0, 0, 0, 0, 0, 0, 0, 0, 0, 1024, 0])) := Lib.hid (by
    have h := (HSw4.out.put 0 (.int .i64 0)).then_ hb
    have e : ((sty [0, 0, 0, 0, 0, 0, 0, 0, 0, 0, 0, 0, 0, 0, 0, 0, 0, 0, 0, 0, 0, 0, 0, 0, 0, 0, 0, 0, 0, 0, 0, 0, 0, 0, 0, 0, 0, 0, 0, 0, 0, 0, 0, 0, 0, 0, 0, 0, 0, 0, 0, 0, 0, 1024, 0]).setIfInBounds 0 (.int .i64 0)) = sty [0, 0, 0, 0, 0, 0, 0, 0, 0, 0, 0, 0, 0, 0, 0, 0, 0, 0, 0, 0, 0, 0, 0, 0, 0, 0, 0, 0, 0, 0, 0, 0, 0, 0, 0, 0, 0, 0, 0, 0, 0, 0, 0, 0, 0, 0, 0, 0, 0, 0, 0, 0, 0, 1024, 0] := by kernel_rfl
    rw [e] at h
    exact h)
  clear hb HUw4 HRw4 HSw4 HBw4
  clear y0 z0
  have hbb : ((wordAt 5).toList == [98, 111, 114, 100, 101, 114, 45, 98, 111, 120]) = false := by decide +kernel
  have HT5 := Lib.hid (RText_word 5 (by omega))
  generalize wordAt 5 = s5 at *
  go_wp2_with fail
  refine (HT5.out _).mono ?_; rintro e w6 ⟨rfl, hb⟩
  have HUw6 := Lib.hid ((HUw5.out.alloc _).then_ hb)
  have HRw6 := Lib.hid ((HRw5.out.alloc _).then_ hb)
  have HBw6 := Lib.hid (below_then (below_alloc HBw5.out _) hb)
  have HSw6 := Lib.hid ((HSw5.out.alloc _).then_ hb)
  clear hb HUw5 HRw5 HSw5 HBw5
  have y1 : w6.cell? ⟨w2.heap.size, 1, none⟩ = some (.bool false) := HSw6.out.cell 1
  have z1 : w6.frozen? ⟨w2.heap.size, 1, none⟩ = false := HSw6.out.frozen 1
  have x2 : w6.cell? ⟨w.heap.size, 2, none⟩ = some (.int .i64 0) := HUw6.out.cell 2
  have x3 : w6.cell? ⟨w.heap.size, 3, none⟩ = some (.int .i64 0) := HUw6.out.cell 3
  have xl := HUw6.out.lt
  go_wp2_with fail
  refine (RSizes_3 _ _ _ _).mono ?_; rintro e w7 ⟨rfl, hb⟩
  have HUw7 := Lib.hid ((HUw6.out.far hne _).then_ hb)
  have HRw7 := Lib.hid ((HRw6.out.far hne1 _).then_ hb)
  have HBw7 := Lib.hid (below_then (below_set HBw6.out hle _) hb)
  have HSw7 : Hid (Blk w7 w2.heap.size 27 (sty [0, 0, 0, 0, 0, 0, 0, 0, 0, 0, 0, 0, 0, 0, 0, 0, 0, 0, 0, 0, 0, 0, 0, 0, 0, 0, 0, 0, 0, 0, 0, 0, 0, 0, 0, 0, 0, 0, 0, 0, 0, 0, 0, 0, 0, 0, 0, 0, 0, 0, 0, 0, 0, 1024, 0])) := Lib.hid (by
    have h := (HSw6.out.put 1 (.bool false)).then_ hb
    have e : ((sty [0, 0, 0, 0, 0, 0, 0, 0, 0, 0, 0, 0, 0, 0, 0, 0, 0, 0, 0, 0, 0, 0, 0, 0, 0, 0, 0, 0, 0, 0, 0, 0, 0, 0, 0, 0, 0, 0, 0, 0, 0, 0, 0, 0, 0, 0, 0, 0, 0, 0, 0, 0, 0, 1024, 0]).setIfInBounds 1 (.bool false)) = sty [0, 0, 0, 0, 0, 0, 0, 0, 0, 0, 0, 0, 0, 0, 0, 0, 0, 0, 0, 0, 0, 0, 0, 0, 0, 0, 0, 0, 0, 0, 0, 0, 0, 0, 0, 0, 0, 0, 0, 0, 0, 0, 0, 0, 0, 0, 0, 0, 0, 0, 0, 0, 0, 1024, 0] := by kernel_rfl
    rw [e] at h
    exact h)
  clear hb HUw6 HRw6 HSw6 HBw6
  clear x2 x3 y1 z1
  clear xl
  have y2 : w7.cell? ⟨w2.heap.size, 2, none⟩ = some (.int .i64 0) := HSw7.out.cell 2
  have z2 : w7.frozen? ⟨w2.heap.size, 2, none⟩ = false := HSw7.out.frozen 2
  have y3 : w7.cell? ⟨w2.heap.size, 3, none⟩ = some (.int .i64 0) := HSw7.out.cell 3
  have z3 : w7.frozen? ⟨w2.heap.size, 3, none⟩ = false := HSw7.out.frozen 3
  have x4 : w7.cell? ⟨w.heap.size, 4, none⟩ = some (.int .i64 0) := HUw7.out.cell 4
  have x5 : w7.cell? ⟨w.heap.size, 5, none⟩ = some (.int .i64 0) := HUw7.out.cell 5
  have xl := HUw7.out.lt
  go_wp2_with fail
  refine (RSizes_4 _ _ _ _).mono ?_; rintro e w8 ⟨rfl, hb⟩
  have HUw8 := Lib.hid (((HUw7.out.far hne _).far hne _).then_ hb)
  have HRw8 := Lib.hid (((HRw7.out.far hne1 _).far hne1 _).then_ hb)
  have HBw8 := Lib.hid (below_then (below_set (below_set HBw7.out hle _) hle _) hb)
  have HSw8 : Hid (Blk w8 w2.heap.size 27 (sty [0, 0, 0, 0, 0, 0, 0, 0, 0, 0, 0, 0, 0, 0, 0, 0, 0, 0, 0, 0, 0, 0, 0, 0, 0, 0, 0, 0, 0, 0, 0, 0, 0, 0, 0, 0, 0, 0, 0, 0, 0, 0, 0, 0, 0, 0, 0, 0, 0, 0, 0, 0, 0, 1024, 0])) := Lib.hid (by
    have h := ((HSw7.out.put 2 (.int .i64 0)).put 3 (.int .i64 0)).then_ hb
    have e : (((sty [0, 0, 0, 0, 0, 0, 0, 0, 0, 0, 0, 0, 0, 0, 0, 0, 0, 0, 0, 0, 0, 0, 0, 0, 0, 0, 0, 0, 0, 0, 0, 0, 0, 0, 0, 0, 0, 0, 0, 0, 0, 0, 0, 0, 0, 0, 0, 0, 0, 0, 0, 0, 0, 1024, 0]).setIfInBounds 2 (.int .i64 0)).setIfInBounds 3 (.int .i64 0)) = sty [0, 0, 0, 0, 0, 0, 0, 0, 0, 0, 0, 0, 0, 0, 0, 0, 0, 0, 0, 0, 0, 0, 0, 0, 0, 0, 0, 0, 0, 0, 0, 0, 0, 0, 0, 0, 0, 0, 0, 0, 0, 0, 0, 0, 0, 0, 0, 0, 0, 0, 0, 0, 0, 1024, 0] := by kernel_rfl
    rw [e] at h
    exact h)
  clear hb HUw7 HRw7 HSw7 HBw7
  clear x4 x5 y2 z2 y3 z3
  clear xl
  have y4 : w8.cell? ⟨w2.heap.size, 4, none⟩ = some (.int .i64 0) := HSw8.out.cell 4
  have z4 : w8.frozen? ⟨w2.heap.size, 4, none⟩ = false := HSw8.out.frozen 4
  have y5 : w8.cell? ⟨w2.heap.size, 5, none⟩ = some (.int .i64 0) := HSw8.out.cell 5
  have z5 : w8.frozen? ⟨w2.heap.size, 5, none⟩ = false := HSw8.out.frozen 5
  have x6 : w8.cell? ⟨w.heap.size, 6, none⟩ = some (.int .i64 0) := HUw8.out.cell 6
  have x7 : w8.cell? ⟨w.heap.size, 7, none⟩ = some (.int .i64 0) := HUw8.out.cell 7
  have xl := HUw8.out.lt
  go_wp2_with fail
  refine (RSizes_5 _ _ _ _).mono ?_; rintro e w9 ⟨rfl, hb⟩
  have HUw9 := Lib.hid (((HUw8.out.far hne _).far hne _).then_ hb)
  have HRw9 := Lib.hid (((HRw8.out.far hne1 _).far hne1 _).then_ hb)
  have HBw9 := Lib.hid (below_then (below_set (below_set HBw8.out hle _) hle _) hb)
  have HSw9 : Hid (Blk w9 w2.heap.size 27 (sty [0, 0, 0, 0, 0, 0, 0, 0, 0, 0, 0, 0, 0, 0, 0, 0, 0, 0, 0, 0, 0, 0, 0, 0, 0, 0, 0, 0, 0, 0, 0, 0, 0, 0, 0, 0, 0, 0, 0, 0, 0, 0, 0, 0, 0, 0, 0, 0, 0, 0, 0, 0, 0, 1024, 0])) := Lib.hid (by
    have h := ((HSw8.out.put 4 (.int .i64 0)).put 5 (.int .i64 0)).then_ hb
    have e : (((sty [0, 0, 0, 0, 0, 0, 0, 0, 0, 0, 0, 0, 0, 0, 0, 0, 0, 0, 0, 0, 0, 0, 0, 0, 0, 0, 0, 0, 0, 0, 0, 0, 0, 0, 0, 0, 0, 0, 0, 0, 0, 0, 0, 0, 0, 0, 0, 0, 0, 0, 0, 0, 0, 1024, 0]).setIfInBounds 4 (.int .i64 0)).setIfInBounds 5 (.int .i64 0)) = sty [0, 0, 0, 0, 0, 0, 0, 0, 0, 0, 0, 0, 0, 0, 0, 0, 0, 0, 0, 0, 0, 0, 0, 0, 0, 0, 0, 0, 0, 0, 0, 0, 0, 0, 0, 0, 0, 0, 0, 0, 0, 0, 0, 0, 0, 0, 0, 0, 0, 0, 0, 0, 0, 1024, 0] := by kernel_rfl
    rw [e] at h
    exact h)
  clear hb HUw8 HRw8 HSw8 HBw8
  clear x6 x7 y4 z4 y5 z5
  clear xl
  have y6 : w9.cell? ⟨w2.heap.size, 6, none⟩ = some (.int .i64 0) := HSw9.out.cell 6
  have z6 : w9.frozen? ⟨w2.heap.size, 6, none⟩ = false := HSw9.out.frozen 6
  have y7 : w9.cell? ⟨w2.heap.size, 7, none⟩ = some (.int .i64 0) := HSw9.out.cell 7
  have z7 : w9.frozen? ⟨w2.heap.size, 7, none⟩ = false := HSw9.out.frozen 7
  have x8 : w9.cell? ⟨w.heap.size, 8, none⟩ = some (.int .i64 0) := HUw9.out.cell 8
  have x9 : w9.cell? ⟨w.heap.size, 9, none⟩ = some (.int .i64 0) := HUw9.out.cell 9
  have xl := HUw9.out.lt
  go_wp2_with fail
  refine (RSizes_6 _ _ _ _).mono ?_; rintro e w10 ⟨rfl, hb⟩
  have HUw10 := Lib.hid (((HUw9.out.far hne _).far hne _).then_ hb)
  have HRw10 := Lib.hid (((HRw9.out.far hne1 _).far hne1 _).then_ hb)
  have HBw10 := Lib.hid (below_then (below_set (below_set HBw9.out hle _) hle _) hb)
  have HSw10 : Hid (Blk w10 w2.heap.size 27 (sty [0, 0, 0, 0, 0, 0, 0, 0, 0, 0, 0, 0, 0, 0, 0, 0, 0, 0, 0, 0, 0, 0, 0, 0, 0, 0, 0, 0, 0, 0, 0, 0, 0, 0, 0, 0, 0, 0, 0, 0, 0, 0, 0, 0, 0, 0, 0, 0, 0, 0, 0, 0, 0, 1024, 0])) := Lib.hid (by
    have h := ((HSw9.out.put 6 (.int .i64 0)).put 7 (.int .i64 0)).then_ hb
    have e : (((sty [0, 0, 0, 0, 0, 0, 0, 0, 0, 0, 0, 0, 0, 0, 0, 0, 0, 0, 0, 0, 0, 0, 0, 0, 0, 0, 0, 0, 0, 0, 0, 0, 0, 0, 0, 0, 0, 0, 0, 0, 0, 0, 0, 0, 0, 0, 0, 0, 0, 0, 0, 0, 0, 1024, 0]).setIfInBounds 6 (.int .i64 0)).setIfInBounds 7 (.int .i64 0)) = sty [0, 0, 0, 0, 0, 0, 0, 0, 0, 0, 0, 0, 0, 0, 0, 0, 0, 0, 0, 0, 0, 0, 0, 0, 0, 0, 0, 0, 0, 0, 0, 0, 0, 0, 0, 0, 0, 0, 0, 0, 0, 0, 0, 0, 0, 0, 0, 0, 0, 0, 0, 0, 0, 1024, 0] := by kernel_rfl
    rw [e] at h
    exact h)
  clear hb HUw9 HRw9 HSw9 HBw9
  clear x8 x9 y6 z6 y7 z7
  clear xl
  have y8 : w10.cell? ⟨w2.heap.size, 8, none⟩ = some (.int .i64 0) := HSw10.out.cell 8
  have z8 : w10.frozen? ⟨w2.heap.size, 8, none⟩ = false := HSw10.out.frozen 8
  have y9 : w10.cell? ⟨w2.heap.size, 9, none⟩ = some (.int .i64 0) := HSw10.out.cell 9
  have z9 : w10.frozen? ⟨w2.heap.size, 9, none⟩ = false := HSw10.out.frozen 9
  have x10 : w10.cell? ⟨w.heap.size, 10, none⟩ = some (.int .i64 0) := HUw10.out.cell 10
  have x11 : w10.cell? ⟨w.heap.size, 11, none⟩ = some (.int .i64 0) := HUw10.out.cell 11
  have xl := HUw10.out.lt
  go_wp2_with fail
  refine (RSizes_7 _ _ _ _).mono ?_; rintro e w11 ⟨rfl, hb⟩
  have HUw11 := Lib.hid (((HUw10.out.far hne _).far hne _).then_ hb)
  have HRw11 := Lib.hid (((HRw10.out.far hne1 _).far hne1 _).then_ hb)
  have HBw11 := Lib.hid (below_then (below_set (below_set HBw10.out hle _) hle _) hb)
  have HSw11 : Hid (Blk w11 w2.heap.size 27 (sty [0, 0, 0, 0, 0, 0, 0, 0, 0, 0, 0, 0, 0, 0, 0, 0, 0, 0, 0, 0, 0, 0, 0, 0, 0, 0, 0, 0, 0, 0, 0, 0, 0, 0, 0, 0, 0, 0, 0, 0, 0, 0, 0, 0, 0, 0, 0, 0, 0, 0, 0, 0, 0, 1024, 0])) := Lib.hid (by
    have h := ((HSw10.out.put 8 (.int .i64 0)).put 9 (.int .i64 0)).then_ hb
    have e : (((sty [0, 0, 0, 0, 0, 0, 0, 0, 0, 0, 0, 0, 0, 0, 0, 0, 0, 0, 0, 0, 0, 0, 0, 0, 0, 0, 0, 0, 0, 0, 0, 0, 0, 0, 0, 0, 0, 0, 0, 0, 0, 0, 0, 0, 0, 0, 0, 0, 0, 0, 0, 0, 0, 1024, 0]).setIfInBounds 8 (.int .i64 0)).setIfInBounds 9 (.int .i64 0)) = sty [0, 0, 0, 0, 0, 0, 0, 0, 0, 0, 0, 0, 0, 0, 0, 0, 0, 0, 0, 0, 0, 0, 0, 0, 0, 0, 0, 0, 0, 0, 0, 0, 0, 0, 0, 0, 0, 0, 0, 0, 0, 0, 0, 0, 0, 0, 0, 0, 0, 0, 0, 0, 0, 1024, 0] := by kernel_rfl
    rw [e] at h
    exact h)
  clear hb HUw10 HRw10 HSw10 HBw10
  clear x10 x11 y8 z8 y9 z9
  clear xl
  have y10 : w11.cell? ⟨w2.heap.size, 10, none⟩ = some (.int .i64 0) := HSw11.out.cell 10
  have z10 : w11.frozen? ⟨w2.heap.size, 10, none⟩ = false := HSw11.out.frozen 10
  have y11 : w11.cell? ⟨w2.heap.size, 11, none⟩ = some (.int .i64 0) := HSw11.out.cell 11
  have z11 : w11.frozen? ⟨w2.heap.size, 11, none⟩ = false := HSw11.out.frozen 11
  have x12 : w11.cell? ⟨w.heap.size, 12, none⟩ = some (.int .i64 0) := HUw11.out.cell 12
  have x13 : w11.cell? ⟨w.heap.size, 13, none⟩ = some (.int .i64 0) := HUw11.out.cell 13
  have xl := HUw11.out.lt
  go_wp2_with fail
  refine (RSizes_8 _ _ _ _).mono ?_; rintro e w12 ⟨rfl, hb⟩
  have HUw12 := Lib.hid (((HUw11.out.far hne _).far hne _).then_ hb)
  have HRw12 := Lib.hid (((HRw11.out.far hne1 _).far hne1 _).then_ hb)
  have HBw12 := Lib.hid (below_then (below_set (below_set HBw11.out hle _) hle _) hb)
  have HSw12 : Hid (Blk w12 w2.heap.size 27 (sty [0, 0, 0, 0, 0, 0, 0, 0, 0, 0, 6, 0, 0, 0, 0, 0, 0, 0, 0, 0, 0, 0, 0, 0, 0, 0, 0, 0, 0, 0, 0, 0, 0, 0, 0, 0, 0, 0, 0, 0, 0, 0, 0, 0, 0, 0, 0, 0, 0, 0, 0, 0, 0, 1024, 0])) := Lib.hid (by
    have h := ((HSw11.out.put 10 (.int .i64 6)).put 11 (.int .i64 0)).then_ hb
    have e : (((sty [0, 0, 0, 0, 0, 0, 0, 0, 0, 0, 0, 0, 0, 0, 0, 0, 0, 0, 0, 0, 0, 0, 0, 0, 0, 0, 0, 0, 0, 0, 0, 0, 0, 0, 0, 0, 0, 0, 0, 0, 0, 0, 0, 0, 0, 0, 0, 0, 0, 0, 0, 0, 0, 1024, 0]).setIfInBounds 10 (.int .i64 6)).setIfInBounds 11 (.int .i64 0)) = sty [0, 0, 0, 0, 0, 0, 0, 0, 0, 0, 6, 0, 0, 0, 0, 0, 0, 0, 0, 0, 0, 0, 0, 0, 0, 0, 0, 0, 0, 0, 0, 0, 0, 0, 0, 0, 0, 0, 0, 0, 0, 0, 0, 0, 0, 0, 0, 0, 0, 0, 0, 0, 0, 1024, 0] := by kernel_rfl
    rw [e] at h
    exact h)
  clear hb HUw11 HRw11 HSw11 HBw11
  clear x12 x13 y10 z10 y11 z11
  clear xl
  have y12 : w12.cell? ⟨w2.heap.size, 12, none⟩ = some (.int .i64 0) := HSw12.out.cell 12
  have z12 : w12.frozen? ⟨w2.heap.size, 12, none⟩ = false := HSw12.out.frozen 12
  have y13 : w12.cell? ⟨w2.heap.size, 13, none⟩ = some (.int .i64 0) := HSw12.out.cell 13
  have z13 : w12.frozen? ⟨w2.heap.size, 13, none⟩ = false := HSw12.out.frozen 13
  go_upto_region 13 with fail
  have hs := ((HSw12.out.put 12 (.int .i64 6)).put 13 (.int .i64 0))
  have e : (((sty [0, 0, 0, 0, 0, 0, 0, 0, 0, 0, 6, 0, 0, 0, 0, 0, 0, 0, 0, 0, 0, 0, 0, 0, 0, 0, 0, 0, 0, 0, 0, 0, 0, 0, 0, 0, 0, 0, 0, 0, 0, 0, 0, 0, 0, 0, 0, 0, 0, 0, 0, 0, 0, 1024, 0]).setIfInBounds 12 (.int .i64 6)).setIfInBounds 13 (.int .i64 0)) = sty (stL 0) := by kernel_rfl
  rw [e] at hs
  go_loopw [13] (fun v13 wr => ∃ k : Nat, k ≤ 4 ∧ v13 = .int .i64 k ∧ Blk wr w.heap.size 27 (sty upL) ∧ Blk wr (w.heap.size + 1) 27 (sty []) ∧ Blk wr w2.heap.size 27 (sty (stL k)) ∧ Below w.heap.size w wr) (fun v13 _ => 4 - (intOf v13).toNat)
  case atStart => exact ⟨0, by omega, rfl, ((HUw12.out.far hne _).far hne _), ((HRw12.out.far hne1 _).far hne1 _), hs, (below_set (below_set HBw12.out hle _) hle _)⟩
  case round =>
    clear hs e HUw12 HRw12 HSw12 HBw12
    obtain ⟨k, hk, rfl, hu, hr, hs, hb⟩ := hrel
    have h4 : k = 4 ∨ k < 4 := by omega
    rcases h4 with rfl | h4
    ·   have HUwr := Lib.hid hu
        have HRwr := Lib.hid hr
        have HSwr : Hid (Blk wr w2.heap.size 27 (sty [0, 0, 0, 0, 0, 0, 0, 0, 0, 0, 6, 0, 6, 0, 1, 0, 1, 0, 1, 0, 1, 0, 1, 0, 1, 0, 1, 0, 1, 0, 0, 0, 0, 0, 0, 0, 0, 0, 0, 0, 0, 0, 0, 0, 0, 0, 0, 0, 0, 0, 0, 0, 0, 1024, 0])) := Lib.hid (by
          have e : stL 4 = [0, 0, 0, 0, 0, 0, 0, 0, 0, 0, 6, 0, 6, 0, 1, 0, 1, 0, 1, 0, 1, 0, 1, 0, 1, 0, 1, 0, 1, 0, 0, 0, 0, 0, 0, 0, 0, 0, 0, 0, 0, 0, 0, 0, 0, 0, 0, 0, 0, 0, 0, 0, 0, 1024, 0] := by kernel_rfl
          rw [e] at hs
          exact hs)
        have HBwr := Lib.hid hb
        clear hu hr hs hb
        go_wp2_with fail
        refine (RHas_any 21 1 1 0 (by decide) (by decide) (by decide) RFirst_21 _).mono ?_; rintro e w14 ⟨rfl, hb⟩
        have HUw14 := Lib.hid (HUwr.out.then_ hb)
        have HRw14 := Lib.hid (HRwr.out.then_ hb)
        have HBw14 := Lib.hid (below_then HBwr.out hb)
        have HSw14 := Lib.hid (HSwr.out.then_ hb)
        clear hb HUwr HRwr HSwr HBwr
        have x36 : w14.cell? ⟨w.heap.size, 36, none⟩ = some (.int .i64 0) := HUw14.out.cell 36
        have xl := HUw14.out.lt
        go_wp2_with fail
        refine (RWords17_22 _ _).mono ?_; rintro e w15 ⟨rfl, hb⟩
        have HUw15 := Lib.hid ((HUw14.out.alloc _).then_ hb)
        have HRw15 := Lib.hid ((HRw14.out.alloc _).then_ hb)
        have HBw15 := Lib.hid (below_then (below_alloc HBw14.out _) hb)
        have HSw15 := Lib.hid ((HSw14.out.alloc _).then_ hb)
        clear hb HUw14 HRw14 HSw14 HBw14
        clear x36
        clear xl
        have y36 : w15.cell? ⟨w2.heap.size, 36, none⟩ = some (.int .i64 0) := HSw15.out.cell 36
        have z36 : w15.frozen? ⟨w2.heap.size, 36, none⟩ = false := HSw15.out.frozen 36
        have x37 : w15.cell? ⟨w.heap.size, 37, none⟩ = some (.int .i64 0) := HUw15.out.cell 37
        have xl := HUw15.out.lt
        go_wp2_with fail
        refine (RWords17_23 _ _).mono ?_; rintro e w16 ⟨rfl, hb⟩
        have HUw16 := Lib.hid ((HUw15.out.far hne _).then_ hb)
        have HRw16 := Lib.hid ((HRw15.out.far hne1 _).then_ hb)
        have HBw16 := Lib.hid (below_then (below_set HBw15.out hle _) hb)
        have HSw16 : Hid (Blk w16 w2.heap.size 27 (sty [0, 0, 0, 0, 0, 0, 0, 0, 0, 0, 6, 0, 6, 0, 1, 0, 1, 0, 1, 0, 1, 0, 1, 0, 1, 0, 1, 0, 1, 0, 0, 0, 0, 0, 0, 0, 0, 0, 0, 0, 0, 0, 0, 0, 0, 0, 0, 0, 0, 0, 0, 0, 0, 1024, 0])) := Lib.hid (by
          have h := (HSw15.out.put 36 (.int .i64 0)).then_ hb
          have e : ((sty [0, 0, 0, 0, 0, 0, 0, 0, 0, 0, 6, 0, 6, 0, 1, 0, 1, 0, 1, 0, 1, 0, 1, 0, 1, 0, 1, 0, 1, 0, 0, 0, 0, 0, 0, 0, 0, 0, 0, 0, 0, 0, 0, 0, 0, 0, 0, 0, 0, 0, 0, 0, 0, 1024, 0]).setIfInBounds 36 (.int .i64 0)) = sty [0, 0, 0, 0, 0, 0, 0, 0, 0, 0, 6, 0, 6, 0, 1, 0, 1, 0, 1, 0, 1, 0, 1, 0, 1, 0, 1, 0, 1, 0, 0, 0, 0, 0, 0, 0, 0, 0, 0, 0, 0, 0, 0, 0, 0, 0, 0, 0, 0, 0, 0, 0, 0, 1024, 0] := by kernel_rfl
          rw [e] at h
          exact h)
        clear hb HUw15 HRw15 HSw15 HBw15
        clear x37 y36 z36
        clear xl
        have y37 : w16.cell? ⟨w2.heap.size, 37, none⟩ = some (.int .i64 0) := HSw16.out.cell 37
        have z37 : w16.frozen? ⟨w2.heap.size, 37, none⟩ = false := HSw16.out.frozen 37
        have x38 : w16.cell? ⟨w.heap.size, 38, none⟩ = some (.int .i64 0) := HUw16.out.cell 38
        have xl := HUw16.out.lt
        go_wp2_with fail
        refine (RNumbers_24 _ _).mono ?_; rintro e w17 ⟨rfl, hb⟩
        have HUw17 := Lib.hid ((HUw16.out.far hne _).then_ hb)
        have HRw17 := Lib.hid ((HRw16.out.far hne1 _).then_ hb)
        have HBw17 := Lib.hid (below_then (below_set HBw16.out hle _) hb)
        have HSw17 : Hid (Blk w17 w2.heap.size 27 (sty [0, 0, 0, 0, 0, 0, 0, 0, 0, 0, 6, 0, 6, 0, 1, 0, 1, 0, 1, 0, 1, 0, 1, 0, 1, 0, 1, 0, 1, 0, 0, 0, 0, 0, 0, 0, 0, 0, 0, 0, 0, 0, 0, 0, 0, 0, 0, 0, 0, 0, 0, 0, 0, 1024, 0])) := Lib.hid (by
          have h := (HSw16.out.put 37 (.int .i64 0)).then_ hb
          have e : ((sty [0, 0, 0, 0, 0, 0, 0, 0, 0, 0, 6, 0, 6, 0, 1, 0, 1, 0, 1, 0, 1, 0, 1, 0, 1, 0, 1, 0, 1, 0, 0, 0, 0, 0, 0, 0, 0, 0, 0, 0, 0, 0, 0, 0, 0, 0, 0, 0, 0, 0, 0, 0, 0, 1024, 0]).setIfInBounds 37 (.int .i64 0)) = sty [0, 0, 0, 0, 0, 0, 0, 0, 0, 0, 6, 0, 6, 0, 1, 0, 1, 0, 1, 0, 1, 0, 1, 0, 1, 0, 1, 0, 1, 0, 0, 0, 0, 0, 0, 0, 0, 0, 0, 0, 0, 0, 0, 0, 0, 0, 0, 0, 0, 0, 0, 0, 0, 1024, 0] := by kernel_rfl
          rw [e] at h
          exact h)
        clear hb HUw16 HRw16 HSw16 HBw16
        clear x38 y37 z37
        clear xl
        have y38 : w17.cell? ⟨w2.heap.size, 38, none⟩ = some (.int .i64 0) := HSw17.out.cell 38
        have z38 : w17.frozen? ⟨w2.heap.size, 38, none⟩ = false := HSw17.out.frozen 38
        have x39 : w17.cell? ⟨w.heap.size, 39, none⟩ = some (.int .i64 0) := HUw17.out.cell 39
        have xl := HUw17.out.lt
        go_wp2_with fail
        refine (RNumbers_25 _ _).mono ?_; rintro e w18 ⟨rfl, hb⟩
        have HUw18 := Lib.hid ((HUw17.out.far hne _).then_ hb)
        have HRw18 := Lib.hid ((HRw17.out.far hne1 _).then_ hb)
        have HBw18 := Lib.hid (below_then (below_set HBw17.out hle _) hb)
        have HSw18 : Hid (Blk w18 w2.heap.size 27 (sty [0, 0, 0, 0, 0, 0, 0, 0, 0, 0, 6, 0, 6, 0, 1, 0, 1, 0, 1, 0, 1, 0, 1, 0, 1, 0, 1, 0, 1, 0, 0, 0, 0, 0, 0, 0, 0, 0, 0, 0, 0, 0, 0, 0, 0, 0, 0, 0, 0, 0, 0, 0, 0, 1024, 0])) := Lib.hid (by
          have h := (HSw17.out.put 38 (.int .i64 0)).then_ hb
          have e : ((sty [0, 0, 0, 0, 0, 0, 0, 0, 0, 0, 6, 0, 6, 0, 1, 0, 1, 0, 1, 0, 1, 0, 1, 0, 1, 0, 1, 0, 1, 0, 0, 0, 0, 0, 0, 0, 0, 0, 0, 0, 0, 0, 0, 0, 0, 0, 0, 0, 0, 0, 0, 0, 0, 1024, 0]).setIfInBounds 38 (.int .i64 0)) = sty [0, 0, 0, 0, 0, 0, 0, 0, 0, 0, 6, 0, 6, 0, 1, 0, 1, 0, 1, 0, 1, 0, 1, 0, 1, 0, 1, 0, 1, 0, 0, 0, 0, 0, 0, 0, 0, 0, 0, 0, 0, 0, 0, 0, 0, 0, 0, 0, 0, 0, 0, 0, 0, 1024, 0] := by kernel_rfl
          rw [e] at h
          exact h)
        clear hb HUw17 HRw17 HSw17 HBw17
        clear x39 y38 z38
        clear xl
        have y39 : w18.cell? ⟨w2.heap.size, 39, none⟩ = some (.int .i64 0) := HSw18.out.cell 39
        have z39 : w18.frozen? ⟨w2.heap.size, 39, none⟩ = false := HSw18.out.frozen 39
        have x40 : w18.cell? ⟨w.heap.size, 40, none⟩ = some (.int .i64 0) := HUw18.out.cell 40
        have x41 : w18.cell? ⟨w.heap.size, 41, none⟩ = some (.int .i64 0) := HUw18.out.cell 41
        have xl := HUw18.out.lt
        go_wp2_with fail
        refine (RSizes_26 _ _ _ _).mono ?_; rintro e w19 ⟨rfl, hb⟩
        have HUw19 := Lib.hid ((HUw18.out.far hne _).then_ hb)
        have HRw19 := Lib.hid ((HRw18.out.far hne1 _).then_ hb)
        have HBw19 := Lib.hid (below_then (below_set HBw18.out hle _) hb)
        have HSw19 : Hid (Blk w19 w2.heap.size 27 (sty [0, 0, 0, 0, 0, 0, 0, 0, 0, 0, 6, 0, 6, 0, 1, 0, 1, 0, 1, 0, 1, 0, 1, 0, 1, 0, 1, 0, 1, 0, 0, 0, 0, 0, 0, 0, 0, 0, 0, 1000, 0, 0, 0, 0, 0, 0, 0, 0, 0, 0, 0, 0, 0, 1024, 0])) := Lib.hid (by
          have h := (HSw18.out.put 39 (.int .i64 1000)).then_ hb
          have e : ((sty [0, 0, 0, 0, 0, 0, 0, 0, 0, 0, 6, 0, 6, 0, 1, 0, 1, 0, 1, 0, 1, 0, 1, 0, 1, 0, 1, 0, 1, 0, 0, 0, 0, 0, 0, 0, 0, 0, 0, 0, 0, 0, 0, 0, 0, 0, 0, 0, 0, 0, 0, 0, 0, 1024, 0]).setIfInBounds 39 (.int .i64 1000)) = sty [0, 0, 0, 0, 0, 0, 0, 0, 0, 0, 6, 0, 6, 0, 1, 0, 1, 0, 1, 0, 1, 0, 1, 0, 1, 0, 1, 0, 1, 0, 0, 0, 0, 0, 0, 0, 0, 0, 0, 1000, 0, 0, 0, 0, 0, 0, 0, 0, 0, 0, 0, 0, 0, 1024, 0] := by kernel_rfl
          rw [e] at h
          exact h)
        clear hb HUw18 HRw18 HSw18 HBw18
        clear x40 x41 y39 z39
        clear xl
        have y40 : w19.cell? ⟨w2.heap.size, 40, none⟩ = some (.int .i64 0) := HSw19.out.cell 40
        have z40 : w19.frozen? ⟨w2.heap.size, 40, none⟩ = false := HSw19.out.frozen 40
        have y41 : w19.cell? ⟨w2.heap.size, 41, none⟩ = some (.int .i64 0) := HSw19.out.cell 41
        have z41 : w19.frozen? ⟨w2.heap.size, 41, none⟩ = false := HSw19.out.frozen 41
        have x42 : w19.cell? ⟨w.heap.size, 42, none⟩ = some (.int .i64 0) := HUw19.out.cell 42
        have xl := HUw19.out.lt
        go_wp2_with fail
        refine (RNumbers_27 _ _).mono ?_; rintro e w20 ⟨rfl, hb⟩
        have HUw20 := Lib.hid (((HUw19.out.far hne _).far hne _).then_ hb)
        have HRw20 := Lib.hid (((HRw19.out.far hne1 _).far hne1 _).then_ hb)
        have HBw20 := Lib.hid (below_then (below_set (below_set HBw19.out hle _) hle _) hb)
        have HSw20 : Hid (Blk w20 w2.heap.size 27 (sty [0, 0, 0, 0, 0, 0, 0, 0, 0, 0, 6, 0, 6, 0, 1, 0, 1, 0, 1, 0, 1, 0, 1, 0, 1, 0, 1, 0, 1, 0, 0, 0, 0, 0, 0, 0, 0, 0, 0, 1000, 0, 0, 0, 0, 0, 0, 0, 0, 0, 0, 0, 0, 0, 1024, 0])) := Lib.hid (by
          have h := ((HSw19.out.put 40 (.int .i64 0)).put 41 (.int .i64 0)).then_ hb
          have e : (((sty [0, 0, 0, 0, 0, 0, 0, 0, 0, 0, 6, 0, 6, 0, 1, 0, 1, 0, 1, 0, 1, 0, 1, 0, 1, 0, 1, 0, 1, 0, 0, 0, 0, 0, 0, 0, 0, 0, 0, 1000, 0, 0, 0, 0, 0, 0, 0, 0, 0, 0, 0, 0, 0, 1024, 0]).setIfInBounds 40 (.int .i64 0)).setIfInBounds 41 (.int .i64 0)) = sty [0, 0, 0, 0, 0, 0, 0, 0, 0, 0, 6, 0, 6, 0, 1, 0, 1, 0, 1, 0, 1, 0, 1, 0, 1, 0, 1, 0, 1, 0, 0, 0, 0, 0, 0, 0, 0, 0, 0, 1000, 0, 0, 0, 0, 0, 0, 0, 0, 0, 0, 0, 0, 0, 1024, 0] := by kernel_rfl
          rw [e] at h
          exact h)
        clear hb HUw19 HRw19 HSw19 HBw19
        clear x42 y40 z40 y41 z41
        clear xl
        have y42 : w20.cell? ⟨w2.heap.size, 42, none⟩ = some (.int .i64 0) := HSw20.out.cell 42
        have z42 : w20.frozen? ⟨w2.heap.size, 42, none⟩ = false := HSw20.out.frozen 42
        have x43 : w20.cell? ⟨w.heap.size, 43, none⟩ = some (.int .i64 0) := HUw20.out.cell 43
        have xl := HUw20.out.lt
        go_wp2_with fail
        refine (RWords17_28 _ _).mono ?_; rintro e w21 ⟨rfl, hb⟩
        have HUw21 := Lib.hid ((HUw20.out.far hne _).then_ hb)
        have HRw21 := Lib.hid ((HRw20.out.far hne1 _).then_ hb)
        have HBw21 := Lib.hid (below_then (below_set HBw20.out hle _) hb)
        have HSw21 : Hid (Blk w21 w2.heap.size 27 (sty [0, 0, 0, 0, 0, 0, 0, 0, 0, 0, 6, 0, 6, 0, 1, 0, 1, 0, 1, 0, 1, 0, 1, 0, 1, 0, 1, 0, 1, 0, 0, 0, 0, 0, 0, 0, 0, 0, 0, 1000, 0, 0, 0, 0, 0, 0, 0, 0, 0, 0, 0, 0, 0, 1024, 0])) := Lib.hid (by
          have h := (HSw20.out.put 42 (.int .i64 0)).then_ hb
          have e : ((sty [0, 0, 0, 0, 0, 0, 0, 0, 0, 0, 6, 0, 6, 0, 1, 0, 1, 0, 1, 0, 1, 0, 1, 0, 1, 0, 1, 0, 1, 0, 0, 0, 0, 0, 0, 0, 0, 0, 0, 1000, 0, 0, 0, 0, 0, 0, 0, 0, 0, 0, 0, 0, 0, 1024, 0]).setIfInBounds 42 (.int .i64 0)) = sty [0, 0, 0, 0, 0, 0, 0, 0, 0, 0, 6, 0, 6, 0, 1, 0, 1, 0, 1, 0, 1, 0, 1, 0, 1, 0, 1, 0, 1, 0, 0, 0, 0, 0, 0, 0, 0, 0, 0, 1000, 0, 0, 0, 0, 0, 0, 0, 0, 0, 0, 0, 0, 0, 1024, 0] := by kernel_rfl
          rw [e] at h
          exact h)
        clear hb HUw20 HRw20 HSw20 HBw20
        clear x43 y42 z42
        clear xl
        have y43 : w21.cell? ⟨w2.heap.size, 43, none⟩ = some (.int .i64 0) := HSw21.out.cell 43
        have z43 : w21.frozen? ⟨w2.heap.size, 43, none⟩ = false := HSw21.out.frozen 43
        have x44 : w21.cell? ⟨w.heap.size, 44, none⟩ = some (.int .i64 0) := HUw21.out.cell 44
        have xl := HUw21.out.lt
        go_wp2_with fail
        refine (RWords17_29 _ _).mono ?_; rintro e w22 ⟨rfl, hb⟩
        have HUw22 := Lib.hid ((HUw21.out.far hne _).then_ hb)
        have HRw22 := Lib.hid ((HRw21.out.far hne1 _).then_ hb)
        have HBw22 := Lib.hid (below_then (below_set HBw21.out hle _) hb)
        have HSw22 : Hid (Blk w22 w2.heap.size 27 (sty [0, 0, 0, 0, 0, 0, 0, 0, 0, 0, 6, 0, 6, 0, 1, 0, 1, 0, 1, 0, 1, 0, 1, 0, 1, 0, 1, 0, 1, 0, 0, 0, 0, 0, 0, 0, 0, 0, 0, 1000, 0, 0, 0, 0, 0, 0, 0, 0, 0, 0, 0, 0, 0, 1024, 0])) := Lib.hid (by
          have h := (HSw21.out.put 43 (.int .i64 0)).then_ hb
          have e : ((sty [0, 0, 0, 0, 0, 0, 0, 0, 0, 0, 6, 0, 6, 0, 1, 0, 1, 0, 1, 0, 1, 0, 1, 0, 1, 0, 1, 0, 1, 0, 0, 0, 0, 0, 0, 0, 0, 0, 0, 1000, 0, 0, 0, 0, 0, 0, 0, 0, 0, 0, 0, 0, 0, 1024, 0]).setIfInBounds 43 (.int .i64 0)) = sty [0, 0, 0, 0, 0, 0, 0, 0, 0, 0, 6, 0, 6, 0, 1, 0, 1, 0, 1, 0, 1, 0, 1, 0, 1, 0, 1, 0, 1, 0, 0, 0, 0, 0, 0, 0, 0, 0, 0, 1000, 0, 0, 0, 0, 0, 0, 0, 0, 0, 0, 0, 0, 0, 1024, 0] := by kernel_rfl
          rw [e] at h
          exact h)
        clear hb HUw21 HRw21 HSw21 HBw21
        clear x44 y43 z43
        clear xl
        have y44 : w22.cell? ⟨w2.heap.size, 44, none⟩ = some (.int .i64 0) := HSw22.out.cell 44
        have z44 : w22.frozen? ⟨w2.heap.size, 44, none⟩ = false := HSw22.out.frozen 44
        have x45 : w22.cell? ⟨w.heap.size, 45, none⟩ = some (.int .i64 0) := HUw22.out.cell 45
        have xl := HUw22.out.lt
        go_wp2_with fail
        refine (RWords17_30 _ _).mono ?_; rintro e w23 ⟨rfl, hb⟩
        have HUw23 := Lib.hid ((HUw22.out.far hne _).then_ hb)
        have HRw23 := Lib.hid ((HRw22.out.far hne1 _).then_ hb)
        have HBw23 := Lib.hid (below_then (below_set HBw22.out hle _) hb)
        have HSw23 : Hid (Blk w23 w2.heap.size 27 (sty [0, 0, 0, 0, 0, 0, 0, 0, 0, 0, 6, 0, 6, 0, 1, 0, 1, 0, 1, 0, 1, 0, 1, 0, 1, 0, 1, 0, 1, 0, 0, 0, 0, 0, 0, 0, 0, 0, 0, 1000, 0, 0, 0, 0, 0, 0, 0, 0, 0, 0, 0, 0, 0, 1024, 0])) := Lib.hid (by
          have h := (HSw22.out.put 44 (.int .i64 0)).then_ hb
          have e : ((sty [0, 0, 0, 0, 0, 0, 0, 0, 0, 0, 6, 0, 6, 0, 1, 0, 1, 0, 1, 0, 1, 0, 1, 0, 1, 0, 1, 0, 1, 0, 0, 0, 0, 0, 0, 0, 0, 0, 0, 1000, 0, 0, 0, 0, 0, 0, 0, 0, 0, 0, 0, 0, 0, 1024, 0]).setIfInBounds 44 (.int .i64 0)) = sty [0, 0, 0, 0, 0, 0, 0, 0, 0, 0, 6, 0, 6, 0, 1, 0, 1, 0, 1, 0, 1, 0, 1, 0, 1, 0, 1, 0, 1, 0, 0, 0, 0, 0, 0, 0, 0, 0, 0, 1000, 0, 0, 0, 0, 0, 0, 0, 0, 0, 0, 0, 0, 0, 1024, 0] := by kernel_rfl
          rw [e] at h
          exact h)
        clear hb HUw22 HRw22 HSw22 HBw22
        clear x45 y44 z44
        clear xl
        have y45 : w23.cell? ⟨w2.heap.size, 45, none⟩ = some (.int .i64 0) := HSw23.out.cell 45
        have z45 : w23.frozen? ⟨w2.heap.size, 45, none⟩ = false := HSw23.out.frozen 45
        have x46 : w23.cell? ⟨w.heap.size, 46, none⟩ = some (.int .i64 0) := HUw23.out.cell 46
        have xl := HUw23.out.lt
        go_wp2_with fail
        refine (RWords17_31 _ _).mono ?_; rintro e w24 ⟨rfl, hb⟩
        have HUw24 := Lib.hid ((HUw23.out.far hne _).then_ hb)
        have HRw24 := Lib.hid ((HRw23.out.far hne1 _).then_ hb)
        have HBw24 := Lib.hid (below_then (below_set HBw23.out hle _) hb)
        have HSw24 : Hid (Blk w24 w2.heap.size 27 (sty [0, 0, 0, 0, 0, 0, 0, 0, 0, 0, 6, 0, 6, 0, 1, 0, 1, 0, 1, 0, 1, 0, 1, 0, 1, 0, 1, 0, 1, 0, 0, 0, 0, 0, 0, 0, 0, 0, 0, 1000, 0, 0, 0, 0, 0, 0, 0, 0, 0, 0, 0, 0, 0, 1024, 0])) := Lib.hid (by
          have h := (HSw23.out.put 45 (.int .i64 0)).then_ hb
          have e : ((sty [0, 0, 0, 0, 0, 0, 0, 0, 0, 0, 6, 0, 6, 0, 1, 0, 1, 0, 1, 0, 1, 0, 1, 0, 1, 0, 1, 0, 1, 0, 0, 0, 0, 0, 0, 0, 0, 0, 0, 1000, 0, 0, 0, 0, 0, 0, 0, 0, 0, 0, 0, 0, 0, 1024, 0]).setIfInBounds 45 (.int .i64 0)) = sty [0, 0, 0, 0, 0, 0, 0, 0, 0, 0, 6, 0, 6, 0, 1, 0, 1, 0, 1, 0, 1, 0, 1, 0, 1, 0, 1, 0, 1, 0, 0, 0, 0, 0, 0, 0, 0, 0, 0, 1000, 0, 0, 0, 0, 0, 0, 0, 0, 0, 0, 0, 0, 0, 1024, 0] := by kernel_rfl
          rw [e] at h
          exact h)
        clear hb HUw23 HRw23 HSw23 HBw23
        clear x46 y45 z45
        clear xl
        have y46 : w24.cell? ⟨w2.heap.size, 46, none⟩ = some (.int .i64 0) := HSw24.out.cell 46
        have z46 : w24.frozen? ⟨w2.heap.size, 46, none⟩ = false := HSw24.out.frozen 46
        have x47 : w24.cell? ⟨w.heap.size, 47, none⟩ = some (.int .i64 0) := HUw24.out.cell 47
        have x48 : w24.cell? ⟨w.heap.size, 48, none⟩ = some (.int .i64 0) := HUw24.out.cell 48
        have xl := HUw24.out.lt
        go_wp2_with fail
        refine (RSizes_32 _ _ _ _).mono ?_; rintro e w25 ⟨rfl, hb⟩
        have HUw25 := Lib.hid ((HUw24.out.far hne _).then_ hb)
        have HRw25 := Lib.hid ((HRw24.out.far hne1 _).then_ hb)
        have HBw25 := Lib.hid (below_then (below_set HBw24.out hle _) hb)
        have HSw25 : Hid (Blk w25 w2.heap.size 27 (sty [0, 0, 0, 0, 0, 0, 0, 0, 0, 0, 6, 0, 6, 0, 1, 0, 1, 0, 1, 0, 1, 0, 1, 0, 1, 0, 1, 0, 1, 0, 0, 0, 0, 0, 0, 0, 0, 0, 0, 1000, 0, 0, 0, 0, 0, 0, 0, 0, 0, 0, 0, 0, 0, 1024, 0])) := Lib.hid (by
          have h := (HSw24.out.put 46 (.int .i64 0)).then_ hb
          have e : ((sty [0, 0, 0, 0, 0, 0, 0, 0, 0, 0, 6, 0, 6, 0, 1, 0, 1, 0, 1, 0, 1, 0, 1, 0, 1, 0, 1, 0, 1, 0, 0, 0, 0, 0, 0, 0, 0, 0, 0, 1000, 0, 0, 0, 0, 0, 0, 0, 0, 0, 0, 0, 0, 0, 1024, 0]).setIfInBounds 46 (.int .i64 0)) = sty [0, 0, 0, 0, 0, 0, 0, 0, 0, 0, 6, 0, 6, 0, 1, 0, 1, 0, 1, 0, 1, 0, 1, 0, 1, 0, 1, 0, 1, 0, 0, 0, 0, 0, 0, 0, 0, 0, 0, 1000, 0, 0, 0, 0, 0, 0, 0, 0, 0, 0, 0, 0, 0, 1024, 0] := by kernel_rfl
          rw [e] at h
          exact h)
        clear hb HUw24 HRw24 HSw24 HBw24
        clear x47 x48 y46 z46
        clear xl
        have y47 : w25.cell? ⟨w2.heap.size, 47, none⟩ = some (.int .i64 0) := HSw25.out.cell 47
        have z47 : w25.frozen? ⟨w2.heap.size, 47, none⟩ = false := HSw25.out.frozen 47
        have y48 : w25.cell? ⟨w2.heap.size, 48, none⟩ = some (.int .i64 0) := HSw25.out.cell 48
        have z48 : w25.frozen? ⟨w2.heap.size, 48, none⟩ = false := HSw25.out.frozen 48
        have x49 : w25.cell? ⟨w.heap.size, 49, none⟩ = some (.int .i64 0) := HUw25.out.cell 49
        have x50 : w25.cell? ⟨w.heap.size, 50, none⟩ = some (.int .i64 0) := HUw25.out.cell 50
        have xl := HUw25.out.lt
        go_wp2_with fail
        refine (RSizes_33 _ _ _ _).mono ?_; rintro e w26 ⟨rfl, hb⟩
        have HUw26 := Lib.hid (((HUw25.out.far hne _).far hne _).then_ hb)
        have HRw26 := Lib.hid (((HRw25.out.far hne1 _).far hne1 _).then_ hb)
        have HBw26 := Lib.hid (below_then (below_set (below_set HBw25.out hle _) hle _) hb)
        have HSw26 : Hid (Blk w26 w2.heap.size 27 (sty [0, 0, 0, 0, 0, 0, 0, 0, 0, 0, 6, 0, 6, 0, 1, 0, 1, 0, 1, 0, 1, 0, 1, 0, 1, 0, 1, 0, 1, 0, 0, 0, 0, 0, 0, 0, 0, 0, 0, 1000, 0, 0, 0, 0, 0, 0, 0, 1, 0, 0, 0, 0, 0, 1024, 0])) := Lib.hid (by
          have h := ((HSw25.out.put 47 (.int .i64 1)).put 48 (.int .i64 0)).then_ hb
          have e : (((sty [0, 0, 0, 0, 0, 0, 0, 0, 0, 0, 6, 0, 6, 0, 1, 0, 1, 0, 1, 0, 1, 0, 1, 0, 1, 0, 1, 0, 1, 0, 0, 0, 0, 0, 0, 0, 0, 0, 0, 1000, 0, 0, 0, 0, 0, 0, 0, 0, 0, 0, 0, 0, 0, 1024, 0]).setIfInBounds 47 (.int .i64 1)).setIfInBounds 48 (.int .i64 0)) = sty [0, 0, 0, 0, 0, 0, 0, 0, 0, 0, 6, 0, 6, 0, 1, 0, 1, 0, 1, 0, 1, 0, 1, 0, 1, 0, 1, 0, 1, 0, 0, 0, 0, 0, 0, 0, 0, 0, 0, 1000, 0, 0, 0, 0, 0, 0, 0, 1, 0, 0, 0, 0, 0, 1024, 0] := by kernel_rfl
          rw [e] at h
          exact h)
        clear hb HUw25 HRw25 HSw25 HBw25
        clear x49 x50 y47 z47 y48 z48
        clear xl
        have y49 : w26.cell? ⟨w2.heap.size, 49, none⟩ = some (.int .i64 0) := HSw26.out.cell 49
        have z49 : w26.frozen? ⟨w2.heap.size, 49, none⟩ = false := HSw26.out.frozen 49
        have y50 : w26.cell? ⟨w2.heap.size, 50, none⟩ = some (.int .i64 0) := HSw26.out.cell 50
        have z50 : w26.frozen? ⟨w2.heap.size, 50, none⟩ = false := HSw26.out.frozen 50
        have x51 : w26.cell? ⟨w.heap.size, 51, none⟩ = some (.int .i64 0) := HUw26.out.cell 51
        have xl := HUw26.out.lt
        go_wp2_with fail
        refine (RWords17_34 _ _).mono ?_; rintro e w27 ⟨rfl, hb⟩
        have HUw27 := Lib.hid (((HUw26.out.far hne _).far hne _).then_ hb)
        have HRw27 := Lib.hid (((HRw26.out.far hne1 _).far hne1 _).then_ hb)
        have HBw27 := Lib.hid (below_then (below_set (below_set HBw26.out hle _) hle _) hb)
        have HSw27 : Hid (Blk w27 w2.heap.size 27 (sty [0, 0, 0, 0, 0, 0, 0, 0, 0, 0, 6, 0, 6, 0, 1, 0, 1, 0, 1, 0, 1, 0, 1, 0, 1, 0, 1, 0, 1, 0, 0, 0, 0, 0, 0, 0, 0, 0, 0, 1000, 0, 0, 0, 0, 0, 0, 0, 1, 0, 1, 0, 0, 0, 1024, 0])) := Lib.hid (by
          have h := ((HSw26.out.put 49 (.int .i64 1)).put 50 (.int .i64 0)).then_ hb
          have e : (((sty [0, 0, 0, 0, 0, 0, 0, 0, 0, 0, 6, 0, 6, 0, 1, 0, 1, 0, 1, 0, 1, 0, 1, 0, 1, 0, 1, 0, 1, 0, 0, 0, 0, 0, 0, 0, 0, 0, 0, 1000, 0, 0, 0, 0, 0, 0, 0, 1, 0, 0, 0, 0, 0, 1024, 0]).setIfInBounds 49 (.int .i64 1)).setIfInBounds 50 (.int .i64 0)) = sty [0, 0, 0, 0, 0, 0, 0, 0, 0, 0, 6, 0, 6, 0, 1, 0, 1, 0, 1, 0, 1, 0, 1, 0, 1, 0, 1, 0, 1, 0, 0, 0, 0, 0, 0, 0, 0, 0, 0, 1000, 0, 0, 0, 0, 0, 0, 0, 1, 0, 1, 0, 0, 0, 1024, 0] := by kernel_rfl
          rw [e] at h
          exact h)
        clear hb HUw26 HRw26 HSw26 HBw26
        clear x51 y49 z49 y50 z50
        clear xl
        have y51 : w27.cell? ⟨w2.heap.size, 51, none⟩ = some (.int .i64 0) := HSw27.out.cell 51
        have z51 : w27.frozen? ⟨w2.heap.size, 51, none⟩ = false := HSw27.out.frozen 51
        go_wp2_with fail
        refine (RHas_any 35 1 2 0 (by decide) (by decide) (by decide) RFirst_35 _).mono ?_; rintro e w28 ⟨rfl, hb⟩
        have HUw28 := Lib.hid ((HUw27.out.far hne _).then_ hb)
        have HRw28 := Lib.hid ((HRw27.out.far hne1 _).then_ hb)
        have HBw28 := Lib.hid (below_then (below_set HBw27.out hle _) hb)
        have HSw28 : Hid (Blk w28 w2.heap.size 27 (sty [0, 0, 0, 0, 0, 0, 0, 0, 0, 0, 6, 0, 6, 0, 1, 0, 1, 0, 1, 0, 1, 0, 1, 0, 1, 0, 1, 0, 1, 0, 0, 0, 0, 0, 0, 0, 0, 0, 0, 1000, 0, 0, 0, 0, 0, 0, 0, 1, 0, 1, 0, 0, 0, 1024, 0])) := Lib.hid (by
          have h := (HSw27.out.put 51 (.int .i64 0)).then_ hb
          have e : ((sty [0, 0, 0, 0, 0, 0, 0, 0, 0, 0, 6, 0, 6, 0, 1, 0, 1, 0, 1, 0, 1, 0, 1, 0, 1, 0, 1, 0, 1, 0, 0, 0, 0, 0, 0, 0, 0, 0, 0, 1000, 0, 0, 0, 0, 0, 0, 0, 1, 0, 1, 0, 0, 0, 1024, 0]).setIfInBounds 51 (.int .i64 0)) = sty [0, 0, 0, 0, 0, 0, 0, 0, 0, 0, 6, 0, 6, 0, 1, 0, 1, 0, 1, 0, 1, 0, 1, 0, 1, 0, 1, 0, 1, 0, 0, 0, 0, 0, 0, 0, 0, 0, 0, 1000, 0, 0, 0, 0, 0, 0, 0, 1, 0, 1, 0, 0, 0, 1024, 0] := by kernel_rfl
          rw [e] at h
          exact h)
        clear hb HUw27 HRw27 HSw27 HBw27
        clear y51 z51
        have sl := HSw28.out.lt
        have y52 : w28.cell? ⟨w2.heap.size, 52, none⟩ = some (.string { data := #[] }) := HSw28.out.cell 52
        have z52 : w28.frozen? ⟨w2.heap.size, 52, none⟩ = false := HSw28.out.frozen 52
        go_wp2_with fail
        refine (RHas_37 _).mono ?_; rintro e w29 ⟨rfl, hb⟩
        have HUw29 := Lib.hid (((HUw28.out.far hne _).alloc _).then_ hb)
        have HRw29 := Lib.hid (((HRw28.out.far hne1 _).alloc _).then_ hb)
        have HBw29 := Lib.hid (below_then (below_alloc (below_set HBw28.out hle _) _) hb)
        have HSw29 : Hid (Blk w29 w2.heap.size 27 (sty [0, 0, 0, 0, 0, 0, 0, 0, 0, 0, 6, 0, 6, 0, 1, 0, 1, 0, 1, 0, 1, 0, 1, 0, 1, 0, 1, 0, 1, 0, 0, 0, 0, 0, 0, 0, 0, 0, 0, 1000, 0, 0, 0, 0, 0, 0, 0, 1, 0, 1, 0, 0, 0, 1024, 0])) := Lib.hid (by
          have h := ((HSw28.out.put 52 (.string { data := #[] })).alloc _).then_ hb
          have e : ((sty [0, 0, 0, 0, 0, 0, 0, 0, 0, 0, 6, 0, 6, 0, 1, 0, 1, 0, 1, 0, 1, 0, 1, 0, 1, 0, 1, 0, 1, 0, 0, 0, 0, 0, 0, 0, 0, 0, 0, 1000, 0, 0, 0, 0, 0, 0, 0, 1, 0, 1, 0, 0, 0, 1024, 0]).setIfInBounds 52 (.string { data := #[] })) = sty [0, 0, 0, 0, 0, 0, 0, 0, 0, 0, 6, 0, 6, 0, 1, 0, 1, 0, 1, 0, 1, 0, 1, 0, 1, 0, 1, 0, 1, 0, 0, 0, 0, 0, 0, 0, 0, 0, 0, 1000, 0, 0, 0, 0, 0, 0, 0, 1, 0, 1, 0, 0, 0, 1024, 0] := by kernel_rfl
          rw [e] at h
          exact h)
        clear hb HUw28 HRw28 HSw28 HBw28
        clear sl
        clear y52 z52
        have y54 : w29.cell? ⟨w2.heap.size, 54, none⟩ = some (.int .i64 0) := HSw29.out.cell 54
        have z54 : w29.frozen? ⟨w2.heap.size, 54, none⟩ = false := HSw29.out.frozen 54
        have x54 : w29.cell? ⟨w.heap.size, 54, none⟩ = some (.int .i64 1200) := HUw29.out.cell 54
        have sl := HSw29.out.lt
        have xl := HUw29.out.lt
        go_upto_region 51 with fail
        have e : (((sty [0, 0, 0, 0, 0, 0, 0, 0, 0, 0, 6, 0, 6, 0, 1, 0, 1, 0, 1, 0, 1, 0, 1, 0, 1, 0, 1, 0, 1, 0, 0, 0, 0, 0, 0, 0, 0, 0, 0, 1000, 0, 0, 0, 0, 0, 0, 0, 1, 0, 1, 0, 0, 0, 1024, 0]).setIfInBounds 54 (.int .i64 0)).setIfInBounds 54 (.int .i64 1200)) = sty finL := by kernel_rfl
        refine at_any (fun wx => Blk wx w2.heap.size 27 (sty finL) ∧ Blk wx (w.heap.size + 1) 27 (sty []) ∧ Below w.heap.size w wx) ⟨(by rw [← e]; exact (((HSw29.out.put 54 (.int .i64 0)).put 54 (.int .i64 1200)).alloc _)), (((HRw29.out.far hne1 _).far hne1 _).alloc _), (below_alloc (below_set (below_set HBw29.out hle _) hle _) _)⟩ ?_
        rintro wz ⟨hs, hr, hb⟩
        clear e sl HUw29 HRw29 HSw29 HBw29 x54 y54 z54 xl
        refine wp_region_list ?_
        refine wpList_load_whole rfl 27 (.tmp 10) rfl w2.heap.size rfl hs Try.underlying27 rfl (by kernel_rfl) ?_
        refine wpList_store_mid rfl 27 (.tmp 8) (.tmp 288) rfl (w.heap.size + 1) 0 (sty finL) rfl rfl (hr.there (by simp [sty])) (by kernel_rfl) (sty_one _) ?_
        have hr2 := hr.setCells_all (sty finL) (by simp [sty])
        have hb2 := below_setCells (g := w.heap.size + 1) (by omega) (sty finL).toList 0 _ hb
        clear hs hr hb
        go_wp2_with fail
        exact bodyPost_ret (v := .agg (sty finL)) (results_cell rfl rfl hr2 Try.underlying27 rfl (by kernel_rfl)) rfl ⟨rfl, hb2⟩
    · rcases (show k = 0 ∨ k = 1 ∨ k = 2 ∨ k = 3 by omega) with rfl | rfl | rfl | rfl
      ·   have HUwr := Lib.hid hu
          have HRwr := Lib.hid hr
          have HSwr : Hid (Blk wr w2.heap.size 27 (sty [0, 0, 0, 0, 0, 0, 0, 0, 0, 0, 6, 0, 6, 0, 0, 0, 0, 0, 0, 0, 0, 0, 0, 0, 0, 0, 0, 0, 0, 0, 0, 0, 0, 0, 0, 0, 0, 0, 0, 0, 0, 0, 0, 0, 0, 0, 0, 0, 0, 0, 0, 0, 0, 1024, 0])) := Lib.hid (by
            have e : stL 0 = [0, 0, 0, 0, 0, 0, 0, 0, 0, 0, 6, 0, 6, 0, 0, 0, 0, 0, 0, 0, 0, 0, 0, 0, 0, 0, 0, 0, 0, 0, 0, 0, 0, 0, 0, 0, 0, 0, 0, 0, 0, 0, 0, 0, 0, 0, 0, 0, 0, 0, 0, 0, 0, 1024, 0] := by kernel_rfl
            rw [e] at hs
            exact hs)
          have HBwr := Lib.hid hb
          clear hu hr hs hb
          have x14 : wr.cell? ⟨w.heap.size, 14, none⟩ = some (.int .i64 0) := HUwr.out.cell 14
          have x15 : wr.cell? ⟨w.heap.size, 15, none⟩ = some (.int .i64 0) := HUwr.out.cell 15
          have xl := HUwr.out.lt
          go_wp2_with fail
          refine (RSizes_9 _ _ _ _).mono ?_; rintro e w14 ⟨rfl, hb⟩
          have HUw14 := Lib.hid (HUwr.out.then_ hb)
          have HRw14 := Lib.hid (HRwr.out.then_ hb)
          have HBw14 := Lib.hid (below_then HBwr.out hb)
          have HSw14 := Lib.hid (HSwr.out.then_ hb)
          clear hb HUwr HRwr HSwr HBwr
          clear x14 x15
          clear xl
          have y14 : w14.cell? ⟨w2.heap.size, 14, none⟩ = some (.int .i64 0) := HSw14.out.cell 14
          have z14 : w14.frozen? ⟨w2.heap.size, 14, none⟩ = false := HSw14.out.frozen 14
          have y15 : w14.cell? ⟨w2.heap.size, 15, none⟩ = some (.int .i64 0) := HSw14.out.cell 15
          have z15 : w14.frozen? ⟨w2.heap.size, 15, none⟩ = false := HSw14.out.frozen 15
          have x22 : w14.cell? ⟨w.heap.size, 22, none⟩ = some (.int .i64 0) := HUw14.out.cell 22
          have x23 : w14.cell? ⟨w.heap.size, 23, none⟩ = some (.int .i64 0) := HUw14.out.cell 23
          have xl := HUw14.out.lt
          go_wp2_with fail
          refine (RSizes_13 _ _ _ _).mono ?_; rintro e w15 ⟨rfl, hb⟩
          have HUw15 := Lib.hid (((HUw14.out.far hne _).far hne _).then_ hb)
          have HRw15 := Lib.hid (((HRw14.out.far hne1 _).far hne1 _).then_ hb)
          have HBw15 := Lib.hid (below_then (below_set (below_set HBw14.out hle _) hle _) hb)
          have HSw15 : Hid (Blk w15 w2.heap.size 27 (sty [0, 0, 0, 0, 0, 0, 0, 0, 0, 0, 6, 0, 6, 0, 1, 0, 0, 0, 0, 0, 0, 0, 0, 0, 0, 0, 0, 0, 0, 0, 0, 0, 0, 0, 0, 0, 0, 0, 0, 0, 0, 0, 0, 0, 0, 0, 0, 0, 0, 0, 0, 0, 0, 1024, 0])) := Lib.hid (by
            have h := ((HSw14.out.put 14 (.int .i64 1)).put 15 (.int .i64 0)).then_ hb
            have e : (((sty [0, 0, 0, 0, 0, 0, 0, 0, 0, 0, 6, 0, 6, 0, 0, 0, 0, 0, 0, 0, 0, 0, 0, 0, 0, 0, 0, 0, 0, 0, 0, 0, 0, 0, 0, 0, 0, 0, 0, 0, 0, 0, 0, 0, 0, 0, 0, 0, 0, 0, 0, 0, 0, 1024, 0]).setIfInBounds 14 (.int .i64 1)).setIfInBounds 15 (.int .i64 0)) = sty [0, 0, 0, 0, 0, 0, 0, 0, 0, 0, 6, 0, 6, 0, 1, 0, 0, 0, 0, 0, 0, 0, 0, 0, 0, 0, 0, 0, 0, 0, 0, 0, 0, 0, 0, 0, 0, 0, 0, 0, 0, 0, 0, 0, 0, 0, 0, 0, 0, 0, 0, 0, 0, 1024, 0] := by kernel_rfl
            rw [e] at h
            exact h)
          clear hb HUw14 HRw14 HSw14 HBw14
          clear x22 x23 y14 z14 y15 z15
          clear xl
          have y22 : w15.cell? ⟨w2.heap.size, 22, none⟩ = some (.int .i64 0) := HSw15.out.cell 22
          have z22 : w15.frozen? ⟨w2.heap.size, 22, none⟩ = false := HSw15.out.frozen 22
          have y23 : w15.cell? ⟨w2.heap.size, 23, none⟩ = some (.int .i64 0) := HSw15.out.cell 23
          have z23 : w15.frozen? ⟨w2.heap.size, 23, none⟩ = false := HSw15.out.frozen 23
          go_wp2_with fail
          refine (RHas_any 17 2 0 1 (by decide) (by decide) (by decide) RFirst_17 _).mono ?_; rintro e w16 ⟨rfl, hb⟩
          have HUw16 := Lib.hid (((HUw15.out.far hne _).far hne _).then_ hb)
          have HRw16 := Lib.hid (((HRw15.out.far hne1 _).far hne1 _).then_ hb)
          have HBw16 := Lib.hid (below_then (below_set (below_set HBw15.out hle _) hle _) hb)
          have HSw16 : Hid (Blk w16 w2.heap.size 27 (sty [0, 0, 0, 0, 0, 0, 0, 0, 0, 0, 6, 0, 6, 0, 1, 0, 0, 0, 0, 0, 0, 0, 1, 0, 0, 0, 0, 0, 0, 0, 0, 0, 0, 0, 0, 0, 0, 0, 0, 0, 0, 0, 0, 0, 0, 0, 0, 0, 0, 0, 0, 0, 0, 1024, 0])) := Lib.hid (by
            have h := ((HSw15.out.put 22 (.int .i64 1)).put 23 (.int .i64 0)).then_ hb
            have e : (((sty [0, 0, 0, 0, 0, 0, 0, 0, 0, 0, 6, 0, 6, 0, 1, 0, 0, 0, 0, 0, 0, 0, 0, 0, 0, 0, 0, 0, 0, 0, 0, 0, 0, 0, 0, 0, 0, 0, 0, 0, 0, 0, 0, 0, 0, 0, 0, 0, 0, 0, 0, 0, 0, 1024, 0]).setIfInBounds 22 (.int .i64 1)).setIfInBounds 23 (.int .i64 0)) = sty [0, 0, 0, 0, 0, 0, 0, 0, 0, 0, 6, 0, 6, 0, 1, 0, 0, 0, 0, 0, 0, 0, 1, 0, 0, 0, 0, 0, 0, 0, 0, 0, 0, 0, 0, 0, 0, 0, 0, 0, 0, 0, 0, 0, 0, 0, 0, 0, 0, 0, 0, 0, 0, 1024, 0] := by kernel_rfl
            rw [e] at h
            exact h)
          clear hb HUw15 HRw15 HSw15 HBw15
          clear y22 z22 y23 z23
          go_wp2_with fail
          refine (RMeasure_zero _ _).mono ?_; rintro e w17 ⟨rfl, hb⟩
          have HUw17 := Lib.hid ((HUw16.out.alloc _).then_ hb)
          have HRw17 := Lib.hid ((HRw16.out.alloc _).then_ hb)
          have HBw17 := Lib.hid (below_then (below_alloc HBw16.out _) hb)
          have HSw17 := Lib.hid ((HSw16.out.alloc _).then_ hb)
          clear hb HUw16 HRw16 HSw16 HBw16
          have y30 : w17.cell? ⟨w2.heap.size, 30, none⟩ = some (.int .i64 0) := HSw17.out.cell 30
          have z30 : w17.frozen? ⟨w2.heap.size, 30, none⟩ = false := HSw17.out.frozen 30
          go_wp2_with fail
          refine (RLeast_zero _).mono ?_; rintro e w' ⟨rfl, rfl⟩
          go_wp2_with fail
          go_roundw
          case rel =>
            have hs := (HSw17.out.put 30 (.int .i64 0))
            have e : ((sty [0, 0, 0, 0, 0, 0, 0, 0, 0, 0, 6, 0, 6, 0, 1, 0, 0, 0, 0, 0, 0, 0, 1, 0, 0, 0, 0, 0, 0, 0, 0, 0, 0, 0, 0, 0, 0, 0, 0, 0, 0, 0, 0, 0, 0, 0, 0, 0, 0, 0, 0, 0, 0, 1024, 0]).setIfInBounds 30 (.int .i64 0)) = sty (stL 1) := by kernel_rfl
            rw [e] at hs
            exact ⟨1, by omega, by go_num, (HUw17.out.far hne _), (HRw17.out.far hne1 _), hs, (below_set HBw17.out hle _)⟩
          case measure => (simp [intOf]; try omega)
      ·   have HUwr := Lib.hid hu
          have HRwr := Lib.hid hr
          have HSwr : Hid (Blk wr w2.heap.size 27 (sty [0, 0, 0, 0, 0, 0, 0, 0, 0, 0, 6, 0, 6, 0, 1, 0, 0, 0, 0, 0, 0, 0, 1, 0, 0, 0, 0, 0, 0, 0, 0, 0, 0, 0, 0, 0, 0, 0, 0, 0, 0, 0, 0, 0, 0, 0, 0, 0, 0, 0, 0, 0, 0, 1024, 0])) := Lib.hid (by
            have e : stL 1 = [0, 0, 0, 0, 0, 0, 0, 0, 0, 0, 6, 0, 6, 0, 1, 0, 0, 0, 0, 0, 0, 0, 1, 0, 0, 0, 0, 0, 0, 0, 0, 0, 0, 0, 0, 0, 0, 0, 0, 0, 0, 0, 0, 0, 0, 0, 0, 0, 0, 0, 0, 0, 0, 1024, 0] := by kernel_rfl
            rw [e] at hs
            exact hs)
          have HBwr := Lib.hid hb
          clear hu hr hs hb
          have x16 : wr.cell? ⟨w.heap.size, 16, none⟩ = some (.int .i64 0) := HUwr.out.cell 16
          have x17 : wr.cell? ⟨w.heap.size, 17, none⟩ = some (.int .i64 0) := HUwr.out.cell 17
          have xl := HUwr.out.lt
          go_wp2_with fail
          refine (RSizes_10 _ _ _ _).mono ?_; rintro e w14 ⟨rfl, hb⟩
          have HUw14 := Lib.hid (HUwr.out.then_ hb)
          have HRw14 := Lib.hid (HRwr.out.then_ hb)
          have HBw14 := Lib.hid (below_then HBwr.out hb)
          have HSw14 := Lib.hid (HSwr.out.then_ hb)
          clear hb HUwr HRwr HSwr HBwr
          clear x16 x17
          clear xl
          have y16 : w14.cell? ⟨w2.heap.size, 16, none⟩ = some (.int .i64 0) := HSw14.out.cell 16
          have z16 : w14.frozen? ⟨w2.heap.size, 16, none⟩ = false := HSw14.out.frozen 16
          have y17 : w14.cell? ⟨w2.heap.size, 17, none⟩ = some (.int .i64 0) := HSw14.out.cell 17
          have z17 : w14.frozen? ⟨w2.heap.size, 17, none⟩ = false := HSw14.out.frozen 17
          have x24 : w14.cell? ⟨w.heap.size, 24, none⟩ = some (.int .i64 0) := HUw14.out.cell 24
          have x25 : w14.cell? ⟨w.heap.size, 25, none⟩ = some (.int .i64 0) := HUw14.out.cell 25
          have xl := HUw14.out.lt
          go_wp2_with fail
          refine (RSizes_14 _ _ _ _).mono ?_; rintro e w15 ⟨rfl, hb⟩
          have HUw15 := Lib.hid (((HUw14.out.far hne _).far hne _).then_ hb)
          have HRw15 := Lib.hid (((HRw14.out.far hne1 _).far hne1 _).then_ hb)
          have HBw15 := Lib.hid (below_then (below_set (below_set HBw14.out hle _) hle _) hb)
          have HSw15 : Hid (Blk w15 w2.heap.size 27 (sty [0, 0, 0, 0, 0, 0, 0, 0, 0, 0, 6, 0, 6, 0, 1, 0, 1, 0, 0, 0, 0, 0, 1, 0, 0, 0, 0, 0, 0, 0, 0, 0, 0, 0, 0, 0, 0, 0, 0, 0, 0, 0, 0, 0, 0, 0, 0, 0, 0, 0, 0, 0, 0, 1024, 0])) := Lib.hid (by
            have h := ((HSw14.out.put 16 (.int .i64 1)).put 17 (.int .i64 0)).then_ hb
            have e : (((sty [0, 0, 0, 0, 0, 0, 0, 0, 0, 0, 6, 0, 6, 0, 1, 0, 0, 0, 0, 0, 0, 0, 1, 0, 0, 0, 0, 0, 0, 0, 0, 0, 0, 0, 0, 0, 0, 0, 0, 0, 0, 0, 0, 0, 0, 0, 0, 0, 0, 0, 0, 0, 0, 1024, 0]).setIfInBounds 16 (.int .i64 1)).setIfInBounds 17 (.int .i64 0)) = sty [0, 0, 0, 0, 0, 0, 0, 0, 0, 0, 6, 0, 6, 0, 1, 0, 1, 0, 0, 0, 0, 0, 1, 0, 0, 0, 0, 0, 0, 0, 0, 0, 0, 0, 0, 0, 0, 0, 0, 0, 0, 0, 0, 0, 0, 0, 0, 0, 0, 0, 0, 0, 0, 1024, 0] := by kernel_rfl
            rw [e] at h
            exact h)
          clear hb HUw14 HRw14 HSw14 HBw14
          clear x24 x25 y16 z16 y17 z17
          clear xl
          have y24 : w15.cell? ⟨w2.heap.size, 24, none⟩ = some (.int .i64 0) := HSw15.out.cell 24
          have z24 : w15.frozen? ⟨w2.heap.size, 24, none⟩ = false := HSw15.out.frozen 24
          have y25 : w15.cell? ⟨w2.heap.size, 25, none⟩ = some (.int .i64 0) := HSw15.out.cell 25
          have z25 : w15.frozen? ⟨w2.heap.size, 25, none⟩ = false := HSw15.out.frozen 25
          go_wp2_with fail
          refine (RHas_any 18 2 0 1 (by decide) (by decide) (by decide) RFirst_18 _).mono ?_; rintro e w16 ⟨rfl, hb⟩
          have HUw16 := Lib.hid (((HUw15.out.far hne _).far hne _).then_ hb)
          have HRw16 := Lib.hid (((HRw15.out.far hne1 _).far hne1 _).then_ hb)
          have HBw16 := Lib.hid (below_then (below_set (below_set HBw15.out hle _) hle _) hb)
          have HSw16 : Hid (Blk w16 w2.heap.size 27 (sty [0, 0, 0, 0, 0, 0, 0, 0, 0, 0, 6, 0, 6, 0, 1, 0, 1, 0, 0, 0, 0, 0, 1, 0, 1, 0, 0, 0, 0, 0, 0, 0, 0, 0, 0, 0, 0, 0, 0, 0, 0, 0, 0, 0, 0, 0, 0, 0, 0, 0, 0, 0, 0, 1024, 0])) := Lib.hid (by
            have h := ((HSw15.out.put 24 (.int .i64 1)).put 25 (.int .i64 0)).then_ hb
            have e : (((sty [0, 0, 0, 0, 0, 0, 0, 0, 0, 0, 6, 0, 6, 0, 1, 0, 1, 0, 0, 0, 0, 0, 1, 0, 0, 0, 0, 0, 0, 0, 0, 0, 0, 0, 0, 0, 0, 0, 0, 0, 0, 0, 0, 0, 0, 0, 0, 0, 0, 0, 0, 0, 0, 1024, 0]).setIfInBounds 24 (.int .i64 1)).setIfInBounds 25 (.int .i64 0)) = sty [0, 0, 0, 0, 0, 0, 0, 0, 0, 0, 6, 0, 6, 0, 1, 0, 1, 0, 0, 0, 0, 0, 1, 0, 1, 0, 0, 0, 0, 0, 0, 0, 0, 0, 0, 0, 0, 0, 0, 0, 0, 0, 0, 0, 0, 0, 0, 0, 0, 0, 0, 0, 0, 1024, 0] := by kernel_rfl
            rw [e] at h
            exact h)
          clear hb HUw15 HRw15 HSw15 HBw15
          clear y24 z24 y25 z25
          go_wp2_with fail
          refine (RMeasure_zero _ _).mono ?_; rintro e w17 ⟨rfl, hb⟩
          have HUw17 := Lib.hid ((HUw16.out.alloc _).then_ hb)
          have HRw17 := Lib.hid ((HRw16.out.alloc _).then_ hb)
          have HBw17 := Lib.hid (below_then (below_alloc HBw16.out _) hb)
          have HSw17 := Lib.hid ((HSw16.out.alloc _).then_ hb)
          clear hb HUw16 HRw16 HSw16 HBw16
          have y31 : w17.cell? ⟨w2.heap.size, 31, none⟩ = some (.int .i64 0) := HSw17.out.cell 31
          have z31 : w17.frozen? ⟨w2.heap.size, 31, none⟩ = false := HSw17.out.frozen 31
          go_wp2_with fail
          refine (RLeast_zero _).mono ?_; rintro e w' ⟨rfl, rfl⟩
          go_wp2_with fail
          go_roundw
          case rel =>
            have hs := (HSw17.out.put 31 (.int .i64 0))
            have e : ((sty [0, 0, 0, 0, 0, 0, 0, 0, 0, 0, 6, 0, 6, 0, 1, 0, 1, 0, 0, 0, 0, 0, 1, 0, 1, 0, 0, 0, 0, 0, 0, 0, 0, 0, 0, 0, 0, 0, 0, 0, 0, 0, 0, 0, 0, 0, 0, 0, 0, 0, 0, 0, 0, 1024, 0]).setIfInBounds 31 (.int .i64 0)) = sty (stL 2) := by kernel_rfl
            rw [e] at hs
            exact ⟨2, by omega, by go_num, (HUw17.out.far hne _), (HRw17.out.far hne1 _), hs, (below_set HBw17.out hle _)⟩
          case measure => (simp [intOf]; try omega)
      ·   have HUwr := Lib.hid hu
          have HRwr := Lib.hid hr
          have HSwr : Hid (Blk wr w2.heap.size 27 (sty [0, 0, 0, 0, 0, 0, 0, 0, 0, 0, 6, 0, 6, 0, 1, 0, 1, 0, 0, 0, 0, 0, 1, 0, 1, 0, 0, 0, 0, 0, 0, 0, 0, 0, 0, 0, 0, 0, 0, 0, 0, 0, 0, 0, 0, 0, 0, 0, 0, 0, 0, 0, 0, 1024, 0])) := Lib.hid (by
            have e : stL 2 = [0, 0, 0, 0, 0, 0, 0, 0, 0, 0, 6, 0, 6, 0, 1, 0, 1, 0, 0, 0, 0, 0, 1, 0, 1, 0, 0, 0, 0, 0, 0, 0, 0, 0, 0, 0, 0, 0, 0, 0, 0, 0, 0, 0, 0, 0, 0, 0, 0, 0, 0, 0, 0, 1024, 0] := by kernel_rfl
            rw [e] at hs
            exact hs)
          have HBwr := Lib.hid hb
          clear hu hr hs hb
          have x18 : wr.cell? ⟨w.heap.size, 18, none⟩ = some (.int .i64 0) := HUwr.out.cell 18
          have x19 : wr.cell? ⟨w.heap.size, 19, none⟩ = some (.int .i64 0) := HUwr.out.cell 19
          have xl := HUwr.out.lt
          go_wp2_with fail
          refine (RSizes_11 _ _ _ _).mono ?_; rintro e w14 ⟨rfl, hb⟩
          have HUw14 := Lib.hid (HUwr.out.then_ hb)
          have HRw14 := Lib.hid (HRwr.out.then_ hb)
          have HBw14 := Lib.hid (below_then HBwr.out hb)
          have HSw14 := Lib.hid (HSwr.out.then_ hb)
          clear hb HUwr HRwr HSwr HBwr
          clear x18 x19
          clear xl
          have y18 : w14.cell? ⟨w2.heap.size, 18, none⟩ = some (.int .i64 0) := HSw14.out.cell 18
          have z18 : w14.frozen? ⟨w2.heap.size, 18, none⟩ = false := HSw14.out.frozen 18
          have y19 : w14.cell? ⟨w2.heap.size, 19, none⟩ = some (.int .i64 0) := HSw14.out.cell 19
          have z19 : w14.frozen? ⟨w2.heap.size, 19, none⟩ = false := HSw14.out.frozen 19
          have x26 : w14.cell? ⟨w.heap.size, 26, none⟩ = some (.int .i64 0) := HUw14.out.cell 26
          have x27 : w14.cell? ⟨w.heap.size, 27, none⟩ = some (.int .i64 0) := HUw14.out.cell 27
          have xl := HUw14.out.lt
          go_wp2_with fail
          refine (RSizes_15 _ _ _ _).mono ?_; rintro e w15 ⟨rfl, hb⟩
          have HUw15 := Lib.hid (((HUw14.out.far hne _).far hne _).then_ hb)
          have HRw15 := Lib.hid (((HRw14.out.far hne1 _).far hne1 _).then_ hb)
          have HBw15 := Lib.hid (below_then (below_set (below_set HBw14.out hle _) hle _) hb)
          have HSw15 : Hid (Blk w15 w2.heap.size 27 (sty [0, 0, 0, 0, 0, 0, 0, 0, 0, 0, 6, 0, 6, 0, 1, 0, 1, 0, 1, 0, 0, 0, 1, 0, 1, 0, 0, 0, 0, 0, 0, 0, 0, 0, 0, 0, 0, 0, 0, 0, 0, 0, 0, 0, 0, 0, 0, 0, 0, 0, 0, 0, 0, 1024, 0])) := Lib.hid (by
            have h := ((HSw14.out.put 18 (.int .i64 1)).put 19 (.int .i64 0)).then_ hb
            have e : (((sty [0, 0, 0, 0, 0, 0, 0, 0, 0, 0, 6, 0, 6, 0, 1, 0, 1, 0, 0, 0, 0, 0, 1, 0, 1, 0, 0, 0, 0, 0, 0, 0, 0, 0, 0, 0, 0, 0, 0, 0, 0, 0, 0, 0, 0, 0, 0, 0, 0, 0, 0, 0, 0, 1024, 0]).setIfInBounds 18 (.int .i64 1)).setIfInBounds 19 (.int .i64 0)) = sty [0, 0, 0, 0, 0, 0, 0, 0, 0, 0, 6, 0, 6, 0, 1, 0, 1, 0, 1, 0, 0, 0, 1, 0, 1, 0, 0, 0, 0, 0, 0, 0, 0, 0, 0, 0, 0, 0, 0, 0, 0, 0, 0, 0, 0, 0, 0, 0, 0, 0, 0, 0, 0, 1024, 0] := by kernel_rfl
            rw [e] at h
            exact h)
          clear hb HUw14 HRw14 HSw14 HBw14
          clear x26 x27 y18 z18 y19 z19
          clear xl
          have y26 : w15.cell? ⟨w2.heap.size, 26, none⟩ = some (.int .i64 0) := HSw15.out.cell 26
          have z26 : w15.frozen? ⟨w2.heap.size, 26, none⟩ = false := HSw15.out.frozen 26
          have y27 : w15.cell? ⟨w2.heap.size, 27, none⟩ = some (.int .i64 0) := HSw15.out.cell 27
          have z27 : w15.frozen? ⟨w2.heap.size, 27, none⟩ = false := HSw15.out.frozen 27
          go_wp2_with fail
          refine (RHas_any 19 2 0 1 (by decide) (by decide) (by decide) RFirst_19 _).mono ?_; rintro e w16 ⟨rfl, hb⟩
          have HUw16 := Lib.hid (((HUw15.out.far hne _).far hne _).then_ hb)
          have HRw16 := Lib.hid (((HRw15.out.far hne1 _).far hne1 _).then_ hb)
          have HBw16 := Lib.hid (below_then (below_set (below_set HBw15.out hle _) hle _) hb)
          have HSw16 : Hid (Blk w16 w2.heap.size 27 (sty [0, 0, 0, 0, 0, 0, 0, 0, 0, 0, 6, 0, 6, 0, 1, 0, 1, 0, 1, 0, 0, 0, 1, 0, 1, 0, 1, 0, 0, 0, 0, 0, 0, 0, 0, 0, 0, 0, 0, 0, 0, 0, 0, 0, 0, 0, 0, 0, 0, 0, 0, 0, 0, 1024, 0])) := Lib.hid (by
            have h := ((HSw15.out.put 26 (.int .i64 1)).put 27 (.int .i64 0)).then_ hb
            have e : (((sty [0, 0, 0, 0, 0, 0, 0, 0, 0, 0, 6, 0, 6, 0, 1, 0, 1, 0, 1, 0, 0, 0, 1, 0, 1, 0, 0, 0, 0, 0, 0, 0, 0, 0, 0, 0, 0, 0, 0, 0, 0, 0, 0, 0, 0, 0, 0, 0, 0, 0, 0, 0, 0, 1024, 0]).setIfInBounds 26 (.int .i64 1)).setIfInBounds 27 (.int .i64 0)) = sty [0, 0, 0, 0, 0, 0, 0, 0, 0, 0, 6, 0, 6, 0, 1, 0, 1, 0, 1, 0, 0, 0, 1, 0, 1, 0, 1, 0, 0, 0, 0, 0, 0, 0, 0, 0, 0, 0, 0, 0, 0, 0, 0, 0, 0, 0, 0, 0, 0, 0, 0, 0, 0, 1024, 0] := by kernel_rfl
            rw [e] at h
            exact h)
          clear hb HUw15 HRw15 HSw15 HBw15
          clear y26 z26 y27 z27
          go_wp2_with fail
          refine (RMeasure_zero _ _).mono ?_; rintro e w17 ⟨rfl, hb⟩
          have HUw17 := Lib.hid ((HUw16.out.alloc _).then_ hb)
          have HRw17 := Lib.hid ((HRw16.out.alloc _).then_ hb)
          have HBw17 := Lib.hid (below_then (below_alloc HBw16.out _) hb)
          have HSw17 := Lib.hid ((HSw16.out.alloc _).then_ hb)
          clear hb HUw16 HRw16 HSw16 HBw16
          have y32 : w17.cell? ⟨w2.heap.size, 32, none⟩ = some (.int .i64 0) := HSw17.out.cell 32
          have z32 : w17.frozen? ⟨w2.heap.size, 32, none⟩ = false := HSw17.out.frozen 32
          go_wp2_with fail
          refine (RLeast_zero _).mono ?_; rintro e w' ⟨rfl, rfl⟩
          go_wp2_with fail
          go_roundw
          case rel =>
            have hs := (HSw17.out.put 32 (.int .i64 0))
            have e : ((sty [0, 0, 0, 0, 0, 0, 0, 0, 0, 0, 6, 0, 6, 0, 1, 0, 1, 0, 1, 0, 0, 0, 1, 0, 1, 0, 1, 0, 0, 0, 0, 0, 0, 0, 0, 0, 0, 0, 0, 0, 0, 0, 0, 0, 0, 0, 0, 0, 0, 0, 0, 0, 0, 1024, 0]).setIfInBounds 32 (.int .i64 0)) = sty (stL 3) := by kernel_rfl
            rw [e] at hs
            exact ⟨3, by omega, by go_num, (HUw17.out.far hne _), (HRw17.out.far hne1 _), hs, (below_set HBw17.out hle _)⟩
          case measure => (simp [intOf]; try omega)
      ·   have HUwr := Lib.hid hu
          have HRwr := Lib.hid hr
          have HSwr : Hid (Blk wr w2.heap.size 27 (sty [0, 0, 0, 0, 0, 0, 0, 0, 0, 0, 6, 0, 6, 0, 1, 0, 1, 0, 1, 0, 0, 0, 1, 0, 1, 0, 1, 0, 0, 0, 0, 0, 0, 0, 0, 0, 0, 0, 0, 0, 0, 0, 0, 0, 0, 0, 0, 0, 0, 0, 0, 0, 0, 1024, 0])) := Lib.hid (by
            have e : stL 3 = [0, 0, 0, 0, 0, 0, 0, 0, 0, 0, 6, 0, 6, 0, 1, 0, 1, 0, 1, 0, 0, 0, 1, 0, 1, 0, 1, 0, 0, 0, 0, 0, 0, 0, 0, 0, 0, 0, 0, 0, 0, 0, 0, 0, 0, 0, 0, 0, 0, 0, 0, 0, 0, 1024, 0] := by kernel_rfl
            rw [e] at hs
            exact hs)
          have HBwr := Lib.hid hb
          clear hu hr hs hb
          have x20 : wr.cell? ⟨w.heap.size, 20, none⟩ = some (.int .i64 0) := HUwr.out.cell 20
          have x21 : wr.cell? ⟨w.heap.size, 21, none⟩ = some (.int .i64 0) := HUwr.out.cell 21
          have xl := HUwr.out.lt
          go_wp2_with fail
          refine (RSizes_12 _ _ _ _).mono ?_; rintro e w14 ⟨rfl, hb⟩
          have HUw14 := Lib.hid (HUwr.out.then_ hb)
          have HRw14 := Lib.hid (HRwr.out.then_ hb)
          have HBw14 := Lib.hid (below_then HBwr.out hb)
          have HSw14 := Lib.hid (HSwr.out.then_ hb)
          clear hb HUwr HRwr HSwr HBwr
          clear x20 x21
          clear xl
          have y20 : w14.cell? ⟨w2.heap.size, 20, none⟩ = some (.int .i64 0) := HSw14.out.cell 20
          have z20 : w14.frozen? ⟨w2.heap.size, 20, none⟩ = false := HSw14.out.frozen 20
          have y21 : w14.cell? ⟨w2.heap.size, 21, none⟩ = some (.int .i64 0) := HSw14.out.cell 21
          have z21 : w14.frozen? ⟨w2.heap.size, 21, none⟩ = false := HSw14.out.frozen 21
          have x28 : w14.cell? ⟨w.heap.size, 28, none⟩ = some (.int .i64 0) := HUw14.out.cell 28
          have x29 : w14.cell? ⟨w.heap.size, 29, none⟩ = some (.int .i64 0) := HUw14.out.cell 29
          have xl := HUw14.out.lt
          go_wp2_with fail
          refine (RSizes_16 _ _ _ _).mono ?_; rintro e w15 ⟨rfl, hb⟩
          have HUw15 := Lib.hid (((HUw14.out.far hne _).far hne _).then_ hb)
          have HRw15 := Lib.hid (((HRw14.out.far hne1 _).far hne1 _).then_ hb)
          have HBw15 := Lib.hid (below_then (below_set (below_set HBw14.out hle _) hle _) hb)
          have HSw15 : Hid (Blk w15 w2.heap.size 27 (sty [0, 0, 0, 0, 0, 0, 0, 0, 0, 0, 6, 0, 6, 0, 1, 0, 1, 0, 1, 0, 1, 0, 1, 0, 1, 0, 1, 0, 0, 0, 0, 0, 0, 0, 0, 0, 0, 0, 0, 0, 0, 0, 0, 0, 0, 0, 0, 0, 0, 0, 0, 0, 0, 1024, 0])) := Lib.hid (by
            have h := ((HSw14.out.put 20 (.int .i64 1)).put 21 (.int .i64 0)).then_ hb
            have e : (((sty [0, 0, 0, 0, 0, 0, 0, 0, 0, 0, 6, 0, 6, 0, 1, 0, 1, 0, 1, 0, 0, 0, 1, 0, 1, 0, 1, 0, 0, 0, 0, 0, 0, 0, 0, 0, 0, 0, 0, 0, 0, 0, 0, 0, 0, 0, 0, 0, 0, 0, 0, 0, 0, 1024, 0]).setIfInBounds 20 (.int .i64 1)).setIfInBounds 21 (.int .i64 0)) = sty [0, 0, 0, 0, 0, 0, 0, 0, 0, 0, 6, 0, 6, 0, 1, 0, 1, 0, 1, 0, 1, 0, 1, 0, 1, 0, 1, 0, 0, 0, 0, 0, 0, 0, 0, 0, 0, 0, 0, 0, 0, 0, 0, 0, 0, 0, 0, 0, 0, 0, 0, 0, 0, 1024, 0] := by kernel_rfl
            rw [e] at h
            exact h)
          clear hb HUw14 HRw14 HSw14 HBw14
          clear x28 x29 y20 z20 y21 z21
          clear xl
          have y28 : w15.cell? ⟨w2.heap.size, 28, none⟩ = some (.int .i64 0) := HSw15.out.cell 28
          have z28 : w15.frozen? ⟨w2.heap.size, 28, none⟩ = false := HSw15.out.frozen 28
          have y29 : w15.cell? ⟨w2.heap.size, 29, none⟩ = some (.int .i64 0) := HSw15.out.cell 29
          have z29 : w15.frozen? ⟨w2.heap.size, 29, none⟩ = false := HSw15.out.frozen 29
          go_wp2_with fail
          refine (RHas_any 20 2 0 1 (by decide) (by decide) (by decide) RFirst_20 _).mono ?_; rintro e w16 ⟨rfl, hb⟩
          have HUw16 := Lib.hid (((HUw15.out.far hne _).far hne _).then_ hb)
          have HRw16 := Lib.hid (((HRw15.out.far hne1 _).far hne1 _).then_ hb)
          have HBw16 := Lib.hid (below_then (below_set (below_set HBw15.out hle _) hle _) hb)
          have HSw16 : Hid (Blk w16 w2.heap.size 27 (sty [0, 0, 0, 0, 0, 0, 0, 0, 0, 0, 6, 0, 6, 0, 1, 0, 1, 0, 1, 0, 1, 0, 1, 0, 1, 0, 1, 0, 1, 0, 0, 0, 0, 0, 0, 0, 0, 0, 0, 0, 0, 0, 0, 0, 0, 0, 0, 0, 0, 0, 0, 0, 0, 1024, 0])) := Lib.hid (by
            have h := ((HSw15.out.put 28 (.int .i64 1)).put 29 (.int .i64 0)).then_ hb
            have e : (((sty [0, 0, 0, 0, 0, 0, 0, 0, 0, 0, 6, 0, 6, 0, 1, 0, 1, 0, 1, 0, 1, 0, 1, 0, 1, 0, 1, 0, 0, 0, 0, 0, 0, 0, 0, 0, 0, 0, 0, 0, 0, 0, 0, 0, 0, 0, 0, 0, 0, 0, 0, 0, 0, 1024, 0]).setIfInBounds 28 (.int .i64 1)).setIfInBounds 29 (.int .i64 0)) = sty [0, 0, 0, 0, 0, 0, 0, 0, 0, 0, 6, 0, 6, 0, 1, 0, 1, 0, 1, 0, 1, 0, 1, 0, 1, 0, 1, 0, 1, 0, 0, 0, 0, 0, 0, 0, 0, 0, 0, 0, 0, 0, 0, 0, 0, 0, 0, 0, 0, 0, 0, 0, 0, 1024, 0] := by kernel_rfl
            rw [e] at h
            exact h)
          clear hb HUw15 HRw15 HSw15 HBw15
          clear y28 z28 y29 z29
          go_wp2_with fail
          refine (RMeasure_zero _ _).mono ?_; rintro e w17 ⟨rfl, hb⟩
          have HUw17 := Lib.hid ((HUw16.out.alloc _).then_ hb)
          have HRw17 := Lib.hid ((HRw16.out.alloc _).then_ hb)
          have HBw17 := Lib.hid (below_then (below_alloc HBw16.out _) hb)
          have HSw17 := Lib.hid ((HSw16.out.alloc _).then_ hb)
          clear hb HUw16 HRw16 HSw16 HBw16
          have y33 : w17.cell? ⟨w2.heap.size, 33, none⟩ = some (.int .i64 0) := HSw17.out.cell 33
          have z33 : w17.frozen? ⟨w2.heap.size, 33, none⟩ = false := HSw17.out.frozen 33
          go_wp2_with fail
          refine (RLeast_zero _).mono ?_; rintro e w' ⟨rfl, rfl⟩
          go_wp2_with fail
          go_roundw
          case rel =>
            have hs := (HSw17.out.put 33 (.int .i64 0))
            have e : ((sty [0, 0, 0, 0, 0, 0, 0, 0, 0, 0, 6, 0, 6, 0, 1, 0, 1, 0, 1, 0, 1, 0, 1, 0, 1, 0, 1, 0, 1, 0, 0, 0, 0, 0, 0, 0, 0, 0, 0, 0, 0, 0, 0, 0, 0, 0, 0, 0, 0, 0, 0, 0, 0, 1024, 0]).setIfInBounds 33 (.int .i64 0)) = sty (stL 4) := by kernel_rfl
            rw [e] at hs
            exact ⟨4, by omega, by go_num, (HUw17.out.far hne _), (HRw17.out.far hne1 _), hs, (below_set HBw17.out hle _)⟩
          case measure => (simp [intOf]; try omega)

end Go.Proofs.Ytdddlnemlpgnlaa
