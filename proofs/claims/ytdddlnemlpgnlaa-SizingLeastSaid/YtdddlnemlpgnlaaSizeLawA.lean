/- Sizing: a case as the document's. -/
import Derived.Test.YtdddlnemlpgnlaaSizeKnG
namespace Go.Proofs.Ytdddlnemlpgnlaa
open Go.RowKit
set_option linter.unusedSimpArgs false
set_option linter.unusedVariables false
attribute [local go_sem] cell?_ext frozen?_ext lt_size_ext

def Cs.styC (c : Cs) : Array Value := #[.int .i64 (c.n 0), .bool c.b, .int .i64 (c.n 2), .int .i64 (c.n 3), .int .i64 (c.n 4), .int .i64 (c.n 5), .int .i64 (c.n 6), .int .i64 (c.n 7), .int .i64 (c.n 8), .int .i64 (c.n 9), .int .i64 (c.n 10), .int .i64 (c.n 11), .int .i64 (c.n 12), .int .i64 (c.n 13), .int .i64 (c.n 14), .int .i64 (c.n 15), .int .i64 (c.n 16), .int .i64 (c.n 17), .int .i64 (c.n 18), .int .i64 (c.n 19), .int .i64 (c.n 20), .int .i64 (c.n 21), .int .i64 (c.n 22), .int .i64 (c.n 23), .int .i64 (c.n 24), .int .i64 (c.n 25), .int .i64 (c.n 26), .int .i64 (c.n 27), .int .i64 (c.n 28), .int .i64 (c.n 29), .int .i64 (c.n 30), .int .i64 (c.n 31), .int .i64 (c.n 32), .int .i64 (c.n 33), .int .i64 (c.n 34), .int .i64 (c.n 35), .int .i64 (c.n 36), .int .i64 (c.n 37), .int .i64 (c.n 38), .int .i64 (c.n 39), .int .i64 (c.n 40), .int .i64 (c.n 41), .int .i64 (c.n 42), .int .i64 (c.n 43), .int .i64 (c.n 44), .int .i64 (c.n 45), .int .i64 (c.n 46), .int .i64 (c.n 47), .int .i64 (c.n 48), .int .i64 (c.n 49), .int .i64 (c.n 50), .int .i64 (c.n 51), c.s, .int .i64 (c.n 53), .int .i64 (c.n 54)]
theorem Cs.cells_split (c : Cs) : c.cells.toList = c.styC.toList ++ [.int .i64 (c.n 55), .int .i64 (c.n 56), .int .i64 (c.n 57), .int .i64 (c.n 58)] := rfl
theorem Cs.range_sty {c : Cs} {w : World} {g : Nat} {t : TypeId} (h : Blk w g t c.cells) : w.rangeAt g 0 c.styC.toList := fun j u hu => by
  have h1 := h.range j u (by rw [c.cells_split, List.getElem?_append_left (List.getElem?_eq_some_iff.1 hu).1]; exact hu)
  exact h1
theorem Cs.cells_one {c : Cs} (hs : c.s.oneCell' = true) : c.cells.all (·.oneCell') = true := by
  have h1 : ∀ n, (Value.int .i64 n).oneCell' = true := fun _ => rfl
  have h2 : ∀ b, (Value.bool b).oneCell' = true := fun _ => rfl
  simp [Cs.cells, h1, h2, hs]
def noCs : Cs := ⟨fun _ => 0, false, .string { data := #[] }⟩

set_option maxRecDepth 20000 in
set_option maxHeartbeats 4000000 in
theorem of_any (c : Cs) (hs : c.s.oneCell' = true) (w : World) : Calls Try.prog 11 #[.agg c.cells] w fun e w' => e = .returned (.agg c.cells) ∧ Below w.heap.size w w' := by
  go_enter Try.func11, Try.ntmps11
  go_upto_region 1 with fail
  refine at_any (fun wx => Blk wx w.heap.size 29 c.cells ∧ Blk wx (w.heap.size + 1) 36 noCs.cells ∧ Below w.heap.size w wx) ⟨(Blk.new _ _ _).alloc _, Blk.new_at (by simp), below_alloc (below_alloc (Below.refl _ _) _) _⟩ ?_
  rintro wx ⟨hbk, hbr, hb⟩
  have x55 : wx.cell? ⟨w.heap.size, 55, none⟩ = some (.int .i64 (c.n 55)) := hbk.cell 55
  have x56 : wx.cell? ⟨w.heap.size, 56, none⟩ = some (.int .i64 (c.n 56)) := hbk.cell 56
  have x57 : wx.cell? ⟨w.heap.size, 57, none⟩ = some (.int .i64 (c.n 57)) := hbk.cell 57
  have x58 : wx.cell? ⟨w.heap.size, 58, none⟩ = some (.int .i64 (c.n 58)) := hbk.cell 58
  have hsz : c.cells.size = noCs.cells.size := rfl
  have hr2 := hbr.setCells_all c.cells hsz
  have hb2 := below_setCells (g := w.heap.size + 1) (by omega) c.cells.toList 0 _ hb
  have HR := Lib.hid hbr
  have HR2 := Lib.hid hr2
  have HB2 := Lib.hid hb2
  have HST := Lib.hid (Cs.range_sty hbk)
  have HC1 := Lib.hid (Cs.cells_one hs)
  clear hbk hbr hb hr2 hb2 hs hsz
  go_wp2_with (first
    | (refine wpList_load_mid rfl 27 (.tmp 3) rfl w.heap.size 0 rfl c.styC.toList _ HST.out Try.underlying27 rfl (by kernel_rfl) ?_; simp only [Act.put, List.setIfInBounds_toArray, List.set_cons_zero, List.set_cons_succ])
    | (refine wpList_build_to rfl 36 #[(0, .tmp 4), (1, .tmp 6), (2, .tmp 8), (3, .tmp 10), (4, .tmp 12)] rfl c.cells (by kernel_rfl) ?_; simp only [Act.put, List.setIfInBounds_toArray, List.set_cons_zero, List.set_cons_succ])
    | (refine wpList_store_mid rfl 36 (.tmp 2) (.tmp 13) rfl (w.heap.size + 1) 0 c.cells rfl rfl (HR.out.there (Nat.le_of_eq rfl)) (by kernel_rfl) HC1.out ?_))
  exact bodyPost_ret (v := .agg c.cells) (results_cell rfl rfl HR2.out Try.underlying36 rfl (by kernel_rfl)) rfl ⟨rfl, HB2.out⟩

end Go.Proofs.Ytdddlnemlpgnlaa
