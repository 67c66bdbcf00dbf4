/- Sizing: the program's Of: the frame of a case. -/
import Derived.Test.YtdddlnemlpgnlaaSizePBox
import Derived.Deep.RegionHeld3
namespace Go.Proofs.Ytdddlnemlpgnlaa
open Go.RowKit
set_option linter.unusedSimpArgs false
set_option linter.unusedVariables false
attribute [local go_sem] cell?_ext frozen?_ext lt_size_ext

def Cs.cells (c : Cs) : Array Value := #[.int .i64 (c.n 0), .bool c.b, .int .i64 (c.n 2), .int .i64 (c.n 3), .int .i64 (c.n 4), .int .i64 (c.n 5), .int .i64 (c.n 6), .int .i64 (c.n 7), .int .i64 (c.n 8), .int .i64 (c.n 9), .int .i64 (c.n 10), .int .i64 (c.n 11), .int .i64 (c.n 12), .int .i64 (c.n 13), .int .i64 (c.n 14), .int .i64 (c.n 15), .int .i64 (c.n 16), .int .i64 (c.n 17), .int .i64 (c.n 18), .int .i64 (c.n 19), .int .i64 (c.n 20), .int .i64 (c.n 21), .int .i64 (c.n 22), .int .i64 (c.n 23), .int .i64 (c.n 24), .int .i64 (c.n 25), .int .i64 (c.n 26), .int .i64 (c.n 27), .int .i64 (c.n 28), .int .i64 (c.n 29), .int .i64 (c.n 30), .int .i64 (c.n 31), .int .i64 (c.n 32), .int .i64 (c.n 33), .int .i64 (c.n 34), .int .i64 (c.n 35), .int .i64 (c.n 36), .int .i64 (c.n 37), .int .i64 (c.n 38), .int .i64 (c.n 39), .int .i64 (c.n 40), .int .i64 (c.n 41), .int .i64 (c.n 42), .int .i64 (c.n 43), .int .i64 (c.n 44), .int .i64 (c.n 45), .int .i64 (c.n 46), .int .i64 (c.n 47), .int .i64 (c.n 48), .int .i64 (c.n 49), .int .i64 (c.n 50), .int .i64 (c.n 51), c.s, .int .i64 (c.n 53), .int .i64 (c.n 54), .int .i64 (c.n 55), .int .i64 (c.n 56), .int .i64 (c.n 57), .int .i64 (c.n 58)]
theorem Cs.val_eq (c : Cs) : c.val = .agg c.cells := rfl
theorem Blk.range {w : World} {g : Nat} {t : TypeId} {cs : Array Value} (h : Blk w g t cs) : w.rangeAt g 0 cs.toList := fun j u hu => by rw [Nat.zero_add, h.cell j]; simpa using hu
theorem Blk.new_at {w : World} {t : TypeId} {cs : Array Value} {g : Nat} (h : w.heap.size = g) : Blk (w.alloc (.cells cs t)) g t cs := h ▸ Blk.new w t cs
theorem Blk.there {w : World} {g : Nat} {t : TypeId} {cs : Array Value} (h : Blk w g t cs) {n : Nat} (hn : n ≤ cs.size) : w.there g 0 n := fun j hj => by
  rw [Nat.zero_add, h.cell j]
  exact ⟨by simp; omega, h.frozen j⟩
theorem below_setCells {n : Nat} {w : World} {g : Nat} (hg : n ≤ g) : ∀ (vs : List Value) (o : Nat) (w' : World), Below n w w' → Below n w (w'.setCells g o vs)
  | [], _, _, h => h
  | v :: r, o, w', h => below_setCells hg r (o + 1) _ (h.setCell hg v)
/-- A function whose one result is a struct's variable that fills its block. -/
theorem results_cell {fn : Func} {tmps : Array Value} {w : World} {s : Nat} {t t' : TypeId} {g : Nat} {cs : Array Value} {d : TypeDesc} (hf : fn.results = #[.cell s t]) (hp : tmps.getD s undef = .pointer (some ⟨g, 0, none⟩)) (hb : Blk w g t' cs)
    (hu : Try.prog.underlying t = some d) (hd : d.isRow = true) (hi : (Try.prog.info? t).map (·.size) = some cs.size) : (results fn tmps).run Try.prog w = .ok (.agg cs) w := by
  have h1 := run_loadVar_mid (P := Try.prog) w g 0 t cs.toList d hb.range hu hd (by simpa using hi)
  rw [Array.toArray_toList] at h1
  unfold results
  rw [hf]
  have hp' : tmps[s]?.getD undef = .pointer (some ⟨g, 0, none⟩) := by simpa using hp
  simpa [hp', asAddr, go_sem] using h1
theorem Blk.setCells_from {g : Nat} {t : TypeId} : ∀ (vs pre suf : List Value) (w : World), suf.length = vs.length → Blk w g t (pre ++ suf).toArray → Blk (w.setCells g pre.length vs) g t (pre ++ vs).toArray
  | [], pre, suf, w, hl, h => by
    obtain rfl : suf = [] := List.length_eq_zero_iff.1 hl
    exact h
  | v :: r, pre, suf, w, hl, h => by
    match suf, hl, h with
    | s :: suf, hl, h =>
      have h1 := h.put pre.length v
      have e : ((pre ++ s :: suf).toArray.setIfInBounds pre.length v) = ((pre ++ [v]) ++ suf).toArray := by simp
      rw [e] at h1
      have h2 := Blk.setCells_from r (pre ++ [v]) suf _ (by simpa using hl) h1
      simpa [World.setCells] using h2
theorem Blk.setCells_all {w : World} {g : Nat} {t : TypeId} {cs : Array Value} (h : Blk w g t cs) (vs : Array Value) (hl : vs.size = cs.size) : Blk (w.setCells g 0 vs.toList) g t vs := by
  have := Blk.setCells_from vs.toList [] cs.toList w (by simpa using hl.symm) (by simpa using h)
  simpa using this
/-- The frame behind k rounds; the whole frame. -/
def Cs.fr (c : Cs) (k : Nat) : Array Value := #[.int .i64 (if 0 < k then c.mar 0 else 0), .int .i64 (if 1 < k then c.mar 1 else 0), .int .i64 (if 2 < k then c.mar 2 else 0), .int .i64 (if 3 < k then c.mar 3 else 0), .bool (if 0 < k then decide (c.n 14 = 0) else false), .bool (if 1 < k then decide (c.n 16 = 0) else false), .bool (if 2 < k then decide (c.n 18 = 0) else false), .bool (if 3 < k then decide (c.n 20 = 0) else false), .int .i64 (if 0 < k then c.pad 0 else 0), .int .i64 (if 1 < k then c.pad 1 else 0), .int .i64 (if 2 < k then c.pad 2 else 0), .int .i64 (if 3 < k then c.pad 3 else 0), .int .i64 (if 0 < k then c.edg 0 else 0), .int .i64 (if 1 < k then c.edg 1 else 0), .int .i64 (if 2 < k then c.edg 2 else 0), .int .i64 (if 3 < k then c.edg 3 else 0)]
def Cs.frame (c : Cs) : Array Value := #[.int .i64 (c.mar 0), .int .i64 (c.mar 1), .int .i64 (c.mar 2), .int .i64 (c.mar 3), .bool (decide (c.n 14 = 0)), .bool (decide (c.n 16 = 0)), .bool (decide (c.n 18 = 0)), .bool (decide (c.n 20 = 0)), .int .i64 (c.pad 0), .int .i64 (c.pad 1), .int .i64 (c.pad 2), .int .i64 (c.pad 3), .int .i64 (c.edg 0), .int .i64 (c.edg 1), .int .i64 (c.edg 2), .int .i64 (c.edg 3)]
theorem Cs.fr_four (c : Cs) : c.fr 4 = c.frame := by simp [Cs.fr, Cs.frame]

set_option maxRecDepth 20000 in
set_option maxHeartbeats 16000000 in
theorem Of_any (c : Cs) (w : World) : Calls Try.prog 9 #[c.val] w fun e w' => e = .returned (.agg c.frame) ∧ Below w.heap.size w w' := by
  rw [c.val_eq]
  go_enter Try.func9, Try.ntmps9
  go_upto_region 4 with fail
  go_loopw [6] (fun v6 wr => ∃ k : Nat, k ≤ 4 ∧ v6 = .int .i64 k ∧ Blk wr w.heap.size 29 c.cells ∧ Blk wr (w.heap.size + 1) 32 (c.fr 0) ∧ Blk wr (w.heap.size + 2) 32 (c.fr k) ∧ Below w.heap.size w wr) (fun v6 _ => 4 - (intOf v6).toNat)
  case atStart => exact ⟨0, by omega, rfl, ((Blk.new_at rfl).alloc _).alloc _, (Blk.new_at (by simp)).alloc _, Blk.new_at (by simp), below_alloc (below_alloc (below_alloc (Below.refl _ _) _) _) _⟩
  case round =>
    obtain ⟨k, hk, rfl, hc, hr, hf, hb⟩ := hrel
    have h4 : k = 4 ∨ k < 4 := by omega
    rcases h4 with rfl | h4
    · rw [c.fr_four] at hf
      have HR := Lib.hid hr
      have HF := Lib.hid hf
      have HB := Lib.hid hb
      clear hc hr hf hb
      go_upto_region 10 with fail
      refine wp_region_list ?_
      refine wpList_load_whole rfl 32 (.tmp 3) rfl (w.heap.size + 2) rfl HF.out Try.underlying32 rfl (by kernel_rfl) ?_
      refine wpList_store_mid rfl 32 (.tmp 2) (.tmp 53) rfl (w.heap.size + 1) 0 c.frame rfl rfl (HR.out.there (by simp [Cs.fr, Cs.frame])) (by kernel_rfl) (by simp [Cs.frame, Value.oneCell']) ?_
      go_wp2_with fail
      have hbk : Blk (wr.setCells (w.heap.size + 1) 0 c.frame.toList) (w.heap.size + 1) 32 c.frame := HR.out.setCells_all c.frame (by simp [Cs.fr, Cs.frame])
      exact bodyPost_ret (v := .agg c.frame) (results_cell rfl rfl hbk Try.underlying32 rfl (by kernel_rfl)) rfl ⟨rfl, below_setCells (by omega) _ _ _ HB.out⟩
    · have hedge : ∀ k n w, Calls Try.prog 32 #[.agg c.cells, .agg #[.int .i64 k, .int .i64 n]] w fun e w' => e = .returned (.int .i64 (sideF k n (c.n 55))) ∧ Below w.heap.size w w' := edge_any c
      rcases (show k = 0 ∨ k = 1 ∨ k = 2 ∨ k = 3 by omega) with rfl | rfl | rfl | rfl
      · have x1 : wr.cell? ⟨w.heap.size, 14, none⟩ = some (.int .i64 (c.n 14)) := hc.cell 14
        have x2 : wr.cell? ⟨w.heap.size, 15, none⟩ = some (.int .i64 (c.n 15)) := hc.cell 15
        have HC := Lib.hid hc
        have HR := Lib.hid hr
        have HF := Lib.hid hf
        have HB := Lib.hid hb
        clear hc hr hf hb
        go_upto_region 6 with fail
        refine wp_region_held_drew (S := fun w' => Blk w' w.heap.size 29 c.cells ∧ w'.cell? ⟨w.heap.size, 14, none⟩ = some (.int .i64 (c.n 14)) ∧ w'.cell? ⟨w.heap.size, 15, none⟩ = some (.int .i64 (c.n 15))) (by kernel_rfl) ⟨HC.out.drew, x1, x2⟩ (fun hHeld => ?_)
        refine wpAnyH_take (i := 0) (v := ?_) (by simp only [List.getElem?_toArray, List.getElem?_cons_zero, List.getElem?_cons_succ]; exact rfl) (by kernel_rfl) (by kernel_rfl) (by kernel_rfl) (by exact fun _ _ _ h => h) (Or.inl ⟨by rfl, ?_⟩) (by assumption) ?_
        rotate_left 1
        · (intro w hSw; obtain ⟨sb, s0, s1⟩ := hSw; go_simp; first | done | with_reducible rfl)
        simp only [Act.put, List.setIfInBounds_toArray, List.set_cons_zero, List.set_cons_succ]
        refine wpAnyH_take (i := 1) (v := ?_) (by simp only [List.getElem?_toArray, List.getElem?_cons_zero, List.getElem?_cons_succ]; exact rfl) (by kernel_rfl) (by kernel_rfl) (by kernel_rfl) (by exact fun _ _ _ h => h) (Or.inl ⟨by rfl, ?_⟩) (by assumption) ?_
        rotate_left 1
        · (intro w hSw; obtain ⟨sb, s0, s1⟩ := hSw; go_simp; first | done | with_reducible rfl)
        simp only [Act.put, List.setIfInBounds_toArray, List.set_cons_zero, List.set_cons_succ]
        refine wpAnyH_take (i := 2) (v := ?_) (by simp only [List.getElem?_toArray, List.getElem?_cons_zero, List.getElem?_cons_succ]; exact rfl) (by kernel_rfl) (by kernel_rfl) (by kernel_rfl) (by exact fun _ _ _ h => h) (Or.inl ⟨by rfl, ?_⟩) (by assumption) ?_
        rotate_left 1
        · (intro w hSw; obtain ⟨sb, s0, s1⟩ := hSw; go_simp; first | done | with_reducible rfl)
        simp only [Act.put, List.setIfInBounds_toArray, List.set_cons_zero, List.set_cons_succ]
        refine wpAnyH_take (i := 3) (v := _) (by simp only [List.getElem?_toArray, List.getElem?_cons_zero, List.getElem?_cons_succ]; exact rfl) (by kernel_rfl) (by kernel_rfl) (by kernel_rfl) (by exact fun _ _ _ h => h)
          (yieldsIf_load_mid (by rfl) 29 (.tmp 1) rfl w.heap.size 0 rfl c.cells.toList _ (fun w hSw => hSw.1.range) Try.underlying29 rfl (by kernel_rfl)) (by assumption) ?_
        simp only [Act.put, List.setIfInBounds_toArray, List.set_cons_zero, List.set_cons_succ, Array.toArray_toList]
        refine wpAnyH_take (i := 4) (v := ?_) (by simp only [List.getElem?_toArray, List.getElem?_cons_zero, List.getElem?_cons_succ]; exact rfl) (by kernel_rfl) (by kernel_rfl) (by kernel_rfl) (by exact fun _ _ _ h => h) (Or.inl ⟨by rfl, ?_⟩) (by assumption) ?_
        rotate_left 1
        · (intro w hSw; obtain ⟨sb, s0, s1⟩ := hSw; go_simp; first | done | with_reducible rfl)
        simp only [Act.put, List.setIfInBounds_toArray, List.set_cons_zero, List.set_cons_succ]
        refine wpAnyH_take (i := 5) (v := ?_) (by simp only [List.getElem?_toArray, List.getElem?_cons_zero, List.getElem?_cons_succ]; exact rfl) (by kernel_rfl) (by kernel_rfl) (by kernel_rfl) (by exact fun _ _ _ h => h) (Or.inl ⟨by rfl, ?_⟩) (by assumption) ?_
        rotate_left 1
        · (intro w hSw; obtain ⟨sb, s0, s1⟩ := hSw; go_simp; first | done | with_reducible rfl)
        simp only [Act.put, List.setIfInBounds_toArray, List.set_cons_zero, List.set_cons_succ]
        refine wpAnyH_take (i := 6) (v := ?_) (by simp only [List.getElem?_toArray, List.getElem?_cons_zero, List.getElem?_cons_succ]; exact rfl) (by kernel_rfl) (by kernel_rfl) (by kernel_rfl) (by exact fun _ _ _ h => h) (Or.inl ⟨by rfl, ?_⟩) (by assumption) ?_
        rotate_left 1
        · (intro w hSw; obtain ⟨sb, s0, s1⟩ := hSw; go_simp; first | done | with_reducible rfl)
        simp only [Act.put, List.setIfInBounds_toArray, List.set_cons_zero, List.set_cons_succ]
        refine wpAnyH_take (i := 7) (v := ?_) (by simp only [List.getElem?_toArray, List.getElem?_cons_zero, List.getElem?_cons_succ]; exact rfl) (by kernel_rfl) (by kernel_rfl) (by kernel_rfl) (by exact fun _ _ _ h => h) (Or.inl ⟨by rfl, ?_⟩) (by assumption) ?_
        rotate_left 1
        · (intro w hSw; obtain ⟨sb, s0, s1⟩ := hSw; go_simp; first | done | with_reducible rfl)
        simp only [Act.put, List.setIfInBounds_toArray, List.set_cons_zero, List.set_cons_succ]
        refine wpAnyH_take (i := 8) (v := ?_) (by simp only [List.getElem?_toArray, List.getElem?_cons_zero, List.getElem?_cons_succ]; exact rfl) (by kernel_rfl) (by kernel_rfl) (by kernel_rfl) (by exact fun _ _ _ h => h) (Or.inl ⟨by rfl, ?_⟩) (by assumption) ?_
        rotate_left 1
        · (intro w hSw; obtain ⟨sb, s0, s1⟩ := hSw; go_simp; first | done | with_reducible rfl)
        simp only [Act.put, List.setIfInBounds_toArray, List.set_cons_zero, List.set_cons_succ]
        refine wpAnyH_take (i := 10) (v := ?_) (by simp only [List.getElem?_toArray, List.getElem?_cons_zero, List.getElem?_cons_succ]; exact rfl) (by kernel_rfl) (by kernel_rfl) (by kernel_rfl) (by exact fun _ _ _ h => h) (Or.inl ⟨by rfl, ?_⟩) (by assumption) ?_
        rotate_left 1
        · (intro w hSw; obtain ⟨sb, s0, s1⟩ := hSw; go_simp; first | done | with_reducible rfl)
        simp only [Act.put, List.setIfInBounds_toArray, List.set_cons_zero, List.set_cons_succ]
        refine wpAnyH_take (i := 11) (v := ?_) (by simp only [List.getElem?_toArray, List.getElem?_cons_zero, List.getElem?_cons_succ]; exact rfl) (by kernel_rfl) (by kernel_rfl) (by kernel_rfl) (by exact fun _ _ _ h => h) (Or.inl ⟨by rfl, ?_⟩) (by assumption) ?_
        rotate_left 1
        · (intro w hSw; obtain ⟨sb, s0, s1⟩ := hSw; go_simp; first | done | with_reducible rfl)
        simp only [Act.put, List.setIfInBounds_toArray, List.set_cons_zero, List.set_cons_succ]
        refine wpAnyH_take (i := 12) (v := ?_) (by simp only [List.getElem?_toArray, List.getElem?_cons_zero, List.getElem?_cons_succ]; exact rfl) (by kernel_rfl) (by kernel_rfl) (by kernel_rfl) (by exact fun _ _ _ h => h) (Or.inl ⟨by rfl, ?_⟩) (by assumption) ?_
        rotate_left 1
        · (intro w hSw; obtain ⟨sb, s0, s1⟩ := hSw; go_simp; first | done | with_reducible rfl)
        simp only [Act.put, List.setIfInBounds_toArray, List.set_cons_zero, List.set_cons_succ]
        refine wpAnyH_take (i := 13) (v := ?_) (by simp only [List.getElem?_toArray, List.getElem?_cons_zero, List.getElem?_cons_succ]; exact rfl) (by kernel_rfl) (by kernel_rfl) (by kernel_rfl) (by exact fun _ _ _ h => h) (Or.inl ⟨by rfl, ?_⟩) (by assumption) ?_
        rotate_left 1
        · (intro w hSw; obtain ⟨sb, s0, s1⟩ := hSw; go_simp; first | done | with_reducible rfl)
        simp only [Act.put, List.setIfInBounds_toArray, List.set_cons_zero, List.set_cons_succ]
        refine wpAnyH_take (i := 14) (v := ?_) (by simp only [List.getElem?_toArray, List.getElem?_cons_zero, List.getElem?_cons_succ]; exact rfl) (by kernel_rfl) (by kernel_rfl) (by kernel_rfl) (by exact fun _ _ _ h => h) (Or.inl ⟨by rfl, ?_⟩) (by assumption) ?_
        rotate_left 1
        · (intro w hSw; obtain ⟨sb, s0, s1⟩ := hSw; go_simp; first | done | with_reducible rfl)
        simp only [Act.put, List.setIfInBounds_toArray, List.set_cons_zero, List.set_cons_succ]
        refine wpAnyH_take (i := 15) (v := ?_) (by simp only [List.getElem?_toArray, List.getElem?_cons_zero, List.getElem?_cons_succ]; exact rfl) (by kernel_rfl) (by kernel_rfl) (by kernel_rfl) (by exact fun _ _ _ h => h) (Or.inl ⟨by rfl, ?_⟩) (by assumption) ?_
        rotate_left 1
        · (intro w hSw; obtain ⟨sb, s0, s1⟩ := hSw; go_simp; first | done | with_reducible rfl)
        simp only [Act.put, List.setIfInBounds_toArray, List.set_cons_zero, List.set_cons_succ]
        refine wpAnyH_take (i := 16) (v := ?_) (by simp only [List.getElem?_toArray, List.getElem?_cons_zero, List.getElem?_cons_succ]; exact rfl) (by kernel_rfl) (by kernel_rfl) (by kernel_rfl) (by exact fun _ _ _ h => h) (Or.inl ⟨by rfl, ?_⟩) (by assumption) ?_
        rotate_left 1
        · (intro w hSw; obtain ⟨sb, s0, s1⟩ := hSw; go_simp; first | done | with_reducible rfl)
        simp only [Act.put, List.setIfInBounds_toArray, List.set_cons_zero, List.set_cons_succ]
        refine wpAnyH_take (i := 17) (v := ?_) (by simp only [List.getElem?_toArray, List.getElem?_cons_zero, List.getElem?_cons_succ]; exact rfl) (by kernel_rfl) (by kernel_rfl) (by kernel_rfl) (by exact fun _ _ _ h => h) (Or.inl ⟨by rfl, ?_⟩) (by assumption) ?_
        rotate_left 1
        · (intro w hSw; obtain ⟨sb, s0, s1⟩ := hSw; go_simp; first | done | with_reducible rfl)
        simp only [Act.put, List.setIfInBounds_toArray, List.set_cons_zero, List.set_cons_succ]
        refine wpAnyH_take (i := 20) (v := ?_) (by simp only [List.getElem?_toArray, List.getElem?_cons_zero, List.getElem?_cons_succ]; exact rfl) (by kernel_rfl) (by kernel_rfl) (by kernel_rfl) (by exact fun _ _ _ h => h) (Or.inl ⟨by rfl, ?_⟩) (by assumption) ?_
        rotate_left 1
        · (intro w hSw; obtain ⟨sb, s0, s1⟩ := hSw; go_simp; first | done | with_reducible rfl)
        simp only [Act.put, List.setIfInBounds_toArray, List.set_cons_zero, List.set_cons_succ]
        refine wpAnyH_ready (rs := [9]) (by kernel_rfl) (by simp) ?_
        refine AllReadyH.cons (by simp only [List.getElem?_toArray, List.getElem?_cons_zero, List.getElem?_cons_succ]; exact rfl) (fun K hK => ?_) AllReadyH.nil
        go_simp
        go_at_call 32
        refine (hedge _ _ _).mono ?_; rintro e w2 ⟨rfl, hb2⟩
        go_simp
        refine hK.out _ _ ?_ (fun hHeld => ?_)
        · exact ⟨hHeld.1.then_ hb2, (hb2.cell hHeld.1.lt).trans hHeld.2.1, (hb2.cell hHeld.1.lt).trans hHeld.2.2⟩
        clear hK K
        try simp only [Act.put, List.setIfInBounds_toArray, List.set_cons_zero, List.set_cons_succ]
        have hf2 := (HF.out.drew).then_ hb2
        have y1 : w2.cell? ⟨w.heap.size + 2, 0, none⟩ = some (.int .i64 0) := hf2.cell 0
        have y2 : w2.cell? ⟨w.heap.size + 2, 4, none⟩ = some (.bool false) := hf2.cell 4
        have z1 : w2.frozen? ⟨w.heap.size + 2, 0, none⟩ = false := hf2.frozen 0
        have z2 : w2.frozen? ⟨w.heap.size + 2, 4, none⟩ = false := hf2.frozen 4
        have HF2 := Lib.hid hf2
        have HR2 := Lib.hid ((HR.out.drew).then_ hb2)
        have HB2 := Lib.hid (below_then (HB.out.drew) hb2)
        clear hf2 hb2
        refine wpAnyH_take (i := 18) (v := ?_) (by simp only [List.getElem?_toArray, List.getElem?_cons_zero, List.getElem?_cons_succ]; exact rfl) (by kernel_rfl) (by kernel_rfl) (by kernel_rfl) (by exact fun _ _ _ h => h) (Or.inl ⟨by rfl, ?_⟩) (by assumption) ?_
        rotate_left 1
        · (intro w hSw; obtain ⟨sb, s0, s1⟩ := hSw; go_simp; first | done | with_reducible rfl)
        simp only [Act.put, List.setIfInBounds_toArray, List.set_cons_zero, List.set_cons_succ]
        refine wpAnyH_ready (rs := [19]) (by kernel_rfl) (by simp) ?_
        refine AllReadyH.cons (by simp only [List.getElem?_toArray, List.getElem?_cons_zero, List.getElem?_cons_succ]; exact rfl) (fun K hK => ?_) AllReadyH.nil
        go_simp
        refine hK.out _ _ ?_ (fun hHeld => ?_)
        · exact ⟨hHeld.1.far (by show w.heap.size ≠ w.heap.size + 1 + 1; omega) _, (World.cell?_setCell_other _ _ _ _ (by simp)).trans hHeld.2.1, (World.cell?_setCell_other _ _ _ _ (by simp)).trans hHeld.2.2⟩
        clear hK K
        try simp only [Act.put, List.setIfInBounds_toArray, List.set_cons_zero, List.set_cons_succ]
        refine wpAnyH_take (i := 21) (v := ?_) (by simp only [List.getElem?_toArray, List.getElem?_cons_zero, List.getElem?_cons_succ]; exact rfl) (by kernel_rfl) (by kernel_rfl) (by kernel_rfl) (by exact fun _ _ _ h => h) (Or.inl ⟨by rfl, ?_⟩) (by assumption) ?_
        rotate_left 1
        · (intro w hSw; obtain ⟨sb, s0, s1⟩ := hSw; go_simp; first | done | with_reducible rfl)
        simp only [Act.put, List.setIfInBounds_toArray, List.set_cons_zero, List.set_cons_succ]
        refine wpAnyH_ready (rs := [22]) (by kernel_rfl) (by simp) ?_
        refine AllReadyH.cons (by simp only [List.getElem?_toArray, List.getElem?_cons_zero, List.getElem?_cons_succ]; exact rfl) (fun K hK => ?_) AllReadyH.nil
        go_simp
        refine hK.out _ _ ?_ (fun hHeld => ?_)
        · exact ⟨hHeld.1.far (by show w.heap.size ≠ w.heap.size + 1 + 1; omega) _, (World.cell?_setCell_other _ _ _ _ (by simp)).trans hHeld.2.1, (World.cell?_setCell_other _ _ _ _ (by simp)).trans hHeld.2.2⟩
        clear hK K
        try simp only [Act.put, List.setIfInBounds_toArray, List.set_cons_zero, List.set_cons_succ]
        refine wpAnyH_done (by kernel_rfl) ?_ _
        go_upto_region 7 with fail
        refine at_any (fun wx => Blk wx w.heap.size 29 c.cells ∧ Blk wx (w.heap.size + 1) 32 (c.fr 0) ∧ Blk wx (w.heap.size + 1 + 1) 32 (((c.fr 0).setIfInBounds 0 (.int .i64 (c.mar 0))).setIfInBounds 4 (.bool (decide (c.n 14 = 0)))) ∧ Below w.heap.size w wx)
          ⟨hHeld.1, ((HR2.out.far (by show w.heap.size + 1 ≠ w.heap.size + 1 + 1; omega) _).far (by show w.heap.size + 1 ≠ w.heap.size + 1 + 1; omega) _), (HF2.out.put 0 _).put 4 _, below_set (below_set HB2.out (by show w.heap.size ≤ w.heap.size + 1 + 1; omega) _) (by show w.heap.size ≤ w.heap.size + 1 + 1; omega) _⟩ ?_
        clear hHeld HR2 HF2 HB2 HR HF HC HB x1 x2 y1 y2 z1 z2
        rintro wx ⟨hc, hr, hf, hb⟩
        have x1 : wx.cell? ⟨w.heap.size, 22, none⟩ = some (.int .i64 (c.n 22)) := hc.cell 22
        have x2 : wx.cell? ⟨w.heap.size, 23, none⟩ = some (.int .i64 (c.n 23)) := hc.cell 23
        have xl := hc.lt
        have HC := Lib.hid hc
        have HR := Lib.hid hr
        have HF := Lib.hid hf
        have HB := Lib.hid hb
        have HP : Hid (c.pad 0 = max (sideF (c.n 22) (c.n 23) (c.n 55)) 0) := Lib.hid rfl
        have HD : Hid (c.edg 0 = max (hold (c.n 30)) 0) := Lib.hid rfl
        have hed : ∀ w, Calls Try.prog 32 #[.agg c.cells, .agg #[.int .i64 (c.n 22), .int .i64 (c.n 23)]] w fun e w' => e = .returned (.int .i64 (sideF (c.n 22) (c.n 23) (c.n 55))) ∧ Below w.heap.size w w' := fun w => hedge _ _ w
        generalize sideF (c.n 22) (c.n 23) (c.n 55) = sd at *
        clear hc hr hf hb hedge
        refine wp_region_ext_tail 12 (by kernel_rfl) (by kernel_rfl) ?_
        simp only [List.take_succ_cons, List.take_zero, List.drop_succ_cons, List.drop_zero]
        by_cases hsd : sd < 0
        all_goals
          repeat (first
            | (refine wpQuiet_load_whole (by simp [Region.wanted]) 29 (.tmp 1) rfl w.heap.size rfl HC.out Try.underlying29 rfl (by kernel_rfl) ?_
               simp only [Act.put, List.setIfInBounds_toArray, List.set_cons_zero, List.set_cons_succ])
            | (go_big_quiet_step ((go_at_call 32; exact quiet_ext (hed _)))))
          refine wpQuiet_nil ?_
          intro w3 hw3
          have hb3 := (grown_rules hw3).2.2.2
          have hc3 := HC.out.then_ hb3
          have hf3 := HF.out.then_ hb3
          have x3 : w3.cell? ⟨w.heap.size, 30, none⟩ = some (.int .i64 (c.n 30)) := hc3.cell 30
          have y1 : w3.cell? ⟨w.heap.size + 1 + 1, 8, none⟩ = some (.int .i64 0) := hf3.cell 8
          have y2 : w3.cell? ⟨w.heap.size + 1 + 1, 12, none⟩ = some (.int .i64 0) := hf3.cell 12
          have z1 : w3.frozen? ⟨w.heap.size + 1 + 1, 8, none⟩ = false := hf3.frozen 8
          have z2 : w3.frozen? ⟨w.heap.size + 1 + 1, 12, none⟩ = false := hf3.frozen 12
          have HC3 := Lib.hid hc3
          have HF3 := Lib.hid hf3
          have HR3 := Lib.hid (HR.out.then_ hb3)
          have HB3 := Lib.hid (below_then HB.out hb3)
          clear hc3 hf3 hb3 hw3 x1 x2 xl hed
          go_wp2_with fail
          refine (Hold_any _ _).mono ?_; rintro e w' ⟨rfl, rfl⟩
          have HH := Lib.hid (show hold (c.n 30) = hold (c.n 30) from rfl)
          go_wp2_with fail
        all_goals
          go_roundw
          case rel =>
            refine ⟨1, by omega, by go_num, (HC3.out.far (by show w.heap.size ≠ w.heap.size + 1 + 1; omega) _).far (by show w.heap.size ≠ w.heap.size + 1 + 1; omega) _,
              (HR3.out.far (by show w.heap.size + 1 ≠ w.heap.size + 1 + 1; omega) _).far (by show w.heap.size + 1 ≠ w.heap.size + 1 + 1; omega) _, ?_,
              below_set (below_set HB3.out (by show w.heap.size ≤ w.heap.size + 1 + 1; omega) _) (by show w.heap.size ≤ w.heap.size + 1 + 1; omega) _⟩
            have e1 : (if hold (c.n 30) < 0 then 0 else hold (c.n 30)) = c.edg 0 := by rw [HD.out]; split <;> omega
            rw [e1]
            first
              | rw [show (Value.int IntKind.i64 0) = Value.int IntKind.i64 (c.pad 0) by rw [HP.out]; congr 1; omega]
              | rw [show (Value.int IntKind.i64 sd) = Value.int IntKind.i64 (c.pad 0) by rw [HP.out]; congr 1; omega]
            have hbk := (HF3.out.put 8 (.int .i64 (c.pad 0))).put 12 (.int .i64 (c.edg 0))
            have e3 : (((((c.fr 0).setIfInBounds 0 (.int .i64 (c.mar 0))).setIfInBounds 4 (.bool (decide (c.n 14 = 0)))).setIfInBounds 8 (.int .i64 (c.pad 0))).setIfInBounds 12 (.int .i64 (c.edg 0))) = c.fr 1 := by simp [Cs.fr]
            rw [e3] at hbk
            exact hbk
          case measure => (simp [intOf]; try omega)
      · have x1 : wr.cell? ⟨w.heap.size, 16, none⟩ = some (.int .i64 (c.n 16)) := hc.cell 16
        have x2 : wr.cell? ⟨w.heap.size, 17, none⟩ = some (.int .i64 (c.n 17)) := hc.cell 17
        have HC := Lib.hid hc
        have HR := Lib.hid hr
        have HF := Lib.hid hf
        have HB := Lib.hid hb
        clear hc hr hf hb
        go_upto_region 6 with fail
        refine wp_region_held_drew (S := fun w' => Blk w' w.heap.size 29 c.cells ∧ w'.cell? ⟨w.heap.size, 16, none⟩ = some (.int .i64 (c.n 16)) ∧ w'.cell? ⟨w.heap.size, 17, none⟩ = some (.int .i64 (c.n 17))) (by kernel_rfl) ⟨HC.out.drew, x1, x2⟩ (fun hHeld => ?_)
        refine wpAnyH_take (i := 0) (v := ?_) (by simp only [List.getElem?_toArray, List.getElem?_cons_zero, List.getElem?_cons_succ]; exact rfl) (by kernel_rfl) (by kernel_rfl) (by kernel_rfl) (by exact fun _ _ _ h => h) (Or.inl ⟨by rfl, ?_⟩) (by assumption) ?_
        rotate_left 1
        · (intro w hSw; obtain ⟨sb, s0, s1⟩ := hSw; go_simp; first | done | with_reducible rfl)
        simp only [Act.put, List.setIfInBounds_toArray, List.set_cons_zero, List.set_cons_succ]
        refine wpAnyH_take (i := 1) (v := ?_) (by simp only [List.getElem?_toArray, List.getElem?_cons_zero, List.getElem?_cons_succ]; exact rfl) (by kernel_rfl) (by kernel_rfl) (by kernel_rfl) (by exact fun _ _ _ h => h) (Or.inl ⟨by rfl, ?_⟩) (by assumption) ?_
        rotate_left 1
        · (intro w hSw; obtain ⟨sb, s0, s1⟩ := hSw; go_simp; first | done | with_reducible rfl)
        simp only [Act.put, List.setIfInBounds_toArray, List.set_cons_zero, List.set_cons_succ]
        refine wpAnyH_take (i := 2) (v := ?_) (by simp only [List.getElem?_toArray, List.getElem?_cons_zero, List.getElem?_cons_succ]; exact rfl) (by kernel_rfl) (by kernel_rfl) (by kernel_rfl) (by exact fun _ _ _ h => h) (Or.inl ⟨by rfl, ?_⟩) (by assumption) ?_
        rotate_left 1
        · (intro w hSw; obtain ⟨sb, s0, s1⟩ := hSw; go_simp; first | done | with_reducible rfl)
        simp only [Act.put, List.setIfInBounds_toArray, List.set_cons_zero, List.set_cons_succ]
        refine wpAnyH_take (i := 3) (v := _) (by simp only [List.getElem?_toArray, List.getElem?_cons_zero, List.getElem?_cons_succ]; exact rfl) (by kernel_rfl) (by kernel_rfl) (by kernel_rfl) (by exact fun _ _ _ h => h)
          (yieldsIf_load_mid (by rfl) 29 (.tmp 1) rfl w.heap.size 0 rfl c.cells.toList _ (fun w hSw => hSw.1.range) Try.underlying29 rfl (by kernel_rfl)) (by assumption) ?_
        simp only [Act.put, List.setIfInBounds_toArray, List.set_cons_zero, List.set_cons_succ, Array.toArray_toList]
        refine wpAnyH_take (i := 4) (v := ?_) (by simp only [List.getElem?_toArray, List.getElem?_cons_zero, List.getElem?_cons_succ]; exact rfl) (by kernel_rfl) (by kernel_rfl) (by kernel_rfl) (by exact fun _ _ _ h => h) (Or.inl ⟨by rfl, ?_⟩) (by assumption) ?_
        rotate_left 1
        · (intro w hSw; obtain ⟨sb, s0, s1⟩ := hSw; go_simp; first | done | with_reducible rfl)
        simp only [Act.put, List.setIfInBounds_toArray, List.set_cons_zero, List.set_cons_succ]
        refine wpAnyH_take (i := 5) (v := ?_) (by simp only [List.getElem?_toArray, List.getElem?_cons_zero, List.getElem?_cons_succ]; exact rfl) (by kernel_rfl) (by kernel_rfl) (by kernel_rfl) (by exact fun _ _ _ h => h) (Or.inl ⟨by rfl, ?_⟩) (by assumption) ?_
        rotate_left 1
        · (intro w hSw; obtain ⟨sb, s0, s1⟩ := hSw; go_simp; first | done | with_reducible rfl)
        simp only [Act.put, List.setIfInBounds_toArray, List.set_cons_zero, List.set_cons_succ]
        refine wpAnyH_take (i := 6) (v := ?_) (by simp only [List.getElem?_toArray, List.getElem?_cons_zero, List.getElem?_cons_succ]; exact rfl) (by kernel_rfl) (by kernel_rfl) (by kernel_rfl) (by exact fun _ _ _ h => h) (Or.inl ⟨by rfl, ?_⟩) (by assumption) ?_
        rotate_left 1
        · (intro w hSw; obtain ⟨sb, s0, s1⟩ := hSw; go_simp; first | done | with_reducible rfl)
        simp only [Act.put, List.setIfInBounds_toArray, List.set_cons_zero, List.set_cons_succ]
        refine wpAnyH_take (i := 7) (v := ?_) (by simp only [List.getElem?_toArray, List.getElem?_cons_zero, List.getElem?_cons_succ]; exact rfl) (by kernel_rfl) (by kernel_rfl) (by kernel_rfl) (by exact fun _ _ _ h => h) (Or.inl ⟨by rfl, ?_⟩) (by assumption) ?_
        rotate_left 1
        · (intro w hSw; obtain ⟨sb, s0, s1⟩ := hSw; go_simp; first | done | with_reducible rfl)
        simp only [Act.put, List.setIfInBounds_toArray, List.set_cons_zero, List.set_cons_succ]
        refine wpAnyH_take (i := 8) (v := ?_) (by simp only [List.getElem?_toArray, List.getElem?_cons_zero, List.getElem?_cons_succ]; exact rfl) (by kernel_rfl) (by kernel_rfl) (by kernel_rfl) (by exact fun _ _ _ h => h) (Or.inl ⟨by rfl, ?_⟩) (by assumption) ?_
        rotate_left 1
        · (intro w hSw; obtain ⟨sb, s0, s1⟩ := hSw; go_simp; first | done | with_reducible rfl)
        simp only [Act.put, List.setIfInBounds_toArray, List.set_cons_zero, List.set_cons_succ]
        refine wpAnyH_take (i := 10) (v := ?_) (by simp only [List.getElem?_toArray, List.getElem?_cons_zero, List.getElem?_cons_succ]; exact rfl) (by kernel_rfl) (by kernel_rfl) (by kernel_rfl) (by exact fun _ _ _ h => h) (Or.inl ⟨by rfl, ?_⟩) (by assumption) ?_
        rotate_left 1
        · (intro w hSw; obtain ⟨sb, s0, s1⟩ := hSw; go_simp; first | done | with_reducible rfl)
        simp only [Act.put, List.setIfInBounds_toArray, List.set_cons_zero, List.set_cons_succ]
        refine wpAnyH_take (i := 11) (v := ?_) (by simp only [List.getElem?_toArray, List.getElem?_cons_zero, List.getElem?_cons_succ]; exact rfl) (by kernel_rfl) (by kernel_rfl) (by kernel_rfl) (by exact fun _ _ _ h => h) (Or.inl ⟨by rfl, ?_⟩) (by assumption) ?_
        rotate_left 1
        · (intro w hSw; obtain ⟨sb, s0, s1⟩ := hSw; go_simp; first | done | with_reducible rfl)
        simp only [Act.put, List.setIfInBounds_toArray, List.set_cons_zero, List.set_cons_succ]
        refine wpAnyH_take (i := 12) (v := ?_) (by simp only [List.getElem?_toArray, List.getElem?_cons_zero, List.getElem?_cons_succ]; exact rfl) (by kernel_rfl) (by kernel_rfl) (by kernel_rfl) (by exact fun _ _ _ h => h) (Or.inl ⟨by rfl, ?_⟩) (by assumption) ?_
        rotate_left 1
        · (intro w hSw; obtain ⟨sb, s0, s1⟩ := hSw; go_simp; first | done | with_reducible rfl)
        simp only [Act.put, List.setIfInBounds_toArray, List.set_cons_zero, List.set_cons_succ]
        refine wpAnyH_take (i := 13) (v := ?_) (by simp only [List.getElem?_toArray, List.getElem?_cons_zero, List.getElem?_cons_succ]; exact rfl) (by kernel_rfl) (by kernel_rfl) (by kernel_rfl) (by exact fun _ _ _ h => h) (Or.inl ⟨by rfl, ?_⟩) (by assumption) ?_
        rotate_left 1
        · (intro w hSw; obtain ⟨sb, s0, s1⟩ := hSw; go_simp; first | done | with_reducible rfl)
        simp only [Act.put, List.setIfInBounds_toArray, List.set_cons_zero, List.set_cons_succ]
        refine wpAnyH_take (i := 14) (v := ?_) (by simp only [List.getElem?_toArray, List.getElem?_cons_zero, List.getElem?_cons_succ]; exact rfl) (by kernel_rfl) (by kernel_rfl) (by kernel_rfl) (by exact fun _ _ _ h => h) (Or.inl ⟨by rfl, ?_⟩) (by assumption) ?_
        rotate_left 1
        · (intro w hSw; obtain ⟨sb, s0, s1⟩ := hSw; go_simp; first | done | with_reducible rfl)
        simp only [Act.put, List.setIfInBounds_toArray, List.set_cons_zero, List.set_cons_succ]
        refine wpAnyH_take (i := 15) (v := ?_) (by simp only [List.getElem?_toArray, List.getElem?_cons_zero, List.getElem?_cons_succ]; exact rfl) (by kernel_rfl) (by kernel_rfl) (by kernel_rfl) (by exact fun _ _ _ h => h) (Or.inl ⟨by rfl, ?_⟩) (by assumption) ?_
        rotate_left 1
        · (intro w hSw; obtain ⟨sb, s0, s1⟩ := hSw; go_simp; first | done | with_reducible rfl)
        simp only [Act.put, List.setIfInBounds_toArray, List.set_cons_zero, List.set_cons_succ]
        refine wpAnyH_take (i := 16) (v := ?_) (by simp only [List.getElem?_toArray, List.getElem?_cons_zero, List.getElem?_cons_succ]; exact rfl) (by kernel_rfl) (by kernel_rfl) (by kernel_rfl) (by exact fun _ _ _ h => h) (Or.inl ⟨by rfl, ?_⟩) (by assumption) ?_
        rotate_left 1
        · (intro w hSw; obtain ⟨sb, s0, s1⟩ := hSw; go_simp; first | done | with_reducible rfl)
        simp only [Act.put, List.setIfInBounds_toArray, List.set_cons_zero, List.set_cons_succ]
        refine wpAnyH_take (i := 17) (v := ?_) (by simp only [List.getElem?_toArray, List.getElem?_cons_zero, List.getElem?_cons_succ]; exact rfl) (by kernel_rfl) (by kernel_rfl) (by kernel_rfl) (by exact fun _ _ _ h => h) (Or.inl ⟨by rfl, ?_⟩) (by assumption) ?_
        rotate_left 1
        · (intro w hSw; obtain ⟨sb, s0, s1⟩ := hSw; go_simp; first | done | with_reducible rfl)
        simp only [Act.put, List.setIfInBounds_toArray, List.set_cons_zero, List.set_cons_succ]
        refine wpAnyH_take (i := 20) (v := ?_) (by simp only [List.getElem?_toArray, List.getElem?_cons_zero, List.getElem?_cons_succ]; exact rfl) (by kernel_rfl) (by kernel_rfl) (by kernel_rfl) (by exact fun _ _ _ h => h) (Or.inl ⟨by rfl, ?_⟩) (by assumption) ?_
        rotate_left 1
        · (intro w hSw; obtain ⟨sb, s0, s1⟩ := hSw; go_simp; first | done | with_reducible rfl)
        simp only [Act.put, List.setIfInBounds_toArray, List.set_cons_zero, List.set_cons_succ]
        refine wpAnyH_ready (rs := [9]) (by kernel_rfl) (by simp) ?_
        refine AllReadyH.cons (by simp only [List.getElem?_toArray, List.getElem?_cons_zero, List.getElem?_cons_succ]; exact rfl) (fun K hK => ?_) AllReadyH.nil
        go_simp
        go_at_call 32
        refine (hedge _ _ _).mono ?_; rintro e w2 ⟨rfl, hb2⟩
        go_simp
        refine hK.out _ _ ?_ (fun hHeld => ?_)
        · exact ⟨hHeld.1.then_ hb2, (hb2.cell hHeld.1.lt).trans hHeld.2.1, (hb2.cell hHeld.1.lt).trans hHeld.2.2⟩
        clear hK K
        try simp only [Act.put, List.setIfInBounds_toArray, List.set_cons_zero, List.set_cons_succ]
        have hf2 := (HF.out.drew).then_ hb2
        have y1 : w2.cell? ⟨w.heap.size + 2, 1, none⟩ = some (.int .i64 0) := hf2.cell 1
        have y2 : w2.cell? ⟨w.heap.size + 2, 5, none⟩ = some (.bool false) := hf2.cell 5
        have z1 : w2.frozen? ⟨w.heap.size + 2, 1, none⟩ = false := hf2.frozen 1
        have z2 : w2.frozen? ⟨w.heap.size + 2, 5, none⟩ = false := hf2.frozen 5
        have HF2 := Lib.hid hf2
        have HR2 := Lib.hid ((HR.out.drew).then_ hb2)
        have HB2 := Lib.hid (below_then (HB.out.drew) hb2)
        clear hf2 hb2
        refine wpAnyH_take (i := 18) (v := ?_) (by simp only [List.getElem?_toArray, List.getElem?_cons_zero, List.getElem?_cons_succ]; exact rfl) (by kernel_rfl) (by kernel_rfl) (by kernel_rfl) (by exact fun _ _ _ h => h) (Or.inl ⟨by rfl, ?_⟩) (by assumption) ?_
        rotate_left 1
        · (intro w hSw; obtain ⟨sb, s0, s1⟩ := hSw; go_simp; first | done | with_reducible rfl)
        simp only [Act.put, List.setIfInBounds_toArray, List.set_cons_zero, List.set_cons_succ]
        refine wpAnyH_ready (rs := [19]) (by kernel_rfl) (by simp) ?_
        refine AllReadyH.cons (by simp only [List.getElem?_toArray, List.getElem?_cons_zero, List.getElem?_cons_succ]; exact rfl) (fun K hK => ?_) AllReadyH.nil
        go_simp
        refine hK.out _ _ ?_ (fun hHeld => ?_)
        · exact ⟨hHeld.1.far (by show w.heap.size ≠ w.heap.size + 1 + 1; omega) _, (World.cell?_setCell_other _ _ _ _ (by simp)).trans hHeld.2.1, (World.cell?_setCell_other _ _ _ _ (by simp)).trans hHeld.2.2⟩
        clear hK K
        try simp only [Act.put, List.setIfInBounds_toArray, List.set_cons_zero, List.set_cons_succ]
        refine wpAnyH_take (i := 21) (v := ?_) (by simp only [List.getElem?_toArray, List.getElem?_cons_zero, List.getElem?_cons_succ]; exact rfl) (by kernel_rfl) (by kernel_rfl) (by kernel_rfl) (by exact fun _ _ _ h => h) (Or.inl ⟨by rfl, ?_⟩) (by assumption) ?_
        rotate_left 1
        · (intro w hSw; obtain ⟨sb, s0, s1⟩ := hSw; go_simp; first | done | with_reducible rfl)
        simp only [Act.put, List.setIfInBounds_toArray, List.set_cons_zero, List.set_cons_succ]
        refine wpAnyH_ready (rs := [22]) (by kernel_rfl) (by simp) ?_
        refine AllReadyH.cons (by simp only [List.getElem?_toArray, List.getElem?_cons_zero, List.getElem?_cons_succ]; exact rfl) (fun K hK => ?_) AllReadyH.nil
        go_simp
        refine hK.out _ _ ?_ (fun hHeld => ?_)
        · exact ⟨hHeld.1.far (by show w.heap.size ≠ w.heap.size + 1 + 1; omega) _, (World.cell?_setCell_other _ _ _ _ (by simp)).trans hHeld.2.1, (World.cell?_setCell_other _ _ _ _ (by simp)).trans hHeld.2.2⟩
        clear hK K
        try simp only [Act.put, List.setIfInBounds_toArray, List.set_cons_zero, List.set_cons_succ]
        refine wpAnyH_done (by kernel_rfl) ?_ _
        go_upto_region 7 with fail
        refine at_any (fun wx => Blk wx w.heap.size 29 c.cells ∧ Blk wx (w.heap.size + 1) 32 (c.fr 0) ∧ Blk wx (w.heap.size + 1 + 1) 32 (((c.fr 1).setIfInBounds 1 (.int .i64 (c.mar 1))).setIfInBounds 5 (.bool (decide (c.n 16 = 0)))) ∧ Below w.heap.size w wx)
          ⟨hHeld.1, ((HR2.out.far (by show w.heap.size + 1 ≠ w.heap.size + 1 + 1; omega) _).far (by show w.heap.size + 1 ≠ w.heap.size + 1 + 1; omega) _), (HF2.out.put 1 _).put 5 _, below_set (below_set HB2.out (by show w.heap.size ≤ w.heap.size + 1 + 1; omega) _) (by show w.heap.size ≤ w.heap.size + 1 + 1; omega) _⟩ ?_
        clear hHeld HR2 HF2 HB2 HR HF HC HB x1 x2 y1 y2 z1 z2
        rintro wx ⟨hc, hr, hf, hb⟩
        have x1 : wx.cell? ⟨w.heap.size, 24, none⟩ = some (.int .i64 (c.n 24)) := hc.cell 24
        have x2 : wx.cell? ⟨w.heap.size, 25, none⟩ = some (.int .i64 (c.n 25)) := hc.cell 25
        have xl := hc.lt
        have HC := Lib.hid hc
        have HR := Lib.hid hr
        have HF := Lib.hid hf
        have HB := Lib.hid hb
        have HP : Hid (c.pad 1 = max (sideF (c.n 24) (c.n 25) (c.n 55)) 0) := Lib.hid rfl
        have HD : Hid (c.edg 1 = max (hold (c.n 31)) 0) := Lib.hid rfl
        have hed : ∀ w, Calls Try.prog 32 #[.agg c.cells, .agg #[.int .i64 (c.n 24), .int .i64 (c.n 25)]] w fun e w' => e = .returned (.int .i64 (sideF (c.n 24) (c.n 25) (c.n 55))) ∧ Below w.heap.size w w' := fun w => hedge _ _ w
        generalize sideF (c.n 24) (c.n 25) (c.n 55) = sd at *
        clear hc hr hf hb hedge
        refine wp_region_ext_tail 12 (by kernel_rfl) (by kernel_rfl) ?_
        simp only [List.take_succ_cons, List.take_zero, List.drop_succ_cons, List.drop_zero]
        by_cases hsd : sd < 0
        all_goals
          repeat (first
            | (refine wpQuiet_load_whole (by simp [Region.wanted]) 29 (.tmp 1) rfl w.heap.size rfl HC.out Try.underlying29 rfl (by kernel_rfl) ?_
               simp only [Act.put, List.setIfInBounds_toArray, List.set_cons_zero, List.set_cons_succ])
            | (go_big_quiet_step ((go_at_call 32; exact quiet_ext (hed _)))))
          refine wpQuiet_nil ?_
          intro w3 hw3
          have hb3 := (grown_rules hw3).2.2.2
          have hc3 := HC.out.then_ hb3
          have hf3 := HF.out.then_ hb3
          have x3 : w3.cell? ⟨w.heap.size, 31, none⟩ = some (.int .i64 (c.n 31)) := hc3.cell 31
          have y1 : w3.cell? ⟨w.heap.size + 1 + 1, 9, none⟩ = some (.int .i64 0) := hf3.cell 9
          have y2 : w3.cell? ⟨w.heap.size + 1 + 1, 13, none⟩ = some (.int .i64 0) := hf3.cell 13
          have z1 : w3.frozen? ⟨w.heap.size + 1 + 1, 9, none⟩ = false := hf3.frozen 9
          have z2 : w3.frozen? ⟨w.heap.size + 1 + 1, 13, none⟩ = false := hf3.frozen 13
          have HC3 := Lib.hid hc3
          have HF3 := Lib.hid hf3
          have HR3 := Lib.hid (HR.out.then_ hb3)
          have HB3 := Lib.hid (below_then HB.out hb3)
          clear hc3 hf3 hb3 hw3 x1 x2 xl hed
          go_wp2_with fail
          refine (Hold_any _ _).mono ?_; rintro e w' ⟨rfl, rfl⟩
          have HH := Lib.hid (show hold (c.n 31) = hold (c.n 31) from rfl)
          go_wp2_with fail
        all_goals
          go_roundw
          case rel =>
            refine ⟨2, by omega, by go_num, (HC3.out.far (by show w.heap.size ≠ w.heap.size + 1 + 1; omega) _).far (by show w.heap.size ≠ w.heap.size + 1 + 1; omega) _,
              (HR3.out.far (by show w.heap.size + 1 ≠ w.heap.size + 1 + 1; omega) _).far (by show w.heap.size + 1 ≠ w.heap.size + 1 + 1; omega) _, ?_,
              below_set (below_set HB3.out (by show w.heap.size ≤ w.heap.size + 1 + 1; omega) _) (by show w.heap.size ≤ w.heap.size + 1 + 1; omega) _⟩
            have e1 : (if hold (c.n 31) < 0 then 0 else hold (c.n 31)) = c.edg 1 := by rw [HD.out]; split <;> omega
            rw [e1]
            first
              | rw [show (Value.int IntKind.i64 0) = Value.int IntKind.i64 (c.pad 1) by rw [HP.out]; congr 1; omega]
              | rw [show (Value.int IntKind.i64 sd) = Value.int IntKind.i64 (c.pad 1) by rw [HP.out]; congr 1; omega]
            have hbk := (HF3.out.put 9 (.int .i64 (c.pad 1))).put 13 (.int .i64 (c.edg 1))
            have e3 : (((((c.fr 1).setIfInBounds 1 (.int .i64 (c.mar 1))).setIfInBounds 5 (.bool (decide (c.n 16 = 0)))).setIfInBounds 9 (.int .i64 (c.pad 1))).setIfInBounds 13 (.int .i64 (c.edg 1))) = c.fr 2 := by simp [Cs.fr]
            rw [e3] at hbk
            exact hbk
          case measure => (simp [intOf]; try omega)
      · have x1 : wr.cell? ⟨w.heap.size, 18, none⟩ = some (.int .i64 (c.n 18)) := hc.cell 18
        have x2 : wr.cell? ⟨w.heap.size, 19, none⟩ = some (.int .i64 (c.n 19)) := hc.cell 19
        have HC := Lib.hid hc
        have HR := Lib.hid hr
        have HF := Lib.hid hf
        have HB := Lib.hid hb
        clear hc hr hf hb
        go_upto_region 6 with fail
        refine wp_region_held_drew (S := fun w' => Blk w' w.heap.size 29 c.cells ∧ w'.cell? ⟨w.heap.size, 18, none⟩ = some (.int .i64 (c.n 18)) ∧ w'.cell? ⟨w.heap.size, 19, none⟩ = some (.int .i64 (c.n 19))) (by kernel_rfl) ⟨HC.out.drew, x1, x2⟩ (fun hHeld => ?_)
        refine wpAnyH_take (i := 0) (v := ?_) (by simp only [List.getElem?_toArray, List.getElem?_cons_zero, List.getElem?_cons_succ]; exact rfl) (by kernel_rfl) (by kernel_rfl) (by kernel_rfl) (by exact fun _ _ _ h => h) (Or.inl ⟨by rfl, ?_⟩) (by assumption) ?_
        rotate_left 1
        · (intro w hSw; obtain ⟨sb, s0, s1⟩ := hSw; go_simp; first | done | with_reducible rfl)
        simp only [Act.put, List.setIfInBounds_toArray, List.set_cons_zero, List.set_cons_succ]
        refine wpAnyH_take (i := 1) (v := ?_) (by simp only [List.getElem?_toArray, List.getElem?_cons_zero, List.getElem?_cons_succ]; exact rfl) (by kernel_rfl) (by kernel_rfl) (by kernel_rfl) (by exact fun _ _ _ h => h) (Or.inl ⟨by rfl, ?_⟩) (by assumption) ?_
        rotate_left 1
        · (intro w hSw; obtain ⟨sb, s0, s1⟩ := hSw; go_simp; first | done | with_reducible rfl)
        simp only [Act.put, List.setIfInBounds_toArray, List.set_cons_zero, List.set_cons_succ]
        refine wpAnyH_take (i := 2) (v := ?_) (by simp only [List.getElem?_toArray, List.getElem?_cons_zero, List.getElem?_cons_succ]; exact rfl) (by kernel_rfl) (by kernel_rfl) (by kernel_rfl) (by exact fun _ _ _ h => h) (Or.inl ⟨by rfl, ?_⟩) (by assumption) ?_
        rotate_left 1
        · (intro w hSw; obtain ⟨sb, s0, s1⟩ := hSw; go_simp; first | done | with_reducible rfl)
        simp only [Act.put, List.setIfInBounds_toArray, List.set_cons_zero, List.set_cons_succ]
        refine wpAnyH_take (i := 3) (v := _) (by simp only [List.getElem?_toArray, List.getElem?_cons_zero, List.getElem?_cons_succ]; exact rfl) (by kernel_rfl) (by kernel_rfl) (by kernel_rfl) (by exact fun _ _ _ h => h)
          (yieldsIf_load_mid (by rfl) 29 (.tmp 1) rfl w.heap.size 0 rfl c.cells.toList _ (fun w hSw => hSw.1.range) Try.underlying29 rfl (by kernel_rfl)) (by assumption) ?_
        simp only [Act.put, List.setIfInBounds_toArray, List.set_cons_zero, List.set_cons_succ, Array.toArray_toList]
        refine wpAnyH_take (i := 4) (v := ?_) (by simp only [List.getElem?_toArray, List.getElem?_cons_zero, List.getElem?_cons_succ]; exact rfl) (by kernel_rfl) (by kernel_rfl) (by kernel_rfl) (by exact fun _ _ _ h => h) (Or.inl ⟨by rfl, ?_⟩) (by assumption) ?_
        rotate_left 1
        · (intro w hSw; obtain ⟨sb, s0, s1⟩ := hSw; go_simp; first | done | with_reducible rfl)
        simp only [Act.put, List.setIfInBounds_toArray, List.set_cons_zero, List.set_cons_succ]
        refine wpAnyH_take (i := 5) (v := ?_) (by simp only [List.getElem?_toArray, List.getElem?_cons_zero, List.getElem?_cons_succ]; exact rfl) (by kernel_rfl) (by kernel_rfl) (by kernel_rfl) (by exact fun _ _ _ h => h) (Or.inl ⟨by rfl, ?_⟩) (by assumption) ?_
        rotate_left 1
        · (intro w hSw; obtain ⟨sb, s0, s1⟩ := hSw; go_simp; first | done | with_reducible rfl)
        simp only [Act.put, List.setIfInBounds_toArray, List.set_cons_zero, List.set_cons_succ]
        refine wpAnyH_take (i := 6) (v := ?_) (by simp only [List.getElem?_toArray, List.getElem?_cons_zero, List.getElem?_cons_succ]; exact rfl) (by kernel_rfl) (by kernel_rfl) (by kernel_rfl) (by exact fun _ _ _ h => h) (Or.inl ⟨by rfl, ?_⟩) (by assumption) ?_
        rotate_left 1
        · (intro w hSw; obtain ⟨sb, s0, s1⟩ := hSw; go_simp; first | done | with_reducible rfl)
        simp only [Act.put, List.setIfInBounds_toArray, List.set_cons_zero, List.set_cons_succ]
        refine wpAnyH_take (i := 7) (v := ?_) (by simp only [List.getElem?_toArray, List.getElem?_cons_zero, List.getElem?_cons_succ]; exact rfl) (by kernel_rfl) (by kernel_rfl) (by kernel_rfl) (by exact fun _ _ _ h => h) (Or.inl ⟨by rfl, ?_⟩) (by assumption) ?_
        rotate_left 1
        · (intro w hSw; obtain ⟨sb, s0, s1⟩ := hSw; go_simp; first | done | with_reducible rfl)
        simp only [Act.put, List.setIfInBounds_toArray, List.set_cons_zero, List.set_cons_succ]
        refine wpAnyH_take (i := 8) (v := ?_) (by simp only [List.getElem?_toArray, List.getElem?_cons_zero, List.getElem?_cons_succ]; exact rfl) (by kernel_rfl) (by kernel_rfl) (by kernel_rfl) (by exact fun _ _ _ h => h) (Or.inl ⟨by rfl, ?_⟩) (by assumption) ?_
        rotate_left 1
        · (intro w hSw; obtain ⟨sb, s0, s1⟩ := hSw; go_simp; first | done | with_reducible rfl)
        simp only [Act.put, List.setIfInBounds_toArray, List.set_cons_zero, List.set_cons_succ]
        refine wpAnyH_take (i := 10) (v := ?_) (by simp only [List.getElem?_toArray, List.getElem?_cons_zero, List.getElem?_cons_succ]; exact rfl) (by kernel_rfl) (by kernel_rfl) (by kernel_rfl) (by exact fun _ _ _ h => h) (Or.inl ⟨by rfl, ?_⟩) (by assumption) ?_
        rotate_left 1
        · (intro w hSw; obtain ⟨sb, s0, s1⟩ := hSw; go_simp; first | done | with_reducible rfl)
        simp only [Act.put, List.setIfInBounds_toArray, List.set_cons_zero, List.set_cons_succ]
        refine wpAnyH_take (i := 11) (v := ?_) (by simp only [List.getElem?_toArray, List.getElem?_cons_zero, List.getElem?_cons_succ]; exact rfl) (by kernel_rfl) (by kernel_rfl) (by kernel_rfl) (by exact fun _ _ _ h => h) (Or.inl ⟨by rfl, ?_⟩) (by assumption) ?_
        rotate_left 1
        · (intro w hSw; obtain ⟨sb, s0, s1⟩ := hSw; go_simp; first | done | with_reducible rfl)
        simp only [Act.put, List.setIfInBounds_toArray, List.set_cons_zero, List.set_cons_succ]
        refine wpAnyH_take (i := 12) (v := ?_) (by simp only [List.getElem?_toArray, List.getElem?_cons_zero, List.getElem?_cons_succ]; exact rfl) (by kernel_rfl) (by kernel_rfl) (by kernel_rfl) (by exact fun _ _ _ h => h) (Or.inl ⟨by rfl, ?_⟩) (by assumption) ?_
        rotate_left 1
        · (intro w hSw; obtain ⟨sb, s0, s1⟩ := hSw; go_simp; first | done | with_reducible rfl)
        simp only [Act.put, List.setIfInBounds_toArray, List.set_cons_zero, List.set_cons_succ]
        refine wpAnyH_take (i := 13) (v := ?_) (by simp only [List.getElem?_toArray, List.getElem?_cons_zero, List.getElem?_cons_succ]; exact rfl) (by kernel_rfl) (by kernel_rfl) (by kernel_rfl) (by exact fun _ _ _ h => h) (Or.inl ⟨by rfl, ?_⟩) (by assumption) ?_
        rotate_left 1
        · (intro w hSw; obtain ⟨sb, s0, s1⟩ := hSw; go_simp; first | done | with_reducible rfl)
        simp only [Act.put, List.setIfInBounds_toArray, List.set_cons_zero, List.set_cons_succ]
        refine wpAnyH_take (i := 14) (v := ?_) (by simp only [List.getElem?_toArray, List.getElem?_cons_zero, List.getElem?_cons_succ]; exact rfl) (by kernel_rfl) (by kernel_rfl) (by kernel_rfl) (by exact fun _ _ _ h => h) (Or.inl ⟨by rfl, ?_⟩) (by assumption) ?_
        rotate_left 1
        · (intro w hSw; obtain ⟨sb, s0, s1⟩ := hSw; go_simp; first | done | with_reducible rfl)
        simp only [Act.put, List.setIfInBounds_toArray, List.set_cons_zero, List.set_cons_succ]
        refine wpAnyH_take (i := 15) (v := ?_) (by simp only [List.getElem?_toArray, List.getElem?_cons_zero, List.getElem?_cons_succ]; exact rfl) (by kernel_rfl) (by kernel_rfl) (by kernel_rfl) (by exact fun _ _ _ h => h) (Or.inl ⟨by rfl, ?_⟩) (by assumption) ?_
        rotate_left 1
        · (intro w hSw; obtain ⟨sb, s0, s1⟩ := hSw; go_simp; first | done | with_reducible rfl)
        simp only [Act.put, List.setIfInBounds_toArray, List.set_cons_zero, List.set_cons_succ]
        refine wpAnyH_take (i := 16) (v := ?_) (by simp only [List.getElem?_toArray, List.getElem?_cons_zero, List.getElem?_cons_succ]; exact rfl) (by kernel_rfl) (by kernel_rfl) (by kernel_rfl) (by exact fun _ _ _ h => h) (Or.inl ⟨by rfl, ?_⟩) (by assumption) ?_
        rotate_left 1
        · (intro w hSw; obtain ⟨sb, s0, s1⟩ := hSw; go_simp; first | done | with_reducible rfl)
        simp only [Act.put, List.setIfInBounds_toArray, List.set_cons_zero, List.set_cons_succ]
        refine wpAnyH_take (i := 17) (v := ?_) (by simp only [List.getElem?_toArray, List.getElem?_cons_zero, List.getElem?_cons_succ]; exact rfl) (by kernel_rfl) (by kernel_rfl) (by kernel_rfl) (by exact fun _ _ _ h => h) (Or.inl ⟨by rfl, ?_⟩) (by assumption) ?_
        rotate_left 1
        · (intro w hSw; obtain ⟨sb, s0, s1⟩ := hSw; go_simp; first | done | with_reducible rfl)
        simp only [Act.put, List.setIfInBounds_toArray, List.set_cons_zero, List.set_cons_succ]
        refine wpAnyH_take (i := 20) (v := ?_) (by simp only [List.getElem?_toArray, List.getElem?_cons_zero, List.getElem?_cons_succ]; exact rfl) (by kernel_rfl) (by kernel_rfl) (by kernel_rfl) (by exact fun _ _ _ h => h) (Or.inl ⟨by rfl, ?_⟩) (by assumption) ?_
        rotate_left 1
        · (intro w hSw; obtain ⟨sb, s0, s1⟩ := hSw; go_simp; first | done | with_reducible rfl)
        simp only [Act.put, List.setIfInBounds_toArray, List.set_cons_zero, List.set_cons_succ]
        refine wpAnyH_ready (rs := [9]) (by kernel_rfl) (by simp) ?_
        refine AllReadyH.cons (by simp only [List.getElem?_toArray, List.getElem?_cons_zero, List.getElem?_cons_succ]; exact rfl) (fun K hK => ?_) AllReadyH.nil
        go_simp
        go_at_call 32
        refine (hedge _ _ _).mono ?_; rintro e w2 ⟨rfl, hb2⟩
        go_simp
        refine hK.out _ _ ?_ (fun hHeld => ?_)
        · exact ⟨hHeld.1.then_ hb2, (hb2.cell hHeld.1.lt).trans hHeld.2.1, (hb2.cell hHeld.1.lt).trans hHeld.2.2⟩
        clear hK K
        try simp only [Act.put, List.setIfInBounds_toArray, List.set_cons_zero, List.set_cons_succ]
        have hf2 := (HF.out.drew).then_ hb2
        have y1 : w2.cell? ⟨w.heap.size + 2, 2, none⟩ = some (.int .i64 0) := hf2.cell 2
        have y2 : w2.cell? ⟨w.heap.size + 2, 6, none⟩ = some (.bool false) := hf2.cell 6
        have z1 : w2.frozen? ⟨w.heap.size + 2, 2, none⟩ = false := hf2.frozen 2
        have z2 : w2.frozen? ⟨w.heap.size + 2, 6, none⟩ = false := hf2.frozen 6
        have HF2 := Lib.hid hf2
        have HR2 := Lib.hid ((HR.out.drew).then_ hb2)
        have HB2 := Lib.hid (below_then (HB.out.drew) hb2)
        clear hf2 hb2
        refine wpAnyH_take (i := 18) (v := ?_) (by simp only [List.getElem?_toArray, List.getElem?_cons_zero, List.getElem?_cons_succ]; exact rfl) (by kernel_rfl) (by kernel_rfl) (by kernel_rfl) (by exact fun _ _ _ h => h) (Or.inl ⟨by rfl, ?_⟩) (by assumption) ?_
        rotate_left 1
        · (intro w hSw; obtain ⟨sb, s0, s1⟩ := hSw; go_simp; first | done | with_reducible rfl)
        simp only [Act.put, List.setIfInBounds_toArray, List.set_cons_zero, List.set_cons_succ]
        refine wpAnyH_ready (rs := [19]) (by kernel_rfl) (by simp) ?_
        refine AllReadyH.cons (by simp only [List.getElem?_toArray, List.getElem?_cons_zero, List.getElem?_cons_succ]; exact rfl) (fun K hK => ?_) AllReadyH.nil
        go_simp
        refine hK.out _ _ ?_ (fun hHeld => ?_)
        · exact ⟨hHeld.1.far (by show w.heap.size ≠ w.heap.size + 1 + 1; omega) _, (World.cell?_setCell_other _ _ _ _ (by simp)).trans hHeld.2.1, (World.cell?_setCell_other _ _ _ _ (by simp)).trans hHeld.2.2⟩
        clear hK K
        try simp only [Act.put, List.setIfInBounds_toArray, List.set_cons_zero, List.set_cons_succ]
        refine wpAnyH_take (i := 21) (v := ?_) (by simp only [List.getElem?_toArray, List.getElem?_cons_zero, List.getElem?_cons_succ]; exact rfl) (by kernel_rfl) (by kernel_rfl) (by kernel_rfl) (by exact fun _ _ _ h => h) (Or.inl ⟨by rfl, ?_⟩) (by assumption) ?_
        rotate_left 1
        · (intro w hSw; obtain ⟨sb, s0, s1⟩ := hSw; go_simp; first | done | with_reducible rfl)
        simp only [Act.put, List.setIfInBounds_toArray, List.set_cons_zero, List.set_cons_succ]
        refine wpAnyH_ready (rs := [22]) (by kernel_rfl) (by simp) ?_
        refine AllReadyH.cons (by simp only [List.getElem?_toArray, List.getElem?_cons_zero, List.getElem?_cons_succ]; exact rfl) (fun K hK => ?_) AllReadyH.nil
        go_simp
        refine hK.out _ _ ?_ (fun hHeld => ?_)
        · exact ⟨hHeld.1.far (by show w.heap.size ≠ w.heap.size + 1 + 1; omega) _, (World.cell?_setCell_other _ _ _ _ (by simp)).trans hHeld.2.1, (World.cell?_setCell_other _ _ _ _ (by simp)).trans hHeld.2.2⟩
        clear hK K
        try simp only [Act.put, List.setIfInBounds_toArray, List.set_cons_zero, List.set_cons_succ]
        refine wpAnyH_done (by kernel_rfl) ?_ _
        go_upto_region 7 with fail
        refine at_any (fun wx => Blk wx w.heap.size 29 c.cells ∧ Blk wx (w.heap.size + 1) 32 (c.fr 0) ∧ Blk wx (w.heap.size + 1 + 1) 32 (((c.fr 2).setIfInBounds 2 (.int .i64 (c.mar 2))).setIfInBounds 6 (.bool (decide (c.n 18 = 0)))) ∧ Below w.heap.size w wx)
          ⟨hHeld.1, ((HR2.out.far (by show w.heap.size + 1 ≠ w.heap.size + 1 + 1; omega) _).far (by show w.heap.size + 1 ≠ w.heap.size + 1 + 1; omega) _), (HF2.out.put 2 _).put 6 _, below_set (below_set HB2.out (by show w.heap.size ≤ w.heap.size + 1 + 1; omega) _) (by show w.heap.size ≤ w.heap.size + 1 + 1; omega) _⟩ ?_
        clear hHeld HR2 HF2 HB2 HR HF HC HB x1 x2 y1 y2 z1 z2
        rintro wx ⟨hc, hr, hf, hb⟩
        have x1 : wx.cell? ⟨w.heap.size, 26, none⟩ = some (.int .i64 (c.n 26)) := hc.cell 26
        have x2 : wx.cell? ⟨w.heap.size, 27, none⟩ = some (.int .i64 (c.n 27)) := hc.cell 27
        have xl := hc.lt
        have HC := Lib.hid hc
        have HR := Lib.hid hr
        have HF := Lib.hid hf
        have HB := Lib.hid hb
        have HP : Hid (c.pad 2 = max (sideF (c.n 26) (c.n 27) (c.n 55)) 0) := Lib.hid rfl
        have HD : Hid (c.edg 2 = max (hold (c.n 32)) 0) := Lib.hid rfl
        have hed : ∀ w, Calls Try.prog 32 #[.agg c.cells, .agg #[.int .i64 (c.n 26), .int .i64 (c.n 27)]] w fun e w' => e = .returned (.int .i64 (sideF (c.n 26) (c.n 27) (c.n 55))) ∧ Below w.heap.size w w' := fun w => hedge _ _ w
        generalize sideF (c.n 26) (c.n 27) (c.n 55) = sd at *
        clear hc hr hf hb hedge
        refine wp_region_ext_tail 12 (by kernel_rfl) (by kernel_rfl) ?_
        simp only [List.take_succ_cons, List.take_zero, List.drop_succ_cons, List.drop_zero]
        by_cases hsd : sd < 0
        all_goals
          repeat (first
            | (refine wpQuiet_load_whole (by simp [Region.wanted]) 29 (.tmp 1) rfl w.heap.size rfl HC.out Try.underlying29 rfl (by kernel_rfl) ?_
               simp only [Act.put, List.setIfInBounds_toArray, List.set_cons_zero, List.set_cons_succ])
            | (go_big_quiet_step ((go_at_call 32; exact quiet_ext (hed _)))))
          refine wpQuiet_nil ?_
          intro w3 hw3
          have hb3 := (grown_rules hw3).2.2.2
          have hc3 := HC.out.then_ hb3
          have hf3 := HF.out.then_ hb3
          have x3 : w3.cell? ⟨w.heap.size, 32, none⟩ = some (.int .i64 (c.n 32)) := hc3.cell 32
          have y1 : w3.cell? ⟨w.heap.size + 1 + 1, 10, none⟩ = some (.int .i64 0) := hf3.cell 10
          have y2 : w3.cell? ⟨w.heap.size + 1 + 1, 14, none⟩ = some (.int .i64 0) := hf3.cell 14
          have z1 : w3.frozen? ⟨w.heap.size + 1 + 1, 10, none⟩ = false := hf3.frozen 10
          have z2 : w3.frozen? ⟨w.heap.size + 1 + 1, 14, none⟩ = false := hf3.frozen 14
          have HC3 := Lib.hid hc3
          have HF3 := Lib.hid hf3
          have HR3 := Lib.hid (HR.out.then_ hb3)
          have HB3 := Lib.hid (below_then HB.out hb3)
          clear hc3 hf3 hb3 hw3 x1 x2 xl hed
          go_wp2_with fail
          refine (Hold_any _ _).mono ?_; rintro e w' ⟨rfl, rfl⟩
          have HH := Lib.hid (show hold (c.n 32) = hold (c.n 32) from rfl)
          go_wp2_with fail
        all_goals
          go_roundw
          case rel =>
            refine ⟨3, by omega, by go_num, (HC3.out.far (by show w.heap.size ≠ w.heap.size + 1 + 1; omega) _).far (by show w.heap.size ≠ w.heap.size + 1 + 1; omega) _,
              (HR3.out.far (by show w.heap.size + 1 ≠ w.heap.size + 1 + 1; omega) _).far (by show w.heap.size + 1 ≠ w.heap.size + 1 + 1; omega) _, ?_,
              below_set (below_set HB3.out (by show w.heap.size ≤ w.heap.size + 1 + 1; omega) _) (by show w.heap.size ≤ w.heap.size + 1 + 1; omega) _⟩
            have e1 : (if hold (c.n 32) < 0 then 0 else hold (c.n 32)) = c.edg 2 := by rw [HD.out]; split <;> omega
            rw [e1]
            first
              | rw [show (Value.int IntKind.i64 0) = Value.int IntKind.i64 (c.pad 2) by rw [HP.out]; congr 1; omega]
              | rw [show (Value.int IntKind.i64 sd) = Value.int IntKind.i64 (c.pad 2) by rw [HP.out]; congr 1; omega]
            have hbk := (HF3.out.put 10 (.int .i64 (c.pad 2))).put 14 (.int .i64 (c.edg 2))
            have e3 : (((((c.fr 2).setIfInBounds 2 (.int .i64 (c.mar 2))).setIfInBounds 6 (.bool (decide (c.n 18 = 0)))).setIfInBounds 10 (.int .i64 (c.pad 2))).setIfInBounds 14 (.int .i64 (c.edg 2))) = c.fr 3 := by simp [Cs.fr]
            rw [e3] at hbk
            exact hbk
          case measure => (simp [intOf]; try omega)
      · have x1 : wr.cell? ⟨w.heap.size, 20, none⟩ = some (.int .i64 (c.n 20)) := hc.cell 20
        have x2 : wr.cell? ⟨w.heap.size, 21, none⟩ = some (.int .i64 (c.n 21)) := hc.cell 21
        have HC := Lib.hid hc
        have HR := Lib.hid hr
        have HF := Lib.hid hf
        have HB := Lib.hid hb
        clear hc hr hf hb
        go_upto_region 6 with fail
        refine wp_region_held_drew (S := fun w' => Blk w' w.heap.size 29 c.cells ∧ w'.cell? ⟨w.heap.size, 20, none⟩ = some (.int .i64 (c.n 20)) ∧ w'.cell? ⟨w.heap.size, 21, none⟩ = some (.int .i64 (c.n 21))) (by kernel_rfl) ⟨HC.out.drew, x1, x2⟩ (fun hHeld => ?_)
        refine wpAnyH_take (i := 0) (v := ?_) (by simp only [List.getElem?_toArray, List.getElem?_cons_zero, List.getElem?_cons_succ]; exact rfl) (by kernel_rfl) (by kernel_rfl) (by kernel_rfl) (by exact fun _ _ _ h => h) (Or.inl ⟨by rfl, ?_⟩) (by assumption) ?_
        rotate_left 1
        · (intro w hSw; obtain ⟨sb, s0, s1⟩ := hSw; go_simp; first | done | with_reducible rfl)
        simp only [Act.put, List.setIfInBounds_toArray, List.set_cons_zero, List.set_cons_succ]
        refine wpAnyH_take (i := 1) (v := ?_) (by simp only [List.getElem?_toArray, List.getElem?_cons_zero, List.getElem?_cons_succ]; exact rfl) (by kernel_rfl) (by kernel_rfl) (by kernel_rfl) (by exact fun _ _ _ h => h) (Or.inl ⟨by rfl, ?_⟩) (by assumption) ?_
        rotate_left 1
        · (intro w hSw; obtain ⟨sb, s0, s1⟩ := hSw; go_simp; first | done | with_reducible rfl)
        simp only [Act.put, List.setIfInBounds_toArray, List.set_cons_zero, List.set_cons_succ]
        refine wpAnyH_take (i := 2) (v := ?_) (by simp only [List.getElem?_toArray, List.getElem?_cons_zero, List.getElem?_cons_succ]; exact rfl) (by kernel_rfl) (by kernel_rfl) (by kernel_rfl) (by exact fun _ _ _ h => h) (Or.inl ⟨by rfl, ?_⟩) (by assumption) ?_
        rotate_left 1
        · (intro w hSw; obtain ⟨sb, s0, s1⟩ := hSw; go_simp; first | done | with_reducible rfl)
        simp only [Act.put, List.setIfInBounds_toArray, List.set_cons_zero, List.set_cons_succ]
        refine wpAnyH_take (i := 3) (v := _) (by simp only [List.getElem?_toArray, List.getElem?_cons_zero, List.getElem?_cons_succ]; exact rfl) (by kernel_rfl) (by kernel_rfl) (by kernel_rfl) (by exact fun _ _ _ h => h)
          (yieldsIf_load_mid (by rfl) 29 (.tmp 1) rfl w.heap.size 0 rfl c.cells.toList _ (fun w hSw => hSw.1.range) Try.underlying29 rfl (by kernel_rfl)) (by assumption) ?_
        simp only [Act.put, List.setIfInBounds_toArray, List.set_cons_zero, List.set_cons_succ, Array.toArray_toList]
        refine wpAnyH_take (i := 4) (v := ?_) (by simp only [List.getElem?_toArray, List.getElem?_cons_zero, List.getElem?_cons_succ]; exact rfl) (by kernel_rfl) (by kernel_rfl) (by kernel_rfl) (by exact fun _ _ _ h => h) (Or.inl ⟨by rfl, ?_⟩) (by assumption) ?_
        rotate_left 1
        · (intro w hSw; obtain ⟨sb, s0, s1⟩ := hSw; go_simp; first | done | with_reducible rfl)
        simp only [Act.put, List.setIfInBounds_toArray, List.set_cons_zero, List.set_cons_succ]
        refine wpAnyH_take (i := 5) (v := ?_) (by simp only [List.getElem?_toArray, List.getElem?_cons_zero, List.getElem?_cons_succ]; exact rfl) (by kernel_rfl) (by kernel_rfl) (by kernel_rfl) (by exact fun _ _ _ h => h) (Or.inl ⟨by rfl, ?_⟩) (by assumption) ?_
        rotate_left 1
        · (intro w hSw; obtain ⟨sb, s0, s1⟩ := hSw; go_simp; first | done | with_reducible rfl)
        simp only [Act.put, List.setIfInBounds_toArray, List.set_cons_zero, List.set_cons_succ]
        refine wpAnyH_take (i := 6) (v := ?_) (by simp only [List.getElem?_toArray, List.getElem?_cons_zero, List.getElem?_cons_succ]; exact rfl) (by kernel_rfl) (by kernel_rfl) (by kernel_rfl) (by exact fun _ _ _ h => h) (Or.inl ⟨by rfl, ?_⟩) (by assumption) ?_
        rotate_left 1
        · (intro w hSw; obtain ⟨sb, s0, s1⟩ := hSw; go_simp; first | done | with_reducible rfl)
        simp only [Act.put, List.setIfInBounds_toArray, List.set_cons_zero, List.set_cons_succ]
        refine wpAnyH_take (i := 7) (v := ?_) (by simp only [List.getElem?_toArray, List.getElem?_cons_zero, List.getElem?_cons_succ]; exact rfl) (by kernel_rfl) (by kernel_rfl) (by kernel_rfl) (by exact fun _ _ _ h => h) (Or.inl ⟨by rfl, ?_⟩) (by assumption) ?_
        rotate_left 1
        · (intro w hSw; obtain ⟨sb, s0, s1⟩ := hSw; go_simp; first | done | with_reducible rfl)
        simp only [Act.put, List.setIfInBounds_toArray, List.set_cons_zero, List.set_cons_succ]
        refine wpAnyH_take (i := 8) (v := ?_) (by simp only [List.getElem?_toArray, List.getElem?_cons_zero, List.getElem?_cons_succ]; exact rfl) (by kernel_rfl) (by kernel_rfl) (by kernel_rfl) (by exact fun _ _ _ h => h) (Or.inl ⟨by rfl, ?_⟩) (by assumption) ?_
        rotate_left 1
        · (intro w hSw; obtain ⟨sb, s0, s1⟩ := hSw; go_simp; first | done | with_reducible rfl)
        simp only [Act.put, List.setIfInBounds_toArray, List.set_cons_zero, List.set_cons_succ]
        refine wpAnyH_take (i := 10) (v := ?_) (by simp only [List.getElem?_toArray, List.getElem?_cons_zero, List.getElem?_cons_succ]; exact rfl) (by kernel_rfl) (by kernel_rfl) (by kernel_rfl) (by exact fun _ _ _ h => h) (Or.inl ⟨by rfl, ?_⟩) (by assumption) ?_
        rotate_left 1
        · (intro w hSw; obtain ⟨sb, s0, s1⟩ := hSw; go_simp; first | done | with_reducible rfl)
        simp only [Act.put, List.setIfInBounds_toArray, List.set_cons_zero, List.set_cons_succ]
        refine wpAnyH_take (i := 11) (v := ?_) (by simp only [List.getElem?_toArray, List.getElem?_cons_zero, List.getElem?_cons_succ]; exact rfl) (by kernel_rfl) (by kernel_rfl) (by kernel_rfl) (by exact fun _ _ _ h => h) (Or.inl ⟨by rfl, ?_⟩) (by assumption) ?_
        rotate_left 1
        · (intro w hSw; obtain ⟨sb, s0, s1⟩ := hSw; go_simp; first | done | with_reducible rfl)
        simp only [Act.put, List.setIfInBounds_toArray, List.set_cons_zero, List.set_cons_succ]
        refine wpAnyH_take (i := 12) (v := ?_) (by simp only [List.getElem?_toArray, List.getElem?_cons_zero, List.getElem?_cons_succ]; exact rfl) (by kernel_rfl) (by kernel_rfl) (by kernel_rfl) (by exact fun _ _ _ h => h) (Or.inl ⟨by rfl, ?_⟩) (by assumption) ?_
        rotate_left 1
        · (intro w hSw; obtain ⟨sb, s0, s1⟩ := hSw; go_simp; first | done | with_reducible rfl)
        simp only [Act.put, List.setIfInBounds_toArray, List.set_cons_zero, List.set_cons_succ]
        refine wpAnyH_take (i := 13) (v := ?_) (by simp only [List.getElem?_toArray, List.getElem?_cons_zero, List.getElem?_cons_succ]; exact rfl) (by kernel_rfl) (by kernel_rfl) (by kernel_rfl) (by exact fun _ _ _ h => h) (Or.inl ⟨by rfl, ?_⟩) (by assumption) ?_
        rotate_left 1
        · (intro w hSw; obtain ⟨sb, s0, s1⟩ := hSw; go_simp; first | done | with_reducible rfl)
        simp only [Act.put, List.setIfInBounds_toArray, List.set_cons_zero, List.set_cons_succ]
        refine wpAnyH_take (i := 14) (v := ?_) (by simp only [List.getElem?_toArray, List.getElem?_cons_zero, List.getElem?_cons_succ]; exact rfl) (by kernel_rfl) (by kernel_rfl) (by kernel_rfl) (by exact fun _ _ _ h => h) (Or.inl ⟨by rfl, ?_⟩) (by assumption) ?_
        rotate_left 1
        · (intro w hSw; obtain ⟨sb, s0, s1⟩ := hSw; go_simp; first | done | with_reducible rfl)
        simp only [Act.put, List.setIfInBounds_toArray, List.set_cons_zero, List.set_cons_succ]
        refine wpAnyH_take (i := 15) (v := ?_) (by simp only [List.getElem?_toArray, List.getElem?_cons_zero, List.getElem?_cons_succ]; exact rfl) (by kernel_rfl) (by kernel_rfl) (by kernel_rfl) (by exact fun _ _ _ h => h) (Or.inl ⟨by rfl, ?_⟩) (by assumption) ?_
        rotate_left 1
        · (intro w hSw; obtain ⟨sb, s0, s1⟩ := hSw; go_simp; first | done | with_reducible rfl)
        simp only [Act.put, List.setIfInBounds_toArray, List.set_cons_zero, List.set_cons_succ]
        refine wpAnyH_take (i := 16) (v := ?_) (by simp only [List.getElem?_toArray, List.getElem?_cons_zero, List.getElem?_cons_succ]; exact rfl) (by kernel_rfl) (by kernel_rfl) (by kernel_rfl) (by exact fun _ _ _ h => h) (Or.inl ⟨by rfl, ?_⟩) (by assumption) ?_
        rotate_left 1
        · (intro w hSw; obtain ⟨sb, s0, s1⟩ := hSw; go_simp; first | done | with_reducible rfl)
        simp only [Act.put, List.setIfInBounds_toArray, List.set_cons_zero, List.set_cons_succ]
        refine wpAnyH_take (i := 17) (v := ?_) (by simp only [List.getElem?_toArray, List.getElem?_cons_zero, List.getElem?_cons_succ]; exact rfl) (by kernel_rfl) (by kernel_rfl) (by kernel_rfl) (by exact fun _ _ _ h => h) (Or.inl ⟨by rfl, ?_⟩) (by assumption) ?_
        rotate_left 1
        · (intro w hSw; obtain ⟨sb, s0, s1⟩ := hSw; go_simp; first | done | with_reducible rfl)
        simp only [Act.put, List.setIfInBounds_toArray, List.set_cons_zero, List.set_cons_succ]
        refine wpAnyH_take (i := 20) (v := ?_) (by simp only [List.getElem?_toArray, List.getElem?_cons_zero, List.getElem?_cons_succ]; exact rfl) (by kernel_rfl) (by kernel_rfl) (by kernel_rfl) (by exact fun _ _ _ h => h) (Or.inl ⟨by rfl, ?_⟩) (by assumption) ?_
        rotate_left 1
        · (intro w hSw; obtain ⟨sb, s0, s1⟩ := hSw; go_simp; first | done | with_reducible rfl)
        simp only [Act.put, List.setIfInBounds_toArray, List.set_cons_zero, List.set_cons_succ]
        refine wpAnyH_ready (rs := [9]) (by kernel_rfl) (by simp) ?_
        refine AllReadyH.cons (by simp only [List.getElem?_toArray, List.getElem?_cons_zero, List.getElem?_cons_succ]; exact rfl) (fun K hK => ?_) AllReadyH.nil
        go_simp
        go_at_call 32
        refine (hedge _ _ _).mono ?_; rintro e w2 ⟨rfl, hb2⟩
        go_simp
        refine hK.out _ _ ?_ (fun hHeld => ?_)
        · exact ⟨hHeld.1.then_ hb2, (hb2.cell hHeld.1.lt).trans hHeld.2.1, (hb2.cell hHeld.1.lt).trans hHeld.2.2⟩
        clear hK K
        try simp only [Act.put, List.setIfInBounds_toArray, List.set_cons_zero, List.set_cons_succ]
        have hf2 := (HF.out.drew).then_ hb2
        have y1 : w2.cell? ⟨w.heap.size + 2, 3, none⟩ = some (.int .i64 0) := hf2.cell 3
        have y2 : w2.cell? ⟨w.heap.size + 2, 7, none⟩ = some (.bool false) := hf2.cell 7
        have z1 : w2.frozen? ⟨w.heap.size + 2, 3, none⟩ = false := hf2.frozen 3
        have z2 : w2.frozen? ⟨w.heap.size + 2, 7, none⟩ = false := hf2.frozen 7
        have HF2 := Lib.hid hf2
        have HR2 := Lib.hid ((HR.out.drew).then_ hb2)
        have HB2 := Lib.hid (below_then (HB.out.drew) hb2)
        clear hf2 hb2
        refine wpAnyH_take (i := 18) (v := ?_) (by simp only [List.getElem?_toArray, List.getElem?_cons_zero, List.getElem?_cons_succ]; exact rfl) (by kernel_rfl) (by kernel_rfl) (by kernel_rfl) (by exact fun _ _ _ h => h) (Or.inl ⟨by rfl, ?_⟩) (by assumption) ?_
        rotate_left 1
        · (intro w hSw; obtain ⟨sb, s0, s1⟩ := hSw; go_simp; first | done | with_reducible rfl)
        simp only [Act.put, List.setIfInBounds_toArray, List.set_cons_zero, List.set_cons_succ]
        refine wpAnyH_ready (rs := [19]) (by kernel_rfl) (by simp) ?_
        refine AllReadyH.cons (by simp only [List.getElem?_toArray, List.getElem?_cons_zero, List.getElem?_cons_succ]; exact rfl) (fun K hK => ?_) AllReadyH.nil
        go_simp
        refine hK.out _ _ ?_ (fun hHeld => ?_)
        · exact ⟨hHeld.1.far (by show w.heap.size ≠ w.heap.size + 1 + 1; omega) _, (World.cell?_setCell_other _ _ _ _ (by simp)).trans hHeld.2.1, (World.cell?_setCell_other _ _ _ _ (by simp)).trans hHeld.2.2⟩
        clear hK K
        try simp only [Act.put, List.setIfInBounds_toArray, List.set_cons_zero, List.set_cons_succ]
        refine wpAnyH_take (i := 21) (v := ?_) (by simp only [List.getElem?_toArray, List.getElem?_cons_zero, List.getElem?_cons_succ]; exact rfl) (by kernel_rfl) (by kernel_rfl) (by kernel_rfl) (by exact fun _ _ _ h => h) (Or.inl ⟨by rfl, ?_⟩) (by assumption) ?_
        rotate_left 1
        · (intro w hSw; obtain ⟨sb, s0, s1⟩ := hSw; go_simp; first | done | with_reducible rfl)
        simp only [Act.put, List.setIfInBounds_toArray, List.set_cons_zero, List.set_cons_succ]
        refine wpAnyH_ready (rs := [22]) (by kernel_rfl) (by simp) ?_
        refine AllReadyH.cons (by simp only [List.getElem?_toArray, List.getElem?_cons_zero, List.getElem?_cons_succ]; exact rfl) (fun K hK => ?_) AllReadyH.nil
        go_simp
        refine hK.out _ _ ?_ (fun hHeld => ?_)
        · exact ⟨hHeld.1.far (by show w.heap.size ≠ w.heap.size + 1 + 1; omega) _, (World.cell?_setCell_other _ _ _ _ (by simp)).trans hHeld.2.1, (World.cell?_setCell_other _ _ _ _ (by simp)).trans hHeld.2.2⟩
        clear hK K
        try simp only [Act.put, List.setIfInBounds_toArray, List.set_cons_zero, List.set_cons_succ]
        refine wpAnyH_done (by kernel_rfl) ?_ _
        go_upto_region 7 with fail
        refine at_any (fun wx => Blk wx w.heap.size 29 c.cells ∧ Blk wx (w.heap.size + 1) 32 (c.fr 0) ∧ Blk wx (w.heap.size + 1 + 1) 32 (((c.fr 3).setIfInBounds 3 (.int .i64 (c.mar 3))).setIfInBounds 7 (.bool (decide (c.n 20 = 0)))) ∧ Below w.heap.size w wx)
          ⟨hHeld.1, ((HR2.out.far (by show w.heap.size + 1 ≠ w.heap.size + 1 + 1; omega) _).far (by show w.heap.size + 1 ≠ w.heap.size + 1 + 1; omega) _), (HF2.out.put 3 _).put 7 _, below_set (below_set HB2.out (by show w.heap.size ≤ w.heap.size + 1 + 1; omega) _) (by show w.heap.size ≤ w.heap.size + 1 + 1; omega) _⟩ ?_
        clear hHeld HR2 HF2 HB2 HR HF HC HB x1 x2 y1 y2 z1 z2
        rintro wx ⟨hc, hr, hf, hb⟩
        have x1 : wx.cell? ⟨w.heap.size, 28, none⟩ = some (.int .i64 (c.n 28)) := hc.cell 28
        have x2 : wx.cell? ⟨w.heap.size, 29, none⟩ = some (.int .i64 (c.n 29)) := hc.cell 29
        have xl := hc.lt
        have HC := Lib.hid hc
        have HR := Lib.hid hr
        have HF := Lib.hid hf
        have HB := Lib.hid hb
        have HP : Hid (c.pad 3 = max (sideF (c.n 28) (c.n 29) (c.n 55)) 0) := Lib.hid rfl
        have HD : Hid (c.edg 3 = max (hold (c.n 33)) 0) := Lib.hid rfl
        have hed : ∀ w, Calls Try.prog 32 #[.agg c.cells, .agg #[.int .i64 (c.n 28), .int .i64 (c.n 29)]] w fun e w' => e = .returned (.int .i64 (sideF (c.n 28) (c.n 29) (c.n 55))) ∧ Below w.heap.size w w' := fun w => hedge _ _ w
        generalize sideF (c.n 28) (c.n 29) (c.n 55) = sd at *
        clear hc hr hf hb hedge
        refine wp_region_ext_tail 12 (by kernel_rfl) (by kernel_rfl) ?_
        simp only [List.take_succ_cons, List.take_zero, List.drop_succ_cons, List.drop_zero]
        by_cases hsd : sd < 0
        all_goals
          repeat (first
            | (refine wpQuiet_load_whole (by simp [Region.wanted]) 29 (.tmp 1) rfl w.heap.size rfl HC.out Try.underlying29 rfl (by kernel_rfl) ?_
               simp only [Act.put, List.setIfInBounds_toArray, List.set_cons_zero, List.set_cons_succ])
            | (go_big_quiet_step ((go_at_call 32; exact quiet_ext (hed _)))))
          refine wpQuiet_nil ?_
          intro w3 hw3
          have hb3 := (grown_rules hw3).2.2.2
          have hc3 := HC.out.then_ hb3
          have hf3 := HF.out.then_ hb3
          have x3 : w3.cell? ⟨w.heap.size, 33, none⟩ = some (.int .i64 (c.n 33)) := hc3.cell 33
          have y1 : w3.cell? ⟨w.heap.size + 1 + 1, 11, none⟩ = some (.int .i64 0) := hf3.cell 11
          have y2 : w3.cell? ⟨w.heap.size + 1 + 1, 15, none⟩ = some (.int .i64 0) := hf3.cell 15
          have z1 : w3.frozen? ⟨w.heap.size + 1 + 1, 11, none⟩ = false := hf3.frozen 11
          have z2 : w3.frozen? ⟨w.heap.size + 1 + 1, 15, none⟩ = false := hf3.frozen 15
          have HC3 := Lib.hid hc3
          have HF3 := Lib.hid hf3
          have HR3 := Lib.hid (HR.out.then_ hb3)
          have HB3 := Lib.hid (below_then HB.out hb3)
          clear hc3 hf3 hb3 hw3 x1 x2 xl hed
          go_wp2_with fail
          refine (Hold_any _ _).mono ?_; rintro e w' ⟨rfl, rfl⟩
          have HH := Lib.hid (show hold (c.n 33) = hold (c.n 33) from rfl)
          go_wp2_with fail
        all_goals
          go_roundw
          case rel =>
            refine ⟨4, by omega, by go_num, (HC3.out.far (by show w.heap.size ≠ w.heap.size + 1 + 1; omega) _).far (by show w.heap.size ≠ w.heap.size + 1 + 1; omega) _,
              (HR3.out.far (by show w.heap.size + 1 ≠ w.heap.size + 1 + 1; omega) _).far (by show w.heap.size + 1 ≠ w.heap.size + 1 + 1; omega) _, ?_,
              below_set (below_set HB3.out (by show w.heap.size ≤ w.heap.size + 1 + 1; omega) _) (by show w.heap.size ≤ w.heap.size + 1 + 1; omega) _⟩
            have e1 : (if hold (c.n 33) < 0 then 0 else hold (c.n 33)) = c.edg 3 := by rw [HD.out]; split <;> omega
            rw [e1]
            first
              | rw [show (Value.int IntKind.i64 0) = Value.int IntKind.i64 (c.pad 3) by rw [HP.out]; congr 1; omega]
              | rw [show (Value.int IntKind.i64 sd) = Value.int IntKind.i64 (c.pad 3) by rw [HP.out]; congr 1; omega]
            have hbk := (HF3.out.put 11 (.int .i64 (c.pad 3))).put 15 (.int .i64 (c.edg 3))
            have e3 : (((((c.fr 3).setIfInBounds 3 (.int .i64 (c.mar 3))).setIfInBounds 7 (.bool (decide (c.n 20 = 0)))).setIfInBounds 11 (.int .i64 (c.pad 3))).setIfInBounds 15 (.int .i64 (c.edg 3))) = c.fr 4 := by simp [Cs.fr]
            rw [e3] at hbk
            exact hbk
          case measure => (simp [intOf]; try omega)

end Go.Proofs.Ytdddlnemlpgnlaa
