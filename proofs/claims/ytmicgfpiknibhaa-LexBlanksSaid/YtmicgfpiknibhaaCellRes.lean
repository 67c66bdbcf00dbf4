/- Results that lie in a block; blocks stored into whole. -/
import Derived.Test.YtmicgfpiknibhaaMem
import Derived.Deep.MidRow
import Derived.Laws.Tables
import Derived.Deep.CutRange
namespace Go.Proofs.Ytmicgfpiknibhaa
open Go.RowKit
set_option linter.unusedSimpArgs false
set_option linter.unusedVariables false

/-- A walk goes on at any world of which some facts are known. -/
theorem at_any {P : Program} {c : Code} {Q : Exit → Act → World → Prop} {a : Act} {w : World} (F : World → Prop) (h : F w) (k : ∀ wx, F wx → c.wp P Q a wx) : c.wp P Q a w := k w h
theorem Blk.range {w : World} {g : Nat} {t : TypeId} {cs : Array Value} (h : Blk w g t cs) : w.rangeAt g 0 cs.toList := fun j u hu => by rw [Nat.zero_add, h.cell j]; simpa using hu
theorem Blk.new_at {w : World} {t : TypeId} {cs : Array Value} {g : Nat} (h : w.heap.size = g) : Blk (w.alloc (.cells cs t)) g t cs := h ▸ Blk.new w t cs
theorem Blk.there {w : World} {g : Nat} {t : TypeId} {cs : Array Value} (h : Blk w g t cs) {n : Nat} (hn : n ≤ cs.size) : w.there g 0 n := fun j hj => by
  rw [Nat.zero_add, h.cell j]
  exact ⟨by simp; omega, h.frozen j⟩
theorem below_setCells {n : Nat} {w : World} {g : Nat} (hg : n ≤ g) : ∀ (vs : List Value) (o : Nat) (w' : World), Below n w w' → Below n w (w'.setCells g o vs)
  | [], _, _, h => h
  | v :: r, o, w', h => below_setCells hg r (o + 1) _ (h.setCell hg v)
/-- A function whose one result is a struct's variable that fills its block. -/
theorem results_cell {fn : Func} {tmps : Array Value} {w : World} {s : Nat} {t t' : TypeId} {g : Nat} {cs : Array Value} {d : TypeDesc} (hf : fn.results = #[.cell s t]) (hp : tmps.getD s undef = .pointer (some ⟨g, 0, none⟩)) (hb : Blk w g t' cs)
    (hu : Try.prog.underlying t = some d) (hd : d.isRow = true) (hi : (Try.prog.info? t).map (·.size) = some cs.size) : (results fn tmps).run Try.prog w = .ok (.agg cs) w := by
  have h1 := run_loadVar_mid (P := Try.prog) w g 0 t cs.toList d hb.range hu hd (by simpa using hi)
  rw [Array.toArray_toList] at h1
  unfold results
  rw [hf]
  have hp' : tmps[s]?.getD undef = .pointer (some ⟨g, 0, none⟩) := by simpa using hp
  simpa [hp', asAddr, go_sem] using h1
theorem Blk.setCells_from {g : Nat} {t : TypeId} : ∀ (vs pre suf : List Value) (w : World), suf.length = vs.length → Blk w g t (pre ++ suf).toArray → Blk (w.setCells g pre.length vs) g t (pre ++ vs).toArray
  | [], pre, suf, w, hl, h => by
    obtain rfl : suf = [] := List.length_eq_zero_iff.1 hl
    exact h
  | v :: r, pre, suf, w, hl, h => by
    match suf, hl, h with
    | s :: suf, hl, h =>
      have h1 := h.put pre.length v
      have e : ((pre ++ s :: suf).toArray.setIfInBounds pre.length v) = ((pre ++ [v]) ++ suf).toArray := by simp
      rw [e] at h1
      have h2 := Blk.setCells_from r (pre ++ [v]) suf _ (by simpa using hl) h1
      simpa [World.setCells] using h2
theorem Blk.setCells_all {w : World} {g : Nat} {t : TypeId} {cs : Array Value} (h : Blk w g t cs) (vs : Array Value) (hl : vs.size = cs.size) : Blk (w.setCells g 0 vs.toList) g t vs := by
  have := Blk.setCells_from vs.toList [] cs.toList w (by simpa using hl.symm) (by simpa using h)
  simpa using this
/-- A function with two results, the first one a struct's variable that fills its block. -/
theorem results_cell_tmp {fn : Func} {tmps : Array Value} {w : World} {s u : Nat} {t t' : TypeId} {g : Nat} {cs : Array Value} {d : TypeDesc} {x : Value} (hf : fn.results = #[.cell s t, .tmp u]) (hp : tmps.getD s undef = .pointer (some ⟨g, 0, none⟩)) (hx : tmps.getD u undef = x) (hb : Blk w g t' cs)
    (hu : Try.prog.underlying t = some d) (hd : d.isRow = true) (hi : (Try.prog.info? t).map (·.size) = some cs.size) : (results fn tmps).run Try.prog w = .ok (.tuple #[.agg cs, x]) w := by
  have h1 := run_loadVar_mid (P := Try.prog) w g 0 t cs.toList d hb.range hu hd (by simpa using hi)
  rw [Array.toArray_toList] at h1
  have h2 : (loadVar t ⟨g, 0, none⟩).run Try.prog w = .ok (.agg cs) w := h1
  have e : results fn tmps = (do let v ← (do loadVar t (← asAddr (tmps.getD s undef))); pure (.tuple #[v, tmps.getD u undef])) := by
    unfold results
    rw [hf]
    simp
  rw [e, hp, hx]
  show (Sem.run Try.prog _ w) = _
  simp only [asAddr, pure_bind, Sem.run_bind, h2, Result.andThen_ok, Sem.run_pure]


end Go.Proofs.Ytmicgfpiknibhaa
