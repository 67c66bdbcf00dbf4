/- The lexer puts out a token. -/
import Derived.Test.YtmicgfpiknibhaaLexRun
import Derived.Test.YtmicgfpiknibhaaLexCut
namespace Go.Proofs.Ytmicgfpiknibhaa
open Go.RowKit
set_option linter.unusedSimpArgs false
set_option linter.unusedVariables false
attribute [local go_sem] cell?_ext frozen?_ext lt_size_ext

/-- A lexer that has put out these tokens. -/
def Lo (w : World) (r : Nat) (s : ByteArray) (a : Nat) (L : List Tk) : Prop := ∃ v, Lx w r s a v ∧ w.ownsRow (r + 1) 23 3 v L.length (tkCells L)

theorem tk_new1 (w : World) (t : Tk) (e : TypeId) : ∀ j u, t.cells[j]? = some u → (w.alloc (.cells #[.int .i64 t.k, .string (strOf t.x), .int .i64 t.n] e)).cell? ((⟨w.heap.size, 0, none⟩ : Addr).add j) = some u := by
  intro j u hj
  have e1 : (⟨w.heap.size, 0, none⟩ : Addr).add j = ⟨w.heap.size, j, none⟩ := by
    unfold Addr.add; split
    · rename_i h0; rw [h0]
    · simp
  have hk := (Blk.new w e #[.int .i64 t.k, .string (strOf t.x), .int .i64 t.n]).cell j
  rw [e1, hk, ← hj]
  simp [Tk.cells]

theorem own_keeps {w w' : World} {r : Nat} {e : TypeId} {size n : Nat} {v : Value} {xs : List Value} (h : w.ownsRow (r + 1) e size v n xs) (hk : Keeps (fun i => i = r) w w') : w'.ownsRow (r + 1) e size v n xs :=
  own_of_block h fun k hb => hk.block k (h.lt k hb).2 (by have := (h.lt k hb).1; intro e; subst e; omega)

set_option maxHeartbeats 1000000 in
theorem put_any (s : ByteArray) (r a : Nat) (v : Value) (L : List Tk) (t : Tk) (w : World) (hL : L.length ≤ 1000000) (hB : Lx w r s a v) (ho : w.ownsRow (r + 1) 23 3 v L.length (tkCells L)) :
    Calls Try.prog 34 #[.pointer (some ⟨r, 0, none⟩), .int .i64 t.k, .string (strOf t.x), .int .i64 t.n] w fun e w' => e = .returned (.tuple #[]) ∧ Lo w' r s a (L ++ [t]) ∧ Below r w w' := by
  obtain ⟨i0, hi, hz0, hz1, hz2⟩ := info_parts token_info
  have c2 : w.cell? ⟨r, 2, none⟩ = some v := hB.cell 2
  have fz := hB.frozen
  have hrl := hB.lt
  have ho1 := ho.alloc (.cells #[.int .i64 t.k, .string (strOf t.x), .int .i64 t.n] 23)
  have hx1 : Lx (w.alloc (.cells #[.int .i64 t.k, .string (strOf t.x), .int .i64 t.n] 23)) r s a v := hB.alloc _
  have HO := Lib.hid ho1
  have HX := Lib.hid hx1
  have HNW := Lib.hid (tk_new1 w t 23)
  have hb1 : Below r w (w.alloc (.cells #[.int .i64 t.k, .string (strOf t.x), .int .i64 t.n] 23)) := (Below.refl r w).alloc (by omega) _
  have HB := Lib.hid hb1
  clear hB ho ho1 hx1 hb1
  go_enter Try.func34, Try.ntmps34
  go_wp2_with ((at_builtin; refine wpList_append_own_at _ rfl (.tmp 12) (.tmp 17) _ rfl (r + 1) 23 i0 (.agg #[.int .i64 0, .string { data := #[] }, .int .i64 0]) 3 32 Try.underlying26 hi hz0 hz1 hz2 rfl (by decide) _ _ _ rfl HO.out ⟨w.heap.size, 0, none⟩ 1 1 t.cells rfl rfl ?c1 ?c2 ?c3 ?c4 ?c5 ?_))
  case c1 => exact HNW.out
  case c2 => exact tk_one _
  case c3 => unfold maxLen; omega
  case c4 => omega
  case c5 => simp; omega
  intro v' w3 hown3 hg3 _ _
  obtain ⟨g', cap', rfl⟩ : ∃ g' cap', v' = .slice (some ⟨g', 0, none⟩) (L.length + 1) cap' := by
    rcases hown3.2 with ⟨-, h0⟩ | ⟨g, cap, cur, rfl, -⟩
    · exact absurd (h0 : L.length + 1 = 0) (by omega)
    · exact ⟨g, cap, rfl⟩
  have hne : some r ≠ v.ownBlock := fun e => by have := (HO.out.lt r e.symm).1; omega
  have hx3 : Lx w3 r s a v := Blk.of_kept HX.out (hg3.block r HX.out.lt hne)
  have hb3 : Below r w w3 := HB.out.grown hg3 (by simp; omega) fun k hk => by have := (HO.out.lt k hk).1; omega
  have hown4 : w3.ownsRow (r + 1) 23 3 (.slice (some ⟨g', 0, none⟩) (L.length + 1) cap') (L ++ [t]).length (tkCells (L ++ [t])) := by
    rw [tkCells_append, List.length_append]
    have e : tkCells [t] = t.cells := List.append_nil _
    rw [e]; exact hown3
  have fz3 := hx3.frozen
  have hrl3 := hx3.lt
  have y2 : w3.cell? ⟨r, 2, none⟩ = some v := hx3.cell 2
  have HO3 := Lib.hid hown4
  have HX3 := Lib.hid hx3
  have HB3 := Lib.hid hb3
  clear hown3 hown4 hg3 hx3 hb3 c2 fz hrl hne
  go_wp2_with fail
  go_end0
  exact ⟨rfl, ⟨_, HX3.out.put 2 _, own_of_block HO3.out fun k hk => Below.heap_setCell _ _ _ k (by have h1 := (HO3.out.lt k hk).1; intro e; have e2 : k = r := e; omega)⟩, HB3.out.setCell (Nat.le_refl r) _⟩

end Go.Proofs.Ytmicgfpiknibhaa
