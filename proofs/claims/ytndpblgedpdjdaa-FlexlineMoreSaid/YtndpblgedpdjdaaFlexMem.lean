/- Items in memory; the reference's All. -/
import Derived.Test.YtndpblgedpdjdaaFlexRItem
import Derived.Test.YtndpblgedpdjdaaMem
import Derived.Maps.AppendAt
namespace Go.Proofs.Ytndpblgedpdjdaa
open Go.RowKit
set_option linter.unusedSimpArgs false
set_option linter.unusedVariables false
attribute [local go_sem] cell?_ext frozen?_ext lt_size_ext

/-- An item's cells. -/
def It.cells (t : It) : List Value := [.int .i64 t.base, .int .i64 t.least, .int .i64 t.most, .int .i64 t.margin, .int .i64 t.inner, .int .i64 t.grow, .int .i64 t.shrink]
/-- The cells of an item in memory. -/
structure ItAt (w : World) (b o : Nat) (t : It) : Prop where
  c0 : w.cell? ⟨b, o, none⟩ = some (.int .i64 t.base)
  c1 : w.cell? ⟨b, o + 1, none⟩ = some (.int .i64 t.least)
  c2 : w.cell? ⟨b, o + 2, none⟩ = some (.int .i64 t.most)
  c3 : w.cell? ⟨b, o + 3, none⟩ = some (.int .i64 t.margin)
  c4 : w.cell? ⟨b, o + 4, none⟩ = some (.int .i64 t.inner)
  c5 : w.cell? ⟨b, o + 5, none⟩ = some (.int .i64 t.grow)
  c6 : w.cell? ⟨b, o + 6, none⟩ = some (.int .i64 t.shrink)
theorem ItAt.kept {w w' : World} {b o : Nat} {t : It} (h : ItAt w b o t) (hc : w'.heap[b]? = w.heap[b]?) : ItAt w' b o t :=
  have e : ∀ j, w'.cell? ⟨b, j, none⟩ = w.cell? ⟨b, j, none⟩ := fun j => World.cell?_of_block hc
  ⟨(e _).trans h.c0, (e _).trans h.c1, (e _).trans h.c2, (e _).trans h.c3, (e _).trans h.c4, (e _).trans h.c5, (e _).trans h.c6⟩

/-- A slice of items in memory: no item, or all in a row. -/
def Its (w : World) (ao : Option Addr) (n : Nat) (L : Nat → It) : Prop := n = 0 ∨ ∃ b o, ao = some ⟨b, o, none⟩ ∧ b < w.heap.size ∧ ∀ k, k < n → ItAt w b (o + k * 7) (L k)
theorem Its.below {w w' : World} {ao : Option Addr} {n : Nat} {L : Nat → It} (h : Its w ao n L) (hb : Below w.heap.size w w') : Its w' ao n L :=
  h.imp id fun ⟨b, o, e, hl, hk⟩ => ⟨b, o, e, Nat.lt_of_lt_of_le hl hb.size, fun k hkn => (hk k hkn).kept (hb.block b hl)⟩
theorem Its.at {w : World} {ao : Option Addr} {n : Nat} {L : Nat → It} (h : Its w ao n L) {k : Nat} (hk : k < n) : ∃ b o, ao = some ⟨b, o, none⟩ ∧ b < w.heap.size ∧ ItAt w b (o + k * 7) (L k) := by
  obtain ⟨b, o, e, hl, h⟩ := h.resolve_left (by omega)
  exact ⟨b, o, e, hl, h k hk⟩

/-- The cells of items, one behind the other. -/
def itCells (L : Nat → It) : Nat → List Value
  | 0 => []
  | n + 1 => itCells L n ++ (L n).cells
theorem itCells_length (L : Nat → It) : ∀ n, (itCells L n).length = n * 7
  | 0 => rfl
  | n + 1 => by
    show (itCells L n ++ (L n).cells).length = _
    rw [List.length_append, itCells_length L n]
    show n * 7 + 7 = _
    omega
theorem itCells_at (L : Nat → It) : ∀ {n k j : Nat}, k < n → j < 7 → (itCells L n)[k * 7 + j]? = (L k).cells[j]?
  | 0, k, j, hk, _ => absurd hk (Nat.not_lt_zero _)
  | n + 1, k, j, hk, hj => by
    show (itCells L n ++ (L n).cells)[k * 7 + j]? = _
    have hl := itCells_length L n
    rcases Nat.lt_or_ge k n with h | h
    · rw [List.getElem?_append_left (by omega)]
      exact itCells_at L h hj
    · obtain rfl : k = n := by omega
      rw [List.getElem?_append_right (by omega), hl]
      congr 1; omega
theorem itCells_congr {L M : Nat → It} : ∀ {n}, (∀ i, i < n → L i = M i) → itCells L n = itCells M n
  | 0, _ => rfl
  | n + 1, h => by
    show itCells L n ++ (L n).cells = itCells M n ++ (M n).cells
    rw [itCells_congr fun i hi => h i (by omega), h n (by omega)]

/-- A row of items that a call has made. -/
theorem Its.of_own {w : World} {base : Nat} {e : TypeId} {v : Value} {n : Nat} {L : Nat → It} (h : w.ownsRow base e 7 v n (itCells L n)) :
    ∃ ao cap, v = .slice ao n cap ∧ Its w ao n L := by
  have hc := fun g (hg : v.ownBlock = some g) => h.cells hg
  rcases h.2 with ⟨rfl, rfl⟩ | ⟨g, cap, cur, rfl, hb, hg, -⟩
  · exact ⟨none, 0, rfl, .inl rfl⟩
  · refine ⟨_, cap, rfl, .inr ⟨g, 0, rfl, ?_, fun k hk => ?_⟩⟩
    · exact (Array.getElem?_eq_some_iff.1 hg).1
    · have hc := hc g rfl
      have key : ∀ j u, j < 7 → (L k).cells[j]? = some u → w.cell? ⟨g, 0 + k * 7 + j, none⟩ = some u := fun j u hj hu => by
        have h1 := hc (k * 7 + j) u (by rw [itCells_at L hk hj]; exact hu)
        have e : (⟨g, 0, none⟩ : Addr).add (k * 7 + j) = ⟨g, 0 + k * 7 + j, none⟩ := by
          unfold Addr.add; split
          · rename_i h0; congr 1; omega
          · simp [Nat.add_assoc]
        rw [e] at h1; exact h1
      exact ⟨key 0 _ (by decide) rfl, key 1 _ (by decide) rfl, key 2 _ (by decide) rfl, key 3 _ (by decide) rfl, key 4 _ (by decide) rfl, key 5 _ (by decide) rfl, key 6 _ (by decide) rfl⟩

theorem item_info : (Try.prog.info? 34).map (fun i => (i.zero, i.size, i.bytes)) = some (some (.agg #[.int .i64 0, .int .i64 0, .int .i64 0, .int .i64 0, .int .i64 0, .int .i64 0, .int .i64 0]), 7, 56) := by kernel_rfl
theorem ritem_info : (Try.prog.info? 36).map (fun i => (i.zero, i.size, i.bytes)) = some (some (.agg #[.int .i64 0, .int .i64 0, .int .i64 0, .int .i64 0, .int .i64 0, .int .i64 0, .int .i64 0]), 7, 56) := by kernel_rfl

/-- What hands back a row of items. -/
def ItsOut (w : World) (e : TypeId) (n : Nat) (L : Nat → It) (x : Ending) (w' : World) : Prop :=
  ∃ ao cap, x = .returned (.slice ao n cap) ∧ w'.ownsRow w.heap.size e 7 (.slice ao n cap) n (itCells L n) ∧ Below w.heap.size w w'

set_option maxHeartbeats 4000000 in
theorem RAll_any (ao : Option Addr) (cap n : Nat) (L : Nat → It) (hn : n ≤ 65536) (w : World) (hS : Its w ao n L) :
    Calls Try.prog 20 #[.slice ao n cap] w (ItsOut w 36 n fun i => (L i).held) := by
  obtain ⟨i0, hi, hz0, hz1, hz2⟩ := info_parts ritem_info
  have HS := Lib.hid hS
  clear hS
  go_enter Try.func20, Try.ntmps20
  go_wp2_with fail
  go_loopw [3, 4] (fun v3 v4 wr => ∃ k : Nat, k ≤ n ∧ v4 = .int .i64 k ∧ wr.ownsRow w.heap.size 36 7 v3 k (itCells (fun i => (L i).held) k) ∧ Below w.heap.size w wr) (fun _ v4 _ => n - (intOf v4).toNat)
  case atStart => exact ⟨0, Nat.zero_le _, rfl, World.ownsRow_nil _ _ _ _, Below.refl _ _⟩
  case round =>
    obtain ⟨k, hk, rfl, ho, hb⟩ := hrel
    by_cases hlt : k < n
    · obtain ⟨b, o, rfl, hbl, hN⟩ := (HS.out.below hb).at hlt
      have c0 := hN.c0
      have c1 := hN.c1
      have c2 := hN.c2
      have c3 := hN.c3
      have c4 := hN.c4
      have c5 := hN.c5
      have c6 := hN.c6
      have HO := Lib.hid ho
      have HB := Lib.hid hb
      have hh := fun w => RHeld_item (L k) w
      unfold It.val at hh
      clear hN ho hb
      go_wp2_with fail
      refine (hh _).mono ?_; rintro e w2 ⟨rfl, hb2⟩
      have ho2 := (own_then HO.out hb2).alloc (.cells #[.int .i64 (L k).held.base, .int .i64 (L k).held.least, .int .i64 (L k).held.most, .int .i64 (L k).held.margin, .int .i64 (L k).held.inner, .int .i64 (L k).held.grow, .int .i64 (L k).held.shrink] 36)
      have hnx : w.heap.size ≤ (w2.alloc (.cells #[.int .i64 (L k).held.base, .int .i64 (L k).held.least, .int .i64 (L k).held.most, .int .i64 (L k).held.margin, .int .i64 (L k).held.inner, .int .i64 (L k).held.grow, .int .i64 (L k).held.shrink] 36)).heap.size := by
        have h1 := HB.out.size; have h2 := hb2.size; simp; omega
      have HO2 := Lib.hid ho2
      have HNX := Lib.hid hnx
      have HB2 := Lib.hid hb2
      clear ho2 hnx hb2
      go_wp2_with ((at_builtin; refine wpList_append_own_at _ rfl (.tmp 11) (.tmp 17) _ rfl w.heap.size 36 i0 (.agg #[.int .i64 0, .int .i64 0, .int .i64 0, .int .i64 0, .int .i64 0, .int .i64 0, .int .i64 0]) 7 56 Try.underlying29 hi hz0 hz1 hz2 rfl (by decide) _ _ _ rfl HO2.out ⟨w2.heap.size, 0, none⟩ 1 1 (L k).held.cells rfl rfl ?c1 ?c2 ?c3 ?c4 HNX.out ?_))
      case c1 =>
        intro j u hj
        have e : (⟨w2.heap.size, 0, none⟩ : Addr).add j = ⟨w2.heap.size, j, none⟩ := by
          unfold Addr.add; split
          · rename_i h0; rw [h0]
          · simp
        rw [e, (Blk.new w2 _ _).cell]
        simpa [It.cells] using hj
      case c2 =>
        intro u hu
        simp [It.cells] at hu
        rcases hu with rfl | rfl | rfl | rfl | rfl | rfl | rfl <;> rfl
      case c3 => unfold maxLen; omega
      case c4 => omega
      intro v' w3 hown3 hg3 _ _
      have hb3 : Below w.heap.size w w3 := (below_alloc (below_then HB.out HB2.out) _).grown hg3 HNX.out fun k hk => (HO2.out.lt k hk).1
      have HO3 := Lib.hid hown3
      have HB3 := Lib.hid hb3
      clear hown3 hg3
      go_wp2_with fail
      go_roundw
      case rel => exact ⟨k + 1, hlt, by go_num, HO3.out, HB3.out⟩
      case measure => simp [intOf]; omega
    · obtain rfl : k = n := by omega
      obtain ⟨ao', cap', rfl, -⟩ := Its.of_own ho
      have HO := Lib.hid ho
      have HB := Lib.hid hb
      clear ho hb
      go_wp2_with fail
      go_ret
      exact ⟨ao', cap', rfl, HO.out, HB.out⟩

end Go.Proofs.Ytndpblgedpdjdaa
