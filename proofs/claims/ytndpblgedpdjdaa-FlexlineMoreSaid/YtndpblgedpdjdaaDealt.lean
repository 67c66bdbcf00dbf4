/- The program's dealing of a total that is not below 0: the walk. -/
import Derived.Test.YtndpblgedpdjdaaStableWalk
import Derived.Test.YtndpblgedpdjdaaClaims
import Derived.Deep.OwnRows
import Derived.Maps.AppendAt
namespace Go.Proofs.Ytndpblgedpdjdaa
open Go.Shelf Go.RowKit Go.Lib Go.Sort
set_option linter.unusedSimpArgs false
set_option linter.unusedVariables false

theorem int_info : (Try.prog.info? 3).map (fun i => (i.zero, i.size, i.bytes)) = some (some (.int .i64 0), 1, 8) := by kernel_rfl
theorem claim_info : (Try.prog.info? 71).map (fun i => (i.zero, i.size, i.bytes)) = some (some (.agg #[.int .i64 0, .int .i64 0]), 2, 16) := by kernel_rfl

/-- A slice's numbers lie in memory. -/
def Nums (w : World) (b o n : Nat) (f : Nat → Int) : Prop := b < w.heap.size ∧ ∀ i, i < n → w.cell? ⟨b, o + i, none⟩ = some (.int .i64 (f i))
theorem Nums.below {w w' : World} {b o n : Nat} {f : Nat → Int} (h : Nums w b o n f) (hb : Below w.heap.size w w') : Nums w' b o n f :=
  ⟨Nat.lt_of_lt_of_le h.1 hb.size, fun i hi => (hb.cell (p := ⟨b, o + i, none⟩) h.1).trans (h.2 i hi)⟩
theorem Nums.row {w : World} {b n : Nat} {f : Nat → Int} (h : w.rowIs b 3 n (fun i => .int .i64 (f i))) : Nums w b 0 n f := ⟨h.lt, fun i hi => by rw [Nat.zero_add]; exact h.cell hi⟩

/-- The cells of claims. -/
def cellOf (r : Nat → Int) (j : Nat) : Value := if j % 2 = 0 then .int .i64 ((j / 2 : Nat) : Int) else .int .i64 (r (j / 2))
def cellsOf (r : Nat → Int) (k : Nat) : List Value := (List.range (2 * k)).map (cellOf r)
theorem cellsOf_snoc (r : Nat → Int) (k : Nat) : cellsOf r (k + 1) = cellsOf r k ++ [.int .i64 (k : Int), .int .i64 (r k)] := by
  unfold cellsOf
  rw [show 2 * (k + 1) = 2 * k + 1 + 1 by omega, List.range_succ, List.range_succ, List.map_append, List.map_append, List.append_assoc]
  congr 1
  have e1 : cellOf r (2 * k) = .int .i64 (k : Int) := by unfold cellOf; rw [if_pos (by omega), show 2 * k / 2 = k by omega]
  have e2 : cellOf r (2 * k + 1) = .int .i64 (r k) := by unfold cellOf; rw [if_neg (by omega), show (2 * k + 1) / 2 = k by omega]
  simp [e1, e2]
theorem cellsOf_at (r : Nat → Int) (k j : Nat) (h : j < 2 * k) : (cellsOf r k)[j]? = some (cellOf r j) := by
  unfold cellsOf
  rw [List.getElem?_map, List.getElem?_range h]; rfl
/-- Claims as they are made. -/
def claims (r : Nat → Int) (n : Nat) : Array (Int × Int) := ((List.range n).map fun i : Nat => ((i : Int), r i)).toArray
theorem claims_size (r : Nat → Int) (n : Nat) : (claims r n).size = n := by simp [claims]
theorem claims_at (r : Nat → Int) (n i : Nat) (h : i < n) : (claims r n)[i]! = ((i : Int), r i) := by
  rw [getElem!_pos (claims r n) i (by rw [claims_size]; exact h)]
  simp [claims]
theorem claims_flat (r : Nat → Int) (n j : Nat) (h : j < n * 2) : (flatK encC 2 (claims r n))[j]! = cellOf r j := by
  rw [get_flatK _ _ _ _ (by rw [claims_size]; exact h), claims_at _ _ _ (by omega)]
  unfold cellOf encC
  rcases (by omega : j % 2 = 0 ∨ j % 2 = 1) with e | e
  · rw [e, if_pos rfl]; rfl
  · rw [e, if_neg (by decide)]; rfl
theorem row_of_own {w : World} {base g cap n : Nat} {r : Nat → Int} (h : w.ownsRow base 71 2 (.slice (some ⟨g, 0, none⟩) n cap) n (cellsOf r n)) : Row2 w g 0 (claims r n) where
  hk := encC_len
  h1 := encC_one
  hH := fun j hj => by
    rw [size_flatK, claims_size] at hj
    rw [Nat.zero_add]
    refine ⟨?_, h.frozenAt j⟩
    rw [h.cellAt j hj, cellsOf_at _ _ _ (by omega), claims_flat r n j hj]; rfl
  hblk := (h.lt g (by simp [Value.ownBlock])).2

theorem SW2.below {w0 W : World} {blk off : Nat} {d : Array (Int × Int)} (h : SW2 w0 blk off d W) {B : Nat} (hb : B ≤ blk) (hlt : blk < w0.heap.size) : Below B w0 W := by
  obtain ⟨n, os, rfl⟩ := h
  unfold sortWorldK
  refine ⟨rfl, rfl, rfl, ?_, fun k hk => ?_⟩
  · rw [size_grow, size_putRowK]; exact Nat.le_add_right _ _
  · rw [heap_grow_old _ _ (by rw [size_putRowK]; show k < w0.heap.size; omega)]
    unfold putRowK putRow mapBlock
    simp only [Array.getElem?_modify]
    rw [if_neg (by omega)]; rfl

/-- What is asked of a total and weights. -/
structure Deals (t S : Int) (n : Nat) (W : Nat → Int) : Prop where
  t0 : 0 ≤ t
  t1 : t ≤ 1073741824
  S0 : 0 < S
  S1 : S ≤ 1125899906842624
  sum : S = Sh.sm W n
  w0 : ∀ i, i < n → 0 ≤ W i
  w1 : ∀ i, i < n → W i ≤ 1073741824
  n1 : n ≤ 1048576
section
variable {t S : Int} {n : Nat} {W : Nat → Int}
theorem Deals.pos (h : Deals t S n W) : 0 < n := by
  rcases Nat.eq_zero_or_pos n with rfl | h0
  · have := h.sum; have := h.S0; simp only [Sh.sm] at *; omega
  · exact h0
theorem Deals.mul (h : Deals t S n W) {i : Nat} (hi : i < n) : 0 ≤ t * W i ∧ t * W i ≤ 1152921504606846976 := by
  refine ⟨Int.mul_nonneg h.t0 (h.w0 i hi), ?_⟩
  calc t * W i ≤ 1073741824 * 1073741824 := Int.mul_le_mul h.t1 (h.w1 i hi) (h.w0 i hi) (by decide)
    _ = 1152921504606846976 := by decide
theorem Deals.q0 (h : Deals t S n W) {i : Nat} (hi : i < n) : 0 ≤ Sh.q t S W i := Sh.q_nonneg h.t0 h.S0 (h.w0 i hi)
theorem Deals.left0 (h : Deals t S n W) : 0 ≤ Sh.left t S W n ∧ Sh.left t S W n < n := Sh.left_bd h.sum h.S0
theorem Deals.leftk (h : Deals t S n W) {k : Nat} (hk : k ≤ n) : 0 ≤ Sh.left t S W k ∧ Sh.left t S W k ≤ 1073741824 := by
  have h1 := Sh.sm_mono (f := Sh.q t S W) (fun i hi => h.q0 hi) hk
  have h2 := h.left0
  have h3 := Sh.sm_nonneg (f := Sh.q t S W) (n := k) (fun i hi => h.q0 (Nat.lt_of_lt_of_le hi hk))
  have h4 := h.t1
  unfold Sh.left at *; omega
theorem left_succ (k : Nat) : Sh.left t S W (k + 1) = Sh.left t S W k - Sh.q t S W k := by unfold Sh.left; simp only [Sh.sm]; omega
theorem left_none : Sh.left t S W 0 = t := by unfold Sh.left; simp only [Sh.sm]; omega
theorem Deals.q1 (h : Deals t S n W) {i : Nat} (hi : i < n) : Sh.q t S W i ≤ 1073741824 := by
  have h1 := (h.leftk (k := i + 1) hi).1
  have h2 := (h.leftk (k := i) (by omega)).2
  rw [left_succ] at h1; omega
theorem Deals.rs0 (h : Deals t S n W) (i : Nat) : 0 ≤ Sh.rs t S W i ∧ Sh.rs t S W i < S := Sh.rs_bd h.S0 i
end

/-- The orders agree on claims that lie as they were made. -/
theorem claims_agree {t S : Int} {n : Nat} {W : Nat → Int} (h : Deals t S n W) : ∀ x y, x < y → y < (claims (Sh.rs t S W) n).size → ltOf cfC (claims (Sh.rs t S W) n)[y]! (claims (Sh.rs t S W) n)[x]! = Lx (claims (Sh.rs t S W) n)[y]! (claims (Sh.rs t S W) n)[x]! := by
  intro x y hxy hy
  rw [claims_size] at hy
  rw [claims_at _ _ _ hy, claims_at _ _ _ (by omega)]
  have h1 := h.rs0 x
  have h2 := h.rs0 y
  have h3 := h.S1
  unfold ltOf cfC Lx wrap64
  simp only [decide_eq_decide]
  omega

end Go.Proofs.Ytndpblgedpdjdaa
