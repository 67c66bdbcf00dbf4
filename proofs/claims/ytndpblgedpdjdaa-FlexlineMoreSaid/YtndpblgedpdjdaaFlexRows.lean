/- A line's rows in memory: its items (never written), its lengths, what is frozen. -/
import Derived.Test.YtndpblgedpdjdaaFlexRDealt
namespace Go.Proofs.Ytndpblgedpdjdaa
open Go.RowKit
set_option linter.unusedSimpArgs false
set_option linter.unusedVariables false

/-- Items at ao; lengths in block b1, what is frozen in block b2, both younger than w. -/
structure FxRows (w wr : World) (ao : Option Addr) (b1 b2 n : Nat) (L : Nat → It) (out : Nat → Int) (fz : Nat → Bool) : Prop where
  its : Its wr ao n L
  far1 : ∀ a, ao = some a → a.block ≠ b1
  far2 : ∀ a, ao = some a → a.block ≠ b2
  ne : b1 ≠ b2
  ge1 : w.heap.size ≤ b1
  ge2 : w.heap.size ≤ b2
  out : wr.rowIs b1 3 n (fun i => .int .i64 (out i))
  fz : wr.rowIs b2 4 n (fun i => .bool (fz i))
  below : Below w.heap.size w wr

namespace FxRows
variable {w wr w' : World} {ao : Option Addr} {b1 b2 n : Nat} {L : Nat → It} {out : Nat → Int} {fz : Nat → Bool}
theorem then_ (h : FxRows w wr ao b1 b2 n L out fz) (hb : Below wr.heap.size wr w') : FxRows w w' ao b1 b2 n L out fz :=
  ⟨h.its.below hb, h.far1, h.far2, h.ne, h.ge1, h.ge2, h.out.of_block (hb.block b1 h.out.lt), h.fz.of_block (hb.block b2 h.fz.lt), below_then h.below hb⟩
theorem alloc (h : FxRows w wr ao b1 b2 n L out fz) (o : Obj) : FxRows w (wr.alloc o) ao b1 b2 n L out fz := h.then_ ((Below.refl _ wr).alloc (Nat.le_refl _) o)
theorem its_far {a : Addr} (h : Its wr ao n L) (hf : ∀ x, ao = some x → x.block ≠ a.block) (v : Value) : Its (wr.setCell a v) ao n L :=
  h.imp id fun ⟨b, o, e, hl, hk⟩ => ⟨b, o, e, by simpa [World.setCell] using hl, fun k hkn => (hk k hkn).kept (Below.heap_setCell wr a v b (hf _ e))⟩
theorem setOut (h : FxRows w wr ao b1 b2 n L out fz) (i : Nat) (x : Int) : FxRows w (wr.setCell ⟨b1, i, none⟩ (.int .i64 x)) ao b1 b2 n L (fun j => if j = i then x else out j) fz :=
  ⟨its_far h.its h.far1 _, h.far1, h.far2, h.ne, h.ge1, h.ge2, (h.out.set i _).congr fun j _ => by split <;> rfl, h.fz.setOther (a := ⟨b1, i, none⟩) (Ne.symm h.ne) _, below_set h.below h.ge1 _⟩
theorem setFz (h : FxRows w wr ao b1 b2 n L out fz) (i : Nat) (x : Bool) : FxRows w (wr.setCell ⟨b2, i, none⟩ (.bool x)) ao b1 b2 n L out (fun j => if j = i then x else fz j) :=
  ⟨its_far h.its h.far2 _, h.far1, h.far2, h.ne, h.ge1, h.ge2, h.out.setOther (a := ⟨b2, i, none⟩) h.ne _, (h.fz.set i _).congr fun j _ => by split <;> rfl, below_set h.below h.ge2 _⟩
theorem lt (h : FxRows w wr ao b1 b2 n L out fz) {a : Addr} (ha : ao = some a) (hn : n ≠ 0) : a.block < wr.heap.size := by
  obtain ⟨b, o, e, hl, -⟩ := h.its.resolve_left hn
  rw [ha] at e; cases e; exact hl
theorem setFar (h : FxRows w wr ao b1 b2 n L out fz) {a : Addr} (h1 : b1 ≠ a.block) (h2 : b2 ≠ a.block) (h3 : n = 0 ∨ ∀ x, ao = some x → x.block ≠ a.block) (h4 : w.heap.size ≤ a.block) (v : Value) : FxRows w (wr.setCell a v) ao b1 b2 n L out fz :=
  ⟨h3.elim .inl fun h3 => its_far h.its h3 v, h.far1, h.far2, h.ne, h.ge1, h.ge2, h.out.setOther h1 v, h.fz.setOther h2 v, below_set h.below h4 v⟩
theorem congr {out' : Nat → Int} {fz' : Nat → Bool} (h : FxRows w wr ao b1 b2 n L out fz) (h1 : ∀ i, i < n → out i = out' i) (h2 : ∀ i, i < n → fz i = fz' i) : FxRows w wr ao b1 b2 n L out' fz' :=
  ⟨h.its, h.far1, h.far2, h.ne, h.ge1, h.ge2, h.out.congr fun i hi => by rw [h1 i hi], h.fz.congr fun i hi => by rw [h2 i hi], h.below⟩
theorem sl (h : FxRows w wr ao b1 b2 n L out fz) : Sl wr (some ⟨b1, 0, none⟩) n out := Sl.row h.out
theorem bls (h : FxRows w wr ao b1 b2 n L out fz) : Bls wr (some ⟨b2, 0, none⟩) n fz := .inr ⟨b2, 0, rfl, h.fz.lt, fun k hk => by rw [Nat.zero_add]; exact h.fz.cell hk⟩
end FxRows

end Go.Proofs.Ytndpblgedpdjdaa
