/- A line in memory; what is free, what is open. -/
import Derived.Test.YtndpblgedpdjdaaFlexRRes
import Derived.Test.YtndpblgedpdjdaaShareWalks
namespace Go.Proofs.Ytndpblgedpdjdaa
open Go.RowKit
set_option linter.unusedSimpArgs false
set_option linter.unusedVariables false
attribute [local go_sem] cell?_ext frozen?_ext lt_size_ext

/-- A line at p: its items, its room, whether it grows, its two rows. -/
structure FxLine (w wr : World) (p : Nat) (ao : Option Addr) (cap b1 b2 n : Nat) (L : Nat → It) (R : Int) (g : Bool) (out : Nat → Int) (fz : Nat → Bool) : Prop where
  rows : FxRows w wr ao b1 b2 n L out fz
  blk : Blk wr p 50 #[.slice ao n cap, .int .i64 R, .bool g, .slice (some ⟨b1, 0, none⟩) n n, .slice (some ⟨b2, 0, none⟩) n n]
  ne1 : p ≠ b1
  ne2 : p ≠ b2
  ge : w.heap.size ≤ p

namespace FxLine
variable {w wr w' : World} {p : Nat} {ao : Option Addr} {cap b1 b2 n : Nat} {L : Nat → It} {R : Int} {g : Bool} {out : Nat → Int} {fz : Nat → Bool}
theorem then_ (h : FxLine w wr p ao cap b1 b2 n L R g out fz) (hb : Below wr.heap.size wr w') : FxLine w w' p ao cap b1 b2 n L R g out fz :=
  ⟨h.rows.then_ hb, h.blk.of_kept (hb.block p h.blk.lt), h.ne1, h.ne2, h.ge⟩
theorem setOut (h : FxLine w wr p ao cap b1 b2 n L R g out fz) (i : Nat) (x : Int) : FxLine w (wr.setCell ⟨b1, i, none⟩ (.int .i64 x)) p ao cap b1 b2 n L R g (fun j => if j = i then x else out j) fz :=
  ⟨h.rows.setOut i x, h.blk.far (p := ⟨b1, i, none⟩) h.ne1 _, h.ne1, h.ne2, h.ge⟩
theorem setFz (h : FxLine w wr p ao cap b1 b2 n L R g out fz) (i : Nat) (x : Bool) : FxLine w (wr.setCell ⟨b2, i, none⟩ (.bool x)) p ao cap b1 b2 n L R g out (fun j => if j = i then x else fz j) :=
  ⟨h.rows.setFz i x, h.blk.far (p := ⟨b2, i, none⟩) h.ne2 _, h.ne1, h.ne2, h.ge⟩
theorem congr {out' : Nat → Int} {fz' : Nat → Bool} (h : FxLine w wr p ao cap b1 b2 n L R g out fz) (h1 : ∀ i, i < n → out i = out' i) (h2 : ∀ i, i < n → fz i = fz' i) : FxLine w wr p ao cap b1 b2 n L R g out' fz' :=
  ⟨h.rows.congr h1 h2, h.blk, h.ne1, h.ne2, h.ge⟩
end FxLine

set_option maxHeartbeats 4000000 in
theorem free_any (p : Nat) (ao : Option Addr) (cap b1 b2 n : Nat) (L : Nat → It) (S : St) (R : Int) (g : Bool) (hn : n ≤ 65536) (hR : -1073741824 ≤ R ∧ R ≤ 1073741824) (hL : ∀ i, i < n → (L i).Ok) (hF : Fx.Fits L n S) (w0 w : World) (hS : FxLine w0 w p ao cap b1 b2 n L R g S.out S.fz) :
    Calls Try.prog 23 #[.pointer (some ⟨p, 0, none⟩)] w fun e w' => e = .returned (.int .i64 (Fx.free L S n R)) ∧ Below w.heap.size w w' := by
  have HS := Lib.hid hS
  have HL := Lib.hid hL
  have HF := Lib.hid hF
  have q0 := hS.blk.cell 0
  have q1 := hS.blk.cell 1
  have q2 := hS.blk.cell 2
  have q3 := hS.blk.cell 3
  have q4 := hS.blk.cell 4
  clear hS hL hF
  go_enter Try.func23, Try.ntmps23
  go_wp2_with fail
  clear q0 q1 q2 q3 q4
  go_loopw [3, 15] (fun v3 v15 wr => ∃ k : Nat, k ≤ n ∧ v15 = .int .i64 k ∧ v3 = .int .i64 (Fx.free L S k R) ∧ Below w.heap.size w wr) (fun _ v15 _ => n - (intOf v15).toNat)
  case atStart => exact ⟨0, Nat.zero_le _, rfl, by show _ = Value.int .i64 (R - 0); rw [Int.sub_zero], Below.refl _ _⟩
  case round =>
    obtain ⟨k, hk, rfl, rfl, hb⟩ := hrel
    by_cases hlt : k < n
    · have hS := HS.out.then_ hb
      have q0 := hS.blk.cell 0
      have q3 := hS.blk.cell 3
      have q4 := hS.blk.cell 4
      have l0 := hS.blk.lt
      have l1 := hS.rows.out.lt
      have l2 := hS.rows.fz.lt
      obtain ⟨b, o, rfl, hbl, hN⟩ := hS.rows.its.at hlt
      have c0 := hN.c0
      have c1 := hN.c1
      have c2 := hN.c2
      have c3 := hN.c3
      have c4 := hN.c4
      have c5 := hN.c5
      have c6 := hN.c6
      have e0 := hS.rows.out.cell hlt
      have d0 := hS.rows.fz.cell hlt
      have b1' := Fx.used_bd HL.out HF.out hk
      have m1 := (HL.out k hlt).margin
      have m2 := (HL.out k hlt).base
      have m3 := HF.out.out k hlt
      have HE : Hid (Fx.free L S (k + 1) R = Fx.free L S k R - (L k).margin - if S.fz k = true then S.out k else (L k).base) := Lib.hid (by
        show R - (Fx.used L S k + ((L k).margin + _)) = R - Fx.used L S k - _ - _
        omega)
      have b4 : -2147483648 * (k : Int) - 1073741824 ≤ Fx.free L S k R ∧ Fx.free L S k R ≤ 2147483648 * (k : Int) + 1073741824 := by unfold Fx.free; omega
      generalize Fx.free L S k R = a at *
      have HB := Lib.hid hb
      clear hN hS b1' hb
      cases hz : S.fz k with
      | true =>
        rw [hz] at d0
        go_wp2_with fail
        go_roundw
        case rel => exact ⟨k + 1, hlt, by go_num, by rw [HE.out, hz]; rfl, below_alloc HB.out _⟩
        case measure => simp [intOf]; omega
      | false =>
        rw [hz] at d0
        go_wp2_with fail
        go_roundw
        case rel => exact ⟨k + 1, hlt, by go_num, by rw [HE.out, hz]; rfl, below_alloc HB.out _⟩
        case measure => simp [intOf]; omega
    · obtain rfl : k = n := by omega
      have HB := Lib.hid hb
      clear hb
      go_wp2_with fail
      go_ret
      exact ⟨rfl, HB.out⟩

end Go.Proofs.Ytndpblgedpdjdaa
