/- The reference's sums over items: Grows, Free, Dealt; each walked once. -/
import Derived.Test.YtndpblgedpdjdaaFlexOf
namespace Go.Proofs.Ytndpblgedpdjdaa
open Go.RowKit
set_option linter.unusedSimpArgs false
set_option linter.unusedVariables false
attribute [local go_sem] cell?_ext frozen?_ext lt_size_ext

theorem wishes_bd {L : Nat → It} {n : Nat} (hL : ∀ i, i < n → (L i).Ok) {k : Nat} (hk : k ≤ n) : -2147483648 * (k : Int) ≤ Fx.wishes L k ∧ Fx.wishes L k ≤ 2147483648 * (k : Int) := by
  refine sm_bd _ 2147483648 k fun i hi => ?_
  have h1 := (hL i (by omega)).margin
  have h2 := It.wish_bd (hL i (by omega))
  omega

set_option maxHeartbeats 4000000 in
theorem RGrows_any (ao : Option Addr) (cap n : Nat) (L : Nat → It) (room : Int) (hn : n ≤ 65536) (hL : ∀ i, i < n → (L i).Ok) (w : World) (hS : Its w ao n L) :
    Calls Try.prog 19 #[.slice ao n cap, .int .i64 room] w fun e w' => e = .returned (.bool (Fx.grows L n (hold room))) ∧ Below w.heap.size w w' := by
  have HS := Lib.hid hS
  have HL := Lib.hid hL
  clear hS hL
  go_enter Try.func19, Try.ntmps19
  go_wp2_with fail
  go_loopw [5, 6] (fun v5 v6 wr => ∃ k : Nat, k ≤ n ∧ v6 = .int .i64 k ∧ v5 = .int .i64 (Fx.wishes L k) ∧ Below w.heap.size w wr) (fun _ v6 _ => n - (intOf v6).toNat)
  case atStart => exact ⟨0, Nat.zero_le _, rfl, rfl, Below.refl _ _⟩
  case round =>
    obtain ⟨k, hk, rfl, rfl, hb⟩ := hrel
    by_cases hlt : k < n
    · obtain ⟨b, o, rfl, hbl, hN⟩ := (HS.out.below hb).at hlt
      have c0 := hN.c0
      have c1 := hN.c1
      have c2 := hN.c2
      have c3 := hN.c3
      have c4 := hN.c4
      have c5 := hN.c5
      have c6 := hN.c6
      have HB := Lib.hid hb
      have hh := fun w => RWish_any (L k) w
      have b1 := wishes_bd HL.out hk
      have b2 := (HL.out k hlt).margin
      have b3 := It.wish_bd (HL.out k hlt)
      have HE : Hid (Fx.wishes L (k + 1) = Fx.wishes L k + ((L k).wish + (L k).margin)) := Lib.hid rfl
      generalize Fx.wishes L k = a at *
      generalize (L k).wish = wi at *
      unfold It.val at hh
      clear hN hb
      go_wp2_with fail
      refine wp_region_ext (by kernel_rfl) (by kernel_rfl) ?_
      repeat (go_big_quiet_step ((go_at_call 15; exact quiet_ext (hh _))))
      refine wpQuiet_nil ?_
      intro w2 hw2
      have hb2 := (grown_rules hw2).2.2.2
      have HB2 := Lib.hid hb2
      clear hw2 hb2
      go_wp2_with fail
      go_roundw
      case rel => exact ⟨k + 1, hlt, by go_num, by rw [HE.out]; congr 1; omega, below_then HB.out HB2.out⟩
      case measure => simp [intOf]; omega
    · obtain rfl : k = n := by omega
      have HB := Lib.hid hb
      clear hb
      have HG : Hid (Fx.grows L k (hold room) = decide (Fx.wishes L k < hold room)) := Lib.hid rfl
      go_wp2_with fail
      refine (RHold_any _ _).mono ?_; rintro e w' ⟨rfl, rfl⟩
      go_wp2_with fail
      go_ret
      exact ⟨ret_bool HG.out.symm, HB.out⟩

/-- A slice of bools in memory: no place, or all in a row. -/
def Bls (w : World) (ao : Option Addr) (n : Nat) (z : Nat → Bool) : Prop := n = 0 ∨ ∃ b o, ao = some ⟨b, o, none⟩ ∧ b < w.heap.size ∧ ∀ k, k < n → w.cell? ⟨b, o + k, none⟩ = some (.bool (z k))
theorem Bls.below {w w' : World} {ao : Option Addr} {n : Nat} {z : Nat → Bool} (h : Bls w ao n z) (hb : Below w.heap.size w w') : Bls w' ao n z :=
  h.imp id fun ⟨b, o, e, hl, hk⟩ => ⟨b, o, e, Nat.lt_of_lt_of_le hl hb.size, fun k hkn => (World.cell?_of_block (a := ⟨b, o + k, none⟩) (hb.block b hl)).trans (hk k hkn)⟩
theorem Bls.at {w : World} {ao : Option Addr} {n : Nat} {z : Nat → Bool} (h : Bls w ao n z) {k : Nat} (hk : k < n) : ∃ b o, ao = some ⟨b, o, none⟩ ∧ b < w.heap.size ∧ w.cell? ⟨b, o + k, none⟩ = some (.bool (z k)) := by
  obtain ⟨b, o, e, hl, h⟩ := h.resolve_left (by omega)
  exact ⟨b, o, e, hl, h k hk⟩

set_option maxHeartbeats 4000000 in
theorem RFree_any (ao ao2 ao3 : Option Addr) (cap cap2 cap3 n : Nat) (L : Nat → It) (S : St) (room : Int) (hn : n ≤ 65536) (hL : ∀ i, i < n → (L i).Ok) (hF : Fx.Fits L n S) (w : World) (hS : Its w ao n L) (hO : Sl w ao2 n S.out) (hZ : Bls w ao3 n S.fz) :
    Calls Try.prog 31 #[.slice ao n cap, .slice ao2 n cap2, .slice ao3 n cap3, .int .i64 room] w fun e w' => e = .returned (.int .i64 (Fx.free L S n (hold room))) ∧ w = w' := by
  have HS := Lib.hid hS
  have HO := Lib.hid hO
  have HZ := Lib.hid hZ
  have HL := Lib.hid hL
  have HF := Lib.hid hF
  have hR := hold_bd room
  clear hS hL hO hZ hF
  go_enter Try.func31, Try.ntmps31
  go_wp2_with fail
  refine (RHold_any _ _).mono ?_; rintro e w' ⟨rfl, rfl⟩
  go_wp2_with fail
  go_loop [9, 10] (fun v9 v10 => ∃ k : Nat, k ≤ n ∧ v10 = .int .i64 k ∧ v9 = .int .i64 (Fx.free L S k (hold room))) (fun _ v10 => n - (intOf v10).toNat)
  case atStart => exact ⟨0, Nat.zero_le _, rfl, by show _ = Value.int .i64 (hold room - 0); rw [Int.sub_zero]⟩
  case round =>
    obtain ⟨k, hk, rfl, rfl⟩ := hrel
    by_cases hlt : k < n
    · obtain ⟨b, o, rfl, hbl, hN⟩ := HS.out.at hlt
      obtain ⟨b2, o2, rfl, hN2⟩ := HO.out.at hlt
      obtain ⟨b3, o3, rfl, hbl3, d0⟩ := HZ.out.at hlt
      have c0 := hN.c0
      have c3 := hN.c3
      have e0 := hN2.2 k hlt
      have b1 := Fx.used_bd HL.out HF.out hk
      have m1 := (HL.out k hlt).margin
      have m2 := (HL.out k hlt).base
      have m3 := HF.out.out k hlt
      have HE : Hid (Fx.free L S (k + 1) (hold room) = Fx.free L S k (hold room) - (L k).margin - if S.fz k = true then S.out k else (L k).base) := Lib.hid (by
        show hold room - (Fx.used L S k + ((L k).margin + _)) = hold room - Fx.used L S k - _ - _
        omega)
      have b4 : -2147483648 * (k : Int) - 1073741824 ≤ Fx.free L S k (hold room) ∧ Fx.free L S k (hold room) ≤ 2147483648 * (k : Int) + 1073741824 := by unfold Fx.free; omega
      generalize Fx.free L S k (hold room) = a at *
      clear hN hN2 b1
      cases hz : S.fz k with
      | true =>
        rw [hz] at d0
        go_wp2_with fail
        go_round
        case rel => exact ⟨k + 1, hlt, by go_num, by rw [HE.out, hz]; rfl⟩
        case measure => simp [intOf]; omega
      | false =>
        rw [hz] at d0
        go_wp2_with fail
        go_round
        case rel => exact ⟨k + 1, hlt, by go_num, by rw [HE.out, hz]; rfl⟩
        case measure => simp [intOf]; omega
    · obtain rfl : k = n := by omega
      go_wp2_with fail
      go_ret
      exact ⟨rfl, rfl⟩

end Go.Proofs.Ytndpblgedpdjdaa
