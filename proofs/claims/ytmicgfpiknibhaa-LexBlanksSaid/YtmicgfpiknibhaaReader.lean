/- The reader of a number's text: what it sees, and the digits that it passes. -/
import Derived.Test.YtmicgfpiknibhaaTextPlain
import Derived.Test.YtmicgfpiknibhaaMem
import Derived.BigQuiet
import Derived.Deep.RegionHeld3
import Derived.Deep.DrawnRows
namespace Go.Proofs.Ytmicgfpiknibhaa
open Go.RowKit
set_option linter.unusedSimpArgs false
set_option linter.unusedVariables false

/-- A reader in memory. -/
def Rd (w : World) (r : Nat) (s : ByteArray) (k : Nat) : Prop := Blk w r 84 #[.string s, .int .i64 k]

/-- Is the byte there that one? -/
def seen (s : ByteArray) (k c : Nat) : Bool := if h : k < s.size then decide (s[k].toNat = c) else false

attribute [local go_sem] cell?_ext frozen?_ext lt_size_ext

set_option maxHeartbeats 1000000 in
theorem sees_any (s : ByteArray) (r k c : Nat) (w : World) (hs0 : s.size ≤ maxLen) (hk : k ≤ s.size) (hB : Rd w r s k) :
    Calls Try.prog 74 #[.pointer (some ⟨r, 0, none⟩), .int .u8 (c : Int)] w fun e w' =>
      e = .returned (.bool (seen s k c)) ∧ Rd w' r s (if seen s k c = true then k + 1 else k) ∧ Keeps (fun i => i = r) w w' := by
  have hs := hs0
  unfold maxLen at hs
  have hr := hB.lt
  have c0 : w.cell? ⟨r, 0, none⟩ = some (.string s) := hB.cell 0
  have c1 : w.cell? ⟨r, 1, none⟩ = some (.int .i64 k) := hB.cell 1
  have fz := hB.frozen
  have HB := Lib.hid hB
  clear hB
  by_cases hlt : k < s.size
  · by_cases hc : s[k].toNat = c
    · have e : seen s k c = true := by unfold seen; rw [dif_pos hlt]; simp [hc]
      rw [e, if_pos rfl]
      have hc' : (s[k].toNat : Int) = (c : Int) := by omega
      clear e hc
      go_enter Try.func74, Try.ntmps74
      go_wp2_with fail
      refine wp_region_ext (by kernel_rfl) (by kernel_rfl) ?_
      repeat (go_big_quiet_step (fail))
      refine wpQuiet_nil ?_
      rintro _ ⟨u, rfl⟩
      go_wp2_with fail
      go_ret
      exact ⟨rfl, ((HB.out.then_ (below_ext w u)).put 1 _), Keeps.put (X := fun i => i = r) ((Keeps.refl _ w).then_ (below_ext w u)) (.inl rfl) _⟩
    · have e : seen s k c = false := by unfold seen; rw [dif_pos hlt]; simp [hc]
      rw [e, if_neg (by simp)]
      have hc' : ((s[k].toNat : Int) == (c : Int)) = false := by simp; omega
      clear e hc
      go_enter Try.func74, Try.ntmps74
      go_wp2_with fail
      refine wp_region_ext (by kernel_rfl) (by kernel_rfl) ?_
      repeat (go_big_quiet_step (fail))
      refine wpQuiet_nil ?_
      rintro _ ⟨u, rfl⟩
      go_wp2_with fail
      go_ret
      exact ⟨rfl, HB.out.then_ (below_ext w u), (Keeps.refl _ w).then_ (below_ext w u)⟩
  · have e : seen s k c = false := by unfold seen; rw [dif_neg hlt]
    rw [e, if_neg (by simp)]
    clear e
    go_enter Try.func74, Try.ntmps74
    go_wp2_with fail
    refine wp_region_ext (by kernel_rfl) (by kernel_rfl) ?_
    repeat (go_big_quiet_step (fail))
    refine wpQuiet_nil ?_
    rintro _ ⟨u, rfl⟩
    go_wp2_with fail
    go_ret
    exact ⟨rfl, HB.out.then_ (below_ext w u), (Keeps.refl _ w).then_ (below_ext w u)⟩

/-- One more digit of the whole. -/
def wholeN (a d : Int) : Int := if 1073741824 < 10 * a + d then 1073741824 else 10 * a + d

set_option maxHeartbeats 1000000 in
theorem whole_any (d a : Int) (g : Nat) (w : World) (hd0 : 0 ≤ d) (hd9 : d ≤ 9) (ha0 : 0 ≤ a) (ha1 : a ≤ 1073741824) (hB : Blk w g 3 #[.int .i64 a]) :
    Calls Try.prog 76 #[.int .i64 d, .pointer (some ⟨g, 0, none⟩)] w fun e w' =>
      e = .returned (.tuple #[]) ∧ Blk w' g 3 #[.int .i64 (wholeN a d)] ∧ Keeps (fun i => i = g) w w' := by
  have hr := hB.lt
  have c0 : w.cell? ⟨g, 0, none⟩ = some (.int .i64 a) := hB.cell 0
  have fz := hB.frozen
  have HB := Lib.hid hB
  clear hB
  unfold wholeN
  go_enter Try.func76, Try.ntmps76
  go_wp2_with fail
  all_goals
  go_end0
  exact ⟨rfl, HB.out.put 0 _, Keeps.put (X := fun i => i = g) (Keeps.refl _ w) (.inl rfl) _⟩

set_option maxHeartbeats 1000000 in
theorem part_any (d p q : Int) (g h : Nat) (w : World) (hgh : g ≠ h) (hd0 : 0 ≤ d) (hd9 : d ≤ 9) (hp0 : 0 ≤ p) (hp1 : p ≤ 1000000000000) (hq0 : 0 ≤ q) (hq1 : q ≤ 100)
    (hB : Blk w g 3 #[.int .i64 p]) (hC : Blk w h 3 #[.int .i64 q]) :
    Calls Try.prog 77 #[.int .i64 d, .pointer (some ⟨g, 0, none⟩), .pointer (some ⟨h, 0, none⟩)] w fun e w' =>
      e = .returned (.tuple #[]) ∧ Blk w' g 3 #[.int .i64 (p + d * q)] ∧ Blk w' h 3 #[.int .i64 (q / 10)] ∧ Keeps (fun i => i = g ∨ i = h) w w' := by
  have hm : 0 ≤ d * q ∧ d * q ≤ 900 := by
    refine ⟨Int.mul_nonneg hd0 hq0, ?_⟩
    have := Int.mul_le_mul hd9 hq1 hq0 (by decide)
    omega
  have hrg := hB.lt
  have hrh := hC.lt
  have c0 : w.cell? ⟨g, 0, none⟩ = some (.int .i64 p) := hB.cell 0
  have c1 : w.cell? ⟨h, 0, none⟩ = some (.int .i64 q) := hC.cell 0
  have fz := hB.frozen
  have fy := hC.frozen
  have HB := Lib.hid hB
  have HC := Lib.hid hC
  clear hB hC
  go_enter Try.func77, Try.ntmps77
  go_wp2_with fail
  have ngh : h ≠ g := hgh.symm
  go_region
  go_wp2_with fail
  go_end0
  exact ⟨rfl, ((HB.out.put 0 _).far (p := ⟨h, 0, none⟩) hgh _).drew, ((HC.out.far (p := ⟨g, 0, none⟩) hgh.symm _).put 0 _).drew,
    (Keeps.put (X := fun i => i = g ∨ i = h) (Keeps.put (X := fun i => i = g ∨ i = h) (Keeps.refl _ w) (.inl (.inl rfl)) _) (.inl (.inr rfl)) _).drew⟩

end Go.Proofs.Ytmicgfpiknibhaa
