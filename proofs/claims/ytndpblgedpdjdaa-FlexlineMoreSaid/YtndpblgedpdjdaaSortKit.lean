/- The library's stable sort over claims: the exchange of ranges. -/
import Derived.Test.YtndpblgedpdjdaaStablePlain
import Derived.Test.YtndpblgedpdjdaaMem
import Derived.Shelf.SlSortCmp.KitK
import Derived.Sort.WalkB2
import Derived.Sort.WalkB12
import Derived.Deep.LoopGhost
namespace Go.Proofs.Ytndpblgedpdjdaa
open Go.Shelf Go.RowKit Go.Lib Go.Sort
set_option linter.unusedSimpArgs false
set_option linter.unusedVariables false

def encC (c : Int × Int) : List Value := [.int .i64 c.1, .int .i64 c.2]
theorem encC_len (c : Int × Int) : (encC c).length = 2 := rfl
theorem encC_one (c : Int × Int) : ∀ v ∈ encC c, v.oneCell' = true := by
  intro v hv
  simp [encC] at hv
  rcases hv with rfl | rfl <;> rfl

theorem mixed : Try.prog.follows .mixedOrders = true := by kernel_rfl

abbrev Row2 (w0 : World) (blk off : Nat) (d0 : Array (Int × Int)) : Prop := RowK encC 2 w0 blk off d0
abbrev SW2 (w0 : World) (blk off : Nat) (d : Array (Int × Int)) (w : World) : Prop := SWK encC 2 w0 blk off d w

theorem cells2 {w0 W : World} {blk off : Nat} {d0 d : Array (Int × Int)} (h : SW2 w0 blk off d W) (R : Row2 w0 blk off d0) (hs : d.size = d0.size) (i : Nat) (hi : i < d.size) :
    W.cell? ⟨blk, off + i * 2, none⟩ = some (.int .i64 d[i]!.1) ∧ W.cell? ⟨blk, off + i * 2 + 1, none⟩ = some (.int .i64 d[i]!.2) ∧
    W.frozen? ⟨blk, off + i * 2, none⟩ = false ∧ W.frozen? ⟨blk, off + i * 2 + 1, none⟩ = false := by
  have H := h.holds R.hblk R.hH hs
  have h0 := H.cell (i := i) (c := 0) hi (by decide)
  have h1 := H.cell (i := i) (c := 1) hi (by decide)
  exact ⟨h0.1, h1.1, h0.2, h1.2⟩

/-- Behind an exchange, in the walk's own spelling. -/
theorem swap2 {w0 W : World} {blk off : Nat} {d0 d : Array (Int × Int)} (h : SW2 w0 blk off d W) (R : Row2 w0 blk off d0) (i j : Nat) (hi : i < d.size) (hj : j < d.size) :
    SW2 w0 blk off (swp d i j) ((((W.setCell ⟨blk, off + i * 2, none⟩ (.int .i64 d[j]!.1)).setCell ⟨blk, off + i * 2 + 1, none⟩ (.int .i64 d[j]!.2)).setCell ⟨blk, off + j * 2, none⟩ (.int .i64 d[i]!.1)).setCell ⟨blk, off + j * 2 + 1, none⟩ (.int .i64 d[i]!.2)).drew :=
  h.swapped R i j hi hj

set_option maxHeartbeats 4000000 in
set_option maxRecDepth 1000000 in
theorem swapRange_any (g : Nat) (cb : Array Value) (blk off cap a b n : Nat) (d0 d : Array (Int × Int)) (w0 w : World) (R : Row2 w0 blk off d0) (hs : d0.size = d.size) (S : SW2 w0 blk off d w)
    (h1 : a + n ≤ b) (h2 : b + n ≤ d.size) (hsz : d.size < 4611686018427387904) :
    Calls Try.prog 62 #[.slice (some ⟨blk, off, none⟩) d.size cap, .int .i64 a, .int .i64 b, .int .i64 n, .func (.func g) #[] cb] w fun e w' =>
      e = .returned (.tuple #[]) ∧ SW2 w0 blk off (St.swR d a b n) w' := by
  have mixed := mixed
  have S0 : Aside (SW2 w0 blk off d w) := S
  clear S
  go_enter Try.func62, Try.ntmps62
  go_wp2
  go_loopg [10] n (fun kx s8 wr => ∃ (i : Nat) (dk : Array (Int × Int)), s8 = .int .i64 i ∧ i ≤ n ∧ n - i ≤ kx ∧ dk.size = d.size ∧ Aside (SW2 w0 blk off dk wr) ∧ Hid (dk = St.swR d a b i))
  case atStart => exact ⟨0, d, rfl, Nat.zero_le _, by omega, rfl, S0, Lib.hid rfl⟩
  case round =>
    clear S0
    obtain ⟨i, dk, rfl, hin, hkx, hds, S1, HE⟩ := hrel
    by_cases hlt : i < n
    · have hltz : (i : Int) < (n : Int) := by omega
      go_wp2_with fail
      have ea44 : ((a : Int) + (i : Int)).toNat = a + i := by omega
      have pa44 : (0 : Int) ≤ (a : Int) + (i : Int) := by omega
      have ba44 : (a : Int) + (i : Int) < (d.size : Int) := by omega
      have ra44 : IntKind.i64.wrap ((a : Int) + (i : Int)) = (a : Int) + (i : Int) := by rw [IntKind.wrap_i64]; omega
      have ec44 : ((b : Int) + (i : Int)).toNat = b + i := by omega
      have pc44 : (0 : Int) ≤ (b : Int) + (i : Int) := by omega
      have bc44 : (b : Int) + (i : Int) < (d.size : Int) := by omega
      have rc44 : IntKind.i64.wrap ((b : Int) + (i : Int)) = (b : Int) + (i : Int) := by rw [IntKind.wrap_i64]; omega
      have S2 := Lib.hid (swap2 S1.out R (a + i) (b + i) (by omega) (by omega))
      obtain ⟨x1, x2, hx⟩ : ∃ x1 x2, dk[a + i]! = (x1, x2) := ⟨_, _, rfl⟩
      obtain ⟨y1, y2, hy⟩ : ∃ y1 y2, dk[b + i]! = (y1, y2) := ⟨_, _, rfl⟩
      obtain ⟨cx0, cx1, fx0, fx1⟩ := cells2 S1.out R (by omega) (a + i) (by omega)
      obtain ⟨cy0, cy1, fy0, fy1⟩ := cells2 S1.out R (by omega) (b + i) (by omega)
      rw [hx] at cx0 cx1 S2
      rw [hy] at cy0 cy1 S2
      have ne0 : ¬ (off + (a + i) * 2 = off + (b + i) * 2) := by omega
      clear hx hy S1
      go_wp2_with fail
      go_big_region_o
      go_wp2
      go_roundg (n - (i + 1))
      case measure => omega
      case rel => exact ⟨i + 1, swp dk (a + i) (b + i), by go_num, by omega, Nat.le_refl _, by rw [size_swp]; exact hds, S2.out, Lib.hid (by rw [HE.out]; rfl)⟩
    · have hltz : ¬ (i : Int) < (n : Int) := by omega
      have e : dk = St.swR d a b n := by rw [HE.out, show i = n by omega]
      go_wp2
      go_end0
      exact ⟨rfl, e ▸ S1.out⟩

end Go.Proofs.Ytndpblgedpdjdaa
