/- The library's stable sort over claims: the turning of a range. -/
import Derived.Test.YtndpblgedpdjdaaSortKit
namespace Go.Proofs.Ytndpblgedpdjdaa
open Go.Shelf Go.RowKit Go.Lib Go.Sort
set_option linter.unusedSimpArgs false
set_option linter.unusedVariables false

/-- What is known on the way of a turning. -/
structure OnTurn (d dk : Array (Int × Int)) (a m b i j : Nat) : Prop where
  i0 : 0 < i
  j0 : 0 < j
  lo : a + i ≤ m
  hi : m + j ≤ b
  perm : PermIn a b d dk
  turn : ∀ d', St.Turned dk d' (m - i) m (m + j) → St.Turned d d' a m b

theorem OnTurn.start {d : Array (Int × Int)} {a m b : Nat} (h1 : a < m) (h2 : m < b) : OnTurn d d a m b (m - a) (b - m) :=
  ⟨by omega, by omega, by omega, by omega, permIn_refl _ _ _, fun d' h => by rw [show m - (m - a) = a by omega, show m + (b - m) = b by omega] at h; exact h⟩
theorem OnTurn.more {d dk : Array (Int × Int)} {a m b i j : Nat} (h : OnTurn d dk a m b i j) (hb : b ≤ d.size) (hij : j < i) : OnTurn d (St.swR dk (m - i) m j) a m b (i - j) j := by
  have hsz := h.perm.1
  have := h.lo; have := h.hi; have := h.j0
  exact ⟨by omega, h.j0, by omega, h.hi, permIn_trans _ _ _ _ _ h.perm (St.swR_perm dk (m - i) m a b (by omega) (by omega) j (by omega) h.hi),
    fun d' ht => h.turn d' (St.turn_more hij (by omega) (by omega) ht)⟩
theorem OnTurn.less {d dk : Array (Int × Int)} {a m b i j : Nat} (h : OnTurn d dk a m b i j) (hb : b ≤ d.size) (hij : i < j) : OnTurn d (St.swR dk (m - i) (m + j - i) i) a m b i (j - i) := by
  have hsz := h.perm.1
  have := h.lo; have := h.hi; have := h.i0
  exact ⟨h.i0, by omega, h.lo, by omega, permIn_trans _ _ _ _ _ h.perm (St.swR_perm dk (m - i) (m + j - i) a b (by omega) (by omega) i (by omega) (by omega)),
    fun d' ht => h.turn d' (St.turn_less hij (by omega) (by omega) ht)⟩
theorem OnTurn.last {d dk : Array (Int × Int)} {a m b i : Nat} (h : OnTurn d dk a m b i i) (hb : b ≤ d.size) : PermIn a b d (St.swR dk (m - i) m i) ∧ St.Turned d (St.swR dk (m - i) m i) a m b := by
  have hsz := h.perm.1
  have := h.lo; have := h.hi
  exact ⟨permIn_trans _ _ _ _ _ h.perm (St.swR_perm dk (m - i) m a b (by omega) (by omega) i (by omega) h.hi), h.turn _ (St.turn_even (by omega) (by omega))⟩

set_option maxHeartbeats 4000000 in
set_option maxRecDepth 1000000 in
theorem rotate_any (g : Nat) (cb : Array Value) (blk off cap a m b : Nat) (d0 d : Array (Int × Int)) (w0 w : World) (R : Row2 w0 blk off d0) (hs : d0.size = d.size) (S : SW2 w0 blk off d w)
    (h1 : a < m) (h2 : m < b) (h3 : b ≤ d.size) (hsz : d.size < 4611686018427387904) :
    Calls Try.prog 61 #[.slice (some ⟨blk, off, none⟩) d.size cap, .int .i64 a, .int .i64 m, .int .i64 b, .func (.func g) #[] cb] w fun e w' =>
      e = .returned (.tuple #[]) ∧ ∃ d', SW2 w0 blk off d' w' ∧ PermIn a b d d' ∧ St.Turned d d' a m b := by
  have S0 : Aside (SW2 w0 blk off d w) := S
  clear S
  have e1 : (m : Int) - (a : Int) = ((m - a : Nat) : Int) := by omega
  have e2 : (b : Int) - (m : Int) = ((b - m : Nat) : Int) := by omega
  go_enter Try.func61, Try.ntmps61
  go_wp2
  clear e1 e2
  go_loopg [10, 11] (b - a) (fun kx v10 v11 wr => ∃ (i j : Nat) (dk : Array (Int × Int)), v10 = .int .i64 i ∧ v11 = .int .i64 j ∧ i + j ≤ kx ∧ Aside (SW2 w0 blk off dk wr) ∧ Aside (OnTurn d dk a m b i j))
  case atStart => exact ⟨m - a, b - m, d, rfl, rfl, by omega, S0, OnTurn.start h1 h2⟩
  case round =>
    clear S0
    obtain ⟨i, j, dk, rfl, rfl, hkx, S1, HT⟩ := hrel
    have i0 := HT.out.i0
    have j0 := HT.out.j0
    have hlo := HT.out.lo
    have hhi := HT.out.hi
    have hds := HT.out.perm.1
    have q1 : (m : Int) - (i : Int) = ((m - i : Nat) : Int) := by omega
    by_cases hij : i = j
    · have HL := Lib.hid (hij ▸ HT.out : OnTurn d dk a m b i i)
      have hne : ((i : Int) != (j : Int)) = false := by simp [hij]
      have hcall := swapRange_any g cb blk off cap (m - i) m i d0 dk w0 wr R (by omega) S1.out (by omega) (by omega) (by omega)
      rw [hds] at hcall
      have HC := Lib.hid hcall
      clear S1 HT hcall hij hds
      go_wp2_with fail
      refine (HC.out).mono ?_
      rintro e w1 ⟨rfl, S2⟩
      have S3 : Aside _ := S2
      clear S2
      go_wp2_with fail
      go_end0
      exact ⟨rfl, _, S3.out, (HL.out.last h3).1, (HL.out.last h3).2⟩
    · have hne : ((i : Int) != (j : Int)) = true := by simp; omega
      by_cases hji : j < i
      · have hgt : (j : Int) < (i : Int) := by omega
        have hcall := swapRange_any g cb blk off cap (m - i) m j d0 dk w0 wr R (by omega) S1.out (by omega) (by omega) (by omega)
        rw [hds] at hcall
        have HC := Lib.hid hcall
        have q2 : (i : Int) - (j : Int) = ((i - j : Nat) : Int) := by omega
        have HM : Aside (OnTurn d (St.swR dk (m - i) m j) a m b (i - j) j) := HT.out.more h3 hji
        clear S1 HT hcall hds hij
        go_wp2_with fail
        refine (HC.out).mono ?_
        rintro e w1 ⟨rfl, S2⟩
        have S3 : Aside _ := S2
        clear S2
        go_wp2_with fail
        go_roundg (i - j + j)
        case measure => omega
        case rel => exact ⟨i - j, j, _, rfl, rfl, Nat.le_refl _, S3, HM⟩
      · have hgt : ¬ (j : Int) < (i : Int) := by omega
        have q3 : (m : Int) + (j : Int) - (i : Int) = ((m + j - i : Nat) : Int) := by omega
        have hcall := swapRange_any g cb blk off cap (m - i) (m + j - i) i d0 dk w0 wr R (by omega) S1.out (by omega) (by omega) (by omega)
        rw [hds] at hcall
        have HC := Lib.hid hcall
        have q2 : (j : Int) - (i : Int) = ((j - i : Nat) : Int) := by omega
        have HM : Aside (OnTurn d (St.swR dk (m - i) (m + j - i) i) a m b i (j - i)) := HT.out.less h3 (by omega)
        clear S1 HT hcall hds hij
        go_wp2_with fail
        refine (HC.out).mono ?_
        rintro e w1 ⟨rfl, S2⟩
        have S3 : Aside _ := S2
        clear S2
        go_wp2_with fail
        go_roundg (i + (j - i))
        case measure => omega
        case rel => exact ⟨i, j - i, _, rfl, rfl, Nat.le_refl _, S3, HM⟩

end Go.Proofs.Ytndpblgedpdjdaa
