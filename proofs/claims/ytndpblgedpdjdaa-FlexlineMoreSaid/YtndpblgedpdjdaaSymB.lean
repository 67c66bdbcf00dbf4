/- The library's stable sort over claims: the merge where the second half is one element. -/
import Derived.Test.YtndpblgedpdjdaaSymA
namespace Go.Proofs.Ytndpblgedpdjdaa
open Go.Shelf Go.RowKit Go.Lib Go.Sort
set_option linter.unusedSimpArgs false
set_option linter.unusedVariables false

set_option maxHeartbeats 4000000 in
set_option maxRecDepth 1000000 in
theorem symMerge_last {L : Int × Int → Int × Int → Bool} (hL : SWO L) (blk off cap a m : Nat) (d0 d : Array (Int × Int)) (w0 w : World) (R : Row2 w0 blk off d0) (hs : d0.size = d.size) (S : SW2 w0 blk off d w)
    (h1 : a + 1 < m) (h3 : m + 1 ≤ d.size) (hsz : d.size < 4611686018427387904) (H : St.Halves (ltOf cfC) L d a m (m + 1)) :
    Calls Try.prog 60 #[.slice (some ⟨blk, off, none⟩) d.size cap, .int .i64 a, .int .i64 m, .int .i64 ((m + 1 : Nat) : Int), CMP] w fun e w' =>
      e = .returned (.tuple #[]) ∧ ∃ d', SW2 w0 blk off d' w' ∧ PermIn a (m + 1) d d' ∧ SortedIn L a (m + 1) d' := by
  have S0 : Aside (SW2 w0 blk off d w) := S
  have HH := Lib.hid H
  have HS := Lib.hid hs
  have hone : ((m : Int) - (a : Int) == 1) = false := by rw [beq_eq_false_iff_ne]; omega
  have hone2 : ((m : Int) + 1 - (m : Int) == 1) = true := by rw [beq_iff_eq]; omega
  have mixed := mixed
  have HMONO : Hid (∀ h h', a ≤ h' → h' ≤ h → h < m → ltOf cfC d[m]! d[h]! = false → ltOf cfC d[m]! d[h']! = false) := Lib.hid (fun h h' q1 q2 q3 q4 => by
    rw [H.cross h m (by omega) q3 (Nat.le_refl _) (by omega)] at q4
    rw [H.cross h' m q1 (by omega) (Nat.le_refl _) (by omega)]
    exact hL.ntrans _ _ _ q4 (St.sorted_le hL H.lo q1 q2 q3))
  clear S H
  go_enter Try.func60, Try.ntmps60
  go_wp2
  go_loopg [14, 15] (m - a) (fun kx v14 v15 wr => ∃ (i j : Nat), v14 = .int .i64 i ∧ v15 = .int .i64 j ∧ j - i ≤ kx ∧ a ≤ i ∧ i ≤ j ∧ j ≤ m ∧ Aside (SW2 w0 blk off d wr) ∧
    Hid (∀ h, a ≤ h → h < i → ltOf cfC d[m]! d[h]! = false) ∧ Hid (∀ h, j ≤ h → h < m → ltOf cfC d[m]! d[h]! = true))
  case atStart => exact ⟨a, m, rfl, rfl, by omega, by omega, by omega, by omega, S0, Lib.hid (fun h _ _ => by omega), Lib.hid (fun h _ _ => by omega)⟩
  case round =>
    clear S0
    obtain ⟨i, j, rfl, rfl, hkx, hai, hij, hjb, S1, HLO, HHI⟩ := hrel
    have hs : d0.size = d.size := HS.out
    by_cases hlt : i < j
    · have hltz : (i : Int) < (j : Int) := by omega
      have q0 : (0 : Int) ≤ (i : Int) + (j : Int) := by omega
      have q1 : (i : Int) + (j : Int) ≤ 9223372036854775807 := by omega
      obtain ⟨h, hh⟩ : ∃ h, h = (i + j) / 2 := ⟨_, rfl⟩
      have qh : ((i : Int) + (j : Int)) / 2 = (h : Int) := by omega
      have hih : i ≤ h := by omega
      have hhj : h < j := by omega
      clear hh
      have ba : (h : Int) < (d.size : Int) := by omega
      have bb : (m : Int) < (d.size : Int) := by omega
      have l1 := ld0 S1.out R (by omega) (m) (by omega)
      have l2 := ld1 S1.out R (by omega) (m) (by omega)
      have l3 := ld0 S1.out R (by omega) (h) (by omega)
      have l4 := ld1 S1.out R (by omega) (h) (by omega)
      obtain ⟨x1, x2, hx⟩ : ∃ x1 x2, d[m]! = (x1, x2) := ⟨_, _, rfl⟩
      obtain ⟨y1, y2, hy⟩ : ∃ y1 y2, d[h]! = (y1, y2) := ⟨_, _, rfl⟩
      rw [hx] at l1 l2
      rw [hy] at l3 l4
      simp only at l1 l2 l3 l4
      have HLT : Hid (ltOf cfC d[m]! d[h]! = decide (cfC (x1, x2) (y1, y2) < 0)) := Lib.hid (by rw [hx, hy]; rfl)
      clear hx hy
      by_cases hv : cfC (x1, x2) (y1, y2) < 0
      · have HV : Hid (ltOf cfC d[m]! d[h]! = true) := Lib.hid (HLT.out.trans (decide_eq_true hv))
        have hd : decide (cfC (x1, x2) (y1, y2) < 0) = true := decide_eq_true hv
        go_wp2_with fail
        go_quiet_grown (first | (go_at_call 54; exact cmpg _ _ _ _ _ _ _))
        have S2 : Aside (SW2 w0 blk off d (grow (wr.drewN nq) osq)) := S1.out.grown nq osq
        clear l1 l2 l3 l4 S1
        generalize grow (wr.drewN nq) osq = w2 at S2 ⊢
        clear nq osq
        go_wp2_with fail
        go_roundg (h - i)
        case measure => omega
        case rel => exact ⟨i, h, rfl, rfl, Nat.le_refl _, hai, by omega, by omega, S2, HLO, Lib.hid (fun x q1 q2 => by cases e : ltOf cfC d[m]! d[x]! with | true => rfl | false => (have := HV.out; rw [HMONO.out x h (by omega) q1 q2 e] at this; cases this))⟩
      · have HV : Hid (ltOf cfC d[m]! d[h]! = false) := Lib.hid (HLT.out.trans (decide_eq_false hv))
        have hd : decide (cfC (x1, x2) (y1, y2) < 0) = false := decide_eq_false hv
        go_wp2_with fail
        go_quiet_grown (first | (go_at_call 54; exact cmpg _ _ _ _ _ _ _))
        have S2 : Aside (SW2 w0 blk off d (grow (wr.drewN nq) osq)) := S1.out.grown nq osq
        clear l1 l2 l3 l4 S1
        generalize grow (wr.drewN nq) osq = w2 at S2 ⊢
        clear nq osq
        go_wp2_with fail
        go_roundg (j - (h + 1))
        case measure => omega
        case rel => exact ⟨h + 1, j, by go_num, rfl, Nat.le_refl _, by omega, by omega, hjb, S2, Lib.hid (fun x q1 q2 => HMONO.out h x q1 (by omega) (by omega) HV.out), HHI⟩
    · have hltz : ¬ (i : Int) < (j : Int) := by omega
      obtain rfl : i = j := by omega
      have HF := Lib.hid (St.merge_last hL h3 hai hjb HH.out.lo (fun x q1 q2 => HH.out.cross x m q1 q2 (Nat.le_refl _) (by omega)) HLO.out HHI.out)
      clear HLO HHI HMONO
      go_wp2
      go_loopg [17] (m - a) (fun kx v17 wr => ∃ (k c : Nat) (dk : Array (Int × Int)), v17 = .int .i64 k ∧ k + c = m ∧ i ≤ k ∧ k - i ≤ kx ∧ dk.size = d.size ∧ Aside (SW2 w0 blk off dk wr) ∧ Hid (dk = St.mvL d m c))
      case atStart => exact ⟨m, 0, d, rfl, rfl, by omega, by omega, rfl, S1, Lib.hid rfl⟩
      case round =>
        clear S1
        obtain ⟨k, c, dk, rfl, hkc, hki, hkx2, hds, S1, HE⟩ := hrel
        have hkm : k ≤ m := by omega
        have HKC := Lib.hid hkc
        clear hkc
        by_cases hk : i < k
        · have hkz : (i : Int) < (k : Int) := by omega
          obtain ⟨k1, rfl⟩ : ∃ k1, k = k1 + 1 := ⟨k - 1, by omega⟩
          have ek : ((k1 + 1 : Nat) : Int) = (k1 : Int) + 1 := by omega
          have HEQ : Hid (swp dk (k1 + 1) k1 = St.mvL d m (c + 1)) := Lib.hid (by
            have e1 : m - c = k1 + 1 := by have := HKC.out; omega
            rw [HE.out, St.mvL, e1]; rfl)
          have ea : ((k1 : Int) + 1).toNat = k1 + 1 := by omega
          have pa : (0 : Int) ≤ (k1 : Int) + 1 := by omega
          have ba : (k1 : Int) + 1 < (d.size : Int) := by omega
          have ra : IntKind.i64.wrap ((k1 : Int) + 1) = (k1 : Int) + 1 := by rw [IntKind.wrap_i64]; omega
          have ec : ((k1 : Int)).toNat = k1 := by omega
          have pc : (0 : Int) ≤ (k1 : Int) := by omega
          have bc : (k1 : Int) < (d.size : Int) := by omega
          have rc : IntKind.i64.wrap ((k1 : Int)) = (k1 : Int) := by rw [IntKind.wrap_i64]; omega
          have S2 := Lib.hid (swap2 S1.out R (k1 + 1) (k1) (by omega) (by omega))
          obtain ⟨x1, x2, hx⟩ : ∃ x1 x2, dk[k1 + 1]! = (x1, x2) := ⟨_, _, rfl⟩
          obtain ⟨y1, y2, hy⟩ : ∃ y1 y2, dk[k1]! = (y1, y2) := ⟨_, _, rfl⟩
          obtain ⟨cx0, cx1, fx0, fx1⟩ := cells2 S1.out R (by omega) (k1 + 1) (by omega)
          obtain ⟨cy0, cy1, fy0, fy1⟩ := cells2 S1.out R (by omega) (k1) (by omega)
          rw [hx] at cx0 cx1 S2
          rw [hy] at cy0 cy1 S2
          have ne0 : ¬ (off + (k1 + 1) * 2 = off + (k1) * 2) := by omega
          clear hx hy S1
          go_wp2_with fail
          go_big_region_o
          go_wp2
          go_roundg (k1 - i)
          case measure => omega
          case rel => exact ⟨k1, c + 1, _, by first | rfl | go_num | (congr 1; omega), by have := HKC.out; omega, by omega, Nat.le_refl _, by rw [size_swp]; exact hds, S2.out, HEQ⟩
        · have hkz : ¬ (i : Int) < (k : Int) := by omega
          have e : dk = St.mvL d m (m - i) := by rw [HE.out, show c = m - i by have := HKC.out; omega]
          go_wp2
          exact bodyPost_ret (v := .tuple #[]) (by simp [results, Try.results60, go_sem]) rfl ⟨rfl, dk, S1.out, e ▸ HF.out.1, e ▸ HF.out.2⟩

end Go.Proofs.Ytndpblgedpdjdaa
