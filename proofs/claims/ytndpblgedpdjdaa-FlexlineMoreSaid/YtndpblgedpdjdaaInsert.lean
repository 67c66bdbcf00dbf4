/- The library's stable sort over claims: insertion. -/
import Derived.Test.YtndpblgedpdjdaaSymA
namespace Go.Proofs.Ytndpblgedpdjdaa
open Go.Shelf Go.RowKit Go.Lib Go.Sort
set_option linter.unusedSimpArgs false
set_option linter.unusedVariables false

set_option maxHeartbeats 8000000 in
set_option maxRecDepth 1000000 in
theorem insertion_any (blk off cap a b : Nat) (d0 d : Array (Int × Int)) (w0 w : World) (R : Row2 w0 blk off d0) (hs : d0.size = d.size) (S : SW2 w0 blk off d w)
    (hab : a ≤ b) (hb : b ≤ d.size) (hsz : d.size < 4611686018427387904) :
    Calls Try.prog 59 #[.slice (some ⟨blk, off, none⟩) d.size cap, .int .i64 a, .int .i64 b, CMP] w fun e w' =>
      e = .returned (.tuple #[]) ∧ SW2 w0 blk off (insertionSort (ltOf cfC) d a b) w' := by
  have S0 : Aside (SW2 w0 blk off d w) := S
  have HS := Lib.hid hs
  have mixed := mixed
  clear S hs
  go_enter Try.func59, Try.ntmps59
  go_wp2
  go_loopg [8] (b - a) (fun g1 vi wr => ∃ (i : Nat) (dk : Array (Int × Int)), vi = .int .i64 i ∧ a < i ∧ i ≤ b + 1 ∧ b + 1 - i ≤ g1 + 1 ∧ dk.size = d.size ∧ Aside (SW2 w0 blk off dk wr) ∧ Hid (insOuter (ltOf cfC) a b i dk = insOuter (ltOf cfC) a b (a + 1) d))
  case atStart => exact ⟨a + 1, d, by go_num, by omega, by omega, by omega, rfl, S0, Lib.hid rfl⟩
  case round =>
    clear S0
    obtain ⟨i, dk, rfl, hai, hib, hg1, hsk, S1, HO⟩ := hrel
    by_cases hlt : i < b
    · have hltz : (i : Int) < (b : Int) := by omega
      go_wp2
      go_loopg [9] i (fun g2 vj wr2 => ∃ (j : Nat) (dj : Array (Int × Int)), vj = .int .i64 j ∧ a ≤ j ∧ j ≤ i ∧ j ≤ g2 ∧ dj.size = d.size ∧ Aside (SW2 w0 blk off dj wr2) ∧ Hid (insInner (ltOf cfC) a j dj = insInner (ltOf cfC) a i dk))
      case atStart => exact ⟨i, dk, rfl, by omega, Nat.le_refl _, Nat.le_refl _, hsk, S1, Lib.hid rfl⟩
      case round =>
        clear S1
        obtain ⟨j, dj, rfl, haj, hji, hg2, hsj, S1, HI⟩ := hrel
        have hs : d0.size = d.size := HS.out
        have OUT : Hid ((j ≤ a ∨ ltOf cfC dj[j]! dj[j - 1]! = false) → insOuter (ltOf cfC) a b (i + 1) dj = insOuter (ltOf cfC) a b (a + 1) d) := Lib.hid (fun hq => by
          rw [← HO.out, insOuter_go _ _ _ _ _ hlt, ← HI.out, insInner_stop _ _ _ _ hq])
        by_cases hja : a < j
        · obtain ⟨jp, rfl⟩ : ∃ jp, j = jp + 1 := ⟨j - 1, by omega⟩
          have hjaz : (a : Int) < (jp : Int) + 1 := by omega
          have ba : (jp : Int) + 1 < (d.size : Int) := by omega
          have bb : (jp : Int) < (d.size : Int) := by omega
          have pa : (0 : Int) ≤ (jp : Int) + 1 := by omega
          have ea : ((jp : Int) + 1).toNat = jp + 1 := by omega
          have rb : IntKind.i64.wrap ((jp : Nat) : Int) = (jp : Int) := by rw [IntKind.wrap_i64]; omega
          have l1 := ld0 S1.out R (by omega) (jp + 1) (by omega)
          have l2 := ld1 S1.out R (by omega) (jp + 1) (by omega)
          have l3 := ld0 S1.out R (by omega) (jp) (by omega)
          have l4 := ld1 S1.out R (by omega) (jp) (by omega)
          obtain ⟨x1, x2, hx⟩ : ∃ x1 x2, dj[jp + 1]! = (x1, x2) := ⟨_, _, rfl⟩
          obtain ⟨y1, y2, hy⟩ : ∃ y1 y2, dj[jp]! = (y1, y2) := ⟨_, _, rfl⟩
          rw [hx] at l1 l2
          rw [hy] at l3 l4
          simp only at l1 l2 l3 l4
          have HLT : Hid (ltOf cfC dj[jp + 1]! dj[jp]! = decide (cfC (x1, x2) (y1, y2) < 0)) := Lib.hid (by rw [hx, hy]; rfl)
          clear hx hy
          by_cases hv : cfC (x1, x2) (y1, y2) < 0
          · have HV : Hid (ltOf cfC dj[jp + 1]! dj[jp]! = true) := Lib.hid (HLT.out.trans (decide_eq_true hv))
            have hd : decide (cfC (x1, x2) (y1, y2) < 0) = true := decide_eq_true hv
            go_wp2_with fail
            go_quiet_grown (first | (go_at_call 54; exact cmpg _ _ _ _ _ _ _))
            have S2 : Aside (SW2 w0 blk off dj (grow (wr.drewN nq) osq)) := S1.out.grown nq osq
            clear l1 l2 l3 l4 S1
            generalize grow (wr.drewN nq) osq = w2 at S2 ⊢
            clear nq osq
            go_wp2_with fail
            have ea1 : ((jp : Int) + 1).toNat = jp + 1 := by omega
            have pa1 : (0 : Int) ≤ (jp : Int) + 1 := by omega
            have ba1 : (jp : Int) + 1 < (d.size : Int) := by omega
            have ra : IntKind.i64.wrap ((jp : Int) + 1) = (jp : Int) + 1 := by rw [IntKind.wrap_i64]; omega
            have ec : ((jp : Int)).toNat = jp := by omega
            have pc : (0 : Int) ≤ (jp : Int) := by omega
            have bc : (jp : Int) < (d.size : Int) := by omega
            have rc : IntKind.i64.wrap ((jp : Int)) = (jp : Int) := by rw [IntKind.wrap_i64]; omega
            have HSW : Hid (insInner (ltOf cfC) a jp (swp dj (jp + 1) jp) = insInner (ltOf cfC) a i dk) := Lib.hid (by rw [← HI.out, insInner_go (ltOf cfC) a (jp + 1) dj hja (by simp only [Nat.add_sub_cancel]; exact HV.out)]; rfl)
            have S3 := Lib.hid (swap2 S2.out R (jp + 1) (jp) (by omega) (by omega))
            obtain ⟨u1, u2, hx⟩ : ∃ u1 u2, dj[jp + 1]! = (u1, u2) := ⟨_, _, rfl⟩
            obtain ⟨v1, v2, hy⟩ : ∃ v1 v2, dj[jp]! = (v1, v2) := ⟨_, _, rfl⟩
            obtain ⟨cx0, cx1, fx0, fx1⟩ := cells2 S2.out R (by omega) (jp + 1) (by omega)
            obtain ⟨cy0, cy1, fy0, fy1⟩ := cells2 S2.out R (by omega) (jp) (by omega)
            rw [hx] at cx0 cx1 S3
            rw [hy] at cy0 cy1 S3
            have ne0 : ¬ (off + (jp + 1) * 2 = off + (jp) * 2) := by omega
            clear hx hy S2
            go_wp2_with fail
            go_big_region_o
            go_wp2
            go_roundg jp
            case measure => omega
            case rel => exact ⟨jp, swp dj (jp + 1) jp, by first | rfl | go_num | (congr 1; omega), by omega, by omega, Nat.le_refl _, by rw [size_swp]; exact hsj, S3.out, HSW⟩
          · have HV : Hid (ltOf cfC dj[jp + 1]! dj[jp]! = false) := Lib.hid (HLT.out.trans (decide_eq_false hv))
            have hd : decide (cfC (x1, x2) (y1, y2) < 0) = false := decide_eq_false hv
            go_wp2_with fail
            go_quiet_grown (first | (go_at_call 54; exact cmpg _ _ _ _ _ _ _))
            have S2 : Aside (SW2 w0 blk off dj (grow (wr.drewN nq) osq)) := S1.out.grown nq osq
            clear l1 l2 l3 l4 S1
            generalize grow (wr.drewN nq) osq = w2 at S2 ⊢
            clear nq osq
            go_wp2_with fail
            go_roundg (b - (i + 1))
            case measure => omega
            case rel => exact ⟨i + 1, dj, by go_num, by omega, by omega, by omega, hsj, S2, Lib.hid (OUT.out (Or.inr (by simp only [Nat.add_sub_cancel]; exact HV.out)))⟩
        · have hjaz : ¬ (a : Int) < (j : Int) := by omega
          have hjad : decide ((a : Int) < (j : Int)) = false := decide_eq_false hjaz
          have S2 : Aside (SW2 w0 blk off dj wr.drew) := S1.out.drew
          clear S1
          go_wp2_with fail
          go_big_region_o
          go_wp2
          go_roundg (b - (i + 1))
          case measure => omega
          case rel => exact ⟨i + 1, dj, by go_num, by omega, by omega, by omega, hsj, S2, Lib.hid (OUT.out (Or.inl (by omega)))⟩
    · have hltz : ¬ (i : Int) < (b : Int) := by omega
      have e : insertionSort (ltOf cfC) d a b = dk := by unfold Sort.insertionSort; rw [← HO.out, insOuter_stop _ _ _ _ _ hlt]
      go_wp2
      go_end0
      exact ⟨rfl, e ▸ S1.out⟩

end Go.Proofs.Ytndpblgedpdjdaa
