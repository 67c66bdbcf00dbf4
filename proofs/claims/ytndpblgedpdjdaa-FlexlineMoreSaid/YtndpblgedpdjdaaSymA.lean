/- The library's stable sort over claims: the comparison; the merge where the first half is one element. -/
import Derived.Test.YtndpblgedpdjdaaRotate
namespace Go.Proofs.Ytndpblgedpdjdaa
open Go.Shelf Go.RowKit Go.Lib Go.Sort
set_option linter.unusedSimpArgs false
set_option linter.unusedVariables false

def cfC (x y : Int × Int) : Int := wrap64 (y.2 - x.2)

set_option maxHeartbeats 400000 in
theorem cmp_any (x y : Int × Int) (w : World) : Calls Try.prog 54 #[.agg (encC x).toArray, .agg (encC y).toArray] w fun e w' =>
    e = .returned (.int .i64 (cfC x y)) ∧ ∃ q os', w' = grow (w.drewN q) os' := by
  obtain ⟨x1, x2⟩ := x
  obtain ⟨y1, y2⟩ := y
  unfold cfC encC
  simp only
  go_enter Try.func54, Try.ntmps54
  go_wp2
  go_ret
  exact ⟨rfl, 0, #[_, _], by rw [show (#[_, _] : Array Obj) = #[_] ++ #[_] from rfl, ← grow_grow, ← alloc_eq_grow, ← alloc_eq_grow]; rfl⟩

theorem cmp_lays (blk off size : Nat) (w : World) : CmpLays Try.prog 54 #[] encC 2 cfC blk off size w := fun m os dk hs x y => cmp_any x y _

abbrev CMP : Value := .func (.func 54) #[] #[]

/-- A claim's two cells, in every world that has grown from one of the sort's. -/
theorem ld0 {w0 W : World} {blk off : Nat} {d0 d : Array (Int × Int)} (h : SW2 w0 blk off d W) (R : Row2 w0 blk off d0) (hs : d.size = d0.size) (i : Nat) (hi : i < d.size) (n : Nat) (os : Array Obj) :
    (grow (W.drewN n) os).cell? ⟨blk, off + i * 2, none⟩ = some (.int .i64 d[i]!.1) := (cells2 (h.grown n os) R hs i hi).1
theorem ld1 {w0 W : World} {blk off : Nat} {d0 d : Array (Int × Int)} (h : SW2 w0 blk off d W) (R : Row2 w0 blk off d0) (hs : d.size = d0.size) (i : Nat) (hi : i < d.size) (n : Nat) (os : Array Obj) :
    (grow (W.drewN n) os).cell? ⟨blk, off + i * 2 + 1, none⟩ = some (.int .i64 d[i]!.2) := (cells2 (h.grown n os) R hs i hi).2.1
theorem cmpg (x1 x2 y1 y2 : Int) (W : World) (n : Nat) (os : Array Obj) : Calls Try.prog 54 #[.agg #[.int .i64 x1, .int .i64 x2], .agg #[.int .i64 y1, .int .i64 y2]] (grow (W.drewN n) os) fun e w'' =>
    e = .returned (.int .i64 (cfC (x1, x2) (y1, y2))) ∧ ∃ p : GrownBy, w'' = grow (W.drewN p.n) p.os := Calls.grown_of (cmp_any (x1, x2) (y1, y2) _)

/-- A search's two ends: behind the middle place. -/
theorem search_up {P : Nat → Bool} {lo i h : Nat} (hlo : ∀ x, lo ≤ x → x < i → P x = true) (hm : ∀ x, lo ≤ x → x ≤ h → P x = true) : ∀ x, lo ≤ x → x < h + 1 → P x = true := fun x h1 h2 => hm x h1 (by omega)

set_option maxHeartbeats 4000000 in
set_option maxRecDepth 1000000 in
theorem symMerge_first {L : Int × Int → Int × Int → Bool} (hL : SWO L) (blk off cap a b : Nat) (d0 d : Array (Int × Int)) (w0 w : World) (R : Row2 w0 blk off d0) (hs : d0.size = d.size) (S : SW2 w0 blk off d w)
    (h2 : a + 1 < b) (h3 : b ≤ d.size) (hsz : d.size < 4611686018427387904) (H : St.Halves (ltOf cfC) L d a (a + 1) b) :
    Calls Try.prog 60 #[.slice (some ⟨blk, off, none⟩) d.size cap, .int .i64 a, .int .i64 ((a + 1 : Nat) : Int), .int .i64 b, CMP] w fun e w' =>
      e = .returned (.tuple #[]) ∧ ∃ d', SW2 w0 blk off d' w' ∧ PermIn a b d d' ∧ SortedIn L a b d' := by
  have S0 : Aside (SW2 w0 blk off d w) := S
  have HH := Lib.hid H
  have HS := Lib.hid hs
  have hone : ((a : Int) + 1 - (a : Int) == 1) = true := by rw [beq_iff_eq]; omega
  have mixed := mixed
  have HMONO : Hid (∀ h h', a + 1 ≤ h' → h' ≤ h → h < b → ltOf cfC d[h]! d[a]! = true → ltOf cfC d[h']! d[a]! = true) := Lib.hid (fun h h' q1 q2 q3 q4 => by
    rw [H.cross a h (Nat.le_refl _) (by omega) (by omega) q3] at q4
    rw [H.cross a h' (Nat.le_refl _) (by omega) q1 (by omega)]
    cases e : L d[h']! d[a]! with
    | true => rfl
    | false =>
      have := hL.ntrans _ _ _ (St.sorted_le hL H.hi q1 q2 q3) e
      rw [this] at q4; cases q4)
  clear S H
  go_enter Try.func60, Try.ntmps60
  go_wp2
  go_loopg [10, 11] (b - a) (fun kx v10 v11 wr => ∃ (i j : Nat), v10 = .int .i64 i ∧ v11 = .int .i64 j ∧ j - i ≤ kx ∧ a + 1 ≤ i ∧ i ≤ j ∧ j ≤ b ∧ Aside (SW2 w0 blk off d wr) ∧
    Hid (∀ h, a + 1 ≤ h → h < i → ltOf cfC d[h]! d[a]! = true) ∧ Hid (∀ h, j ≤ h → h < b → ltOf cfC d[h]! d[a]! = false))
  case atStart => exact ⟨a + 1, b, by go_num, rfl, by omega, by omega, by omega, by omega, S0, Lib.hid (fun h _ _ => by omega), Lib.hid (fun h _ _ => by omega)⟩
  case round =>
    clear S0
    obtain ⟨i, j, rfl, rfl, hkx, hai, hij, hjb, S1, HLO, HHI⟩ := hrel
    have hs : d0.size = d.size := HS.out
    by_cases hlt : i < j
    · have hltz : (i : Int) < (j : Int) := by omega
      have q0 : (0 : Int) ≤ (i : Int) + (j : Int) := by omega
      have q1 : (i : Int) + (j : Int) ≤ 9223372036854775807 := by omega
      obtain ⟨h, hh⟩ : ∃ h, h = (i + j) / 2 := ⟨_, rfl⟩
      have qh : ((i : Int) + (j : Int)) / 2 = (h : Int) := by omega
      have hih : i ≤ h := by omega
      have hhj : h < j := by omega
      clear hh
      have ba : (h : Int) < (d.size : Int) := by omega
      have bb : (a : Int) < (d.size : Int) := by omega
      have l1 := ld0 S1.out R (by omega) (h) (by omega)
      have l2 := ld1 S1.out R (by omega) (h) (by omega)
      have l3 := ld0 S1.out R (by omega) (a) (by omega)
      have l4 := ld1 S1.out R (by omega) (a) (by omega)
      obtain ⟨x1, x2, hx⟩ : ∃ x1 x2, d[h]! = (x1, x2) := ⟨_, _, rfl⟩
      obtain ⟨y1, y2, hy⟩ : ∃ y1 y2, d[a]! = (y1, y2) := ⟨_, _, rfl⟩
      rw [hx] at l1 l2
      rw [hy] at l3 l4
      simp only at l1 l2 l3 l4
      have HLT : Hid (ltOf cfC d[h]! d[a]! = decide (cfC (x1, x2) (y1, y2) < 0)) := Lib.hid (by rw [hx, hy]; rfl)
      clear hx hy
      by_cases hv : cfC (x1, x2) (y1, y2) < 0
      · have HV : Hid (ltOf cfC d[h]! d[a]! = true) := Lib.hid (HLT.out.trans (decide_eq_true hv))
        have hd : decide (cfC (x1, x2) (y1, y2) < 0) = true := decide_eq_true hv
        go_wp2_with fail
        go_quiet_grown (first | (go_at_call 54; exact cmpg _ _ _ _ _ _ _))
        have S2 : Aside (SW2 w0 blk off d (grow (wr.drewN nq) osq)) := S1.out.grown nq osq
        clear l1 l2 l3 l4 S1
        generalize grow (wr.drewN nq) osq = w2 at S2 ⊢
        clear nq osq
        go_wp2_with fail
        go_roundg (j - (h + 1))
        case measure => omega
        case rel => exact ⟨h + 1, j, by go_num, rfl, Nat.le_refl _, by omega, by omega, hjb, S2, Lib.hid (fun x q1 q2 => HMONO.out h x q1 (by omega) (by omega) HV.out), HHI⟩
      · have HV : Hid (ltOf cfC d[h]! d[a]! = false) := Lib.hid (HLT.out.trans (decide_eq_false hv))
        have hd : decide (cfC (x1, x2) (y1, y2) < 0) = false := decide_eq_false hv
        go_wp2_with fail
        go_quiet_grown (first | (go_at_call 54; exact cmpg _ _ _ _ _ _ _))
        have S2 : Aside (SW2 w0 blk off d (grow (wr.drewN nq) osq)) := S1.out.grown nq osq
        clear l1 l2 l3 l4 S1
        generalize grow (wr.drewN nq) osq = w2 at S2 ⊢
        clear nq osq
        go_wp2_with fail
        go_roundg (h - i)
        case measure => omega
        case rel => exact ⟨i, h, rfl, rfl, Nat.le_refl _, hai, by omega, by omega, S2, HLO, Lib.hid (fun x q1 q2 => by cases e : ltOf cfC d[x]! d[a]! with | false => rfl | true => (have := HV.out; rw [HMONO.out x h (by omega) q1 q2 e] at this; cases this))⟩
    · have hltz : ¬ (i : Int) < (j : Int) := by omega
      obtain rfl : i = j := by omega
      have HF := Lib.hid (St.merge_first hL h3 hai hjb HH.out.hi (fun y q1 q2 => HH.out.cross a y (Nat.le_refl _) (by omega) q1 q2) HLO.out HHI.out)
      clear HLO HHI HMONO
      go_wp2
      go_loopg [13] (b - a) (fun kx v13 wr => ∃ (k c : Nat) (dk : Array (Int × Int)), v13 = .int .i64 k ∧ k = a + c ∧ k ≤ i - 1 ∧ i - 1 - k ≤ kx ∧ dk.size = d.size ∧ Aside (SW2 w0 blk off dk wr) ∧ Hid (dk = St.mvR d a c))
      case atStart => exact ⟨a, 0, d, rfl, rfl, by omega, by omega, rfl, S1, Lib.hid rfl⟩
      case round =>
        clear S1
        obtain ⟨k, c, dk, rfl, hkc, hki, hkx2, hds, S1, HE⟩ := hrel
        have HKC := Lib.hid hkc
        clear hkc
        by_cases hk : k < i - 1
        · have hkz : (k : Int) < (i : Int) - 1 := by omega
          have ea : ((k : Int)).toNat = k := by omega
          have pa : (0 : Int) ≤ (k : Int) := by omega
          have ba : (k : Int) < (d.size : Int) := by omega
          have ra : IntKind.i64.wrap ((k : Int)) = (k : Int) := by rw [IntKind.wrap_i64]; omega
          have ec : ((k : Int) + 1).toNat = k + 1 := by omega
          have pc : (0 : Int) ≤ (k : Int) + 1 := by omega
          have bc : (k : Int) + 1 < (d.size : Int) := by omega
          have rc : IntKind.i64.wrap ((k : Int) + 1) = (k : Int) + 1 := by rw [IntKind.wrap_i64]; omega
          have S2 := Lib.hid (swap2 S1.out R (k) (k + 1) (by omega) (by omega))
          obtain ⟨x1, x2, hx⟩ : ∃ x1 x2, dk[k]! = (x1, x2) := ⟨_, _, rfl⟩
          obtain ⟨y1, y2, hy⟩ : ∃ y1 y2, dk[k + 1]! = (y1, y2) := ⟨_, _, rfl⟩
          obtain ⟨cx0, cx1, fx0, fx1⟩ := cells2 S1.out R (by omega) (k) (by omega)
          obtain ⟨cy0, cy1, fy0, fy1⟩ := cells2 S1.out R (by omega) (k + 1) (by omega)
          rw [hx] at cx0 cx1 S2
          rw [hy] at cy0 cy1 S2
          have ne0 : ¬ (off + (k) * 2 = off + (k + 1) * 2) := by omega
          clear hx hy S1
          go_wp2_with fail
          go_big_region_o
          go_wp2
          go_roundg (i - 1 - (k + 1))
          case measure => omega
          case rel => exact ⟨k + 1, c + 1, _, by go_num, by have := HKC.out; omega, by omega, Nat.le_refl _, by rw [size_swp]; exact hds, S2.out, Lib.hid (by rw [HE.out, HKC.out]; rfl)⟩
        · have hkz : ¬ (k : Int) < (i : Int) - 1 := by omega
          have e : dk = St.mvR d a (i - 1 - a) := by rw [HE.out, show c = i - 1 - a by have := HKC.out; omega]
          go_wp2
          exact bodyPost_ret (v := .tuple #[]) (by simp [results, Try.results60, go_sem]) rfl ⟨rfl, dk, S1.out, e ▸ HF.out.1, e ▸ HF.out.2⟩

end Go.Proofs.Ytndpblgedpdjdaa
