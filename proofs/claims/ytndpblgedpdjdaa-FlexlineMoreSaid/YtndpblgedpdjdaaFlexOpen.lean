/- A line's open items, listed. -/
import Derived.Test.YtndpblgedpdjdaaFlexLine
import Derived.Maps.AppendAt
namespace Go.Proofs.Ytndpblgedpdjdaa
open Go.RowKit
set_option linter.unusedSimpArgs false
set_option linter.unusedVariables false
attribute [local go_sem] cell?_ext frozen?_ext lt_size_ext

/-- Numbers as cells. -/
def natCells (l : List Nat) : List Value := l.map fun (i : Nat) => .int .i64 (i : Int)
theorem natCells_length (l : List Nat) : (natCells l).length = l.length * 1 := by simp [natCells]
def intCells (l : List Int) : List Value := l.map fun i => .int .i64 i

/-- A row of numbers that a call has made. -/
theorem Sl.of_own {w : World} {base : Nat} {v : Value} {n : Nat} {f : Nat → Int} {xs : List Value} (h : w.ownsRow base 3 1 v n xs) (hx : ∀ i, i < n → xs[i]? = some (.int .i64 (f i))) :
    ∃ ao cap, v = .slice ao n cap ∧ Sl w ao n f ∧ (n = 0 ∨ ∀ a, ao = some a → base ≤ a.block) := by
  have hc := fun g (hg : v.ownBlock = some g) => h.cells hg
  rcases h.2 with ⟨rfl, rfl⟩ | ⟨g, cap, cur, rfl, hb, hg, -⟩
  · exact ⟨none, 0, rfl, .inl rfl, .inl rfl⟩
  · refine ⟨_, cap, rfl, .inr ⟨g, 0, rfl, ?_, fun k hk => ?_⟩, .inr fun a e => by cases e; exact hb⟩
    · exact (Array.getElem?_eq_some_iff.1 hg).1
    · have h1 := hc g rfl k _ (hx k hk)
      have e : (⟨g, 0, none⟩ : Addr).add k = ⟨g, 0 + k, none⟩ := by
        unfold Addr.add; split
        · rename_i h0; rw [h0]
        · simp
      rw [e] at h1; exact h1

/-- What lists numbers. -/
def ListOut (w : World) (n : Nat) (f : Nat → Int) (x : Ending) (w' : World) : Prop :=
  ∃ ao cap, x = .returned (.slice ao n cap) ∧ Sl w' ao n f ∧ (n = 0 ∨ ∀ a, ao = some a → w.heap.size ≤ a.block) ∧ Below w.heap.size w w'

set_option maxHeartbeats 4000000 in
theorem open_any (p : Nat) (ao : Option Addr) (cap b1 b2 n : Nat) (L : Nat → It) (R : Int) (g : Bool) (out : Nat → Int) (fz : Nat → Bool) (hn : n ≤ 65536) (w0 w : World) (hS : FxLine w0 w p ao cap b1 b2 n L R g out fz) :
    Calls Try.prog 24 #[.pointer (some ⟨p, 0, none⟩)] w (ListOut w (Sh.opens n fz).length fun k => ((Sh.opens n fz).getD k 0 : Nat)) := by
  obtain ⟨i0, hi, hz0, hz1, hz2⟩ := info_parts int_info
  have HS := Lib.hid hS
  have q4 := hS.blk.cell 4
  clear hS
  go_enter Try.func24, Try.ntmps24
  go_wp2_with fail
  clear q4
  go_loopw [3, 11] (fun v3 v11 wr => ∃ k : Nat, k ≤ n ∧ v11 = .int .i64 k ∧ wr.ownsRow w.heap.size 3 1 v3 (Sh.opens k fz).length (natCells (Sh.opens k fz)) ∧ Below w.heap.size w wr) (fun _ v11 _ => n - (intOf v11).toNat)
  case atStart => exact ⟨0, Nat.zero_le _, rfl, World.ownsRow_nil _ _ _ _, Below.refl _ _⟩
  case round =>
    obtain ⟨k, hk, rfl, ho, hb⟩ := hrel
    by_cases hlt : k < n
    · have hS := HS.out.then_ hb
      have d0 := hS.rows.fz.cell hlt
      have HE := Lib.hid (Sh.opens_succ k fz)
      have hlen := Sh.opens_le k fz
      have HO := Lib.hid ho
      have HB := Lib.hid hb
      clear hS ho hb
      cases hz : fz k with
      | true =>
        rw [hz] at d0 HE
        go_wp2_with fail
        go_roundw
        case rel => exact ⟨k + 1, hlt, by go_num, by rw [HE.out, if_pos rfl]; exact HO.out, HB.out⟩
        case measure => simp [intOf]; omega
      | false =>
        rw [hz] at d0 HE
        have ho2 := HO.out.alloc (.cells #[.int .i64 k] 3)
        have hnx : w.heap.size ≤ (wr.alloc (.cells #[.int .i64 k] 3)).heap.size := by
          have h1 := HB.out.size; simp; omega
        have HO2 := Lib.hid ho2
        have HNX := Lib.hid hnx
        clear ho2 hnx
        go_wp2_with ((at_builtin; refine wpList_append_own_at _ rfl (.tmp 18) (.tmp 20) _ rfl w.heap.size 3 i0 (.int .i64 0) 1 8 Try.underlying25 hi hz0 hz1 hz2 rfl (by decide) _ _ _ rfl HO2.out ⟨wr.heap.size, 0, none⟩ 1 1 [.int .i64 k] rfl rfl ?c1 ?c2 ?c3 ?c4 HNX.out ?_))
        case c1 => exact cell_one_new _ _ _
        case c2 =>
          intro u hu
          simp at hu
          subst hu; rfl
        case c3 => unfold maxLen; omega
        case c4 => omega
        intro v' w3 hown3 hg3 _ _
        have hb3 : Below w.heap.size w w3 := (below_alloc HB.out _).grown hg3 HNX.out fun k hk => (HO2.out.lt k hk).1
        have HO3 := Lib.hid hown3
        have HB3 := Lib.hid hb3
        clear hown3 hg3 hb3
        go_wp2_with fail
        go_roundw
        case rel =>
          refine ⟨k + 1, hlt, by go_num, ?_, HB3.out⟩
          rw [HE.out, if_neg (by simp), List.length_append]
          have := HO3.out
          unfold natCells at this ⊢
          rw [List.map_append]
          exact this
        case measure => simp [intOf]; omega
    · obtain rfl : k = n := by omega
      obtain ⟨ao', cap', rfl, hs, hf⟩ := Sl.of_own (f := fun i => ((Sh.opens k fz).getD i 0 : Nat)) ho (fun i hi => by simp [natCells, List.getD, hi])
      have HO := Lib.hid hs
      have HF := Lib.hid hf
      have HB := Lib.hid hb
      clear ho hb hs hf
      go_wp2_with fail
      go_ret
      exact ⟨ao', cap', rfl, HO.out, HF.out, HB.out⟩

end Go.Proofs.Ytndpblgedpdjdaa
