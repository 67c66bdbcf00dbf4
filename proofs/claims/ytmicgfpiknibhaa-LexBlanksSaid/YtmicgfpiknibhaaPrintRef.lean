/- The reference's Print: the walk. -/
import Derived.Test.YtmicgfpiknibhaaWholeWalk
import Derived.Test.YtmicgfpiknibhaaHold
namespace Go.Proofs.Ytmicgfpiknibhaa
open Go.RowKit
set_option linter.unusedSimpArgs false
set_option linter.unusedVariables false

/-- The digits behind the point, the first worth k. -/
def fr (k p : Nat) : List Int := if 0 < p ∧ 0 < k then (48 + ((p / k : Nat) : Int)) :: fr (k / 10) (p % k) else []
termination_by k
decreasing_by omega
theorem fr_on {k p : Nat} (h : 0 < p ∧ 0 < k) : fr k p = (48 + ((p / k : Nat) : Int)) :: fr (k / 10) (p % k) := by rw [fr, if_pos h]
theorem fr_end {k p : Nat} (h : ¬ (0 < p ∧ 0 < k)) : fr k p = [] := by rw [fr, if_neg h]

/-- The text of a number that is not below 0. -/
def prt (v : Nat) : List Int := be 1 (v / 1000) ++ (if v % 1000 = 0 then [] else 46 :: fr 100 (v % 1000))

theorem be_one {d : Nat} (h : d < 10) : be 1 d = [48 + (d : Int)] := by
  rw [be_step (by omega), be_end (by omega), List.nil_append, show d % 10 = d by omega]

theorem Whole_at (x : Int) (h0 : 0 ≤ x) (h9 : x < 10) (w : World) :
    Calls Try.prog 62 #[.int .i64 x] w fun e w' => e = .returned (.string (strOfNums [48 + x])) ∧ Below w.heap.size w w' := by
  obtain ⟨n, rfl⟩ : ∃ n : Nat, x = n := ⟨x.toNat, by omega⟩
  rw [← be_one (by omega)]; exact Whole_any n (by omega) w

def strL : Value → Nat
  | .string s => s.size
  | _ => 0

set_option maxHeartbeats 4000000 in
theorem RPrint_pos (n : Int) (v : Nat) (hv : v ≤ 1073741824) (hh : hold n = (v : Int)) (w : World) :
    Calls Try.prog 41 #[.int .i64 n] w fun e w' => e = .returned (.string (strOfNums (prt v))) ∧ Below w.heap.size w w' := by
  have hq : ((v : Int) / 1000) = ((v / 1000 : Nat) : Int) := by omega
  have hr : ((v : Int) % 1000) = ((v % 1000 : Nat) : Int) := by omega
  have hql : v / 1000 ≤ 1073741824 := by omega
  have hrl : v % 1000 < 1000 := by omega
  have HP : Hid (prt v = be 1 (v / 1000) ++ (if v % 1000 = 0 then [] else 46 :: fr 100 (v % 1000))) := Lib.hid rfl
  have hA : (strOfNums (be 1 (v / 1000))).size ≤ 1073741825 := by rw [strOfNums_size]; have := be_len 1 (v / 1000); omega
  have HH := Lib.hid hh
  generalize v / 1000 = q at *
  generalize v % 1000 = p at *
  clear hh
  by_cases hp : p = 0
  · have HPP : Hid (prt v = be 1 q) := Lib.hid (by rw [HP.out, if_pos hp, List.append_nil])
    subst hp
    go_enter Try.func41, Try.ntmps41
    go_wp2_with fail
    refine (RHold_any _ _).mono ?_; rintro e w' ⟨rfl, rfl⟩
    rw [HH.out]
    go_wp2_with fail
    refine (Whole_any q hql _).mono ?_; rintro e w1 ⟨rfl, hb1⟩
    have HB1 := Lib.hid hb1
    clear hb1
    go_wp2_with fail
    go_ret
    exact ⟨by rw [HPP.out]; rfl, HB1.out⟩
  · have HPP : Hid (prt v = (be 1 q ++ [46]) ++ fr 100 p) := Lib.hid (by rw [HP.out, if_neg hp, List.append_assoc]; rfl)
    have hp0 : ((p : Int) == 0) = false := beq_eq_false_iff_ne.2 (by omega)
    go_enter Try.func41, Try.ntmps41
    go_wp2_with fail
    refine (RHold_any _ _).mono ?_; rintro e w' ⟨rfl, rfl⟩
    rw [HH.out]
    go_wp2_with fail
    refine (Whole_any q hql _).mono ?_; rintro e w1 ⟨rfl, hb1⟩
    have HB1 := Lib.hid hb1
    clear hb1
    go_wp2_with fail
    try simp only [hr, hq]
    clear hr hq
    go_loopw [4, 5, 6] (fun a b c wr => ∃ (l : List Int) (x k : Nat), a = .string (strOfNums l) ∧ b = .int .i64 x ∧ c = .int .i64 k ∧ prt v = l ++ fr k x ∧ l.length ≤ 1073741826 + (100 - k) ∧ (k = 100 ∧ x < 1000 ∨ k = 10 ∧ x < 100 ∨ k = 1 ∧ x < 10 ∨ k = 0 ∧ x = 0) ∧ Below w.heap.size w wr)
      (fun _ _ c _ => (intOf c).toNat)
    case atStart =>
      refine ⟨be 1 q ++ [46], p, 100, ?_, rfl, rfl, HPP.out, ?_, .inl ⟨rfl, hrl⟩, HB1.out⟩
      · rw [strOfNums_append]; rfl
      · rw [List.length_append, List.length_singleton]; rw [strOfNums_size] at hA; omega
    case round =>
      obtain ⟨l, x, k, rfl, rfl, rfl, hl, hlen, hk, hb⟩ := hrel
      have HB := Lib.hid hb
      have HL := Lib.hid hl
      clear hb hl
      have hls := strOfNums_size l
      by_cases hx : 0 < x
      · rcases hk with ⟨rfl, hx3⟩ | ⟨rfl, hx3⟩ | ⟨rfl, hx3⟩ | ⟨rfl, hx3⟩
        · have HFR := Lib.hid (fr_on (k := 100) (p := x) ⟨hx, by decide⟩)
          have hd : x / 100 < 10 := by omega
          have hs1 := strOfNums_size [48 + (x : Int) / 100]
          simp only [List.length_singleton] at hs1
          go_wp2_with fail
          refine (Whole_at _ (by omega) (by omega) _).mono ?_; rintro e w2 ⟨rfl, hb2⟩
          have HB2 := Lib.hid (below_then HB.out hb2)
          clear hb2
          go_wp2_with fail
          go_roundw
          case rel =>
            have hc : 48 + ((x / 100 : Nat) : Int) = 48 + (x : Int) / 100 := by omega
            refine ⟨l ++ [48 + ((x / 100 : Nat) : Int)], x % 100, 10, by rw [hc, strOfNums_append], by go_num, rfl, ?_, ?_, ?_, HB2.out⟩
            · rw [HL.out, HFR.out, List.append_assoc]; rfl
            · rw [List.length_append, List.length_singleton]; omega
            · omega
          case measure => simp [intOf]
        · have HFR := Lib.hid (fr_on (k := 10) (p := x) ⟨hx, by decide⟩)
          have hd : x / 10 < 10 := by omega
          have hs1 := strOfNums_size [48 + (x : Int) / 10]
          simp only [List.length_singleton] at hs1
          go_wp2_with fail
          refine (Whole_at _ (by omega) (by omega) _).mono ?_; rintro e w2 ⟨rfl, hb2⟩
          have HB2 := Lib.hid (below_then HB.out hb2)
          clear hb2
          go_wp2_with fail
          go_roundw
          case rel =>
            have hc : 48 + ((x / 10 : Nat) : Int) = 48 + (x : Int) / 10 := by omega
            refine ⟨l ++ [48 + ((x / 10 : Nat) : Int)], x % 10, 1, by rw [hc, strOfNums_append], by go_num, rfl, ?_, ?_, ?_, HB2.out⟩
            · rw [HL.out, HFR.out, List.append_assoc]; rfl
            · rw [List.length_append, List.length_singleton]; omega
            · omega
          case measure => simp [intOf]
        · have HFR := Lib.hid (fr_on (k := 1) (p := x) ⟨hx, by decide⟩)
          have hd : x / 1 < 10 := by omega
          have hs1 := strOfNums_size [48 + (x : Int)]
          simp only [List.length_singleton] at hs1
          go_wp2_with fail
          refine (Whole_at _ (by omega) (by omega) _).mono ?_; rintro e w2 ⟨rfl, hb2⟩
          have HB2 := Lib.hid (below_then HB.out hb2)
          clear hb2
          go_wp2_with fail
          go_roundw
          case rel =>
            have hc : 48 + ((x / 1 : Nat) : Int) = 48 + (x : Int) := by omega
            refine ⟨l ++ [48 + ((x / 1 : Nat) : Int)], x % 1, 0, by rw [hc, strOfNums_append], by go_num, rfl, ?_, ?_, ?_, HB2.out⟩
            · rw [HL.out, HFR.out, List.append_assoc]; rfl
            · rw [List.length_append, List.length_singleton]; omega
            · omega
          case measure => simp [intOf]
        · omega
      · have hx0 : x = 0 := by omega
        have HFE := Lib.hid (fr_end (k := k) (p := x) (by omega))
        subst hx0
        go_wp2_with fail
        go_ret
        exact ⟨by rw [HL.out, HFE.out, List.append_nil]; rfl, HB.out⟩

end Go.Proofs.Ytmicgfpiknibhaa
