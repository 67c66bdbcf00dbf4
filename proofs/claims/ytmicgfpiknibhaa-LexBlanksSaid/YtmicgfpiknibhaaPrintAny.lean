/- The program's Print: the walk. -/
import Derived.Test.YtmicgfpiknibhaaPrintWalk
import Derived.Laws.Closers25b
namespace Go.Proofs.Ytmicgfpiknibhaa
open Go.RowKit
set_option linter.unusedSimpArgs false
set_option linter.unusedVariables false

theorem digits_at (x y : Int) (n least : Nat) (hx : x = (n : Int)) (hy : y = (least : Int)) (hn : n ≤ 1073741824) (hl : least ≤ 1000) (w : World) :
    Calls Try.prog 55 #[.int .i64 x, .int .i64 y] w fun e w' => e = .returned (.string (strOfNums (be least n))) ∧ Below w.heap.size w w' := by
  subst hx hy; exact digits_walk n least hn hl w

theorem toList_strOfNums (l : List Int) : (strOfNums l).toList.isEmpty = l.isEmpty := by
  rw [ByteArray.toList_eq, strOfNums_data]
  cases l <;> rfl
theorem fr_empty (p : Nat) : (strOfNums (fr 100 p)).toList.isEmpty = decide (p = 0) := by
  rw [toList_strOfNums]
  by_cases h : p = 0
  · rw [fr_end (by omega)]; simp [h]
  · rw [fr_on (by omega)]; simp [h]
theorem str_none (a : List Int) : ({ data := #[] } ++ strOfNums a : ByteArray) = strOfNums a := (strOfNums_append [] a).symm
theorem str_front (a : List Int) : ({ data := #[45] } ++ strOfNums a : ByteArray) = strOfNums (45 :: a) := (strOfNums_append [45] a).symm
theorem str_none2 (a b : List Int) : ({ data := #[] } ++ strOfNums a ++ ({ data := #[46] } ++ strOfNums b) : ByteArray) = strOfNums (a ++ 46 :: b) := by
  rw [str_none, strOfNums_append]
  exact congrArg _ (strOfNums_append [46] b).symm
theorem str_front2 (a b : List Int) : ({ data := #[45] } ++ strOfNums a ++ ({ data := #[46] } ++ strOfNums b) : ByteArray) = strOfNums (45 :: (a ++ 46 :: b)) := by
  rw [str_front, show (45 :: (a ++ 46 :: b) : List Int) = (45 :: a) ++ 46 :: b from rfl, strOfNums_append]
  exact congrArg _ (strOfNums_append [46] b).symm

set_option maxHeartbeats 4000000 in
theorem Print_pos (n : Int) (v : Nat) (hv : v ≤ 1073741824) (hh : hold n = (v : Int)) (w : World) :
    Calls Try.prog 27 #[.int .i64 n] w fun e w' => e = .returned (.string (strOfNums (prt v))) ∧ Below w.heap.size w w' := by
  have HH := Lib.hid hh
  have hA : (strOfNums (be 1 (v / 1000))).size ≤ 1073741825 := by rw [strOfNums_size]; have := be_len 1 (v / 1000); omega
  have hF : (strOfNums (fr 100 (v % 1000))).size ≤ 100 := by rw [strOfNums_size]; exact fr_len _ _
  have hT : trimS (strOfNums (be 3 (v % 1000))) = strOfNums (fr 100 (v % 1000)) := trim_three _ (by omega)
  have hS : (strOfNums (be 3 (v % 1000))).size ≤ 1003 := by rw [strOfNums_size]; have := be_len 3 (v % 1000); omega
  have hE : (strOfNums (fr 100 (v % 1000))).toList.isEmpty = decide (v % 1000 = 0) := fr_empty _
  have HP : Hid (prt v = be 1 (v / 1000) ++ (if v % 1000 = 0 then [] else 46 :: fr 100 (v % 1000))) := Lib.hid rfl
  have HT := Lib.hid hT
  have HS := Lib.hid hS
  clear hh hT hS
  go_enter Try.func27, Try.ntmps27
  go_wp2_with fail
  refine (Hold_any _ _).mono ?_; rintro e w' ⟨rfl, rfl⟩
  rw [HH.out]
  go_wp2_with fail
  refine (digits_at _ _ (v / 1000) 1 (by omega) rfl (by omega) (by omega) _).mono ?_; rintro e w1 ⟨rfl, hb1⟩
  have HB1 := Lib.hid hb1
  clear hb1
  go_wp2_with fail
  refine (digits_at _ _ (v % 1000) 3 (by omega) rfl (by omega) (by omega) _).mono ?_; rintro e w2 ⟨rfl, hb2⟩
  have HB2 := Lib.hid (HB1.out.trans (hb2.mono HB1.out.size))
  clear hb2
  go_wp2_with fail
  refine (trim_any _ (by have := HS.out; unfold maxLen; omega) _).mono ?_; rintro e w' ⟨rfl, rfl⟩
  rw [HT.out]
  by_cases hp : v % 1000 = 0
  · have hE1 : (strOfNums (fr 100 (v % 1000))).toList.isEmpty = true := by rw [hE]; simp [hp]
    have HPP : Hid (prt v = be 1 (v / 1000)) := Lib.hid (by rw [HP.out, if_pos hp, List.append_nil])
    clear hE hp
    go_wp2_with fail
    go_ret
    exact ⟨by rw [HPP.out]; exact congrArg (fun s => Ending.returned (.string s)) (str_none _), HB2.out⟩
  · have hE1 : (strOfNums (fr 100 (v % 1000))).toList.isEmpty = false := by rw [hE]; simp [hp]
    have HPP : Hid (prt v = be 1 (v / 1000) ++ (46 :: fr 100 (v % 1000))) := Lib.hid (by rw [HP.out, if_neg hp])
    clear hE hp
    go_wp2_with fail
    go_ret
    exact ⟨by rw [HPP.out]; exact congrArg (fun s => Ending.returned (.string s)) (str_none2 _ _), HB2.out⟩

set_option maxHeartbeats 4000000 in
theorem Print_neg (n : Int) (v : Nat) (hv : v ≤ 1073741824) (h0 : 0 < v) (hh : hold n = -(v : Int)) (w : World) :
    Calls Try.prog 27 #[.int .i64 n] w fun e w' => e = .returned (.string (strOfNums (45 :: prt v))) ∧ Below w.heap.size w w' := by
  have HH := Lib.hid hh
  have hA : (strOfNums (be 1 (v / 1000))).size ≤ 1073741825 := by rw [strOfNums_size]; have := be_len 1 (v / 1000); omega
  have hF : (strOfNums (fr 100 (v % 1000))).size ≤ 100 := by rw [strOfNums_size]; exact fr_len _ _
  have hT : trimS (strOfNums (be 3 (v % 1000))) = strOfNums (fr 100 (v % 1000)) := trim_three _ (by omega)
  have hS : (strOfNums (be 3 (v % 1000))).size ≤ 1003 := by rw [strOfNums_size]; have := be_len 3 (v % 1000); omega
  have hE : (strOfNums (fr 100 (v % 1000))).toList.isEmpty = decide (v % 1000 = 0) := fr_empty _
  have HP : Hid (prt v = be 1 (v / 1000) ++ (if v % 1000 = 0 then [] else 46 :: fr 100 (v % 1000))) := Lib.hid rfl
  have HT := Lib.hid hT
  have HS := Lib.hid hS
  clear hh hT hS
  go_enter Try.func27, Try.ntmps27
  go_wp2_with fail
  refine (Hold_any _ _).mono ?_; rintro e w' ⟨rfl, rfl⟩
  rw [HH.out]
  go_wp2_with fail
  refine (digits_at _ _ (v / 1000) 1 (by omega) rfl (by omega) (by omega) _).mono ?_; rintro e w1 ⟨rfl, hb1⟩
  have HB1 := Lib.hid hb1
  clear hb1
  go_wp2_with fail
  refine (digits_at _ _ (v % 1000) 3 (by omega) rfl (by omega) (by omega) _).mono ?_; rintro e w2 ⟨rfl, hb2⟩
  have HB2 := Lib.hid (HB1.out.trans (hb2.mono HB1.out.size))
  clear hb2
  go_wp2_with fail
  refine (trim_any _ (by have := HS.out; unfold maxLen; omega) _).mono ?_; rintro e w' ⟨rfl, rfl⟩
  rw [HT.out]
  by_cases hp : v % 1000 = 0
  · have hE1 : (strOfNums (fr 100 (v % 1000))).toList.isEmpty = true := by rw [hE]; simp [hp]
    have HPP : Hid (prt v = be 1 (v / 1000)) := Lib.hid (by rw [HP.out, if_pos hp, List.append_nil])
    clear hE hp
    go_wp2_with fail
    go_ret
    exact ⟨by rw [HPP.out]; exact congrArg (fun s => Ending.returned (.string s)) (str_front _), HB2.out⟩
  · have hE1 : (strOfNums (fr 100 (v % 1000))).toList.isEmpty = false := by rw [hE]; simp [hp]
    have HPP : Hid (prt v = be 1 (v / 1000) ++ (46 :: fr 100 (v % 1000))) := Lib.hid (by rw [HP.out, if_neg hp])
    clear hE hp
    go_wp2_with fail
    go_ret
    exact ⟨by rw [HPP.out]; exact congrArg (fun s => Ending.returned (.string s)) (str_front2 _ _), HB2.out⟩

theorem Print_any (n : Int) (w : World) :
    Calls Try.prog 27 #[.int .i64 n] w fun e w' => e = .returned (.string (strOfNums (prtI n))) ∧ Below w.heap.size w w' := by
  have hb := hold_bd n
  unfold prtI
  by_cases h : hold n < 0
  · rw [if_pos h]; exact Print_neg n _ (by omega) (by omega) (by omega) w
  · rw [if_neg h]; exact Print_pos n _ (by omega) (by omega) w

end Go.Proofs.Ytmicgfpiknibhaa
