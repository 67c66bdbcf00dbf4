/- Print: the reference's whole, the program's, and what both come to. -/
import Derived.Test.YtmicgfpiknibhaaPrintRef
import Derived.Test.YtmicgfpiknibhaaTrimWalk
namespace Go.Proofs.Ytmicgfpiknibhaa
open Go.RowKit
set_option linter.unusedSimpArgs false
set_option linter.unusedVariables false

/-- The text of a number. -/
def prtI (n : Int) : List Int := if hold n < 0 then 45 :: prt (-(hold n)).toNat else prt (hold n).toNat

theorem fr_len (k p : Nat) : (fr k p).length ≤ k := by
  by_cases h : 0 < p ∧ 0 < k
  · have := fr_len (k / 10) (p % k)
    rw [fr_on h, List.length_cons]; omega
  · rw [fr_end h]; exact Nat.zero_le _
termination_by k
decreasing_by omega
theorem prt_len (v : Nat) (h : v ≤ 1073741824) : (prt v).length ≤ 1073741926 := by
  have h1 := be_len 1 (v / 1000)
  have h2 := fr_len 100 (v % 1000)
  unfold prt
  rw [List.length_append]
  split
  · simp only [List.length_nil]; omega
  · rw [List.length_cons]; omega

set_option maxHeartbeats 2000000 in
theorem RPrint_any (n : Int) (w : World) :
    Calls Try.prog 41 #[.int .i64 n] w fun e w' => e = .returned (.string (strOfNums (prtI n))) ∧ Below w.heap.size w w' := by
  have hb := hold_bd n
  by_cases h : hold n < 0
  · have HP : Hid (prtI n = [45] ++ prt (-(hold n)).toNat) := Lib.hid (by unfold prtI; rw [if_pos h]; rfl)
    have hlen : (prt (-(hold n)).toNat).length ≤ 1073741926 := prt_len _ (by omega)
    have hA : (strOfNums (prt (-(hold n)).toNat)).size ≤ 1073741926 := by rw [strOfNums_size]; exact hlen
    have hv : hold (-(hold n)) = (((-(hold n)).toNat : Nat) : Int) := by rw [hold_id (by omega) (by omega)]; omega
    have HV := Lib.hid hv
    have hvb : (-(hold n)).toNat ≤ 1073741824 := by omega
    clear hv hlen
    go_enter Try.func41, Try.ntmps41
    go_wp2_with fail
    refine (RHold_any _ _).mono ?_; rintro e w' ⟨rfl, rfl⟩
    go_wp2_with fail
    refine (RPrint_pos _ _ hvb HV.out _).mono ?_; rintro e w1 ⟨rfl, hb1⟩
    have HB1 := Lib.hid hb1
    clear hb1
    go_wp2_with fail
    go_ret
    exact ⟨by rw [HP.out, strOfNums_append]; rfl, HB1.out⟩
  · have e : prtI n = prt (hold n).toNat := by unfold prtI; rw [if_neg h]
    rw [e]
    exact RPrint_pos n _ (by omega) (by omega) w

theorem str_last (l : List Int) (c : Int) (h : (strOfNums (l ++ [c])).size - 1 < (strOfNums (l ++ [c])).size) : (strOfNums (l ++ [c]))[(strOfNums (l ++ [c])).size - 1].toNat = c.toNat % 256 := by
  have hs : (strOfNums (l ++ [c])).size = l.length + 1 := by rw [strOfNums_size]; simp
  have : (strOfNums (l ++ [c]))[(strOfNums (l ++ [c])).size - 1] = UInt8.ofNat c.toNat := by
    have e : (strOfNums (l ++ [c])).data.toList[(strOfNums (l ++ [c])).size - 1]? = some (UInt8.ofNat c.toNat) := by
      rw [strOfNums_data, hs]; simp
    have := List.getElem?_eq_some_iff.1 e
    exact this.2
  rw [this]; simp
theorem str_init (l : List Int) (c : Int) : (strOfNums (l ++ [c])).extract 0 ((strOfNums (l ++ [c])).size - 1) = strOfNums l := by
  have hs : (strOfNums (l ++ [c])).size - 1 = l.length := by rw [strOfNums_size]; simp
  rw [hs]
  apply ByteArray.ext
  simp [strOfNums, ByteArray.data_extract]

theorem trim_nought (l : List Int) : trimS (strOfNums (l ++ [48])) = trimS (strOfNums l) := by
  have hs : 0 < (strOfNums (l ++ [48])).size := by rw [strOfNums_size]; simp
  rw [trimS_on _ hs (by rw [str_last]; rfl), str_init]
theorem trim_digit (l : List Int) (d : Nat) (h1 : 1 ≤ d) (h2 : d ≤ 9) : trimS (strOfNums (l ++ [48 + (d : Int)])) = strOfNums (l ++ [48 + (d : Int)]) := by
  have hs : 0 < (strOfNums (l ++ [48 + (d : Int)])).size := by rw [strOfNums_size]; simp
  exact trimS_end _ hs (by rw [str_last]; omega)
theorem trim_empty : trimS (strOfNums []) = strOfNums [] := trimS_none _ (by rw [strOfNums_size]; decide)

/-- The three digits behind the point, without noughts at the end. -/
theorem trim_three (p : Nat) (h : p < 1000) : trimS (strOfNums (be 3 p)) = strOfNums (fr 100 p) := by
  have e3 : be 3 p = [] ++ [48 + ((p / 100 : Nat) : Int)] ++ [48 + ((p / 10 % 10 : Nat) : Int)] ++ [48 + ((p % 10 : Nat) : Int)] := by
    rw [be_step (by omega), be_step (least := 3 - 1) (by omega), be_step (least := 3 - 1 - 1) (by omega), be_end (by omega)]
    have e : p / 10 / 10 % 10 = p / 100 := by omega
    rw [e]
  rw [e3]
  by_cases h0 : p = 0
  · subst h0
    rw [fr_end (by omega)]
    show trimS (strOfNums ([] ++ [48] ++ [48] ++ [48])) = _
    rw [trim_nought, trim_nought, trim_nought, trim_empty]
  · rw [fr_on (by omega)]
    by_cases h1 : p % 100 = 0
    · have d1 : p % 10 = 0 := by omega
      have d2 : p / 10 % 10 = 0 := by omega
      rw [d1, d2, h1, fr_end (by omega)]
      show trimS (strOfNums ([] ++ [48 + ((p / 100 : Nat) : Int)] ++ [48] ++ [48])) = _
      rw [trim_nought, trim_nought, trim_digit _ _ (by omega) (by omega)]; rfl
    · rw [fr_on (by omega)]
      have d2 : p % 100 / (100 / 10) = p / 10 % 10 := by omega
      have d3 : p % 100 % (100 / 10) = p % 10 := by omega
      rw [d2, d3]
      by_cases h2 : p % 10 = 0
      · rw [h2, fr_end (by omega)]
        show trimS (strOfNums ([] ++ [48 + ((p / 100 : Nat) : Int)] ++ [48 + ((p / 10 % 10 : Nat) : Int)] ++ [48])) = _
        rw [trim_nought, trim_digit _ _ (by omega) (by omega)]; rfl
      · rw [fr_on (by omega), fr_end (by omega), trim_digit _ _ (by omega) (by omega)]
        have d4 : p % 10 / (100 / 10 / 10) = p % 10 := by omega
        rw [d4]; rfl

end Go.Proofs.Ytmicgfpiknibhaa
