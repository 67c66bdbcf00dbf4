/- The reference's Whole: the walk. -/
import Derived.Test.YtmicgfpiknibhaaDigitWalk
import Derived.Deep.RegionWith
import Derived.IntWalk
namespace Go.Proofs.Ytmicgfpiknibhaa
open Go.RowKit
set_option linter.unusedSimpArgs false
set_option linter.unusedVariables false

theorem strOfNums_append (a b : List Int) : strOfNums (a ++ b) = strOfNums a ++ strOfNums b := by
  apply ByteArray.ext
  simp [strOfNums, ByteArray.data_append]

theorem be_len (least n : Nat) : (be least n).length ≤ n + least := by
  by_cases h : 0 < n ∨ 0 < least
  · have := be_len (least - 1) (n / 10)
    rw [be_step h, List.length_append, List.length_singleton]; omega
  · rw [be_end h]; exact Nat.zero_le _
termination_by n + least
decreasing_by omega

theorem conv_one (d : Int) (b : Nat) (W : World) (hc : W.cell? ⟨b, 0, none⟩ = some (.int .u8 d)) :
    (convert 41 9 (.slice (some ⟨b, 0, none⟩) 1 1)).run Try.prog W = .ok (.string (strOfNums [d])) W :=
  run_convert_bytes_arg (P := Try.prog) W 41 5 Try.underlying41 Try.underlying5 b 0 1 1 [d] rfl (fun i hi => by
    obtain rfl : i = 0 := by omega
    exact hc) 9 Try.underlying9

theorem below_of_drew {w w1 : World} (h : Below w.drew.heap.size w.drew w1) : Below w.heap.size w w1 := ⟨h.os, h.tape, h.output, h.size, h.block⟩
theorem below_of_alloc_drew {w w1 : World} {o : Obj} (h : Below (w.alloc o).drew.heap.size (w.alloc o).drew w1) : Below w.heap.size w w1 :=
  below_then ((Below.refl _ w).alloc (Nat.le_refl _) o) ⟨h.os, h.tape, h.output, h.size, h.block⟩

set_option maxHeartbeats 8000000 in
theorem Whole_any (n : Nat) (hn : n ≤ 1073741824) (w : World) :
    Calls Try.prog 62 #[.int .i64 n] w fun e w' => e = .returned (.string (strOfNums (be 1 n))) ∧ Below w.heap.size w w' := by
  induction n using Nat.strongRecOn generalizing w with
  | _ n ih =>
    by_cases h10 : n < 10
    · have hbe : be 1 n = [48 + (n : Int)] := by
        rw [be_step (by omega), be_end (by omega), List.nil_append, show n % 10 = n by omega]
      have hcv := conv_one (48 + (n : Int)) w.heap.size
      have HBE := Lib.hid hbe
      clear hbe ih
      go_enter Try.func62, Try.ntmps62
      go_wp2_with fail
      go_ret
      exact ⟨by rw [HBE.out]; rfl, (Below.refl _ w).alloc (Nat.le_refl _) _⟩
    · have hbe : be 1 n = be 1 (n / 10) ++ [48 + ((n % 10 : Nat) : Int)] := by
        rw [be_step (by omega)]
        congr 1
        rw [be_step (by omega), be_step (least := 1) (by omega)]
      have ih1 := fun w => ih (n / 10) (by omega) (by omega) w
      have hr10 : ((n : Int) % 10) = ((n % 10 : Nat) : Int) := by omega
      have hq10 : ((n : Int) / 10) = ((n / 10 : Nat) : Int) := by omega
      have hlt10 : n % 10 < 10 := by omega
      have t2 : (n : Int).tmod 10 = ((n % 10 : Nat) : Int) := by rw [Int.tmod_eq_emod_of_nonneg (by omega)]; omega
      have t1 : (n : Int).tdiv 10 = ((n / 10 : Nat) : Int) := by rw [Int.tdiv_eq_ediv_of_nonneg (by omega)]; omega
      have hqb : n / 10 ≤ 1073741824 := by omega
      generalize hd : n % 10 = d at *
      generalize hq : n / 10 = q at *
      have t3 : IntKind.i64.wrap (48 + (d : Int)) = 48 + d := IntWalk.i64_in _ (by omega)
      have t4 : IntKind.u8.wrap (48 + (d : Int)) = 48 + d := by unfold IntKind.wrap; simp [IntKind.bits, IntKind.signed]; omega
      have t5 : IntKind.i64.wrap (q : Int) = q := IntWalk.i64_in _ (by omega)
      have t6 : IntKind.i64.wrap (d : Int) = d := IntWalk.i64_in _ (by omega)
      have hcv := conv_one (48 + (d : Int))
      have hA : (strOfNums (be 1 q)).size ≤ 1073741825 := by rw [strOfNums_size]; have := be_len 1 q; omega
      have hB : (strOfNums [48 + (d : Int)]).size = 1 := by rw [strOfNums_size]; rfl
      have hcc : (9223372036854775807 < (strOfNums (be 1 q)).size + (strOfNums [48 + (d : Int)]).size) = False := eq_false (by omega)
      have hcd : ¬ ((strOfNums (be 1 q)).size + (strOfNums [48 + (d : Int)]).size > 9223372036854775807) := by omega
      have HBE := Lib.hid hbe
      have IH := Lib.hid ih1
      clear hbe ih ih1 hd hq
      go_enter Try.func62, Try.ntmps62
      go_wp2_with fail
      go_region_with (first | (go_at_call 62; refine (IH.out _).mono ?_; rintro e w1 ⟨rfl, hb1⟩; obtain ⟨rc1, rf1, rs1⟩ := below_rules hb1; have HB1 := Lib.hid hb1; clear hb1))
      all_goals
        have HB2 : Hid (Below w.heap.size w w1) := Lib.hid (by first | exact below_of_drew HB1.out | exact below_of_alloc_drew HB1.out)
        clear HB1 rc1 rf1 rs1
        go_wp2_with fail
        go_ret
        refine ⟨by rw [HBE.out, strOfNums_append]; rfl, ?_⟩
        first | exact HB2.out | exact below_alloc HB2.out _

end Go.Proofs.Ytmicgfpiknibhaa
