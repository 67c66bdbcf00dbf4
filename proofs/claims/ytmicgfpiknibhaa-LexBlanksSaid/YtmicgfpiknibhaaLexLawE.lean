/- The law LexBlanks: its walk. -/
import Derived.Test.YtmicgfpiknibhaaLexKnown
import Derived.Test.YtmicgfpiknibhaaLexBlk
namespace Go.Proofs.Ytmicgfpiknibhaa
open Go.RowKit
set_option linter.unusedSimpArgs false
set_option linter.unusedVariables false
attribute [local go_sem] cell?_ext frozen?_ext lt_size_ext

theorem app_data (a b : ByteArray) : (a ++ b).data.toList = a.data.toList ++ b.data.toList := by simp [ByteArray.data_append]
set_option maxHeartbeats 4000000 in
theorem Blanks_walk (s t : ByteArray) (w : World) (hg : Gm w) :
    Calls Try.prog 7 #[.string s, .string t] w fun e w' => e = .returned (.bool true) ∧ Below w.heap.size w w' := by
  have HG := Lib.hid hg
  clear hg
  by_cases hs : 2000 < s.size
  · have d1 : decide ((2000 : Int) < (s.size : Int)) = true := decide_eq_true (by omega)
    go_enter Try.func7, Try.ntmps7
    go_wp2_with fail
    refine (known_any _ HG.out).mono ?_; rintro e w3 ⟨rfl, hb⟩
    have HB := Lib.hid hb
    clear hb
    go_wp2_with fail
    go_ret
    exact ⟨rfl, HB.out⟩
  have d1 : decide ((2000 : Int) < (s.size : Int)) = false := decide_eq_false (by omega)
  by_cases ht : 2000 < t.size
  · have d2 : decide ((2000 : Int) < (t.size : Int)) = true := decide_eq_true (by omega)
    go_enter Try.func7, Try.ntmps7
    go_wp2_with fail
    refine (known_any _ HG.out).mono ?_; rintro e w3 ⟨rfl, hb⟩
    have HB := Lib.hid hb
    clear hb
    go_wp2_with fail
    go_ret
    exact ⟨rfl, HB.out⟩
  have d2 : decide ((2000 : Int) < (t.size : Int)) = false := decide_eq_false (by omega)
  have hs2 : s.size ≤ 2000 := by omega
  have ht2 : t.size ≤ 2000 := by omega
  have z1 : (s ++ { data := #[32] } ++ t : ByteArray).size = s.size + 1 + t.size := by rw [ByteArray.size_append, ByteArray.size_append]; rfl
  have z2 : (s ++ { data := #[32, 9, 10] } ++ t : ByteArray).size = s.size + 3 + t.size := by rw [ByteArray.size_append, ByteArray.size_append]; rfl
  have z3 : (s ++ { data := #[32] } : ByteArray).size = s.size + 1 := by rw [ByteArray.size_append]; rfl
  have l1 := fun w hg => Lex_any (s ++ { data := #[32] } ++ t) (by omega) w hg
  have l2 := fun w hg => Lex_any (s ++ { data := #[32, 9, 10] } ++ t) (by omega) w hg
  have l3 := fun w => RCut_any (s ++ { data := #[32] }) (by omega) w
  have q1 : (s ++ { data := #[32] } ++ t : ByteArray).data.toList = s.data.toList ++ 32 :: t.data.toList := by rw [app_data, app_data, List.append_assoc]; rfl
  have q2 : (s ++ { data := #[32, 9, 10] } ++ t : ByteArray).data.toList = s.data.toList ++ 32 :: 9 :: 10 :: t.data.toList := by rw [app_data, app_data, List.append_assoc]; rfl
  have q3 : (s ++ { data := #[32] } : ByteArray).data.toList = s.data.toList ++ [32] := by rw [app_data]
  rw [q1, z1] at l1
  rw [q2, z2] at l2
  rw [q3] at l3
  have hmore := cut_more s.data.toList t.data.toList
  have n1 := cut_len (s.data.toList ++ 32 :: t.data.toList)
  have n2 := cut_len (s.data.toList ++ 32 :: 9 :: 10 :: t.data.toList)
  have n3 := cut_len (s.data.toList ++ [32])
  rw [List.length_append, List.length_cons, len_data, len_data] at n1
  rw [List.length_append, List.length_cons, List.length_cons, List.length_cons, len_data, len_data] at n2
  rw [List.length_append, len_data] at n3
  generalize cut (s.data.toList ++ 32 :: t.data.toList) = A at *
  generalize cut (s.data.toList ++ 32 :: 9 :: 10 :: t.data.toList) = B at *
  generalize cut (s.data.toList ++ [32]) = C at *
  have hcb : C.length ≤ 2001 := by simp at n3; omega
  have HL1 := Lib.hid l1
  have HL2 := Lib.hid l2
  have HL3 := Lib.hid l3
  have HM := Lib.hid hmore
  have hsa := fun w ao1 ao2 c1 c2 hA hB => RSame_any A B ao1 ao2 c1 c2 (by omega) (by omega) w hA hB
  have HSA := Lib.hid hsa
  clear l1 l2 l3 hmore hsa n1 n2 n3 q1 q2 q3 z1 z2 z3 hs ht
  go_enter Try.func7, Try.ntmps7
  go_wp2_with fail
  refine (HL1.out _ HG.out).mono ?_
  rintro e w2 (⟨hl, -, -⟩ | ⟨-, v, rfl, ho, hb⟩)
  · exact absurd hl (by omega)
  obtain ⟨ao1, cap1, rfl, ht1⟩ := own_tks ho
  have HT1 := Lib.hid ht1
  have HB := Lib.hid hb
  clear hb ho ht1
  go_wp2_with fail
  refine (HL2.out _ (HG.out.then_ HB.out)).mono ?_
  rintro e w3 (⟨hl, -, -⟩ | ⟨-, v, rfl, ho, hb⟩)
  · exact absurd hl (by omega)
  obtain ⟨ao2, cap2, rfl, ht2⟩ := own_tks ho
  have HT2 := Lib.hid ht2
  have HT1 := Lib.hid (HT1.out.below hb)
  have HB := Lib.hid (below_then HB.out hb)
  clear hb ho ht2
  go_wp2_with fail
  refine (HL3.out _).mono ?_; rintro e w4 ⟨v, rfl, ho, hb⟩
  obtain ⟨ao3, cap3, rfl, ht3⟩ := own_tks ho
  have HT2 := Lib.hid (HT2.out.below hb)
  have HT1 := Lib.hid (HT1.out.below hb)
  have HB := Lib.hid (below_then HB.out hb)
  clear hb ho
  rcases ht3 with rfl | ⟨b, o, rfl, hlb, hk⟩
  · -- no token
    go_wp2_with fail
    refine (known_any _ (HG.out.then_ HB.out)).mono ?_; rintro e w5 ⟨rfl, hb⟩
    have HB := Lib.hid (below_then HB.out hb)
    clear hb
    go_wp2_with fail
    go_ret
    exact ⟨rfl, HB.out⟩
  by_cases h0 : C.length = 0
  · have e0 : ((C.length : Int) == 0) = true := by rw [h0]; rfl
    clear hk h0
    go_wp2_with fail
    refine (known_any _ (HG.out.then_ HB.out)).mono ?_; rintro e w5 ⟨rfl, hb⟩
    have HB := Lib.hid (below_then HB.out hb)
    clear hb
    go_wp2_with fail
    go_ret
    exact ⟨rfl, HB.out⟩
  obtain ⟨m, hm⟩ : ∃ m, C.length = m + 1 := ⟨C.length - 1, by omega⟩
  have hmlt : m < C.length := by omega
  have hat : C[m]? = some C[m] := List.getElem?_eq_getElem hmlt
  have hlast : C.getLast? = some C[m] := by rw [List.getLast?_eq_getElem?, show C.length - 1 = m by omega]; exact hat
  have HM2 : Hid (C[m].k = 20 → A = B) := Lib.hid (fun h => HM.out (by rw [hlast]; simp [h]))
  obtain ⟨c0, -, -⟩ := hk m _ hat
  generalize C[m] = x at *
  have e0 : (((m : Int) + 1) == 0) = false := beq_false_of_ne (by omega)
  have em : (m : Int) + 1 - 1 = (m : Int) := by omega
  have hmI : (m : Int) < (m : Int) + 1 := by omega
  have hm0 : (0 : Int) ≤ (m : Int) := by omega
  have hmm : (m : Int) + 1 ≤ 2001 := by omega
  rw [hm]
  have HMM := Lib.hid hm
  clear hk h0 hmlt hat hlast HM hcb hm
  by_cases h20 : x.k = 20
  · have e20 : (x.k != 20) = false := by rw [h20]; rfl
    have HAB := Lib.hid (HM2.out h20)
    clear h20 HM2
    go_wp2_with fail
    refine (HSA.out _ _ _ _ _ HT1.out HT2.out).mono ?_; rintro e w5 ⟨rfl, hb⟩
    have HB := Lib.hid (below_then HB.out hb)
    clear hb
    have hdd : decide (A = B) = true := decide_eq_true HAB.out
    rw [hdd]
    clear HAB hdd
    go_wp2_with fail
    refine (known_any _ (HG.out.then_ HB.out)).mono ?_; rintro e w6 ⟨rfl, hb⟩
    have HB := Lib.hid (below_then HB.out hb)
    clear hb
    go_wp2_with fail
    go_ret
    exact ⟨rfl, HB.out⟩
  · have e20 : (x.k != 20) = true := by unfold bne; rw [beq_false_of_ne h20]; rfl
    clear h20 HM2
    go_wp2_with fail
    refine (known_any _ (HG.out.then_ HB.out)).mono ?_; rintro e w5 ⟨rfl, hb⟩
    have HB := Lib.hid (below_then HB.out hb)
    clear hb
    go_wp2_with fail
    go_ret
    exact ⟨rfl, HB.out⟩
end Go.Proofs.Ytmicgfpiknibhaa
