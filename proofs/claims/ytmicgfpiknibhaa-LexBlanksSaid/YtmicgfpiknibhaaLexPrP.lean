/- The program's Print of tokens. -/
import Derived.Test.YtmicgfpiknibhaaLexPr
import Derived.Test.YtmicgfpiknibhaaLexBuild
namespace Go.Proofs.Ytmicgfpiknibhaa
open Go.RowKit
set_option linter.unusedSimpArgs false
set_option linter.unusedVariables false
attribute [local go_sem] cell?_ext frozen?_ext lt_size_ext cellx_ext_drew ltx_ext_drew

theorem strCells_byte (x : List UInt8) : Lib.strCells (strOf x) = Lib.byteCells x := by unfold Lib.strCells Lib.byteCells; rw [strOf_data]
theorem byteCells_app (x y : List UInt8) : Lib.byteCells (x ++ y) = Lib.byteCells x ++ Lib.byteCells y := by simp [Lib.byteCells]

set_option maxHeartbeats 8000000 in
theorem Print_list (L : List Tk) (ao : Option Addr) (cap : Nat) (hcap : L.length ≤ cap) (hcm : cap ≤ maxLen) (hx : ∀ t ∈ L, t.x.length ≤ 100000) (hsz : szL L ≤ 400000) (w : World) (hT : Tks w ao L) (hg : Gm w) :
    Calls Try.prog 12 #[.slice ao L.length cap] w fun e w' => e = .returned (.tuple #[.string (strOf (prOut L).1), .int .i64 (prOut L).2]) ∧ Below w.heap.size w w' := by
  have HT := Lib.hid hT
  have hl := szL_len L
  obtain ⟨n, hn⟩ : ∃ n, n = L.length := ⟨_, rfl⟩
  have HN := Lib.hid hn
  rw [← hn] at hcap ⊢
  have hnb : n ≤ 100000 := by omega
  have HX := Lib.hid hx
  have HSZ := Lib.hid hsz
  have HG := Lib.hid hg
  unfold maxLen at hcm
  clear hT hn hx hl hsz hg
  go_enter Try.func12, Try.ntmps12
  go_wp2_with fail
  go_loopw [5, 12] (fun v5 v12 wr => ∃ j : Nat, j ≤ n ∧ v5 = .string (strOf (lastX L j)) ∧ v12 = .int .i64 j ∧ (L.take j).all rightT = true ∧ Lib.IsBuilderF 43 5 w.heap.size w.heap.size (Lib.byteCells (pr (L.take j))) wr ∧ Below w.heap.size w wr) (fun _ v12 _ => n - (intOf v12).toNat)
  case atStart => exact ⟨0, by omega, rfl, rfl, rfl, bld_new (heap_alloc_new w _), (Below.refl _ w).alloc (Nat.le_refl _) _⟩
  case round =>
    obtain ⟨j, hj, rfl, rfl, hall, hbd, hbl⟩ := hrel
    by_cases hlt : j < n
    · have hd : decide ((j : Int) < (n : Int)) = true := decide_eq_true (by omega)
      have hjl : j < L.length := by have := HN.out; omega
      have hta : L[j]? = some L[j] := List.getElem?_eq_getElem hjl
      obtain ⟨t, htt⟩ : ∃ t, t = L[j] := ⟨_, rfl⟩
      rw [← htt] at hta
      have hxt := HX.out t (List.mem_of_getElem? hta)
      have hR := fun w hg => Right_any t hxt w hg
      have htxt := fun w hg => text_any t hxt w hg
      have hat := all_take hta
      rw [hall, Bool.true_and] at hat
      have hna := not_all hta
      have hln := lastX_next hta
      have hB : (strOf (tx t)).size ≤ 400000 := by rw [strOf_size]; have := szL_at hta; have := HSZ.out; omega
      have hpl := pr_take_len L j
      unfold Tk.val at hR htxt
      have htk := HT.out.below hbl
      rcases htk with h0 | ⟨ba, oa, rfl, hla, hka⟩
      · rw [h0] at hjl; simp at hjl
      obtain ⟨p0, p1, p2⟩ := hka j t hta
      have HBL := Lib.hid hbl
      have HBD := Lib.hid hbd
      have HNW := Lib.hid (Blk.new wr 23 #[.int .i64 t.k, .string (strOf t.x), .int .i64 t.n])
      have HB1 := Lib.hid (below_alloc (Below.refl wr.heap.size wr) (.cells #[.int .i64 t.k, .string (strOf t.x), .int .i64 t.n] 23))
      have HBL1 := Lib.hid (below_then HBL.out HB1.out)
      have HBD1 := Lib.hid (bld_then HBD.out HB1.out)
      have HR := Lib.hid hR
      have HTX := Lib.hid htxt
      clear hR htxt hbl hbd htt hjl
      cases hrt : rightT t with
      | false =>
        have HV := Lib.hid (show prOut L = ([], 11) by unfold prOut; rw [hna hrt]; rfl)
        rw [hrt] at HR
        clear hka hta hna hln hrt hall hat hpl
        go_wp2_with fail
        refine (HR.out _ (HG.out.then_ HBL1.out)).mono ?_; rintro e w2 ⟨rfl, hb2⟩
        have HBL2 := Lib.hid (below_then HBL1.out hb2)
        clear hb2
        go_wp2_with fail
        go_ret2
        exact ⟨by rw [HV.out]; rfl, HBL2.out⟩
      | true =>
        rw [hrt] at HR hat
        have HAT := Lib.hid hat
        have hok : (textT t).isSome = true := by
          have h := hrt
          unfold rightT at h
          rw [Bool.and_eq_true] at h
          exact h.1
        rw [hok] at HTX
        cases j with
        | zero =>
          rw [Nat.zero_mul, Nat.add_zero] at p0 p1 p2
          have HP := Lib.hid (pr_first hta)
          have HLN := Lib.hid (show strOf (lastX L (0 + 1)) = strOf (tx t) by rw [hln])
          have hpb : (pr (L.take 0)).length ≤ 400000 := Nat.le_trans hpl HSZ.out
          clear hka hta hna hln hrt hall hat hok hpl
          generalize hS : strOf (tx t) = S at *
          have HS := Lib.hid hS
          clear hS
          go_wp2_with fail
          refine (HR.out _ (HG.out.then_ HBL1.out)).mono ?_; rintro e w2 ⟨rfl, hb2⟩
          have HBL2 := Lib.hid (below_then HBL1.out hb2)
          have HBD2 := Lib.hid (bld_then HBD1.out hb2)
          have HNW2 := Lib.hid (HNW.out.then_ hb2)
          have HBW2 := Lib.hid (below_then HB1.out hb2)
          clear hb2
          have q0 : w2.cell? ⟨wr.heap.size, 0, none⟩ = some (.int .i64 t.k) := HNW2.out.cell 0
          have q1 : w2.cell? ⟨wr.heap.size, 1, none⟩ = some (.string (strOf t.x)) := HNW2.out.cell 1
          have q2 : w2.cell? ⟨wr.heap.size, 2, none⟩ = some (.int .i64 t.n) := HNW2.out.cell 2
          go_wp2_with fail
          refine (HTX.out _ (HG.out.then_ HBL2.out)).mono ?_; rintro e w3 ⟨rfl, hb3⟩
          have HBL3 := Lib.hid (below_then HBL2.out hb3)
          have HBD3 := Lib.hid (bld_then HBD2.out hb3)
          have HNW3 := Lib.hid (HNW2.out.then_ hb3)
          have HBW3 := Lib.hid (below_then HBW2.out hb3)
          clear hb3 p0 p1 p2 q0 q1 q2
          go_wp2_with fail
          refine wp_region_ext (by kernel_rfl) (by kernel_rfl) ?_
          repeat (go_big_quiet_step (fail))
          refine wpQuiet_nil ?_
          rintro _ ⟨u, rfl⟩
          have HBL4 := Lib.hid (below_to_ext HBL3.out u)
          have HBD4 := Lib.hid (bld_then HBD3.out (below_ext w3 u))
          go_wp2_with fail
          refine (WriteString_any w.heap.size w.heap.size _ S _ HBD4.out (by rw [Lib.byteCells_length]; omega) HBL4.out.size).mono ?_; rintro e w5 ⟨rfl, hbd5, hb5⟩
          have HBL5 := Lib.hid (HBL4.out.trans hb5)
          have HBD5 : Hid (Lib.IsBuilderF 43 5 w.heap.size w.heap.size (Lib.byteCells (pr (L.take 0) ++ tx t)) w5) := Lib.hid (.inr (by have h := hbd5; rw [← HS.out, strCells_byte, ← byteCells_app] at h; exact h))
          clear hbd5 hb5
          go_wp2_with fail
          go_roundw
          case rel => exact ⟨1, by omega, by rw [HLN.out], rfl, HAT.out, by have h := HBD5.out; rw [show pr (L.take 1) = pr (L.take 0) ++ tx t from HP.out]; exact h, HBL5.out⟩
          case measure => (simp [intOf]; omega)
        | succ k =>
          have hkl : k < L.length := by have := HN.out; omega
          have htk0 : L[k]? = some L[k] := List.getElem?_eq_getElem hkl
          obtain ⟨a, haa⟩ : ∃ a, a = L[k] := ⟨_, rfl⟩
          rw [← haa] at htk0
          have hl0 := lastX_next htk0
          obtain ⟨r0, r1, r2⟩ := hka k a htk0
          have hsa := szL_at htk0
          have hst := szL_at hta
          have hto := fun w hg => touch_any a t (tx a) (tx t) (by have := HSZ.out; omega) (by have := HSZ.out; omega) w hg
          have HPN := Lib.hid (pr_next htk0 hta)
          obtain ⟨b, hb⟩ : ∃ b, b = decide (cut (tx a ++ tx t) = [a, t]) := ⟨_, rfl⟩
          have HSP : Hid (sep a t = if b = true then [] else [47, 42, 42, 47]) := Lib.hid (by rw [hb]; unfold sep; simp)
          rw [← hb] at hto
          unfold Tk.val at hto
          rw [hl0]
          obtain ⟨m, hm⟩ : ∃ m, m = k + 1 := ⟨_, rfl⟩
          have hm1 : (m : Int) - 1 = (k : Int) := by omega
          have hm0 : 0 < m := by omega
          have hmi : (0 : Int) < (m : Int) := by omega
          have hkn : (k : Int) < (n : Int) := by omega
          have hkn2 : k < n := by omega
          have hk0 : (0 : Int) ≤ (k : Int) := by omega
          rw [← hm] at hlt hd p0 p1 p2 hln HPN HAT hpl HBD1 ⊢
          have HLN := Lib.hid (show strOf (lastX L (m + 1)) = strOf (tx t) by rw [hln])
          have HTO := Lib.hid hto
          have hpb : (pr (L.take m)).length ≤ 400000 := Nat.le_trans hpl HSZ.out
          clear hka hta hna hln hrt hall hat hok hkl htk0 haa hl0 hb hto hm hj hsa hst hpl
          generalize strOf (tx a) = S0 at *
          generalize hS : strOf (tx t) = S at *
          have HS := Lib.hid hS
          clear hS
          generalize hXX : pr (L.take m) = X at *
          have HXX := Lib.hid hXX
          clear hXX
          go_wp2_with fail
          refine (HR.out _ (HG.out.then_ HBL1.out)).mono ?_; rintro e w2 ⟨rfl, hb2⟩
          have HBL2 := Lib.hid (below_then HBL1.out hb2)
          have HBD2 := Lib.hid (bld_then HBD1.out hb2)
          have HNW2 := Lib.hid (HNW.out.then_ hb2)
          have HBW2 := Lib.hid (below_then HB1.out hb2)
          clear hb2
          have q0 : w2.cell? ⟨wr.heap.size, 0, none⟩ = some (.int .i64 t.k) := HNW2.out.cell 0
          have q1 : w2.cell? ⟨wr.heap.size, 1, none⟩ = some (.string (strOf t.x)) := HNW2.out.cell 1
          have q2 : w2.cell? ⟨wr.heap.size, 2, none⟩ = some (.int .i64 t.n) := HNW2.out.cell 2
          go_wp2_with fail
          refine (HTX.out _ (HG.out.then_ HBL2.out)).mono ?_; rintro e w3 ⟨rfl, hb3⟩
          have HBL3 := Lib.hid (below_then HBL2.out hb3)
          have HBD3 := Lib.hid (bld_then HBD2.out hb3)
          have HNW3 := Lib.hid (HNW2.out.then_ hb3)
          have HBW3 := Lib.hid (below_then HBW2.out hb3)
          clear hb3 p0 p1 p2 q0 q1 q2
          have q0 : w3.cell? ⟨wr.heap.size, 0, none⟩ = some (.int .i64 t.k) := HNW3.out.cell 0
          have q1 : w3.cell? ⟨wr.heap.size, 1, none⟩ = some (.string (strOf t.x)) := HNW3.out.cell 1
          have q2 : w3.cell? ⟨wr.heap.size, 2, none⟩ = some (.int .i64 t.n) := HNW3.out.cell 2
          have ql := HNW3.out.lt
          have s0 := (HBW3.out.cell (p := ⟨ba, oa + k * 3, none⟩) hla).trans r0
          have s1 := (HBW3.out.cell (p := ⟨ba, oa + k * 3 + 1, none⟩) hla).trans r1
          have s2 := (HBW3.out.cell (p := ⟨ba, oa + k * 3 + 2, none⟩) hla).trans r2
          have sl := Nat.lt_of_lt_of_le hla HBW3.out.size
          clear r0 r1 r2
          go_wp2_with fail
          refine wp_region_ext (by kernel_rfl) (by kernel_rfl) ?_
          repeat (go_big_quiet_step ((go_at_call 21; exact quiet_ext (HTO.out _ (HG.out.then_ (below_to_ext HBL3.out _))))))
          refine wpQuiet_nil ?_
          rintro _ ⟨u, rfl⟩
          have HBL4 := Lib.hid (below_to_ext HBL3.out u)
          have HBD4 := Lib.hid (bld_then HBD3.out (below_ext w3 u))
          clear q0 q1 q2 s0 s1 s2 sl ql hm1 hmi hm0 hkn hkn2 hk0
          cases b with
          | true =>
            have HP : Hid (pr (L.take (m + 1)) = X ++ tx t) := Lib.hid (by rw [HPN.out, HSP.out, if_pos rfl, List.nil_append])
            clear HPN HSP
            go_wp2_with fail
            refine (WriteString_any w.heap.size w.heap.size _ S _ HBD4.out (by rw [Lib.byteCells_length]; omega) HBL4.out.size).mono ?_; rintro e w5 ⟨rfl, hbd5, hb5⟩
            have HBL5 := Lib.hid (HBL4.out.trans hb5)
            have HBD5 : Hid (Lib.IsBuilderF 43 5 w.heap.size w.heap.size (Lib.byteCells (X ++ tx t)) w5) := Lib.hid (.inr (by have h := hbd5; rw [← HS.out, strCells_byte, ← byteCells_app] at h; exact h))
            clear hbd5 hb5
            go_wp2_with fail
            go_roundw
            case rel => exact ⟨m + 1, by omega, by rw [HLN.out], by go_num, HAT.out, by rw [HP.out]; exact HBD5.out, HBL5.out⟩
            case measure => (simp [intOf]; omega)
          | false =>
            have HP : Hid (pr (L.take (m + 1)) = (X ++ [47, 42, 42, 47]) ++ tx t) := Lib.hid (by rw [HPN.out, HSP.out, if_neg (by decide), List.append_assoc])
            clear HPN HSP
            go_wp2_with fail
            refine (WriteString_any w.heap.size w.heap.size _ { data := #[47, 42, 42, 47] } _ HBD4.out (by rw [Lib.byteCells_length]; show X.length + 4 ≤ _; omega) HBL4.out.size).mono ?_; rintro e w5 ⟨rfl, hbd5, hb5⟩
            have HBL5 := Lib.hid (HBL4.out.trans hb5)
            have HBD5 : Hid (Lib.IsBuilderF 43 5 w.heap.size w.heap.size (Lib.byteCells (X ++ [47, 42, 42, 47])) w5) := Lib.hid (.inr (by have h := hbd5; rw [show Lib.strCells { data := #[47, 42, 42, 47] } = Lib.byteCells [47, 42, 42, 47] from rfl, ← byteCells_app] at h; exact h))
            clear hbd5 hb5
            go_wp2_with fail
            refine (WriteString_any w.heap.size w.heap.size _ S _ HBD5.out (by rw [Lib.byteCells_length, List.length_append]; show X.length + 4 + S.size ≤ _; omega) HBL5.out.size).mono ?_; rintro e w6 ⟨rfl, hbd6, hb6⟩
            have HBL6 := Lib.hid (HBL5.out.trans hb6)
            have HBD6 : Hid (Lib.IsBuilderF 43 5 w.heap.size w.heap.size (Lib.byteCells ((X ++ [47, 42, 42, 47]) ++ tx t)) w6) := Lib.hid (.inr (by have h := hbd6; rw [← HS.out, strCells_byte, ← byteCells_app] at h; exact h))
            clear hbd6 hb6
            go_wp2_with fail
            go_roundw
            case rel => exact ⟨m + 1, by omega, by rw [HLN.out], by go_num, HAT.out, by rw [HP.out]; exact HBD6.out, HBL6.out⟩
            case measure => (simp [intOf]; omega)
    · have hd : decide ((j : Int) < (n : Int)) = false := decide_eq_false (by omega)
      have HE : Hid (L.take j = L) := Lib.hid (List.take_of_length_le (by have := HN.out; omega))
      rw [HE.out] at hall hbd
      have HBL := Lib.hid hbl
      have HBD := Lib.hid hbd
      have hlen := Sh.Builder_Len_f w.heap.size w.heap.size _ wr hbd
      rw [Lib.byteCells_length] at hlen
      have hplen : (pr L).length ≤ 400000 := by have := pr_take_len L j; rw [HE.out] at this; exact Nat.le_trans this HSZ.out
      have hstr := Sh.Builder_String_any_f w.heap.size w.heap.size _ wr hbd hbl.size
      clear hbl hbd
      by_cases h3 : 32768 < (pr L).length
      · have d3 : decide ((32768 : Int) < ((pr L).length : Int)) = true := decide_eq_true (by omega)
        have HV := Lib.hid (show prOut L = ([], 2) by unfold prOut; rw [if_pos hall, if_pos h3])
        clear hall
        go_wp2_with fail
        refine hlen.mono ?_; rintro e w2 ⟨rfl, rfl⟩
        go_wp2_with fail
        go_ret2
        exact ⟨by rw [HV.out]; rfl, HBL.out⟩
      · have d3 : decide ((32768 : Int) < ((pr L).length : Int)) = false := decide_eq_false (by omega)
        have HV := Lib.hid (show prOut L = (pr L, 0) by unfold prOut; rw [if_pos hall, if_neg h3])
        clear hall
        go_wp2_with fail
        refine hlen.mono ?_; rintro e w2 ⟨rfl, rfl⟩
        go_wp2_with fail
        refine hstr.mono ?_; rintro e w3 ⟨rfl, -, hb3⟩
        have HBL3 := Lib.hid (HBL.out.trans hb3)
        clear hb3
        go_wp2_with fail
        go_ret2
        exact ⟨by rw [HV.out]; rfl, HBL3.out⟩
end Go.Proofs.Ytmicgfpiknibhaa
