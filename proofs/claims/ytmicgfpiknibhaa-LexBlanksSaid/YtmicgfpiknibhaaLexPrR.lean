/- The reference's Print of tokens. -/
import Derived.Test.YtmicgfpiknibhaaLexPr
namespace Go.Proofs.Ytmicgfpiknibhaa
open Go.RowKit
set_option linter.unusedSimpArgs false
set_option linter.unusedVariables false
attribute [local go_sem] cell?_ext frozen?_ext lt_size_ext cellx_ext_drew ltx_ext_drew
attribute [local go_sem] Go.wp_at_zero Go.wp_at_succ

theorem Tks.two {w : World} {b o : Nat} {L : List Tk} {k : Nat} {a c : Tk} (hl : b < w.heap.size) (hk : ∀ i t, L[i]? = some t →
    w.cell? ⟨b, o + i * 3, none⟩ = some (.int .i64 t.k) ∧ w.cell? ⟨b, o + i * 3 + 1, none⟩ = some (.string (strOf t.x)) ∧ w.cell? ⟨b, o + i * 3 + 2, none⟩ = some (.int .i64 t.n))
    (ha : L[k]? = some a) (hc : L[k + 1]? = some c) : Tks w (some ⟨b, o + k * 3, none⟩) [a, c] := by
  refine .inr ⟨b, o + k * 3, rfl, hl, fun i t ht => ?_⟩
  match i, ht with
  | 0, ht =>
    obtain rfl : a = t := by simpa using ht
    simpa using hk k a ha
  | 1, ht =>
    obtain rfl : c = t := by simpa using ht
    have h := hk (k + 1) c hc
    rw [show o + (k + 1) * 3 = o + k * 3 + 1 * 3 by omega] at h
    exact h
  | i + 2, ht => simp at ht

theorem addr_add (b o m : Nat) : (⟨b, o, none⟩ : Addr).add m = ⟨b, o + m, none⟩ := by
  unfold Addr.add; split
  · rename_i h0; rw [h0]; rfl
  · rfl
theorem run_slice_two (w : World) (ba o n cap k : Nat) (h : k + 2 ≤ cap) :
    (Instr.slice 26 (.slice (some ⟨ba, o, none⟩) n cap) (some (.int .i64 (k : Int))) (some (.int .i64 ((k : Int) + 2))) none).run Try.prog w = .ok (.slice (some ⟨ba, o + k * 3, none⟩) 2 (cap - k)) w := by
  rw [run_slice_lh w 26 _ _ _ (by kernel_rfl) .i64 .i64 (k : Int) ((k : Int) + 2) (by omega) (by omega) (by omega)]
  have e : ∀ w, (sizeOf (Try.prog.elem 26)).run Try.prog w = .ok 3 w := fun w => by
    have : Try.prog.elem 26 = 23 := by kernel_rfl
    rw [this]; exact Try.sizeOf23 w
  rw [e]
  have h1 : ((k : Int) + 2).toNat = k + 2 := by omega
  simp only [Result.andThen, sliced, Int.toNat_natCast, h1, Nat.add_sub_cancel_left, if_neg (show ¬ cap = k by omega), Option.map_some, addr_add]
theorem run_sliceAt_two (w : World) (ba o n cap k : Nat) (h : k + 2 ≤ cap) :
    (Instr.sliceAt 26 (.slice (some ⟨ba, o, none⟩) n cap) (some (.int .i64 (k : Int))) (some (.int .i64 ((k : Int) + 2))) none).run Try.prog w = .ok (.slice (some ⟨ba, o + k * 3, none⟩) 2 (cap - k)) w :=
  (run_sliceAt_slice w 26 _ _ _ _ (by kernel_rfl)).trans (run_slice_two w ba o n cap k h)

set_option maxHeartbeats 4000000 in
theorem RPrintL_any (L : List Tk) (ao : Option Addr) (cap : Nat) (hcap : L.length ≤ cap) (hcm : cap ≤ maxLen) (hx : ∀ t ∈ L, t.x.length ≤ 100000) (hsz : szL L ≤ 400000) (w : World) (hT : Tks w ao L) :
    Calls Try.prog 15 #[.slice ao L.length cap] w fun e w' => e = .returned (.string (strOf (pr L))) ∧ Below w.heap.size w w' := by
  have HT := Lib.hid hT
  have hl := szL_len L
  obtain ⟨n, hn⟩ : ∃ n, n = L.length := ⟨_, rfl⟩
  have HN := Lib.hid hn
  rw [← hn] at hcap ⊢
  have hnb : n ≤ 100000 := by omega
  have HX := Lib.hid hx
  have HSZ := Lib.hid hsz
  unfold maxLen at hcm
  clear hT hn hx hl hsz
  go_enter Try.func15, Try.ntmps15
  go_wp2_with fail
  go_loopw [3, 4, 5] (fun v3 v4 v5 wr => ∃ j : Nat, j ≤ n ∧ v3 = .string (strOf (pr (L.take j))) ∧ v4 = .string (strOf (lastX L j)) ∧ v5 = .int .i64 j ∧ Below w.heap.size w wr) (fun _ _ v5 _ => n - (intOf v5).toNat)
  case atStart => exact ⟨0, by omega, rfl, rfl, rfl, Below.refl _ _⟩
  case round =>
    obtain ⟨j, hj, rfl, rfl, rfl, hbl⟩ := hrel
    by_cases hlt : j < n
    · have hd : decide ((j : Int) < (n : Int)) = true := decide_eq_true (by omega)
      have hjl : j < L.length := by have := HN.out; omega
      have hta : L[j]? = some L[j] := List.getElem?_eq_getElem hjl
      obtain ⟨t, htt⟩ : ∃ t, t = L[j] := ⟨_, rfl⟩
      rw [← htt] at hta
      have htxt := fun w => Rtext_any t (HX.out t (List.mem_of_getElem? hta)) w
      have hln := lastX_next hta
      have hA : (strOf (pr (L.take j))).size ≤ 400000 := by rw [strOf_size]; exact Nat.le_trans (pr_take_len L j) HSZ.out
      have hB : (strOf (tx t)).size ≤ 400000 := by rw [strOf_size]; have := szL_at hta; have := HSZ.out; omega
      unfold Tk.val at htxt
      have htk := HT.out.below hbl
      rcases htk with h0 | ⟨ba, oa, rfl, hla, hka⟩
      · rw [h0] at hjl; simp at hjl
      obtain ⟨p0, p1, p2⟩ := hka j t hta
      have HBL := Lib.hid hbl
      cases j with
      | zero =>
        have HP : Hid (strOf (pr (L.take 0)) ++ strOf (tx t) = strOf (pr (L.take (0 + 1)))) := Lib.hid (by rw [pr_first hta, ← strOf_app]; rfl)
        have HLN := Lib.hid (show strOf (lastX L (0 + 1)) = strOf (tx t) by rw [hln])
        generalize strOf (pr (L.take 0)) = A at *
        have HTX := Lib.hid htxt
        clear htxt
        rw [Nat.zero_mul, Nat.add_zero] at p0 p1 p2
        generalize (textT t).isSome = ok at *
        generalize strOf (tx t) = B at *
        clear hka hbl hta htt hjl hln
        go_wp2_with fail
        refine (HTX.out _).mono ?_; rintro e w2 ⟨rfl, hb2⟩
        have HBL2 := Lib.hid (below_then HBL.out hb2)
        clear hb2
        go_wp2_with fail
        refine wp_region_ext (by kernel_rfl) (by kernel_rfl) ?_
        repeat (go_big_quiet_step (fail))
        refine wpQuiet_nil ?_
        rintro _ ⟨u, rfl⟩
        have HBL3 := Lib.hid (below_to_ext HBL2.out u)
        go_wp2_with fail
        go_roundw
        case rel => exact ⟨1, by omega, by rw [HP.out], by rw [HLN.out], rfl, HBL3.out⟩
        case measure => (simp [intOf]; omega)
      | succ k =>
        have hkl : k < L.length := by omega
        have htk0 : L[k]? = some L[k] := List.getElem?_eq_getElem hkl
        obtain ⟨a, haa⟩ : ∃ a, a = L[k] := ⟨_, rfl⟩
        rw [← haa] at htk0
        have hl0 := lastX_next htk0
        have hT2 := Tks.two hla hka htk0 hta
        have hB0 : (strOf (tx a)).size ≤ 400000 := by rw [strOf_size]; have := szL_at htk0; have := HSZ.out; omega
        have hsum : (tx a).length + (tx t).length ≤ 1000000 := by
          have := szL_at htk0; have := szL_at hta; have := HSZ.out; omega
        have hcu := fun w => RCut_any (strOf (tx a) ++ strOf (tx t)) (by rw [← strOf_app, strOf_size, List.length_append]; exact hsum) w
        rw [show (strOf (tx a) ++ strOf (tx t)).data.toList = tx a ++ tx t by rw [← strOf_app, strOf_data]] at hcu
        have hcl := cut_len (tx a ++ tx t)
        rw [List.length_append] at hcl
        have HPN := Lib.hid (pr_next htk0 hta)
        obtain ⟨b, hb⟩ : ∃ b, b = decide (cut (tx a ++ tx t) = [a, t]) := ⟨_, rfl⟩
        have HSP : Hid (sep a t = if b = true then [] else [47, 42, 42, 47]) := Lib.hid (by rw [hb]; unfold sep; simp)
        generalize cut (tx a ++ tx t) = C at *
        have hC : C.length ≤ 1000000 := by omega
        have hsa := fun ao ca bo cb w => RSame_any C [a, t] ao bo ca cb hC (by simp) w
        rw [← hb] at hsa
        rw [hl0]
        have HT2 := Lib.hid hT2
        obtain ⟨m, hm⟩ : ∃ m, m = k + 1 := ⟨_, rfl⟩
        have hm1 : (m : Int) - 1 = (k : Int) := by omega
        have hm2 : (m : Int) + 1 = (k : Int) + 2 := by omega
        have hkc : (k : Int) + 2 ≤ (cap : Int) := by omega
        have hkk : (k : Int) ≤ (k : Int) + 2 := by omega
        have hk0 : (0 : Int) ≤ (k : Int) := by omega
        have hck : ¬ cap = k := by omega
        have hm0 : 0 < m := by omega
        have hmi : (0 : Int) < (m : Int) := by omega
        rw [← hm] at hlt hd hA p0 p1 p2 hln HPN ⊢
        have HTX := Lib.hid htxt
        have HP : Hid (strOf (pr (L.take m)) ++ (strOf (sep a t) ++ strOf (tx t)) = strOf (pr (L.take (m + 1)))) := Lib.hid (by rw [HPN.out, strOf_app, strOf_app])
        have HLN := Lib.hid (show strOf (lastX L (m + 1)) = strOf (tx t) by rw [hln])
        have HCU := Lib.hid hcu
        have HSA := Lib.hid hsa
        clear htxt hT2 hka hbl hta htt hjl hln hkl htk0 haa hl0 hcl hC hb HPN hcu hsa hm hj
        generalize strOf (pr (L.take m)) = A at *
        generalize strOf (tx t) = B at *
        generalize strOf (tx a) = B0 at *
        generalize (textT t).isSome = ok at *
        go_wp2_with fail
        refine (HTX.out _).mono ?_; rintro e w2 ⟨rfl, hb2⟩
        have HBL2 := Lib.hid (below_then HBL.out hb2)
        have HT3 := Lib.hid (Tks.below HT2.out hb2)
        have hbal := Nat.lt_of_lt_of_le hla hb2.size
        clear hb2 p0 p1 p2
        have hcc : (9223372036854775807 < B0.size + B.size) = False := eq_false (by omega)
        have hw1 : IntKind.i64.wrap (k : Int) = (k : Int) := IntWalk.i64_in _ (by omega)
        have hw2 : IntKind.i64.wrap ((k : Int) + 2) = (k : Int) + 2 := IntWalk.i64_in _ (by omega)
        have hs1 := fun w => run_slice_two w ba oa n cap k (by omega)
        have hs2 := fun w => run_sliceAt_two w ba oa n cap k (by omega)
        go_upto_region 7 with fail
        go_region_held3 (fun w' => ba < w'.heap.size) ((refine Nat.lt_of_lt_of_le hbal (Below.size (?_ : Below w2.heap.size w2 _)); (repeat (first | with_reducible exact Below.refl _ _ | with_reducible refine below_to_ext ?_ _ | with_reducible refine below_alloc ?_ _ | with_reducible refine Below.drew ?_))))
          (first | (go_at_call 17; refine (HCU.out _).mono ?_; rintro e w4 ⟨v, rfl, ho, hb⟩; obtain ⟨ao2, cap2, rfl, ht⟩ := own_tks ho; obtain ⟨u, rfl⟩ := ext_of_below hb; clear ho hb) | (go_at_call 16; refine (HSA.out _ _ _ _ _ ht (by exact Tks.below HT3.out (below_to_ext (Below.drew (Below.refl _ _)) _))).mono ?_; rintro e w3 ⟨rfl, hb3⟩; obtain ⟨u3, rfl⟩ := ext_of_below hb3; clear hb3))
        have HBL3 := Lib.hid (HBL2.out.trans (Below.mono (show Below w2.heap.size w2 (ext (ext w2.drew u) u3) from below_to_ext (below_to_ext (Below.drew (Below.refl _ _)) _) _) HBL2.out.size))
        clear hm1 hm2 hkc hkk hk0 hck hw1 hw2 hs1 hs2 hcc ht HT3 hbal
        cases b with
        | true =>
          have HP2 : Hid (A ++ B = strOf (pr (L.take (m + 1)))) := Lib.hid (by
            have h := HP.out
            rw [HSP.out, if_pos rfl] at h
            rw [← h]
            apply ByteArray.ext
            simp [strOf, ByteArray.data_append])
          clear HP HSP
          go_wp2_with fail
          go_roundw
          case rel => exact ⟨m + 1, by omega, by rw [HP2.out], by rw [HLN.out], by go_num, HBL3.out⟩
          case measure => (simp [intOf]; omega)
        | false =>
          have HP2 : Hid ((A ++ { data := #[47, 42, 42, 47] }) ++ B = strOf (pr (L.take (m + 1)))) := Lib.hid (by
            have h := HP.out
            rw [HSP.out, if_neg (by decide)] at h
            rw [← h]
            apply ByteArray.ext
            simp [strOf, ByteArray.data_append])
          have hcc1 : (9223372036854775807 < A.size + 4) = False := eq_false (by omega)
          have hcc2 : (9223372036854775807 < A.size + 4 + B.size) = False := eq_false (by omega)
          clear HP HSP
          go_wp2_with fail
          go_roundw
          case rel => exact ⟨m + 1, by omega, by rw [HP2.out], by rw [HLN.out], by go_num, HBL3.out⟩
          case measure => (simp [intOf]; omega)
    · have hd : decide ((j : Int) < (n : Int)) = false := decide_eq_false (by omega)
      have HE : Hid (L.take j = L) := Lib.hid (List.take_of_length_le (by have := HN.out; omega))
      have HBL := Lib.hid hbl
      clear hbl
      go_wp2_with fail
      go_ret
      exact ⟨by rw [HE.out]; rfl, HBL.out⟩
end Go.Proofs.Ytmicgfpiknibhaa
