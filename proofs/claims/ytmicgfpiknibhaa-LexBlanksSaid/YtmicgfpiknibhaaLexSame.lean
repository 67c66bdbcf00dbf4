/- Tokens compared; lists of them; the reference's Same. -/
import Derived.Test.YtmicgfpiknibhaaLexText
import Derived.Test.YtmicgfpiknibhaaLexCut
import Derived.Laws.StructEq
namespace Go.Proofs.Ytmicgfpiknibhaa
open Go.RowKit
set_option linter.unusedSimpArgs false
set_option linter.unusedVariables false
attribute [local go_sem] cell?_ext frozen?_ext lt_size_ext

theorem strOf_inj {a b : List UInt8} (h : strOf a = strOf b) : a = b := by rw [← strOf_data a, h, strOf_data]
theorem tk_ext {t u : Tk} (h1 : t.k = u.k) (h2 : (strOf t.x).toList = (strOf u.x).toList) (h3 : t.n = u.n) : t = u := by
  obtain ⟨k, x, n⟩ := t
  obtain ⟨k', x', n'⟩ := u
  simp [ByteArray.toList_eq, strOf_data] at h1 h2 h3
  subst h1 h2 h3
  rfl
theorem tk_if_ne {α : Type} {t u : Tk} (h : t ≠ u) (A B : α) : (if t.k = u.k then if (strOf t.x).toList = (strOf u.x).toList then if t.n = u.n then A else B else B else B) = B := by
  by_cases h1 : t.k = u.k
  · rw [if_pos h1]
    by_cases h2 : (strOf t.x).toList = (strOf u.x).toList
    · rw [if_pos h2, if_neg (fun h3 => h (tk_ext h1 h2 h3))]
    · rw [if_neg h2]
  · rw [if_neg h1]
theorem tk_guard : Try.prog.eqGuardType Try.prog.depth 23 = false := by kernel_rfl
attribute [local go_sem] tk_guard

set_option maxHeartbeats 1000000 in
theorem RSame_any (a b : List Tk) (ao bo : Option Addr) (ca cb : Nat) (ha : a.length ≤ 1000000) (hb : b.length ≤ 1000000) (w : World) (hA : Tks w ao a) (hB : Tks w bo b) :
    Calls Try.prog 16 #[.slice ao a.length ca, .slice bo b.length cb] w fun e w' => e = .returned (.bool (decide (a = b))) ∧ Below w.heap.size w w' := by
  have HA := Lib.hid hA
  have HB := Lib.hid hB
  clear hA hB
  by_cases hl : a.length = b.length
  · have HL := Lib.hid hl
    obtain ⟨n, hn⟩ : ∃ n, n = a.length := ⟨_, rfl⟩
    have hm : b.length = n := by omega
    have HN1 := Lib.hid hn
    have HM1 := Lib.hid hm
    rw [← hn, hm]
    have hnb : n ≤ 1000000 := by omega
    have dl : ((n : Int) != (n : Int)) = false := by simp
    clear hl hn hm ha hb
    go_enter Try.func16, Try.ntmps16
    go_wp2_with fail
    go_loopw [5] (fun v5 wr => ∃ j : Nat, j ≤ n ∧ v5 = .int .i64 j ∧ a.take j = b.take j ∧ Below w.heap.size w wr) (fun v5 _ => n - (intOf v5).toNat)
    case atStart => exact ⟨0, by omega, rfl, rfl, Below.refl _ _⟩
    case round =>
      obtain ⟨j, hj, rfl, hn, hbl⟩ := hrel
      by_cases hlt : j < n
      · have hd : decide ((j : Int) < (n : Int)) = true := decide_eq_true (by omega)
        have hja : j < a.length := by have := HN1.out; omega
        have hjb : j < b.length := by have := HM1.out; omega
        have hta : a[j]? = some a[j] := List.getElem?_eq_getElem hja
        have htb : b[j]? = some b[j] := List.getElem?_eq_getElem hjb
        have hna : a.take (j + 1) = a.take j ++ [a[j]] := List.take_succ_eq_append_getElem hja
        have hnb2 : b.take (j + 1) = b.take j ++ [b[j]] := List.take_succ_eq_append_getElem hjb
        obtain ⟨t, htt⟩ : ∃ t, t = a[j] := ⟨_, rfl⟩
        obtain ⟨u, huu⟩ : ∃ u, u = b[j] := ⟨_, rfl⟩
        rw [← htt] at hta hna
        rw [← huu] at htb hnb2
        rcases HA.out.below hbl with h0 | ⟨ba, oa, rfl, hla, hka⟩
        · rw [h0] at hja; simp at hja
        rcases HB.out.below hbl with h0 | ⟨bb, ob, rfl, hlb, hkb⟩
        · rw [h0] at hjb; simp at hjb
        obtain ⟨p0, p1, p2⟩ := hka j t hta
        obtain ⟨q0, q1, q2⟩ := hkb j u htb
        have HBL := Lib.hid hbl
        by_cases htu : t = u
        · have HN := Lib.hid (show a.take (j + 1) = b.take (j + 1) by rw [hna, hnb2, hn, htu])
          subst htu
          clear hka hkb hbl hn hta htb hna hnb2 htt huu hja hjb
          go_wp2_with fail
          refine wp_region_ext (by kernel_rfl) (by kernel_rfl) ?_
          repeat (go_big_quiet_step (fail))
          refine wpQuiet_nil ?_
          rintro _ ⟨w2, rfl⟩
          have HBL2 := Lib.hid (HBL.out.trans ((below_ext wr w2).mono HBL.out.size))
          go_wp2_with fail
          go_roundw
          case rel => exact ⟨j + 1, by omega, by go_num, HN.out, HBL2.out⟩
          case measure => (simp [intOf]; omega)
        · have HF : Hid (decide (a = b) = false) := Lib.hid (decide_eq_false (fun e => htu (by rw [htt, huu]; congr 1)))
          have HTU := Lib.hid htu
          clear hka hkb hbl hn hta htb hna hnb2 htt huu hja hjb htu
          go_wp2_with fail
          refine wp_region_ext (by kernel_rfl) (by kernel_rfl) ?_
          repeat (go_big_quiet_step ((rw [tk_if_ne HTU.out]; exact ⟨rfl, rfl⟩)))
          refine wpQuiet_nil ?_
          rintro _ ⟨w2, rfl⟩
          have HBL2 := Lib.hid (HBL.out.trans ((below_ext wr w2).mono HBL.out.size))
          go_wp2_with fail
          go_ret
          exact ⟨ret_bool HF.out.symm, HBL2.out⟩
      · have hd : decide ((j : Int) < (n : Int)) = false := decide_eq_false (by omega)
        have HF : Hid (decide (a = b) = true) := Lib.hid (decide_eq_true (by
          have e : j = n := by omega
          rw [e, List.take_of_length_le (by have := HN1.out; omega), List.take_of_length_le (by have := HM1.out; omega)] at hn
          exact hn))
        have HBL := Lib.hid hbl
        clear hn hbl
        go_wp2_with fail
        go_ret
        exact ⟨ret_bool HF.out.symm, HBL.out⟩
  · have dl : ((a.length : Int) != (b.length : Int)) = true := by unfold bne; rw [beq_false_of_ne (by omega)]; rfl
    have HF : Hid (decide (a = b) = false) := Lib.hid (decide_eq_false (fun e => hl (by rw [e])))
    clear hl
    go_enter Try.func16, Try.ntmps16
    go_wp2_with fail
    go_ret
    exact ⟨ret_bool HF.out.symm, Below.refl _ _⟩
end Go.Proofs.Ytmicgfpiknibhaa
