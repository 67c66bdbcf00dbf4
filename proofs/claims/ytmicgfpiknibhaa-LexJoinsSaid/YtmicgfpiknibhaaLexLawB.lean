/- The law LexPrints: its walk. -/
import Derived.Test.YtmicgfpiknibhaaLexKnown
import Derived.Test.YtmicgfpiknibhaaLexFit
namespace Go.Proofs.Ytmicgfpiknibhaa
open Go.RowKit
set_option linter.unusedSimpArgs false
set_option linter.unusedVariables false
attribute [local go_sem] cell?_ext frozen?_ext lt_size_ext

theorem szL_le : ∀ (L : List Tk) (M : Nat), (∀ t ∈ L, t.x.length ≤ M) → szL L ≤ L.length * (M + 17)
  | [], M, _ => by simp [szL]
  | t :: r, M, h => by
    have h1 := szL_le r M fun x hx => h x (by simp [hx])
    have h2 := tx_len t
    have h3 := h t (by simp)
    show (tx t).length + 4 + szL r ≤ (r.length + 1) * (M + 17)
    rw [Nat.add_mul]; omega
theorem short_bd {L : List Tk} (h : shortT L = true) : (∀ t ∈ L, t.x.length ≤ 200) ∧ L.length ≤ 60 ∧ szL L ≤ 13020 := by
  unfold shortT at h
  rw [Bool.and_eq_true, decide_eq_true_eq] at h
  have h1 : ∀ t ∈ L, t.x.length ≤ 200 := fun t ht => of_decide_eq_true (List.all_eq_true.1 h.1 t ht)
  refine ⟨h1, h.2, Nat.le_trans (szL_le L 200 h1) ?_⟩
  have := Nat.mul_le_mul_right 217 h.2
  omega
theorem prOut_right {L : List Tk} (h : L.all rightT = true) (hs : szL L ≤ 32768) : prOut L = (pr L, 0) := by
  have h1 : (pr L).length ≤ szL L := prS_len L none
  unfold prOut
  rw [if_pos h, if_neg (by omega)]
theorem prOut_wrong {L : List Tk} (h : L.all rightT = false) : prOut L = ([], 11) := by
  unfold prOut
  rw [if_neg (by rw [h]; simp)]

set_option maxHeartbeats 4000000 in
theorem Prints_walk (L : List Tk) (ao : Option Addr) (cap : Nat) (hcap : L.length ≤ cap) (hcm : cap ≤ maxLen) (w : World) (hT : Tks w ao L) (hg : Gm w) :
    Calls Try.prog 4 #[.slice ao L.length cap] w fun e w' => e = .returned (.bool true) ∧ Below w.heap.size w w' := by
  have hsh := short_any L ao cap (Nat.le_trans hcap hcm) w hT
  have HT := Lib.hid hT
  have HG := Lib.hid hg
  clear hT hg
  cases hs : shortT L with
  | false =>
    rw [hs] at hsh
    go_enter Try.func4, Try.ntmps4
    go_wp2_with fail
    refine hsh.mono ?_; rintro e w2 ⟨rfl, rfl⟩
    go_wp2_with fail
    refine (known_any _ HG.out).mono ?_; rintro e w3 ⟨rfl, hb⟩
    have HB := Lib.hid hb
    clear hb
    go_wp2_with fail
    go_ret
    exact ⟨rfl, HB.out⟩
  | true =>
    rw [hs] at hsh
    obtain ⟨hx, hl, hsz⟩ := short_bd hs
    have hpr := fun w hT hg => Print_list L ao cap hcap hcm (fun t ht => Nat.le_trans (hx t ht) (by decide)) (by omega) w hT hg
    have hall := fun w hT => RAll_any L ao cap (by omega) (fun t ht => Nat.le_trans (hx t ht) (by decide)) w hT
    have hrp := fun w hT => RPrintL_any L ao cap hcap hcm (fun t ht => Nat.le_trans (hx t ht) (by decide)) (by omega) w hT
    have hpl : (pr L).length ≤ szL L := prS_len L none
    have hsame := fun w ao1 ao2 c1 c2 hA hB => RSame_any L L ao1 ao2 c1 c2 (by omega) (by omega) w hA hB
    cases ha : L.all rightT with
    | false =>
      rw [prOut_wrong ha] at hpr
      rw [ha] at hall
      have HPR := Lib.hid hpr
      have HAL := Lib.hid hall
      clear hpr hall hrp hsame hs hx hl hsz hpl ha hcm
      go_enter Try.func4, Try.ntmps4
      go_wp2_with fail
      refine hsh.mono ?_; rintro e w2 ⟨rfl, rfl⟩
      go_wp2_with fail
      refine (HPR.out _ HT.out HG.out).mono ?_; rintro e w2 ⟨rfl, hb⟩
      have HB := Lib.hid hb
      clear hb
      go_wp2_with fail
      refine (HAL.out _ (HT.out.below HB.out)).mono ?_; rintro e w3 ⟨rfl, hb⟩
      have HB := Lib.hid (below_then HB.out hb)
      clear hb
      have e0 : (strOf []).toList = [] := by rw [ByteArray.toList_eq, strOf_data]
      go_wp2_with fail
      refine (known_any _ (HG.out.then_ HB.out)).mono ?_; rintro e w4 ⟨rfl, hb⟩
      have HB := Lib.hid (below_then HB.out hb)
      clear hb
      go_wp2_with fail
      go_ret
      exact ⟨rfl, HB.out⟩
    | true =>
      rw [prOut_right ha (by omega)] at hpr
      rw [ha] at hall
      have hlx := fun w hg => Lex_any (strOf (pr L)) (by rw [strOf_size]; omega) w hg
      rw [strOf_data, cut_printed ha] at hlx
      have hS : (strOf (pr L)).size ≤ 13020 := by rw [strOf_size]; omega
      generalize strOf (pr L) = S at *
      have HPR := Lib.hid hpr
      have HAL := Lib.hid hall
      have HRP := Lib.hid hrp
      have HLX := Lib.hid hlx
      have HSA := Lib.hid hsame
      clear hpr hall hrp hsame hlx hs hx hl hsz hpl ha hcm
      go_enter Try.func4, Try.ntmps4
      go_wp2_with fail
      refine hsh.mono ?_; rintro e w2 ⟨rfl, rfl⟩
      go_wp2_with fail
      refine (HPR.out _ HT.out HG.out).mono ?_; rintro e w2 ⟨rfl, hb⟩
      have HB := Lib.hid hb
      clear hb
      go_wp2_with fail
      refine (HAL.out _ (HT.out.below HB.out)).mono ?_; rintro e w3 ⟨rfl, hb⟩
      have HB := Lib.hid (below_then HB.out hb)
      clear hb
      go_wp2_with fail
      refine (HLX.out _ (HG.out.then_ HB.out)).mono ?_
      rintro e w4 (⟨hl, -, -⟩ | ⟨-, v, rfl, ho, hb⟩)
      · exact absurd hl (by omega)
      obtain ⟨ao2, cap2, rfl, ht2⟩ := own_tks ho
      have HT2 := Lib.hid ht2
      have HB := Lib.hid (below_then HB.out hb)
      clear hb ho ht2
      go_wp2_with fail
      refine (HRP.out _ (HT.out.below HB.out)).mono ?_; rintro e w5 ⟨rfl, hb⟩
      have HT3 := Lib.hid (HT2.out.below hb)
      have HB := Lib.hid (below_then HB.out hb)
      clear hb HT2
      go_wp2_with fail
      refine (HSA.out _ _ _ _ _ HT3.out (HT.out.below HB.out)).mono ?_; rintro e w6 ⟨rfl, hb⟩
      have HB := Lib.hid (below_then HB.out hb)
      clear hb HT3
      have hdd : decide (L = L) = true := decide_eq_true rfl
      go_wp2_with fail
      refine (known_any _ (HG.out.then_ HB.out)).mono ?_; rintro e w7 ⟨rfl, hb⟩
      have HB := Lib.hid (below_then HB.out hb)
      clear hb
      go_wp2_with fail
      go_ret
      exact ⟨rfl, HB.out⟩
end Go.Proofs.Ytmicgfpiknibhaa
