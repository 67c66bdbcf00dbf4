/- Right tokens: the reference's Right, the program's Right and touch. -/
import Derived.Test.YtmicgfpiknibhaaLexSame
import Derived.Test.YtmicgfpiknibhaaLexLexed
import Derived.Deep.RegionHeld3
import Derived.Deep.DrawnRows
namespace Go.Proofs.Ytmicgfpiknibhaa
open Go.RowKit
set_option linter.unusedSimpArgs false
set_option linter.unusedVariables false
theorem cellx_ext_drew (w u : World) {b : Nat} (o : Nat) (h : b < w.heap.size) : (ext w.drew u).cell? ⟨b, o, none⟩ = w.cell? ⟨b, o, none⟩ := cell?_ext w.drew u o h
theorem ltx_ext_drew (w u : World) {b : Nat} (h : b < w.heap.size) : (b < (ext w.drew u).heap.size) = True := lt_size_ext w.drew u h
theorem ltx_alloc (w : World) {b : Nat} (h : b < w.heap.size) : (b < w.heap.size + 1) = True := eq_true (by omega)
theorem cellx_alloc_lt (w : World) (z : Obj) {b : Nat} (o : Nat) (h : b < w.heap.size) : (w.alloc z).cell? ⟨b, o, none⟩ = w.cell? ⟨b, o, none⟩ := World.cell?_of_block (a := ⟨b, o, none⟩) (Below.heap_alloc w z b h)
attribute [local go_sem] cell?_ext frozen?_ext lt_size_ext tk_guard cellx_ext_drew ltx_ext_drew
attribute [local go_sem] Go.wp_at_zero Go.wp_at_succ

theorem cutN_len : ∀ (m : Nat) (l : List UInt8), (cutN m l).length ≤ m
  | 0, _ => Nat.le_refl _
  | m + 1, l => by
    rw [cutN]
    split
    · exact Nat.zero_le _
    · have := cutN_len m (l.drop (oneT l).2)
      rw [List.length_append]
      cases (oneT l).1 <;> simp <;> omega
theorem cut_len (l : List UInt8) : (cut l).length ≤ l.length := cutN_len _ _
theorem tx_len (t : Tk) : (tx t).length ≤ t.x.length + 13 := by
  have h := prtI_short t.n
  unfold tx textT
  repeat' split
  all_goals simp <;> omega
theorem Tks.new (w : World) (t : Tk) (e : TypeId) : Tks (w.alloc (.cells #[.int .i64 t.k, .string (strOf t.x), .int .i64 t.n] e)) (some ⟨w.heap.size, 0, none⟩) [t] := by
  have hb := Blk.new w e #[.int .i64 t.k, .string (strOf t.x), .int .i64 t.n]
  refine .inr ⟨w.heap.size, 0, rfl, hb.lt, fun i u hu => ?_⟩
  cases i with
  | succ i => simp at hu
  | zero =>
    obtain rfl : t = u := by simpa using hu
    exact ⟨hb.cell 0, hb.cell 1, hb.cell 2⟩
theorem keep4 {w w' : World} {g : Nat} {k x n : Value} (h0 : w.cell? ⟨g, 0, none⟩ = some k) (h1 : w.cell? ⟨g, 1, none⟩ = some x) (h2 : w.cell? ⟨g, 2, none⟩ = some n) (hl : g < w.heap.size) (hb : Below w.heap.size w w') :
    w'.cell? ⟨g, 0, none⟩ = some k ∧ w'.cell? ⟨g, 1, none⟩ = some x ∧ w'.cell? ⟨g, 2, none⟩ = some n ∧ g < w'.heap.size :=
  ⟨(hb.cell (p := ⟨g, 0, none⟩) hl).trans h0, (hb.cell (p := ⟨g, 1, none⟩) hl).trans h1, (hb.cell (p := ⟨g, 2, none⟩) hl).trans h2, Nat.lt_of_lt_of_le hl hb.size⟩
theorem Tks.drewn {w : World} {ao : Option Addr} {L : List Tk} (h : Tks w ao L) : Tks w.drew ao L := h

set_option maxHeartbeats 4000000 in
theorem RRight_any (t : Tk) (hx : t.x.length ≤ 100000) (w : World) :
    Calls Try.prog 10 #[t.val] w fun e w' => e = .returned (.bool (rightT t)) ∧ Below w.heap.size w w' := by
  have htx := tx_len t
  have hrt : rightT t = ((textT t).isSome && decide (cut (tx t) = [t])) := rfl
  have HT := Lib.hid (fun w => Rtext_any t hx w)
  have hcu := fun w => RCut_any (strOf (tx t)) (by rw [strOf_size]; omega) w
  rw [strOf_data] at hcu
  have hcl := cut_len (tx t)
  unfold Tk.val at HT ⊢
  generalize cut (tx t) = C at *
  generalize strOf (tx t) = S at *
  have hC : C.length ≤ 1000000 := by omega
  have hsa := fun ao ca bo cb w => RSame_any C [t] ao bo ca cb hC (by simp) w
  generalize rightT t = R at *
  have HR := Lib.hid hrt
  clear hrt hx htx hcl hC
  cases hok : (textT t).isSome with
  | false =>
    rw [hok] at HT HR
    have HRF : Hid (R = false) := Lib.hid HR.out
    clear HR hok hcu hsa
    go_enter Try.func10, Try.ntmps10
    go_wp2_with fail
    refine (HT.out _).mono ?_; rintro e w2 ⟨rfl, hb2⟩
    have HB := Lib.hid (below_then (below_alloc (Below.refl w.heap.size w) (.cells #[.int .i64 t.k, .string (strOf t.x), .int .i64 t.n] 23)) hb2)
    clear hb2
    go_wp2_with fail
    refine wp_region_ext (by kernel_rfl) (by kernel_rfl) ?_
    repeat (go_big_quiet_step (fail))
    refine wpQuiet_nil ?_
    rintro _ ⟨u, rfl⟩
    go_wp2_with fail
    go_ret
    exact ⟨ret_bool HRF.out.symm, below_to_ext HB.out u⟩
  | true =>
    rw [hok] at HT HR
    have HRF : Hid (R = decide (C = [t])) := Lib.hid (HR.out.trans (Bool.true_and _))
    generalize decide (C = [t]) = D at *
    clear HR hok
    go_enter Try.func10, Try.ntmps10
    go_wp2_with fail
    refine (HT.out _).mono ?_; rintro e w2 ⟨rfl, hb2⟩
    have HBK := Lib.hid ((Blk.new w 23 #[.int .i64 t.k, .string (strOf t.x), .int .i64 t.n]).then_ hb2)
    have HB := Lib.hid (below_then (below_alloc (Below.refl w.heap.size w) (.cells #[.int .i64 t.k, .string (strOf t.x), .int .i64 t.n] 23)) hb2)
    clear hb2
    generalize hg : w.heap.size = g at *
    have y0 : w2.cell? ⟨g, 0, none⟩ = some (.int .i64 t.k) := HBK.out.cell 0
    have y1 : w2.cell? ⟨g, 1, none⟩ = some (.string (strOf t.x)) := HBK.out.cell 1
    have y2 : w2.cell? ⟨g, 2, none⟩ = some (.int .i64 t.n) := HBK.out.cell 2
    have yl : g < w2.heap.size := HBK.out.lt
    go_upto_region 2 with fail
    go_region_held3 (fun w' => w'.cell? ⟨g, 0, none⟩ = some (.int .i64 t.k) ∧ w'.cell? ⟨g, 1, none⟩ = some (.string (strOf t.x)) ∧ w'.cell? ⟨g, 2, none⟩ = some (.int .i64 t.n) ∧ g < w'.heap.size)
      ((refine keep4 y0 y1 y2 yl ?_; (repeat (first | with_reducible exact Below.refl _ _ | with_reducible refine below_to_ext ?_ _ | with_reducible refine below_alloc ?_ _ | with_reducible refine Below.drew ?_))))
      (first | (go_at_call 17; refine (hcu _).mono ?_; rintro e w1 ⟨v, rfl, ho, hb⟩; obtain ⟨ao, cap, rfl, ht⟩ := Tks.of_own ho; obtain ⟨u, rfl⟩ := ext_of_below hb; clear ho hb) | (go_at_call 16; refine (hsa _ _ _ _ _ (by first | exact ht | exact ht.below (below_alloc (Below.refl _ _) _)) (by first | exact Tks.new _ t _ | exact (Tks.new _ t _).below (below_ext _ _))).mono ?_; rintro e w3 ⟨rfl, hb3⟩; obtain ⟨u3, rfl⟩ := ext_of_below hb3; clear hb3))
    all_goals
      go_wp2_with fail
      go_ret
      refine ⟨ret_bool HRF.out.symm, ?_⟩
      rw [hg]
      refine HB.out.trans (Below.mono ?_ (Nat.le_of_lt yl))
      (repeat (first | with_reducible exact Below.refl _ _ | with_reducible refine below_to_ext ?_ _ | with_reducible refine below_alloc ?_ _ | with_reducible refine Below.drew ?_))

theorem own_tks {w : World} {base : Nat} {e : TypeId} {v : Value} {L : List Tk} (h : w.ownsRow base e 3 v L.length (tkCells L)) :
    ∃ ao cap, v = .slice ao L.length cap ∧ Tks w ao L := Tks.of_own h

set_option maxHeartbeats 4000000 in
theorem Right_any (t : Tk) (hx : t.x.length ≤ 100000) (w : World) (hg : Gm w) :
    Calls Try.prog 9 #[t.val] w fun e w' => e = .returned (.bool (rightT t)) ∧ Below w.heap.size w w' := by
  have htx := tx_len t
  have hrt : rightT t = ((textT t).isSome && decide (cut (tx t) = [t])) := rfl
  have HT := Lib.hid (fun w hg => text_any t hx w hg)
  have hle := fun w hg => lexed_any (strOf (tx t)) (by rw [strOf_size]; omega) w hg
  rw [strOf_data] at hle
  have hcl := cut_len (tx t)
  unfold Tk.val at HT ⊢
  generalize cut (tx t) = C at *
  generalize strOf (tx t) = S at *
  have hC : C.length ≤ 1000000 := by omega
  generalize rightT t = R at *
  have HR := Lib.hid hrt
  have HLE := Lib.hid hle
  have HG0 := Lib.hid hg
  clear hrt hx htx hcl hle hg
  cases hok : (textT t).isSome with
  | false =>
    rw [hok] at HT HR
    have HRF : Hid (R = false) := Lib.hid HR.out
    clear HR hok
    go_enter Try.func9, Try.ntmps9
    go_wp2_with fail
    refine (HT.out _ (HG0.out.then_ (below_alloc (Below.refl _ _) _))).mono ?_; rintro e w2 ⟨rfl, hb2⟩
    have HB := Lib.hid (below_then (below_alloc (Below.refl w.heap.size w) (.cells #[.int .i64 t.k, .string (strOf t.x), .int .i64 t.n] 23)) hb2)
    clear hb2
    go_wp2_with fail
    go_ret
    exact ⟨ret_bool HRF.out.symm, HB.out⟩
  | true =>
    rw [hok] at HT HR
    have HRF : Hid (R = decide (C = [t])) := Lib.hid (HR.out.trans (Bool.true_and _))
    clear HR hok
    go_enter Try.func9, Try.ntmps9
    go_wp2_with fail
    refine (HT.out _ (HG0.out.then_ (below_alloc (Below.refl _ _) _))).mono ?_; rintro e w2 ⟨rfl, hb2⟩
    have HBK := Lib.hid ((Blk.new w 23 #[.int .i64 t.k, .string (strOf t.x), .int .i64 t.n]).then_ hb2)
    have HB := Lib.hid (below_then (below_alloc (Below.refl w.heap.size w) (.cells #[.int .i64 t.k, .string (strOf t.x), .int .i64 t.n] 23)) hb2)
    clear hb2
    go_wp2_with fail
    refine (HLE.out _ (HG0.out.then_ HB.out)).mono ?_; rintro e w3 ⟨v, rfl, ho, hb3⟩
    obtain ⟨ao, cap, rfl, ht⟩ := own_tks ho
    have HBK := Lib.hid (HBK.out.then_ hb3)
    have HB := Lib.hid (below_then HB.out hb3)
    clear hb3 ho
    have y0 : w3.cell? ⟨w.heap.size, 0, none⟩ = some (.int .i64 t.k) := HBK.out.cell 0
    have y1 : w3.cell? ⟨w.heap.size, 1, none⟩ = some (.string (strOf t.x)) := HBK.out.cell 1
    have y2 : w3.cell? ⟨w.heap.size, 2, none⟩ = some (.int .i64 t.n) := HBK.out.cell 2
    have yl : w.heap.size < w3.heap.size := HBK.out.lt
    by_cases hl : C.length = 1
    · obtain ⟨c0, rfl⟩ : ∃ c0, C = [c0] := by
        match C, hl with
        | [c], _ => exact ⟨c, rfl⟩
      rcases ht with h0 | ⟨b, o, rfl, hlb, hk⟩
      · simp at h0
      obtain ⟨q0, q1, q2⟩ := hk 0 c0 rfl
      rw [Nat.zero_mul, Nat.add_zero] at q0 q1 q2
      clear hk hl
      have dl : (((([c0] : List Tk).length : Nat) : Int) == 1) = true := rfl
      have hln : ([c0] : List Tk).length = 1 := rfl
      by_cases hct : c0 = t
      · subst hct
        have HV : Hid (R = true) := Lib.hid (by rw [HRF.out]; simp)
        clear HRF
        go_wp2_with fail
        refine wp_region_ext (by kernel_rfl) (by kernel_rfl) ?_
        repeat (go_big_quiet_step (fail))
        refine wpQuiet_nil ?_
        rintro _ ⟨u, rfl⟩
        go_wp2_with fail
        go_ret
        exact ⟨ret_bool HV.out.symm, below_to_ext HB.out u⟩
      · have HV : Hid (R = false) := Lib.hid (by rw [HRF.out]; exact decide_eq_false (fun e => hct (by simpa using e)))
        have HCT := Lib.hid hct
        clear HRF hct
        go_wp2_with fail
        refine wp_region_ext (by kernel_rfl) (by kernel_rfl) ?_
        repeat (go_big_quiet_step ((rw [tk_if_ne HCT.out]; exact ⟨rfl, rfl⟩)))
        refine wpQuiet_nil ?_
        rintro _ ⟨u, rfl⟩
        go_wp2_with fail
        go_ret
        exact ⟨ret_bool HV.out.symm, below_to_ext HB.out u⟩
    · have dl : ((C.length : Int) == 1) = false := beq_false_of_ne (by omega)
      have HV : Hid (R = false) := Lib.hid (by rw [HRF.out]; exact decide_eq_false (fun e => hl (by rw [e]; rfl)))
      clear HRF ht hl
      go_wp2_with fail
      refine wp_region_ext (by kernel_rfl) (by kernel_rfl) ?_
      repeat (go_big_quiet_step (fail))
      refine wpQuiet_nil ?_
      rintro _ ⟨u, rfl⟩
      go_wp2_with fail
      go_ret
      exact ⟨ret_bool HV.out.symm, below_to_ext HB.out u⟩

set_option maxHeartbeats 4000000 in
theorem touch_any (ta tb : Tk) (la lb : List UInt8) (hla : la.length ≤ 400000) (hlb : lb.length ≤ 400000) (w : World) (hg : Gm w) :
    Calls Try.prog 21 #[ta.val, tb.val, .string (strOf la), .string (strOf lb)] w fun e w' => e = .returned (.bool (decide (cut (la ++ lb) = [ta, tb]))) ∧ Below w.heap.size w w' := by
  have hle := fun w hg => lexed_any (strOf la ++ strOf lb) (by rw [← strOf_app, strOf_size, List.length_append]; omega) w hg
  rw [show (strOf la ++ strOf lb).data.toList = la ++ lb by rw [← strOf_app, strOf_data]] at hle
  have hcl := cut_len (la ++ lb)
  rw [List.length_append] at hcl
  have hsa : (strOf la).size ≤ 400000 := by rw [strOf_size]; exact hla
  have hsb : (strOf lb).size ≤ 400000 := by rw [strOf_size]; exact hlb
  unfold Tk.val
  generalize cut (la ++ lb) = C at *
  generalize strOf la = A at *
  generalize strOf lb = B at *
  have hC : C.length ≤ 1000000 := by omega
  have HLE := Lib.hid hle
  have HG0 := Lib.hid hg
  obtain ⟨R, hR⟩ : ∃ R, R = decide (C = [ta, tb]) := ⟨_, rfl⟩
  rw [← hR]
  have HRF := Lib.hid hR
  clear hR hle hg hcl hla hlb
  go_enter Try.func21, Try.ntmps21
  go_wp2_with fail
  refine (HLE.out _ (HG0.out.then_ (below_alloc (below_alloc (Below.refl _ _) _) _))).mono ?_; rintro e w3 ⟨v, rfl, ho, hb3⟩
  obtain ⟨ao, cap, rfl, ht⟩ := own_tks ho
  have HBA := Lib.hid (((Blk.new w 23 #[.int .i64 ta.k, .string (strOf ta.x), .int .i64 ta.n]).alloc (.cells #[.int .i64 tb.k, .string (strOf tb.x), .int .i64 tb.n] 23)).then_ hb3)
  have HBB := Lib.hid ((Blk.new_at (w := w.alloc (.cells #[.int .i64 ta.k, .string (strOf ta.x), .int .i64 ta.n] 23)) (g := w.heap.size + 1) (t := 23) (cs := #[.int .i64 tb.k, .string (strOf tb.x), .int .i64 tb.n]) (by simp)).then_ hb3)
  have HB := Lib.hid (below_then (below_alloc (below_alloc (Below.refl w.heap.size w) (.cells #[.int .i64 ta.k, .string (strOf ta.x), .int .i64 ta.n] 23)) (.cells #[.int .i64 tb.k, .string (strOf tb.x), .int .i64 tb.n] 23)) hb3)
  clear hb3 ho
  have y0 : w3.cell? ⟨w.heap.size, 0, none⟩ = some (.int .i64 ta.k) := HBA.out.cell 0
  have y1 : w3.cell? ⟨w.heap.size, 1, none⟩ = some (.string (strOf ta.x)) := HBA.out.cell 1
  have y2 : w3.cell? ⟨w.heap.size, 2, none⟩ = some (.int .i64 ta.n) := HBA.out.cell 2
  have yl : w.heap.size < w3.heap.size := HBA.out.lt
  have z0 : w3.cell? ⟨w.heap.size + 1, 0, none⟩ = some (.int .i64 tb.k) := HBB.out.cell 0
  have z1 : w3.cell? ⟨w.heap.size + 1, 1, none⟩ = some (.string (strOf tb.x)) := HBB.out.cell 1
  have z2 : w3.cell? ⟨w.heap.size + 1, 2, none⟩ = some (.int .i64 tb.n) := HBB.out.cell 2
  have zl : w.heap.size + 1 < w3.heap.size := HBB.out.lt
  by_cases hl : C.length = 2
  · obtain ⟨c0, c1, rfl⟩ : ∃ c0 c1, C = [c0, c1] := by
      match C, hl with
      | [c, d], _ => exact ⟨c, d, rfl⟩
    rcases ht with h0 | ⟨b, o, rfl, hlb, hk⟩
    · simp at h0
    obtain ⟨q0, q1, q2⟩ := hk 0 c0 rfl
    obtain ⟨p0, p1, p2⟩ := hk 1 c1 rfl
    rw [Nat.zero_mul, Nat.add_zero] at q0 q1 q2
    rw [Nat.one_mul] at p0 p1 p2
    rw [show o + 3 + 1 = o + 4 from rfl] at p1
    rw [show o + 3 + 2 = o + 5 from rfl] at p2
    clear hk hl
    have dl : (((([c0, c1] : List Tk).length : Nat) : Int) == 2) = true := rfl
    by_cases hct : c0 = ta
    · subst hct
      by_cases hdt : c1 = tb
      · subst hdt
        have HV : Hid (R = true) := Lib.hid (by rw [HRF.out]; simp)
        clear HRF
        go_wp2_with fail
        refine wp_region_ext (by kernel_rfl) (by kernel_rfl) ?_
        repeat (go_big_quiet_step (fail))
        refine wpQuiet_nil ?_
        rintro _ ⟨u, rfl⟩
        go_wp2_with fail
        go_ret
        exact ⟨ret_bool HV.out.symm, below_to_ext HB.out u⟩
      · have HV : Hid (R = false) := Lib.hid (by rw [HRF.out]; exact decide_eq_false (fun e => hdt (by simpa using e)))
        have HCT := Lib.hid hdt
        clear HRF hdt
        go_wp2_with fail
        refine wp_region_ext (by kernel_rfl) (by kernel_rfl) ?_
        repeat (go_big_quiet_step ((rw [tk_if_ne HCT.out]; exact ⟨rfl, rfl⟩)))
        refine wpQuiet_nil ?_
        rintro _ ⟨u, rfl⟩
        go_wp2_with fail
        go_ret
        exact ⟨ret_bool HV.out.symm, below_to_ext HB.out u⟩
    · have HV : Hid (R = false) := Lib.hid (by rw [HRF.out]; exact decide_eq_false (fun e => hct (by injection e)))
      have HCT := Lib.hid hct
      clear HRF hct
      go_wp2_with fail
      refine wp_region_ext (by kernel_rfl) (by kernel_rfl) ?_
      repeat (go_big_quiet_step ((rw [tk_if_ne HCT.out]; exact ⟨rfl, rfl⟩)))
      refine wpQuiet_nil ?_
      rintro _ ⟨u, rfl⟩
      go_wp2_with fail
      go_ret
      exact ⟨ret_bool HV.out.symm, below_to_ext HB.out u⟩
  · have dl : ((C.length : Int) == 2) = false := beq_false_of_ne (by omega)
    have HV : Hid (R = false) := Lib.hid (by rw [HRF.out]; exact decide_eq_false (fun e => hl (by rw [e]; rfl)))
    clear HRF ht hl
    go_wp2_with fail
    refine wp_region_ext (by kernel_rfl) (by kernel_rfl) ?_
    repeat (go_big_quiet_step (fail))
    refine wpQuiet_nil ?_
    rintro _ ⟨u, rfl⟩
    go_wp2_with fail
    go_ret
    exact ⟨ret_bool HV.out.symm, below_to_ext HB.out u⟩
end Go.Proofs.Ytmicgfpiknibhaa
