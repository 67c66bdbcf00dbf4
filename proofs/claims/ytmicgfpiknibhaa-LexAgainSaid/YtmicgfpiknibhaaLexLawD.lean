/- The law LexAgain: its walk. -/
import Derived.Test.YtmicgfpiknibhaaLexLawB
namespace Go.Proofs.Ytmicgfpiknibhaa
open Go.RowKit
set_option linter.unusedSimpArgs false
set_option linter.unusedVariables false
attribute [local go_sem] cell?_ext frozen?_ext lt_size_ext

/-- A token's text is not much longer than what it was cut out of. -/
theorem one_len (l : List UInt8) (t : Tk) (h : (oneT l).1 = some t) : (tx t).length ≤ (oneT l).2 + 11 := by
  cases l with
  | nil => cases h
  | cons c r =>
    have quot : ∀ q u, (tx (quoted q u).1).length ≤ (quoted q u).2 + 11 := fun q u => by
      have hb := runL_le (qp q) u
      have e5 : ∀ x : List UInt8, (tx ⟨5, x, 0⟩).length = x.length + 2 := fun x => by show (quoteB x :: (x ++ [quoteB x])).length = _; simp
      have e6 : ∀ x : List UInt8, (tx ⟨6, x, 0⟩).length = 0 := fun x => rfl
      unfold quoted; dsimp only; split
      · rw [e5, List.length_take]; show _ ≤ 1 + _ + 11; omega
      · split
        · rw [e6]; omega
        · rw [e5, List.length_take]; show _ ≤ 2 + _ + 11; omega
    have meas : ∀ l n, 0 < n → (tx (measured l n).1).length ≤ (measured l n).2 + 11 := fun l n hn => by
      have e7 : ∀ k, (tx ⟨7, [], k⟩).length ≤ 12 := fun k => prtI_short k
      have e8 : ∀ k, (tx ⟨8, [], k⟩).length ≤ 13 := fun k => by rw [tx8, List.length_append]; have := prtI_short k; show _ + 1 ≤ 13; omega
      have e9 : ∀ x k, (tx ⟨9, x, k⟩).length ≤ 12 + x.length := fun x k => by rw [tx9, List.length_append]; have := prtI_short k; omega
      unfold measured; dsimp only; split
      · exact Nat.le_trans (e8 _) (by show 13 ≤ n + 1 + 11; omega)
      · split
        · refine Nat.le_trans (e9 _ _) ?_
          rw [List.length_take]
          show 12 + min _ _ ≤ n + _ + 11
          omega
        · exact Nat.le_trans (e7 _) (by show 12 ≤ n + 11; omega)
    have nam : ∀ l, (tx (named l).1).length ≤ (named l).2 + 11 := fun l => by
      have e1 : ∀ x : List UInt8, (tx ⟨1, x, 0⟩).length = x.length := fun x => rfl
      have e2 : ∀ x : List UInt8, (tx ⟨2, x, 0⟩).length = x.length + 1 := fun x => by show (x ++ [40]).length = _; simp
      unfold named; split
      · rw [e2, List.length_take]; show _ ≤ _ + 1 + 11; omega
      · rw [e1, List.length_take]; show _ ≤ runL isG l + 11; omega
    rw [oneT] at h ⊢
    split at h
    · cases h
    · rename_i h1
      rw [if_neg h1]
      split at h
      · rename_i h2
        rw [if_pos h2]
        obtain rfl := Option.some.inj h; show 1 ≤ _; omega
      · rename_i h2
        rw [if_neg h2]
        split at h
        · rename_i h3
          rw [if_pos h3]
          obtain rfl := Option.some.inj h; exact quot _ _
        · rename_i h3
          rw [if_neg h3]
          split at h
          · rename_i h4
            rw [if_pos h4]
            obtain rfl := Option.some.inj h; exact meas _ _ h4
          · rename_i h4
            rw [if_neg h4]
            split at h
            · rename_i h5
              rw [if_pos h5]
              obtain rfl := Option.some.inj h
              show (r.take (runL isG r)).length + 1 ≤ 1 + runL isG r + 11
              rw [List.length_take]; omega
            · rename_i h5
              rw [if_neg h5]
              split at h
              · rename_i h6
                rw [if_pos h6]
                obtain rfl := Option.some.inj h
                show (r.take (runL isG r)).length + 1 ≤ 1 + runL isG r + 11
                rw [List.length_take]; omega
              · rename_i h6
                rw [if_neg h6]
                split at h
                · rename_i h7
                  rw [if_pos h7]
                  obtain rfl := Option.some.inj h; exact nam _
                · rename_i h7
                  rw [if_neg h7]
                  split at h
                  · rename_i hk
                    rw [if_pos hk]
                    obtain rfl := Option.some.inj h
                    rw [(sign_byte hk).2]; show 1 ≤ 1 + 11; omega
                  · rename_i hk
                    rw [if_neg hk]
                    obtain rfl := Option.some.inj h; show 1 ≤ 1 + 11; omega
theorem szL_app : ∀ A B : List Tk, szL (A ++ B) = szL A + szL B
  | [], B => by show szL B = 0 + szL B; omega
  | t :: r, B => by
    show (tx t).length + 4 + szL (r ++ B) = (tx t).length + 4 + szL r + szL B
    rw [szL_app r B]; omega
theorem szL_cutN : ∀ (m : Nat) (l : List UInt8), szL (cutN m l) ≤ 16 * l.length
  | 0, l => Nat.zero_le _
  | m + 1, l => by
    rw [cutN]
    split
    · exact Nat.zero_le _
    · rename_i hne
      have h1 := oneT_bd l hne
      have h2 := szL_cutN m (l.drop (oneT l).2)
      have h3 := one_len l
      rw [List.length_drop] at h2
      rw [szL_app]
      generalize oneT l = O at *
      obtain ⟨o, n⟩ := O
      dsimp only at h1 h2 h3 ⊢
      cases o with
      | none => show 0 + _ ≤ _; omega
      | some t =>
        have := h3 t rfl
        show (tx t).length + 4 + 0 + _ ≤ _
        omega
theorem one_x (l : List UInt8) (t : Tk) (h : (oneT l).1 = some t) : t.x.length ≤ l.length := by
  cases l with
  | nil => cases h
  | cons c r =>
    have tk : ∀ (n : Nat) (u : List UInt8), (u.take n).length ≤ u.length := fun n u => by rw [List.length_take]; omega
    have quot : ∀ q u, (quoted q u).1.x.length ≤ u.length := fun q u => by
      unfold quoted; dsimp only; split
      · exact tk _ _
      · split <;> exact tk _ _
    have meas : ∀ l n, (measured l n).1.x.length ≤ l.length := fun l n => by
      unfold measured; dsimp only; split
      · exact Nat.zero_le _
      · split
        · refine Nat.le_trans (tk _ _) ?_
          rw [List.length_drop]; omega
        · exact Nat.zero_le _
    have nam : ∀ l, (named l).1.x.length ≤ l.length := fun l => by
      unfold named; split <;> exact tk _ _
    have hr : r.length ≤ (c :: r).length := by simp
    rw [oneT] at h
    split at h
    · cases h
    · split at h
      · obtain rfl := Option.some.inj h; exact Nat.zero_le _
      · split at h
        · obtain rfl := Option.some.inj h; exact Nat.le_trans (quot _ _) hr
        · split at h
          · obtain rfl := Option.some.inj h; exact meas _ _
          · split at h
            · obtain rfl := Option.some.inj h; exact Nat.le_trans (tk _ _) hr
            · split at h
              · obtain rfl := Option.some.inj h; exact Nat.le_trans (tk _ _) hr
              · split at h
                · obtain rfl := Option.some.inj h; exact nam _
                · split at h
                  · obtain rfl := Option.some.inj h; exact Nat.zero_le _
                  · obtain rfl := Option.some.inj h; show 1 ≤ r.length + 1; omega
theorem cutN_x : ∀ (m : Nat) (l : List UInt8) (t : Tk), t ∈ cutN m l → t.x.length ≤ l.length
  | 0, _, t, h => by simp [cutN] at h
  | m + 1, l, t, h => by
    rw [cutN] at h
    split at h
    · simp at h
    · rcases List.mem_append.1 h with h | h
      · exact one_x l t (by simpa using h)
      · have := cutN_x m _ t h
        rw [List.length_drop] at this; omega
def sound (t : Tk) : Bool := !(t.k == 6)
theorem szL_filter (p : Tk → Bool) : ∀ L : List Tk, szL (L.filter p) ≤ szL L
  | [] => Nat.le_refl _
  | t :: r => by
    have ih := szL_filter p r
    show szL ((t :: r).filter p) ≤ (tx t).length + 4 + szL r
    rw [List.filter_cons]
    split
    · show (tx t).length + 4 + szL (r.filter p) ≤ _; omega
    · omega
/-- A token of a text is right, but for bad strings. -/
theorem cut_sound {l : List UInt8} {t : Tk} (h : t ∈ cut l) : rightT t = sound t := by
  unfold sound
  by_cases h6 : t.k = 6
  · rw [h6]
    unfold rightT
    rw [bad_text h6]; rfl
  · rw [beq_false_of_ne h6]
    exact good_right ((mem_cut h).resolve_right h6)
theorem sound_all (l : List UInt8) : ((cut l).filter sound).all rightT = true := by
  rw [List.all_eq_true]
  intro t ht
  obtain ⟨h1, h2⟩ := List.mem_filter.1 ht
  rw [cut_sound h1]; exact h2
theorem filter_take {L : List Tk} {i : Nat} {t : Tk} (h : L[i]? = some t) : (L.take (i + 1)).filter sound = (L.take i).filter sound ++ (if sound t = true then [t] else []) := by
  rw [take_at h, List.filter_append]
  congr 1
  rw [List.filter_cons]; rfl
theorem own_tks2 {w : World} {base : Nat} {e : TypeId} {v : Value} {L : List Tk} (h : w.ownsRow base e 3 v L.length (tkCells L)) :
    ∃ ao cap, v = .slice ao L.length cap ∧ Tks w ao L ∧ L.length ≤ cap ∧ cap ≤ maxLen := by
  obtain ⟨ao, cap, e1, ht⟩ := Tks.of_own h
  refine ⟨ao, cap, e1, ht, ?_⟩
  rcases h.2 with ⟨h1, h0⟩ | ⟨g, cap', cur, h1, -, -, h2, h3, -⟩
  · rw [e1] at h1
    injection h1 with h4 h5 h6
    exact ⟨by omega, by rw [h6]; exact Nat.zero_le _⟩
  · rw [e1] at h1
    injection h1 with h4 h5 h6
    exact ⟨by omega, by omega⟩

set_option maxHeartbeats 8000000 in
theorem Again_walk (s : ByteArray) (w : World) (hg : Gm w) :
    Calls Try.prog 5 #[.string s] w fun e w' => e = .returned (.bool true) ∧ Below w.heap.size w w' := by
  have HG := Lib.hid hg
  clear hg
  by_cases hs : 2000 < s.size
  · have d1 : decide ((2000 : Int) < (s.size : Int)) = true := decide_eq_true (by omega)
    go_enter Try.func5, Try.ntmps5
    go_wp2_with fail
    refine (known_any _ HG.out).mono ?_; rintro e w3 ⟨rfl, hb⟩
    have HB := Lib.hid hb
    clear hb
    go_wp2_with fail
    go_ret
    exact ⟨rfl, HB.out⟩
  have d1 : decide ((2000 : Int) < (s.size : Int)) = false := decide_eq_false (by omega)
  have l1 := Lex_any s (by omega) w HG.out
  have hmem : ∀ t ∈ cut s.data.toList, t.x.length ≤ 2000 := fun t ht => by
    have := cutN_x _ _ t ht
    rw [len_data] at this; omega
  have hsnd : ∀ t ∈ cut s.data.toList, rightT t = sound t := fun t ht => cut_sound ht
  have hall := sound_all s.data.toList
  have hsz : szL ((cut s.data.toList).filter sound) ≤ 32000 := by
    have h1 := szL_filter sound (cut s.data.toList)
    have h2 : szL (cut s.data.toList) ≤ 16 * s.data.toList.length := szL_cutN _ _
    rw [len_data] at h2
    omega
  have hcl := cut_len s.data.toList
  rw [len_data] at hcl
  generalize cut s.data.toList = C at *
  obtain ⟨n, hn⟩ : ∃ n, n = C.length := ⟨_, rfl⟩
  have HN := Lib.hid hn
  have hnb : n ≤ 2000 := by omega
  have HMEM := Lib.hid hmem
  have HSND := Lib.hid hsnd
  have HALL := Lib.hid hall
  have HSZ := Lib.hid hsz
  have HL1 := Lib.hid l1
  have hs2 : s.size ≤ 2000 := by omega
  obtain ⟨i0, hi, hz0, hz1, hz2⟩ := info_parts token_info
  clear hmem hsnd hall hsz hcl hs l1
  go_enter Try.func5, Try.ntmps5
  go_wp2_with fail
  refine HL1.out.mono ?_
  rintro e w2 (⟨hl, -, -⟩ | ⟨-, v, rfl, ho, hb⟩)
  · exact absurd hl (by omega)
  obtain ⟨ao, cap, rfl, ht⟩ := own_tks ho
  have HT := Lib.hid ht
  have HB := Lib.hid hb
  rw [← hn]
  clear hb ho ht hn
  go_wp2_with fail
  go_loopw [5, 6] (fun v5 v6 wr => ∃ (j : Nat) (M : List Tk), j ≤ n ∧ v6 = .int .i64 j ∧ M = (C.take j).filter sound ∧ M.length ≤ j ∧ wr.ownsRow w2.heap.size 23 3 v5 M.length (tkCells M) ∧ Below w2.heap.size w2 wr) (fun _ v6 _ => n - (intOf v6).toNat)
  case atStart => exact ⟨0, [], by omega, rfl, rfl, Nat.le_refl _, World.ownsRow_nil _ _ _ _, Below.refl _ _⟩
  case round =>
    obtain ⟨j, M, hj, rfl, hM, hMl, hown, hbl⟩ := hrel
    by_cases hlt : j < n
    · have hd : decide ((j : Int) < (n : Int)) = true := decide_eq_true (by omega)
      have hjl : j < C.length := by have := HN.out; omega
      have hta : C[j]? = some C[j] := List.getElem?_eq_getElem hjl
      obtain ⟨t, htt⟩ : ∃ t, t = C[j] := ⟨_, rfl⟩
      rw [← htt] at hta
      have hin := List.mem_of_getElem? hta
      have hR := fun w hg => Right_any t (Nat.le_trans (HMEM.out t hin) (by decide)) w hg
      have hft := filter_take hta
      rw [HSND.out t hin] at hR
      rw [← hM] at hft
      unfold Tk.val at hR
      rcases HT.out.below hbl with h0 | ⟨ba, oa, rfl, hla, hka⟩
      · rw [h0] at hjl; simp at hjl
      obtain ⟨p0, p1, p2⟩ := hka j t hta
      have HBL := Lib.hid hbl
      have HOWN := Lib.hid hown
      have HR := Lib.hid hR
      have HGX := Lib.hid (HG.out.then_ (below_then HB.out hbl))
      by_cases h6 : t.k = 6
      · have e6 : (t.k != 6) = false := by rw [h6]; rfl
        have es : sound t = false := by unfold sound; rw [h6]; rfl
        rw [es] at HR hft
        have HF : Hid ((C.take (j + 1)).filter sound = M) := Lib.hid (by rw [hft]; simp)
        clear hka hbl hta htt hjl hft hown hin es h6 hR hM
        go_wp2_with fail
        refine wp_region_ext (by kernel_rfl) (by kernel_rfl) ?_
        repeat (go_big_quiet_step ((go_at_call 9; exact quiet_ext (HR.out _ (HGX.out.then_ (below_ext _ _))))))
        refine wpQuiet_nil ?_
        rintro _ ⟨u, rfl⟩
        have HBL2 := Lib.hid (below_to_ext HBL.out u)
        have HOWN2 := Lib.hid (own_then HOWN.out (below_ext wr u))
        go_wp2_with fail
        go_roundw
        case rel => exact ⟨j + 1, M, by omega, by go_num, HF.out.symm, by omega, HOWN2.out, HBL2.out⟩
        case measure => (simp [intOf]; omega)
      · have e6 : (t.k != 6) = true := by unfold bne; rw [beq_false_of_ne h6]; rfl
        have es : sound t = true := by unfold sound; rw [beq_false_of_ne h6]; rfl
        rw [es] at HR hft
        have HF : Hid ((C.take (j + 1)).filter sound = M ++ [t]) := Lib.hid (by rw [hft]; simp)
        clear hka hbl hta htt hjl hft hown hin es h6 hR hM
        go_wp2_with fail
        refine wp_region_ext (by kernel_rfl) (by kernel_rfl) ?_
        repeat (go_big_quiet_step ((go_at_call 9; exact quiet_ext (HR.out _ (HGX.out.then_ (below_ext _ _))))))
        refine wpQuiet_nil ?_
        intro wx hwx
        have hbx := (grown_rules hwx).2.2.2
        have x0 := (hbx.cell (p := ⟨ba, oa + j * 3, none⟩) hla).trans p0
        have x1 := (hbx.cell (p := ⟨ba, oa + j * 3 + 1, none⟩) hla).trans p1
        have x2 := (hbx.cell (p := ⟨ba, oa + j * 3 + 2, none⟩) hla).trans p2
        have xl := Nat.lt_of_lt_of_le hla hbx.size
        have xb := HBL.out.trans (hbx.mono HBL.out.size)
        have xo := own_then HOWN.out hbx
        have ho3 := xo.alloc (.cells #[.int .i64 t.k, .string (strOf t.x), .int .i64 t.n] 23)
        have hB3 := below_alloc xb (.cells #[.int .i64 t.k, .string (strOf t.x), .int .i64 t.n] 23)
        have hnw := tk_new1 wx t 23
        have HO2 := Lib.hid ho3
        have HB2 := Lib.hid hB3
        have HNW := Lib.hid hnw
        clear xo xb ho3 hB3 hnw p0 p1 p2 hwx hbx
        go_wp2_with ((at_builtin; refine wpList_append_own_at _ rfl (.tmp 44) (.tmp 49) _ rfl w2.heap.size 23 i0 (.agg #[.int .i64 0, .string { data := #[] }, .int .i64 0]) 3 32 Try.underlying26 hi hz0 hz1 hz2 rfl (by decide) _ _ _ rfl HO2.out ⟨wx.heap.size, 0, none⟩ 1 1 t.cells rfl rfl ?c1 ?c2 ?c3 ?c4 HB2.out.size ?_))
        case c1 => exact HNW.out
        case c2 => exact tk_one _
        case c3 => unfold maxLen; omega
        case c4 => omega
        intro v' w3 hown3 hg3 _ _
        have hb3 : Below w2.heap.size w2 w3 := HB2.out.grown hg3 HB2.out.size fun k hk => (HO2.out.lt k hk).1
        have hown4 : w3.ownsRow w2.heap.size 23 3 v' (M ++ [t]).length (tkCells (M ++ [t])) := by
          rw [tkCells_append, List.length_append]
          have e : tkCells [t] = t.cells := List.append_nil _
          rw [e]; exact hown3
        have HO3 := Lib.hid hown4
        have HB3 := Lib.hid hb3
        clear hown3 hown4 hg3 hb3
        go_wp2_with fail
        go_roundw
        case rel => exact ⟨j + 1, M ++ [t], by omega, by go_num, HF.out.symm, by rw [List.length_append]; show M.length + 1 ≤ j + 1; omega, HO3.out, HB3.out⟩
        case measure => (simp [intOf]; omega)
    · have hd : decide ((j : Int) < (n : Int)) = false := decide_eq_false (by omega)
      have hMC : M = C.filter sound := by rw [hM, List.take_of_length_le (by have := HN.out; omega)]
      obtain ⟨mo, mc, rfl, hmt, hmc1, hmc2⟩ := own_tks2 hown
      have hMr : M.all rightT = true := by rw [hMC]; exact HALL.out
      have hMs : szL M ≤ 32000 := by rw [hMC]; exact HSZ.out
      have hMx : ∀ t ∈ M, t.x.length ≤ 100000 := fun t ht => by
        rw [hMC] at ht
        exact Nat.le_trans (HMEM.out t (List.mem_filter.1 ht).1) (by decide)
      have hpr := fun w hT hg => Print_list M mo mc hmc1 hmc2 hMx (by omega) w hT hg
      rw [prOut_right hMr (by omega)] at hpr
      have hpl : (pr M).length ≤ szL M := prS_len M none
      have hlx := fun w hg => Lex_any (strOf (pr M)) (by rw [strOf_size]; omega) w hg
      rw [strOf_data, cut_printed hMr] at hlx
      have hS : (strOf (pr M)).size ≤ 32000 := by rw [strOf_size]; omega
      have hsa : ∀ (w : World) (a1 a2 : Option Addr) (c1 c2 : Nat), Tks w a1 M → Tks w a2 M → Calls Try.prog 16 #[.slice a1 M.length c1, .slice a2 M.length c2] w fun e w' => e = .returned (.bool true) ∧ Below w.heap.size w w' :=
        fun w a1 a2 c1 c2 hA hB => (RSame_any M M a1 a2 c1 c2 (by omega) (by omega) w hA hB).mono fun e w' h => ⟨h.1.trans (by rw [decide_eq_true (rfl : M = M)]), h.2⟩
      generalize strOf (pr M) = S at *
      have HPR := Lib.hid hpr
      have HLX := Lib.hid hlx
      have HSA := Lib.hid hsa
      have HMT := Lib.hid hmt
      have HBL := Lib.hid (below_then HB.out hbl)
      clear hpr hlx hsa hmt hbl hown hM hMC hMr hMs hMx hpl hmc2
      go_wp2_with fail
      refine (HPR.out _ HMT.out (HG.out.then_ HBL.out)).mono ?_; rintro e w3 ⟨rfl, hb⟩
      have HMT := Lib.hid (HMT.out.below hb)
      have HBL := Lib.hid (below_then HBL.out hb)
      clear hb
      go_wp2_with fail
      refine (HLX.out _ (HG.out.then_ HBL.out)).mono ?_
      rintro e w4 (⟨hl, -, -⟩ | ⟨-, v, rfl, ho, hb⟩)
      · exact absurd hl (by omega)
      obtain ⟨ao2, cap2, rfl, ht2⟩ := own_tks ho
      have HT2 := Lib.hid ht2
      have HMT := Lib.hid (HMT.out.below hb)
      have HBL := Lib.hid (below_then HBL.out hb)
      clear hb ho ht2
      go_wp2_with fail
      refine (HSA.out _ _ _ _ _ HT2.out HMT.out).mono ?_; rintro e w5 ⟨rfl, hb⟩
      have HBL := Lib.hid (below_then HBL.out hb)
      clear hb
      go_wp2_with fail
      refine (known_any _ (HG.out.then_ HBL.out)).mono ?_; rintro e w6 ⟨rfl, hb⟩
      have HBL := Lib.hid (below_then HBL.out hb)
      clear hb
      go_wp2_with fail
      go_ret
      exact ⟨rfl, HBL.out⟩
end Go.Proofs.Ytmicgfpiknibhaa
