/- The law LexJoins: its walk. -/
import Derived.Test.YtmicgfpiknibhaaLexLawB
import Derived.Laws.AppendOwnNone
namespace Go.Proofs.Ytmicgfpiknibhaa
open Go.RowKit
set_option linter.unusedSimpArgs false
set_option linter.unusedVariables false
attribute [local go_sem] cell?_ext frozen?_ext lt_size_ext

theorem Tks.news {w : World} {ad : Addr} {L : List Tk} (h : Tks w (some ad) L) : ∀ j u, (tkCells L)[j]? = some u → w.cell? (ad.add j) = some u := by
  intro j u hj
  rcases h with rfl | ⟨b, o, e, hl, hk⟩
  · simp [tkCells] at hj
  · obtain rfl := Option.some.inj e
    have hlt : j < (tkCells L).length := (List.getElem?_eq_some_iff.1 hj).1
    rw [tkCells_length] at hlt
    have hi : j / 3 < L.length := by omega
    have ht : L[j / 3]? = some L[j / 3] := List.getElem?_eq_getElem hi
    obtain ⟨h0, h1, h2⟩ := hk _ _ ht
    have hc := tkCells_at ht (Nat.mod_lt j (by decide : 0 < 3))
    rw [show j / 3 * 3 + j % 3 = j by omega] at hc
    rw [hc] at hj
    rw [addr_add]
    rcases (show j % 3 = 0 ∨ j % 3 = 1 ∨ j % 3 = 2 by omega) with e | e | e
    · rw [e] at hj
      rw [show o + j = o + j / 3 * 3 by omega, h0]; exact hj
    · rw [e] at hj
      rw [show o + j = o + j / 3 * 3 + 1 by omega, h1]; exact hj
    · rw [e] at hj
      rw [show o + j = o + j / 3 * 3 + 2 by omega, h2]; exact hj
theorem tks_one : ∀ L : List Tk, ∀ u ∈ tkCells L, u.oneCell' = true
  | [], u, h => by simp [tkCells] at h
  | t :: r, u, h => by
    rcases List.mem_append.1 (show u ∈ t.cells ++ tkCells r from h) with h | h
    · exact tk_one t u h
    · exact tks_one r u h

/-- A slice of tokens is put behind a row of the call's own. -/
theorem append_tks {w : World} {ops : Array Oper} {rest : List Oper} {o : Oper} {a : Act} {Q : Exit → Act → World → Prop} (hgd : o.guard = none) (s x : Operand)
    (ho : o.op = .call { callee := .builtin .append, args := #[s, x], argTypes := #[26, 26] })
    (base : Nat) (v : Value) (M L : List Tk) (hs : a.eval s = v) (hown : w.ownsRow base 23 3 v M.length (tkCells M))
    (ao : Option Addr) (c : Nat) (hx : a.eval x = .slice ao L.length c) (hT : Tks w ao L) (hn : ao = none → L = [] ∧ c = 0)
    (h63 : M.length + L.length ≤ 1000000) (hbase : base ≤ w.heap.size)
    (h : ∀ v' w', w'.ownsRow base 23 3 v' (M ++ L).length (tkCells (M ++ L)) → Below base w w' → wpList Try.prog ops Q rest (a.put o.dst v') w') :
    wpList Try.prog ops Q (o :: rest) a w := by
  obtain ⟨i0, hi, hz0, hz1, hz2⟩ := info_parts token_info
  cases ao with
  | none =>
    obtain ⟨rfl, rfl⟩ := hn rfl
    refine wpList_append_own_none hgd s x _ ho base 23 i0 3 Try.underlying26 hi v M.length (tkCells M) hs hown hx ?_
    exact h v w (by rw [List.append_nil]; exact hown) (Below.refl _ _)
  | some ad =>
    refine wpList_append_own_at _ hgd s x _ ho base 23 i0 (.agg #[.int .i64 0, .string { data := #[] }, .int .i64 0]) 3 32 Try.underlying26 hi hz0 hz1 hz2 rfl (by decide) v M.length (tkCells M) hs hown ad L.length c (tkCells L) hx (tkCells_length L) (Tks.news hT) (tks_one L) (by unfold maxLen; omega) (by omega) hbase ?_
    intro v' w' h1 h2 _ _
    refine h v' w' ?_ ((Below.refl base w).grown h2 hbase fun k hk => (hown.lt k hk).1)
    rw [tkCells_append, List.length_append]; exact h1

set_option maxHeartbeats 4000000 in
theorem Joins_walk (A B : List Tk) (ao bo : Option Addr) (ca cb : Nat) (ha1 : A.length ≤ ca) (ha2 : ca ≤ maxLen) (hb1 : B.length ≤ cb) (hb2 : cb ≤ maxLen) (w : World) (hA : Tks w ao A) (hB : Tks w bo B)
    (hna : ao = none → A = [] ∧ ca = 0) (hnb : bo = none → B = [] ∧ cb = 0) (hg : Gm w) :
    Calls Try.prog 6 #[.slice ao A.length ca, .slice bo B.length cb] w fun e w' => e = .returned (.bool true) ∧ Below w.heap.size w w' := by
  have s1 := short_any A ao ca (Nat.le_trans ha1 ha2) w hA
  have s2 := short_any B bo cb (Nat.le_trans hb1 hb2) w hB
  have HA := Lib.hid hA
  have HB := Lib.hid hB
  have HG := Lib.hid hg
  clear hA hB hg
  cases e1 : shortT A with
  | false =>
    rw [e1] at s1
    go_enter Try.func6, Try.ntmps6
    go_wp2_with fail
    refine s1.mono ?_; rintro e w2 ⟨rfl, rfl⟩
    go_wp2_with fail
    refine (known_any _ HG.out).mono ?_; rintro e w3 ⟨rfl, hb⟩
    have HBL := Lib.hid hb
    clear hb
    go_wp2_with fail
    go_ret
    exact ⟨rfl, HBL.out⟩
  | true =>
  rw [e1] at s1
  cases e2 : shortT B with
  | false =>
    rw [e2] at s2
    go_enter Try.func6, Try.ntmps6
    go_wp2_with fail
    refine s1.mono ?_; rintro e w2 ⟨rfl, rfl⟩
    go_wp2_with fail
    refine s2.mono ?_; rintro e w2 ⟨rfl, rfl⟩
    go_wp2_with fail
    refine (known_any _ HG.out).mono ?_; rintro e w3 ⟨rfl, hb⟩
    have HBL := Lib.hid hb
    clear hb
    go_wp2_with fail
    go_ret
    exact ⟨rfl, HBL.out⟩
  | true =>
  rw [e2] at s2
  obtain ⟨hxA, hlA, hsA⟩ := short_bd e1
  obtain ⟨hxB, hlB, hsB⟩ := short_bd e2
  have a1 := fun w hT => RAll_any A ao ca (by omega) (fun t ht => Nat.le_trans (hxA t ht) (by decide)) w hT
  have a2 := fun w hT => RAll_any B bo cb (by omega) (fun t ht => Nat.le_trans (hxB t ht) (by decide)) w hT
  have p1 := fun w hT hg => Print_list A ao ca ha1 ha2 (fun t ht => Nat.le_trans (hxA t ht) (by decide)) (by omega) w hT hg
  have p2 := fun w hT hg => Print_list B bo cb hb1 hb2 (fun t ht => Nat.le_trans (hxB t ht) (by decide)) (by omega) w hT hg
  cases r1 : A.all rightT with
  | false =>
    rw [r1] at a1
    have HA1 := Lib.hid a1
    clear a1 a2 p1 p2
    go_enter Try.func6, Try.ntmps6
    go_wp2_with fail
    refine s1.mono ?_; rintro e w2 ⟨rfl, rfl⟩
    go_wp2_with fail
    refine s2.mono ?_; rintro e w2 ⟨rfl, rfl⟩
    go_wp2_with fail
    refine (HA1.out _ HA.out).mono ?_; rintro e w3 ⟨rfl, hb⟩
    have HBL := Lib.hid hb
    clear hb
    go_wp2_with fail
    refine (known_any _ (HG.out.then_ HBL.out)).mono ?_; rintro e w3 ⟨rfl, hb⟩
    have HBL := Lib.hid (below_then HBL.out hb)
    clear hb
    go_wp2_with fail
    go_ret
    exact ⟨rfl, HBL.out⟩
  | true =>
  rw [r1] at a1
  cases r2 : B.all rightT with
  | false =>
    rw [r2] at a2
    have HA1 := Lib.hid a1
    have HA2 := Lib.hid a2
    clear a1 a2 p1 p2
    go_enter Try.func6, Try.ntmps6
    go_wp2_with fail
    refine s1.mono ?_; rintro e w2 ⟨rfl, rfl⟩
    go_wp2_with fail
    refine s2.mono ?_; rintro e w2 ⟨rfl, rfl⟩
    go_wp2_with fail
    refine (HA1.out _ HA.out).mono ?_; rintro e w3 ⟨rfl, hb⟩
    have HBL := Lib.hid hb
    clear hb
    go_wp2_with fail
    refine (HA2.out _ (HB.out.below HBL.out)).mono ?_; rintro e w3 ⟨rfl, hb⟩
    have HBL := Lib.hid (below_then HBL.out hb)
    clear hb
    go_wp2_with fail
    refine (known_any _ (HG.out.then_ HBL.out)).mono ?_; rintro e w3 ⟨rfl, hb⟩
    have HBL := Lib.hid (below_then HBL.out hb)
    clear hb
    go_wp2_with fail
    go_ret
    exact ⟨rfl, HBL.out⟩
  | true =>
  rw [r2] at a2
  rw [prOut_right r1 (by omega)] at p1
  rw [prOut_right r2 (by omega)] at p2
  have l1 : (pr A).length ≤ szL A := prS_len A none
  have l2 : (pr B).length ≤ szL B := prS_len B none
  have hsz : (strOf (pr A) ++ { data := #[47, 42, 32, 120, 32, 42, 47] } ++ strOf (pr B) : ByteArray).size = (pr A).length + 7 + (pr B).length := by rw [ByteArray.size_append, ByteArray.size_append, strOf_size, strOf_size]; rfl
  have hlx := fun w hg => Lex_any (strOf (pr A) ++ { data := #[47, 42, 32, 120, 32, 42, 47] } ++ strOf (pr B)) (by omega) w hg
  have hdat : (strOf (pr A) ++ { data := #[47, 42, 32, 120, 32, 42, 47] } ++ strOf (pr B) : ByteArray).data.toList = (pr A ++ [47, 42, 32, 120, 32, 42, 47]) ++ pr B := by
    simp [strOf, ByteArray.data_append]
  rw [hdat, cut_joined r1 r2, hsz] at hlx
  have hS1 : (strOf (pr A)).size ≤ 13020 := by rw [strOf_size]; omega
  have hS2 : (strOf (pr B)).size ≤ 13020 := by rw [strOf_size]; omega
  have hlen : (pr A).length + 7 + (pr B).length ≤ 32768 := by omega
  have hsa : ∀ (w : World) (a1 a2 : Option Addr) (c1 c2 : Nat), Tks w a1 (A ++ B) → Tks w a2 (A ++ B) → Calls Try.prog 16 #[.slice a1 (A ++ B).length c1, .slice a2 (A ++ B).length c2] w fun e w' => e = .returned (.bool true) ∧ Below w.heap.size w w' :=
    fun w a1 a2 c1 c2 hA hB => (RSame_any (A ++ B) (A ++ B) a1 a2 c1 c2 (by rw [List.length_append]; omega) (by rw [List.length_append]; omega) w hA hB).mono fun e w' h => ⟨h.1.trans (by rw [decide_eq_true (rfl : A ++ B = A ++ B)]), h.2⟩
  generalize strOf (pr A) = S1 at *
  generalize strOf (pr B) = S2 at *
  have HA1 := Lib.hid a1
  have HA2 := Lib.hid a2
  have HP1 := Lib.hid p1
  have HP2 := Lib.hid p2
  have HLX := Lib.hid hlx
  have HSA := Lib.hid hsa
  clear a1 a2 p1 p2 hlx hsa hdat hsz l1 l2 r1 r2 e1 e2 hxA hxB hsA hsB ha2 hb2
  go_enter Try.func6, Try.ntmps6
  go_wp2_with fail
  refine s1.mono ?_; rintro e w2 ⟨rfl, rfl⟩
  go_wp2_with fail
  refine s2.mono ?_; rintro e w2 ⟨rfl, rfl⟩
  go_wp2_with fail
  refine (HA1.out _ HA.out).mono ?_; rintro e w3 ⟨rfl, hb⟩
  have HBL := Lib.hid hb
  clear hb
  go_wp2_with fail
  refine (HA2.out _ (HB.out.below HBL.out)).mono ?_; rintro e w3 ⟨rfl, hb⟩
  have HBL := Lib.hid (below_then HBL.out hb)
  clear hb
  go_wp2_with fail
  refine (HP1.out _ (HA.out.below HBL.out) (HG.out.then_ HBL.out)).mono ?_; rintro e w3 ⟨rfl, hb⟩
  have HBL := Lib.hid (below_then HBL.out hb)
  clear hb
  go_wp2_with fail
  refine (HP2.out _ (HB.out.below HBL.out) (HG.out.then_ HBL.out)).mono ?_; rintro e w3 ⟨rfl, hb⟩
  have HBL := Lib.hid (below_then HBL.out hb)
  clear hb
  go_wp2_with fail
  refine (HLX.out _ (HG.out.then_ HBL.out)).mono ?_
  rintro e w4 (⟨hl, -, -⟩ | ⟨-, v, rfl, ho, hb⟩)
  · exact absurd hl (by omega)
  obtain ⟨ao2, cap2, rfl, ht2⟩ := own_tks ho
  have HT2 := Lib.hid ht2
  have HBL := Lib.hid (below_then HBL.out hb)
  clear hb ho ht2
  go_wp2_with ((at_builtin; refine append_tks rfl (.tmp 49) (.tmp 50) (by rfl) w4.heap.size (.slice none 0 0) [] A (by rfl) (World.ownsRow_nil _ _ _ _) ao ca (by rfl) (HA.out.below HBL.out) hna ?c1 (Nat.le_refl _) ?_))
  case c1 => simp; omega
  intro v5 w5 ho5 hb5
  have HT3 := Lib.hid (HT2.out.below hb5)
  have HB5 := Lib.hid hb5
  have HO5 := Lib.hid ho5
  have HBL5 := Lib.hid (below_then HBL.out hb5)
  clear hb5 ho5
  go_wp2_with ((at_builtin; refine append_tks rfl (.tmp 52) (.tmp 53) (by rfl) w4.heap.size v5 A B (by rfl) HO5.out bo cb (by rfl) (HB.out.below HBL5.out) hnb ?c2 HB5.out.size ?_))
  case c2 => omega
  intro v6 w6 ho6 hb6
  rw [← List.length_append] at ho6
  obtain ⟨ao6, cap6, rfl, ht6⟩ := own_tks ho6
  have HT6 := Lib.hid ht6
  have HT7 := Lib.hid (HT2.out.below (HB5.out.trans hb6))
  have HBL6 := Lib.hid (below_then HBL.out (HB5.out.trans hb6))
  clear hb6 ho6 ht6
  go_wp2_with fail
  rw [← List.length_append]
  refine (HSA.out _ _ _ _ _ HT7.out HT6.out).mono ?_; rintro e w7 ⟨rfl, hb⟩
  have HBL := Lib.hid (below_then HBL6.out hb)
  clear hb
  go_wp2_with fail
  refine (known_any _ (HG.out.then_ HBL.out)).mono ?_; rintro e w8 ⟨rfl, hb⟩
  have HBL := Lib.hid (below_then HBL.out hb)
  clear hb
  go_wp2_with fail
  go_ret
  exact ⟨rfl, HBL.out⟩
end Go.Proofs.Ytmicgfpiknibhaa
