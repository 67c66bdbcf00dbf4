/- A line resolved. -/
import Derived.Test.YtndpblgedpdjdaaFlexBegin
import Derived.Test.YtndpblgedpdjdaaShareWalks
import Derived.WalkMore
import Derived.ScopeJumps
namespace Go.Proofs.Ytndpblgedpdjdaa
open Go.RowKit
set_option linter.unusedSimpArgs false
set_option linter.unusedVariables false
attribute [local go_sem] cell?_ext frozen?_ext lt_size_ext cell?_ext_drew frozen?_ext_drew lt_size_ext_drew cell?_ext_alloc cell?_ext_new frozen?_ext_new lt_size_ext_new lt_size_ext_alloc

/-- A scope with one label: what holds at every jump holds at the first pass of the label too. -/
theorem wp_scope_once {P : Program} {c rest : Code} {a : Act} {w : World} {Q : Exit → Act → World → Prop} (l : Nat) (J : Act → World → Prop) (μ : Act → World → Nat) (hf : findLabel c l = some (Code.skip.seq rest))
    (pass : ∀ a w, J a w → rest.wp P (Exit.jump l (fun a' w' => J a' w' ∧ μ a' w' < μ a w) Q) a w)
    (first : (∀ a w, J a w → rest.wp P (Exit.jump l J Q) a w) → c.wp P (Exit.jump l J Q) a w) : (Code.scope c).wp P Q a w :=
  wp_scope_jumps l J μ hf (first fun a w h => Code.wp_mono (fun e a' w' h => by
    cases e with
    | goto l' => exact ⟨h.1, h.2.1⟩
    | _ => exact h) (pass a w h)) fun a w h => wp_seq (wp_skip (pass a w h))

theorem Sl.setFar {w : World} {ao : Option Addr} {n : Nat} {f : Nat → Int} (h : Sl w ao n f) {a : Addr} (hf : n = 0 ∨ ∀ x, ao = some x → x.block ≠ a.block) (v : Value) : Sl (w.setCell a v) ao n f := by
  rcases h with h | ⟨b, o, e, hN⟩
  · exact .inl h
  · rcases hf with hf | hf
    · exact .inl hf
    · exact .inr ⟨b, o, e, by have := hN.1; simpa [World.setCell] using this, fun k hk => (World.cell?_of_block (a := ⟨b, o + k, none⟩) (Below.heap_setCell w a v b (hf _ e))).trans (hN.2 k hk)⟩

/-- A line within a round: of its open ones the first k have been looked at. -/
def outK (S : St) (fr : Nat → Bool) (le : Nat → Int) (n k : Nat) (x : Nat) : Int := if x ∈ (Sh.opens n S.fz).take k ∧ fr x = true then le x else S.out x
def fzK (S : St) (fr : Nat → Bool) (n k : Nat) (x : Nat) : Bool := S.fz x || (decide (x ∈ (Sh.opens n S.fz).take k) && fr x)
theorem take_mem {l : List Nat} {k : Nat} (hk : k < l.length) {x : Nat} : x ∈ l.take (k + 1) ↔ x = l[k] ∨ x ∈ l.take k := by
  rw [List.take_succ_eq_append_getElem hk, List.mem_append, List.mem_singleton]
  exact Or.comm
theorem outK_zero (S : St) (fr : Nat → Bool) (le : Nat → Int) (n x : Nat) : outK S fr le n 0 x = S.out x := by unfold outK; rw [if_neg (by simp)]
theorem fzK_zero (S : St) (fr : Nat → Bool) (n x : Nat) : fzK S fr n 0 x = S.fz x := by unfold fzK; simp
theorem outK_all (S : St) (fr : Nat → Bool) (le : Nat → Int) (n x : Nat) (hx : x < n) : outK S fr le n (Sh.opens n S.fz).length x = if S.fz x = false ∧ fr x = true then le x else S.out x := by
  unfold outK
  rw [List.take_length]
  by_cases h : S.fz x = false ∧ fr x = true
  · rw [if_pos h, if_pos ⟨Sh.mem_opens.2 ⟨hx, h.1⟩, h.2⟩]
  · rw [if_neg h, if_neg fun h2 => h ⟨(Sh.mem_opens.1 h2.1).2, h2.2⟩]
theorem fzK_all (S : St) (fr : Nat → Bool) (n x : Nat) (hx : x < n) : fzK S fr n (Sh.opens n S.fz).length x = (S.fz x || fr x) := by
  unfold fzK
  rw [List.take_length]
  cases hz : S.fz x with
  | true => rfl
  | false => rw [decide_eq_true (Sh.mem_opens.2 ⟨hx, hz⟩)]; simp
theorem outK_hit {S : St} {fr : Nat → Bool} {le : Nat → Int} {n k i : Nat} (hk : k < (Sh.opens n S.fz).length) (hi : i = (Sh.opens n S.fz)[k]) (hf : fr i = true) (x : Nat) : (if x = i then le i else outK S fr le n k x) = outK S fr le n (k + 1) x := by
  unfold outK
  by_cases h : x = i
  · rw [if_pos h, h, if_pos ⟨(take_mem hk).2 (.inl hi), hf⟩]
  · rw [if_neg h]
    have e : (x ∈ (Sh.opens n S.fz).take (k + 1)) = (x ∈ (Sh.opens n S.fz).take k) := propext ⟨fun h2 => ((take_mem hk).1 h2).resolve_left fun e => h (e.trans hi.symm), fun h2 => (take_mem hk).2 (.inr h2)⟩
    simp only [e]
theorem fzK_hit {S : St} {fr : Nat → Bool} {n k i : Nat} (hk : k < (Sh.opens n S.fz).length) (hi : i = (Sh.opens n S.fz)[k]) (hf : fr i = true) (x : Nat) : (if x = i then true else fzK S fr n k x) = fzK S fr n (k + 1) x := by
  unfold fzK
  by_cases h : x = i
  · rw [if_pos h, h, decide_eq_true ((take_mem hk).2 (.inl hi)), hf]; simp
  · rw [if_neg h]
    have e : decide (x ∈ (Sh.opens n S.fz).take (k + 1)) = decide (x ∈ (Sh.opens n S.fz).take k) := decide_eq_decide.2 ⟨fun h2 => ((take_mem hk).1 h2).resolve_left fun e => h (e.trans hi.symm), fun h2 => (take_mem hk).2 (.inr h2)⟩
    rw [e]
theorem outK_miss {S : St} {fr : Nat → Bool} {le : Nat → Int} {n k i : Nat} (hk : k < (Sh.opens n S.fz).length) (hi : i = (Sh.opens n S.fz)[k]) (hf : fr i = false) (x : Nat) : outK S fr le n k x = outK S fr le n (k + 1) x := by
  unfold outK
  by_cases h : x = i
  · rw [h, if_neg (by rw [hf]; simp), if_neg (by rw [hf]; simp)]
  · have e : (x ∈ (Sh.opens n S.fz).take (k + 1)) = (x ∈ (Sh.opens n S.fz).take k) := propext ⟨fun h2 => ((take_mem hk).1 h2).resolve_left fun e => h (e.trans hi.symm), fun h2 => (take_mem hk).2 (.inr h2)⟩
    simp only [e]
theorem fzK_miss {S : St} {fr : Nat → Bool} {n k i : Nat} (hk : k < (Sh.opens n S.fz).length) (hi : i = (Sh.opens n S.fz)[k]) (hf : fr i = false) (x : Nat) : fzK S fr n k x = fzK S fr n (k + 1) x := by
  unfold fzK
  by_cases h : x = i
  · rw [h, hf]; simp
  · have e : decide (x ∈ (Sh.opens n S.fz).take (k + 1)) = decide (x ∈ (Sh.opens n S.fz).take k) := decide_eq_decide.2 ⟨fun h2 => ((take_mem hk).1 h2).resolve_left fun e => h (e.trans hi.symm), fun h2 => (take_mem hk).2 (.inr h2)⟩
    rw [e]

set_option maxRecDepth 20000 in
set_option maxHeartbeats 8000000 in
theorem Resolve_any (ao : Option Addr) (cap n : Nat) (L : Nat → It) (room : Int) (g : Bool) (r : Nat) (hn : n ≤ 65536) (hg : g = Fx.grows (fun i => (L i).held) n (hold room))
    (hd : Fx.Done (fun i => (L i).held) g n (hold room) (Fx.free (fun i => (L i).held) (Fx.st0 (fun i => (L i).held) g) n (hold room)) r) (w : World) (hS : Its w ao n L) :
    Calls Try.prog 11 #[.slice ao n cap, .int .i64 room] w
      (ResOut w n (Fx.st (fun i => (L i).held) g n (hold room) (Fx.free (fun i => (L i).held) (Fx.st0 (fun i => (L i).held) g) n (hold room)) r).out r) := by
  have hL : ∀ i, i < n → ((fun i => (L i).held) i).Ok := fun i _ => (L i).held_ok
  have hbg := begin_any ao cap n L room hn w hS
  rw [← hg] at hbg
  have hrb := hold_bd room
  generalize (fun i => (L i).held) = M at *
  generalize hold room = R at *
  clear hS hg
  have HL := Lib.hid hL
  have HD := Lib.hid hd
  clear hL hd
  generalize hF : Fx.free M (Fx.st0 M g) n R = F at *
  have HFF := Lib.hid hF
  clear hF
  go_enter Try.func11, Try.ntmps11
  go_wp2_with fail
  obtain ⟨J, hJ⟩ : ∃ J : Act → World → Prop, J = (fun a' w' => ∃ (q p cap1 b1 b2 : Nat) (ao1 : Option Addr) (u9 u10 u11 u12 u13 u14 u15 u16 u17 u18 u19 u20 u21 u22 u23 u24 u25 u26 u27 u28 u29 u30 u31 u32 u33 u34 u35 u36 u37 u38 u39 u40 u41 u42 u43 u44 u45 u46 u47 u48 u49 u50 u51 u52 u53 u54 u55 u56 u57 u58 u59 u60 u61 u62 u63 u64 u65 u66 u67 u68 u69 u70 u71 u72 u73 u74 u75 u76 : Value), a' = { tmps := #[.slice ao n cap, .int .i64 room, undef, undef, .slice none 0 0, .int .i64 0, .pointer (some ⟨p, 0, none⟩), .int .i64 F, .int .i64 q, u9, u10, u11, u12, u13, u14, u15, u16, u17, u18, u19, u20, u21, u22, u23, u24, u25, u26, u27, u28, u29, u30, u31, u32, u33, u34, u35, u36, u37, u38, u39, u40, u41, u42, u43, u44, u45, u46, u47, u48, u49, u50, u51, u52, u53, u54, u55, u56, u57, u58, u59, u60, u61, u62, u63, u64, u65, u66, u67, u68, u69, u70, u71, u72, u73, u74, u75, u76], defers := [] } ∧ q ≤ r ∧
      FxLine w w' p ao1 cap1 b1 b2 n M R g (Fx.st M g n R F q).out (Fx.st M g n R F q).fz) := ⟨_, rfl⟩
  obtain ⟨mu, hmu⟩ : ∃ mu : Act → World → Nat, mu = (fun a' _ => r - (intOf (a'.tmps.getD 8 undef)).toNat) := ⟨_, rfl⟩
  have HJ := Lib.hid hJ
  have HMU := Lib.hid hmu
  clear hJ hmu
  refine wp_scope_once 0 J mu rfl ?pass ?first
  case first =>
    intro hrest
    go_wp2_with fail
    refine hbg.mono ?_
    rintro e w1 ⟨p, ao1, cap1, b1, b2, rfl, hX⟩
    have HX := Lib.hid hX
    clear hbg hX
    go_wp2_with fail
    refine (free_any p ao1 cap1 b1 b2 n M (Fx.st0 M g) R g hn hrb HL.out (Fx.st_fits (g := g) (R := R) (first := F) HL.out 0) w w1 HX.out).mono ?_
    rintro e w2 ⟨rfl, hb2⟩
    rw [HFF.out]
    have HX2 := Lib.hid (HX.out.then_ hb2)
    clear hb2
    go_wp2_with fail
    go_step3
    rename_i K0 hK0
    refine hK0 _ _ (hrest _ _ ?_)
    rw [HJ.out]
    exact ⟨0, p, cap1, b1, b2, ao1, _, _, _, _, _, _, _, _, _, _, _, _, _, _, _, _, _, _, _, _, _, _, _, _, _, _, _, _, _, _, _, _, _, _, _, _, _, _, _, _, _, _, _, _, _, _, _, _, _, _, _, _, _, _, _, _, _, _, _, _, _, _, _, _, _, _, _, _, rfl, Nat.zero_le _, HX2.out⟩
  case pass =>
    clear hbg
    intro a' w' hj
    rw [HJ.out] at hj
    obtain ⟨q, p, cap1, b1, b2, ao1, u9, u10, u11, u12, u13, u14, u15, u16, u17, u18, u19, u20, u21, u22, u23, u24, u25, u26, u27, u28, u29, u30, u31, u32, u33, u34, u35, u36, u37, u38, u39, u40, u41, u42, u43, u44, u45, u46, u47, u48, u49, u50, u51, u52, u53, u54, u55, u56, u57, u58, u59, u60, u61, u62, u63, u64, u65, u66, u67, u68, u69, u70, u71, u72, u73, u74, u75, u76, rfl, hq, hX⟩ := hj
    have HST : Hid (Fx.st M g n R F (q + 1) = Fx.step M g n R F (Fx.st M g n R F q)) := Lib.hid rfl
    have HFT := Lib.hid (Fx.st_fits (g := g) (R := R) (first := F) HL.out q)
    have hlm : Fx.lft (Fx.st M g n R F q) n = (Sh.opens n (Fx.st M g n R F q).fz).length := rfl
    have hqr : q < r ∨ q = r := by omega
    have hbf : q < r → Fx.lft (Fx.st M g n R F q) n ≠ 0 := HD.out.before q
    have hls : q = r → Fx.lft (Fx.st M g n R F q) n = 0 := fun e => by rw [e]; exact HD.out.last
    have HRES : Hid (q = r → FxLine w w' p ao1 cap1 b1 b2 n M R g (Fx.st M g n R F r).out (Fx.st M g n R F r).fz) := Lib.hid fun e => by rw [← e]; exact hX
    rw [hlm] at hbf hls
    generalize Fx.st M g n R F q = S at *
    clear hlm
    obtain ⟨m, hm⟩ : ∃ m, m = (Sh.opens n S.fz).length := ⟨_, rfl⟩
    have hop : Calls Try.prog 24 #[.pointer (some ⟨p, 0, none⟩)] w' (ListOut w' m (opF n S.fz)) := by rw [hm]; exact open_any p ao1 cap1 b1 b2 n M R g S.out S.fz hn w w' hX
    rw [← hm] at hbf hls
    have hmn : m ≤ n := by rw [hm]; exact Sh.opens_le n _
    have HX := Lib.hid hX
    have HM := Lib.hid hm
    have hrn : r ≤ n := by
      obtain ⟨r', h1, h2⟩ := Fx.done_exists M g n R F
      have := Fx.done_unique HD.out h2
      omega
    clear hX hm
    by_cases hm0 : m = 0
    · have hqe : q = r := by rcases hqr with h | h; exact absurd hm0 (hbf h); exact h
      have HX3 := Lib.hid (HRES.out hqe)
      have hz : ((m : Int) == 0) = true := by rw [hm0]; rfl
      clear hbf hls hqr
      go_wp2_with fail
      refine hop.mono ?_
      rintro e w3 ⟨ao2, cap2, rfl, hO, hfar, hb3⟩
      have hX3 := HX3.out.then_ hb3
      have q3 := hX3.blk.cell 3
      have HX4 := Lib.hid hX3
      clear hO hfar hb3 hX3 hop
      go_wp2_with fail
      simp only [Exit.jump]
      refine bodyPost_ret (v := .tuple #[.slice (some ⟨b1, 0, none⟩) n n, .int .i64 r]) (by simp [results, Try.results11, go_sem]) rfl ?_
      exact ⟨b1, rfl, HX4.out.rows.ge1, HX4.out.rows.out, HX4.out.rows.below⟩
    · have hqe : q < r := by rcases hqr with h | h; exact h; exact absurd (hls h) hm0
      have hz : ((m : Int) == 0) = false := by simp; omega
      have hq1 : (q : Int) < 65536 := by omega
      clear hbf hls hqr
      go_wp2_with fail
      refine hop.mono ?_
      rintro e w3 ⟨ao2, cap2, rfl, hO, hfar, hb3⟩
      have HX3 := Lib.hid (HX.out.then_ hb3)
      have HO3 := Lib.hid hO
      have hfar : ∀ a, ao2 = some a → w'.heap.size ≤ a.block := hfar.resolve_left hm0
      have HFAR := Lib.hid hfar
      clear hO hb3 hop hfar
      go_wp2_with fail
      refine (part_any p ao1 ao2 cap1 cap2 b1 b2 n m M S R F g hn hrb HL.out HFT.out HM.out w w3 HX3.out HO3.out).mono ?_
      rintro e w4 ⟨rfl, hb4⟩
      have HX4 := Lib.hid (HX3.out.then_ hb4)
      have HO4 := Lib.hid (HO3.out.below hb4)
      clear hb4
      go_wp2_with fail
      refine (weights_any p ao1 ao2 cap1 cap2 b1 b2 n m M S R g hn HM.out w w4 HX4.out HO4.out).mono ?_
      rintro e w5 ⟨ao3, cap3, rfl, hW, -, hb5⟩
      have HX5 := Lib.hid (HX4.out.then_ hb5)
      have HO5 := Lib.hid (HO4.out.below hb5)
      have HW5 := Lib.hid hW
      clear hb5 hW
      go_wp2_with fail
      refine (Deal_any _ ao3 cap3 m _ (by omega) w5 HW5.out).mono ?_
      rintro e w6 ⟨os, rfl, hos, hD, hb6⟩
      have HX6 := Lib.hid (HX5.out.then_ hb6)
      have HO6 := Lib.hid (HO5.out.below hb6)
      have hD2 : w6.rowIs os 3 m (fun k => .int .i64 (Sh.pick n S.fz (Fx.share M g n R F S) k)) := hD.congr fun k hk => by
        have hk' : k < (Sh.opens n S.fz).length := by rw [← HM.out]; exact hk
        have h1 := deal_opens (Fx.given M g n R F S) n S.fz (Fx.wF M g S) (fun i hi hz => by unfold Fx.wF; rw [if_pos hz]) (fun i hi => (Fx.wF_bd HL.out hi).1) hk'
        have h2 : Sh.pick n S.fz (Fx.share M g n R F S) k = Fx.share M g n R F S (Sh.opens n S.fz)[k] := Sh.pick_at hk'
        rw [HM.out, h1, h2]; rfl
      have HD6 := Lib.hid (Sl.row hD2)
      clear hb6 hD hD2
      go_wp2_with fail
      refine (try_any p ao1 ao2 _ cap1 cap2 m b1 b2 n m M S R F g hn HL.out HM.out w w6 HX6.out HO6.out HD6.out).mono ?_
      rintro e w7 ⟨o1, o2, rfl, hge1, hge2, hr1, hr2, hb7⟩
      have hX7 := HX6.out.then_ hb7
      have n1 : b1 ≠ o1 := by have := HX6.out.rows.out.lt; omega
      have n2 : b1 ≠ o2 := by have := HX6.out.rows.out.lt; omega
      have n3 : b2 ≠ o1 := by have := HX6.out.rows.fz.lt; omega
      have n4 : b2 ≠ o2 := by have := HX6.out.rows.fz.lt; omega
      have HX7 := Lib.hid (hX7.congr (out' := outK S (fun x => Fx.frz (Fx.br M g n R F S x) (Fx.brs M g n R F S)) (Fx.len M g n R F S) n 0) (fz' := fzK S (fun x => Fx.frz (Fx.br M g n R F S x) (Fx.brs M g n R F S)) n 0) (fun i _ => (outK_zero _ _ _ _ _).symm) (fun i _ => (fzK_zero _ _ _ _).symm))
      have HO7 := Lib.hid (HO6.out.below hb7)
      have HR1 := Lib.hid hr1
      have HR2 := Lib.hid hr2
      have HB1 : Hid (m = 0 ∨ ∀ x, ao2 = some x → x.block ≠ b1) := Lib.hid (.inr fun x hx => by have h1 := HFAR.out x hx; have h2 := HX.out.rows.out.lt; omega)
      have HB2 : Hid (m = 0 ∨ ∀ x, ao2 = some x → x.block ≠ b2) := Lib.hid (.inr fun x hx => by have h1 := HFAR.out x hx; have h2 := HX.out.rows.fz.lt; omega)
      have HSO : Hid (∀ x, (Fx.step M g n R F S).out x = if S.fz x = false ∧ Fx.frz (Fx.br M g n R F S x) (Fx.brs M g n R F S) = true then Fx.len M g n R F S x else S.out x) := Lib.hid fun x => rfl
      have HSZ : Hid (∀ x, (Fx.step M g n R F S).fz x = (S.fz x || Fx.frz (Fx.br M g n R F S x) (Fx.brs M g n R F S))) := Lib.hid fun x => rfl
      clear hX7 hb7 hr1 hr2
      generalize Fx.step M g n R F S = S' at *
      generalize Fx.br M g n R F S = bf at *
      generalize Fx.brs M g n R F S = sb at *
      generalize Fx.len M g n R F S = lf at *
      clear HX3 HO3 HX4 HO4 HX5 HO5 HW5 HX6 HO6 HD6
      go_wp2_with fail
      go_loopw [13, 14, 49] (fun v13 v14 v49 wr => ∃ k : Nat, k ≤ m ∧ v49 = .int .i64 k ∧ FxLine w wr p ao1 cap1 b1 b2 n M R g (outK S (fun x => Fx.frz (bf x) sb) lf n k) (fzK S (fun x => Fx.frz (bf x) sb) n k) ∧
        wr.rowIs o1 3 m (fun i => .int .i64 (Sh.pick n S.fz lf i)) ∧ wr.rowIs o2 3 m (fun i => .int .i64 (Sh.pick n S.fz bf i)) ∧ Sl wr ao2 m (opF n S.fz)) (fun _ _ v49 _ => m - (intOf v49).toNat)
      case atStart => exact ⟨0, Nat.zero_le _, rfl, HX7.out, HR1.out, HR2.out, HO7.out⟩
      case round =>
        clear HX7 HO7 HR1 HR2
        obtain ⟨k, hk, rfl, hX, hr1, hr2, hO⟩ := hrel
        by_cases hlt : k < m
        · obtain ⟨i, hi, hzi, hoi, he, hix⟩ := opF_at (n := n) (fz := S.fz) (k := k) (by have := HM.out; omega)
          have hkl : k < (Sh.opens n S.fz).length := by rw [← HM.out]; exact hlt
          obtain ⟨b3, o3, hao, hN3⟩ := hO.at hlt
          have d0 := hN3.2 k hlt
          rw [hoi] at d0
          have dl := hN3.1
          have d1 := hr1.cell hlt
          have d2 := hr2.cell hlt
          rw [he] at d1 d2
          have q3 := hX.blk.cell 3
          have q4 := hX.blk.cell 4
          have lp := hX.blk.lt
          have l1 := hX.rows.out.lt
          have l2 := hX.rows.fz.lt
          have e1 := hX.rows.out.cell hi
          have f1 := hX.rows.out.frozen i
          have e2 := hX.rows.fz.cell hi
          have f2 := hX.rows.fz.frozen i
          have p1 : b1 ≠ p := Ne.symm hX.ne1
          have p2 : b2 ≠ p := Ne.symm hX.ne2
          have p3 := hX.rows.ne
          have hfr := fun w => freezes_any (bf i) sb w
          have HX8 := Lib.hid hX
          have HR1 := Lib.hid hr1
          have HR2 := Lib.hid hr2
          have HO8 := Lib.hid hO
          have HIX := Lib.hid hix
          have HKL := Lib.hid hkl
          have HHE := Lib.hid he
          clear hN3 hX hr1 hr2 hO hoi he hzi hix hkl
          subst hao
          cases hz : Fx.frz (bf i) sb with
          | true =>
            rw [hz] at hfr
            have HZ := Lib.hid hz
            clear hz
            go_wp2_with fail
            refine (hfr _).mono ?_; rintro e w8 ⟨rfl, rfl⟩
            clear hfr
            go_wp2_with fail
            go_region_held3 (fun w' => w'.cell? ⟨p, 3, none⟩ = some (.slice (some ⟨b1, 0, none⟩) n n) ∧ w'.cell? ⟨p, 4, none⟩ = some (.slice (some ⟨b2, 0, none⟩) n n) ∧ w'.cell? ⟨o1, k, none⟩ = some (.int .i64 (lf i)))
              ((((try dsimp only); (repeat' apply And.intro)) <;> (first | assumption | (exact (World.cell?_setCell_far _ _ _ _ (by assumption)).trans (by assumption)) | (exact (World.cell?_setCell_far _ _ _ _ (by assumption)).trans ((World.cell?_setCell_far _ _ _ _ (by assumption)).trans (by assumption))))))
              (first | fail)
            go_wp2_with fail
            go_roundw
            case rel =>
              refine ⟨k + 1, hlt, by go_num, ((HX8.out.then_ (Below.refl _ _).drew).setOut i (lf i)).setFz i true |>.congr (fun x _ => outK_hit HKL.out HIX.out HZ.out x) (fun x _ => fzK_hit HKL.out HIX.out HZ.out x), (HR1.out.setOther (a := ⟨b1, i, none⟩) (Ne.symm n1) _).setOther (a := ⟨b2, i, none⟩) (Ne.symm n3) _, (HR2.out.setOther (a := ⟨b1, i, none⟩) (Ne.symm n2) _).setOther (a := ⟨b2, i, none⟩) (Ne.symm n4) _, Sl.setFar (a := ⟨b2, i, none⟩) (Sl.setFar (a := ⟨b1, i, none⟩) HO8.out HB1.out _) HB2.out _⟩
            case measure => simp [intOf]; omega
          | false =>
            rw [hz] at hfr
            have HZ := Lib.hid hz
            clear hz
            go_wp2_with fail
            refine (hfr _).mono ?_; rintro e w8 ⟨rfl, rfl⟩
            clear hfr
            go_wp2_with fail
            go_roundw
            case rel => exact ⟨k + 1, hlt, by go_num, HX8.out.congr (fun x _ => outK_miss HKL.out HIX.out HZ.out x) (fun x _ => fzK_miss HKL.out HIX.out HZ.out x), HR1.out, HR2.out, HO8.out⟩
            case measure => simp [intOf]; omega
        · obtain rfl : k = m := by omega
          have HX8 := Lib.hid (hX.congr (out' := S'.out) (fz' := S'.fz) (fun i hi => by rw [HSO.out, HM.out]; exact outK_all S _ _ n i hi) (fun i hi => by rw [HSZ.out, HM.out]; exact fzK_all S _ n i hi))
          clear hX hr1 hr2 hO
          go_wp2_with fail
          go_step3
          refine ⟨rfl, ?_, ?_⟩
          · rw [HJ.out]
            exact ⟨q + 1, p, cap1, b1, b2, ao1, _, _, _, _, _, _, _, _, _, _, _, _, _, _, _, _, _, _, _, _, _, _, _, _, _, _, _, _, _, _, _, _, _, _, _, _, _, _, _, _, _, _, _, _, _, _, _, _, _, _, _, _, _, _, _, _, _, _, _, _, _, _, _, _, _, _, _, _, rfl, by omega, by rw [HST.out]; exact HX8.out⟩
          · rw [HMU.out]; simp [intOf]; omega

end Go.Proofs.Ytndpblgedpdjdaa
