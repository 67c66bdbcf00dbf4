/- StrutClosed and StrutBetween: the plain laws, and the walks. -/
import Derived.Test.YtppgpejneninnaaStrutGreatest
namespace Go.Proofs.Ytppgpejneninnaa
open Go.RowKit
set_option linter.unusedSimpArgs false
set_option linter.unusedVariables false
attribute [local go_sem] cell?_ext frozen?_ext lt_size_ext

/-! The plain laws. -/
theorem stF_closed (l : List Pt) (s : St) : (stF false l s).hu = s.hu ∧ (stF false l s).hd = s.hd ∧ (stF false l s).fu = s.fu ∧ (stF false l s).fd = s.fd ∧ (stF false l s).thr = s.thr ∧ (stF false l s).H = s.H := by
  induction l generalizing s with
  | nil => exact ⟨rfl, rfl, rfl, rfl, rfl, rfl⟩
  | cons p l ih =>
    obtain ⟨h1, h2, h3, h4, h5, h6⟩ := ih (putS false p s)
    have e : (putS false p s).hu = s.hu ∧ (putS false p s).hd = s.hd ∧ (putS false p s).fu = s.fu ∧ (putS false p s).fd = s.fd ∧ (putS false p s).thr = s.thr ∧ (putS false p s).H = s.H := by
      unfold putS; split <;> simp
    exact ⟨h1.trans e.1, h2.trans e.2.1, h3.trans e.2.2.1, h4.trans e.2.2.2.1, h5.trans e.2.2.2.2.1, h6.trans e.2.2.2.2.2⟩

theorem mx_nonneg (x : Int) : 0 ≤ mx x 0 := by unfold mx; split <;> omega

theorem closed_plain (l : List Pt) (s : St) (hs : s = endS false false (stF false l St.start)) : s.hu = 0 ∧ s.hd = 0 ∧ s.fu = 0 ∧ s.fd = 0 ∧ s.thr = false ∧ 0 ≤ s.H := by
  obtain ⟨h1, h2, h3, h4, h5, h6⟩ := stF_closed l St.start
  subst hs
  unfold endS
  split
  · rw [if_neg (by decide)]; exact ⟨h1, h2, h3, h4, h5, mx_nonneg _⟩
  · rw [if_neg (by decide), if_neg (by decide)]
    split
    · exact ⟨h1, h2, h3, h4, h5, by rw [h6]; decide⟩
    · exact ⟨h1, h2, h3, h4, h5, mx_nonneg _⟩

/-- Where the next part stands. -/
def atS (top : Bool) (s : St) (p : Pt) : Int := placeS top s.stands s.y (mx (hold s.su) (hold p.tu)) (mn (hold s.sd) (hold p.td))

theorem putS_ats (top : Bool) (p : Pt) (s : St) : (putS top p s).ats = s.ats ++ [atS top s p] := by unfold putS; split <;> rfl

theorem stF_pre (top : Bool) (l : List Pt) (s : St) : ∃ t, (stF top l s).ats = s.ats ++ t := by
  induction l generalizing s with
  | nil => exact ⟨[], by simp [stF]⟩
  | cons p l ih =>
    obtain ⟨t, ht⟩ := ih (putS top p s)
    exact ⟨[atS top s p] ++ t, by show (stF top l (putS top p s)).ats = _; rw [ht, putS_ats, List.append_assoc]⟩

theorem stF_app (top : Bool) (l m : List Pt) (s : St) : stF top (l ++ m) s = stF top m (stF top l s) := by unfold stF; rw [List.foldl_append]

theorem stF_at (top : Bool) (l : List Pt) (k : Nat) (p : Pt) (h : l[k]? = some p) : (stF top l St.start).ats[k]? = some (atS top (stF top (l.take k) St.start) p) := by
  obtain ⟨hlt, rfl⟩ := List.getElem?_eq_some_iff.1 h
  have e : l = l.take k ++ l[k] :: l.drop (k + 1) := by rw [List.getElem_cons_drop]; exact (List.take_append_drop k l).symm
  have e2 : stF top l St.start = stF top (l.drop (k + 1)) (putS top l[k] (stF top (l.take k) St.start)) := by
    conv => lhs; rw [e]
    rw [stF_app]; rfl
  obtain ⟨t, ht⟩ := stF_pre top (l.drop (k + 1)) (putS top l[k] (stF top (l.take k) St.start))
  rw [e2, ht, putS_ats]
  have hlen : (stF top (l.take k) St.start).ats.length = k := by
    rw [stF_len, List.length_take]; show 0 + min k l.length = k; omega
  rw [List.append_assoc, List.getElem?_append_right (by omega), hlen, Nat.sub_self]
  rfl

theorem mx_self (x : Int) : mx x x = x := by unfold mx; split <;> rfl
theorem mn_self (x : Int) : mn x x = x := by unfold mn; split <;> rfl

theorem between_plain (top : Bool) (l : List Pt) (k : Nat) (p q : Pt) (hp : l[k]? = some p) (hq : l[k + 1]? = some q) (tp : p.thr = false) :
    ∃ A B, (stF top l St.start).ats[k]? = some A ∧ (stF top l St.start).ats[k + 1]? = some B ∧ B = addH (addH A p.h) (addH (mx (hold p.bu) (hold q.tu)) (mn (hold p.bd) (hold q.td))) := by
  refine ⟨_, _, stF_at top l k p hp, stF_at top l (k + 1) q hq, ?_⟩
  obtain ⟨hlt, rfl⟩ := List.getElem?_eq_some_iff.1 hp
  rw [List.take_succ_eq_append_getElem hlt, stF_snoc]
  generalize stF top (l.take k) St.start = s
  unfold putS
  rw [if_neg (by rw [tp]; decide)]
  unfold atS placeS
  simp only [Bool.not_true, Bool.and_false, Bool.false_eq_true, if_false, mx_self, mn_self, hold_hold]

/-! The walks. -/
theorem Put_vals (w : World) (l : List Pt) (ao : Option Addr) (cap : Nat) (top bottom : Bool) (hn : l.length ≤ 65536) (hp : PartsAt w w.heap.size ao l) :
    Calls Try.prog 15 #[.slice ao l.length cap, .bool top, .bool bottom] w fun e w' =>
      ∃ A cp s, s = endS top bottom (stF top l St.start) ∧ e = .returned (.agg #[.slice A l.length cp, .int .i64 s.hu, .int .i64 s.hd, .int .i64 s.fu, .int .i64 s.fd, .int .i64 s.H, .bool s.thr]) ∧
        IntsAt w' A (stF top l St.start).ats ∧ Below w.heap.size w w' := by
  refine (Put_walk w l ao cap top bottom hn hp).mono fun e w' ⟨v, s, hs, he, ho, hb⟩ => ?_
  have hlen : (stF top l St.start).ats.length = l.length := by rw [stF_len]; show 0 + l.length = _; omega
  rcases ho.2 with ⟨h1, h2⟩ | ⟨g', cap', cur, h1, _⟩
  · refine ⟨none, 0, s, hs, by rw [he, h1, ← hlen, h2], ?_, hb⟩
    intro k x hk
    rw [List.eq_nil_of_length_eq_zero h2] at hk
    simp at hk
  · refine ⟨_, _, s, hs, by rw [he, h1, hlen], ?_, hb⟩
    intro k x hk
    refine ⟨g', 0, rfl, ?_⟩
    have := ho.cells (g := g') (by rw [h1]; rfl) k (.int .i64 x) (by rw [List.getElem?_map, hk]; rfl)
    cases k <;> simpa [Addr.add] using this

set_option maxHeartbeats 4000000 in
theorem StrutClosed_walk (l : List Pt) (ao : Option Addr) (cap : Nat) (w : World) (hl : l.length ≤ 9223372036854775807) (hp : PartsAt w w.heap.size ao l) :
    Calls Try.prog 5 #[.slice ao l.length cap] w fun e w' => e = .returned (.bool true) ∧ Below w.heap.size w w' := by
  by_cases h100 : 60 < l.length
  · clear hp
    go_enter Try.func5, Try.ntmps5
    go_wp2_with fail
    refine (known_any _).mono ?_
    rintro e w1 ⟨rfl, hb1⟩
    have H1 := Lib.hid hb1
    clear hb1
    go_wp2_with fail
    go_ret
    exact ⟨rfl, H1.out⟩
  · have HP := Lib.hid hp
    have ks := eql_strut
    clear hp
    go_enter Try.func5, Try.ntmps5
    go_wp2_with fail
    refine (Put_vals w l ao cap false false (by omega) HP.out).mono ?_
    rintro e w1 ⟨A, cp, s, hs, rfl, -, hb⟩
    obtain ⟨h1, h2, h3, h4, h5, h6⟩ := closed_plain l s hs
    rw [h1, h2, h3, h4, h5]
    have H1 := Lib.hid hb
    clear h1 h2 h3 h4 h5 hb hs
    go_wp2_with fail
    refine (known_any _).mono ?_
    rintro e w2 ⟨rfl, hb2⟩
    have H2 := Lib.hid hb2
    clear hb2
    go_wp2_with fail
    go_ret
    exact ⟨rfl, below_then (below_alloc (below_alloc H1.out _) _) H2.out⟩

set_option maxHeartbeats 400000 in
theorem RAdd_any (a b : Int) (w : World) :
    Calls Try.prog 16 #[.int .i64 a, .int .i64 b] w fun e w' => e = .returned (.int .i64 (addH a b)) ∧ w = w' := by
  have h1 := hold_bd a
  have h2 := hold_bd b
  go_enter Try.func16, Try.ntmps16
  go_wp2_with fail
  refine (RHold_any a _).mono ?_; rintro e w' ⟨rfl, rfl⟩
  go_wp2_with fail
  refine (RHold_any b _).mono ?_; rintro e w' ⟨rfl, rfl⟩
  go_wp2_with fail
  refine (RHold_any (hold a + hold b) _).mono ?_; rintro e w' ⟨rfl, rfl⟩
  go_wp2_with fail
  go_ret
  exact ⟨rfl, rfl⟩

end Go.Proofs.Ytppgpejneninnaa
