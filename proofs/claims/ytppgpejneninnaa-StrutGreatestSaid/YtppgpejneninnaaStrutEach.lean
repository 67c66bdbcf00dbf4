/- The two closures of strut.Put. -/
import Derived.Test.YtppgpejneninnaaStrutEnd
namespace Go.Proofs.Ytppgpejneninnaa
open Go.RowKit
set_option linter.unusedSimpArgs false
set_option linter.unusedVariables false

theorem Stk.sk {w0 w1 w : World} {g base : Nat} {s : St} (h : Stk w1 w g base s) (hk : Keeps (fun k => k = g ∨ base ≤ k) w0 w1) (gb : g < base) (bb : base ≤ w.heap.size) :
    ∃ v, Sk w0 w g base v s.ats s := by
  obtain ⟨v, h1, h2, h3⟩ := h
  exact ⟨v, gb, bb, h1, h2, hk.trans h3⟩

set_option maxHeartbeats 1000000 in
theorem put2_walk (w0 : World) (g base bk bt : Nat) (v : Value) (s : St) (p : Pt) (top : Bool) (w : World) (hn : s.ats.length ≤ 65536)
    (h : Sk w0 w g base v s.ats s) (hk : w.cell? ⟨bk, 0, none⟩ = some (.pointer (some ⟨g, 0, none⟩))) (ht : w.cell? ⟨bt, 0, none⟩ = some (.bool top)) :
    Calls Try.prog 21 #[p.val, .pointer (some ⟨bk, 0, none⟩), .pointer (some ⟨bt, 0, none⟩)] w fun e w' =>
      e = .returned (.tuple #[]) ∧ ∃ v', Sk w0 w' g base v' (putS top p s).ats (putS top p s) := by
  have h1 := h.then_ ((Below.refl _ w).alloc (Nat.le_refl _) (.cells #[.int .i64 p.tu, .int .i64 p.td, .int .i64 p.bu, .int .i64 p.bd, .int .i64 p.h, .bool p.thr] 37))
  have H1 := Lib.hid h1
  have zk := World.block_lt_of_cell? w _ hk
  have zt := World.block_lt_of_cell? w _ ht
  simp only at zk zt
  clear h h1
  unfold Pt.val
  go_enter Try.func21, Try.ntmps21
  go_wp2_with fail
  refine (put_walk g base v s p top _ hn H1.out.bb H1.out.gb H1.out.blk H1.out.own).mono ?_
  rintro e w2 ⟨rfl, hs⟩
  have hz := hs.choose_spec.2.2.size
  go_wp2_with fail
  go_end0
  exact ⟨rfl, hs.sk H1.out.keeps H1.out.gb (Nat.le_trans H1.out.bb hz)⟩

/-- Some parts, stacked one behind the other. -/
def stF (top : Bool) (l : List Pt) (s : St) : St := l.foldl (fun s p => putS top p s) s

theorem stF_snoc (top : Bool) (l : List Pt) (p : Pt) (s : St) : stF top (l ++ [p]) s = putS top p (stF top l s) := by unfold stF; rw [List.foldl_append]; rfl
theorem putS_len (top : Bool) (p : Pt) (s : St) : (putS top p s).ats.length = s.ats.length + 1 := by unfold putS; split <;> simp
theorem stF_len (top : Bool) (l : List Pt) (s : St) : (stF top l s).ats.length = s.ats.length + l.length := by
  induction l generalizing s with
  | nil => rfl
  | cons p l ih => show (stF top l (putS top p s)).ats.length = _; rw [ih, putS_len, List.length_cons]; omega

/-- The cells of a part in memory. -/
structure PartAt (w : World) (b o : Nat) (p : Pt) : Prop where
  c0 : w.cell? ⟨b, o, none⟩ = some (.int .i64 p.tu)
  c1 : w.cell? ⟨b, o + 1, none⟩ = some (.int .i64 p.td)
  c2 : w.cell? ⟨b, o + 2, none⟩ = some (.int .i64 p.bu)
  c3 : w.cell? ⟨b, o + 3, none⟩ = some (.int .i64 p.bd)
  c4 : w.cell? ⟨b, o + 4, none⟩ = some (.int .i64 p.h)
  c5 : w.cell? ⟨b, o + 5, none⟩ = some (.bool p.thr)

theorem PartAt.kept {w w' : World} {b o : Nat} {p : Pt} (h : PartAt w b o p) (hc : ∀ j, w'.cell? ⟨b, j, none⟩ = w.cell? ⟨b, j, none⟩) : PartAt w' b o p :=
  ⟨(hc _).trans h.c0, (hc _).trans h.c1, (hc _).trans h.c2, (hc _).trans h.c3, (hc _).trans h.c4, (hc _).trans h.c5⟩

/-- A slice of parts in memory, or nil. -/
def PartsAt (w : World) (B : Nat) (ao : Option Addr) (l : List Pt) : Prop :=
  ∀ k p, l[k]? = some p → ∃ b off, ao = some ⟨b, off, none⟩ ∧ b < B ∧ PartAt w b (off + k * 6) p

set_option maxHeartbeats 4000000 in
theorem put1_walk (w : World) (g base bk bt bl : Nat) (v : Value) (s : St) (l : List Pt) (ao : Option Addr) (cap : Nat) (top : Bool) (hn : s.ats.length + l.length ≤ 65536)
    (h : Sk w w g base v s.ats s) (hk : w.cell? ⟨bk, 0, none⟩ = some (.pointer (some ⟨g, 0, none⟩))) (ht : w.cell? ⟨bt, 0, none⟩ = some (.bool top))
    (hl : w.cell? ⟨bl, 0, none⟩ = some (.slice ao l.length cap)) (hbk : bk < base ∧ bk ≠ g) (hbt : bt < base ∧ bt ≠ g) (hbl : bl < base ∧ bl ≠ g) (hp : PartsAt w g ao l) :
    Calls Try.prog 20 #[.func (.func 21) #[] #[.pointer (some ⟨bk, 0, none⟩), .pointer (some ⟨bt, 0, none⟩)], .pointer (some ⟨bl, 0, none⟩)] w fun e w' =>
      e = .returned (.tuple #[]) ∧ ∃ v', Sk w w' g base v' (stF top l s).ats (stF top l s) := by
  have HS := Lib.hid h
  have HP := Lib.hid hp
  have HK := Lib.hid hk
  have HT := Lib.hid ht
  have gb := h.gb
  have bb := h.bb
  clear h hp hk ht
  go_enter Try.func20, Try.ntmps20
  go_wp2_with fail
  go_loopw [7] (fun i wr => ∃ k : Nat, k ≤ l.length ∧ i = .int .i64 k ∧ ∃ v', Sk w wr g base v' (stF top (l.take k) s).ats (stF top (l.take k) s)) (fun i _ => l.length - (intOf i).toNat)
  case atStart => exact ⟨0, Nat.zero_le _, rfl, v, HS.out⟩
  case round =>
    obtain ⟨k, hk, rfl, v', hs⟩ := hrel
    have HSr := Lib.hid hs
    clear hs
    by_cases hlt : k < l.length
    · obtain ⟨b, off, rfl, hb, hpa⟩ := HP.out k l[k] (List.getElem?_eq_getElem hlt)
      have hc : ∀ j, wr.cell? ⟨b, j, none⟩ = w.cell? ⟨b, j, none⟩ := fun j => HSr.out.keeps.cell (p := ⟨b, j, none⟩) (by show b < _; omega) (by show ¬ (b = g ∨ base ≤ b); omega)
      have hpr := hpa.kept hc
      have k0 := hpr.c0
      have k1 := hpr.c1
      have k2 := hpr.c2
      have k3 := hpr.c3
      have k4 := hpr.c4
      have k5 := hpr.c5
      clear hpr hc hpa
      have hw := (HSr.out.then_ ((Below.refl _ wr).alloc (Nat.le_refl _) (.cells #[.int .i64 l[k].tu, .int .i64 l[k].td, .int .i64 l[k].bu, .int .i64 l[k].bd, .int .i64 l[k].h, .bool l[k].thr] 37)))
      have hk' : (wr.alloc (.cells #[.int .i64 l[k].tu, .int .i64 l[k].td, .int .i64 l[k].bu, .int .i64 l[k].bd, .int .i64 l[k].h, .bool l[k].thr] 37)).cell? ⟨bk, 0, none⟩ = some (.pointer (some ⟨g, 0, none⟩)) :=
        (hw.keeps.cell (p := ⟨bk, 0, none⟩) (by show bk < _; omega) (by show ¬ (bk = g ∨ base ≤ bk); omega)).trans HK.out
      have ht' : (wr.alloc (.cells #[.int .i64 l[k].tu, .int .i64 l[k].td, .int .i64 l[k].bu, .int .i64 l[k].bd, .int .i64 l[k].h, .bool l[k].thr] 37)).cell? ⟨bt, 0, none⟩ = some (.bool top) :=
        (hw.keeps.cell (p := ⟨bt, 0, none⟩) (by show bt < _; omega) (by show ¬ (bt = g ∨ base ≤ bt); omega)).trans HT.out
      have HW := Lib.hid hw
      have HK' := Lib.hid hk'
      have HT' := Lib.hid ht'
      clear hw hk' ht'
      go_wp2_with fail
      refine (put2_walk w g base bk bt v' (stF top (l.take k) s) l[k] top _ (by rw [stF_len, List.length_take]; omega) HW.out HK'.out HT'.out).mono ?_
      rintro e w2 ⟨rfl, v2, hs2⟩
      rw [← stF_snoc, show l.take k ++ [l[k]] = l.take (k + 1) from (List.take_succ_eq_append_getElem hlt).symm] at hs2
      have HS2 := Lib.hid hs2
      clear hs2
      go_wp2_with fail
      go_roundw
      case rel => exact ⟨k + 1, by omega, by go_num, v2, HS2.out⟩
      case measure => simp [intOf]; omega
    · go_wp2_with fail
      go_end0
      obtain rfl : k = l.length := by omega
      have := HSr.out
      rw [List.take_length] at this
      exact ⟨rfl, v', this⟩

end Go.Proofs.Ytppgpejneninnaa
