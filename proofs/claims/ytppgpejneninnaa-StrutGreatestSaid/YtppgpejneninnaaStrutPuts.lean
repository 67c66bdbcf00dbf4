/- strut.Put: parts, stacked. -/
import Derived.Test.YtppgpejneninnaaStrutEach
namespace Go.Proofs.Ytppgpejneninnaa
open Go.RowKit
set_option linter.unusedSimpArgs false
set_option linter.unusedVariables false

def St.start : St := ⟨[], 0, 0, 0, 0, 0, false, 0, 0, 0, false⟩

theorem own_mono {w : World} {base base' : Nat} {e : TypeId} {size n : Nat} {v : Value} {xs : List Value} (h : w.ownsRow base e size v n xs) (hb : base' ≤ base) : w.ownsRow base' e size v n xs := by
  refine ⟨h.1, ?_⟩
  rcases h.2 with hn | ⟨g, cap, cur, hv, hg, rest⟩
  · exact .inl hn
  · exact .inr ⟨g, cap, cur, hv, Nat.le_trans hb hg, rest⟩

theorem own_set {w : World} {base : Nat} {e : TypeId} {size n : Nat} {v : Value} {xs : List Value} (h : w.ownsRow base e size v n xs) {b o : Nat} (hne : v.ownBlock ≠ some b) (u : Value) :
    (w.setCell ⟨b, o, none⟩ u).ownsRow base e size v n xs :=
  own_of_block h fun k hk => Below.heap_setCell w ⟨b, o, none⟩ u k (fun e => hne (by rw [hk]; exact congrArg some e))

set_option maxHeartbeats 4000000 in
theorem Put_walk (w : World) (l : List Pt) (ao : Option Addr) (cap : Nat) (top bottom : Bool) (hn : l.length ≤ 65536) (hp : PartsAt w w.heap.size ao l) :
    Calls Try.prog 15 #[.slice ao l.length cap, .bool top, .bool bottom] w fun e w' =>
      ∃ v s, s = endS top bottom (stF top l St.start) ∧ e = .returned (.agg #[v, .int .i64 s.hu, .int .i64 s.hd, .int .i64 s.fu, .int .i64 s.fd, .int .i64 s.H, .bool s.thr]) ∧
        w'.ownsRow w.heap.size 3 1 v (stF top l St.start).ats.length ((stF top l St.start).ats.map (Value.int .i64)) ∧ Below w.heap.size w w' := by
  have HP := Lib.hid hp
  clear hp
  go_enter Try.func15, Try.ntmps15
  go_wp2_with fail
  obtain ⟨W5, hW⟩ : ∃ W5, W5 = ((((w.alloc (.cells #[.slice ao l.length cap] 35)).alloc (.cells #[.bool top] 4)).alloc (.cells #[.slice none 0 0, .int .i64 0, .int .i64 0, .int .i64 0, .int .i64 0, .int .i64 0, .bool false] 40)).alloc (.cells #[.slice none 0 0, .int .i64 0, .int .i64 0, .int .i64 0, .int .i64 0, .int .i64 0, .bool false, .int .i64 0, .int .i64 0, .int .i64 0, .bool false] 49)).alloc (.cells #[.pointer (some ⟨w.heap.size + 1 + 1 + 1, 0, none⟩)] 47) := ⟨_, rfl⟩
  have hz : W5.heap.size = w.heap.size + 1 + 1 + 1 + 1 + 1 := by rw [hW]; simp
  have hb : Blk W5 (w.heap.size + 1 + 1 + 1) 49 (St.start.cells (.slice none 0 0)) := by
    rw [hW]; refine Blk.alloc ?_ _
    have := Blk.new (((w.alloc (.cells #[.slice ao l.length cap] 35)).alloc (.cells #[.bool top] 4)).alloc (.cells #[.slice none 0 0, .int .i64 0, .int .i64 0, .int .i64 0, .int .i64 0, .int .i64 0, .bool false] 40)) 49 (St.start.cells (.slice none 0 0))
    simp only [World.size_alloc] at this; exact this
  have hs : Sk W5 W5 (w.heap.size + 1 + 1 + 1) (w.heap.size + 1 + 1 + 1 + 1 + 1) (.slice none 0 0) St.start.ats St.start :=
    ⟨by omega, by omega, hb, World.ownsRow_nil _ _ _ _, Keeps.refl _ _⟩
  have hk : W5.cell? ⟨w.heap.size + 1 + 1 + 1 + 1, 0, none⟩ = some (.pointer (some ⟨w.heap.size + 1 + 1 + 1, 0, none⟩)) := by rw [hW]; simp [go_sem]
  have ht : W5.cell? ⟨w.heap.size + 1, 0, none⟩ = some (.bool top) := by rw [hW]; simp [go_sem]
  have hl : W5.cell? ⟨w.heap.size, 0, none⟩ = some (.slice ao l.length cap) := by rw [hW]; simp [go_sem]
  have hr : Blk W5 (w.heap.size + 1 + 1) 40 #[.slice none 0 0, .int .i64 0, .int .i64 0, .int .i64 0, .int .i64 0, .int .i64 0, .bool false] := by
    rw [hW]; refine Blk.alloc (Blk.alloc ?_ _) _
    have := Blk.new ((w.alloc (.cells #[.slice ao l.length cap] 35)).alloc (.cells #[.bool top] 4)) 40 #[.slice none 0 0, .int .i64 0, .int .i64 0, .int .i64 0, .int .i64 0, .int .i64 0, .bool false]
    simp only [World.size_alloc] at this; exact this
  have hbl : Below w.heap.size w W5 := by rw [hW]; exact below_alloc (below_alloc (below_alloc (below_alloc (below_alloc (Below.refl _ w) _) _) _) _) _
  have hpa : PartsAt W5 (w.heap.size + 1 + 1 + 1) ao l := by
    intro k p hkp
    obtain ⟨b, off, h1, h2, h3⟩ := HP.out k p hkp
    exact ⟨b, off, h1, by omega, h3.kept fun j => hbl.cell (p := ⟨b, j, none⟩) h2⟩
  rw [← hW]
  clear hW
  refine (put1_walk W5 (w.heap.size + 1 + 1 + 1) (w.heap.size + 1 + 1 + 1 + 1 + 1) (w.heap.size + 1 + 1 + 1 + 1) (w.heap.size + 1) w.heap.size (.slice none 0 0) St.start l ao cap top (by show 0 + l.length ≤ _; omega) hs hk ht hl (by omega) (by omega) (by omega) hpa).mono ?_
  rintro e w6 ⟨rfl, v6, h6⟩
  have hres : Blk W5 (w.heap.size + 1 + 1) 40 #[.slice none 0 0, .int .i64 0, .int .i64 0, .int .i64 0, .int .i64 0, .int .i64 0, .bool false] := hr
  have kept6 : ∀ b, b < w.heap.size + 1 + 1 + 1 + 1 + 1 → b ≠ w.heap.size + 1 + 1 + 1 → ∀ o, w6.cell? ⟨b, o, none⟩ = W5.cell? ⟨b, o, none⟩ :=
    fun b h1 h2 o => h6.keeps.cell (p := ⟨b, o, none⟩) (by show b < _; omega) (by show ¬ (b = _ ∨ _ ≤ b); omega)
  have hk6 := (kept6 (w.heap.size + 1 + 1 + 1 + 1) (by omega) (by omega) 0).trans hk
  have ht6 := (kept6 (w.heap.size + 1) (by omega) (by omega) 0).trans ht
  have HE := Lib.hid (end_walk W5 _ _ v6 _ _ top bottom w6 h6)
  have HKW := Lib.hid hk
  have HRES := Lib.hid hres
  have HBL := Lib.hid hbl
  have H6 := Lib.hid h6
  clear hs hk ht hl hb hres kept6 h6 hpa hr hbl
  go_wp2_with fail
  refine HE.out.mono ?_
  rintro e w7 ⟨rfl, h7⟩
  clear hk6 ht6 HE H6
  obtain ⟨s, hs⟩ : ∃ s, s = endS top bottom (stF top l St.start) := ⟨_, rfl⟩
  rw [← hs] at h7
  have hk7 := (h7.keeps.cell (p := ⟨w.heap.size + 1 + 1 + 1 + 1, 0, none⟩) (by show w.heap.size + 1 + 1 + 1 + 1 < W5.heap.size; omega) (by show ¬ (w.heap.size + 1 + 1 + 1 + 1 = w.heap.size + 1 + 1 + 1 ∨ w.heap.size + 1 + 1 + 1 + 1 + 1 ≤ w.heap.size + 1 + 1 + 1 + 1); omega)).trans HKW.out
  have hr7 : Blk w7 (w.heap.size + 1 + 1) 40 _ := HRES.out.of_kept (h7.keeps.block _ (by omega) (by omega))
  obtain ⟨A, cp, hv⟩ : ∃ A cp, v6 = .slice A (stF top l St.start).ats.length cp := by
    rcases h7.own.2 with ⟨h1, h2⟩ | ⟨g', cap', cur, h1, _⟩
    · exact ⟨none, 0, by rw [h1, h2]⟩
    · exact ⟨_, _, h1⟩
  subst hv
  have k0 : w7.cell? ⟨w.heap.size + 1 + 1 + 1, 0, none⟩ = some (.slice A (stF top l St.start).ats.length cp) := h7.c 0 rfl
  have k1 : w7.cell? ⟨w.heap.size + 1 + 1 + 1, 1, none⟩ = some (.int .i64 s.hu) := h7.c 1 rfl
  have k2 : w7.cell? ⟨w.heap.size + 1 + 1 + 1, 2, none⟩ = some (.int .i64 s.hd) := h7.c 2 rfl
  have k3 : w7.cell? ⟨w.heap.size + 1 + 1 + 1, 3, none⟩ = some (.int .i64 s.fu) := h7.c 3 rfl
  have k4 : w7.cell? ⟨w.heap.size + 1 + 1 + 1, 4, none⟩ = some (.int .i64 s.fd) := h7.c 4 rfl
  have k5 : w7.cell? ⟨w.heap.size + 1 + 1 + 1, 5, none⟩ = some (.int .i64 s.H) := h7.c 5 rfl
  have k6 : w7.cell? ⟨w.heap.size + 1 + 1 + 1, 6, none⟩ = some (.bool s.thr) := h7.c 6 rfl
  have r0 := hr7.cell 0
  have r1 := hr7.cell 1
  have r2 := hr7.cell 2
  have r3 := hr7.cell 3
  have r4 := hr7.cell 4
  have r5 := hr7.cell 5
  have r6 := hr7.cell 6
  have rf := hr7.frozen
  simp at r0 r1 r2 r3 r4 r5 r6
  have hbb : Below w.heap.size w w7 := HBL.out.trans (h7.keeps.toBelow (by omega) (fun k hk => by rcases hk with hk | hk <;> omega))
  have HB7 := Lib.hid hbb
  have HO := Lib.hid (own_mono h7.own (show w.heap.size ≤ w.heap.size + 1 + 1 + 1 + 1 + 1 by omega))
  have HS := Lib.hid hs
  have no : (Value.slice A (stF top l St.start).ats.length cp).ownBlock ≠ some (w.heap.size + 1 + 1) := fun e => by have := (h7.own.lt _ e).1; omega
  have NO := Lib.hid no
  clear hs hbb no h7 HKW HRES HBL hr7
  go_wp2_with fail
  refine bodyPost_ret (v := .agg #[.slice A (stF top l St.start).ats.length cp, .int .i64 s.hu, .int .i64 s.hd, .int .i64 s.fu, .int .i64 s.fd, .int .i64 s.H, .bool s.thr])
    (by simp [results, Try.results15, go_sem, *]) rfl ⟨_, s, HS.out, rfl, ?_, ?_⟩
  · repeat (first | with_reducible refine own_set ?_ NO.out _ | with_reducible exact HO.out)
  · repeat (first | with_reducible refine below_set ?_ (by first | (simp; done) | (simp; omega)) _ | with_reducible exact HB7.out)

end Go.Proofs.Ytppgpejneninnaa
