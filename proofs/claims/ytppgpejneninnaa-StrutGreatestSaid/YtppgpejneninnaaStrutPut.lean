/- The stacker of struts: below, place and put, each walked once. -/
import Derived.Test.YtppgpejneninnaaStrutWalks
import Derived.Test.YtppgpejneninnaaMem
import Derived.Deep.RegionHeld3
import Derived.Deep.DrawnRows
namespace Go.Proofs.Ytppgpejneninnaa
open Go.RowKit
set_option linter.unusedSimpArgs false
set_option linter.unusedVariables false

/-- A stacker on its way. -/
structure St where
  ats : List Int
  hu : Int
  hd : Int
  fu : Int
  fd : Int
  H : Int
  thr : Bool
  y : Int
  su : Int
  sd : Int
  stands : Bool

/-- A part that stands in a box. -/
structure Pt where
  tu : Int
  td : Int
  bu : Int
  bd : Int
  h : Int
  thr : Bool

def Pt.val (p : Pt) : Value := .agg #[.int .i64 p.tu, .int .i64 p.td, .int .i64 p.bu, .int .i64 p.bd, .int .i64 p.h, .bool p.thr]

def St.cells (s : St) (v : Value) : Array Value :=
  #[v, .int .i64 s.hu, .int .i64 s.hd, .int .i64 s.fu, .int .i64 s.fd, .int .i64 s.H, .bool s.thr, .int .i64 s.y, .int .i64 s.su, .int .i64 s.sd, .bool s.stands]

attribute [local go_sem] cell?_ext frozen?_ext lt_size_ext

set_option maxHeartbeats 400000 in
theorem below_any (g : Nat) (y su sd : Int) (w : World) (hg : g < w.heap.size) (h7 : w.cell? ⟨g, 7, none⟩ = some (.int .i64 y))
    (h8 : w.cell? ⟨g, 8, none⟩ = some (.int .i64 su)) (h9 : w.cell? ⟨g, 9, none⟩ = some (.int .i64 sd)) :
    Calls Try.prog 26 #[.pointer (some ⟨g, 0, none⟩)] w fun e w' => e = .returned (.int .i64 (addH y (addH su sd))) ∧ Below w.heap.size w w' := by
  go_enter Try.func26, Try.ntmps26
  go_wp2_with fail
  refine wp_region_ext (by kernel_rfl) (by kernel_rfl) ?_
  repeat (go_big_quiet_step ((first | (go_at_call 10; exact quiet_ext (Worth_any _ _ _)) | (go_at_call 19; exact quiet_ext_same (Add_any _ _ _)))))
  refine wpQuiet_nil ?_
  rintro _ ⟨u, rfl⟩
  go_wp2
  go_ret
  exact ⟨rfl, below_ext _ _⟩

def placeS (top st : Bool) (y su sd : Int) : Int := if (top && !st) = true then y else addH y (addH su sd)

set_option maxHeartbeats 400000 in
theorem place_any (g : Nat) (y su sd : Int) (st top : Bool) (w : World) (hg : g < w.heap.size) (h7 : w.cell? ⟨g, 7, none⟩ = some (.int .i64 y))
    (h8 : w.cell? ⟨g, 8, none⟩ = some (.int .i64 su)) (h9 : w.cell? ⟨g, 9, none⟩ = some (.int .i64 sd)) (h10 : w.cell? ⟨g, 10, none⟩ = some (.bool st)) :
    Calls Try.prog 24 #[.pointer (some ⟨g, 0, none⟩), .bool top] w fun e w' =>
      e = .returned (.int .i64 (placeS top st y su sd)) ∧ Below w.heap.size w w' := by
  unfold placeS
  cases top <;> cases st
  all_goals
    go_enter Try.func24, Try.ntmps24
    go_wp2_with (go_at_call 26; refine (below_any g y su sd _ hg h7 h8 h9).mono ?_; rintro e w' ⟨rfl, hb⟩)
    go_ret
    first | exact ⟨rfl, by assumption⟩ | exact ⟨rfl, Below.refl _ _⟩

theorem int_info : (Try.prog.info? 3).map (fun i => (i.zero, i.size, i.bytes)) = some (some (.int .i64 0), 1, 8) := by kernel_rfl

/-- While a part is put: the stacker's block, the places gathered (vo: what owns them; vb: what the stacker's cell holds), the part's box; all else below 'base' is as it was. -/
structure Hs (w0 w : World) (g base : Nat) (vb vo : Value) (al : List Int) (s : St) (bp : Nat) (p : Pt) : Prop where
  gb : g < base
  bb : base ≤ w.heap.size
  bbp : base ≤ bp
  blk : Blk w g 49 (s.cells vb)
  own : w.ownsRow base 3 1 vo al.length (al.map (Value.int .i64))
  box : Blk w bp 37 #[.int .i64 p.tu, .int .i64 p.td, .int .i64 p.bu, .int .i64 p.bd, .int .i64 p.h, .bool p.thr]
  keeps : Keeps (fun k => k = g ∨ base ≤ k) w0 w

section
variable {w0 w w' : World} {g base : Nat} {vb vo : Value} {al : List Int} {s : St} {bp : Nat} {p : Pt}
theorem Hs.then_ (h : Hs w0 w g base vb vo al s bp p) (hb : Below w.heap.size w w') : Hs w0 w' g base vb vo al s bp p :=
  ⟨h.gb, Nat.le_trans h.bb hb.size, h.bbp, h.blk.then_ hb, own_then h.own hb, h.box.then_ hb, h.keeps.then_ hb⟩
theorem Hs.put (h : Hs w0 w g base vb vo al s bp p) (i : Nat) (u : Value) (s' : St) (vb' : Value) (e : s'.cells vb' = (s.cells vb).setIfInBounds i u) :
    Hs w0 (w.setCell ⟨g, i, none⟩ u) g base vb' vo al s' bp p :=
  ⟨h.gb, by have := h.bb; simpa [World.setCell] using this, h.bbp, by rw [e]; exact h.blk.put i u, ownsRow_setCell_below h.own h.gb u, h.box.far (p := ⟨g, i, none⟩) (by have h1 := h.gb; have h2 := h.bbp; show bp ≠ g; omega) u,
    h.keeps.put (.inl (.inl rfl)) u⟩
theorem Hs.drew (h : Hs w0 w g base vb vo al s bp p) : Hs w0 w.drew g base vb vo al s bp p := ⟨h.gb, h.bb, h.bbp, h.blk, h.own, h.box, h.keeps.drew⟩
theorem Hs.grown (h : Hs w0 w g base vb vo al s bp p) {vo' : Value} {al' : List Int} (hg : w.grownBy w' vo.ownBlock) (ho : w'.ownsRow base 3 1 vo' al'.length (al'.map (Value.int .i64))) (hne : vo.ownBlock ≠ some bp) :
    Hs w0 w' g base vb vo' al' s bp p :=
  ⟨h.gb, Nat.le_trans h.bb hg.size, h.bbp, h.blk.of_kept (hg.block g h.blk.lt (fun e => by have := h.own.lt g e.symm; have := h.gb; omega)), ho, h.box.of_kept (hg.block bp h.box.lt (Ne.symm hne)),
    h.keeps.grown hg (fun k hk => .inl (.inr (h.own.lt k hk).1))⟩
theorem Hs.ne_box (h : Hs w0 w g base vb vo al s bp p) : vo.ownBlock ≠ some bp := h.box.ne_own h.own (by decide)
theorem Hs.glt (h : Hs w0 w g base vb vo al s bp p) : g < w.heap.size := h.blk.lt
theorem Hs.c0 (h : Hs w0 w g base vb vo al s bp p) : w.cell? ⟨g, 0, none⟩ = some vb := h.blk.cell 0
theorem Hs.c1 (h : Hs w0 w g base vb vo al s bp p) : w.cell? ⟨g, 1, none⟩ = some (.int .i64 s.hu) := h.blk.cell 1
theorem Hs.c2 (h : Hs w0 w g base vb vo al s bp p) : w.cell? ⟨g, 2, none⟩ = some (.int .i64 s.hd) := h.blk.cell 2
theorem Hs.c7 (h : Hs w0 w g base vb vo al s bp p) : w.cell? ⟨g, 7, none⟩ = some (.int .i64 s.y) := h.blk.cell 7
theorem Hs.c8 (h : Hs w0 w g base vb vo al s bp p) : w.cell? ⟨g, 8, none⟩ = some (.int .i64 s.su) := h.blk.cell 8
theorem Hs.c9 (h : Hs w0 w g base vb vo al s bp p) : w.cell? ⟨g, 9, none⟩ = some (.int .i64 s.sd) := h.blk.cell 9
theorem Hs.c10 (h : Hs w0 w g base vb vo al s bp p) : w.cell? ⟨g, 10, none⟩ = some (.bool s.stands) := h.blk.cell 10
theorem Hs.p0 (h : Hs w0 w g base vb vo al s bp p) : w.cell? ⟨bp, 0, none⟩ = some (.int .i64 p.tu) := h.box.cell 0
theorem Hs.p1 (h : Hs w0 w g base vb vo al s bp p) : w.cell? ⟨bp, 1, none⟩ = some (.int .i64 p.td) := h.box.cell 1
theorem Hs.p2 (h : Hs w0 w g base vb vo al s bp p) : w.cell? ⟨bp, 2, none⟩ = some (.int .i64 p.bu) := h.box.cell 2
theorem Hs.p3 (h : Hs w0 w g base vb vo al s bp p) : w.cell? ⟨bp, 3, none⟩ = some (.int .i64 p.bd) := h.box.cell 3
theorem Hs.p4 (h : Hs w0 w g base vb vo al s bp p) : w.cell? ⟨bp, 4, none⟩ = some (.int .i64 p.h) := h.box.cell 4
theorem Hs.p5 (h : Hs w0 w g base vb vo al s bp p) : w.cell? ⟨bp, 5, none⟩ = some (.bool p.thr) := h.box.cell 5
end

/-- One more part, stacked. -/
def putS (top : Bool) (p : Pt) (s : St) : St :=
  if p.thr = true then
    ⟨s.ats ++ [placeS top s.stands s.y (mx (hold s.su) (hold p.tu)) (mn (hold s.sd) (hold p.td))], s.hu, s.hd, s.fu, s.fd, s.H, s.thr, s.y,
      mx (hold (mx (hold s.su) (hold p.tu))) (hold p.bu), mn (hold (mn (hold s.sd) (hold p.td))) (hold p.bd), s.stands⟩
  else
    ⟨s.ats ++ [placeS top s.stands s.y (mx (hold s.su) (hold p.tu)) (mn (hold s.sd) (hold p.td))],
      if (top && !s.stands) = true then mx (hold s.su) (hold p.tu) else s.hu, if (top && !s.stands) = true then mn (hold s.sd) (hold p.td) else s.hd, s.fu, s.fd, s.H, s.thr,
      addH (placeS top s.stands s.y (mx (hold s.su) (hold p.tu)) (mn (hold s.sd) (hold p.td))) p.h, mx (hold p.bu) (hold p.bu), mn (hold p.bd) (hold p.bd), true⟩

/-- A stacker in memory. -/
def Stk (w0 w : World) (g base : Nat) (s : St) : Prop :=
  ∃ v, Blk w g 49 (s.cells v) ∧ w.ownsRow base 3 1 v s.ats.length (s.ats.map (Value.int .i64)) ∧ Keeps (fun k => k = g ∨ base ≤ k) w0 w

set_option maxHeartbeats 4000000 in
theorem put_walk (g base : Nat) (v : Value) (s : St) (p : Pt) (top : Bool) (w : World) (hn : s.ats.length ≤ 65536) (hbase : base ≤ w.heap.size) (hgb : g < base)
    (hB : Blk w g 49 (s.cells v)) (hown : w.ownsRow base 3 1 v s.ats.length (s.ats.map (Value.int .i64))) :
    Calls Try.prog 22 #[.pointer (some ⟨g, 0, none⟩), p.val, .bool top] w fun e w' => e = .returned (.tuple #[]) ∧ Stk w w' g base (putS top p s) := by
  obtain ⟨i0, hi, hz0, hz1, hz2⟩ := info_parts int_info
  obtain ⟨ats, hu, hd, fu, fd, H, thr, y, su, sd, stands⟩ := s
  obtain ⟨tu, td, bu, bd, h, pthr⟩ := p
  have hs0 : Hs w (w.alloc (.cells #[.int .i64 tu, .int .i64 td, .int .i64 bu, .int .i64 bd, .int .i64 h, .bool pthr] 37)) g base v v ats ⟨ats, hu, hd, fu, fd, H, thr, y, su, sd, stands⟩ w.heap.size ⟨tu, td, bu, bd, h, pthr⟩ :=
    ⟨hgb, by simp; omega, hbase, hB.alloc _, hown.alloc _, Blk.new _ _ _, (Keeps.refl _ w).alloc _⟩
  have hg := hB.lt
  have c8 : w.cell? ⟨g, 8, none⟩ = some (.int .i64 su) := hB.cell 8
  have c9 : w.cell? ⟨g, 9, none⟩ = some (.int .i64 sd) := hB.cell 9
  have HS0 := Lib.hid hs0
  clear hB hown hs0
  unfold Pt.val
  go_enter Try.func22, Try.ntmps22
  go_wp2_with fail
  refine wp_region_ext_tail 10 (by kernel_rfl) (by kernel_rfl) ?_
  simp only [List.take_succ_cons, List.take_zero, List.drop_succ_cons, List.drop_zero]
  repeat (go_big_quiet_step ((go_at_call 8; exact quiet_ext (Join_any _ _ _ _ _))))
  refine wpQuiet_nil ?_
  intro w1 hw1
  have hs1 := HS0.out.then_ (grown_rules hw1).2.2.2
  clear hw1 HS0 c8 c9 hg
  have hsL := (hs1.put 8 (.int .i64 (mx (hold su) (hold tu))) ⟨ats, hu, hd, fu, fd, H, thr, y, mx (hold su) (hold tu), sd, stands⟩ v rfl).put 9 (.int .i64 (mn (hold sd) (hold td))) ⟨ats, hu, hd, fu, fd, H, thr, y, mx (hold su) (hold tu), mn (hold sd) (hold td), stands⟩ v rfl
  have HSL := Lib.hid hsL
  have fz := hs1.blk.frozen
  have k8 := hs1.c8
  have k9 := hs1.c9
  clear hs1 hsL
  go_wp2_with fail
  refine (place_any g _ _ _ _ _ _ HSL.out.glt HSL.out.c7 HSL.out.c8 HSL.out.c9 HSL.out.c10).mono ?_
  rintro e w2 ⟨rfl, hb2⟩
  have hs2 := HSL.out.then_ hb2
  clear hb2 HSL fz k8 k9
  generalize hA : placeS top stands y (mx (hold su) (hold tu)) (mn (hold sd) (hold td)) = A
  have HA := Lib.hid hA
  clear hA
  have HS2 := Lib.hid hs2
  have c0 := hs2.c0
  have z2 := hs2.glt
  have ho2 := Lib.hid (hs2.own.alloc (.cells #[.int .i64 A] 3))
  have hnx : base ≤ (w2.alloc (.cells #[.int .i64 A] 3)).heap.size := by have := hs2.bb; simp; omega
  have HNX := Lib.hid hnx
  clear hs2 hnx
  go_wp2_with ((at_builtin; refine wpList_append_own_at _ rfl (.tmp 25) (.tmp 27) _ rfl base 3 i0 (.int .i64 0) 1 8 Try.underlying38 hi hz0 hz1 hz2 rfl (by decide) _ _ _ rfl ho2.out ⟨w2.heap.size, 0, none⟩ 1 1 [.int .i64 A] rfl rfl ?c1 ?c2 ?c3 ?c4 HNX.out ?_))
  case c1 =>
    intro j u hj
    match j, hj with
    | 0, hj => simp at hj; subst hj; simp [Addr.add]
  case c2 => intro u hu; simp at hu; subst hu; rfl
  case c3 => unfold maxLen; omega
  case c4 => omega
  intro v' w3 hown3 hg3 _ _
  obtain ⟨r3, cap3, hv3, -, -⟩ := hown3.form (by omega)
  subst hv3
  have hs3a := HS2.out.then_ ((Below.refl _ w2).alloc (Nat.le_refl _) (.cells #[.int .i64 A] 3))
  have hs3 := hs3a.grown (al' := ats ++ [A]) hg3 (by simpa using hown3) hs3a.ne_box
  have hs4 := hs3.put 0 _ ⟨ats, hu, hd, fu, fd, H, thr, y, mx (hold su) (hold tu), mn (hold sd) (hold td), stands⟩ (.slice (some ⟨r3, 0, none⟩) (ats.length + 1) cap3) rfl
  have HS4 := Lib.hid hs4
  have d0 := hs3.c0
  have fz := hs3.blk.frozen
  have e0 := hs3.p0
  have e1 := hs3.p1
  have e2 := hs3.p2
  have e3 := hs3.p3
  have e4 := hs3.p4
  have e5 := hs3.p5
  have e7 := hs3.c7
  have e8 := hs3.c8
  have g1 := hs3.c1
  have g2 := hs3.c2
  have e9 := hs3.c9
  have e10 := hs3.c10
  have z3 := hs3.glt
  have z3b := hs3.box.lt
  have n1 : g ≠ w.heap.size := by omega
  have n2 : w.heap.size ≠ g := by omega
  clear hs3a hs3 hs4 hown3 hg3 HS2 c0 z2 ho2 HNX
  cases pthr
  · cases top <;> cases stands
    all_goals
      go_wp2_with fail
      go_region_held3 (fun w' => w'.cell? ⟨w.heap.size, 2, none⟩ = some (.int .i64 bu) ∧ w'.cell? ⟨w.heap.size, 3, none⟩ = some (.int .i64 bd) ∧ w'.cell? ⟨w.heap.size, 4, none⟩ = some (.int .i64 h)) (first | (simp [*]; done) | (simp [*, World.cell?_setCell_far]; done))
        (first
          | (go_at_call 19; refine (Add_any _ _ _).mono ?_; rintro e w' ⟨rfl, rfl⟩)
          | (go_at_call 8; refine (Join_any _ _ _ _ _).mono ?_; rintro e w4 ⟨rfl, hb4⟩; obtain ⟨rc4, rf4, rs4⟩ := below_rules hb4; have HB4 := Lib.hid hb4; clear hb4))
      go_wp2_with fail
      go_end0
    · have hx := HS4.out.drew.then_ HB4.out
      have hf := (((hx.put 7 (.int .i64 (addH A h)) ⟨ats, hu, hd, fu, fd, H, thr, (addH A h), (mx (hold su) (hold tu)), (mn (hold sd) (hold td)), false⟩ (.slice (some ⟨r3, 0, none⟩) (ats.length + 1) cap3) rfl).put 8 (.int .i64 (mx (hold bu) (hold bu))) ⟨ats, hu, hd, fu, fd, H, thr, (addH A h), (mx (hold bu) (hold bu)), (mn (hold sd) (hold td)), false⟩ (.slice (some ⟨r3, 0, none⟩) (ats.length + 1) cap3) rfl).put 9 (.int .i64 (mn (hold bd) (hold bd))) ⟨ats, hu, hd, fu, fd, H, thr, (addH A h), (mx (hold bu) (hold bu)), (mn (hold bd) (hold bd)), false⟩ (.slice (some ⟨r3, 0, none⟩) (ats.length + 1) cap3) rfl).put 10 (.bool true) ⟨ats, hu, hd, fu, fd, H, thr, (addH A h), (mx (hold bu) (hold bu)), (mn (hold bd) (hold bd)), true⟩ (.slice (some ⟨r3, 0, none⟩) (ats.length + 1) cap3) rfl
      obtain rfl := HA.out; exact ⟨rfl, _, hf.blk, hf.own, hf.keeps⟩
    · have hx := HS4.out.drew.then_ HB4.out
      have hf := (((hx.put 7 (.int .i64 (addH A h)) ⟨ats, hu, hd, fu, fd, H, thr, (addH A h), (mx (hold su) (hold tu)), (mn (hold sd) (hold td)), true⟩ (.slice (some ⟨r3, 0, none⟩) (ats.length + 1) cap3) rfl).put 8 (.int .i64 (mx (hold bu) (hold bu))) ⟨ats, hu, hd, fu, fd, H, thr, (addH A h), (mx (hold bu) (hold bu)), (mn (hold sd) (hold td)), true⟩ (.slice (some ⟨r3, 0, none⟩) (ats.length + 1) cap3) rfl).put 9 (.int .i64 (mn (hold bd) (hold bd))) ⟨ats, hu, hd, fu, fd, H, thr, (addH A h), (mx (hold bu) (hold bu)), (mn (hold bd) (hold bd)), true⟩ (.slice (some ⟨r3, 0, none⟩) (ats.length + 1) cap3) rfl).put 10 (.bool true) ⟨ats, hu, hd, fu, fd, H, thr, (addH A h), (mx (hold bu) (hold bu)), (mn (hold bd) (hold bd)), true⟩ (.slice (some ⟨r3, 0, none⟩) (ats.length + 1) cap3) rfl
      obtain rfl := HA.out; exact ⟨rfl, _, hf.blk, hf.own, hf.keeps⟩
    · have hx := ((HS4.out.put 1 (.int .i64 (mx (hold su) (hold tu))) ⟨ats, (mx (hold su) (hold tu)), hd, fu, fd, H, thr, y, (mx (hold su) (hold tu)), (mn (hold sd) (hold td)), false⟩ (.slice (some ⟨r3, 0, none⟩) (ats.length + 1) cap3) rfl).put 2 (.int .i64 (mn (hold sd) (hold td))) ⟨ats, (mx (hold su) (hold tu)), (mn (hold sd) (hold td)), fu, fd, H, thr, y, (mx (hold su) (hold tu)), (mn (hold sd) (hold td)), false⟩ (.slice (some ⟨r3, 0, none⟩) (ats.length + 1) cap3) rfl).drew.then_ HB4.out
      have hf := (((hx.put 7 (.int .i64 (addH A h)) ⟨ats, (mx (hold su) (hold tu)), (mn (hold sd) (hold td)), fu, fd, H, thr, (addH A h), (mx (hold su) (hold tu)), (mn (hold sd) (hold td)), false⟩ (.slice (some ⟨r3, 0, none⟩) (ats.length + 1) cap3) rfl).put 8 (.int .i64 (mx (hold bu) (hold bu))) ⟨ats, (mx (hold su) (hold tu)), (mn (hold sd) (hold td)), fu, fd, H, thr, (addH A h), (mx (hold bu) (hold bu)), (mn (hold sd) (hold td)), false⟩ (.slice (some ⟨r3, 0, none⟩) (ats.length + 1) cap3) rfl).put 9 (.int .i64 (mn (hold bd) (hold bd))) ⟨ats, (mx (hold su) (hold tu)), (mn (hold sd) (hold td)), fu, fd, H, thr, (addH A h), (mx (hold bu) (hold bu)), (mn (hold bd) (hold bd)), false⟩ (.slice (some ⟨r3, 0, none⟩) (ats.length + 1) cap3) rfl).put 10 (.bool true) ⟨ats, (mx (hold su) (hold tu)), (mn (hold sd) (hold td)), fu, fd, H, thr, (addH A h), (mx (hold bu) (hold bu)), (mn (hold bd) (hold bd)), true⟩ (.slice (some ⟨r3, 0, none⟩) (ats.length + 1) cap3) rfl
      obtain rfl := HA.out; exact ⟨rfl, _, hf.blk, hf.own, hf.keeps⟩
    · have hx := HS4.out.drew.then_ HB4.out
      have hf := (((hx.put 7 (.int .i64 (addH A h)) ⟨ats, hu, hd, fu, fd, H, thr, (addH A h), (mx (hold su) (hold tu)), (mn (hold sd) (hold td)), true⟩ (.slice (some ⟨r3, 0, none⟩) (ats.length + 1) cap3) rfl).put 8 (.int .i64 (mx (hold bu) (hold bu))) ⟨ats, hu, hd, fu, fd, H, thr, (addH A h), (mx (hold bu) (hold bu)), (mn (hold sd) (hold td)), true⟩ (.slice (some ⟨r3, 0, none⟩) (ats.length + 1) cap3) rfl).put 9 (.int .i64 (mn (hold bd) (hold bd))) ⟨ats, hu, hd, fu, fd, H, thr, (addH A h), (mx (hold bu) (hold bu)), (mn (hold bd) (hold bd)), true⟩ (.slice (some ⟨r3, 0, none⟩) (ats.length + 1) cap3) rfl).put 10 (.bool true) ⟨ats, hu, hd, fu, fd, H, thr, (addH A h), (mx (hold bu) (hold bu)), (mn (hold bd) (hold bd)), true⟩ (.slice (some ⟨r3, 0, none⟩) (ats.length + 1) cap3) rfl
      obtain rfl := HA.out; exact ⟨rfl, _, hf.blk, hf.own, hf.keeps⟩
  · go_wp2_with fail
    refine wp_region_ext_tail 10 (by kernel_rfl) (by kernel_rfl) ?_
    simp only [List.take_succ_cons, List.take_zero, List.drop_succ_cons, List.drop_zero]
    repeat (go_big_quiet_step ((go_at_call 8; exact quiet_ext (Join_any _ _ _ _ _))))
    refine wpQuiet_nil ?_
    intro w5 hw5
    have hs5 := HS4.out.then_ (grown_rules hw5).2.2.2
    clear hw5 HS4
    have k8 := hs5.c8
    have k9 := hs5.c9
    have z5 := hs5.glt
    have fz5 := hs5.blk.frozen
    have HS5 := Lib.hid hs5
    clear hs5
    go_wp2_with fail
    refine bodyPost_ret (results_none rfl _ _ _) rfl ?_
    have hf := (HS5.out.put 8 (.int .i64 (mx (hold (mx (hold su) (hold tu))) (hold bu))) ⟨ats, hu, hd, fu, fd, H, thr, y, (mx (hold (mx (hold su) (hold tu))) (hold bu)), (mn (hold sd) (hold td)), stands⟩ (.slice (some ⟨r3, 0, none⟩) (ats.length + 1) cap3) rfl).put 9 (.int .i64 (mn (hold (mn (hold sd) (hold td))) (hold bd))) ⟨ats, hu, hd, fu, fd, H, thr, y, (mx (hold (mx (hold su) (hold tu))) (hold bu)), (mn (hold (mn (hold sd) (hold td))) (hold bd)), stands⟩ (.slice (some ⟨r3, 0, none⟩) (ats.length + 1) cap3) rfl
    obtain rfl := HA.out; exact ⟨rfl, _, hf.blk, hf.own, hf.keeps⟩

end Go.Proofs.Ytppgpejneninnaa
