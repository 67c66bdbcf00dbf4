/- Tokens in memory; the reference's Cut. -/
import Derived.Test.YtmicgfpiknibhaaLexOne
import Derived.Maps.AppendAt
namespace Go.Proofs.Ytmicgfpiknibhaa
open Go.RowKit
set_option linter.unusedSimpArgs false
set_option linter.unusedVariables false
attribute [local go_sem] cell?_ext frozen?_ext lt_size_ext

/-- A token's cells; those of tokens, one behind the other. -/
def Tk.cells (t : Tk) : List Value := [.int .i64 t.k, .string (strOf t.x), .int .i64 t.n]
def tkCells : List Tk → List Value
  | [] => []
  | t :: r => t.cells ++ tkCells r
theorem tkCells_append : ∀ a b : List Tk, tkCells (a ++ b) = tkCells a ++ tkCells b
  | [], b => rfl
  | t :: r, b => by show t.cells ++ tkCells (r ++ b) = (t.cells ++ tkCells r) ++ tkCells b; rw [tkCells_append r b, List.append_assoc]
theorem tkCells_length : ∀ a : List Tk, (tkCells a).length = a.length * 3
  | [] => rfl
  | t :: r => by show (t.cells ++ tkCells r).length = _; rw [List.length_append, tkCells_length r, List.length_cons]; show 3 + _ = _; omega
theorem tkCells_at : ∀ {L : List Tk} {i j : Nat} {t : Tk}, L[i]? = some t → j < 3 → (tkCells L)[i * 3 + j]? = t.cells[j]?
  | [], i, j, t, h, _ => by simp at h
  | u :: r, 0, j, t, h, hj => by
    simp at h
    subst h
    show (u.cells ++ tkCells r)[0 * 3 + j]? = _
    have : u.cells.length = 3 := rfl
    rw [List.getElem?_append_left (by omega)]; congr 1; omega
  | u :: r, i + 1, j, t, h, hj => by
    have hl : u.cells.length = 3 := rfl
    show (u.cells ++ tkCells r)[(i + 1) * 3 + j]? = _
    rw [List.getElem?_append_right (by omega), hl, show (i + 1) * 3 + j - 3 = i * 3 + j by omega]
    exact tkCells_at (by simpa using h) hj
theorem tk_one (t : Tk) : ∀ u ∈ t.cells, u.oneCell' = true := by
  intro u hu
  simp [Tk.cells] at hu
  rcases hu with rfl | rfl | rfl <;> rfl

/-- Tokens that a slice holds. -/
def Tks (w : World) (ao : Option Addr) (L : List Tk) : Prop :=
  L = [] ∨ ∃ b o, ao = some ⟨b, o, none⟩ ∧ b < w.heap.size ∧ ∀ i t, L[i]? = some t →
    w.cell? ⟨b, o + i * 3, none⟩ = some (.int .i64 t.k) ∧ w.cell? ⟨b, o + i * 3 + 1, none⟩ = some (.string (strOf t.x)) ∧ w.cell? ⟨b, o + i * 3 + 2, none⟩ = some (.int .i64 t.n)
theorem Tks.below {w w' : World} {ao : Option Addr} {L : List Tk} (h : Tks w ao L) (hb : Below w.heap.size w w') : Tks w' ao L :=
  h.imp id fun ⟨b, o, e, hl, hk⟩ => ⟨b, o, e, Nat.lt_of_lt_of_le hl hb.size, fun i t ht => by
    have e : ∀ j, w'.cell? ⟨b, j, none⟩ = w.cell? ⟨b, j, none⟩ := fun j => World.cell?_of_block (hb.block b hl)
    have h := hk i t ht
    exact ⟨(e _).trans h.1, (e _).trans h.2.1, (e _).trans h.2.2⟩⟩
theorem Tks.of_own {w : World} {base : Nat} {e : TypeId} {v : Value} {L : List Tk} (h : w.ownsRow base e 3 v L.length (tkCells L)) :
    ∃ ao cap, v = .slice ao L.length cap ∧ Tks w ao L := by
  have hc := fun g (hg : v.ownBlock = some g) => h.cells hg
  rcases h.2 with ⟨rfl, h0⟩ | ⟨g, cap, cur, rfl, hb, hg, -⟩
  · have e : L = [] := List.length_eq_zero_iff.1 (by simpa using h0)
    subst e
    exact ⟨none, 0, rfl, .inl rfl⟩
  · refine ⟨_, cap, rfl, .inr ⟨g, 0, rfl, (Array.getElem?_eq_some_iff.1 hg).1, fun k t ht => ?_⟩⟩
    have hc := hc g rfl
    have key : ∀ j u, j < 3 → t.cells[j]? = some u → w.cell? ⟨g, 0 + k * 3 + j, none⟩ = some u := fun j u hj hu => by
      have h1 := hc (k * 3 + j) u (by rw [tkCells_at ht hj]; exact hu)
      have e : (⟨g, 0, none⟩ : Addr).add (k * 3 + j) = ⟨g, 0 + k * 3 + j, none⟩ := by
        unfold Addr.add; split
        · rename_i h0; congr 1; omega
        · simp [Nat.add_assoc]
      rw [e] at h1; exact h1
    exact ⟨key 0 _ (by decide) rfl, key 1 _ (by decide) rfl, key 2 _ (by decide) rfl⟩

theorem token_info : (Try.prog.info? 23).map (fun i => (i.zero, i.size, i.bytes)) = some (some (.agg #[.int .i64 0, .string { data := #[] }, .int .i64 0]), 3, 32) := by kernel_rfl
theorem tk_news (w : World) (A : Obj) (t : Tk) (e : TypeId) : ∀ j u, t.cells[j]? = some u → ((w.alloc A).alloc (.cells #[.int .i64 t.k, .string (strOf t.x), .int .i64 t.n] e)).cell? ((⟨w.heap.size + 1, 0, none⟩ : Addr).add j) = some u := by
  intro j u hj
  have e1 : (⟨w.heap.size + 1, 0, none⟩ : Addr).add j = ⟨w.heap.size + 1, j, none⟩ := by
    unfold Addr.add; split
    · rename_i h0; rw [h0]
    · simp
  have hk := (Blk.new (w.alloc A) e #[.int .i64 t.k, .string (strOf t.x), .int .i64 t.n]).cell j
  have hs : (w.alloc A).heap.size = w.heap.size + 1 := by simp
  rw [hs] at hk
  rw [e1, hk, ← hj]
  simp [Tk.cells]

/-- Each token has a kind above 0. -/
theorem oneT_pos (l : List UInt8) (t : Tk) (h : (oneT l).1 = some t) : 0 < t.k := by
  cases l with
  | nil => cases h
  | cons c r =>
    have quot : ∀ q u, 0 < (quoted q u).1.k := fun q u => by
      unfold quoted; dsimp only; split
      · show (0 : Int) < 5; decide
      · split <;> simp
    have meas : ∀ l n, 0 < (measured l n).1.k := fun l n => by
      unfold measured; dsimp only; split
      · show (0 : Int) < 8; decide
      · split <;> simp
    have nam : ∀ l, 0 < (named l).1.k := fun l => by
      unfold named; split <;> simp
    rw [oneT] at h
    split at h
    · cases h
    · split at h
      · obtain rfl := Option.some.inj h; show (0 : Int) < 20; decide
      · split at h
        · obtain rfl := Option.some.inj h; exact quot _ _
        · split at h
          · obtain rfl := Option.some.inj h; exact meas _ _
          · split at h
            · obtain rfl := Option.some.inj h; show (0 : Int) < 4; decide
            · split at h
              · obtain rfl := Option.some.inj h; show (0 : Int) < 3; decide
              · split at h
                · obtain rfl := Option.some.inj h; exact nam _
                · split at h
                  · rename_i hk; obtain rfl := Option.some.inj h; show (0 : Int) < (signK c.toNat : Int); omega
                  · obtain rfl := Option.some.inj h; show (0 : Int) < 19; decide

set_option maxHeartbeats 4000000 in
theorem RCut_any (s : ByteArray) (hs : s.size ≤ 1000000) (w : World) :
    Calls Try.prog 17 #[.string s] w fun e w' => ∃ v, e = .returned v ∧ w'.ownsRow w.heap.size 23 3 v (cut s.data.toList).length (tkCells (cut s.data.toList)) ∧ Below w.heap.size w w' := by
  obtain ⟨i0, hi, hz0, hz1, hz2⟩ := info_parts token_info
  have hsm : s.size ≤ maxLen := by unfold maxLen; omega
  have hlen : s.data.toList.length = s.size := len_data s
  obtain ⟨C, hC⟩ : ∃ C, C = cut s.data.toList := ⟨_, rfl⟩
  rw [← hC]
  go_enter Try.func17, Try.ntmps17
  go_wp2_with fail
  go_loopw [3, 4] (fun v3 v4 wr => ∃ (a : Nat) (L : List Tk), a ≤ s.size ∧ v4 = .int .i64 a ∧ L.length ≤ a ∧ L ++ cut (s.data.toList.drop a) = C ∧ wr.ownsRow w.heap.size 23 3 v3 L.length (tkCells L) ∧ Below w.heap.size w wr) (fun _ v4 _ => s.size - (intOf v4).toNat)
  case atStart => exact ⟨0, [], by omega, rfl, by simp, by rw [hC]; rfl, World.ownsRow_nil _ _ _ _, Below.refl _ _⟩
  case round =>
    obtain ⟨a, L, ha, rfl, hla, hcut, ho, hb⟩ := hrel
    by_cases hlt : a < s.size
    · have hne : s.data.toList.drop a ≠ [] := by rw [drop_at s a hlt]; simp
      have hbd := oneT_bd _ hne
      have hcs := cut_step hne
      have hps := oneT_pos (s.data.toList.drop a)
      have hone := fun w => ROne_any s a hlt hsm w
      rw [List.length_drop, hlen] at hbd
      rw [List.drop_drop] at hcs
      rw [hcs] at hcut
      generalize oneT (s.data.toList.drop a) = O at *
      obtain ⟨o, v⟩ := O
      dsimp only at hbd hcs hps hone hcut
      obtain ⟨b, hbb⟩ : ∃ b, b = a + v := ⟨_, rfl⟩
      rw [← hbb] at hone hcut
      have hab : a < b := by omega
      have hbs : b ≤ s.size := by omega
      cases o with
      | none =>
        have HO1 := Lib.hid hone
        have HO := Lib.hid ho
        have HB := Lib.hid hb
        have HC := Lib.hid hcut
        clear hone ho hb hcut hps hcs hC hne hbb hbd
        go_wp2_with fail
        refine (HO1.out _).mono ?_; rintro e w2 ⟨rfl, hb2⟩
        have HO2 := Lib.hid (own_then HO.out hb2)
        have HB2 := Lib.hid (below_then HB.out hb2)
        clear hb2
        unfold optVal
        go_wp2_with fail
        go_roundw
        case rel => exact ⟨b, L, hbs, rfl, by omega, HC.out, HO2.out.alloc _, below_alloc HB2.out _⟩
        case measure => (simp [intOf]; omega)
      | some t =>
        have hp := hps t rfl
        have d0 : decide ((0 : Int) < t.k) = true := decide_eq_true hp
        have hone2 : ∀ w, Calls Try.prog 25 #[.string s, .int .i64 a] w fun e w' => e = .returned (.tuple #[.agg #[.int .i64 t.k, .string (strOf t.x), .int .i64 t.n], .int .i64 (b : Int)]) ∧ Below w.heap.size w w' := hone
        have HO1 := Lib.hid hone2
        have HO := Lib.hid ho
        have HB := Lib.hid hb
        have HC := Lib.hid hcut
        clear hone hone2 ho hb hcut hps hcs hC hne hbb hbd
        go_wp2_with fail
        refine (HO1.out _).mono ?_; rintro e w2 ⟨rfl, hb2⟩
        have ho2 := own_then HO.out hb2
        have hB2 := below_then HB.out hb2
        have ho3 := (ho2.alloc (.cells #[.int .i64 t.k, .string (strOf t.x), .int .i64 t.n] 23)).alloc (.cells #[.int .i64 t.k, .string (strOf t.x), .int .i64 t.n] 23)
        have hB3 := below_alloc (below_alloc hB2 (.cells #[.int .i64 t.k, .string (strOf t.x), .int .i64 t.n] 23)) (.cells #[.int .i64 t.k, .string (strOf t.x), .int .i64 t.n] 23)
        have hnw := tk_news w2 (.cells #[.int .i64 t.k, .string (strOf t.x), .int .i64 t.n] 23) t 23
        have HO2 := Lib.hid ho3
        have HB2 := Lib.hid hB3
        have HNW := Lib.hid hnw
        clear hb2 ho2 hB2 ho3 hB3 hnw
        go_wp2_with ((at_builtin; refine wpList_append_own_at _ rfl (.tmp 20) (.tmp 22) _ rfl w.heap.size 23 i0 (.agg #[.int .i64 0, .string { data := #[] }, .int .i64 0]) 3 32 Try.underlying26 hi hz0 hz1 hz2 rfl (by decide) _ _ _ rfl HO2.out ⟨w2.heap.size + 1, 0, none⟩ 1 1 t.cells rfl rfl ?c1 ?c2 ?c3 ?c4 HB2.out.size ?_))
        case c1 => exact HNW.out
        case c2 => exact tk_one _
        case c3 => unfold maxLen; omega
        case c4 => omega
        intro v' w3 hown3 hg3 _ _
        have hb3 : Below w.heap.size w w3 := HB2.out.grown hg3 HB2.out.size fun k hk => (HO2.out.lt k hk).1
        have hown4 : w3.ownsRow w.heap.size 23 3 v' (L ++ [t]).length (tkCells (L ++ [t])) := by
          rw [tkCells_append, List.length_append]
          have e : tkCells [t] = t.cells := List.append_nil _
          rw [e]; exact hown3
        have HO3 := Lib.hid hown4
        have HB3 := Lib.hid hb3
        clear hown3 hown4 hg3 hb3
        go_wp2_with fail
        go_roundw
        case rel => exact ⟨b, L ++ [t], hbs, rfl, by rw [List.length_append]; show L.length + 1 ≤ b; omega, by rw [List.append_assoc]; exact HC.out, HO3.out, HB3.out⟩
        case measure => (simp [intOf]; omega)
    · have e : s.data.toList.drop a = [] := drop_end s a (by omega)
      rw [e, cut_nil, List.append_nil] at hcut
      subst hcut
      have HO := Lib.hid ho
      have HB := Lib.hid hb
      clear ho hb e hC
      go_wp2_with fail
      go_ret
      exact ⟨_, rfl, HO.out, HB.out⟩

end Go.Proofs.Ytmicgfpiknibhaa
