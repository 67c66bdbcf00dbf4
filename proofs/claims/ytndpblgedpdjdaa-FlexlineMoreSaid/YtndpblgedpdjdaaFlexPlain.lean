/- A line of items, plain: what a line is, round by round; each round freezes one at least. -/
import Derived.Test.YtndpblgedpdjdaaDealSub
import Derived.Test.YtndpblgedpdjdaaFloorPlain
namespace Go.Proofs.Ytndpblgedpdjdaa
set_option linter.unusedVariables false
open Sh

/-- Of one of a line: its seven numbers. -/
structure It where
  base : Int
  least : Int
  most : Int
  margin : Int
  inner : Int
  grow : Int
  shrink : Int

namespace It
def held (t : It) : It := ⟨hold t.base, wt t.least, hold t.most, hold t.margin, wt t.inner, wt t.grow, wt t.shrink⟩
/-- An item all of whose numbers are there. -/
structure Ok (t : It) : Prop where
  base : -1073741824 ≤ t.base ∧ t.base ≤ 1073741824
  least : 0 ≤ t.least ∧ t.least ≤ 1073741824
  most : -1073741824 ≤ t.most ∧ t.most ≤ 1073741824
  margin : -1073741824 ≤ t.margin ∧ t.margin ≤ 1073741824
  inner : 0 ≤ t.inner ∧ t.inner ≤ 1073741824
  grow : 0 ≤ t.grow ∧ t.grow ≤ 1073741824
  shrink : 0 ≤ t.shrink ∧ t.shrink ≤ 1073741824
theorem held_ok (t : It) : t.held.Ok := ⟨hold_bd _, wt_bd _, hold_bd _, hold_bd _, wt_bd _, wt_bd _, wt_bd _⟩
theorem wt_wt (x : Int) : wt (wt x) = wt x := by have h := wt_bd x; rw [wt, if_neg (by omega), hold_id (by omega) (by omega)]
theorem held_held (t : It) : t.held.held = t.held := by
  unfold held; simp only [hold_hold, wt_wt]

/-- A length between both ends. -/
def clamp (t : It) (n : Int) : Int := max (if 0 ≤ t.most then min n t.most else n) t.least
def wish (t : It) : Int := t.clamp t.base
def fac (t : It) (g : Bool) : Int := if g = true then t.grow else t.shrink
def wei (t : It) (g : Bool) : Int := if g = true then t.grow else partH t.inner t.shrink 1000
def stiff (t : It) (g : Bool) : Bool := if t.fac g = 0 then true else if g = true then decide (t.wish < t.base) else decide (t.base < t.wish)

theorem clamp_bd {t : It} (ok : t.Ok) {n : Int} (h : -1073741824 ≤ n ∧ n ≤ 1073741824) : -1073741824 ≤ t.clamp n ∧ t.clamp n ≤ 1073741824 := by
  have h1 := ok.least
  have h2 := ok.most
  unfold clamp; split <;> omega
theorem clamp_clamp (t : It) (n : Int) : t.clamp (t.clamp n) = t.clamp n := by unfold clamp; split <;> omega
theorem clamp_mono (t : It) {a b : Int} (h : a ≤ b) : t.clamp a ≤ t.clamp b := by unfold clamp; split <;> omega
theorem wish_bd {t : It} (ok : t.Ok) : -1073741824 ≤ t.wish ∧ t.wish ≤ 1073741824 := clamp_bd ok ok.base
theorem fac_bd {t : It} (ok : t.Ok) (g : Bool) : 0 ≤ t.fac g ∧ t.fac g ≤ 1073741824 := by
  unfold fac; split
  · exact ok.grow
  · exact ok.shrink
theorem part_nonneg {a n d : Int} (ha : 0 ≤ a) (hn : 0 ≤ n) (hd : 0 < d) : 0 ≤ partH a n d := by
  unfold partH
  rw [if_neg (by omega)]
  refine (hold_nonneg _).2 ?_
  unfold flr
  rw [if_pos ((hold_pos d).2 hd)]
  exact Int.ediv_nonneg (Int.mul_nonneg ((hold_nonneg a).2 ha) ((hold_nonneg n).2 hn)) (by have := (hold_pos d).2 hd; omega)
theorem wei_bd {t : It} (ok : t.Ok) (g : Bool) : 0 ≤ t.wei g ∧ t.wei g ≤ 1073741824 := by
  unfold wei; split
  · exact ok.grow
  · exact ⟨part_nonneg ok.inner.1 ok.shrink.1 (by decide), (partH_bd _ _ _).2⟩
end It

/-- A line on its way: which items have their lengths, and what these are. -/
structure St where
  out : Nat → Int
  fz : Nat → Bool

namespace Fx
def wishes (L : Nat → It) (n : Nat) : Int := sm (fun i => (L i).wish + (L i).margin) n
def grows (L : Nat → It) (n : Nat) (R : Int) : Bool := decide (wishes L n < R)
def st0 (L : Nat → It) (g : Bool) : St := ⟨fun i => if (L i).stiff g = true then (L i).wish else 0, fun i => (L i).stiff g⟩
def used (L : Nat → It) (S : St) (n : Nat) : Int := sm (fun i => (L i).margin + if S.fz i = true then S.out i else (L i).base) n
def free (L : Nat → It) (S : St) (n : Nat) (R : Int) : Int := R - used L S n
def facs (L : Nat → It) (g : Bool) (S : St) (n : Nat) : Int := sm (fun i => if S.fz i = true then 0 else (L i).fac g) n
def ab (x : Int) : Int := max x (-x)
def part (sum first now : Int) : Int := if sum < 1000 then (if ab (partH first sum 1000) < ab now then partH first sum 1000 else now) else now
def wF (L : Nat → It) (g : Bool) (S : St) (i : Nat) : Int := if S.fz i = true then 0 else (L i).wei g
section
variable (L : Nat → It) (g : Bool) (n : Nat) (R first : Int) (S : St)
def given : Int := part (facs L g S n) first (free L S n R)
def share (i : Nat) : Int := deal (given L g n R first S) n (wF L g S) i
def raw (i : Nat) : Int := hold ((L i).base + share L g n R first S i)
def len (i : Nat) : Int := (L i).clamp (raw L g n R first S i)
def br (i : Nat) : Int := if S.fz i = true then 0 else len L g n R first S i - raw L g n R first S i
def brs : Int := sm (br L g n R first S) n
def frz (b s : Int) : Bool := if 0 < s then decide (0 < b) else if s < 0 then decide (b < 0) else true
def step : St := ⟨fun i => if S.fz i = false ∧ frz (br L g n R first S i) (brs L g n R first S) = true then len L g n R first S i else S.out i,
  fun i => S.fz i || frz (br L g n R first S i) (brs L g n R first S)⟩
end
def st (L : Nat → It) (g : Bool) (n : Nat) (R first : Int) : Nat → St
  | 0 => st0 L g
  | r + 1 => step L g n R first (st L g n R first r)
/-- How many have no length yet. -/
def lft (S : St) (n : Nat) : Nat := (opens n S.fz).length
/-- A line is done after so many rounds. -/
structure Done (L : Nat → It) (g : Bool) (n : Nat) (R first : Int) (r : Nat) : Prop where
  last : lft (st L g n R first r) n = 0
  before : ∀ k, k < r → lft (st L g n R first k) n ≠ 0

variable {L : Nat → It} {g : Bool} {n : Nat} {R first : Int} {S : St}
theorem lft_zero : lft S n = 0 ↔ ∀ i, i < n → S.fz i = true := by
  unfold lft
  rw [List.length_eq_zero_iff]
  constructor
  · intro h i hi
    cases hz : S.fz i with
    | true => rfl
    | false => have := mem_opens.2 ⟨hi, hz⟩; rw [h] at this; cases this
  · intro h
    refine List.eq_nil_iff_forall_not_mem.2 fun i hi => ?_
    have := mem_opens.1 hi
    rw [h i this.1] at this
    simp at this
theorem sm_pos {f : Nat → Int} : ∀ {n}, 0 < sm f n → ∃ i, i < n ∧ 0 < f i
  | 0, h => absurd h (by unfold sm; omega)
  | n + 1, h => by
    have h : 0 < sm f n + f n := h
    by_cases hn : 0 < f n
    · exact ⟨n, by omega, hn⟩
    · obtain ⟨i, hi, hp⟩ := sm_pos (f := f) (n := n) (by omega)
      exact ⟨i, by omega, hp⟩
theorem frz_some (h : lft S n ≠ 0) : ∃ i, i < n ∧ S.fz i = false ∧ frz (br L g n R first S i) (brs L g n R first S) = true := by
  unfold frz
  by_cases h1 : 0 < brs L g n R first S
  · obtain ⟨i, hi, hp⟩ := sm_pos h1
    refine ⟨i, hi, ?_, ?_⟩
    · cases hz : S.fz i with
      | false => rfl
      | true => unfold br at hp; rw [if_pos hz] at hp; omega
    · rw [if_pos h1]; exact decide_eq_true hp
  · by_cases h2 : brs L g n R first S < 0
    · have hs : 0 < sm (fun i => -br L g n R first S i) n := by rw [sm_neg]; unfold brs at h2; omega
      obtain ⟨i, hi, hp⟩ := sm_pos hs
      refine ⟨i, hi, ?_, ?_⟩
      · cases hz : S.fz i with
        | false => rfl
        | true => unfold br at hp; rw [if_pos hz] at hp; omega
      · rw [if_neg h1, if_pos h2]; exact decide_eq_true (by omega)
    · have : ∃ i, i < n ∧ S.fz i = false := by
        refine Classical.byContradiction fun hc => h (lft_zero.2 fun i hi => ?_)
        cases hz : S.fz i with
        | true => rfl
        | false => exact absurd ⟨i, hi, hz⟩ hc
      obtain ⟨i, hi, hz⟩ := this
      exact ⟨i, hi, hz, by rw [if_neg h1, if_neg h2]⟩
theorem step_lft (h : lft S n ≠ 0) : lft (step L g n R first S) n < lft S n := by
  obtain ⟨i, hi, hz, hf⟩ := frz_some (L := L) (g := g) (R := R) (first := first) h
  unfold lft opens
  rw [← List.countP_eq_length_filter, ← List.countP_eq_length_filter]
  refine countP_strict (a := i) ?_ (List.mem_range.2 hi) (by rw [hz]; rfl) ?_
  · intro x _ hx
    show (!S.fz x) = true
    have hx : (!(S.fz x || frz (br L g n R first S x) (brs L g n R first S))) = true := hx
    cases hzx : S.fz x with
    | false => rfl
    | true => rw [hzx] at hx; simp at hx
  · show (!(S.fz i || frz (br L g n R first S i) (brs L g n R first S))) = false
    rw [hf]; simp
theorem done_exists (L : Nat → It) (g : Bool) (n : Nat) (R first : Int) : ∃ r, r ≤ n ∧ Done L g n R first r := by
  have key : ∀ r, (∀ k, k < r → lft (st L g n R first k) n ≠ 0) → lft (st L g n R first r) n + r ≤ n := fun r => by
    induction r with
    | zero => intro _; exact opens_le n _
    | succ r ih =>
      intro h
      have h1 := ih fun k hk => h k (by omega)
      have h2 := step_lft (L := L) (g := g) (R := R) (first := first) (h r (by omega))
      show lft (step L g n R first (st L g n R first r)) n + (r + 1) ≤ n
      omega
  have find : ∀ m r, n ≤ r + m → (∀ k, k < r → lft (st L g n R first k) n ≠ 0) → ∃ r, r ≤ n ∧ Done L g n R first r := fun m => by
    induction m with
    | zero =>
      intro r hr h
      have := key r h
      exact ⟨r, by omega, by omega, h⟩
    | succ m ih =>
      intro r hr h
      by_cases h0 : lft (st L g n R first r) n = 0
      · exact ⟨r, by have := key r h; omega, h0, h⟩
      · refine ih (r + 1) (by omega) fun k hk => ?_
        rcases Nat.lt_or_eq_of_le (Nat.le_of_lt_succ hk) with h1 | rfl
        · exact h k h1
        · exact h0
  exact find n 0 (by omega) (fun k hk => absurd hk (Nat.not_lt_zero _))
theorem done_unique {r r' : Nat} (h : Done L g n R first r) (h' : Done L g n R first r') : r = r' := by
  rcases Nat.lt_trichotomy r r' with h1 | h1 | h1
  · exact absurd h.last (h'.before r h1)
  · exact h1
  · exact absurd h'.last (h.before r' h1)

/-- Which numbers lie in a line. -/
structure Fits (L : Nat → It) (n : Nat) (S : St) : Prop where
  out : ∀ i, i < n → -1073741824 ≤ S.out i ∧ S.out i ≤ 1073741824
  within : ∀ i, i < n → S.fz i = true → (L i).clamp (S.out i) = S.out i
theorem raw_bd (i : Nat) : -1073741824 ≤ raw L g n R first S i ∧ raw L g n R first S i ≤ 1073741824 := hold_bd _
theorem len_bd (hL : ∀ i, i < n → (L i).Ok) {i : Nat} (hi : i < n) : -1073741824 ≤ len L g n R first S i ∧ len L g n R first S i ≤ 1073741824 := It.clamp_bd (hL i hi) (raw_bd i)
theorem st_fits (hL : ∀ i, i < n → (L i).Ok) : ∀ r, Fits L n (st L g n R first r)
  | 0 => by
    refine ⟨fun i hi => ?_, fun i hi hz => ?_⟩
    · have := It.wish_bd (hL i hi)
      show -1073741824 ≤ (if (L i).stiff g = true then (L i).wish else 0) ∧ (if (L i).stiff g = true then (L i).wish else 0) ≤ 1073741824
      split <;> omega
    · have hz : (L i).stiff g = true := hz
      show (L i).clamp (if (L i).stiff g = true then (L i).wish else 0) = (if (L i).stiff g = true then (L i).wish else 0)
      rw [if_pos hz]
      exact It.clamp_clamp _ _
  | r + 1 => by
    have ih := st_fits hL r
    generalize hS : st L g n R first r = S at ih
    have e : st L g n R first (r + 1) = step L g n R first S := by rw [← hS]; rfl
    rw [e]
    refine ⟨fun i hi => ?_, fun i hi hz => ?_⟩
    · have h1 := ih.out i hi
      have h2 := len_bd (g := g) (R := R) (first := first) (S := S) hL hi
      unfold step
      dsimp only
      split <;> omega
    · unfold step at hz ⊢
      dsimp only at hz ⊢
      by_cases hc : S.fz i = false ∧ frz (br L g n R first S i) (brs L g n R first S) = true
      · rw [if_pos hc]; exact It.clamp_clamp _ _
      · rw [if_neg hc]
        refine ih.within i hi ?_
        cases hzi : S.fz i with
        | true => rfl
        | false =>
          rw [hzi] at hz
          exact absurd ⟨hzi, by simpa using hz⟩ hc
theorem used_bd (hL : ∀ i, i < n → (L i).Ok) (hS : Fits L n S) {k : Nat} (hk : k ≤ n) : -2147483648 * (k : Int) ≤ used L S k ∧ used L S k ≤ 2147483648 * (k : Int) := by
  refine sm_bd _ 2147483648 k fun i hi => ?_
  have h1 := (hL i (by omega)).margin
  have h2 := (hL i (by omega)).base
  have h3 := hS.out i (by omega)
  split <;> omega
theorem facs_bd (hL : ∀ i, i < n → (L i).Ok) {k : Nat} (hk : k ≤ n) : 0 ≤ facs L g S k ∧ facs L g S k ≤ 1073741824 * (k : Int) := by
  constructor
  · refine sm_nonneg fun i hi => ?_
    have := It.fac_bd (hL i (by omega)) g
    split <;> omega
  · refine sm_le fun i hi => ?_
    have := It.fac_bd (hL i (by omega)) g
    split <;> omega
theorem wF_bd (hL : ∀ i, i < n → (L i).Ok) {i : Nat} (hi : i < n) : 0 ≤ wF L g S i ∧ wF L g S i ≤ 1073741824 := by
  have := It.wei_bd (hL i hi) g
  unfold wF; split <;> omega
theorem br_bd (hL : ∀ i, i < n → (L i).Ok) {i : Nat} (hi : i < n) : -2147483648 ≤ br L g n R first S i ∧ br L g n R first S i ≤ 2147483648 := by
  have h1 := len_bd (g := g) (R := R) (first := first) (S := S) hL hi
  have h2 := raw_bd (L := L) (g := g) (n := n) (R := R) (first := first) (S := S) i
  unfold br; split <;> omega
theorem share_bd {i : Nat} (hi : i < n) : -1073741824 ≤ share L g n R first S i ∧ share L g n R first S i ≤ 1073741824 := deal_abs _ _ _ hi
end Fx

end Go.Proofs.Ytndpblgedpdjdaa
