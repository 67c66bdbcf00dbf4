/- Tokens of a text, plain: what comes next in a list of bytes, and all that come. -/
import Derived.Test.YtmicgfpiknibhaaTextPlain
namespace Go.Proofs.Ytmicgfpiknibhaa

/-- May a name begin, go on, with a byte; does a byte part tokens? -/
def isB (c : UInt8) : Bool := (decide (97 ≤ c.toNat) && decide (c.toNat ≤ 122)) || (decide (65 ≤ c.toNat) && decide (c.toNat ≤ 90)) || decide (c.toNat = 95) || decide (128 ≤ c.toNat)
def isG (c : UInt8) : Bool := isB c || isD c || decide (c.toNat = 45)
def isS (c : UInt8) : Bool := decide (c.toNat = 32) || decide (c.toNat = 9) || decide (c.toNat = 10) || decide (c.toNat = 12) || decide (c.toNat = 13)
/-- How many bytes such as these a list begins with. -/
def runL (p : UInt8 → Bool) : List UInt8 → Nat
  | [] => 0
  | c :: t => if p c then runL p t + 1 else 0
/-- Does a name go on behind its dash? Does a name begin a list? -/
def dashed : List UInt8 → Bool
  | [] => false
  | d :: _ => isB d || decide (d.toNat = 45)
def starts : List UInt8 → Bool
  | [] => false
  | c :: t => if c.toNat = 45 then dashed t else isB c
/-- Does a list begin with this byte? -/
def heads (n : Nat) : List UInt8 → Bool
  | [] => false
  | c :: _ => decide (c.toNat = n)
/-- The bytes of a comment's rest, with its end; or all. -/
def behind : List UInt8 → Nat
  | [] => 0
  | c :: t => if c.toNat = 42 ∧ heads 47 t = true then 2 else behind t + 1

structure Tk where
  k : Int
  x : List UInt8
  n : Int
  deriving DecidableEq

/-- The kind of a byte that stands by itself; 0: it is none of these. -/
def signK (n : Nat) : Nat := if n = 58 then 10 else if n = 59 then 11 else if n = 44 then 12 else if n = 40 then 13 else if n = 41 then 14 else if n = 91 then 15 else if n = 93 then 16 else if n = 123 then 17 else if n = 125 then 18 else 0

/-- A byte that goes on a string of quote q. -/
def qp (q : Nat) (d : UInt8) : Bool := !(decide (d.toNat = q)) && !(decide (d.toNat = 10))
/-- A string behind its quote q: the token, and how many bytes it has, the quote's too. -/
def quoted (q : Nat) (t : List UInt8) : Tk × Nat :=
  let e := runL (qp q) t
  match t.drop e with
  | [] => (⟨5, t.take e, 0⟩, 1 + e)
  | d :: _ => if d.toNat = 10 then (⟨6, t.take e, 0⟩, 1 + e) else (⟨5, t.take e, 0⟩, 2 + e)
/-- A number of n bytes with what stands behind it. -/
def measured (l : List UInt8) (n : Nat) : Tk × Nat :=
  let r := l.drop n
  if heads 37 r = true then (⟨8, [], worth (l.take n)⟩, n + 1)
  else if starts r = true then (⟨9, r.take (runL isG r), worth (l.take n)⟩, n + runL isG r)
  else (⟨7, [], worth (l.take n)⟩, n)
/-- A name. -/
def named (l : List UInt8) : Tk × Nat :=
  if heads 40 (l.drop (runL isG l)) = true then (⟨2, l.take (runL isG l), 0⟩, runL isG l + 1) else (⟨1, l.take (runL isG l), 0⟩, runL isG l)

/-- What comes next: a token or none, and how many bytes. -/
def oneT : List UInt8 → Option Tk × Nat
  | [] => (none, 0)
  | c :: t =>
    if c.toNat = 47 ∧ heads 42 t = true then (none, 2 + behind (t.drop 1))
    else if isS c = true then (some ⟨20, [], 0⟩, runL isS (c :: t))
    else if c.toNat = 34 ∨ c.toNat = 39 then (some (quoted c.toNat t).1, (quoted c.toNat t).2)
    else if 0 < num (c :: t) then (some (measured (c :: t) (num (c :: t))).1, (measured (c :: t) (num (c :: t))).2)
    else if c.toNat = 35 ∧ 0 < runL isG t then (some ⟨4, t.take (runL isG t), 0⟩, 1 + runL isG t)
    else if c.toNat = 64 ∧ starts t = true then (some ⟨3, t.take (runL isG t), 0⟩, 1 + runL isG t)
    else if starts (c :: t) = true then (some (named (c :: t)).1, (named (c :: t)).2)
    else if 0 < signK c.toNat then (some ⟨signK c.toNat, [], 0⟩, 1)
    else (some ⟨19, [c], 0⟩, 1)

/-- All tokens. -/
def cutN : Nat → List UInt8 → List Tk
  | 0, _ => []
  | m + 1, l => if l = [] then [] else (oneT l).1.toList ++ cutN m (l.drop (oneT l).2)
def cut (l : List UInt8) : List Tk := cutN l.length l

theorem runL_le (p : UInt8 → Bool) : ∀ l, runL p l ≤ l.length
  | [] => Nat.le_refl _
  | c :: t => by unfold runL; have := runL_le p t; split <;> simp <;> omega
theorem behind_le : ∀ l, behind l ≤ l.length
  | [] => Nat.le_refl _
  | c :: t => by
    unfold behind
    have := behind_le t
    split
    · rename_i h
      cases t with
      | nil => simp [heads] at h
      | cons d u => simp
    · simp; omega
theorem num_le (l : List UInt8) : num l ≤ l.length := by
  unfold num
  have h1 := dgs_le (l.drop (sgn l))
  have h2 := dgs_le (l.drop (sgn l + dgs (l.drop (sgn l)) + 1))
  rw [List.length_drop] at h1 h2
  have h3 : sgn l ≤ l.length := by unfold sgn; split <;> (try split) <;> simp
  dsimp only
  split
  · rename_i h
    have : 0 < l.length - (sgn l + dgs (l.drop (sgn l)) + 1) := by omega
    omega
  · split <;> omega
theorem starts_run {l : List UInt8} (h : starts l = true) : 0 < runL isG l := by
  cases l with
  | nil => cases h
  | cons c t =>
    rw [starts] at h
    rw [runL]
    have hg : isG c = true := by
      unfold isG
      by_cases h45 : c.toNat = 45
      · simp [h45]
      · rw [if_neg h45] at h; simp [h]
    rw [if_pos hg]
    omega
theorem quoted_bd (q : Nat) (t : List UInt8) : 1 ≤ (quoted q t).2 ∧ (quoted q t).2 ≤ t.length + 1 := by
  have h1 := runL_le (qp q) t
  unfold quoted
  dsimp only
  split
  · constructor <;> dsimp only <;> omega
  · rename_i d u hd
    have h2 : 0 < (t.drop (runL (qp q) t)).length := by rw [hd]; simp
    rw [List.length_drop] at h2
    split <;> (constructor <;> dsimp only <;> omega)
theorem measured_bd (l : List UInt8) (n : Nat) (hn : n ≤ l.length) : n ≤ (measured l n).2 ∧ (measured l n).2 ≤ l.length := by
  unfold measured
  dsimp only
  have h1 := runL_le isG (l.drop n)
  rw [List.length_drop] at h1
  split
  · rename_i h
    have h2 : 0 < (l.drop n).length := by cases hd : l.drop n with | nil => rw [hd] at h; cases h | cons a b => simp
    rw [List.length_drop] at h2
    constructor <;> dsimp only <;> omega
  · split <;> (constructor <;> dsimp only <;> omega)
theorem named_bd (l : List UInt8) (h : starts l = true) : 1 ≤ (named l).2 ∧ (named l).2 ≤ l.length := by
  have h0 := starts_run h
  have h1 := runL_le isG l
  unfold named
  split
  · rename_i h
    have h2 : 0 < (l.drop (runL isG l)).length := by cases hd : l.drop (runL isG l) with | nil => rw [hd] at h; cases h | cons a b => simp
    rw [List.length_drop] at h2
    constructor <;> dsimp only <;> omega
  · constructor <;> dsimp only <;> omega
/-- Each step goes on, and not beyond the end. -/
theorem oneT_bd (l : List UInt8) (h : l ≠ []) : 1 ≤ (oneT l).2 ∧ (oneT l).2 ≤ l.length := by
  cases l with
  | nil => exact absurd rfl h
  | cons c t =>
    rw [oneT]
    split
    · have h1 := behind_le (t.drop 1)
      rename_i h2
      have h3 : 0 < t.length := by cases t with | nil => simp [heads] at h2 | cons a b => simp
      rw [List.length_drop] at h1
      exact ⟨by show 1 ≤ 2 + behind (t.drop 1); omega, by show 2 + behind (t.drop 1) ≤ t.length + 1; omega⟩
    · split
      · rename_i hs
        have h1 := runL_le isS (c :: t)
        have h2 : 0 < runL isS (c :: t) := by rw [runL, if_pos hs]; omega
        exact ⟨h2, h1⟩
      · split
        · have := quoted_bd c.toNat t; simpa using this
        · split
          · rename_i hn
            have := measured_bd (c :: t) (num (c :: t)) (num_le _)
            exact ⟨by dsimp only; omega, this.2⟩
          · split
            · have h1 := runL_le isG t
              constructor <;> simp <;> omega
            · split
              · have h1 := runL_le isG t
                constructor <;> simp <;> omega
              · split
                · rename_i hst
                  exact named_bd _ hst
                · split <;> (constructor <;> simp)
theorem cutN_more : ∀ (m k : Nat) (l : List UInt8), l.length ≤ m → l.length ≤ k → cutN m l = cutN k l
  | 0, k, l, hm, hk => by
    have e : l = [] := List.length_eq_zero_iff.1 (by omega)
    subst e
    cases k <;> simp [cutN]
  | m + 1, 0, l, hm, hk => by
    have e : l = [] := List.length_eq_zero_iff.1 (by omega)
    subst e
    simp [cutN]
  | m + 1, k + 1, l, hm, hk => by
    unfold cutN
    by_cases h : l = []
    · rw [if_pos h, if_pos h]
    · rw [if_neg h, if_neg h]
      have h1 := oneT_bd l h
      rw [cutN_more m k (l.drop (oneT l).2) (by rw [List.length_drop]; omega) (by rw [List.length_drop]; omega)]
theorem cut_nil : cut [] = [] := rfl
theorem cut_step {l : List UInt8} (h : l ≠ []) : cut l = (oneT l).1.toList ++ cut (l.drop (oneT l).2) := by
  have h1 := oneT_bd l h
  unfold cut
  cases hl : l.length with
  | zero => exact absurd (List.length_eq_zero_iff.1 hl) h
  | succ m =>
    rw [cutN, if_neg h]
    congr 1
    exact cutN_more _ _ _ (by rw [List.length_drop]; omega) (Nat.le_refl _)

end Go.Proofs.Ytmicgfpiknibhaa
