/- Numbers' texts as lists of bytes, plain. -/
import Derived.Test.YtmicgfpiknibhaaHold
namespace Go.Proofs.Ytmicgfpiknibhaa

/-- A digit. -/
def isD (c : UInt8) : Bool := decide (48 ≤ c.toNat) && decide (c.toNat ≤ 57)
/-- How many digits a list begins with. -/
def dgs : List UInt8 → Nat
  | [] => 0
  | c :: t => if isD c then dgs t + 1 else 0
theorem dgs_le : ∀ l, dgs l ≤ l.length
  | [] => Nat.le_refl _
  | c :: t => by unfold dgs; have := dgs_le t; split <;> simp <;> omega
theorem isD_iff (c : UInt8) : isD c = true ↔ 48 ≤ c.toNat ∧ c.toNat ≤ 57 := by simp [isD]

theorem len_data (s : ByteArray) : s.data.toList.length = s.size := by rw [Array.length_toList]; rfl
theorem drop_at (s : ByteArray) (k : Nat) (h : k < s.size) : s.data.toList.drop k = s[k] :: s.data.toList.drop (k + 1) := by
  have := List.drop_eq_getElem_cons (i := k) (l := s.data.toList) (by simpa using h)
  rw [this]; rfl
theorem drop_end (s : ByteArray) (k : Nat) (h : s.size ≤ k) : s.data.toList.drop k = [] := List.drop_eq_nil_of_le (by simpa using h)
theorem dgs_at (s : ByteArray) (k : Nat) (h : k < s.size) : dgs (s.data.toList.drop k) = if isD s[k] then dgs (s.data.toList.drop (k + 1)) + 1 else 0 := by
  rw [drop_at s k h, dgs]
theorem dgs_end (s : ByteArray) (k : Nat) (h : s.size ≤ k) : dgs (s.data.toList.drop k) = 0 := by rw [drop_end s k h]; rfl
theorem dgs_drop (s : ByteArray) (k : Nat) (h : k ≤ s.size) : k + dgs (s.data.toList.drop k) ≤ s.size := by
  have := dgs_le (s.data.toList.drop k)
  rw [List.length_drop] at this
  have e := len_data s
  omega

/-- Where the digits begin. -/
def sgn : List UInt8 → Nat
  | [] => 0
  | c :: _ => if c.toNat = 43 ∨ c.toNat = 45 then 1 else 0
/-- What is read behind the sign: whether the text goes on with a point. -/
def dotted : List UInt8 → Bool
  | [] => false
  | c :: _ => decide (c.toNat = 46)
/-- How many bytes a number's text has that begins a list; 0: none does. -/
def num (l : List UInt8) : Nat :=
  let a := sgn l
  let n := dgs (l.drop a)
  if dotted (l.drop (a + n)) = true ∧ 0 < dgs (l.drop (a + n + 1)) then a + n + 1 + dgs (l.drop (a + n + 1)) else if n = 0 then 0 else a + n

/-- A byte's step in the worth: what is gathered, and how many places are left (-1: no point yet). -/
def wstep (q : Int × Int) (c : UInt8) : Int × Int :=
  let left := if c.toNat = 46 then 3 else q.2
  if isD c = false ∨ left = 0 then (q.1, left)
  else (if 1125899906842624 < q.1 * 10 + (c.toNat - 48) then 1125899906842624 else q.1 * 10 + (c.toNat - 48), if 0 < left then left - 1 else left)
def wgather (l : List UInt8) : Int × Int := l.foldl wstep (0, -1)
theorem wgather_snoc (l : List UInt8) (c : UInt8) : wgather (l ++ [c]) = wstep (wgather l) c := by simp [wgather, List.foldl_append]
theorem wstep_dot (q : Int × Int) (c : UInt8) (h : c.toNat = 46) : wstep q c = (q.1, 3) := by
  have : isD c = false := by simp [isD, h]
  unfold wstep; simp [this, h]
theorem wstep_other (q : Int × Int) (c : UInt8) (h : ¬ c.toNat = 46) (hd : isD c = false) : wstep q c = q := by
  unfold wstep; simp [hd, h]
theorem isD_not_dot {c : UInt8} (h : isD c = true) : ¬ c.toNat = 46 := by have := (isD_iff c).1 h; omega
theorem wstep_full (q : Int × Int) (c : UInt8) (h : isD c = true) (hq : q.2 = 0) : wstep q c = q := by
  unfold wstep; simp only [if_neg (isD_not_dot h), hq, or_true, if_true]; exact Prod.ext rfl hq.symm
theorem wstep_add (q : Int × Int) (c : UInt8) (h : isD c = true) (hq : q.2 ≠ 0) :
    wstep q c = (if 1125899906842624 < q.1 * 10 + (c.toNat - 48) then 1125899906842624 else q.1 * 10 + (c.toNat - 48), if 0 < q.2 then q.2 - 1 else q.2) := by
  unfold wstep; simp only [if_neg (isD_not_dot h), h, hq, or_self, if_false, Bool.true_eq_false]
theorem wstep_bd (q : Int × Int) (c : UInt8) (h1 : 0 ≤ q.1) (h2 : q.1 ≤ 1125899906842624) (h3 : -1 ≤ q.2) (h4 : q.2 ≤ 3) :
    0 ≤ (wstep q c).1 ∧ (wstep q c).1 ≤ 1125899906842624 ∧ -1 ≤ (wstep q c).2 ∧ (wstep q c).2 ≤ 3 := by
  by_cases hd : isD c = true
  · have hb := (isD_iff c).1 hd
    by_cases hq : q.2 = 0
    · rw [wstep_full q c hd hq]; exact ⟨h1, h2, h3, h4⟩
    · rw [wstep_add q c hd hq]
      refine ⟨?_, ?_, ?_, ?_⟩ <;> simp only <;> split <;> omega
  · have hd : isD c = false := by simpa using hd
    by_cases h46 : c.toNat = 46
    · rw [wstep_dot q c h46]; exact ⟨h1, h2, by show (-1:Int) ≤ 3; decide, by show (3:Int) ≤ 3; decide⟩
    · rw [wstep_other q c h46 hd]; exact ⟨h1, h2, h3, h4⟩
theorem wfold_bd : ∀ (l : List UInt8) (q : Int × Int), 0 ≤ q.1 → q.1 ≤ 1125899906842624 → -1 ≤ q.2 → q.2 ≤ 3 →
    0 ≤ (l.foldl wstep q).1 ∧ (l.foldl wstep q).1 ≤ 1125899906842624 ∧ -1 ≤ (l.foldl wstep q).2 ∧ (l.foldl wstep q).2 ≤ 3
  | [], q, h1, h2, h3, h4 => ⟨h1, h2, h3, h4⟩
  | c :: t, q, h1, h2, h3, h4 => by
    have h := wstep_bd q c h1 h2 h3 h4
    exact wfold_bd t _ h.1 h.2.1 h.2.2.1 h.2.2.2
theorem wgather_bd (l : List UInt8) : 0 ≤ (wgather l).1 ∧ (wgather l).1 ≤ 1125899906842624 ∧ -1 ≤ (wgather l).2 ∧ (wgather l).2 ≤ 3 :=
  wfold_bd l (0, -1) (by decide) (by decide) (by decide) (by decide)

/-- Noughts for the places that are left. -/
def wtail (v left : Int) : Int := if left = 0 then v else if left = 1 then v * 10 else if left = 2 then v * 100 else v * 1000
/-- The worth of a text. -/
def worth (l : List UInt8) : Int :=
  let q := wgather l
  let v := wtail q.1 q.2
  if (l.head?.map (·.toNat)) = some 45 then hold (-v) else hold v
/-- What the reference reads. -/
def rparse (l : List UInt8) : Int × Int := if l.length = 0 ∨ num l ≠ l.length then (0, 10) else (worth l, 0)

theorem take_snoc (s : ByteArray) (k : Nat) (h : k < s.size) : s.data.toList.take (k + 1) = s.data.toList.take k ++ [s[k]] := by
  rw [List.take_succ_eq_append_getElem (by simpa using h)]; rfl

end Go.Proofs.Ytmicgfpiknibhaa
