/- Printed tokens, plain: their text. -/
import Derived.Test.YtmicgfpiknibhaaLexRight
namespace Go.Proofs.Ytmicgfpiknibhaa
open Go.RowKit

def sep (a b : Tk) : List UInt8 := if cut (tx a ++ tx b) = [a, b] then [] else [47, 42, 42, 47]
def sepO : Option Tk → Tk → List UInt8
  | none, _ => []
  | some a, b => sep a b
def prS : Option Tk → List Tk → List UInt8
  | _, [] => []
  | p, b :: t => sepO p b ++ (tx b ++ prS (some b) t)
def pr (l : List Tk) : List UInt8 := prS none l
def lastT : Option Tk → List Tk → Option Tk
  | p, [] => p
  | _, b :: t => lastT (some b) t
theorem prS_snoc : ∀ (l : List Tk) (p : Option Tk) (b : Tk), prS p (l ++ [b]) = prS p l ++ (sepO (lastT p l) b ++ tx b)
  | [], p, b => by simp [prS, lastT]
  | a :: t, p, b => by
    show sepO p a ++ (tx a ++ prS (some a) (t ++ [b])) = (sepO p a ++ (tx a ++ prS (some a) t)) ++ (sepO (lastT (some a) t) b ++ tx b)
    rw [prS_snoc t (some a) b]
    simp only [List.append_assoc]
theorem lastT_snoc : ∀ (l : List Tk) (p : Option Tk) (b : Tk), lastT p (l ++ [b]) = some b
  | [], _, _ => rfl
  | a :: t, _, b => lastT_snoc t (some a) b
theorem take_at {L : List Tk} {i : Nat} {t : Tk} (h : L[i]? = some t) : L.take (i + 1) = L.take i ++ [t] := by
  obtain ⟨hi, e⟩ := List.getElem?_eq_some_iff.1 h
  rw [List.take_succ_eq_append_getElem hi, e]
theorem pr_first {L : List Tk} {t : Tk} (h : L[0]? = some t) : pr (L.take (0 + 1)) = tx t := by
  rw [take_at h]; simp [pr, prS, sepO]
theorem pr_next {L : List Tk} {i : Nat} {a b : Tk} (ha : L[i]? = some a) (hb : L[i + 1]? = some b) : pr (L.take (i + 1 + 1)) = pr (L.take (i + 1)) ++ (sep a b ++ tx b) := by
  rw [take_at hb, pr, prS_snoc, take_at ha, lastT_snoc]; rfl
/-- The text put out last. -/
def lastX (L : List Tk) (i : Nat) : List UInt8 := ((lastT none (L.take i)).map tx).getD []
theorem lastX_next {L : List Tk} {i : Nat} {t : Tk} (h : L[i]? = some t) : lastX L (i + 1) = tx t := by
  unfold lastX; rw [take_at h, lastT_snoc]; rfl
def szL : List Tk → Nat
  | [] => 0
  | t :: r => (tx t).length + 4 + szL r
theorem sep_len (a b : Tk) : (sep a b).length ≤ 4 := by unfold sep; split <;> simp
theorem prS_len : ∀ (l : List Tk) (p : Option Tk), (prS p l).length ≤ szL l
  | [], _ => Nat.le_refl _
  | b :: t, p => by
    have ih := prS_len t (some b)
    have h : (sepO p b).length ≤ 4 := by
      cases p with
      | none => exact Nat.zero_le _
      | some a => exact sep_len a b
    show (sepO p b ++ (tx b ++ prS (some b) t)).length ≤ (tx b).length + 4 + szL t
    rw [List.length_append, List.length_append]
    omega
theorem szL_take : ∀ (L : List Tk) (i : Nat), szL (L.take i) ≤ szL L
  | [], i => by simp
  | t :: r, 0 => Nat.zero_le _
  | t :: r, i + 1 => by
    rw [List.take_succ_cons]
    have := szL_take r i
    show (tx t).length + 4 + szL (r.take i) ≤ (tx t).length + 4 + szL r
    omega
theorem pr_take_len (L : List Tk) (i : Nat) : (pr (L.take i)).length ≤ szL L := Nat.le_trans (prS_len _ _) (szL_take L i)
theorem szL_at : ∀ {L : List Tk} {i : Nat} {t : Tk}, L[i]? = some t → (tx t).length + 4 ≤ szL L
  | [], i, t, h => by simp at h
  | u :: r, 0, t, h => by
    obtain rfl : u = t := by simpa using h
    exact Nat.le_add_right _ _
  | u :: r, i + 1, t, h => by
    have := szL_at (L := r) (i := i) (t := t) (by simpa using h)
    show _ ≤ (tx u).length + 4 + szL r
    omega
theorem szL_len : ∀ L : List Tk, 4 * L.length ≤ szL L
  | [] => Nat.le_refl _
  | t :: r => by have := szL_len r; show 4 * (r.length + 1) ≤ (tx t).length + 4 + szL r; omega
/-- What the program prints, and its word. -/
def prOut (L : List Tk) : List UInt8 × Int := if L.all rightT = true then (if 32768 < (pr L).length then ([], 2) else (pr L, 0)) else ([], 11)
theorem all_take {L : List Tk} {i : Nat} {t : Tk} (h : L[i]? = some t) : (L.take (i + 1)).all rightT = ((L.take i).all rightT && rightT t) := by
  rw [take_at h, List.all_append]; simp
theorem not_all {L : List Tk} {i : Nat} {t : Tk} (h : L[i]? = some t) (hr : rightT t = false) : L.all rightT = false := by
  rw [Bool.eq_false_iff]
  intro ha
  have := List.all_eq_true.1 ha t (List.mem_of_getElem? h)
  rw [hr] at this; cases this

end Go.Proofs.Ytmicgfpiknibhaa
