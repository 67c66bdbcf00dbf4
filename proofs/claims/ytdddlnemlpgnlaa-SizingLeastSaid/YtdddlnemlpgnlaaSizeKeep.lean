/- Sizing: kept widths and heights. -/
import Derived.Test.YtdddlnemlpgnlaaSizeSaysH
namespace Go.Proofs.Ytdddlnemlpgnlaa

/-- A number between what two sizes say, of which the lower one counts more, and not less than what is around. -/
def keepF (hi lo : Int × Bool) (n x : Int) : Int :=
  max (if lo.2 = true then max (if hi.2 = true ∧ hi.1 < n then hi.1 else n) lo.1 else if hi.2 = true ∧ hi.1 < n then hi.1 else n) x
def Cs.keepW (c : Cs) (w : Int) : Int := keepF (c.sayW (c.n 10) (c.n 11)) (c.sayW (c.n 6) (c.n 7)) (hold w) (c.pr 3 1)
def Cs.keepH (c : Cs) (h : Int) : Int := keepF (c.sayH (c.n 12) (c.n 13)) (c.sayH (c.n 8) (c.n 9)) (hold h) (c.pr 0 2)
theorem keepF_bd {hi lo : Int × Bool} {n x : Int} (h1 : -1073741824 ≤ hi.1 ∧ hi.1 ≤ 1073741824) (h2 : -1073741824 ≤ lo.1 ∧ lo.1 ≤ 1073741824) (h3 : -1073741824 ≤ n ∧ n ≤ 1073741824) (h4 : -1073741824 ≤ x ∧ x ≤ 1073741824) :
    -1073741824 ≤ keepF hi lo n x ∧ keepF hi lo n x ≤ 1073741824 := by
  unfold keepF; split <;> split <;> omega
/-- Kept twice it stays. -/
theorem keepF_keepF (hi lo : Int × Bool) (n x : Int) : keepF hi lo (keepF hi lo n x) x = keepF hi lo n x := by
  have key : ∀ (a b n x : Int) (p q : Bool), keepF (a, p) (b, q) (keepF (a, p) (b, q) n x) x = keepF (a, p) (b, q) n x := fun a b n x p q => by
    unfold keepF
    cases p <;> cases q <;> simp <;> (repeat' split) <;> omega
  exact key hi.1 lo.1 n x hi.2 lo.2

end Go.Proofs.Ytdddlnemlpgnlaa
