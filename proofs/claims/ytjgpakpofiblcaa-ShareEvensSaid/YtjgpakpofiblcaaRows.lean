/-
  No cell of these rows narrows 'for every input' (looked for: loops, veiled, ifaces, maps, wideKeys, modest, calm, conditions, laid).
  DERIVED. THE GIVEN ROWS OF THIS SEAT. 6 by the template 'for every input the law returns true; each argument reads behind the call as it read before'; 0 by the template 'total and deterministic' (their statements: YtjgpakpofiblcaaTotals.lean).
  GIVEN WITH THE SEED: the statements are not yours to turn. If you find one false, say at which input.
  Laid BY PROGRAM, IN A SANDBOX (cutbox-rows.mjs): the forced cells as the released guide's own fill.sh prints them over the translation b52537c9bf7069b0… (all of the seat's roots in one cut). By AI agents, Wed Nov 11 2026. No macro, syntax, notation, axiom, sorry.
-/
import Derived.Test.YtjgpakpofiblcaaChecked
import GoSem.Claim
import GoSem.ClaimJoined
import GoSem.ClaimMapViews
import Derived.JoinedTies
import Derived.KernelRfl
namespace Go.Proofs.Ytjgpakpofiblcaa
/- THE CELL 'sum', in the pinned program and in every row, IS THE sha256 OF THE DUMP (.gsa) THAT YtjgpakpofiblcaaProg.lean LOADS. Nothing in Lean hashes anything: it is a label: what it is worth is what the hold of that sum in a sandbox is worth. -/
noncomputable def Try.pinned : Pinned := { name := "ytjgpakpofiblcaa", sum := "b52537c9bf7069b0875d22c8d5defbab0db67009de70be57dfb1035e9408c5e7", checked := Try.checked }
namespace Rows
def none {H : Type} : Left H := { results := [], args := [] }

/-- 'wainscotlaw02.ShareDeals': WHATEVER THE INPUT: true; the input reads as it did. -/
def shareDealsSpec : ChangeSpec := { name := "shareDeals", fn := fun _ => fun
  | [d1, d2] => { results := [.lit (.bool true)], args := [d1, d2] }
  | _ => none }
def shareDealsRow : OpenClaim := { program := "ytjgpakpofiblcaa", sum := "b52537c9bf7069b0875d22c8d5defbab0db67009de70be57dfb1035e9408c5e7", func := "wainscot/wainscotlaw02.ShareDeals", spec := "shareDeals", unfollowed := true, recurses := true, apart := false }
def ShareDealsSaid : Prop := shareDealsRow.holds Try.pinned (OpenSpec.ofChange shareDealsSpec)

/-- ITS FALSE NEIGHBOUR: 'it returns false'. Refute it at one input. -/
def shareDealsWrong : ChangeSpec := { name := "shareDeals", fn := fun _ => fun
  | [d1, d2] => { results := [.lit (.bool false)], args := [d1, d2] }
  | _ => none }
def ShareDealsWrongFalsely : Prop := shareDealsRow.holds Try.pinned (OpenSpec.ofChange shareDealsWrong)

/-- 'wainscotlaw02.ShareWhole': WHATEVER THE INPUT: true; the input reads as it did. -/
def shareWholeSpec : ChangeSpec := { name := "shareWhole", fn := fun _ => fun
  | [d1, d2] => { results := [.lit (.bool true)], args := [d1, d2] }
  | _ => none }
def shareWholeRow : OpenClaim := { program := "ytjgpakpofiblcaa", sum := "b52537c9bf7069b0875d22c8d5defbab0db67009de70be57dfb1035e9408c5e7", func := "wainscot/wainscotlaw02.ShareWhole", spec := "shareWhole", unfollowed := true, recurses := true, apart := false }
def ShareWholeSaid : Prop := shareWholeRow.holds Try.pinned (OpenSpec.ofChange shareWholeSpec)

/-- ITS FALSE NEIGHBOUR: 'it returns false'. Refute it at one input. -/
def shareWholeWrong : ChangeSpec := { name := "shareWhole", fn := fun _ => fun
  | [d1, d2] => { results := [.lit (.bool false)], args := [d1, d2] }
  | _ => none }
def ShareWholeWrongFalsely : Prop := shareWholeRow.holds Try.pinned (OpenSpec.ofChange shareWholeWrong)

/-- 'wainscotlaw02.ShareNear': WHATEVER THE INPUT: true; the input reads as it did. -/
def shareNearSpec : ChangeSpec := { name := "shareNear", fn := fun _ => fun
  | [d1, d2] => { results := [.lit (.bool true)], args := [d1, d2] }
  | _ => none }
def shareNearRow : OpenClaim := { program := "ytjgpakpofiblcaa", sum := "b52537c9bf7069b0875d22c8d5defbab0db67009de70be57dfb1035e9408c5e7", func := "wainscot/wainscotlaw02.ShareNear", spec := "shareNear", unfollowed := true, recurses := true, apart := false }
def ShareNearSaid : Prop := shareNearRow.holds Try.pinned (OpenSpec.ofChange shareNearSpec)

/-- ITS FALSE NEIGHBOUR: 'it returns false'. Refute it at one input. -/
def shareNearWrong : ChangeSpec := { name := "shareNear", fn := fun _ => fun
  | [d1, d2] => { results := [.lit (.bool false)], args := [d1, d2] }
  | _ => none }
def ShareNearWrongFalsely : Prop := shareNearRow.holds Try.pinned (OpenSpec.ofChange shareNearWrong)

/-- 'wainscotlaw02.ShareOrder': WHATEVER THE INPUT: true; the input reads as it did. -/
def shareOrderSpec : ChangeSpec := { name := "shareOrder", fn := fun _ => fun
  | [d1, d2, d3, d4] => { results := [.lit (.bool true)], args := [d1, d2, d3, d4] }
  | _ => none }
def shareOrderRow : OpenClaim := { program := "ytjgpakpofiblcaa", sum := "b52537c9bf7069b0875d22c8d5defbab0db67009de70be57dfb1035e9408c5e7", func := "wainscot/wainscotlaw02.ShareOrder", spec := "shareOrder", unfollowed := true, recurses := true, apart := false }
def ShareOrderSaid : Prop := shareOrderRow.holds Try.pinned (OpenSpec.ofChange shareOrderSpec)

/-- ITS FALSE NEIGHBOUR: 'it returns false'. Refute it at one input. -/
def shareOrderWrong : ChangeSpec := { name := "shareOrder", fn := fun _ => fun
  | [d1, d2, d3, d4] => { results := [.lit (.bool false)], args := [d1, d2, d3, d4] }
  | _ => none }
def ShareOrderWrongFalsely : Prop := shareOrderRow.holds Try.pinned (OpenSpec.ofChange shareOrderWrong)

/-- 'wainscotlaw02.ShareTurned': WHATEVER THE INPUT: true; the input reads as it did. -/
def shareTurnedSpec : ChangeSpec := { name := "shareTurned", fn := fun _ => fun
  | [d1, d2] => { results := [.lit (.bool true)], args := [d1, d2] }
  | _ => none }
def shareTurnedRow : OpenClaim := { program := "ytjgpakpofiblcaa", sum := "b52537c9bf7069b0875d22c8d5defbab0db67009de70be57dfb1035e9408c5e7", func := "wainscot/wainscotlaw02.ShareTurned", spec := "shareTurned", unfollowed := true, recurses := true, apart := false }
def ShareTurnedSaid : Prop := shareTurnedRow.holds Try.pinned (OpenSpec.ofChange shareTurnedSpec)

/-- ITS FALSE NEIGHBOUR: 'it returns false'. Refute it at one input. -/
def shareTurnedWrong : ChangeSpec := { name := "shareTurned", fn := fun _ => fun
  | [d1, d2] => { results := [.lit (.bool false)], args := [d1, d2] }
  | _ => none }
def ShareTurnedWrongFalsely : Prop := shareTurnedRow.holds Try.pinned (OpenSpec.ofChange shareTurnedWrong)

/-- 'wainscotlaw02.ShareEvens': WHATEVER THE INPUT: true; the input reads as it did. -/
def shareEvensSpec : ChangeSpec := { name := "shareEvens", fn := fun _ => fun
  | [d1, d2, d3] => { results := [.lit (.bool true)], args := [d1, d2, d3] }
  | _ => none }
def shareEvensRow : OpenClaim := { program := "ytjgpakpofiblcaa", sum := "b52537c9bf7069b0875d22c8d5defbab0db67009de70be57dfb1035e9408c5e7", func := "wainscot/wainscotlaw02.ShareEvens", spec := "shareEvens", unfollowed := true, recurses := true, apart := false }
def ShareEvensSaid : Prop := shareEvensRow.holds Try.pinned (OpenSpec.ofChange shareEvensSpec)

/-- ITS FALSE NEIGHBOUR: 'it returns false'. Refute it at one input. -/
def shareEvensWrong : ChangeSpec := { name := "shareEvens", fn := fun _ => fun
  | [d1, d2, d3] => { results := [.lit (.bool false)], args := [d1, d2, d3] }
  | _ => none }
def ShareEvensWrongFalsely : Prop := shareEvensRow.holds Try.pinned (OpenSpec.ofChange shareEvensWrong)

/- THE SECOND FORM. 'bulk': how many values and letters a reading holds, each counted each time it is reached (what is shared counts as often as it is met; a slice's spare places count too). A statement '..UptoSaid' is the law's where the arguments, and the package variables that the reading takes, are together of bulk at most 1048576: NARROWER than '..Said'. Prove '..Said' where nothing that the law and all that it calls make is longer than what came in: it says more and counts as full. Else prove '..UptoSaid'. A law counts once. -/
mutual
def uptoBulk {H : Type} : DataW H → Nat
  | .lit (.string bytes) => bytes.length + 1
  | .lit _ => 1
  | .nil => 1
  | .ptr d => uptoBulk d + 1
  | .slice elems spare => uptoBulkAll elems + uptoBulkAll spare + 1
  | .agg parts => uptoBulkAll parts + 1
  | .iface _ d => uptoBulk d + 1
  | .map entries => uptoBulkEntries entries + 1
  | .held _ => 1
def uptoBulkAll {H : Type} : List (DataW H) → Nat
  | [] => 0
  | d :: r => uptoBulk d + uptoBulkAll r
def uptoBulkEntries {H : Type} : List (Lit × DataW H) → Nat
  | [] => 0
  | x :: r => uptoBulkEntry x + uptoBulkEntries r
def uptoBulkEntry {H : Type} : Lit × DataW H → Nat
  | (.string bytes, d) => bytes.length + uptoBulk d + 1
  | (_, d) => uptoBulk d + 1
 end
def uptoSmall : (H : Type) → List (DataW H) → Bool := fun _ ds => decide (uptoBulkAll ds ≤ 1048576)
def OpenSpec.upto (s : _root_.Go.ChangeSpec) : _root_.Go.OpenSpec := { _root_.Go.OpenSpec.ofChange s with cond := some uptoSmall }

/-- 'wainscotlaw02.ShareDeals', WHERE WHAT IT READS IS OF BULK AT MOST 1048576: true; the input reads as it did. -/
def shareDealsUptoRow : OpenClaim := { program := "ytjgpakpofiblcaa", sum := "b52537c9bf7069b0875d22c8d5defbab0db67009de70be57dfb1035e9408c5e7", func := "wainscot/wainscotlaw02.ShareDeals", spec := "shareDeals", unfollowed := true, recurses := true, apart := false, narrowed := true }
def ShareDealsUptoSaid : Prop := shareDealsUptoRow.holds Try.pinned (OpenSpec.upto shareDealsSpec)

/-- 'wainscotlaw02.ShareWhole', WHERE WHAT IT READS IS OF BULK AT MOST 1048576: true; the input reads as it did. -/
def shareWholeUptoRow : OpenClaim := { program := "ytjgpakpofiblcaa", sum := "b52537c9bf7069b0875d22c8d5defbab0db67009de70be57dfb1035e9408c5e7", func := "wainscot/wainscotlaw02.ShareWhole", spec := "shareWhole", unfollowed := true, recurses := true, apart := false, narrowed := true }
def ShareWholeUptoSaid : Prop := shareWholeUptoRow.holds Try.pinned (OpenSpec.upto shareWholeSpec)

/-- 'wainscotlaw02.ShareNear', WHERE WHAT IT READS IS OF BULK AT MOST 1048576: true; the input reads as it did. -/
def shareNearUptoRow : OpenClaim := { program := "ytjgpakpofiblcaa", sum := "b52537c9bf7069b0875d22c8d5defbab0db67009de70be57dfb1035e9408c5e7", func := "wainscot/wainscotlaw02.ShareNear", spec := "shareNear", unfollowed := true, recurses := true, apart := false, narrowed := true }
def ShareNearUptoSaid : Prop := shareNearUptoRow.holds Try.pinned (OpenSpec.upto shareNearSpec)

/-- 'wainscotlaw02.ShareOrder', WHERE WHAT IT READS IS OF BULK AT MOST 1048576: true; the input reads as it did. -/
def shareOrderUptoRow : OpenClaim := { program := "ytjgpakpofiblcaa", sum := "b52537c9bf7069b0875d22c8d5defbab0db67009de70be57dfb1035e9408c5e7", func := "wainscot/wainscotlaw02.ShareOrder", spec := "shareOrder", unfollowed := true, recurses := true, apart := false, narrowed := true }
def ShareOrderUptoSaid : Prop := shareOrderUptoRow.holds Try.pinned (OpenSpec.upto shareOrderSpec)

/-- 'wainscotlaw02.ShareTurned', WHERE WHAT IT READS IS OF BULK AT MOST 1048576: true; the input reads as it did. -/
def shareTurnedUptoRow : OpenClaim := { program := "ytjgpakpofiblcaa", sum := "b52537c9bf7069b0875d22c8d5defbab0db67009de70be57dfb1035e9408c5e7", func := "wainscot/wainscotlaw02.ShareTurned", spec := "shareTurned", unfollowed := true, recurses := true, apart := false, narrowed := true }
def ShareTurnedUptoSaid : Prop := shareTurnedUptoRow.holds Try.pinned (OpenSpec.upto shareTurnedSpec)

/-- 'wainscotlaw02.ShareEvens', WHERE WHAT IT READS IS OF BULK AT MOST 1048576: true; the input reads as it did. -/
def shareEvensUptoRow : OpenClaim := { program := "ytjgpakpofiblcaa", sum := "b52537c9bf7069b0875d22c8d5defbab0db67009de70be57dfb1035e9408c5e7", func := "wainscot/wainscotlaw02.ShareEvens", spec := "shareEvens", unfollowed := true, recurses := true, apart := false, narrowed := true }
def ShareEvensUptoSaid : Prop := shareEvensUptoRow.holds Try.pinned (OpenSpec.upto shareEvensSpec)

end Rows
end Go.Proofs.Ytjgpakpofiblcaa
