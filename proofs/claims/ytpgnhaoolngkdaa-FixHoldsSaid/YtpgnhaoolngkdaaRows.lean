/-
  No cell of these rows narrows 'for every input' (looked for: loops, veiled, ifaces, maps, wideKeys, modest, calm, conditions, laid).
  DERIVED. THE GIVEN ROWS OF THIS SEAT. 7 by the template 'for every input the law returns true; each argument reads behind the call as it read before'; 0 by the template 'total and deterministic' (their statements: YtpgnhaoolngkdaaTotals.lean).
  GIVEN WITH THE SEED: the statements are not yours to turn. If you find one false, say at which input.
  Laid BY PROGRAM, IN A SANDBOX (cutbox-rows.mjs): the forced cells as the released guide's own fill.sh prints them over the translation e24b53298e0e6c73… (all of the seat's roots in one cut). By AI agents, Wed Nov 11 2026. No macro, syntax, notation, axiom, sorry.
-/
import Derived.Test.YtpgnhaoolngkdaaChecked
import GoSem.Claim
import GoSem.ClaimJoined
import GoSem.ClaimMapViews
import Derived.JoinedTies
import Derived.KernelRfl
namespace Go.Proofs.Ytpgnhaoolngkdaa
/- THE CELL 'sum', in the pinned program and in every row, IS THE sha256 OF THE DUMP (.gsa) THAT YtpgnhaoolngkdaaProg.lean LOADS. Nothing in Lean hashes anything: it is a label: what it is worth is what the hold of that sum in a sandbox is worth. -/
noncomputable def Try.pinned : Pinned := { name := "ytpgnhaoolngkdaa", sum := "e24b53298e0e6c73788c388e56a9b3c5c5a14be17752df2727dcd81527f5ec42", checked := Try.checked }
namespace Rows
def none {H : Type} : Left H := { results := [], args := [] }

/-- 'wainscotlaw01.FixReads': WHATEVER THE INPUT: true; the input reads as it did. -/
def fixReadsSpec : ChangeSpec := { name := "fixReads", fn := fun _ => fun
  | [d] => { results := [.lit (.bool true)], args := [d] }
  | _ => none }
def fixReadsRow : OpenClaim := { program := "ytpgnhaoolngkdaa", sum := "e24b53298e0e6c73788c388e56a9b3c5c5a14be17752df2727dcd81527f5ec42", func := "wainscot/wainscotlaw01.FixReads", spec := "fixReads", unfollowed := true, recurses := true, apart := false }
def FixReadsSaid : Prop := fixReadsRow.holds Try.pinned (OpenSpec.ofChange fixReadsSpec)

/-- ITS FALSE NEIGHBOUR: 'it returns false'. Refute it at one input. -/
def fixReadsWrong : ChangeSpec := { name := "fixReads", fn := fun _ => fun
  | [d] => { results := [.lit (.bool false)], args := [d] }
  | _ => none }
def FixReadsWrongFalsely : Prop := fixReadsRow.holds Try.pinned (OpenSpec.ofChange fixReadsWrong)

/-- 'wainscotlaw01.FixBack': WHATEVER THE INPUT: true; the input reads as it did. -/
def fixBackSpec : ChangeSpec := { name := "fixBack", fn := fun _ => fun
  | [d] => { results := [.lit (.bool true)], args := [d] }
  | _ => none }
def fixBackRow : OpenClaim := { program := "ytpgnhaoolngkdaa", sum := "e24b53298e0e6c73788c388e56a9b3c5c5a14be17752df2727dcd81527f5ec42", func := "wainscot/wainscotlaw01.FixBack", spec := "fixBack", unfollowed := true, recurses := true, apart := false }
def FixBackSaid : Prop := fixBackRow.holds Try.pinned (OpenSpec.ofChange fixBackSpec)

/-- ITS FALSE NEIGHBOUR: 'it returns false'. Refute it at one input. -/
def fixBackWrong : ChangeSpec := { name := "fixBack", fn := fun _ => fun
  | [d] => { results := [.lit (.bool false)], args := [d] }
  | _ => none }
def FixBackWrongFalsely : Prop := fixBackRow.holds Try.pinned (OpenSpec.ofChange fixBackWrong)

/-- 'wainscotlaw01.FixOrder': WHATEVER THE INPUT: true; the input reads as it did. -/
def fixOrderSpec : ChangeSpec := { name := "fixOrder", fn := fun _ => fun
  | [d1, d2, d3, d4] => { results := [.lit (.bool true)], args := [d1, d2, d3, d4] }
  | _ => none }
def fixOrderRow : OpenClaim := { program := "ytpgnhaoolngkdaa", sum := "e24b53298e0e6c73788c388e56a9b3c5c5a14be17752df2727dcd81527f5ec42", func := "wainscot/wainscotlaw01.FixOrder", spec := "fixOrder", unfollowed := true, recurses := true, apart := false }
def FixOrderSaid : Prop := fixOrderRow.holds Try.pinned (OpenSpec.ofChange fixOrderSpec)

/-- ITS FALSE NEIGHBOUR: 'it returns false'. Refute it at one input. -/
def fixOrderWrong : ChangeSpec := { name := "fixOrder", fn := fun _ => fun
  | [d1, d2, d3, d4] => { results := [.lit (.bool false)], args := [d1, d2, d3, d4] }
  | _ => none }
def FixOrderWrongFalsely : Prop := fixOrderRow.holds Try.pinned (OpenSpec.ofChange fixOrderWrong)

/-- 'wainscotlaw01.FixParts': WHATEVER THE INPUT: true; the input reads as it did. -/
def fixPartsSpec : ChangeSpec := { name := "fixParts", fn := fun _ => fun
  | [d1, d2, d3] => { results := [.lit (.bool true)], args := [d1, d2, d3] }
  | _ => none }
def fixPartsRow : OpenClaim := { program := "ytpgnhaoolngkdaa", sum := "e24b53298e0e6c73788c388e56a9b3c5c5a14be17752df2727dcd81527f5ec42", func := "wainscot/wainscotlaw01.FixParts", spec := "fixParts", unfollowed := true, recurses := true, apart := false }
def FixPartsSaid : Prop := fixPartsRow.holds Try.pinned (OpenSpec.ofChange fixPartsSpec)

/-- ITS FALSE NEIGHBOUR: 'it returns false'. Refute it at one input. -/
def fixPartsWrong : ChangeSpec := { name := "fixParts", fn := fun _ => fun
  | [d1, d2, d3] => { results := [.lit (.bool false)], args := [d1, d2, d3] }
  | _ => none }
def FixPartsWrongFalsely : Prop := fixPartsRow.holds Try.pinned (OpenSpec.ofChange fixPartsWrong)

/-- 'wainscotlaw01.FixClamps': WHATEVER THE INPUT: true; the input reads as it did. -/
def fixClampsSpec : ChangeSpec := { name := "fixClamps", fn := fun _ => fun
  | [d1, d2, d3] => { results := [.lit (.bool true)], args := [d1, d2, d3] }
  | _ => none }
def fixClampsRow : OpenClaim := { program := "ytpgnhaoolngkdaa", sum := "e24b53298e0e6c73788c388e56a9b3c5c5a14be17752df2727dcd81527f5ec42", func := "wainscot/wainscotlaw01.FixClamps", spec := "fixClamps", unfollowed := true, recurses := true, apart := false }
def FixClampsSaid : Prop := fixClampsRow.holds Try.pinned (OpenSpec.ofChange fixClampsSpec)

/-- ITS FALSE NEIGHBOUR: 'it returns false'. Refute it at one input. -/
def fixClampsWrong : ChangeSpec := { name := "fixClamps", fn := fun _ => fun
  | [d1, d2, d3] => { results := [.lit (.bool false)], args := [d1, d2, d3] }
  | _ => none }
def FixClampsWrongFalsely : Prop := fixClampsRow.holds Try.pinned (OpenSpec.ofChange fixClampsWrong)

/-- 'wainscotlaw01.FixRest': WHATEVER THE INPUT: true; the input reads as it did. -/
def fixRestSpec : ChangeSpec := { name := "fixRest", fn := fun _ => fun
  | [d1, d2] => { results := [.lit (.bool true)], args := [d1, d2] }
  | _ => none }
def fixRestRow : OpenClaim := { program := "ytpgnhaoolngkdaa", sum := "e24b53298e0e6c73788c388e56a9b3c5c5a14be17752df2727dcd81527f5ec42", func := "wainscot/wainscotlaw01.FixRest", spec := "fixRest", unfollowed := true, recurses := true, apart := false }
def FixRestSaid : Prop := fixRestRow.holds Try.pinned (OpenSpec.ofChange fixRestSpec)

/-- ITS FALSE NEIGHBOUR: 'it returns false'. Refute it at one input. -/
def fixRestWrong : ChangeSpec := { name := "fixRest", fn := fun _ => fun
  | [d1, d2] => { results := [.lit (.bool false)], args := [d1, d2] }
  | _ => none }
def FixRestWrongFalsely : Prop := fixRestRow.holds Try.pinned (OpenSpec.ofChange fixRestWrong)

/-- 'wainscotlaw01.FixHolds': WHATEVER THE INPUT: true; the input reads as it did. -/
def fixHoldsSpec : ChangeSpec := { name := "fixHolds", fn := fun _ => fun
  | [d1, d2] => { results := [.lit (.bool true)], args := [d1, d2] }
  | _ => none }
def fixHoldsRow : OpenClaim := { program := "ytpgnhaoolngkdaa", sum := "e24b53298e0e6c73788c388e56a9b3c5c5a14be17752df2727dcd81527f5ec42", func := "wainscot/wainscotlaw01.FixHolds", spec := "fixHolds", unfollowed := true, recurses := true, apart := false }
def FixHoldsSaid : Prop := fixHoldsRow.holds Try.pinned (OpenSpec.ofChange fixHoldsSpec)

/-- ITS FALSE NEIGHBOUR: 'it returns false'. Refute it at one input. -/
def fixHoldsWrong : ChangeSpec := { name := "fixHolds", fn := fun _ => fun
  | [d1, d2] => { results := [.lit (.bool false)], args := [d1, d2] }
  | _ => none }
def FixHoldsWrongFalsely : Prop := fixHoldsRow.holds Try.pinned (OpenSpec.ofChange fixHoldsWrong)

/- THE SECOND FORM. 'bulk': how many values and letters a reading holds, each counted each time it is reached (what is shared counts as often as it is met; a slice's spare places count too). A statement '..UptoSaid' is the law's where the arguments, and the package variables that the reading takes, are together of bulk at most 1048576: NARROWER than '..Said'. Prove '..Said' where nothing that the law and all that it calls make is longer than what came in: it says more and counts as full. Else prove '..UptoSaid'. A law counts once. -/
mutual
def uptoBulk {H : Type} : DataW H → Nat
  | .lit (.string bytes) => bytes.length + 1
  | .lit _ => 1
  | .nil => 1
  | .ptr d => uptoBulk d + 1
  | .slice elems spare => uptoBulkAll elems + uptoBulkAll spare + 1
  | .agg parts => uptoBulkAll parts + 1
  | .iface _ d => uptoBulk d + 1
  | .map entries => uptoBulkEntries entries + 1
  | .held _ => 1
def uptoBulkAll {H : Type} : List (DataW H) → Nat
  | [] => 0
  | d :: r => uptoBulk d + uptoBulkAll r
def uptoBulkEntries {H : Type} : List (Lit × DataW H) → Nat
  | [] => 0
  | x :: r => uptoBulkEntry x + uptoBulkEntries r
def uptoBulkEntry {H : Type} : Lit × DataW H → Nat
  | (.string bytes, d) => bytes.length + uptoBulk d + 1
  | (_, d) => uptoBulk d + 1
 end
def uptoSmall : (H : Type) → List (DataW H) → Bool := fun _ ds => decide (uptoBulkAll ds ≤ 1048576)
def OpenSpec.upto (s : _root_.Go.ChangeSpec) : _root_.Go.OpenSpec := { _root_.Go.OpenSpec.ofChange s with cond := some uptoSmall }

/-- 'wainscotlaw01.FixReads', WHERE WHAT IT READS IS OF BULK AT MOST 1048576: true; the input reads as it did. -/
def fixReadsUptoRow : OpenClaim := { program := "ytpgnhaoolngkdaa", sum := "e24b53298e0e6c73788c388e56a9b3c5c5a14be17752df2727dcd81527f5ec42", func := "wainscot/wainscotlaw01.FixReads", spec := "fixReads", unfollowed := true, recurses := true, apart := false, narrowed := true }
def FixReadsUptoSaid : Prop := fixReadsUptoRow.holds Try.pinned (OpenSpec.upto fixReadsSpec)

/-- 'wainscotlaw01.FixBack', WHERE WHAT IT READS IS OF BULK AT MOST 1048576: true; the input reads as it did. -/
def fixBackUptoRow : OpenClaim := { program := "ytpgnhaoolngkdaa", sum := "e24b53298e0e6c73788c388e56a9b3c5c5a14be17752df2727dcd81527f5ec42", func := "wainscot/wainscotlaw01.FixBack", spec := "fixBack", unfollowed := true, recurses := true, apart := false, narrowed := true }
def FixBackUptoSaid : Prop := fixBackUptoRow.holds Try.pinned (OpenSpec.upto fixBackSpec)

/-- 'wainscotlaw01.FixOrder', WHERE WHAT IT READS IS OF BULK AT MOST 1048576: true; the input reads as it did. -/
def fixOrderUptoRow : OpenClaim := { program := "ytpgnhaoolngkdaa", sum := "e24b53298e0e6c73788c388e56a9b3c5c5a14be17752df2727dcd81527f5ec42", func := "wainscot/wainscotlaw01.FixOrder", spec := "fixOrder", unfollowed := true, recurses := true, apart := false, narrowed := true }
def FixOrderUptoSaid : Prop := fixOrderUptoRow.holds Try.pinned (OpenSpec.upto fixOrderSpec)

/-- 'wainscotlaw01.FixParts', WHERE WHAT IT READS IS OF BULK AT MOST 1048576: true; the input reads as it did. -/
def fixPartsUptoRow : OpenClaim := { program := "ytpgnhaoolngkdaa", sum := "e24b53298e0e6c73788c388e56a9b3c5c5a14be17752df2727dcd81527f5ec42", func := "wainscot/wainscotlaw01.FixParts", spec := "fixParts", unfollowed := true, recurses := true, apart := false, narrowed := true }
def FixPartsUptoSaid : Prop := fixPartsUptoRow.holds Try.pinned (OpenSpec.upto fixPartsSpec)

/-- 'wainscotlaw01.FixClamps', WHERE WHAT IT READS IS OF BULK AT MOST 1048576: true; the input reads as it did. -/
def fixClampsUptoRow : OpenClaim := { program := "ytpgnhaoolngkdaa", sum := "e24b53298e0e6c73788c388e56a9b3c5c5a14be17752df2727dcd81527f5ec42", func := "wainscot/wainscotlaw01.FixClamps", spec := "fixClamps", unfollowed := true, recurses := true, apart := false, narrowed := true }
def FixClampsUptoSaid : Prop := fixClampsUptoRow.holds Try.pinned (OpenSpec.upto fixClampsSpec)

/-- 'wainscotlaw01.FixRest', WHERE WHAT IT READS IS OF BULK AT MOST 1048576: true; the input reads as it did. -/
def fixRestUptoRow : OpenClaim := { program := "ytpgnhaoolngkdaa", sum := "e24b53298e0e6c73788c388e56a9b3c5c5a14be17752df2727dcd81527f5ec42", func := "wainscot/wainscotlaw01.FixRest", spec := "fixRest", unfollowed := true, recurses := true, apart := false, narrowed := true }
def FixRestUptoSaid : Prop := fixRestUptoRow.holds Try.pinned (OpenSpec.upto fixRestSpec)

/-- 'wainscotlaw01.FixHolds', WHERE WHAT IT READS IS OF BULK AT MOST 1048576: true; the input reads as it did. -/
def fixHoldsUptoRow : OpenClaim := { program := "ytpgnhaoolngkdaa", sum := "e24b53298e0e6c73788c388e56a9b3c5c5a14be17752df2727dcd81527f5ec42", func := "wainscot/wainscotlaw01.FixHolds", spec := "fixHolds", unfollowed := true, recurses := true, apart := false, narrowed := true }
def FixHoldsUptoSaid : Prop := fixHoldsUptoRow.holds Try.pinned (OpenSpec.upto fixHoldsSpec)

end Rows
end Go.Proofs.Ytpgnhaoolngkdaa
