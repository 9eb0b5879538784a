/-
  No cell of these rows narrows 'for every input' (looked for: loops, veiled, ifaces, maps, wideKeys, modest, calm, conditions, laid).
  DERIVED. THE GIVEN ROWS OF THIS SEAT. 9 by the template 'for every input the law returns true; each argument reads behind the call as it read before'; 0 by the template 'total and deterministic' (their statements: YtpnginnjbdedbaaTotals.lean).
  GIVEN WITH THE SEED: the statements are not yours to turn. If you find one false, say at which input.
  Laid BY PROGRAM, IN A SANDBOX (cutbox-rows.mjs): the forced cells as the released guide's own fill.sh prints them over the translation b4b28fba457ecc6b… (all of the seat's roots in one cut). By AI agents, Wed Nov 11 2026. No macro, syntax, notation, axiom, sorry.
-/
import Derived.Test.YtpnginnjbdedbaaChecked
import GoSem.Claim
import GoSem.ClaimJoined
import GoSem.ClaimMapViews
import Derived.JoinedTies
import Derived.KernelRfl
namespace Go.Proofs.Ytpnginnjbdedbaa
/- THE CELL 'sum', in the pinned program and in every row, IS THE sha256 OF THE DUMP (.gsa) THAT YtpnginnjbdedbaaProg.lean LOADS. Nothing in Lean hashes anything: it is a label: what it is worth is what the hold of that sum in a sandbox is worth. -/
noncomputable def Try.pinned : Pinned := { name := "ytpnginnjbdedbaa", sum := "b4b28fba457ecc6be0b61cdf675d91a6394699ca417a13a09a32213790fb81d6", checked := Try.checked }
namespace Rows
def none {H : Type} : Left H := { results := [], args := [] }

/-- 'tracerylaw02.WholeLists': WHATEVER THE INPUT: true; the input reads as it did. -/
def wholeListsSpec : ChangeSpec := { name := "wholeLists", fn := fun _ => fun
  | [d] => { results := [.lit (.bool true)], args := [d] }
  | _ => none }
def wholeListsRow : OpenClaim := { program := "ytpnginnjbdedbaa", sum := "b4b28fba457ecc6be0b61cdf675d91a6394699ca417a13a09a32213790fb81d6", func := "tracery/tracerylaw02.WholeLists", spec := "wholeLists", apart := false }
def WholeListsSaid : Prop := wholeListsRow.holds Try.pinned (OpenSpec.ofChange wholeListsSpec)

/-- ITS FALSE NEIGHBOUR: 'it returns false'. Refute it at one input. -/
def wholeListsWrong : ChangeSpec := { name := "wholeLists", fn := fun _ => fun
  | [d] => { results := [.lit (.bool false)], args := [d] }
  | _ => none }
def WholeListsWrongFalsely : Prop := wholeListsRow.holds Try.pinned (OpenSpec.ofChange wholeListsWrong)

/-- 'tracerylaw02.WholeDivs': WHATEVER THE INPUT: true; the input reads as it did. -/
def wholeDivsSpec : ChangeSpec := { name := "wholeDivs", fn := fun _ => fun
  | [d1, d2, d3] => { results := [.lit (.bool true)], args := [d1, d2, d3] }
  | _ => none }
def wholeDivsRow : OpenClaim := { program := "ytpnginnjbdedbaa", sum := "b4b28fba457ecc6be0b61cdf675d91a6394699ca417a13a09a32213790fb81d6", func := "tracery/tracerylaw02.WholeDivs", spec := "wholeDivs", apart := false }
def WholeDivsSaid : Prop := wholeDivsRow.holds Try.pinned (OpenSpec.ofChange wholeDivsSpec)

/-- ITS FALSE NEIGHBOUR: 'it returns false'. Refute it at one input. -/
def wholeDivsWrong : ChangeSpec := { name := "wholeDivs", fn := fun _ => fun
  | [d1, d2, d3] => { results := [.lit (.bool false)], args := [d1, d2, d3] }
  | _ => none }
def WholeDivsWrongFalsely : Prop := wholeDivsRow.holds Try.pinned (OpenSpec.ofChange wholeDivsWrong)

/-- 'tracerylaw02.WholeSums': WHATEVER THE INPUT: true; the input reads as it did. -/
def wholeSumsSpec : ChangeSpec := { name := "wholeSums", fn := fun _ => fun
  | [d1, d2] => { results := [.lit (.bool true)], args := [d1, d2] }
  | _ => none }
def wholeSumsRow : OpenClaim := { program := "ytpnginnjbdedbaa", sum := "b4b28fba457ecc6be0b61cdf675d91a6394699ca417a13a09a32213790fb81d6", func := "tracery/tracerylaw02.WholeSums", spec := "wholeSums", unfollowed := true, recurses := true, apart := false }
def WholeSumsSaid : Prop := wholeSumsRow.holds Try.pinned (OpenSpec.ofChange wholeSumsSpec)

/-- ITS FALSE NEIGHBOUR: 'it returns false'. Refute it at one input. -/
def wholeSumsWrong : ChangeSpec := { name := "wholeSums", fn := fun _ => fun
  | [d1, d2] => { results := [.lit (.bool false)], args := [d1, d2] }
  | _ => none }
def WholeSumsWrongFalsely : Prop := wholeSumsRow.holds Try.pinned (OpenSpec.ofChange wholeSumsWrong)

/-- 'tracerylaw02.WholeTexts': WHATEVER THE INPUT: true; the input reads as it did. -/
def wholeTextsSpec : ChangeSpec := { name := "wholeTexts", fn := fun _ => fun
  | [d1, d2] => { results := [.lit (.bool true)], args := [d1, d2] }
  | _ => none }
def wholeTextsRow : OpenClaim := { program := "ytpnginnjbdedbaa", sum := "b4b28fba457ecc6be0b61cdf675d91a6394699ca417a13a09a32213790fb81d6", func := "tracery/tracerylaw02.WholeTexts", spec := "wholeTexts", apart := false }
def WholeTextsSaid : Prop := wholeTextsRow.holds Try.pinned (OpenSpec.ofChange wholeTextsSpec)

/-- ITS FALSE NEIGHBOUR: 'it returns false'. Refute it at one input. -/
def wholeTextsWrong : ChangeSpec := { name := "wholeTexts", fn := fun _ => fun
  | [d1, d2] => { results := [.lit (.bool false)], args := [d1, d2] }
  | _ => none }
def WholeTextsWrongFalsely : Prop := wholeTextsRow.holds Try.pinned (OpenSpec.ofChange wholeTextsWrong)

/-- 'tracerylaw02.WholeTells': WHATEVER THE INPUT: true; the input reads as it did. -/
def wholeTellsSpec : ChangeSpec := { name := "wholeTells", fn := fun _ => fun
  | [d1, d2, d3] => { results := [.lit (.bool true)], args := [d1, d2, d3] }
  | _ => none }
def wholeTellsRow : OpenClaim := { program := "ytpnginnjbdedbaa", sum := "b4b28fba457ecc6be0b61cdf675d91a6394699ca417a13a09a32213790fb81d6", func := "tracery/tracerylaw02.WholeTells", spec := "wholeTells", unfollowed := true, recurses := true, apart := false }
def WholeTellsSaid : Prop := wholeTellsRow.holds Try.pinned (OpenSpec.ofChange wholeTellsSpec)

/-- ITS FALSE NEIGHBOUR: 'it returns false'. Refute it at one input. -/
def wholeTellsWrong : ChangeSpec := { name := "wholeTells", fn := fun _ => fun
  | [d1, d2, d3] => { results := [.lit (.bool false)], args := [d1, d2, d3] }
  | _ => none }
def WholeTellsWrongFalsely : Prop := wholeTellsRow.holds Try.pinned (OpenSpec.ofChange wholeTellsWrong)

/-- 'tracerylaw02.WholeDivides': WHATEVER THE INPUT: true; the input reads as it did. -/
def wholeDividesSpec : ChangeSpec := { name := "wholeDivides", fn := fun _ => fun
  | [d1, d2] => { results := [.lit (.bool true)], args := [d1, d2] }
  | _ => none }
def wholeDividesRow : OpenClaim := { program := "ytpnginnjbdedbaa", sum := "b4b28fba457ecc6be0b61cdf675d91a6394699ca417a13a09a32213790fb81d6", func := "tracery/tracerylaw02.WholeDivides", spec := "wholeDivides", unfollowed := true, recurses := true, apart := false }
def WholeDividesSaid : Prop := wholeDividesRow.holds Try.pinned (OpenSpec.ofChange wholeDividesSpec)

/-- ITS FALSE NEIGHBOUR: 'it returns false'. Refute it at one input. -/
def wholeDividesWrong : ChangeSpec := { name := "wholeDivides", fn := fun _ => fun
  | [d1, d2] => { results := [.lit (.bool false)], args := [d1, d2] }
  | _ => none }
def WholeDividesWrongFalsely : Prop := wholeDividesRow.holds Try.pinned (OpenSpec.ofChange wholeDividesWrong)

/-- 'tracerylaw02.WholeRoots': WHATEVER THE INPUT: true; the input reads as it did. -/
def wholeRootsSpec : ChangeSpec := { name := "wholeRoots", fn := fun _ => fun
  | [d1, d2] => { results := [.lit (.bool true)], args := [d1, d2] }
  | _ => none }
def wholeRootsRow : OpenClaim := { program := "ytpnginnjbdedbaa", sum := "b4b28fba457ecc6be0b61cdf675d91a6394699ca417a13a09a32213790fb81d6", func := "tracery/tracerylaw02.WholeRoots", spec := "wholeRoots", apart := false }
def WholeRootsSaid : Prop := wholeRootsRow.holds Try.pinned (OpenSpec.ofChange wholeRootsSpec)

/-- ITS FALSE NEIGHBOUR: 'it returns false'. Refute it at one input. -/
def wholeRootsWrong : ChangeSpec := { name := "wholeRoots", fn := fun _ => fun
  | [d1, d2] => { results := [.lit (.bool false)], args := [d1, d2] }
  | _ => none }
def WholeRootsWrongFalsely : Prop := wholeRootsRow.holds Try.pinned (OpenSpec.ofChange wholeRootsWrong)

/-- 'tracerylaw02.WholeRing': WHATEVER THE INPUT: true; the input reads as it did. -/
def wholeRingSpec : ChangeSpec := { name := "wholeRing", fn := fun _ => fun
  | [d] => { results := [.lit (.bool true)], args := [d] }
  | _ => none }
def wholeRingRow : OpenClaim := { program := "ytpnginnjbdedbaa", sum := "b4b28fba457ecc6be0b61cdf675d91a6394699ca417a13a09a32213790fb81d6", func := "tracery/tracerylaw02.WholeRing", spec := "wholeRing", unfollowed := true, recurses := true, apart := false }
def WholeRingSaid : Prop := wholeRingRow.holds Try.pinned (OpenSpec.ofChange wholeRingSpec)

/-- ITS FALSE NEIGHBOUR: 'it returns false'. Refute it at one input. -/
def wholeRingWrong : ChangeSpec := { name := "wholeRing", fn := fun _ => fun
  | [d] => { results := [.lit (.bool false)], args := [d] }
  | _ => none }
def WholeRingWrongFalsely : Prop := wholeRingRow.holds Try.pinned (OpenSpec.ofChange wholeRingWrong)

/-- 'tracerylaw02.WholeEdges': WHATEVER THE INPUT: true; the input reads as it did. -/
def wholeEdgesSpec : ChangeSpec := { name := "wholeEdges", fn := fun _ => fun
  | [] => { results := [.lit (.bool true)], args := [] }
  | _ => none }
def wholeEdgesRow : OpenClaim := { program := "ytpnginnjbdedbaa", sum := "b4b28fba457ecc6be0b61cdf675d91a6394699ca417a13a09a32213790fb81d6", func := "tracery/tracerylaw02.WholeEdges", spec := "wholeEdges", unfollowed := true, recurses := true, apart := false }
def WholeEdgesSaid : Prop := wholeEdgesRow.holds Try.pinned (OpenSpec.ofChange wholeEdgesSpec)

/-- ITS FALSE NEIGHBOUR: 'it returns false'. Refute it at one input. -/
def wholeEdgesWrong : ChangeSpec := { name := "wholeEdges", fn := fun _ => fun
  | [] => { results := [.lit (.bool false)], args := [] }
  | _ => none }
def WholeEdgesWrongFalsely : Prop := wholeEdgesRow.holds Try.pinned (OpenSpec.ofChange wholeEdgesWrong)

/- THE SECOND FORM. 'bulk': how many values and letters a reading holds, each counted each time it is reached (what is shared counts as often as it is met; a slice's spare places count too). A statement '..UptoSaid' is the law's where the arguments, and the package variables that the reading takes, are together of bulk at most 1048576: NARROWER than '..Said'. Prove '..Said' where nothing that the law and all that it calls make is longer than what came in: it says more and counts as full. Else prove '..UptoSaid'. A law counts once. -/
mutual
def uptoBulk {H : Type} : DataW H → Nat
  | .lit (.string bytes) => bytes.length + 1
  | .lit _ => 1
  | .nil => 1
  | .ptr d => uptoBulk d + 1
  | .slice elems spare => uptoBulkAll elems + uptoBulkAll spare + 1
  | .agg parts => uptoBulkAll parts + 1
  | .iface _ d => uptoBulk d + 1
  | .map entries => uptoBulkEntries entries + 1
  | .held _ => 1
def uptoBulkAll {H : Type} : List (DataW H) → Nat
  | [] => 0
  | d :: r => uptoBulk d + uptoBulkAll r
def uptoBulkEntries {H : Type} : List (Lit × DataW H) → Nat
  | [] => 0
  | x :: r => uptoBulkEntry x + uptoBulkEntries r
def uptoBulkEntry {H : Type} : Lit × DataW H → Nat
  | (.string bytes, d) => bytes.length + uptoBulk d + 1
  | (_, d) => uptoBulk d + 1
 end
def uptoSmall : (H : Type) → List (DataW H) → Bool := fun _ ds => decide (uptoBulkAll ds ≤ 1048576)
def OpenSpec.upto (s : _root_.Go.ChangeSpec) : _root_.Go.OpenSpec := { _root_.Go.OpenSpec.ofChange s with cond := some uptoSmall }

/-- 'tracerylaw02.WholeLists', WHERE WHAT IT READS IS OF BULK AT MOST 1048576: true; the input reads as it did. -/
def wholeListsUptoRow : OpenClaim := { program := "ytpnginnjbdedbaa", sum := "b4b28fba457ecc6be0b61cdf675d91a6394699ca417a13a09a32213790fb81d6", func := "tracery/tracerylaw02.WholeLists", spec := "wholeLists", apart := false, narrowed := true }
def WholeListsUptoSaid : Prop := wholeListsUptoRow.holds Try.pinned (OpenSpec.upto wholeListsSpec)

/-- 'tracerylaw02.WholeDivs', WHERE WHAT IT READS IS OF BULK AT MOST 1048576: true; the input reads as it did. -/
def wholeDivsUptoRow : OpenClaim := { program := "ytpnginnjbdedbaa", sum := "b4b28fba457ecc6be0b61cdf675d91a6394699ca417a13a09a32213790fb81d6", func := "tracery/tracerylaw02.WholeDivs", spec := "wholeDivs", apart := false, narrowed := true }
def WholeDivsUptoSaid : Prop := wholeDivsUptoRow.holds Try.pinned (OpenSpec.upto wholeDivsSpec)

/-- 'tracerylaw02.WholeSums', WHERE WHAT IT READS IS OF BULK AT MOST 1048576: true; the input reads as it did. -/
def wholeSumsUptoRow : OpenClaim := { program := "ytpnginnjbdedbaa", sum := "b4b28fba457ecc6be0b61cdf675d91a6394699ca417a13a09a32213790fb81d6", func := "tracery/tracerylaw02.WholeSums", spec := "wholeSums", unfollowed := true, recurses := true, apart := false, narrowed := true }
def WholeSumsUptoSaid : Prop := wholeSumsUptoRow.holds Try.pinned (OpenSpec.upto wholeSumsSpec)

/-- 'tracerylaw02.WholeTexts', WHERE WHAT IT READS IS OF BULK AT MOST 1048576: true; the input reads as it did. -/
def wholeTextsUptoRow : OpenClaim := { program := "ytpnginnjbdedbaa", sum := "b4b28fba457ecc6be0b61cdf675d91a6394699ca417a13a09a32213790fb81d6", func := "tracery/tracerylaw02.WholeTexts", spec := "wholeTexts", apart := false, narrowed := true }
def WholeTextsUptoSaid : Prop := wholeTextsUptoRow.holds Try.pinned (OpenSpec.upto wholeTextsSpec)

/-- 'tracerylaw02.WholeTells', WHERE WHAT IT READS IS OF BULK AT MOST 1048576: true; the input reads as it did. -/
def wholeTellsUptoRow : OpenClaim := { program := "ytpnginnjbdedbaa", sum := "b4b28fba457ecc6be0b61cdf675d91a6394699ca417a13a09a32213790fb81d6", func := "tracery/tracerylaw02.WholeTells", spec := "wholeTells", unfollowed := true, recurses := true, apart := false, narrowed := true }
def WholeTellsUptoSaid : Prop := wholeTellsUptoRow.holds Try.pinned (OpenSpec.upto wholeTellsSpec)

/-- 'tracerylaw02.WholeDivides', WHERE WHAT IT READS IS OF BULK AT MOST 1048576: true; the input reads as it did. -/
def wholeDividesUptoRow : OpenClaim := { program := "ytpnginnjbdedbaa", sum := "b4b28fba457ecc6be0b61cdf675d91a6394699ca417a13a09a32213790fb81d6", func := "tracery/tracerylaw02.WholeDivides", spec := "wholeDivides", unfollowed := true, recurses := true, apart := false, narrowed := true }
def WholeDividesUptoSaid : Prop := wholeDividesUptoRow.holds Try.pinned (OpenSpec.upto wholeDividesSpec)

/-- 'tracerylaw02.WholeRoots', WHERE WHAT IT READS IS OF BULK AT MOST 1048576: true; the input reads as it did. -/
def wholeRootsUptoRow : OpenClaim := { program := "ytpnginnjbdedbaa", sum := "b4b28fba457ecc6be0b61cdf675d91a6394699ca417a13a09a32213790fb81d6", func := "tracery/tracerylaw02.WholeRoots", spec := "wholeRoots", apart := false, narrowed := true }
def WholeRootsUptoSaid : Prop := wholeRootsUptoRow.holds Try.pinned (OpenSpec.upto wholeRootsSpec)

/-- 'tracerylaw02.WholeRing', WHERE WHAT IT READS IS OF BULK AT MOST 1048576: true; the input reads as it did. -/
def wholeRingUptoRow : OpenClaim := { program := "ytpnginnjbdedbaa", sum := "b4b28fba457ecc6be0b61cdf675d91a6394699ca417a13a09a32213790fb81d6", func := "tracery/tracerylaw02.WholeRing", spec := "wholeRing", unfollowed := true, recurses := true, apart := false, narrowed := true }
def WholeRingUptoSaid : Prop := wholeRingUptoRow.holds Try.pinned (OpenSpec.upto wholeRingSpec)

/-- 'tracerylaw02.WholeEdges', WHERE WHAT IT READS IS OF BULK AT MOST 1048576: true; the input reads as it did. -/
def wholeEdgesUptoRow : OpenClaim := { program := "ytpnginnjbdedbaa", sum := "b4b28fba457ecc6be0b61cdf675d91a6394699ca417a13a09a32213790fb81d6", func := "tracery/tracerylaw02.WholeEdges", spec := "wholeEdges", unfollowed := true, recurses := true, apart := false, narrowed := true }
def WholeEdgesUptoSaid : Prop := wholeEdgesUptoRow.holds Try.pinned (OpenSpec.upto wholeEdgesSpec)

end Rows
end Go.Proofs.Ytpnginnjbdedbaa
