/-
  DERIVED. GIVEN WITH THE SEED: THE CARDS: each row of YtebpggfccljagaaGreatDoorRows.lean that lists a variable, with what it lists TIED to the program's text (the seventh form; the later family's looks); each row that meets fmt, with fmt's text TOLD by the authors' own Lean function (tested against real Go, not proved from fmt's source: count such statements apart). THE CARD IS WHAT COUNTS. Prove the row's statement (the work); the ties are given (YtebpggfccljagaaGreatDoorTie.lean); close each card by the builder's one call (the guide's Derived/Test/ToyasCard.lean, 'card_holds'). Laid BY PROGRAM, IN A SANDBOX (cutbox-door.mjs). By AI agents, Wed Nov 11 2026. No macro, syntax, notation, axiom, sorry.
-/
import Derived.Test.YtebpggfccljagaaGreatDoorRows
import GoSem.ClaimSeven
namespace Go.Proofs.YtebpggfccljagaaGreatDoor
namespace Rows

/-- THE TIED CARD OF 'tracerylaw30.ScriptRead'. -/
def scriptReadCard : Claim7 := { stood := { row := scriptReadRow, standIns := [], harness := (true, "e3f95d5bcf3c2bc12ed03f417dc7255dc2a20616530ec1cf954da6869ced3823"), looks := false }, kinds := [], alts := [], laidByText := true, laidKinds := [.data, .data, .data, .data, .pinned], laidTests := true, laidLooks := .later }
def ScriptReadCardSaid : Prop := Claim7.holds Tryz.pinned (.plain (OpenSpec.ofChange scriptReadSpec)) scriptReadCard

/-- THE TIED CARD OF 'tracerylaw30.ScriptLine'. -/
def scriptLineCard : Claim7 := { stood := { row := scriptLineRow, standIns := [], harness := (true, "e3f95d5bcf3c2bc12ed03f417dc7255dc2a20616530ec1cf954da6869ced3823"), looks := false }, kinds := [], alts := [], laidByText := true, laidKinds := [.data, .data, .data, .data, .pinned], laidTests := true, laidLooks := .later }
def ScriptLineCardSaid : Prop := Claim7.holds Tryz.pinned (.plain (OpenSpec.ofChange scriptLineSpec)) scriptLineCard

/-- THE TIED CARD OF 'tracerylaw30.ScriptParse'. -/
def scriptParseCard : Claim7 := { stood := { row := scriptParseRow, standIns := [], harness := (true, "e3f95d5bcf3c2bc12ed03f417dc7255dc2a20616530ec1cf954da6869ced3823"), looks := false }, kinds := [], alts := [], laidByText := true, laidKinds := [.data, .data, .data, .data, .pinned], laidTests := true, laidLooks := .later }
def ScriptParseCardSaid : Prop := Claim7.holds Tryz.pinned (.plain (OpenSpec.ofChange scriptParseSpec)) scriptParseCard

/-- THE TIED CARD OF 'tracerylaw30.ScriptTexts'. -/
def scriptTextsCard : Claim7 := { stood := { row := scriptTextsRow, standIns := [], harness := (true, "e3f95d5bcf3c2bc12ed03f417dc7255dc2a20616530ec1cf954da6869ced3823"), looks := false }, kinds := [], alts := [], laidByText := true, laidKinds := [.data, .data, .data, .data, .pinned], laidTests := true, laidLooks := .later }
def ScriptTextsCardSaid : Prop := Claim7.holds Tryz.pinned (.plain (OpenSpec.ofChange scriptTextsSpec)) scriptTextsCard

/-- THE TIED CARD OF 'tracerylaw30.ScriptNeeds'. -/
def scriptNeedsCard : Claim7 := { stood := { row := scriptNeedsRow, standIns := [], harness := (true, "e3f95d5bcf3c2bc12ed03f417dc7255dc2a20616530ec1cf954da6869ced3823"), looks := false }, kinds := [], alts := [], laidByText := true, laidKinds := [.data, .data, .data, .data, .pinned], laidTests := true, laidLooks := .later }
def ScriptNeedsCardSaid : Prop := Claim7.holds Tryz.pinned (.plain (OpenSpec.ofChange scriptNeedsSpec)) scriptNeedsCard

/-- THE SECOND FORM's CARD OF 'tracerylaw30.ScriptRead'. -/
def scriptReadUptoCard : Claim7 := { stood := { row := scriptReadUptoRow, standIns := [], harness := (true, "e3f95d5bcf3c2bc12ed03f417dc7255dc2a20616530ec1cf954da6869ced3823"), looks := false }, kinds := [], alts := [], laidByText := true, laidKinds := [.data, .data, .data, .data, .pinned], laidTests := true, laidLooks := .later }
def ScriptReadUptoCardSaid : Prop := Claim7.holds Tryz.pinned (.plain (OpenSpec.upto scriptReadSpec)) scriptReadUptoCard

/-- THE SECOND FORM's CARD OF 'tracerylaw30.ScriptLine'. -/
def scriptLineUptoCard : Claim7 := { stood := { row := scriptLineUptoRow, standIns := [], harness := (true, "e3f95d5bcf3c2bc12ed03f417dc7255dc2a20616530ec1cf954da6869ced3823"), looks := false }, kinds := [], alts := [], laidByText := true, laidKinds := [.data, .data, .data, .data, .pinned], laidTests := true, laidLooks := .later }
def ScriptLineUptoCardSaid : Prop := Claim7.holds Tryz.pinned (.plain (OpenSpec.upto scriptLineSpec)) scriptLineUptoCard

/-- THE SECOND FORM's CARD OF 'tracerylaw30.ScriptParse'. -/
def scriptParseUptoCard : Claim7 := { stood := { row := scriptParseUptoRow, standIns := [], harness := (true, "e3f95d5bcf3c2bc12ed03f417dc7255dc2a20616530ec1cf954da6869ced3823"), looks := false }, kinds := [], alts := [], laidByText := true, laidKinds := [.data, .data, .data, .data, .pinned], laidTests := true, laidLooks := .later }
def ScriptParseUptoCardSaid : Prop := Claim7.holds Tryz.pinned (.plain (OpenSpec.upto scriptParseSpec)) scriptParseUptoCard

/-- THE SECOND FORM's CARD OF 'tracerylaw30.ScriptTexts'. -/
def scriptTextsUptoCard : Claim7 := { stood := { row := scriptTextsUptoRow, standIns := [], harness := (true, "e3f95d5bcf3c2bc12ed03f417dc7255dc2a20616530ec1cf954da6869ced3823"), looks := false }, kinds := [], alts := [], laidByText := true, laidKinds := [.data, .data, .data, .data, .pinned], laidTests := true, laidLooks := .later }
def ScriptTextsUptoCardSaid : Prop := Claim7.holds Tryz.pinned (.plain (OpenSpec.upto scriptTextsSpec)) scriptTextsUptoCard

/-- THE SECOND FORM's CARD OF 'tracerylaw30.ScriptNeeds'. -/
def scriptNeedsUptoCard : Claim7 := { stood := { row := scriptNeedsUptoRow, standIns := [], harness := (true, "e3f95d5bcf3c2bc12ed03f417dc7255dc2a20616530ec1cf954da6869ced3823"), looks := false }, kinds := [], alts := [], laidByText := true, laidKinds := [.data, .data, .data, .data, .pinned], laidTests := true, laidLooks := .later }
def ScriptNeedsUptoCardSaid : Prop := Claim7.holds Tryz.pinned (.plain (OpenSpec.upto scriptNeedsSpec)) scriptNeedsUptoCard
end Rows
end Go.Proofs.YtebpggfccljagaaGreatDoor
