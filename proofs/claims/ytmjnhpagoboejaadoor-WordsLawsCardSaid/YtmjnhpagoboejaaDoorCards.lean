/-
  DERIVED. GIVEN WITH THE SEED: THE CARDS: each row of YtmjnhpagoboejaaDoorRows.lean that lists a variable, with what it lists TIED to the program's text (the seventh form; the later family's looks); each row that meets fmt, with fmt's text TOLD by the authors' own Lean function (tested against real Go, not proved from fmt's source: count such statements apart). THE CARD IS WHAT COUNTS. Prove the row's statement (the work); the ties are given (YtmjnhpagoboejaaDoorTie.lean); close each card by the builder's one call (the guide's Derived/Test/ToyasCard.lean, 'card_holds'). Laid BY PROGRAM, IN A SANDBOX (cutbox-door.mjs). By AI agents, Wed Nov 11 2026. No macro, syntax, notation, axiom, sorry.
-/
import Derived.Test.YtmjnhpagoboejaaDoorRows
import GoSem.ClaimSeven
namespace Go.Proofs.YtmjnhpagoboejaaDoor
namespace Rows

/-- THE TIED CARD OF 'tracerylaw16.WordsShort'. -/
def wordsShortCard : Claim7 := { stood := { row := wordsShortRow, standIns := [], harness := (true, "c3546f4352f6b23f8818b67c1252f807b97081bcb75e32172c1e054bce4bebb2"), looks := true }, kinds := [], alts := [], laidByText := true, laidKinds := [.data, .data, .data], laidTests := true, laidLooks := .later }
def WordsShortCardSaid : Prop := Claim7.holds Tryd.pinned (.plain (OpenSpec.ofChange wordsShortSpec)) wordsShortCard

/-- THE TIED CARD OF 'tracerylaw16.WordsProducts'. -/
def wordsProductsCard : Claim7 := { stood := { row := wordsProductsRow, standIns := [], harness := (true, "c3546f4352f6b23f8818b67c1252f807b97081bcb75e32172c1e054bce4bebb2"), looks := true }, kinds := [], alts := [], laidByText := true, laidKinds := [.data, .data, .data], laidTests := true, laidLooks := .later }
def WordsProductsCardSaid : Prop := Claim7.holds Tryd.pinned (.plain (OpenSpec.ofChange wordsProductsSpec)) wordsProductsCard

/-- THE TIED CARD OF 'tracerylaw16.WordsPut'. -/
def wordsPutCard : Claim7 := { stood := { row := wordsPutRow, standIns := [], harness := (true, "c3546f4352f6b23f8818b67c1252f807b97081bcb75e32172c1e054bce4bebb2"), looks := true }, kinds := [], alts := [], laidByText := true, laidKinds := [.data, .data, .data], laidTests := true, laidLooks := .later }
def WordsPutCardSaid : Prop := Claim7.holds Tryd.pinned (.plain (OpenSpec.ofChange wordsPutSpec)) wordsPutCard

/-- THE TIED CARD OF 'tracerylaw16.WordsNames'. -/
def wordsNamesCard : Claim7 := { stood := { row := wordsNamesRow, standIns := [], harness := (true, "c3546f4352f6b23f8818b67c1252f807b97081bcb75e32172c1e054bce4bebb2"), looks := true }, kinds := [], alts := [], laidByText := true, laidKinds := [.data, .data, .data], laidTests := true, laidLooks := .later }
def WordsNamesCardSaid : Prop := Claim7.holds Tryd.pinned (.plain (OpenSpec.ofChange wordsNamesSpec)) wordsNamesCard

/-- THE TIED CARD OF 'tracerylaw16.WordsAll'. -/
def wordsAllCard : Claim7 := { stood := { row := wordsAllRow, standIns := [], harness := (true, "c3546f4352f6b23f8818b67c1252f807b97081bcb75e32172c1e054bce4bebb2"), looks := true }, kinds := [], alts := [], laidByText := true, laidKinds := [.data, .data, .data], laidTests := true, laidLooks := .later }
def WordsAllCardSaid : Prop := Claim7.holds Tryd.pinned (.plain (OpenSpec.ofChange wordsAllSpec)) wordsAllCard

/-- THE TIED CARD OF 'tracerylaw16.WordsPairs'. -/
def wordsPairsCard : Claim7 := { stood := { row := wordsPairsRow, standIns := [], harness := (true, "c3546f4352f6b23f8818b67c1252f807b97081bcb75e32172c1e054bce4bebb2"), looks := true }, kinds := [], alts := [], laidByText := true, laidKinds := [.data, .data, .data], laidTests := true, laidLooks := .later }
def WordsPairsCardSaid : Prop := Claim7.holds Tryd.pinned (.plain (OpenSpec.ofChange wordsPairsSpec)) wordsPairsCard

/-- THE TIED CARD OF 'tracerylaw16.WordsTexts'. -/
def wordsTextsCard : Claim7 := { stood := { row := wordsTextsRow, standIns := [], harness := (true, "c3546f4352f6b23f8818b67c1252f807b97081bcb75e32172c1e054bce4bebb2"), looks := true }, kinds := [], alts := [], laidByText := true, laidKinds := [.data, .data, .data, .data, .sentinel, .sentinel, .pinned], laidTests := true, laidLooks := .later }
def WordsTextsCardSaid : Prop := Claim7.holds Tryd.pinned (.plain (OpenSpec.ofChange wordsTextsSpec)) wordsTextsCard

/-- THE TIED CARD OF 'tracerylaw16.WordsLaws'. -/
def wordsLawsCard : Claim7 := { stood := { row := wordsLawsRow, standIns := [], harness := (true, "c3546f4352f6b23f8818b67c1252f807b97081bcb75e32172c1e054bce4bebb2"), looks := true }, kinds := [], alts := [], laidByText := true, laidKinds := [.data, .data, .data, .data, .sentinel, .sentinel, .pinned], laidTests := true, laidLooks := .later }
def WordsLawsCardSaid : Prop := Claim7.holds Tryd.pinned (.plain (OpenSpec.ofChange wordsLawsSpec)) wordsLawsCard

/-- THE SECOND FORM's CARD OF 'tracerylaw16.WordsShort'. -/
def wordsShortUptoCard : Claim7 := { stood := { row := wordsShortUptoRow, standIns := [], harness := (true, "c3546f4352f6b23f8818b67c1252f807b97081bcb75e32172c1e054bce4bebb2"), looks := true }, kinds := [], alts := [], laidByText := true, laidKinds := [.data, .data, .data], laidTests := true, laidLooks := .later }
def WordsShortUptoCardSaid : Prop := Claim7.holds Tryd.pinned (.plain (OpenSpec.upto wordsShortSpec)) wordsShortUptoCard

/-- THE SECOND FORM's CARD OF 'tracerylaw16.WordsProducts'. -/
def wordsProductsUptoCard : Claim7 := { stood := { row := wordsProductsUptoRow, standIns := [], harness := (true, "c3546f4352f6b23f8818b67c1252f807b97081bcb75e32172c1e054bce4bebb2"), looks := true }, kinds := [], alts := [], laidByText := true, laidKinds := [.data, .data, .data], laidTests := true, laidLooks := .later }
def WordsProductsUptoCardSaid : Prop := Claim7.holds Tryd.pinned (.plain (OpenSpec.upto wordsProductsSpec)) wordsProductsUptoCard

/-- THE SECOND FORM's CARD OF 'tracerylaw16.WordsPut'. -/
def wordsPutUptoCard : Claim7 := { stood := { row := wordsPutUptoRow, standIns := [], harness := (true, "c3546f4352f6b23f8818b67c1252f807b97081bcb75e32172c1e054bce4bebb2"), looks := true }, kinds := [], alts := [], laidByText := true, laidKinds := [.data, .data, .data], laidTests := true, laidLooks := .later }
def WordsPutUptoCardSaid : Prop := Claim7.holds Tryd.pinned (.plain (OpenSpec.upto wordsPutSpec)) wordsPutUptoCard

/-- THE SECOND FORM's CARD OF 'tracerylaw16.WordsNames'. -/
def wordsNamesUptoCard : Claim7 := { stood := { row := wordsNamesUptoRow, standIns := [], harness := (true, "c3546f4352f6b23f8818b67c1252f807b97081bcb75e32172c1e054bce4bebb2"), looks := true }, kinds := [], alts := [], laidByText := true, laidKinds := [.data, .data, .data], laidTests := true, laidLooks := .later }
def WordsNamesUptoCardSaid : Prop := Claim7.holds Tryd.pinned (.plain (OpenSpec.upto wordsNamesSpec)) wordsNamesUptoCard

/-- THE SECOND FORM's CARD OF 'tracerylaw16.WordsAll'. -/
def wordsAllUptoCard : Claim7 := { stood := { row := wordsAllUptoRow, standIns := [], harness := (true, "c3546f4352f6b23f8818b67c1252f807b97081bcb75e32172c1e054bce4bebb2"), looks := true }, kinds := [], alts := [], laidByText := true, laidKinds := [.data, .data, .data], laidTests := true, laidLooks := .later }
def WordsAllUptoCardSaid : Prop := Claim7.holds Tryd.pinned (.plain (OpenSpec.upto wordsAllSpec)) wordsAllUptoCard

/-- THE SECOND FORM's CARD OF 'tracerylaw16.WordsPairs'. -/
def wordsPairsUptoCard : Claim7 := { stood := { row := wordsPairsUptoRow, standIns := [], harness := (true, "c3546f4352f6b23f8818b67c1252f807b97081bcb75e32172c1e054bce4bebb2"), looks := true }, kinds := [], alts := [], laidByText := true, laidKinds := [.data, .data, .data], laidTests := true, laidLooks := .later }
def WordsPairsUptoCardSaid : Prop := Claim7.holds Tryd.pinned (.plain (OpenSpec.upto wordsPairsSpec)) wordsPairsUptoCard

/-- THE SECOND FORM's CARD OF 'tracerylaw16.WordsTexts'. -/
def wordsTextsUptoCard : Claim7 := { stood := { row := wordsTextsUptoRow, standIns := [], harness := (true, "c3546f4352f6b23f8818b67c1252f807b97081bcb75e32172c1e054bce4bebb2"), looks := true }, kinds := [], alts := [], laidByText := true, laidKinds := [.data, .data, .data, .data, .sentinel, .sentinel, .pinned], laidTests := true, laidLooks := .later }
def WordsTextsUptoCardSaid : Prop := Claim7.holds Tryd.pinned (.plain (OpenSpec.upto wordsTextsSpec)) wordsTextsUptoCard

/-- THE SECOND FORM's CARD OF 'tracerylaw16.WordsLaws'. -/
def wordsLawsUptoCard : Claim7 := { stood := { row := wordsLawsUptoRow, standIns := [], harness := (true, "c3546f4352f6b23f8818b67c1252f807b97081bcb75e32172c1e054bce4bebb2"), looks := true }, kinds := [], alts := [], laidByText := true, laidKinds := [.data, .data, .data, .data, .sentinel, .sentinel, .pinned], laidTests := true, laidLooks := .later }
def WordsLawsUptoCardSaid : Prop := Claim7.holds Tryd.pinned (.plain (OpenSpec.upto wordsLawsSpec)) wordsLawsUptoCard
end Rows
end Go.Proofs.YtmjnhpagoboejaaDoor
