/-
  DERIVED. GIVEN WITH THE SEED: THE CARDS: each row of YtdnfbmminagflaaDoorRows.lean that lists a variable, with what it lists TIED to the program's text (the seventh form; the later family's looks); each row that meets fmt, with fmt's text TOLD by the authors' own Lean function (tested against real Go, not proved from fmt's source: count such statements apart). THE CARD IS WHAT COUNTS. Prove the row's statement (the work); the ties are given (YtdnfbmminagflaaDoorTie.lean); close each card by the builder's one call (the guide's Derived/Test/ToyasCard.lean, 'card_holds'). Laid BY PROGRAM, IN A SANDBOX (cutbox-door.mjs). By AI agents, Wed Nov 11 2026. No macro, syntax, notation, axiom, sorry.
-/
import Derived.Test.YtdnfbmminagflaaDoorRows
import GoSem.ClaimSeven
namespace Go.Proofs.YtdnfbmminagflaaDoor
namespace Rows

/-- THE TIED CARD OF 'escritoirelaw03.BaseTakes'. -/
def baseTakesCard : Claim7 := { stood := { row := baseTakesRow, standIns := [], harness := (true, "88b6e6f56535bd51871d70ec5dea2d98b4a2f45ac8fb2323c957d27a338aee60"), looks := true }, kinds := [], alts := [], laidByText := true, laidKinds := [.data, .pinned], laidTests := true, laidLooks := .later }
def BaseTakesCardSaid : Prop := Claim7.holds Tryd.pinned (.plain (OpenSpec.ofChange baseTakesSpec)) baseTakesCard

/-- THE TIED CARD OF 'escritoirelaw03.BaseBack'. -/
def baseBackCard : Claim7 := { stood := { row := baseBackRow, standIns := [], harness := (true, "88b6e6f56535bd51871d70ec5dea2d98b4a2f45ac8fb2323c957d27a338aee60"), looks := true }, kinds := [], alts := [], laidByText := true, laidKinds := [.data, .pinned], laidTests := true, laidLooks := .later }
def BaseBackCardSaid : Prop := Claim7.holds Tryd.pinned (.plain (OpenSpec.ofChange baseBackSpec)) baseBackCard

/-- THE TIED CARD OF 'escritoirelaw03.BaseJoins'. -/
def baseJoinsCard : Claim7 := { stood := { row := baseJoinsRow, standIns := [], harness := (true, "88b6e6f56535bd51871d70ec5dea2d98b4a2f45ac8fb2323c957d27a338aee60"), looks := true }, kinds := [], alts := [], laidByText := true, laidKinds := [.data, .pinned], laidTests := true, laidLooks := .later }
def BaseJoinsCardSaid : Prop := Claim7.holds Tryd.pinned (.plain (OpenSpec.ofChange baseJoinsSpec)) baseJoinsCard

/-- THE TIED CARD OF 'escritoirelaw03.BaseKnown'. -/
def baseKnownCard : Claim7 := { stood := { row := baseKnownRow, standIns := [], harness := (true, "88b6e6f56535bd51871d70ec5dea2d98b4a2f45ac8fb2323c957d27a338aee60"), looks := true }, kinds := [], alts := [], laidByText := true, laidKinds := [.data, .pinned], laidTests := true, laidLooks := .later }
def BaseKnownCardSaid : Prop := Claim7.holds Tryd.pinned (.plain (OpenSpec.ofChange baseKnownSpec)) baseKnownCard

/-- THE TIED CARD OF 'escritoirelaw04.JsonTexts'. -/
def jsonTextsCard : Claim7 := { stood := { row := jsonTextsRow, standIns := [], harness := (true, "88b6e6f56535bd51871d70ec5dea2d98b4a2f45ac8fb2323c957d27a338aee60"), looks := true }, kinds := [], alts := [], laidByText := true, laidKinds := [.data, .data, .data, .data, .sentinel, .sentinel, .pinned], laidTests := true, laidLooks := .later }
def JsonTextsCardSaid : Prop := Claim7.holds Tryd.pinned (.plain (OpenSpec.ofChange jsonTextsSpec)) jsonTextsCard

/-- THE TIED CARD OF 'escritoirelaw04.JsonParses'. -/
def jsonParsesCard : Claim7 := { stood := { row := jsonParsesRow, standIns := [], harness := (true, "88b6e6f56535bd51871d70ec5dea2d98b4a2f45ac8fb2323c957d27a338aee60"), looks := true }, kinds := [], alts := [], laidByText := true, laidKinds := [.data, .data, .data, .data, .sentinel, .sentinel, .pinned], laidTests := true, laidLooks := .later }
def JsonParsesCardSaid : Prop := Claim7.holds Tryd.pinned (.plain (OpenSpec.ofChange jsonParsesSpec)) jsonParsesCard

/-- THE TIED CARD OF 'escritoirelaw04.JsonSame'. -/
def jsonSameCard : Claim7 := { stood := { row := jsonSameRow, standIns := [], harness := (true, "88b6e6f56535bd51871d70ec5dea2d98b4a2f45ac8fb2323c957d27a338aee60"), looks := true }, kinds := [], alts := [], laidByText := true, laidKinds := [.data, .data, .data, .data, .sentinel, .sentinel, .pinned], laidTests := true, laidLooks := .later }
def JsonSameCardSaid : Prop := Claim7.holds Tryd.pinned (.plain (OpenSpec.ofChange jsonSameSpec)) jsonSameCard

/-- THE TIED CARD OF 'escritoirelaw04.JsonBack'. -/
def jsonBackCard : Claim7 := { stood := { row := jsonBackRow, standIns := [], harness := (true, "88b6e6f56535bd51871d70ec5dea2d98b4a2f45ac8fb2323c957d27a338aee60"), looks := true }, kinds := [], alts := [], laidByText := true, laidKinds := [.data, .data, .data, .data, .sentinel, .sentinel, .pinned], laidTests := true, laidLooks := .later }
def JsonBackCardSaid : Prop := Claim7.holds Tryd.pinned (.plain (OpenSpec.ofChange jsonBackSpec)) jsonBackCard

/-- THE TIED CARD OF 'escritoirelaw04.JsonBlanks'. -/
def jsonBlanksCard : Claim7 := { stood := { row := jsonBlanksRow, standIns := [], harness := (true, "88b6e6f56535bd51871d70ec5dea2d98b4a2f45ac8fb2323c957d27a338aee60"), looks := true }, kinds := [], alts := [], laidByText := true, laidKinds := [.data, .data, .data, .data, .sentinel, .sentinel, .pinned], laidTests := true, laidLooks := .later }
def JsonBlanksCardSaid : Prop := Claim7.holds Tryd.pinned (.plain (OpenSpec.ofChange jsonBlanksSpec)) jsonBlanksCard

/-- THE TIED CARD OF 'escritoirelaw04.JsonKnown'. -/
def jsonKnownCard : Claim7 := { stood := { row := jsonKnownRow, standIns := [], harness := (true, "88b6e6f56535bd51871d70ec5dea2d98b4a2f45ac8fb2323c957d27a338aee60"), looks := true }, kinds := [], alts := [], laidByText := true, laidKinds := [.data, .data, .data, .data, .sentinel, .sentinel, .pinned], laidTests := true, laidLooks := .later }
def JsonKnownCardSaid : Prop := Claim7.holds Tryd.pinned (.plain (OpenSpec.ofChange jsonKnownSpec)) jsonKnownCard

/-- THE SECOND FORM's CARD OF 'escritoirelaw03.BaseTakes'. -/
def baseTakesUptoCard : Claim7 := { stood := { row := baseTakesUptoRow, standIns := [], harness := (true, "88b6e6f56535bd51871d70ec5dea2d98b4a2f45ac8fb2323c957d27a338aee60"), looks := true }, kinds := [], alts := [], laidByText := true, laidKinds := [.data, .pinned], laidTests := true, laidLooks := .later }
def BaseTakesUptoCardSaid : Prop := Claim7.holds Tryd.pinned (.plain (OpenSpec.upto baseTakesSpec)) baseTakesUptoCard

/-- THE SECOND FORM's CARD OF 'escritoirelaw03.BaseBack'. -/
def baseBackUptoCard : Claim7 := { stood := { row := baseBackUptoRow, standIns := [], harness := (true, "88b6e6f56535bd51871d70ec5dea2d98b4a2f45ac8fb2323c957d27a338aee60"), looks := true }, kinds := [], alts := [], laidByText := true, laidKinds := [.data, .pinned], laidTests := true, laidLooks := .later }
def BaseBackUptoCardSaid : Prop := Claim7.holds Tryd.pinned (.plain (OpenSpec.upto baseBackSpec)) baseBackUptoCard

/-- THE SECOND FORM's CARD OF 'escritoirelaw03.BaseJoins'. -/
def baseJoinsUptoCard : Claim7 := { stood := { row := baseJoinsUptoRow, standIns := [], harness := (true, "88b6e6f56535bd51871d70ec5dea2d98b4a2f45ac8fb2323c957d27a338aee60"), looks := true }, kinds := [], alts := [], laidByText := true, laidKinds := [.data, .pinned], laidTests := true, laidLooks := .later }
def BaseJoinsUptoCardSaid : Prop := Claim7.holds Tryd.pinned (.plain (OpenSpec.upto baseJoinsSpec)) baseJoinsUptoCard

/-- THE SECOND FORM's CARD OF 'escritoirelaw03.BaseKnown'. -/
def baseKnownUptoCard : Claim7 := { stood := { row := baseKnownUptoRow, standIns := [], harness := (true, "88b6e6f56535bd51871d70ec5dea2d98b4a2f45ac8fb2323c957d27a338aee60"), looks := true }, kinds := [], alts := [], laidByText := true, laidKinds := [.data, .pinned], laidTests := true, laidLooks := .later }
def BaseKnownUptoCardSaid : Prop := Claim7.holds Tryd.pinned (.plain (OpenSpec.upto baseKnownSpec)) baseKnownUptoCard

/-- THE SECOND FORM's CARD OF 'escritoirelaw04.JsonTexts'. -/
def jsonTextsUptoCard : Claim7 := { stood := { row := jsonTextsUptoRow, standIns := [], harness := (true, "88b6e6f56535bd51871d70ec5dea2d98b4a2f45ac8fb2323c957d27a338aee60"), looks := true }, kinds := [], alts := [], laidByText := true, laidKinds := [.data, .data, .data, .data, .sentinel, .sentinel, .pinned], laidTests := true, laidLooks := .later }
def JsonTextsUptoCardSaid : Prop := Claim7.holds Tryd.pinned (.plain (OpenSpec.upto jsonTextsSpec)) jsonTextsUptoCard

/-- THE SECOND FORM's CARD OF 'escritoirelaw04.JsonParses'. -/
def jsonParsesUptoCard : Claim7 := { stood := { row := jsonParsesUptoRow, standIns := [], harness := (true, "88b6e6f56535bd51871d70ec5dea2d98b4a2f45ac8fb2323c957d27a338aee60"), looks := true }, kinds := [], alts := [], laidByText := true, laidKinds := [.data, .data, .data, .data, .sentinel, .sentinel, .pinned], laidTests := true, laidLooks := .later }
def JsonParsesUptoCardSaid : Prop := Claim7.holds Tryd.pinned (.plain (OpenSpec.upto jsonParsesSpec)) jsonParsesUptoCard

/-- THE SECOND FORM's CARD OF 'escritoirelaw04.JsonSame'. -/
def jsonSameUptoCard : Claim7 := { stood := { row := jsonSameUptoRow, standIns := [], harness := (true, "88b6e6f56535bd51871d70ec5dea2d98b4a2f45ac8fb2323c957d27a338aee60"), looks := true }, kinds := [], alts := [], laidByText := true, laidKinds := [.data, .data, .data, .data, .sentinel, .sentinel, .pinned], laidTests := true, laidLooks := .later }
def JsonSameUptoCardSaid : Prop := Claim7.holds Tryd.pinned (.plain (OpenSpec.upto jsonSameSpec)) jsonSameUptoCard

/-- THE SECOND FORM's CARD OF 'escritoirelaw04.JsonBack'. -/
def jsonBackUptoCard : Claim7 := { stood := { row := jsonBackUptoRow, standIns := [], harness := (true, "88b6e6f56535bd51871d70ec5dea2d98b4a2f45ac8fb2323c957d27a338aee60"), looks := true }, kinds := [], alts := [], laidByText := true, laidKinds := [.data, .data, .data, .data, .sentinel, .sentinel, .pinned], laidTests := true, laidLooks := .later }
def JsonBackUptoCardSaid : Prop := Claim7.holds Tryd.pinned (.plain (OpenSpec.upto jsonBackSpec)) jsonBackUptoCard

/-- THE SECOND FORM's CARD OF 'escritoirelaw04.JsonBlanks'. -/
def jsonBlanksUptoCard : Claim7 := { stood := { row := jsonBlanksUptoRow, standIns := [], harness := (true, "88b6e6f56535bd51871d70ec5dea2d98b4a2f45ac8fb2323c957d27a338aee60"), looks := true }, kinds := [], alts := [], laidByText := true, laidKinds := [.data, .data, .data, .data, .sentinel, .sentinel, .pinned], laidTests := true, laidLooks := .later }
def JsonBlanksUptoCardSaid : Prop := Claim7.holds Tryd.pinned (.plain (OpenSpec.upto jsonBlanksSpec)) jsonBlanksUptoCard

/-- THE SECOND FORM's CARD OF 'escritoirelaw04.JsonKnown'. -/
def jsonKnownUptoCard : Claim7 := { stood := { row := jsonKnownUptoRow, standIns := [], harness := (true, "88b6e6f56535bd51871d70ec5dea2d98b4a2f45ac8fb2323c957d27a338aee60"), looks := true }, kinds := [], alts := [], laidByText := true, laidKinds := [.data, .data, .data, .data, .sentinel, .sentinel, .pinned], laidTests := true, laidLooks := .later }
def JsonKnownUptoCardSaid : Prop := Claim7.holds Tryd.pinned (.plain (OpenSpec.upto jsonKnownSpec)) jsonKnownUptoCard
end Rows
end Go.Proofs.YtdnfbmminagflaaDoor
