/-
  DERIVED. GIVEN WITH THE SEED: THE CARDS: each row of YtcobmomjdbmacaaDoorRows.lean that lists a variable, with what it lists TIED to the program's text (the seventh form; the later family's looks); each row that meets fmt, with fmt's text TOLD by the authors' own Lean function (tested against real Go, not proved from fmt's source: count such statements apart). THE CARD IS WHAT COUNTS. Prove the row's statement (the work); the ties are given (YtcobmomjdbmacaaDoorTie.lean); close each card by the builder's one call (the guide's Derived/Test/ToyasCard.lean, 'card_holds'). Laid BY PROGRAM, IN A SANDBOX (cutbox-door.mjs). By AI agents, Wed Nov 11 2026. No macro, syntax, notation, axiom, sorry.
-/
import Derived.Test.YtcobmomjdbmacaaDoorRows
import GoSem.ClaimSeven
namespace Go.Proofs.YtcobmomjdbmacaaDoor
namespace Rows

/-- THE TIED CARD OF 'escritoirelaw25.ReplyTakes'. -/
def replyTakesCard : Claim7 := { stood := { row := replyTakesRow, standIns := [], harness := (true, "520e1ce6715e1527953a461c711f7cdc8a39dab1db8bb46ccf0ede5f13469389"), looks := true }, kinds := [], alts := [], laidByText := true, laidKinds := [.data, .data, .data, .sentinel, .sentinel], laidTests := true, laidLooks := .later }
def ReplyTakesCardSaid : Prop := Claim7.holds Tryd.pinned (.plain (OpenSpec.ofChange replyTakesSpec)) replyTakesCard

/-- THE TIED CARD OF 'escritoirelaw25.ReplyKnown'. -/
def replyKnownCard : Claim7 := { stood := { row := replyKnownRow, standIns := [], harness := (true, "520e1ce6715e1527953a461c711f7cdc8a39dab1db8bb46ccf0ede5f13469389"), looks := true }, kinds := [], alts := [], laidByText := true, laidKinds := [.data, .data, .data, .sentinel, .sentinel], laidTests := true, laidLooks := .later }
def ReplyKnownCardSaid : Prop := Claim7.holds Tryd.pinned (.plain (OpenSpec.ofChange replyKnownSpec)) replyKnownCard

/-- THE TIED CARD OF 'escritoirelaw25.ReplyPuts'. -/
def replyPutsCard : Claim7 := { stood := { row := replyPutsRow, standIns := [], harness := (true, "520e1ce6715e1527953a461c711f7cdc8a39dab1db8bb46ccf0ede5f13469389"), looks := true }, kinds := [], alts := [], laidByText := true, laidKinds := [.data, .data, .data, .sentinel, .sentinel], laidTests := true, laidLooks := .later }
def ReplyPutsCardSaid : Prop := Claim7.holds Tryd.pinned (.plain (OpenSpec.ofChange replyPutsSpec)) replyPutsCard

/-- THE TIED CARD OF 'escritoirelaw25.ReplyBack'. -/
def replyBackCard : Claim7 := { stood := { row := replyBackRow, standIns := [], harness := (true, "520e1ce6715e1527953a461c711f7cdc8a39dab1db8bb46ccf0ede5f13469389"), looks := true }, kinds := [], alts := [], laidByText := true, laidKinds := [.data, .data, .data, .sentinel, .sentinel], laidTests := true, laidLooks := .later }
def ReplyBackCardSaid : Prop := Claim7.holds Tryd.pinned (.plain (OpenSpec.ofChange replyBackSpec)) replyBackCard

/-- THE TIED CARD OF 'escritoirelaw25.ReplyStands'. -/
def replyStandsCard : Claim7 := { stood := { row := replyStandsRow, standIns := [], harness := (true, "520e1ce6715e1527953a461c711f7cdc8a39dab1db8bb46ccf0ede5f13469389"), looks := true }, kinds := [], alts := [], laidByText := true, laidKinds := [.data, .data, .data, .sentinel, .sentinel], laidTests := true, laidLooks := .later }
def ReplyStandsCardSaid : Prop := Claim7.holds Tryd.pinned (.plain (OpenSpec.ofChange replyStandsSpec)) replyStandsCard

/-- THE SECOND FORM's CARD OF 'escritoirelaw25.ReplyTakes'. -/
def replyTakesUptoCard : Claim7 := { stood := { row := replyTakesUptoRow, standIns := [], harness := (true, "520e1ce6715e1527953a461c711f7cdc8a39dab1db8bb46ccf0ede5f13469389"), looks := true }, kinds := [], alts := [], laidByText := true, laidKinds := [.data, .data, .data, .sentinel, .sentinel], laidTests := true, laidLooks := .later }
def ReplyTakesUptoCardSaid : Prop := Claim7.holds Tryd.pinned (.plain (OpenSpec.upto replyTakesSpec)) replyTakesUptoCard

/-- THE SECOND FORM's CARD OF 'escritoirelaw25.ReplyKnown'. -/
def replyKnownUptoCard : Claim7 := { stood := { row := replyKnownUptoRow, standIns := [], harness := (true, "520e1ce6715e1527953a461c711f7cdc8a39dab1db8bb46ccf0ede5f13469389"), looks := true }, kinds := [], alts := [], laidByText := true, laidKinds := [.data, .data, .data, .sentinel, .sentinel], laidTests := true, laidLooks := .later }
def ReplyKnownUptoCardSaid : Prop := Claim7.holds Tryd.pinned (.plain (OpenSpec.upto replyKnownSpec)) replyKnownUptoCard

/-- THE SECOND FORM's CARD OF 'escritoirelaw25.ReplyPuts'. -/
def replyPutsUptoCard : Claim7 := { stood := { row := replyPutsUptoRow, standIns := [], harness := (true, "520e1ce6715e1527953a461c711f7cdc8a39dab1db8bb46ccf0ede5f13469389"), looks := true }, kinds := [], alts := [], laidByText := true, laidKinds := [.data, .data, .data, .sentinel, .sentinel], laidTests := true, laidLooks := .later }
def ReplyPutsUptoCardSaid : Prop := Claim7.holds Tryd.pinned (.plain (OpenSpec.upto replyPutsSpec)) replyPutsUptoCard

/-- THE SECOND FORM's CARD OF 'escritoirelaw25.ReplyBack'. -/
def replyBackUptoCard : Claim7 := { stood := { row := replyBackUptoRow, standIns := [], harness := (true, "520e1ce6715e1527953a461c711f7cdc8a39dab1db8bb46ccf0ede5f13469389"), looks := true }, kinds := [], alts := [], laidByText := true, laidKinds := [.data, .data, .data, .sentinel, .sentinel], laidTests := true, laidLooks := .later }
def ReplyBackUptoCardSaid : Prop := Claim7.holds Tryd.pinned (.plain (OpenSpec.upto replyBackSpec)) replyBackUptoCard

/-- THE SECOND FORM's CARD OF 'escritoirelaw25.ReplyStands'. -/
def replyStandsUptoCard : Claim7 := { stood := { row := replyStandsUptoRow, standIns := [], harness := (true, "520e1ce6715e1527953a461c711f7cdc8a39dab1db8bb46ccf0ede5f13469389"), looks := true }, kinds := [], alts := [], laidByText := true, laidKinds := [.data, .data, .data, .sentinel, .sentinel], laidTests := true, laidLooks := .later }
def ReplyStandsUptoCardSaid : Prop := Claim7.holds Tryd.pinned (.plain (OpenSpec.upto replyStandsSpec)) replyStandsUptoCard
end Rows
end Go.Proofs.YtcobmomjdbmacaaDoor
