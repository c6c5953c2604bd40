/-
  DERIVED. GIVEN WITH THE SEED: THE CARDS: each row of YtfmcbnoldcfcbaaDoorRows.lean that lists a variable, with what it lists TIED to the program's text (the seventh form; the later family's looks); each row that meets fmt, with fmt's text TOLD by the authors' own Lean function (tested against real Go, not proved from fmt's source: count such statements apart). THE CARD IS WHAT COUNTS. Prove the row's statement (the work); the ties are given (YtfmcbnoldcfcbaaDoorTie.lean); close each card by the builder's one call (the guide's Derived/Test/ToyasCard.lean, 'card_holds'). Laid BY PROGRAM, IN A SANDBOX (cutbox-door.mjs). By AI agents, Wed Nov 11 2026. No macro, syntax, notation, axiom, sorry.
-/
import Derived.Test.YtfmcbnoldcfcbaaDoorRows
import GoSem.ClaimSeven
namespace Go.Proofs.YtfmcbnoldcfcbaaDoor
namespace Rows

/-- THE TIED CARD OF 'pledgelaw16.MasterBytes'. -/
def masterBytesCard : Claim7 := { stood := { row := masterBytesRow, standIns := [], harness := (true, "d3c9ee53d4c7ea2183652b4b4700ffdd5e98a362c77f81f0d5b06d6fe4aa13e3"), looks := false }, kinds := [], alts := [], laidByText := true, laidKinds := [.data], laidTests := true, laidLooks := .later }
def MasterBytesCardSaid : Prop := Claim7.holds Tryd.pinned (.plain (OpenSpec.ofChange masterBytesSpec)) masterBytesCard

/-- THE TIED CARD OF 'pledgelaw16.MasterPicks'. -/
def masterPicksCard : Claim7 := { stood := { row := masterPicksRow, standIns := [], harness := (true, "d3c9ee53d4c7ea2183652b4b4700ffdd5e98a362c77f81f0d5b06d6fe4aa13e3"), looks := false }, kinds := [], alts := [], laidByText := true, laidKinds := [.data], laidTests := true, laidLooks := .later }
def MasterPicksCardSaid : Prop := Claim7.holds Tryd.pinned (.plain (OpenSpec.ofChange masterPicksSpec)) masterPicksCard

/-- THE TIED CARD OF 'pledgelaw16.MasterBack'. -/
def masterBackCard : Claim7 := { stood := { row := masterBackRow, standIns := [], harness := (true, "d3c9ee53d4c7ea2183652b4b4700ffdd5e98a362c77f81f0d5b06d6fe4aa13e3"), looks := false }, kinds := [], alts := [], laidByText := true, laidKinds := [.data], laidTests := true, laidLooks := .later }
def MasterBackCardSaid : Prop := Claim7.holds Tryd.pinned (.plain (OpenSpec.ofChange masterBackSpec)) masterBackCard

/-- THE TIED CARD OF 'pledgelaw16.MasterTorn'. -/
def masterTornCard : Claim7 := { stood := { row := masterTornRow, standIns := [], harness := (true, "d3c9ee53d4c7ea2183652b4b4700ffdd5e98a362c77f81f0d5b06d6fe4aa13e3"), looks := false }, kinds := [], alts := [], laidByText := true, laidKinds := [.data], laidTests := true, laidLooks := .later }
def MasterTornCardSaid : Prop := Claim7.holds Tryd.pinned (.plain (OpenSpec.ofChange masterTornSpec)) masterTornCard

/-- THE SECOND FORM's CARD OF 'pledgelaw16.MasterBytes'. -/
def masterBytesUptoCard : Claim7 := { stood := { row := masterBytesUptoRow, standIns := [], harness := (true, "d3c9ee53d4c7ea2183652b4b4700ffdd5e98a362c77f81f0d5b06d6fe4aa13e3"), looks := false }, kinds := [], alts := [], laidByText := true, laidKinds := [.data], laidTests := true, laidLooks := .later }
def MasterBytesUptoCardSaid : Prop := Claim7.holds Tryd.pinned (.plain (OpenSpec.upto masterBytesSpec)) masterBytesUptoCard

/-- THE SECOND FORM's CARD OF 'pledgelaw16.MasterPicks'. -/
def masterPicksUptoCard : Claim7 := { stood := { row := masterPicksUptoRow, standIns := [], harness := (true, "d3c9ee53d4c7ea2183652b4b4700ffdd5e98a362c77f81f0d5b06d6fe4aa13e3"), looks := false }, kinds := [], alts := [], laidByText := true, laidKinds := [.data], laidTests := true, laidLooks := .later }
def MasterPicksUptoCardSaid : Prop := Claim7.holds Tryd.pinned (.plain (OpenSpec.upto masterPicksSpec)) masterPicksUptoCard

/-- THE SECOND FORM's CARD OF 'pledgelaw16.MasterBack'. -/
def masterBackUptoCard : Claim7 := { stood := { row := masterBackUptoRow, standIns := [], harness := (true, "d3c9ee53d4c7ea2183652b4b4700ffdd5e98a362c77f81f0d5b06d6fe4aa13e3"), looks := false }, kinds := [], alts := [], laidByText := true, laidKinds := [.data], laidTests := true, laidLooks := .later }
def MasterBackUptoCardSaid : Prop := Claim7.holds Tryd.pinned (.plain (OpenSpec.upto masterBackSpec)) masterBackUptoCard

/-- THE SECOND FORM's CARD OF 'pledgelaw16.MasterTorn'. -/
def masterTornUptoCard : Claim7 := { stood := { row := masterTornUptoRow, standIns := [], harness := (true, "d3c9ee53d4c7ea2183652b4b4700ffdd5e98a362c77f81f0d5b06d6fe4aa13e3"), looks := false }, kinds := [], alts := [], laidByText := true, laidKinds := [.data], laidTests := true, laidLooks := .later }
def MasterTornUptoCardSaid : Prop := Claim7.holds Tryd.pinned (.plain (OpenSpec.upto masterTornSpec)) masterTornUptoCard
end Rows
end Go.Proofs.YtfmcbnoldcfcbaaDoor
