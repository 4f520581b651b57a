/-
  DERIVED. GIVEN WITH THE SEED: THE CARDS: each row of YtaommipcdcncnaaDoorRows.lean that lists a variable, with what it lists TIED to the program's text (the seventh form; the later family's looks); each row that meets fmt, with fmt's text TOLD by the authors' own Lean function (tested against real Go, not proved from fmt's source: count such statements apart). THE CARD IS WHAT COUNTS. Prove the row's statement (the work); the ties are given (YtaommipcdcncnaaDoorTie.lean); close each card by the builder's one call (the guide's Derived/Test/ToyasCard.lean, 'card_holds'). Laid BY PROGRAM, IN A SANDBOX (cutbox-door.mjs). By AI agents, Wed Nov 11 2026. No macro, syntax, notation, axiom, sorry.
-/
import Derived.Test.YtaommipcdcncnaaDoorRows
import GoSem.ClaimSeven
namespace Go.Proofs.YtaommipcdcncnaaDoor
namespace Rows

/-- THE TIED CARD OF 'quicksetlaw.DeskTells'. -/
def deskTellsCard : Claim7 := { stood := { row := deskTellsRow, standIns := [], harness := (true, "89382fbd9c8f4aab52e2c19c9b886f2302da68feeb591b08e3a9a45fd25a8e67"), looks := true }, kinds := [], alts := [], laidByText := true, laidKinds := [.data, .data, .data], laidTests := true, laidLooks := .later }
def DeskTellsCardSaid : Prop := Claim7.holds Tryd.pinned (.plain (OpenSpec.ofChange deskTellsSpec)) deskTellsCard

/-- THE TIED CARD OF 'quicksetlaw.DeskShows'. -/
def deskShowsCard : Claim7 := { stood := { row := deskShowsRow, standIns := [], harness := (true, "89382fbd9c8f4aab52e2c19c9b886f2302da68feeb591b08e3a9a45fd25a8e67"), looks := true }, kinds := [], alts := [], laidByText := true, laidKinds := [.data, .data, .data, .widerDeep], laidTests := true, laidLooks := .later }
def DeskShowsCardSaid : Prop := Claim7.holds Tryd.pinned (.plain (OpenSpec.ofChange deskShowsSpec)) deskShowsCard

/-- THE TIED CARD OF 'quicksetlaw.DeskReads'. -/
def deskReadsCard : Claim7 := { stood := { row := deskReadsRow, standIns := [], harness := (true, "89382fbd9c8f4aab52e2c19c9b886f2302da68feeb591b08e3a9a45fd25a8e67"), looks := true }, kinds := [], alts := [], laidByText := true, laidKinds := [.data, .data, .data, .data, .sentinel, .sentinel, .widerDeep, .pinned], laidTests := true, laidLooks := .later }
def DeskReadsCardSaid : Prop := Claim7.holds Tryd.pinned (.plain (OpenSpec.ofChange deskReadsSpec)) deskReadsCard

/-- THE TIED CARD OF 'quicksetlaw.DeskHears'. -/
def deskHearsCard : Claim7 := { stood := { row := deskHearsRow, standIns := [], harness := (true, "89382fbd9c8f4aab52e2c19c9b886f2302da68feeb591b08e3a9a45fd25a8e67"), looks := true }, kinds := [], alts := [], laidByText := true, laidKinds := [.data, .data, .data, .data, .sentinel, .sentinel, .pinned], laidTests := true, laidLooks := .later }
def DeskHearsCardSaid : Prop := Claim7.holds Tryd.pinned (.plain (OpenSpec.ofChange deskHearsSpec)) deskHearsCard

/-- THE SECOND FORM's CARD OF 'quicksetlaw.DeskTells'. -/
def deskTellsUptoCard : Claim7 := { stood := { row := deskTellsUptoRow, standIns := [], harness := (true, "89382fbd9c8f4aab52e2c19c9b886f2302da68feeb591b08e3a9a45fd25a8e67"), looks := true }, kinds := [], alts := [], laidByText := true, laidKinds := [.data, .data, .data], laidTests := true, laidLooks := .later }
def DeskTellsUptoCardSaid : Prop := Claim7.holds Tryd.pinned (.plain (OpenSpec.upto deskTellsSpec)) deskTellsUptoCard

/-- THE SECOND FORM's CARD OF 'quicksetlaw.DeskShows'. -/
def deskShowsUptoCard : Claim7 := { stood := { row := deskShowsUptoRow, standIns := [], harness := (true, "89382fbd9c8f4aab52e2c19c9b886f2302da68feeb591b08e3a9a45fd25a8e67"), looks := true }, kinds := [], alts := [], laidByText := true, laidKinds := [.data, .data, .data, .widerDeep], laidTests := true, laidLooks := .later }
def DeskShowsUptoCardSaid : Prop := Claim7.holds Tryd.pinned (.plain (OpenSpec.upto deskShowsSpec)) deskShowsUptoCard

/-- THE SECOND FORM's CARD OF 'quicksetlaw.DeskReads'. -/
def deskReadsUptoCard : Claim7 := { stood := { row := deskReadsUptoRow, standIns := [], harness := (true, "89382fbd9c8f4aab52e2c19c9b886f2302da68feeb591b08e3a9a45fd25a8e67"), looks := true }, kinds := [], alts := [], laidByText := true, laidKinds := [.data, .data, .data, .data, .sentinel, .sentinel, .widerDeep, .pinned], laidTests := true, laidLooks := .later }
def DeskReadsUptoCardSaid : Prop := Claim7.holds Tryd.pinned (.plain (OpenSpec.upto deskReadsSpec)) deskReadsUptoCard

/-- THE SECOND FORM's CARD OF 'quicksetlaw.DeskHears'. -/
def deskHearsUptoCard : Claim7 := { stood := { row := deskHearsUptoRow, standIns := [], harness := (true, "89382fbd9c8f4aab52e2c19c9b886f2302da68feeb591b08e3a9a45fd25a8e67"), looks := true }, kinds := [], alts := [], laidByText := true, laidKinds := [.data, .data, .data, .data, .sentinel, .sentinel, .pinned], laidTests := true, laidLooks := .later }
def DeskHearsUptoCardSaid : Prop := Claim7.holds Tryd.pinned (.plain (OpenSpec.upto deskHearsSpec)) deskHearsUptoCard
end Rows
end Go.Proofs.YtaommipcdcncnaaDoor
