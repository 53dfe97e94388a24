/-
  DERIVED. GIVEN WITH THE SEED: THE CARDS: each row of YtkmgcggoemlaaaaGreatDoorRows.lean that lists a variable, with what it lists TIED to the program's text (the seventh form; the later family's looks); each row that meets fmt, with fmt's text TOLD by the authors' own Lean function (tested against real Go, not proved from fmt's source: count such statements apart). THE CARD IS WHAT COUNTS. Prove the row's statement (the work); the ties are given (YtkmgcggoemlaaaaGreatDoorTie.lean); close each card by the builder's one call (the guide's Derived/Test/ToyasCard.lean, 'card_holds'). Laid BY PROGRAM, IN A SANDBOX (cutbox-door.mjs). By AI agents, Wed Nov 11 2026. No macro, syntax, notation, axiom, sorry.
-/
import Derived.Test.YtkmgcggoemlaaaaGreatDoorRows
import GoSem.ClaimSeven
namespace Go.Proofs.YtkmgcggoemlaaaaGreatDoor
namespace Rows

/-- THE TIED CARD OF 'firmwarelaw.Round'. -/
def roundCard : Claim7 := { stood := { row := roundRow, standIns := [], harness := (true, "a92912a9f4f08fbf195758ad90ff77dd450bbb634acd63370d8d1a8325452fc3"), looks := true }, kinds := [], alts := [], goes := true, laidByText := true, laidKinds := [.handle], laidTests := true, laidLooks := .later }
def RoundCardSaid : Prop := Claim7.holds Tryz.pinned (.plain (OpenSpec.ofChange roundSpec)) roundCard

/-- THE TIED CARD OF 'firmwarelaw.Power'. -/
def powerCard : Claim7 := { stood := { row := powerRow, standIns := [], harness := (true, "a92912a9f4f08fbf195758ad90ff77dd450bbb634acd63370d8d1a8325452fc3"), looks := true }, kinds := [], alts := [], goes := true, laidByText := true, laidKinds := [.handle], laidTests := true, laidLooks := .later }
def PowerCardSaid : Prop := Claim7.holds Tryz.pinned (.plain (OpenSpec.ofChange powerSpec)) powerCard

/-- THE TIED CARD OF 'firmwarelaw.Piped'. -/
def pipedCard : Claim7 := { stood := { row := pipedRow, standIns := [], harness := (true, "a92912a9f4f08fbf195758ad90ff77dd450bbb634acd63370d8d1a8325452fc3"), looks := true }, kinds := [], alts := [], goes := true, laidByText := true, laidKinds := [.handle], laidTests := true, laidLooks := .later }
def PipedCardSaid : Prop := Claim7.holds Tryz.pinned (.plain (OpenSpec.ofChange pipedSpec)) pipedCard

/-- THE TIED CARD OF 'firmwarelaw.Small'. -/
def smallCard : Claim7 := { stood := { row := smallRow, standIns := [], harness := (true, "a92912a9f4f08fbf195758ad90ff77dd450bbb634acd63370d8d1a8325452fc3"), looks := true }, kinds := [], alts := [], goes := true, laidByText := true, laidKinds := [.handle], laidTests := true, laidLooks := .later }
def SmallCardSaid : Prop := Claim7.holds Tryz.pinned (.plain (OpenSpec.ofChange smallSpec)) smallCard

/-- THE TIED CARD OF 'firmwarelaw.Moved'. -/
def movedCard : Claim7 := { stood := { row := movedRow, standIns := [], harness := (true, "a92912a9f4f08fbf195758ad90ff77dd450bbb634acd63370d8d1a8325452fc3"), looks := true }, kinds := [], alts := [], goes := true, laidByText := true, laidKinds := [.handle], laidTests := true, laidLooks := .later }
def MovedCardSaid : Prop := Claim7.holds Tryz.pinned (.plain (OpenSpec.ofChange movedSpec)) movedCard

/-- THE TIED CARD OF 'firmwarelaw.Any'. -/
def anyCard : Claim7 := { stood := { row := anyRow, standIns := [], harness := (true, "a92912a9f4f08fbf195758ad90ff77dd450bbb634acd63370d8d1a8325452fc3"), looks := true }, kinds := [], alts := [], goes := true, laidByText := true, laidKinds := [.handle], laidTests := true, laidLooks := .later }
def AnyCardSaid : Prop := Claim7.holds Tryz.pinned (.plain (OpenSpec.ofChange anySpec)) anyCard

/-- THE TIED CARD OF 'firmwarelaw.Flips'. -/
def flipsCard : Claim7 := { stood := { row := flipsRow, standIns := [], harness := (true, "a92912a9f4f08fbf195758ad90ff77dd450bbb634acd63370d8d1a8325452fc3"), looks := true }, kinds := [], alts := [], goes := true, laidByText := true, laidKinds := [.handle], laidTests := true, laidLooks := .later }
def FlipsCardSaid : Prop := Claim7.holds Tryz.pinned (.plain (OpenSpec.ofChange flipsSpec)) flipsCard

/-- THE TIED CARD OF 'firmwarelaw.Others'. -/
def othersCard : Claim7 := { stood := { row := othersRow, standIns := [], harness := (true, "a92912a9f4f08fbf195758ad90ff77dd450bbb634acd63370d8d1a8325452fc3"), looks := true }, kinds := [], alts := [], goes := true, laidByText := true, laidKinds := [.handle], laidTests := true, laidLooks := .later }
def OthersCardSaid : Prop := Claim7.holds Tryz.pinned (.plain (OpenSpec.ofChange othersSpec)) othersCard

/-- THE TIED CARD OF 'firmwarelaw.Ends'. -/
def endsCard : Claim7 := { stood := { row := endsRow, standIns := [], harness := (true, "a92912a9f4f08fbf195758ad90ff77dd450bbb634acd63370d8d1a8325452fc3"), looks := true }, kinds := [], alts := [], goes := true, laidByText := true, laidKinds := [.handle], laidTests := true, laidLooks := .later }
def EndsCardSaid : Prop := Claim7.holds Tryz.pinned (.plain (OpenSpec.ofChange endsSpec)) endsCard

/-- THE TIED CARD OF 'firmwarelaw.Turns'. -/
def turnsCard : Claim7 := { stood := { row := turnsRow, standIns := [], harness := (true, "a92912a9f4f08fbf195758ad90ff77dd450bbb634acd63370d8d1a8325452fc3"), looks := true }, kinds := [], alts := [], goes := true, laidByText := true, laidKinds := [.handle], laidTests := true, laidLooks := .later }
def TurnsCardSaid : Prop := Claim7.holds Tryz.pinned (.plain (OpenSpec.ofChange turnsSpec)) turnsCard

/-- THE SECOND FORM's CARD OF 'firmwarelaw.Round'. -/
def roundUptoCard : Claim7 := { stood := { row := roundUptoRow, standIns := [], harness := (true, "a92912a9f4f08fbf195758ad90ff77dd450bbb634acd63370d8d1a8325452fc3"), looks := true }, kinds := [], alts := [], goes := true, laidByText := true, laidKinds := [.handle], laidTests := true, laidLooks := .later }
def RoundUptoCardSaid : Prop := Claim7.holds Tryz.pinned (.plain (OpenSpec.upto roundSpec)) roundUptoCard

/-- THE SECOND FORM's CARD OF 'firmwarelaw.Power'. -/
def powerUptoCard : Claim7 := { stood := { row := powerUptoRow, standIns := [], harness := (true, "a92912a9f4f08fbf195758ad90ff77dd450bbb634acd63370d8d1a8325452fc3"), looks := true }, kinds := [], alts := [], goes := true, laidByText := true, laidKinds := [.handle], laidTests := true, laidLooks := .later }
def PowerUptoCardSaid : Prop := Claim7.holds Tryz.pinned (.plain (OpenSpec.upto powerSpec)) powerUptoCard

/-- THE SECOND FORM's CARD OF 'firmwarelaw.Piped'. -/
def pipedUptoCard : Claim7 := { stood := { row := pipedUptoRow, standIns := [], harness := (true, "a92912a9f4f08fbf195758ad90ff77dd450bbb634acd63370d8d1a8325452fc3"), looks := true }, kinds := [], alts := [], goes := true, laidByText := true, laidKinds := [.handle], laidTests := true, laidLooks := .later }
def PipedUptoCardSaid : Prop := Claim7.holds Tryz.pinned (.plain (OpenSpec.upto pipedSpec)) pipedUptoCard

/-- THE SECOND FORM's CARD OF 'firmwarelaw.Small'. -/
def smallUptoCard : Claim7 := { stood := { row := smallUptoRow, standIns := [], harness := (true, "a92912a9f4f08fbf195758ad90ff77dd450bbb634acd63370d8d1a8325452fc3"), looks := true }, kinds := [], alts := [], goes := true, laidByText := true, laidKinds := [.handle], laidTests := true, laidLooks := .later }
def SmallUptoCardSaid : Prop := Claim7.holds Tryz.pinned (.plain (OpenSpec.upto smallSpec)) smallUptoCard

/-- THE SECOND FORM's CARD OF 'firmwarelaw.Moved'. -/
def movedUptoCard : Claim7 := { stood := { row := movedUptoRow, standIns := [], harness := (true, "a92912a9f4f08fbf195758ad90ff77dd450bbb634acd63370d8d1a8325452fc3"), looks := true }, kinds := [], alts := [], goes := true, laidByText := true, laidKinds := [.handle], laidTests := true, laidLooks := .later }
def MovedUptoCardSaid : Prop := Claim7.holds Tryz.pinned (.plain (OpenSpec.upto movedSpec)) movedUptoCard

/-- THE SECOND FORM's CARD OF 'firmwarelaw.Any'. -/
def anyUptoCard : Claim7 := { stood := { row := anyUptoRow, standIns := [], harness := (true, "a92912a9f4f08fbf195758ad90ff77dd450bbb634acd63370d8d1a8325452fc3"), looks := true }, kinds := [], alts := [], goes := true, laidByText := true, laidKinds := [.handle], laidTests := true, laidLooks := .later }
def AnyUptoCardSaid : Prop := Claim7.holds Tryz.pinned (.plain (OpenSpec.upto anySpec)) anyUptoCard

/-- THE SECOND FORM's CARD OF 'firmwarelaw.Flips'. -/
def flipsUptoCard : Claim7 := { stood := { row := flipsUptoRow, standIns := [], harness := (true, "a92912a9f4f08fbf195758ad90ff77dd450bbb634acd63370d8d1a8325452fc3"), looks := true }, kinds := [], alts := [], goes := true, laidByText := true, laidKinds := [.handle], laidTests := true, laidLooks := .later }
def FlipsUptoCardSaid : Prop := Claim7.holds Tryz.pinned (.plain (OpenSpec.upto flipsSpec)) flipsUptoCard

/-- THE SECOND FORM's CARD OF 'firmwarelaw.Others'. -/
def othersUptoCard : Claim7 := { stood := { row := othersUptoRow, standIns := [], harness := (true, "a92912a9f4f08fbf195758ad90ff77dd450bbb634acd63370d8d1a8325452fc3"), looks := true }, kinds := [], alts := [], goes := true, laidByText := true, laidKinds := [.handle], laidTests := true, laidLooks := .later }
def OthersUptoCardSaid : Prop := Claim7.holds Tryz.pinned (.plain (OpenSpec.upto othersSpec)) othersUptoCard

/-- THE SECOND FORM's CARD OF 'firmwarelaw.Ends'. -/
def endsUptoCard : Claim7 := { stood := { row := endsUptoRow, standIns := [], harness := (true, "a92912a9f4f08fbf195758ad90ff77dd450bbb634acd63370d8d1a8325452fc3"), looks := true }, kinds := [], alts := [], goes := true, laidByText := true, laidKinds := [.handle], laidTests := true, laidLooks := .later }
def EndsUptoCardSaid : Prop := Claim7.holds Tryz.pinned (.plain (OpenSpec.upto endsSpec)) endsUptoCard

/-- THE SECOND FORM's CARD OF 'firmwarelaw.Turns'. -/
def turnsUptoCard : Claim7 := { stood := { row := turnsUptoRow, standIns := [], harness := (true, "a92912a9f4f08fbf195758ad90ff77dd450bbb634acd63370d8d1a8325452fc3"), looks := true }, kinds := [], alts := [], goes := true, laidByText := true, laidKinds := [.handle], laidTests := true, laidLooks := .later }
def TurnsUptoCardSaid : Prop := Claim7.holds Tryz.pinned (.plain (OpenSpec.upto turnsSpec)) turnsUptoCard
end Rows
end Go.Proofs.YtkmgcggoemlaaaaGreatDoor
